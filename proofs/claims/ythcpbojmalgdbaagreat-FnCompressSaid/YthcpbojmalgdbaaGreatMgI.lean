/- Merged out of this seat's own texts. -/
import Derived.Laws.CopyRow
import Derived.Lib.AppendZerosOnto
import Derived.Lib.Overlaps
import Derived.Test.YthcpbojmalgdbaaGreatMgC
import Derived.Test.YthcpbojmalgdbaaGreatMgA
section
namespace Go.Proofs.YthcpbojmalgdbaaGreat.Q
open Go.RowKit Go.Proofs.YthcpbojmalgdbaaGreatW.PrintWords Go.Proofs.YthcpbojmalgdbaaGreatW.PrintLast Go.Proofs.YthcpbojmalgdbaaGreatW.PrintMore Go.Proofs.YthcpbojmalgdbaaGreat.Core
set_option linter.unusedVariables false
set_option linter.unusedSimpArgs false
def frz {α : Type} (d : Kd α) (W0 : World) (base : Nat) (okx : Nat → Prop) : Kd α where
  sz := d.sz
  E := d.E
  K := fun _ x cs => d.M W0 base okx x cs
  M := fun _ _ _ x cs => d.M W0 base okx x cs
  K_len := fun h => d.K_len (d.K_of_M h)
  K_one := fun h => d.K_one (d.K_of_M h)
  K_below := fun _ h => h
  K_of_M := fun h => h
  M_mono := fun _ h => h
  M_bound := fun h => h
  M_move := fun _ h => h
  M_lower := fun _ h => h
section
variable {α : Type} {d : Kd α} {e base n c : Nat} {ok : Nat → Prop} {W w1 : World} {xs : List α} {A : Option Addr} {v : Value} {f : Nat → Nat} {ps : List (α × Nat)}
theorem S_frz (h : Kd.S d e W base ok (.slice A n c) xs) : ∃ f : Nat → Nat, n = xs.length ∧ n ≤ c ∧ (frz (Kd.tag f d) W base (fun k => ok k ∧ some k ≠ (Value.slice A n c).ownBlock)).C W A xs.zipIdx.length xs.zipIdx := by
  obtain ⟨f, h0, ho⟩ := h
  obtain ⟨A', c', hv, hle, hr⟩ := ho.reads
  injection hv with h1 h2 h3
  subst h1
  subst h3
  rw [List.length_zipIdx] at h2 hle
  exact ⟨f, h2, by omega, hr⟩
theorem frz_M (hb : Below W.heap.size W w1) {okx : Nat → Prop} {p : α} {cs : List Value} (h : d.M W base okx p cs) : d.M w1 base (fun k => okx k ∧ k < W.heap.size) p cs :=
  d.M_mono (fun k hk => ⟨hk.1, hk.2.2.1⟩) (d.M_move (fun k hk => hb.block k hk.2.2.1) (d.M_bound h))
theorem S_ofTags (h : (Kd.tag f d).R e W base ok v ps) (hnd : (ps.map Prod.snd).Nodup) : Kd.S d e W base ok v (ps.map Prod.fst) := by
  obtain ⟨h0, inner, ho, hr⟩ := h
  refine ⟨fun k => (ps.map Prod.snd).idxOf (f k), h0, inner, by rw [List.length_zipIdx, List.length_map]; exact ho, by rw [List.length_zipIdx, List.length_map]; exact hr.1, fun j p hj => ?_⟩
  rw [List.getElem?_zipIdx, Nat.zero_add] at hj
  obtain ⟨x, hx, rfl⟩ := Option.map_eq_some_iff.1 hj
  rw [List.getElem?_map] at hx
  obtain ⟨q, hq, rfl⟩ := Option.map_eq_some_iff.1 hx
  obtain ⟨hjl, hqe⟩ := List.getElem?_eq_some_iff.1 hq
  refine d.M_mono (fun k hk => ⟨hk.1, ?_⟩) (hr.2 j q hq)
  have hl : j < (ps.map Prod.snd).length := by rw [List.length_map]; exact hjl
  have e1 : (ps.map Prod.snd)[j] = f k := by rw [List.getElem_map, hqe]; exact hk.2.symm
  show (ps.map Prod.snd).idxOf (f k) = j
  rw [← e1]
  exact hnd.idxOf_getElem j hl
theorem C_takeA {β : Type} {k : Kd β} {ys : List β} {j : Nat} (h : k.C W A ys.length ys) (hj : j ≤ ys.length) : k.C W A j (ys.take j) := by
  have := Kd.C_take h hj
  rwa [List.length_take, Nat.min_eq_left hj] at this
theorem C_dropA {β : Type} {k : Kd β} {ys : List β} {ad : Addr} {j c : Nat} (h : k.C W (some ad) ys.length ys) (hj : j ≤ ys.length) (hc : ys.length ≤ c) : k.C W (if c = j then some ad else some (ad.add (j * k.sz))) (ys.length - j) (ys.drop j) := by
  have := Kd.C_drop h hj hc
  rw [List.length_drop] at this
  exact this
theorem frz_M2 (hb : Below W.heap.size W w1) {okx : Nat → Prop} {p : α} {cs : List Value} (h : d.M W base okx p cs) : d.M w1 base (fun k => k < W.heap.size) p cs := d.M_mono (fun _ hk => hk.2) (frz_M hb h)
theorem own_at {g n c q : Nat} (h : (Value.slice (some ⟨g, 0, none⟩) n c).ownBlock = some q) : g = q := by simpa [Value.ownBlock] using h
theorem own_next {v v1 : Value} {B m : Nat} (hat : v1.ownBlock = v.ownBlock ∨ ∃ b, v1.ownBlock = some b ∧ m ≤ b) (hv : ∀ j, v.ownBlock = some j → B ≤ j) (hB : B ≤ m) : ∀ j, v1.ownBlock = some j → B ≤ j := fun j hj => by
  rcases hat with h | ⟨q, h, hq⟩
  · exact hv j (h ▸ hj)
  · rw [h] at hj
    have := Option.some.inj hj
    omega
theorem lenZ {l : List α} {k : Nat} (h : k ≤ l.length) : (l.zipIdx.take k).length = k := by rw [List.length_take, List.length_zipIdx]; omega
theorem lenT {β : Type} {l : List β} {k : Nat} (h : k ≤ l.length) : (l.take k).length = k := by rw [List.length_take]; omega
theorem zip_nodup (xs : List α) : (xs.zipIdx.map Prod.snd).Nodup := by
  rw [List.zipIdx_map_snd]
  exact List.nodup_range' ..
theorem zip_del_nodup (xs : List α) (k : Nat) : ((xs.zipIdx.take k ++ xs.zipIdx.drop (k + 1)).map Prod.snd).Nodup := by
  refine (zip_nodup xs).sublist (List.Sublist.map _ ?_)
  exact delAt_sub k xs.zipIdx
theorem zip_del_fst (xs : List α) (k : Nat) : (xs.zipIdx.take k ++ xs.zipIdx.drop (k + 1)).map Prod.fst = delAt k xs := by
  rw [List.map_append, List.map_take, List.map_drop, List.zipIdx_map_fst]
  rfl
end
end Go.Proofs.YthcpbojmalgdbaaGreat.Q
end
