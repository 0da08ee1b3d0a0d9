/- Merged out of this seat's own texts. -/
import Derived.Laws.CopyRow
import Derived.Lib.AppendZerosOnto
import Derived.Lib.Overlaps
import Derived.Test.YtkfoeplefajkcaaMgC
import Derived.Test.YtkfoeplefajkcaaMgA
section
namespace Go.Proofs.Ytkfoeplefajkcaa.Q
open Go
set_option linter.unusedVariables false
set_option linter.unusedSimpArgs false
theorem run_clear_k (P : Program) (w : World) (t e ty : TypeId) (z : Value) (ht : P.underlying t = some (.slice e)) (hv : ∀ w, (zeroValue e).run P w = .ok z w) (g o n c : Nat) (hn : 0 < n) (cur : Array Value)
    (hg : w.heap[g]? = some (.cells cur e (0, 0))) (hfit : o + (Builtin.zeroCells z.cells n).toList.length ≤ cur.size) (h1 : ∀ v ∈ (Builtin.zeroCells z.cells n).toList, v.oneCell' = true) :
    (Builtin.clear_ #[t] ty #[.slice (some ⟨g, o, none⟩) n c]).run P w = .ok (.tuple #[]) (w.setRow g (cur.toList.take o ++ (Builtin.zeroCells z.cells n).toList ++ cur.toList.drop (o + (Builtin.zeroCells z.cells n).toList.length)).toArray) := by
  have hst := run_storeCells_at P g o e (Builtin.zeroCells z.cells n).toList 0 cur w hg (by simpa using hfit) h1
  obtain ⟨m, rfl⟩ : ∃ m, n = m + 1 := ⟨n - 1, by omega⟩
  simp only [Nat.add_zero] at hst
  simp [Builtin.clear_, run_underlying ht, hv, hst]
end Go.Proofs.Ytkfoeplefajkcaa.Q
end
section
namespace Go.Proofs.Ytkfoeplefajkcaa.Q
open Go.RowKit Go.Proofs.YtkfoeplefajkcaaW.PrintWords Go.Proofs.YtkfoeplefajkcaaW.PrintLast Go.Proofs.YtkfoeplefajkcaaW.PrintMore Go.Proofs.Ytkfoeplefajkcaa.Core
set_option linter.unusedVariables false
set_option linter.unusedSimpArgs false
theorem seg_take {β : Type} (L : List β) (j m s : Nat) (h : (j + 1) * s ≤ m) : ((L.take m).drop (j * s)).take s = (L.drop (j * s)).take s := by
  rw [Nat.succ_mul] at h
  rw [List.drop_take, List.take_take, Nat.min_eq_left (by omega)]
section
variable {α : Type} {d : Kd α} {e base : Nat} {ok okp : Nat → Prop} {W w1 : World} {xs : List α} {g n c : Nat}
theorem S_cur (h : Kd.S d e W base ok (.slice (some ⟨g, 0, none⟩) n c) xs) :
    n = xs.length ∧ base ≤ g ∧ g < W.heap.size ∧ n ≤ c ∧ c ≤ maxLen ∧ ok g ∧ ∃ cur : Array Value, W.heap[g]? = some (.cells cur e (0, 0)) ∧ cur.size = c * d.sz ∧ ∃ f : Nat → Nat, ∀ j x, xs[j]? = some x → d.M W base (fun k => (ok k ∧ k ≠ g) ∧ f k = j) x ((cur.toList.drop (j * d.sz)).take d.sz) := by
  obtain ⟨f, h0, inner, ho, hr⟩ := h
  rw [List.length_zipIdx] at ho
  rcases ho.2 with ⟨hv, _⟩ | ⟨g', cap', cur, hv, hb, hh, hle, hm, hcs, htake⟩
  · cases hv
  injection hv with ha hn hc
  injection ha with ha
  injection ha with hg
  subst hg
  subst hc
  refine ⟨hn, hb, blk_lt hh, hn ▸ hle, hm, h0 g rfl, cur, hh, hcs, f, fun j x hj => ?_⟩
  have hj2 : j < xs.length := (List.getElem?_eq_some_iff.1 hj).1
  have t := hr.2 j (x, j) (Kd.zip_at hj)
  rw [← htake] at t
  change d.M W base _ x (((cur.toList.take (xs.length * d.sz)).drop (j * d.sz)).take d.sz) at t
  rw [seg_take _ _ _ _ (Nat.mul_le_mul_right _ hj2)] at t
  exact d.M_mono (fun k hk => ⟨⟨hk.1.1, fun e => hk.1.2 (by rw [e]; rfl)⟩, hk.2⟩) t
theorem S_make {okj : Nat → Nat → Prop} {cur : Array Value} (hb : base ≤ g) (hh : W.heap[g]? = some (.cells cur e (0, 0))) (hle : xs.length ≤ c) (hm : c ≤ maxLen) (hcs : cur.size = c * d.sz) (okg : ok g)
    (hap : ∀ i j k, okj i k → okj j k → i = j) (hok : ∀ j k, okj j k → ok k ∧ k ≠ g) (hrep : ∀ j x, xs[j]? = some x → d.M W base (okj j) x ((cur.toList.drop (j * d.sz)).take d.sz)) :
    Kd.S d e W base ok (.slice (some ⟨g, 0, none⟩) xs.length c) xs := by
  have hl : (cur.toList.take (xs.length * d.sz)).length = xs.length * d.sz := by
    rw [List.length_take, show cur.toList.length = c * d.sz by rw [Array.length_toList, hcs], Nat.min_eq_left (Nat.mul_le_mul_right _ hle)]
  obtain ⟨f, hr⟩ := Kd.reps_tag (d := d) (w := W) (base := base) (ok := fun k => ok k ∧ some k ≠ (Value.slice (some ⟨g, 0, none⟩) xs.length c).ownBlock) okj hap (fun j k hk => ⟨(hok j k hk).1, fun e => (hok j k hk).2 (by simpa [Value.ownBlock] using e)⟩) hl (fun j x hj => by
    rw [seg_take _ _ _ _ (Nat.mul_le_mul_right _ (List.getElem?_eq_some_iff.1 hj).1)]
    exact hrep j x hj)
  refine ⟨f, fun k hk => ?_, _, ?_, hr⟩
  · have : g = k := by simpa [Value.ownBlock] using hk
    exact this ▸ okg
  · rw [List.length_zipIdx]
    exact ⟨hl, .inr ⟨g, c, cur, rfl, hb, hh, hle, hm, hcs, rfl⟩⟩
theorem S_tail {cur cur' : Array Value} (h : Kd.S d e W base ok (.slice (some ⟨g, 0, none⟩) n c) xs) (hc : W.heap[g]? = some (.cells cur e (0, 0))) (hg : W.grownBy w1 (some g)) (hnew : w1.heap[g]? = some (.cells cur' e (0, 0))) (hs : cur'.size = cur.size)
    (ht : cur'.toList.take (n * d.sz) = cur.toList.take (n * d.sz)) : Kd.S d e w1 base ok (.slice (some ⟨g, 0, none⟩) n c) xs := by
  obtain ⟨hn, hb, hlt, hnc, hm, okg, cur0, hh, hcs, f, hM⟩ := S_cur h
  obtain rfl : cur0 = cur := by rw [hh] at hc; cases hc; rfl
  subst hn
  refine S_make (okj := fun j k => ((ok k ∧ k ≠ g) ∧ f k = j)) hb hnew hnc hm (by rw [hs, hcs]) okg (fun i j k h1 h2 => h1.2.symm.trans h2.2) (fun j k hk => hk.1) (fun j x hj => ?_)
  have hj2 : j < xs.length := (List.getElem?_eq_some_iff.1 hj).1
  rw [← seg_take _ _ _ _ (Nat.mul_le_mul_right _ hj2), ht, seg_take _ _ _ _ (Nat.mul_le_mul_right _ hj2)]
  exact d.M_mono (fun k hk => hk.1) (d.M_move (fun k hk => hg.block k hk.2.2.1 (fun e => hk.1.1.2 (by injection e))) (d.M_bound (hM j x hj)))
theorem grown_setRow (w : World) (g : Nat) (cells : Array Value) : w.grownBy (w.setRow g cells) (some g) :=
  ⟨rfl, rfl, rfl, by simp [World.setRow], fun k hk hne => by
    have : ¬ g = k := fun e => hne (by rw [e])
    simp [World.setRow, Array.getElem?_modify, this]⟩
theorem S_clear {cur : Array Value} (h : Kd.S d e W base ok (.slice (some ⟨g, 0, none⟩) n c) xs) (hc : W.heap[g]? = some (.cells cur e (0, 0))) (zs : List Value) (hf : n * d.sz + zs.length ≤ cur.size) :
    Kd.S d e (W.setRow g (cur.toList.take (n * d.sz) ++ zs ++ cur.toList.drop (n * d.sz + zs.length)).toArray) base ok (.slice (some ⟨g, 0, none⟩) n c) xs ∧ W.grownBy (W.setRow g (cur.toList.take (n * d.sz) ++ zs ++ cur.toList.drop (n * d.sz + zs.length)).toArray) (some g) := by
  have hl : (cur.toList.take (n * d.sz)).length = n * d.sz := by rw [List.length_take, show cur.toList.length = cur.size from Array.length_toList, Nat.min_eq_left (by omega)]
  refine ⟨S_tail h hc (grown_setRow W g _) (setRow_heap W g cur _ e (0, 0) hc) ?_ ?_, grown_setRow W g _⟩
  · simp only [List.size_toArray, List.length_append, List.length_drop, hl]
    have : cur.toList.length = cur.size := Array.length_toList
    omega
  · rw [List.append_assoc, List.take_left' hl]
theorem kept_of_grown {w0 w1 : World} (h : w0.grownBy w1 (some g)) : Kept w0 w1 (fun k => k = g) := ⟨h.size, fun i hi hn => h.block i hi (fun e => hn (by injection e))⟩
end
theorem S_ints {e base : Nat} {ok : Nat → Prop} {w : World} {v : Value} {xs : List Int} (h : Kd.R (Kd.int .i64) e w base ok v xs) : Kd.S (Kd.int .i64) e w base ok v xs := by
  obtain ⟨h0, inner, ho, hr⟩ := h
  refine ⟨fun _ => 0, h0, inner, by rw [List.length_zipIdx]; exact ho, by rw [List.length_zipIdx]; exact hr.1, fun j p hj => ?_⟩
  rw [List.getElem?_zipIdx, Nat.zero_add] at hj
  obtain ⟨x, hx, rfl⟩ := Option.map_eq_some_iff.1 hj
  exact hr.2 j x hx
end Go.Proofs.Ytkfoeplefajkcaa.Q
end
section
namespace Go.Proofs.Ytkfoeplefajkcaa.Q
open Go.RowKit Go.Proofs.YtkfoeplefajkcaaW.PrintWords Go.Proofs.YtkfoeplefajkcaaW.PrintLast Go.Proofs.YtkfoeplefajkcaaW.PrintMore Go.Proofs.Ytkfoeplefajkcaa.Core
set_option linter.unusedVariables false
set_option linter.unusedSimpArgs false
def frz {α : Type} (d : Kd α) (W0 : World) (base : Nat) (okx : Nat → Prop) : Kd α where
  sz := d.sz
  E := d.E
  K := fun _ x cs => d.M W0 base okx x cs
  M := fun _ _ _ x cs => d.M W0 base okx x cs
  K_len := fun h => d.K_len (d.K_of_M h)
  K_one := fun h => d.K_one (d.K_of_M h)
  K_below := fun _ h => h
  K_of_M := fun h => h
  M_mono := fun _ h => h
  M_bound := fun h => h
  M_move := fun _ h => h
  M_lower := fun _ h => h
section
variable {α : Type} {d : Kd α} {e base n c : Nat} {ok : Nat → Prop} {W w1 : World} {xs : List α} {A : Option Addr} {v : Value} {f : Nat → Nat} {ps : List (α × Nat)}
theorem S_frz (h : Kd.S d e W base ok (.slice A n c) xs) : ∃ f : Nat → Nat, n = xs.length ∧ n ≤ c ∧ (frz (Kd.tag f d) W base (fun k => ok k ∧ some k ≠ (Value.slice A n c).ownBlock)).C W A xs.zipIdx.length xs.zipIdx := by
  obtain ⟨f, h0, ho⟩ := h
  obtain ⟨A', c', hv, hle, hr⟩ := ho.reads
  injection hv with h1 h2 h3
  subst h1
  subst h3
  rw [List.length_zipIdx] at h2 hle
  exact ⟨f, h2, by omega, hr⟩
theorem frz_M (hb : Below W.heap.size W w1) {okx : Nat → Prop} {p : α} {cs : List Value} (h : d.M W base okx p cs) : d.M w1 base (fun k => okx k ∧ k < W.heap.size) p cs :=
  d.M_mono (fun k hk => ⟨hk.1, hk.2.2.1⟩) (d.M_move (fun k hk => hb.block k hk.2.2.1) (d.M_bound h))
theorem S_ofTags (h : (Kd.tag f d).R e W base ok v ps) (hnd : (ps.map Prod.snd).Nodup) : Kd.S d e W base ok v (ps.map Prod.fst) := by
  obtain ⟨h0, inner, ho, hr⟩ := h
  refine ⟨fun k => (ps.map Prod.snd).idxOf (f k), h0, inner, by rw [List.length_zipIdx, List.length_map]; exact ho, by rw [List.length_zipIdx, List.length_map]; exact hr.1, fun j p hj => ?_⟩
  rw [List.getElem?_zipIdx, Nat.zero_add] at hj
  obtain ⟨x, hx, rfl⟩ := Option.map_eq_some_iff.1 hj
  rw [List.getElem?_map] at hx
  obtain ⟨q, hq, rfl⟩ := Option.map_eq_some_iff.1 hx
  obtain ⟨hjl, hqe⟩ := List.getElem?_eq_some_iff.1 hq
  refine d.M_mono (fun k hk => ⟨hk.1, ?_⟩) (hr.2 j q hq)
  have hl : j < (ps.map Prod.snd).length := by rw [List.length_map]; exact hjl
  have e1 : (ps.map Prod.snd)[j] = f k := by rw [List.getElem_map, hqe]; exact hk.2.symm
  show (ps.map Prod.snd).idxOf (f k) = j
  rw [← e1]
  exact hnd.idxOf_getElem j hl
theorem C_takeA {β : Type} {k : Kd β} {ys : List β} {j : Nat} (h : k.C W A ys.length ys) (hj : j ≤ ys.length) : k.C W A j (ys.take j) := by
  have := Kd.C_take h hj
  rwa [List.length_take, Nat.min_eq_left hj] at this
theorem C_dropA {β : Type} {k : Kd β} {ys : List β} {ad : Addr} {j c : Nat} (h : k.C W (some ad) ys.length ys) (hj : j ≤ ys.length) (hc : ys.length ≤ c) : k.C W (if c = j then some ad else some (ad.add (j * k.sz))) (ys.length - j) (ys.drop j) := by
  have := Kd.C_drop h hj hc
  rw [List.length_drop] at this
  exact this
theorem frz_M2 (hb : Below W.heap.size W w1) {okx : Nat → Prop} {p : α} {cs : List Value} (h : d.M W base okx p cs) : d.M w1 base (fun k => k < W.heap.size) p cs := d.M_mono (fun _ hk => hk.2) (frz_M hb h)
theorem own_at {g n c q : Nat} (h : (Value.slice (some ⟨g, 0, none⟩) n c).ownBlock = some q) : g = q := by simpa [Value.ownBlock] using h
theorem own_next {v v1 : Value} {B m : Nat} (hat : v1.ownBlock = v.ownBlock ∨ ∃ b, v1.ownBlock = some b ∧ m ≤ b) (hv : ∀ j, v.ownBlock = some j → B ≤ j) (hB : B ≤ m) : ∀ j, v1.ownBlock = some j → B ≤ j := fun j hj => by
  rcases hat with h | ⟨q, h, hq⟩
  · exact hv j (h ▸ hj)
  · rw [h] at hj
    have := Option.some.inj hj
    omega
theorem lenZ {l : List α} {k : Nat} (h : k ≤ l.length) : (l.zipIdx.take k).length = k := by rw [List.length_take, List.length_zipIdx]; omega
theorem lenT {β : Type} {l : List β} {k : Nat} (h : k ≤ l.length) : (l.take k).length = k := by rw [List.length_take]; omega
theorem zip_nodup (xs : List α) : (xs.zipIdx.map Prod.snd).Nodup := by
  rw [List.zipIdx_map_snd]
  exact List.nodup_range' ..
theorem zip_del_nodup (xs : List α) (k : Nat) : ((xs.zipIdx.take k ++ xs.zipIdx.drop (k + 1)).map Prod.snd).Nodup := by
  refine (zip_nodup xs).sublist (List.Sublist.map _ ?_)
  exact delAt_sub k xs.zipIdx
theorem zip_del_fst (xs : List α) (k : Nat) : (xs.zipIdx.take k ++ xs.zipIdx.drop (k + 1)).map Prod.fst = delAt k xs := by
  rw [List.map_append, List.map_take, List.map_drop, List.zipIdx_map_fst]
  rfl
end
end Go.Proofs.Ytkfoeplefajkcaa.Q
end
