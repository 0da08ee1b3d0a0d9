/- Contracts: slices.Clone at []int; the least slot that fits, the program's and the reference's. -/
import Derived.Test.YtgoepnbajpgkhaaCore5
import Derived.Test.YtgoepnbajpgkhaaM4
namespace Go.Proofs.Ytgoepnbajpgkhaa.Q
open Go.RowKit Go.Proofs.YtgoepnbajpgkhaaW.PrintWords Go.Proofs.Ytgoepnbajpgkhaa.Core
set_option linter.unusedVariables false
set_option linter.unusedSimpArgs false

theorem infoInt : (Try.prog.info? 3).map (fun i => (i.zero, i.size, i.bytes)) = some (some (.int .i64 0), 1, 8) := by kernel_rfl
theorem R_made {α : Type} {enc : α → Value} {h1 : ∀ x, (enc x).oneCell' = true} (w : World) (e : Nat) : (Kd.scalar enc h1).R e (w.alloc (.cells #[] e)) w.heap.size (fun _ => True) (.slice (some ⟨w.heap.size, 0, none⟩) 0 0) [] :=
  Kd.R_of_own (World.ownsRow_made w #[] 0 (Nat.le_refl _) (Nat.zero_le _) rfl) (fun _ _ => trivial)

theorem R_setN {e : Nat} {W : World} {base g n cap : Nat} {ok : Nat → Prop} {xs : List Int} (h : Kd.R (Kd.int .i64) e W base ok (.slice (some ⟨g, 0, none⟩) n cap) xs) (k : Nat) (x : Int) :
    Kd.R (Kd.int .i64) e (W.setCell ⟨g, k, none⟩ (.int .i64 x)) base ok (.slice (some ⟨g, 0, none⟩) n cap) (xs.set k x) := by
  have := Kd.R_putn h (k : Int) x
  rwa [Int.toNat_natCast] at this
theorem R_cellN {e : Nat} {W : World} {base g n cap : Nat} {ok : Nat → Prop} {xs : List Int} (h : Kd.R (Kd.int .i64) e W base ok (.slice (some ⟨g, 0, none⟩) n cap) xs) (k : Nat) (hk : k < n) :
    ∃ x, W.cell? ⟨g, k, none⟩ = some (.int .i64 x) ∧ W.frozen? ⟨g, k, none⟩ = false := by
  have := Kd.R_celln 0 h (k : Int) (by omega) (by omega)
  rw [Int.toNat_natCast] at this
  exact ⟨_, this.1, this.2⟩
theorem R_readC {α : Type} {d : Kd α} {e : Nat} {w : World} {base n cap : Nat} {ok : Nat → Prop} {A : Option Addr} {xs : List α} (h : d.R e w base ok (.slice A n cap) xs) : d.C w A n xs := by
  obtain ⟨A', c', e1, _, h1⟩ := Kd.R_reads h
  injection e1 with e1 e2 e3
  subst e1; subst e2
  exact h1

theorem leastB_in {caps : List Cap} {l : List Flight} {s : List Int} {k : Nat} {f : Flight} (h : fitsB caps l s = true) (hf : l[k]? = some f) : leastB caps l s k = leastN caps l s k f := by
  have := some_lt hf
  unfold leastB
  rw [if_pos ⟨h, by omega, by omega⟩, Int.toNat_natCast, leastAt_some hf]

end Go.Proofs.Ytgoepnbajpgkhaa.Q
