/- Contracts: the loads of the program, a map that the call makes. -/
import Derived.Test.YtgoepnbajpgkhaaCore3
import Derived.Test.YtgoepnbajpgkhaaA6
import Derived.Maps.OwnOps
import Derived.Maps.RangeWalk
import Derived.StillTailTactics
namespace Go.Proofs.Ytgoepnbajpgkhaa.Q
open Go.RowKit Go.Proofs.YtgoepnbajpgkhaaW.PrintWords Go.Proofs.Ytgoepnbajpgkhaa.Core Go.Maps
set_option linter.unusedVariables false
set_option linter.unusedSimpArgs false

theorem lawInt : Keyed Try.prog 3 := int_keyed Try.underlying3
theorem zeroInt (w : World) : (zeroValue 3).run Try.prog w = .ok (.int .i64 0) w := by kernel_rfl

theorem str_same {a b : ByteArray} (h : a = b) : (a.toList == b.toList) = true := by rw [h]; exact beq_self_eq_true _
theorem str_other {a b : ByteArray} (h : ¬a = b) : (a.toList == b.toList) = false := by
  rw [beq_eq_false_iff_ne]
  intro e
  rw [ByteArray.toList_eq, ByteArray.toList_eq] at e
  exact h (by cases a; cases b; simpa using Array.toList_inj.1 e)

/-- Block b is a map of at most N entries that holds f t at t. -/
def MapIs (w : World) (b N : Nat) (f : Int → Nat) : Prop :=
  ∃ D : DataW Unit, w.ownsMap Try.prog 3 (plainElem Try.prog 3) b N D ∧ IsMap D ∧ ∀ t, D.atKey (.int .i64 t) (.lit (.int .i64 0)) = .lit (.int .i64 (f t)) ∧ f t ≤ N
theorem MapIs.made (w : World) : MapIs (w.alloc (.map #[] 0)) w.heap.size 0 (fun _ => 0) :=
  ⟨.map [], World.ownsMap_made _ _ _ _, isMap_empty, fun _ => ⟨rfl, Nat.le_refl _⟩⟩
theorem MapIs.lt {w : World} {b N : Nat} {f : Int → Nat} (h : MapIs w b N f) : b < w.heap.size := by obtain ⟨D, h1, _⟩ := h; exact h1.lt
theorem MapIs.mono {w : World} {b N M : Nat} {f : Int → Nat} (h : MapIs w b N f) (hN : N ≤ M) : MapIs w b M f := by
  obtain ⟨D, h1, h2, h3⟩ := h
  exact ⟨D, h1.mono hN, h2, fun t => ⟨(h3 t).1, Nat.le_trans (h3 t).2 hN⟩⟩
theorem MapIs.alloc {w : World} {b N : Nat} {f : Int → Nat} (h : MapIs w b N f) (o : Obj) : MapIs (w.alloc o) b N f := by
  obtain ⟨D, h1, h2, h3⟩ := h
  exact ⟨D, h1.alloc o, h2, h3⟩
theorem MapIs.ext {w : World} {b N : Nat} {f g : Int → Nat} (h : MapIs w b N f) (e : ∀ t, f t = g t) : MapIs w b N g := by
  obtain rfl : f = g := funext e
  exact h
theorem MapIs.put {w' : World} {b N : Nat} {f : Int → Nat} {D : DataW Unit} {key : Int} (hIs : IsMap D) (hD : ∀ t, D.atKey (.int .i64 t) (.lit (.int .i64 0)) = .lit (.int .i64 (f t)) ∧ f t ≤ N)
    (h : w'.ownsMap Try.prog 3 (plainElem Try.prog 3) b (N + 1) (D.put (.int .i64 key) (.lit (.int .i64 ((f key : Int) + 1))))) : MapIs w' b (N + 1) (fun t => if t = key then f t + 1 else f t) := by
  refine ⟨_, h, hIs.put _ _, fun t => ?_⟩
  by_cases e : t = key
  · subst e
    rw [atKey_put_same hIs (show WideAt.IsKeyLit (.int .i64 t) from trivial)]
    have := (hD t).2
    simp
    omega
  · rw [atKey_put_other (by intro h; injection h; contradiction)]
    simp only [if_neg e]
    exact ⟨(hD t).1, by have := (hD t).2; omega⟩

theorem covers_end {v : Visit} {sec : ByteArray} (z t : Int) {i : Int} (hs : v.f0 = sec) (hi : i = v.f2) : (if z + v.f1 ≤ t ∧ t < z + v.f1 + i then 1 else 0 : Nat) = if coversB z sec t v = true then 1 else 0 := by
  subst hi
  have e : (coversB z sec t v = true) ↔ (z + v.f1 ≤ t ∧ t < z + v.f1 + v.f2) := by
    simp only [coversB, inB, hs, decide_true, Bool.true_and, Bool.and_eq_true, decide_eq_true_eq]; omega
  by_cases h : z + v.f1 ≤ t ∧ t < z + v.f1 + v.f2
  · rw [if_pos h, if_pos (e.2 h)]
  · rw [if_neg h, if_neg (fun x => h (e.1 x))]
theorem covers_next (z t : Int) (a i : Int) (n : Nat) (hi : 0 ≤ i) : (if t = z + a + i then (n + if z + a ≤ t ∧ t < z + a + i then 1 else 0) + 1 else (n + if z + a ≤ t ∧ t < z + a + i then 1 else 0) : Nat) = n + if z + a ≤ t ∧ t < z + a + (i + 1) then 1 else 0 := by
  by_cases h1 : t = z + a + i
  · rw [if_pos h1, if_neg (by omega), if_pos (by omega)]
  · rw [if_neg h1]
    by_cases h2 : z + a ≤ t ∧ t < z + a + i
    · rw [if_pos h2, if_pos (by omega)]
    · rw [if_neg h2, if_neg (by omega)]

end Go.Proofs.Ytgoepnbajpgkhaa.Q
