/- Contracts: fits of the program: it ranges over the loads of each sector. -/
import Derived.Test.YtgoepnbajpgkhaaCore4
import Derived.Test.YtgoepnbajpgkhaaM1
namespace Go.Proofs.Ytgoepnbajpgkhaa.Q
open Go.RowKit Go.Proofs.YtgoepnbajpgkhaaW.PrintWords Go.Proofs.Ytgoepnbajpgkhaa.Core Go.Maps
set_option linter.unusedVariables false
set_option linter.unusedSimpArgs false

theorem hat_eq {D : DataW Unit} {f : Int → Nat} {N : Nat} (hD : ∀ t, D.atKey (.int .i64 t) (.lit (.int .i64 0)) = .lit (.int .i64 (f t)) ∧ f t ≤ N) {x c : Int} (h : ∀ zd, D.atKey (.int .i64 x) zd = .lit (.int .i64 c)) : c = (f x : Int) := by
  have h1 := h (.lit (.int .i64 0))
  rw [(hD x).1] at h1
  injection h1 with h1
  injection h1 with _ h1
  exact h1.symm
theorem no_key {D : DataW Unit} (hI : IsMap D) {f : Int → Nat} {N : Nat} (hD : ∀ t, D.atKey (.int .i64 t) (.lit (.int .i64 0)) = .lit (.int .i64 (f t)) ∧ f t ≤ N) {t : Int} (h : Maps.has D (.int .i64 t) = false) : f t = 0 := by
  have h1 := atKey_of_not_has h (.lit (.int .i64 0) : DataW Unit)
  rw [(hD t).1] at h1
  injection h1 with h1
  injection h1 with _ h1
  omega
/-- What has been seen of a map under way: no load above the cap. -/
def SeenOk (D : DataW Unit) (left : Lit → Bool) (f : Int → Nat) (cap : Int) : Prop := ∀ t : Int, Maps.has D (.int .i64 t) = true → left (.int .i64 t) = false → (f t : Int) ≤ cap
theorem seen_start (D : DataW Unit) (f : Int → Nat) (cap : Int) : SeenOk D (Maps.has D) f cap := fun t h h' => by rw [h] at h'; cases h'
theorem seen_step {D : DataW Unit} {left : Lit → Bool} {f : Int → Nat} {cap x : Int} (h : SeenOk D left f cap) (hx : (f x : Int) ≤ cap) : SeenOk D (fun z => left z && !z.sameKey (.int .i64 x)) f cap := fun t ht hl => by
  cases hlt : left (.int .i64 t) with
  | false => exact h t ht hlt
  | true =>
    simp only [hlt, Bool.true_and, Bool.not_eq_false'] at hl
    have e := WideAt.sameKey_eq hl
    injection e with _ e
    rw [e]; exact hx
theorem seen_end {D : DataW Unit} (hI : IsMap D) {left : Lit → Bool} {f : Int → Nat} {N : Nat} {cap : Int} (hc : 0 ≤ cap) (hD : ∀ t, D.atKey (.int .i64 t) (.lit (.int .i64 0)) = .lit (.int .i64 (f t)) ∧ f t ≤ N) (h : SeenOk D left f cap) (hl : ∀ kl, left kl = false) (t : Int) : (f t : Int) ≤ cap := by
  cases hh : Maps.has D (.int .i64 t) with
  | true => exact h t hh (hl _)
  | false => rw [no_key hI hD hh]; exact hc

end Go.Proofs.Ytgoepnbajpgkhaa.Q
