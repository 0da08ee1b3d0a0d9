/- Contracts: FlowFits, the program's and the reference's. -/
import Derived.Test.YtgoepnbajpgkhaaM2
import Derived.Test.YtgoepnbajpgkhaaM3
namespace Go.Proofs.Ytgoepnbajpgkhaa.Q
open Go.RowKit Go.Proofs.YtgoepnbajpgkhaaW.PrintWords Go.Proofs.Ytgoepnbajpgkhaa.Core
set_option linter.unusedVariables false
set_option linter.unusedSimpArgs false

theorem quiet_in_impl (a b c : Int) (W : World) : Calls Try.prog 32 #[.int .i64 a, .int .i64 b, .int .i64 c] W fun e w' => e = .returned (.bool (inB a b c)) ∧ w' = W := (impl_in_any _ _ _ W).mono fun _ _ h => ⟨h.1, h.2.symm⟩

theorem fullP_skip {x : Cap} {l : List Flight} {s : List Int} {f : Flight} {z : Int} (h : 0 ≤ z → f.f3.any (fullV x l s z) = false) : fullP x l s (f, z) = false := by
  unfold fullP
  by_cases h0 : 0 ≤ z
  · rw [h h0, Bool.and_false]
  · rw [decide_eq_false h0]; rfl
theorem fullP_hit {x : Cap} {l : List Flight} {s : List Int} {f : Flight} {z : Int} (h0 : 0 ≤ z) (h : f.f3.any (fullV x l s z) = true) : fullP x l s (f, z) = true := by
  unfold fullP
  rw [h, decide_eq_true h0]; rfl

end Go.Proofs.Ytgoepnbajpgkhaa.Q
