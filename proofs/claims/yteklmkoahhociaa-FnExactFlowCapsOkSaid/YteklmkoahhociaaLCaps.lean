/- The walk of the law FnExactFlowCapsOk. -/
import Derived.Test.YteklmkoahhociaaTP
import Derived.Test.YteklmkoahhociaaE
namespace Go.Proofs.Yteklmkoahhociaa.Q
open Go.RowKit Go.Proofs.YteklmkoahhociaaW.PrintWords Go.Proofs.YteklmkoahhociaaW.PrintLast Go.Proofs.YteklmkoahhociaaW.PrintMore Go.Proofs.Yteklmkoahhociaa.Core
set_option linter.unusedVariables false
set_option linter.unusedSimpArgs false

set_option maxHeartbeats 2000000 in
theorem law_capsOk (A : Option Addr) (c : Nat) (l : List Cap) (w : World) (hr : Kd.C k67 w A l.length l) (hc : l.length ≤ c) (hs : ∀ x ∈ l, smallC x) :
    Calls Try.prog 4 #[.slice A l.length c] w fun e w' => e = .returned (.bool true) ∧ Below w.heap.size w w' := by
  have HS := Lib.hid hs
  clear hs
  by_cases hn : (1048576 : Int) < wL wC l
  · have HN := Lib.hid (subN_neg hn)
    go_enter Try.func4, Try.ntmps4
    go_wp2_with (fail)
    refine (sz_caps_any A c l _ w hr (by omega) (by omega) HS.out).mono ?_
    rintro e w1 ⟨rfl, hb1⟩
    rw [HN.out]
    go_wp2
    go_ret
    exact ⟨rfl, hb1⟩
  · have HN := Lib.hid (subN_pos hn)
    have HL := Lib.hid hn
    have n1 : decide ((1048576 : Int) - (wL wC l : Int) < 0) = false := decide_eq_false (by omega)
    have n2 : decide ((1048576 : Int) < (wL wC l : Int)) = false := decide_eq_false hn
    clear hn
    go_enter Try.func4, Try.ntmps4
    go_wp2_with (fail)
    refine (sz_caps_any A c l _ w hr (by omega) (by omega) HS.out).mono ?_
    rintro e w1 ⟨rfl, hb1⟩
    rw [HN.out]
    go_wp2_with (fail)
    refine (toCapS_any A c l w1 (Kd.C_below hr hb1) hc (by have := HL.out; omega)).mono ?_
    rintro e w2 ⟨v2, rfl, o2, hb2⟩
    obtain ⟨A2, c2, rfl, l2, r2⟩ := Kd.R_reads o2
    have hB2 := below_next hb1 hb1.size hb2
    clear hb1 hb2 o2
    go_wp2_with (fail)
    refine (spec_capsOk_any _ _ l _ r2 (C_len r2)).mono ?_
    rintro e w3 ⟨rfl, hb3⟩
    have hB3 := below_next hB2 hB2.size hb3
    clear hb3 r2 hB2
    go_wp2_with (fail)
    refine (toCapS_any A c l w3 (Kd.C_below hr hB3) hc (by have := HL.out; omega)).mono ?_
    rintro e w4 ⟨v4, rfl, o4, hb4⟩
    obtain ⟨A4, c4, rfl, l4, r4⟩ := Kd.R_reads o4
    have hB4 := below_next hB3 hB3.size hb4
    clear hb4 o4 hB3
    go_wp2_with (fail)
    refine (impl_capsOk_any _ _ l _ r4 (C_len r4)).mono ?_
    rintro e w5 ⟨rfl, hb5⟩
    have hB5 := below_next hB4 hB4.size hb5
    have r4' := Kd.C_below r4 hb5
    clear hb5 r4 hB4
    go_wp2_with (fail)
    refine (toCapS_any A c l w5 (Kd.C_below hr hB5) hc (by have := HL.out; omega)).mono ?_
    rintro e w6 ⟨v6, rfl, o6, hb6⟩
    obtain ⟨A6, c6, rfl, l6, r6⟩ := Kd.R_reads o6
    have hB6 := below_next hB5 hB5.size hb6
    have r4'' := Kd.C_below r4' hb6
    clear hb6 o6 hB5 r4'
    go_wp2_with (fail)
    refine (eq_caps_any _ _ _ _ l _ r4'' r6).mono ?_
    rintro e w7 ⟨rfl, hb7⟩
    have hB7 := below_next hB6 hB6.size hb7
    clear hb7 hB6 r6 r4''
    go_wp2
    go_ret
    exact ⟨rfl, hB7⟩
end Go.Proofs.Yteklmkoahhociaa.Q
