/- The walk of the law FnExactFlowFlightsOk. -/
import Derived.Test.YteklmkoahhociaaTP
import Derived.Test.YteklmkoahhociaaE
namespace Go.Proofs.Yteklmkoahhociaa.Q
open Go.RowKit Go.Proofs.YteklmkoahhociaaW.PrintWords Go.Proofs.YteklmkoahhociaaW.PrintLast Go.Proofs.YteklmkoahhociaaW.PrintMore Go.Proofs.Yteklmkoahhociaa.Core
set_option linter.unusedVariables false
set_option linter.unusedSimpArgs false

set_option maxHeartbeats 4000000 in
theorem law_flightsOk (A0 : Option Addr) (c0 : Nat) (l0 : List Flight) (w : World) (hr0 : Kd.C k76 w A0 l0.length l0) (hc0 : l0.length ≤ c0) (hg0 : ∀ y ∈ l0, smallF y) :
    Calls Try.prog 5 #[.slice A0 l0.length c0] w fun e w' => e = .returned (.bool true) ∧ Below w.heap.size w w' := by
  have G0 := Lib.hid hg0
  clear hg0
  have hn0 := C_len hr0
  by_cases hs0 : 1048576 < (wL wF l0 : Int)
  · have HN0 := Lib.hid (subN_neg hs0)
    have hB := Below.refl w.heap.size w
    go_enter Try.func5, Try.ntmps5
    go_wp2_with (fail)
    refine (sz_flights_any A0 c0 l0 (1048576) _ (Kd.C_below hr0 hB) (by omega) (by omega) G0.out).mono ?_
    rintro e w1 ⟨rfl, hb1⟩
    replace hB := below_next hB hB.size hb1
    clear hb1
    rw [HN0.out]
    go_wp2
    go_ret
    exact ⟨rfl, hB⟩
  have HP0 := Lib.hid (subN_pos hs0)
  have S0 : (wL wF l0 : Int) ≤ 1048576 := by omega
  clear hs0
  have hB := Below.refl w.heap.size w
  go_enter Try.func5, Try.ntmps5
  go_wp2_with (fail)
  refine (sz_flights_any A0 c0 l0 (1048576) _ (Kd.C_below hr0 hB) (by omega) (by omega) G0.out).mono ?_
  rintro e w1 ⟨rfl, hb1⟩
  replace hB := below_next hB hB.size hb1
  clear hb1
  rw [HP0.out]
  go_wp2_with (fail)
  refine (toFlightS_any A0 c0 l0 _ (Kd.C_below hr0 hB) hc0 (by omega)).mono ?_
  rintro e w2 ⟨v2, rfl, o2, hb2⟩
  obtain ⟨X2, y2, rfl, q2, r2⟩ := Kd.R_reads (Kd.S_R o2)
  clear o2 q2
  replace hB := below_next hB hB.size hb2
  clear hb2
  go_wp2_with (fail)
  refine (spec_flightsOk_any _ _ l0 _ r2 (C_len r2)).mono ?_
  rintro e w3 ⟨rfl, hb3⟩
  replace hB := below_next hB hB.size hb3
  replace r2 := Kd.C_below r2 hb3
  clear hb3
  clear r2
  go_wp2_with (fail)
  refine (toFlightS_any A0 c0 l0 _ (Kd.C_below hr0 hB) hc0 (by omega)).mono ?_
  rintro e w4 ⟨v4, rfl, o4, hb4⟩
  obtain ⟨X4, y4, rfl, q4, r4⟩ := Kd.R_reads (Kd.S_R o4)
  clear o4 q4
  replace hB := below_next hB hB.size hb4
  clear hb4
  go_wp2_with (fail)
  refine (impl_flightsOk_any _ _ l0 _ r4 (C_len r4)).mono ?_
  rintro e w5 ⟨rfl, hb5⟩
  replace hB := below_next hB hB.size hb5
  replace r4 := Kd.C_below r4 hb5
  clear hb5
  go_wp2_with (fail)
  refine (toFlightS_any A0 c0 l0 _ (Kd.C_below hr0 hB) hc0 (by omega)).mono ?_
  rintro e w6 ⟨v6, rfl, o6, hb6⟩
  obtain ⟨X6, y6, rfl, q6, r6⟩ := Kd.R_reads (Kd.S_R o6)
  clear o6 q6
  replace hB := below_next hB hB.size hb6
  replace r4 := Kd.C_below r4 hb6
  clear hb6
  go_wp2_with (fail)
  refine (eq_flights_any _ _ _ _ l0 _ r4 r6).mono ?_
  rintro e w7 ⟨rfl, hb7⟩
  replace hB := below_next hB hB.size hb7
  replace r4 := Kd.C_below r4 hb7
  replace r6 := Kd.C_below r6 hb7
  clear hb7
  clear r6
  go_wp2
  go_ret
  exact ⟨rfl, hB⟩
end Go.Proofs.Yteklmkoahhociaa.Q
