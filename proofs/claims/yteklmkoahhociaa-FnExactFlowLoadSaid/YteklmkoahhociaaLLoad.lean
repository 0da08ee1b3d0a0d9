/- The walk of the law FnExactFlowLoad. -/
import Derived.Test.YteklmkoahhociaaM2
import Derived.Test.YteklmkoahhociaaTP
import Derived.Test.YteklmkoahhociaaE
namespace Go.Proofs.Yteklmkoahhociaa.Q
open Go.RowKit Go.Proofs.YteklmkoahhociaaW.PrintWords Go.Proofs.YteklmkoahhociaaW.PrintLast Go.Proofs.YteklmkoahhociaaW.PrintMore Go.Proofs.Yteklmkoahhociaa.Core
set_option linter.unusedVariables false
set_option linter.unusedSimpArgs false

set_option maxHeartbeats 4000000 in
theorem law_load (A0 : Option Addr) (c0 : Nat) (l0 : List Flight) (A1 : Option Addr) (c1 : Nat) (l1 : List Int) (a2 : ByteArray) (a3 : Int) (w : World) (hr0 : Kd.C k76 w A0 l0.length l0) (hc0 : l0.length ≤ c0) (hg0 : ∀ y ∈ l0, smallF y) (hr1 : Kd.C (Kd.int .i64) w A1 l1.length l1) (hc1 : l1.length ≤ c1) (hg1 : ∀ y ∈ l1, (Lit.int .i64 y).wf = true) (hw2 : a2.size ≤ 140737488351232) (hw3 : (Lit.int .i64 a3).wf = true) :
    Calls Try.prog 7 #[.slice A0 l0.length c0, .slice A1 l1.length c1, .string a2, .int .i64 a3] w fun e w' => e = .returned (.bool true) ∧ Below w.heap.size w w' := by
  have G0 := Lib.hid hg0
  clear hg0
  clear hg1
  have hn0 := C_len hr0
  have hn1 := C_len hr1
  by_cases hm1 : 1048576 < l1.length
  · have e1 : decide ((1048576 : Int) < (l1.length : Int)) = true := decide_eq_true (by omega)
    have e2 : decide (1048576 < l1.length) = true := decide_eq_true hm1
    have hB := Below.refl w.heap.size w
    go_enter Try.func7, Try.ntmps7
    go_wp2
    go_ret
    exact ⟨rfl, hB⟩
  have e11 : decide ((1048576 : Int) < (l1.length : Int)) = false := decide_eq_false (by omega)
  have e12 : decide (1048576 < l1.length) = false := decide_eq_false hm1
  have M1 : l1.length ≤ 1048576 := by omega
  by_cases hm2 : 1048576 < a2.size
  · have e1 : decide ((1048576 : Int) < (a2.size : Int)) = true := decide_eq_true (by omega)
    have e2 : decide (1048576 < a2.size) = true := decide_eq_true hm2
    have hB := Below.refl w.heap.size w
    go_enter Try.func7, Try.ntmps7
    go_wp2
    go_ret
    exact ⟨rfl, hB⟩
  have e21 : decide ((1048576 : Int) < (a2.size : Int)) = false := decide_eq_false (by omega)
  have e22 : decide (1048576 < a2.size) = false := decide_eq_false hm2
  have M2 : a2.size ≤ 1048576 := by omega
  by_cases hs0 : 1048576 < (wL wF l0 : Int)
  · have HN0 := Lib.hid (subN_neg hs0)
    have hB := Below.refl w.heap.size w
    go_enter Try.func7, Try.ntmps7
    go_wp2_with (fail)
    refine (sz_flights_any A0 c0 l0 (1048576) _ (Kd.C_below hr0 hB) (by omega) (by omega) G0.out).mono ?_
    rintro e w1 ⟨rfl, hb1⟩
    replace hB := below_next hB hB.size hb1
    clear hb1
    rw [HN0.out]
    go_wp2
    go_ret
    exact ⟨rfl, hB⟩
  have HP0 := Lib.hid (subN_pos hs0)
  have S0 : (wL wF l0 : Int) ≤ 1048576 := by omega
  clear hs0
  have hB := Below.refl w.heap.size w
  go_enter Try.func7, Try.ntmps7
  go_wp2_with (fail)
  refine (sz_flights_any A0 c0 l0 (1048576) _ (Kd.C_below hr0 hB) (by omega) (by omega) G0.out).mono ?_
  rintro e w1 ⟨rfl, hb1⟩
  replace hB := below_next hB hB.size hb1
  clear hb1
  rw [HP0.out]
  go_wp2_with (fail)
  refine (toFlightS_any A0 c0 l0 _ (Kd.C_below hr0 hB) hc0 (by omega)).mono ?_
  rintro e w2 ⟨v2, rfl, o2, hb2⟩
  obtain ⟨X2, y2, rfl, q2, r2⟩ := Kd.R_reads (Kd.S_R o2)
  clear o2 q2
  replace hB := below_next hB hB.size hb2
  clear hb2
  go_wp2_with (fail)
  refine (toIntS_any A1 c1 l1 _ (Kd.C_below hr1 hB) hc1 (by omega)).mono ?_
  rintro e w3 ⟨v3, rfl, o3, hb3⟩
  obtain ⟨X3, y3, rfl, q3, r3⟩ := Kd.R_reads o3
  clear o3 q3
  replace hB := below_next hB hB.size hb3
  replace r2 := Kd.C_below r2 hb3
  clear hb3
  go_wp2_with (fail)
  refine (spec_load_any _ _ l0 _ _ l1 a2 a3 _ r2 r3).mono ?_
  rintro e w4 ⟨rfl, hb4⟩
  replace hB := below_next hB hB.size hb4
  replace r2 := Kd.C_below r2 hb4
  replace r3 := Kd.C_below r3 hb4
  clear hb4
  clear r2
  clear r3
  go_wp2_with (fail)
  refine (toFlightS_any A0 c0 l0 _ (Kd.C_below hr0 hB) hc0 (by omega)).mono ?_
  rintro e w5 ⟨v5, rfl, o5, hb5⟩
  obtain ⟨X5, y5, rfl, q5, r5⟩ := Kd.R_reads (Kd.S_R o5)
  clear o5 q5
  replace hB := below_next hB hB.size hb5
  clear hb5
  go_wp2_with (fail)
  refine (toIntS_any A1 c1 l1 _ (Kd.C_below hr1 hB) hc1 (by omega)).mono ?_
  rintro e w6 ⟨v6, rfl, o6, hb6⟩
  obtain ⟨X6, y6, rfl, q6, r6⟩ := Kd.R_reads o6
  clear o6 q6
  replace hB := below_next hB hB.size hb6
  replace r5 := Kd.C_below r5 hb6
  clear hb6
  go_wp2_with (fail)
  refine (impl_load_any _ _ l0 _ _ l1 a2 a3 _ r5 r6 hw3).mono ?_
  rintro e w7 ⟨rfl, hb7⟩
  replace hB := below_next hB hB.size hb7
  replace r5 := Kd.C_below r5 hb7
  replace r6 := Kd.C_below r6 hb7
  clear hb7
  go_wp2_with (fail)
  refine (toFlightS_any A0 c0 l0 _ (Kd.C_below hr0 hB) hc0 (by omega)).mono ?_
  rintro e w8 ⟨v8, rfl, o8, hb8⟩
  obtain ⟨X8, y8, rfl, q8, r8⟩ := Kd.R_reads (Kd.S_R o8)
  clear o8 q8
  replace hB := below_next hB hB.size hb8
  replace r5 := Kd.C_below r5 hb8
  replace r6 := Kd.C_below r6 hb8
  clear hb8
  go_wp2_with (fail)
  refine (eq_flights_any _ _ _ _ l0 _ r5 r8).mono ?_
  rintro e w9 ⟨rfl, hb9⟩
  replace hB := below_next hB hB.size hb9
  replace r5 := Kd.C_below r5 hb9
  replace r6 := Kd.C_below r6 hb9
  replace r8 := Kd.C_below r8 hb9
  clear hb9
  clear r8
  go_wp2_with (fail)
  refine (toIntS_any A1 c1 l1 _ (Kd.C_below hr1 hB) hc1 (by omega)).mono ?_
  rintro e w10 ⟨v10, rfl, o10, hb10⟩
  obtain ⟨X10, y10, rfl, q10, r10⟩ := Kd.R_reads o10
  clear o10 q10
  replace hB := below_next hB hB.size hb10
  replace r5 := Kd.C_below r5 hb10
  replace r6 := Kd.C_below r6 hb10
  clear hb10
  go_wp2_with (fail)
  refine (eq_ints_any _ _ _ _ l1 _ r6 r10).mono ?_
  rintro e w11 ⟨rfl, hb11⟩
  replace hB := below_next hB hB.size hb11
  replace r5 := Kd.C_below r5 hb11
  replace r6 := Kd.C_below r6 hb11
  replace r10 := Kd.C_below r10 hb11
  clear hb11
  clear r10
  go_wp2
  go_ret
  exact ⟨rfl, hB⟩
end Go.Proofs.Yteklmkoahhociaa.Q
