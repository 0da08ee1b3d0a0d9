/- The walk of the law FnExactFlowBound. -/
import Derived.Test.YtgoepnbajpgkhaaN3
import Derived.Test.YtgoepnbajpgkhaaTP
import Derived.Test.YtgoepnbajpgkhaaE
namespace Go.Proofs.Ytgoepnbajpgkhaa.Q
open Go.RowKit Go.Proofs.YtgoepnbajpgkhaaW.PrintWords Go.Proofs.YtgoepnbajpgkhaaW.PrintLast Go.Proofs.YtgoepnbajpgkhaaW.PrintMore Go.Proofs.Ytgoepnbajpgkhaa.Core
set_option linter.unusedVariables false
set_option linter.unusedSimpArgs false

set_option maxHeartbeats 4000000 in
theorem law_bound (A0 : Option Addr) (c0 : Nat) (l0 : List Cap) (A1 : Option Addr) (c1 : Nat) (l1 : List Flight) (a2 : ByteArray) (w : World) (hr0 : Kd.C k36 w A0 l0.length l0) (hc0 : l0.length ≤ c0) (hg0 : ∀ y ∈ l0, smallC y) (hr1 : Kd.C k40 w A1 l1.length l1) (hc1 : l1.length ≤ c1) (hg1 : ∀ y ∈ l1, smallF y) (hw2 : a2.size ≤ 140737488351232) :
    Calls Try.prog 3 #[.slice A0 l0.length c0, .slice A1 l1.length c1, .string a2] w fun e w' => e = .returned (.bool true) ∧ Below w.heap.size w w' := by
  have G0 := Lib.hid hg0
  clear hg0
  have G1 := Lib.hid hg1
  clear hg1
  have hn0 := C_len hr0
  have hn1 := C_len hr1
  by_cases hm2 : 1048576 < a2.size
  · have e1 : decide ((1048576 : Int) < (a2.size : Int)) = true := decide_eq_true (by omega)
    have e2 : decide (1048576 < a2.size) = true := decide_eq_true hm2
    have hB := Below.refl w.heap.size w
    go_enter Try.func3, Try.ntmps3
    go_wp2
    go_ret
    exact ⟨rfl, hB⟩
  have e21 : decide ((1048576 : Int) < (a2.size : Int)) = false := decide_eq_false (by omega)
  have e22 : decide (1048576 < a2.size) = false := decide_eq_false hm2
  have M2 : a2.size ≤ 1048576 := by omega
  by_cases hs0 : 1048576 < (wL wC l0 : Int)
  · have HN0 := Lib.hid (subN_neg hs0)
    have hB := Below.refl w.heap.size w
    go_enter Try.func3, Try.ntmps3
    go_wp2_with (fail)
    refine (sz_caps_any A0 c0 l0 (1048576) _ (Kd.C_below hr0 hB) (by omega) (by omega) G0.out).mono ?_
    rintro e w1 ⟨rfl, hb1⟩
    replace hB := below_next hB hB.size hb1
    clear hb1
    rw [HN0.out]
    go_wp2
    go_ret
    exact ⟨rfl, hB⟩
  have HP0 := Lib.hid (subN_pos hs0)
  have S0 : (wL wC l0 : Int) ≤ 1048576 := by omega
  clear hs0
  by_cases hs1 : 1048576 - (wL wC l0 : Int) < (wL wF l1 : Int)
  · have HN1 := Lib.hid (subN_neg hs1)
    have hB := Below.refl w.heap.size w
    go_enter Try.func3, Try.ntmps3
    go_wp2_with (fail)
    refine (sz_caps_any A0 c0 l0 (1048576) _ (Kd.C_below hr0 hB) (by omega) (by omega) G0.out).mono ?_
    rintro e w1 ⟨rfl, hb1⟩
    replace hB := below_next hB hB.size hb1
    clear hb1
    rw [HP0.out]
    go_wp2_with (fail)
    refine (sz_flights_any A1 c1 l1 (1048576 - (wL wC l0 : Int)) _ (Kd.C_below hr1 hB) (by omega) (by omega) G1.out).mono ?_
    rintro e w2 ⟨rfl, hb2⟩
    replace hB := below_next hB hB.size hb2
    clear hb2
    rw [HN1.out]
    go_wp2
    go_ret
    exact ⟨rfl, hB⟩
  have HP1 := Lib.hid (subN_pos hs1)
  have S1 : (wL wF l1 : Int) ≤ 1048576 - (wL wC l0 : Int) := by omega
  clear hs1
  have hB := Below.refl w.heap.size w
  go_enter Try.func3, Try.ntmps3
  go_wp2_with (fail)
  refine (sz_caps_any A0 c0 l0 (1048576) _ (Kd.C_below hr0 hB) (by omega) (by omega) G0.out).mono ?_
  rintro e w1 ⟨rfl, hb1⟩
  replace hB := below_next hB hB.size hb1
  clear hb1
  rw [HP0.out]
  go_wp2_with (fail)
  refine (sz_flights_any A1 c1 l1 (1048576 - (wL wC l0 : Int)) _ (Kd.C_below hr1 hB) (by omega) (by omega) G1.out).mono ?_
  rintro e w2 ⟨rfl, hb2⟩
  replace hB := below_next hB hB.size hb2
  clear hb2
  rw [HP1.out]
  go_wp2_with (fail)
  refine (toCapS_any A0 c0 l0 _ (Kd.C_below hr0 hB) hc0 (by omega)).mono ?_
  rintro e w3 ⟨v3, rfl, o3, hb3⟩
  obtain ⟨X3, y3, rfl, q3, r3⟩ := Kd.R_reads o3
  clear o3 q3
  replace hB := below_next hB hB.size hb3
  clear hb3
  go_wp2_with (fail)
  refine (toFlightS_any A1 c1 l1 _ (Kd.C_below hr1 hB) hc1 (by omega)).mono ?_
  rintro e w4 ⟨v4, rfl, o4, hb4⟩
  obtain ⟨X4, y4, rfl, q4, r4⟩ := Kd.R_reads (Kd.S_R o4)
  clear o4 q4
  replace hB := below_next hB hB.size hb4
  replace r3 := Kd.C_below r3 hb4
  clear hb4
  go_wp2_with (fail)
  refine (spec_bound_any _ _ l0 _ _ l1 a2 _ r3 r4).mono ?_
  rintro e w5 ⟨rfl, hb5⟩
  replace hB := below_next hB hB.size hb5
  replace r3 := Kd.C_below r3 hb5
  replace r4 := Kd.C_below r4 hb5
  clear hb5
  clear r3
  clear r4
  go_wp2_with (fail)
  refine (toCapS_any A0 c0 l0 _ (Kd.C_below hr0 hB) hc0 (by omega)).mono ?_
  rintro e w6 ⟨v6, rfl, o6, hb6⟩
  obtain ⟨X6, y6, rfl, q6, r6⟩ := Kd.R_reads o6
  clear o6 q6
  replace hB := below_next hB hB.size hb6
  clear hb6
  go_wp2_with (fail)
  refine (toFlightS_any A1 c1 l1 _ (Kd.C_below hr1 hB) hc1 (by omega)).mono ?_
  rintro e w7 ⟨v7, rfl, o7, hb7⟩
  obtain ⟨X7, y7, rfl, q7, r7⟩ := Kd.R_reads (Kd.S_R o7)
  clear o7 q7
  replace hB := below_next hB hB.size hb7
  replace r6 := Kd.C_below r6 hb7
  clear hb7
  go_wp2_with (fail)
  refine (impl_bound_any _ _ l0 _ _ l1 a2 _ r6 r7).mono ?_
  rintro e w8 ⟨rfl, hb8⟩
  replace hB := below_next hB hB.size hb8
  replace r6 := Kd.C_below r6 hb8
  replace r7 := Kd.C_below r7 hb8
  clear hb8
  go_wp2_with (fail)
  refine (toCapS_any A0 c0 l0 _ (Kd.C_below hr0 hB) hc0 (by omega)).mono ?_
  rintro e w9 ⟨v9, rfl, o9, hb9⟩
  obtain ⟨X9, y9, rfl, q9, r9⟩ := Kd.R_reads o9
  clear o9 q9
  replace hB := below_next hB hB.size hb9
  replace r6 := Kd.C_below r6 hb9
  replace r7 := Kd.C_below r7 hb9
  clear hb9
  go_wp2_with (fail)
  refine (eq_caps_any _ _ _ _ l0 _ r6 r9).mono ?_
  rintro e w10 ⟨rfl, hb10⟩
  replace hB := below_next hB hB.size hb10
  replace r6 := Kd.C_below r6 hb10
  replace r7 := Kd.C_below r7 hb10
  replace r9 := Kd.C_below r9 hb10
  clear hb10
  clear r9
  go_wp2_with (fail)
  refine (toFlightS_any A1 c1 l1 _ (Kd.C_below hr1 hB) hc1 (by omega)).mono ?_
  rintro e w11 ⟨v11, rfl, o11, hb11⟩
  obtain ⟨X11, y11, rfl, q11, r11⟩ := Kd.R_reads (Kd.S_R o11)
  clear o11 q11
  replace hB := below_next hB hB.size hb11
  replace r6 := Kd.C_below r6 hb11
  replace r7 := Kd.C_below r7 hb11
  clear hb11
  go_wp2_with (fail)
  refine (eq_flights_any _ _ _ _ l1 _ r7 r11).mono ?_
  rintro e w12 ⟨rfl, hb12⟩
  replace hB := below_next hB hB.size hb12
  replace r6 := Kd.C_below r6 hb12
  replace r7 := Kd.C_below r7 hb12
  replace r11 := Kd.C_below r11 hb12
  clear hb12
  clear r11
  go_wp2
  go_ret
  exact ⟨rfl, hB⟩
end Go.Proofs.Ytgoepnbajpgkhaa.Q
