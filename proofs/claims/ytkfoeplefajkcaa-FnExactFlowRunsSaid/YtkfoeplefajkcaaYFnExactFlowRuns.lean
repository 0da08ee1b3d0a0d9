/- Proved: for every input that can be read, laws.FnExactFlowRuns answers true and each argument reads behind the call as it read before. No conditions. -/
import Derived.Test.YtkfoeplefajkcaaMgR
import Derived.Test.YtkfoeplefajkcaaMgK
import Derived.Test.YtkfoeplefajkcaaMgS
import Derived.Test.YtkfoeplefajkcaaRows
import Derived.WalkKit
import Derived.ProofKit
import Derived.OpenShut
import Derived.ShutString
import Derived.ChangeOld
import Derived.Below
import Derived.SizedLaws

/- The walk of the law FnExactFlowRuns. -/
section
namespace Go.Proofs.Ytkfoeplefajkcaa.Q
open Go.RowKit Go.Proofs.YtkfoeplefajkcaaW.PrintWords Go.Proofs.YtkfoeplefajkcaaW.PrintLast Go.Proofs.YtkfoeplefajkcaaW.PrintMore Go.Proofs.Ytkfoeplefajkcaa.Core
set_option linter.unusedVariables false
set_option linter.unusedSimpArgs false

set_option maxRecDepth 100000 in
set_option maxHeartbeats 8000000 in
theorem walk_runs (A0 : Option Addr) (c0 : Nat) (l0 : List Flight) (A1 : Option Addr) (c1 : Nat) (l1 : List Int) (a2 : ByteArray) (w : World) (hr0 : Kd.C k51 w A0 l0.length l0) (hc0 : l0.length ≤ c0) (hg0 : ∀ y ∈ l0, smallF y) (hr1 : Kd.C (Kd.int .i64) w A1 l1.length l1) (hc1 : l1.length ≤ c1) (hg1 : ∀ y ∈ l1, (Lit.int .i64 y).wf = true) (hw2 : a2.size ≤ 140737488351232) :
    Calls Try.prog 5 #[.slice A0 l0.length c0, .slice A1 l1.length c1, .string a2] w fun e w' => e = .returned (.bool true) ∧ Below w.heap.size w w' := by
  have G0 := Lib.hid hg0
  clear hg0
  clear hg1
  have hn0 := C_len hr0
  have HR0 := Lib.hid hr0
  clear hr0
  have hn1 := C_len hr1
  have HR1 := Lib.hid hr1
  clear hr1
  by_cases hm1 : 1048576 < l1.length
  · have e1 : decide ((1048576 : Int) < (l1.length : Int)) = true := decide_eq_true (by omega)
    have e2 : decide (1048576 < l1.length) = true := decide_eq_true hm1
    have HB0 := Lib.hid (Below.refl w.heap.size w)
    go_enter Try.func5, Try.ntmps5
    go_wp2
    go_ret
    exact ⟨rfl, HB0.out⟩
  have e11 : decide ((1048576 : Int) < (l1.length : Int)) = false := decide_eq_false (by omega)
  have e12 : decide (1048576 < l1.length) = false := decide_eq_false hm1
  have M1 : l1.length ≤ 1048576 := by omega
  by_cases hm2 : 1048576 < a2.size
  · have e1 : decide ((1048576 : Int) < (a2.size : Int)) = true := decide_eq_true (by omega)
    have e2 : decide (1048576 < a2.size) = true := decide_eq_true hm2
    have HB0 := Lib.hid (Below.refl w.heap.size w)
    go_enter Try.func5, Try.ntmps5
    go_wp2
    go_ret
    exact ⟨rfl, HB0.out⟩
  have e21 : decide ((1048576 : Int) < (a2.size : Int)) = false := decide_eq_false (by omega)
  have e22 : decide (1048576 < a2.size) = false := decide_eq_false hm2
  have M2 : a2.size ≤ 1048576 := by omega
  by_cases hs0 : 1048576 < (wL wF l0 : Int)
  · have HN0 := Lib.hid (subN_neg hs0)
    have HB0 := Lib.hid (Below.refl w.heap.size w)
    go_enter Try.func5, Try.ntmps5
    go_wp2_with (fail)
    refine (sz_flights_any A0 c0 l0 (1048576) _ (Kd.C_below HR0.out HB0.out) (by omega) (by omega) G0.out).mono ?_
    rintro e w1 ⟨rfl, hb⟩
    have HB1 := Lib.hid (below_next HB0.out HB0.out.size hb)
    have s1 : w.heap.size ≤ w1.heap.size := hb.size
    clear hb HB0
    rw [HN0.out]
    go_wp2
    go_ret
    exact ⟨rfl, HB1.out⟩
  have HP0 := Lib.hid (subN_pos hs0)
  have S0 : (wL wF l0 : Int) ≤ 1048576 := by omega
  clear hs0
  have N0 : l0.length ≤ 1048576 := by have := len_le_wL wF l0; omega
  have V0 := Lib.hid (fun f (hf : f ∈ l0) => Nat.le_trans (visits_le_wL l0 f hf) (by omega : wL wF l0 ≤ 10000000))
  have cn0 := cntF_nonneg l0
  have cb0 : cntF l0 ≤ 900000000 := cntF_small l0 (by omega)
  have HB0 := Lib.hid (Below.refl w.heap.size w)
  go_enter Try.func5, Try.ntmps5
  go_wp2_with (fail)
  refine (sz_flights_any A0 c0 l0 (1048576) _ (Kd.C_below HR0.out HB0.out) (by omega) (by omega) G0.out).mono ?_
  rintro e w1 ⟨rfl, hb⟩
  have HB1 := Lib.hid (below_next HB0.out HB0.out.size hb)
  have s1 : w.heap.size ≤ w1.heap.size := hb.size
  clear hb HB0
  rw [HP0.out]
  go_wp2_with (fail)
  refine (toFlightS_any A0 c0 l0 _ (Kd.C_below HR0.out HB1.out) hc0 (by omega)).mono ?_
  rintro e w2 ⟨v, rfl, ho, hb⟩
  obtain ⟨Xt0, yt0, rfl, qt0, rr⟩ := Kd.R_reads (Kd.S_R ho)
  clear rr
  have ot0 := Lib.hid (Kd.S_lower (S_iv ho) HB1.out.size)
  clear ho
  have HB2 := Lib.hid (below_next HB1.out HB1.out.size hb)
  have s2 : w1.heap.size ≤ w2.heap.size := hb.size
  clear hb HB1
  go_wp2_with (fail)
  refine (toIntS_any A1 c1 l1 _ (Kd.C_below HR1.out HB2.out) hc1 (by omega)).mono ?_
  rintro e w3 ⟨v, rfl, ho, hb⟩
  obtain ⟨Xt1, yt1, rfl, qt1, rr⟩ := Kd.R_reads ho
  clear rr
  have ot1 := Lib.hid (Kd.R_lower (R_iv ho) HB2.out.size)
  clear ho
  have HB3 := Lib.hid (below_next HB2.out HB2.out.size hb)
  have s3 : w2.heap.size ≤ w3.heap.size := hb.size
  have ot0' := Lib.hid (Kd.S_below ot0.out hb)
  clear ot0
  have ot0 := ot0'
  clear ot0'
  clear hb HB2
  go_wp2_with (fail)
  refine (spec_runs_any _ _ l0 _ _ l1 a2 _ (Kd.R_reads' (Kd.S_R ot0.out)).2.2 (Kd.R_reads' ot1.out).2.2).mono ?_
  rintro e w4 ⟨v, rfl, ho, hb⟩
  obtain ⟨XW, yW, rfl, qW, rr⟩ := Kd.R_reads ho
  clear rr
  have oW := Lib.hid (Kd.R_lower (R_iv ho) HB3.out.size)
  clear ho
  have HB4 := Lib.hid (below_next HB3.out HB3.out.size hb)
  have s4 : w3.heap.size ≤ w4.heap.size := hb.size
  have ot0' := Lib.hid (Kd.S_below ot0.out hb)
  clear ot0
  have ot0 := ot0'
  clear ot0'
  have ot1' := Lib.hid (Kd.R_below ot1.out hb)
  clear ot1
  have ot1 := ot1'
  clear ot1'
  clear hb HB3
  clear ot0
  clear ot1
  go_wp2_with (fail)
  refine (toFlightS_any A0 c0 l0 _ (Kd.C_below HR0.out HB4.out) hc0 (by omega)).mono ?_
  rintro e w5 ⟨v, rfl, ho, hb⟩
  obtain ⟨Xx0, yx0, rfl, qx0, rr⟩ := Kd.R_reads (Kd.S_R ho)
  clear rr
  have ox0 := Lib.hid (Kd.S_lower (S_iv ho) HB4.out.size)
  clear ho
  have HB5 := Lib.hid (below_next HB4.out HB4.out.size hb)
  have s5 : w4.heap.size ≤ w5.heap.size := hb.size
  have oW' := Lib.hid (Kd.R_below oW.out hb)
  clear oW
  have oW := oW'
  clear oW'
  clear hb HB4
  go_wp2_with (fail)
  refine (toIntS_any A1 c1 l1 _ (Kd.C_below HR1.out HB5.out) hc1 (by omega)).mono ?_
  rintro e w6 ⟨v, rfl, ho, hb⟩
  obtain ⟨Xx1, yx1, rfl, qx1, rr⟩ := Kd.R_reads ho
  clear rr
  have ox1 := Lib.hid (Kd.R_lower (R_iv ho) HB5.out.size)
  clear ho
  have HB6 := Lib.hid (below_next HB5.out HB5.out.size hb)
  have s6 : w5.heap.size ≤ w6.heap.size := hb.size
  have oW' := Lib.hid (Kd.R_below oW.out hb)
  clear oW
  have oW := oW'
  clear oW'
  have ox0' := Lib.hid (Kd.S_below ox0.out hb)
  clear ox0
  have ox0 := ox0'
  clear ox0'
  clear hb HB5
  go_wp2_with (fail)
  refine (impl_runs_any _ _ l0 _ _ l1 a2 _ (Kd.R_reads' (Kd.S_R ox0.out)).2.2 (Kd.R_reads' ox1.out).2.2).mono ?_
  rintro e w7 ⟨v, rfl, ho, hb⟩
  obtain ⟨XG, yG, rfl, qG, rr⟩ := Kd.R_reads ho
  clear rr
  have oG := Lib.hid (Kd.R_lower (R_iv ho) HB6.out.size)
  clear ho
  have HB7 := Lib.hid (below_next HB6.out HB6.out.size hb)
  have s7 : w6.heap.size ≤ w7.heap.size := hb.size
  have oW' := Lib.hid (Kd.R_below oW.out hb)
  clear oW
  have oW := oW'
  clear oW'
  have ox0' := Lib.hid (Kd.S_below ox0.out hb)
  clear ox0
  have ox0 := ox0'
  clear ox0'
  have ox1' := Lib.hid (Kd.R_below ox1.out hb)
  clear ox1
  have ox1 := ox1'
  clear ox1'
  clear hb HB6
  go_wp2_with (fail)
  refine (eq_runs_any oG.out oW.out (runsB_len l0 l1 a2)).mono ?_
  rintro e w8 ⟨rfl, hb⟩
  have HB8 := Lib.hid (below_next HB7.out HB7.out.size hb)
  have s8 : w7.heap.size ≤ w8.heap.size := hb.size
  have oW' := Lib.hid (Kd.R_below oW.out hb)
  clear oW
  have oW := oW'
  clear oW'
  have ox0' := Lib.hid (Kd.S_below ox0.out hb)
  clear ox0
  have ox0 := ox0'
  clear ox0'
  have ox1' := Lib.hid (Kd.R_below ox1.out hb)
  clear ox1
  have ox1 := ox1'
  clear ox1'
  have oG' := Lib.hid (Kd.R_below oG.out hb)
  clear oG
  have oG := oG'
  clear oG'
  clear hb HB7
  go_wp2_with (fail)
  refine (toFlightS_any A0 c0 l0 _ (Kd.C_below HR0.out HB8.out) hc0 (by omega)).mono ?_
  rintro e w9 ⟨v, rfl, ho, hb⟩
  obtain ⟨Xu, yu, rfl, qu, rr⟩ := Kd.R_reads (Kd.S_R ho)
  clear rr
  have ou := Lib.hid (Kd.S_lower (S_iv ho) HB8.out.size)
  clear ho
  have HB9 := Lib.hid (below_next HB8.out HB8.out.size hb)
  have s9 : w8.heap.size ≤ w9.heap.size := hb.size
  have oW' := Lib.hid (Kd.R_below oW.out hb)
  clear oW
  have oW := oW'
  clear oW'
  have ox0' := Lib.hid (Kd.S_below ox0.out hb)
  clear ox0
  have ox0 := ox0'
  clear ox0'
  have ox1' := Lib.hid (Kd.R_below ox1.out hb)
  clear ox1
  have ox1 := ox1'
  clear ox1'
  have oG' := Lib.hid (Kd.R_below oG.out hb)
  clear oG
  have oG := oG'
  clear oG'
  clear hb HB8
  go_wp2_with (fail)
  refine (eq_flights_any _ _ _ _ l0 _ (Kd.R_reads' (Kd.S_R ox0.out)).2.2 (Kd.R_reads' (Kd.S_R ou.out)).2.2).mono ?_
  rintro e w10 ⟨rfl, hb⟩
  have HB10 := Lib.hid (below_next HB9.out HB9.out.size hb)
  have s10 : w9.heap.size ≤ w10.heap.size := hb.size
  have oW' := Lib.hid (Kd.R_below oW.out hb)
  clear oW
  have oW := oW'
  clear oW'
  have ox0' := Lib.hid (Kd.S_below ox0.out hb)
  clear ox0
  have ox0 := ox0'
  clear ox0'
  have ox1' := Lib.hid (Kd.R_below ox1.out hb)
  clear ox1
  have ox1 := ox1'
  clear ox1'
  have oG' := Lib.hid (Kd.R_below oG.out hb)
  clear oG
  have oG := oG'
  clear oG'
  have ou' := Lib.hid (Kd.S_below ou.out hb)
  clear ou
  have ou := ou'
  clear ou'
  clear hb HB9
  clear ou
  go_wp2_with (fail)
  refine (toIntS_any A1 c1 l1 _ (Kd.C_below HR1.out HB10.out) hc1 (by omega)).mono ?_
  rintro e w11 ⟨v, rfl, ho, hb⟩
  obtain ⟨Xu, yu, rfl, qu, rr⟩ := Kd.R_reads ho
  clear rr
  have ou := Lib.hid (Kd.R_lower (R_iv ho) HB10.out.size)
  clear ho
  have HB11 := Lib.hid (below_next HB10.out HB10.out.size hb)
  have s11 : w10.heap.size ≤ w11.heap.size := hb.size
  have oW' := Lib.hid (Kd.R_below oW.out hb)
  clear oW
  have oW := oW'
  clear oW'
  have ox0' := Lib.hid (Kd.S_below ox0.out hb)
  clear ox0
  have ox0 := ox0'
  clear ox0'
  have ox1' := Lib.hid (Kd.R_below ox1.out hb)
  clear ox1
  have ox1 := ox1'
  clear ox1'
  have oG' := Lib.hid (Kd.R_below oG.out hb)
  clear oG
  have oG := oG'
  clear oG'
  clear hb HB10
  go_wp2_with (fail)
  refine (eq_ints_any _ _ _ _ l1 _ (Kd.R_reads' ox1.out).2.2 (Kd.R_reads' ou.out).2.2).mono ?_
  rintro e w12 ⟨rfl, hb⟩
  have HB12 := Lib.hid (below_next HB11.out HB11.out.size hb)
  have s12 : w11.heap.size ≤ w12.heap.size := hb.size
  have oW' := Lib.hid (Kd.R_below oW.out hb)
  clear oW
  have oW := oW'
  clear oW'
  have ox0' := Lib.hid (Kd.S_below ox0.out hb)
  clear ox0
  have ox0 := ox0'
  clear ox0'
  have ox1' := Lib.hid (Kd.R_below ox1.out hb)
  clear ox1
  have ox1 := ox1'
  clear ox1'
  have oG' := Lib.hid (Kd.R_below oG.out hb)
  clear oG
  have oG := oG'
  clear oG'
  have ou' := Lib.hid (Kd.R_below ou.out hb)
  clear ou
  have ou := ou'
  clear ou'
  clear hb HB11
  clear ou
  go_wp2_with (fail)
  refine (markF_any _ _ l0 (1) w _ HB12.out ox0.out (by omega) (by omega) (by omega) V0.out).mono ?_
  rintro e w13 ⟨rfl, ho, hb, hk⟩
  have HB13 := Lib.hid hb
  have s13 : w12.heap.size ≤ w13.heap.size := hk.1
  have oW' := Lib.hid (R_apart oW.out hk (by omega))
  clear oW
  have oW := oW'
  clear oW'
  have ox1' := Lib.hid (R_apart ox1.out hk (by omega))
  clear ox1
  have ox1 := ox1'
  clear ox1'
  have oG' := Lib.hid (R_apart oG.out hk (by omega))
  clear oG
  have oG := oG'
  clear oG'
  have ox0' := Lib.hid ho
  clear ox0 ho
  have ox0 := ox0'
  clear ox0' hb hk HB12
  clear ox0
  go_wp2_with (fail)
  refine (markI_any _ _ l1 (1 + cntF l0) w _ HB13.out ox1.out (by omega) (by omega) (by omega) ).mono ?_
  rintro e w14 ⟨rfl, ho, hb, hk⟩
  have HB14 := Lib.hid hb
  have s14 : w13.heap.size ≤ w14.heap.size := hk.1
  have oW' := Lib.hid (R_apart oW.out hk (by omega))
  clear oW
  have oW := oW'
  clear oW'
  have oG' := Lib.hid (R_apart oG.out hk (by omega))
  clear oG
  have oG := oG'
  clear oG'
  have ox1' := Lib.hid ho
  clear ox1 ho
  have ox1 := ox1'
  clear ox1' hb hk HB13
  clear ox1
  have e7 : decide (1 + cntF l0 + (l1.length : Int) < 0) = false := decide_eq_false (by omega)
  go_wp2_with (fail)
  refine (eq_runs_any oG.out oW.out (runsB_len l0 l1 a2)).mono ?_
  rintro e w15 ⟨rfl, hb⟩
  have HB15 := Lib.hid (below_next HB14.out HB14.out.size hb)
  have s15 : w14.heap.size ≤ w15.heap.size := hb.size
  have oW' := Lib.hid (Kd.R_below oW.out hb)
  clear oW
  have oW := oW'
  clear oW'
  have oG' := Lib.hid (Kd.R_below oG.out hb)
  clear oG
  have oG := oG'
  clear oG'
  clear hb HB14
  go_wp2_with (fail)
  refine (markR_any _ _ _ 1 w _ HB15.out oG.out (by omega) (by omega) (runsB_len l0 l1 a2)).mono ?_
  rintro e w16 ⟨rfl, ho, hb, hk⟩
  have HB16 := Lib.hid hb
  have s16 : w15.heap.size ≤ w16.heap.size := hk.1
  have oW' := Lib.hid (R_apart oW.out hk (by omega))
  clear oW
  have oW := oW'
  clear oW'
  have oG' := Lib.hid ho
  clear oG ho
  have oG := oG'
  clear oG' hb hk HB15
  have HC := Lib.hid ((Kd.R_reads' oG.out).2.2)
  have HY := (Kd.R_reads' oG.out).2.1
  go_wp2_with (fail)
  refine (held_runs_any _ _ _ 1 _ oG.out (by omega) (by omega) (runsB_len l0 l1 a2)).mono ?_
  rintro e w17 ⟨rfl, hb⟩
  have HB17 := Lib.hid (below_next HB16.out HB16.out.size hb)
  have s17 : w16.heap.size ≤ w17.heap.size := hb.size
  have oW' := Lib.hid (Kd.R_below oW.out hb)
  clear oW
  have oW := oW'
  clear oW'
  have oG' := Lib.hid (Kd.R_below oG.out hb)
  clear oG
  have oG := oG'
  clear oG'
  clear hb HB16
  have e8 : decide (1 + 3 * ((runsB l0 l1 a2).length : Int) < 0) = false := decide_eq_false (by omega)
  go_wp2_with (fail)
  refine (toFlightS_any A0 c0 l0 _ (Kd.C_below HR0.out HB17.out) hc0 (by omega)).mono ?_
  rintro e w18 ⟨v, rfl, ho, hb⟩
  obtain ⟨Xz0, yz0, rfl, qz0, rr⟩ := Kd.R_reads (Kd.S_R ho)
  clear rr
  have oz0 := Lib.hid (Kd.S_lower (S_iv ho) HB17.out.size)
  clear ho
  have HB18 := Lib.hid (below_next HB17.out HB17.out.size hb)
  have s18 : w17.heap.size ≤ w18.heap.size := hb.size
  have oW' := Lib.hid (Kd.R_below oW.out hb)
  clear oW
  have oW := oW'
  clear oW'
  have oG' := Lib.hid (Kd.R_below oG.out hb)
  clear oG
  have oG := oG'
  clear oG'
  clear hb HB17
  go_wp2_with (fail)
  refine (toIntS_any A1 c1 l1 _ (Kd.C_below HR1.out HB18.out) hc1 (by omega)).mono ?_
  rintro e w19 ⟨v, rfl, ho, hb⟩
  obtain ⟨Xz1, yz1, rfl, qz1, rr⟩ := Kd.R_reads ho
  clear rr
  have oz1 := Lib.hid (Kd.R_lower (R_iv ho) HB18.out.size)
  clear ho
  have HB19 := Lib.hid (below_next HB18.out HB18.out.size hb)
  have s19 : w18.heap.size ≤ w19.heap.size := hb.size
  have oW' := Lib.hid (Kd.R_below oW.out hb)
  clear oW
  have oW := oW'
  clear oW'
  have oG' := Lib.hid (Kd.R_below oG.out hb)
  clear oG
  have oG := oG'
  clear oG'
  have oz0' := Lib.hid (Kd.S_below oz0.out hb)
  clear oz0
  have oz0 := oz0'
  clear oz0'
  clear hb HB18
  go_wp2_with (fail)
  refine (impl_runs_any _ _ l0 _ _ l1 a2 _ (Kd.R_reads' (Kd.S_R oz0.out)).2.2 (Kd.R_reads' oz1.out).2.2).mono ?_
  rintro e w20 ⟨v, rfl, ho, hb⟩
  obtain ⟨XK, yK, rfl, qK, rr⟩ := Kd.R_reads ho
  clear rr
  have oK := Lib.hid (Kd.R_lower (R_iv ho) HB19.out.size)
  clear ho
  have HB20 := Lib.hid (below_next HB19.out HB19.out.size hb)
  have s20 : w19.heap.size ≤ w20.heap.size := hb.size
  have oW' := Lib.hid (Kd.R_below oW.out hb)
  clear oW
  have oW := oW'
  clear oW'
  have oG' := Lib.hid (Kd.R_below oG.out hb)
  clear oG
  have oG := oG'
  clear oG'
  have oz0' := Lib.hid (Kd.S_below oz0.out hb)
  clear oz0
  have oz0 := oz0'
  clear oz0'
  have oz1' := Lib.hid (Kd.R_below oz1.out hb)
  clear oz1
  have oz1 := oz1'
  clear oz1'
  clear hb HB19
  clear oz0
  clear oz1
  go_wp2_with (fail)
  refine (eq_runs_any oK.out oW.out (runsB_len l0 l1 a2)).mono ?_
  rintro e w21 ⟨rfl, hb⟩
  have HB21 := Lib.hid (below_next HB20.out HB20.out.size hb)
  have s21 : w20.heap.size ≤ w21.heap.size := hb.size
  have oW' := Lib.hid (Kd.R_below oW.out hb)
  clear oW
  have oW := oW'
  clear oW'
  have oG' := Lib.hid (Kd.R_below oG.out hb)
  clear oG
  have oG := oG'
  clear oG'
  have oK' := Lib.hid (Kd.R_below oK.out hb)
  clear oK
  have oK := oK'
  clear oK'
  clear hb HB20
  have HC := Lib.hid ((Kd.R_reads' oG.out).2.2)
  have HY := (Kd.R_reads' oG.out).2.1
  go_wp2_with (fail)
  refine (held_runs_any _ _ _ 1 _ oG.out (by omega) (by omega) (runsB_len l0 l1 a2)).mono ?_
  rintro e w22 ⟨rfl, hb⟩
  have HB22 := Lib.hid (below_next HB21.out HB21.out.size hb)
  have s22 : w21.heap.size ≤ w22.heap.size := hb.size
  have oW' := Lib.hid (Kd.R_below oW.out hb)
  clear oW
  have oW := oW'
  clear oW'
  have oG' := Lib.hid (Kd.R_below oG.out hb)
  clear oG
  have oG := oG'
  clear oG'
  have oK' := Lib.hid (Kd.R_below oK.out hb)
  clear oK
  have oK := oK'
  clear oK'
  clear hb HB21
  go_wp2
  go_ret
  exact ⟨rfl, HB22.out⟩
end Go.Proofs.Ytkfoeplefajkcaa.Q
end


section
namespace Go.Proofs.Ytkfoeplefajkcaa.fnExactFlowRuns
open Go.ChangeShapes Go.WideShapes Go.ChangeAt Go.RowKit
open Go.ChangeMaps (open_string shut_string)
set_option linter.unusedVariables false
theorem own : ownKnob Try.prog.godebug = none := by kernel_rfl
theorem laidOut : laidOutB Try.prog = true := by kernel_rfl
set_option maxRecDepth 100000 in
theorem lifted (os : Os) (started : os.Started) (H : Type) (enc : TypeId × Value → H) :
    ReturnsInHanded {} Try.checked os 5 .any (Rows.fnExactFlowRunsSpec.pre6 enc Try.prog Try.f5 Rows.fnExactFlowRunsRow.domain false) (Rows.fnExactFlowRunsSpec.post enc Try.prog Try.f5 false true false false) := by
  refine returnsInHanded_of_change_sized (C := Try.checked) own started (by kernel_rfl) Try.func5
    (ChangeSpec.witness6 (enc := enc) (C := Try.checked) false ⟨#[], #[.slice none 0 0, .slice none 0 0, .string ByteArray.empty], []⟩ 8 (by kernel_rfl) (by kernel_rfl) (by kernel_rfl) (by kernel_rfl)) ?_
  intro W base args ds gs before hval0 hW hcnd hsz0 _
  have hsz : (DataW.weightsEach Try.prog (Try.f5.params.toList ++ Rows.fnExactFlowRunsSpec.plain.varTypes Try.prog) (ds ++ gs)).all (· ≤ reachBytes) = true := hsz0
  have hval : ∀ (j : Nat) t v, Try.f5.params[j]? = some t → args[j]? = some v → Value.okWide Try.prog W .any base t v := hval0
  have hW' := hW
  obtain ⟨p, q, hA0, hV, rfl, hfz, hnd⟩ := hW
  have hA : DataW.TrodAll enc Try.prog W 0 (fun _ => true) true Try.f5.params.toList args.toList ds p := hA0
  rw [Try.params5] at hA hval hsz
  obtain ⟨v0, vs0, d0, ds0, p0, q0, hargs, rfl, rfl, h0, r0⟩ := trodAll_cons hA
  obtain ⟨v1, vs1, d1, ds1, p1, q1, rfl, rfl, rfl, h1, r1⟩ := trodAll_cons r0
  obtain ⟨v2, vs2, d2, ds2, p2, q2, rfl, rfl, rfl, h2, r2⟩ := trodAll_cons r1
  obtain ⟨rfl, rfl, rfl⟩ := trodAll_nil r2
  obtain rfl : args = #[v0, v1, v2] := by cases args; simp_all
  obtain ⟨rfl, rfl⟩ := trodVars_none hV
  obtain ⟨a0, len0, cap0, rfl⟩ := okWide_slice Try.underlying22 (hval 0 22 v0 rfl rfl)
  have k0 := h0
  have lt0 : ∀ x ∈ p0, x.block < W.heap.size := by obtain ⟨m, hm⟩ := k0; exact DataW.trod_lt m _ _ _ hm
  obtain ⟨l0, rfl, hc0, hr0, hg0⟩ := Q.arg_flights h0
  obtain ⟨a1, len1, cap1, rfl⟩ := okWide_slice Try.underlying24 (hval 1 24 v1 rfl rfl)
  have k1 := h1
  have lt1 : ∀ x ∈ p1, x.block < W.heap.size := by obtain ⟨m, hm⟩ := k1; exact DataW.trod_lt m _ _ _ hm
  obtain ⟨l1, rfl, hc1, hr1, hg1⟩ := Q.arg_ints h1
  obtain ⟨a2, rfl, rfl, rfl, y2⟩ := open_string Try.underlying9 (hval 2 9 v2 rfl rfl) h2
  have w2 : a2.size ≤ 140737488351232 := by
    have z := sized_string hsz (j := 2) (t := 9) rfl rfl
    rw [Array.length_toList] at z
    exact z
  clear hA0 hval0 hsz0 hsz
  refine (Q.walk_runs a0 cap0 l0 a1 cap1 l1 a2 W hr0 hc0 hg0 hr1 hc1 hg1 w2).mono fun e W' ⟨he, bel⟩ => ?_
  subst he
  exact ⟨_, rfl, _, _, _, [], _, [], hW', trodAll_mk1 (shut_bool Try.underlying4 _), (trodAll_cons_mk (Below.trod laidOut (by kernel_rfl) (of_decide_eq_true (by kernel_rfl)) k0 bel lt0) (trodAll_cons_mk (Below.trod laidOut (by kernel_rfl) (of_decide_eq_true (by kernel_rfl)) k1 bel lt1) (trodAll_cons_mk (shut_string Try.underlying9 y2) trodAll_mk0))), rfl, bel.frame _, fun h => by cases h⟩
theorem over : Rows.fnExactFlowRunsRow.holds Try.pinned (OpenSpec.ofChange Rows.fnExactFlowRunsSpec) :=
  OpenClaim.holds_of_wide 5 Try.f5 rfl rfl rfl rfl rfl rfl rfl ⟨rfl, rfl, rfl, rfl, rfl⟩ rfl rfl rfl rfl rfl (by kernel_rfl) Try.func5 (by kernel_rfl)
    (of_decide_eq_true (by kernel_rfl)) (by unfold Func.isWrapper; first | (rw [if_pos (by decide +kernel)]; kernel_rfl) | (rw [if_neg (by decide +kernel)]; exact ⟨rfl, rfl⟩))
    (fun os started H enc _ => lifted os started H enc)
theorem proved : Rows.FnExactFlowRunsSaid := over
#print axioms proved
end Go.Proofs.Ytkfoeplefajkcaa.fnExactFlowRuns
end
