/- Proved: for every input that can be read, laws.FnExactFlowGive answers true and each argument reads behind the call as it read before. No conditions. -/
import Derived.Test.YtkfoeplefajkcaaMgG
import Derived.Test.YtkfoeplefajkcaaMgK
import Derived.Test.YtkfoeplefajkcaaMgS
import Derived.Test.YtkfoeplefajkcaaRows
import Derived.WalkKit
import Derived.ProofKit
import Derived.OpenShut
import Derived.ShutString
import Derived.ChangeOld
import Derived.Below
import Derived.SizedLaws

/- The walk of the law FnExactFlowGive. -/
section
namespace Go.Proofs.Ytkfoeplefajkcaa.Q
open Go.RowKit Go.Proofs.YtkfoeplefajkcaaW.PrintWords Go.Proofs.YtkfoeplefajkcaaW.PrintLast Go.Proofs.YtkfoeplefajkcaaW.PrintMore Go.Proofs.Ytkfoeplefajkcaa.Core
set_option linter.unusedVariables false
set_option linter.unusedSimpArgs false

set_option maxRecDepth 100000 in
set_option maxHeartbeats 8000000 in
theorem walk_give (A0 : Option Addr) (c0 : Nat) (l0 : List Cap) (A1 : Option Addr) (c1 : Nat) (l1 : List Flight) (w : World) (hr0 : Kd.C k106 w A0 l0.length l0) (hc0 : l0.length ≤ c0) (hg0 : ∀ y ∈ l0, smallC y) (hr1 : Kd.C k51 w A1 l1.length l1) (hc1 : l1.length ≤ c1) (hg1 : ∀ y ∈ l1, smallF y) :
    Calls Try.prog 4 #[.slice A0 l0.length c0, .slice A1 l1.length c1] w fun e w' => e = .returned (.bool true) ∧ Below w.heap.size w w' := by
  have G0 := Lib.hid hg0
  clear hg0
  have G1 := Lib.hid hg1
  clear hg1
  have hn0 := C_len hr0
  have HR0 := Lib.hid hr0
  clear hr0
  have hn1 := C_len hr1
  have HR1 := Lib.hid hr1
  clear hr1
  by_cases hs0 : 1048576 < (wL wC l0 : Int)
  · have HN0 := Lib.hid (subN_neg hs0)
    have HB0 := Lib.hid (Below.refl w.heap.size w)
    go_enter Try.func4, Try.ntmps4
    go_wp2_with (fail)
    refine (sz_caps_any A0 c0 l0 (1048576) _ (Kd.C_below HR0.out HB0.out) (by omega) (by omega) G0.out).mono ?_
    rintro e w1 ⟨rfl, hb⟩
    have HB1 := Lib.hid (below_next HB0.out HB0.out.size hb)
    have s1 : w.heap.size ≤ w1.heap.size := hb.size
    clear hb HB0
    rw [HN0.out]
    go_wp2
    go_ret
    exact ⟨rfl, HB1.out⟩
  have HP0 := Lib.hid (subN_pos hs0)
  have S0 : (wL wC l0 : Int) ≤ 1048576 := by omega
  clear hs0
  by_cases hs1 : 1048576 - (wL wC l0 : Int) < (wL wF l1 : Int)
  · have HN1 := Lib.hid (subN_neg hs1)
    have HB0 := Lib.hid (Below.refl w.heap.size w)
    go_enter Try.func4, Try.ntmps4
    go_wp2_with (fail)
    refine (sz_caps_any A0 c0 l0 (1048576) _ (Kd.C_below HR0.out HB0.out) (by omega) (by omega) G0.out).mono ?_
    rintro e w1 ⟨rfl, hb⟩
    have HB1 := Lib.hid (below_next HB0.out HB0.out.size hb)
    have s1 : w.heap.size ≤ w1.heap.size := hb.size
    clear hb HB0
    rw [HP0.out]
    go_wp2_with (fail)
    refine (sz_flights_any A1 c1 l1 (1048576 - (wL wC l0 : Int)) _ (Kd.C_below HR1.out HB1.out) (by omega) (by omega) G1.out).mono ?_
    rintro e w2 ⟨rfl, hb⟩
    have HB2 := Lib.hid (below_next HB1.out HB1.out.size hb)
    have s2 : w1.heap.size ≤ w2.heap.size := hb.size
    clear hb HB1
    rw [HN1.out]
    go_wp2
    go_ret
    exact ⟨rfl, HB2.out⟩
  have HP1 := Lib.hid (subN_pos hs1)
  have S1 : (wL wF l1 : Int) ≤ 1048576 - (wL wC l0 : Int) := by omega
  clear hs1
  have N0 : l0.length ≤ 1048576 := by have := len_le_wL wC l0; omega
  have N1 : l1.length ≤ 1048576 := by have := len_le_wL wF l1; omega
  have V1 := Lib.hid (fun f (hf : f ∈ l1) => Nat.le_trans (visits_le_wL l1 f hf) (by omega : wL wF l1 ≤ 10000000))
  have cn1 := cntF_nonneg l1
  have cb1 : cntF l1 ≤ 900000000 := cntF_small l1 (by omega)
  have HB0 := Lib.hid (Below.refl w.heap.size w)
  go_enter Try.func4, Try.ntmps4
  go_wp2_with (fail)
  refine (sz_caps_any A0 c0 l0 (1048576) _ (Kd.C_below HR0.out HB0.out) (by omega) (by omega) G0.out).mono ?_
  rintro e w1 ⟨rfl, hb⟩
  have HB1 := Lib.hid (below_next HB0.out HB0.out.size hb)
  have s1 : w.heap.size ≤ w1.heap.size := hb.size
  clear hb HB0
  rw [HP0.out]
  go_wp2_with (fail)
  refine (sz_flights_any A1 c1 l1 (1048576 - (wL wC l0 : Int)) _ (Kd.C_below HR1.out HB1.out) (by omega) (by omega) G1.out).mono ?_
  rintro e w2 ⟨rfl, hb⟩
  have HB2 := Lib.hid (below_next HB1.out HB1.out.size hb)
  have s2 : w1.heap.size ≤ w2.heap.size := hb.size
  clear hb HB1
  rw [HP1.out]
  go_wp2_with (fail)
  refine (toCapS_any A0 c0 l0 _ (Kd.C_below HR0.out HB2.out) hc0 (by omega)).mono ?_
  rintro e w3 ⟨v, rfl, ho, hb⟩
  obtain ⟨Xt0, yt0, rfl, qt0, rr⟩ := Kd.R_reads ho
  clear rr
  have ot0 := Lib.hid (Kd.R_lower (R_iv ho) HB2.out.size)
  clear ho
  have HB3 := Lib.hid (below_next HB2.out HB2.out.size hb)
  have s3 : w2.heap.size ≤ w3.heap.size := hb.size
  clear hb HB2
  go_wp2_with (fail)
  refine (toFlightS_any A1 c1 l1 _ (Kd.C_below HR1.out HB3.out) hc1 (by omega)).mono ?_
  rintro e w4 ⟨v, rfl, ho, hb⟩
  obtain ⟨Xt1, yt1, rfl, qt1, rr⟩ := Kd.R_reads (Kd.S_R ho)
  clear rr
  have ot1 := Lib.hid (Kd.S_lower (S_iv ho) HB3.out.size)
  clear ho
  have HB4 := Lib.hid (below_next HB3.out HB3.out.size hb)
  have s4 : w3.heap.size ≤ w4.heap.size := hb.size
  have ot0' := Lib.hid (Kd.R_below ot0.out hb)
  clear ot0
  have ot0 := ot0'
  clear ot0'
  clear hb HB3
  go_wp2_with (fail)
  refine (spec_give_any _ _ l0 _ _ l1 _ (Kd.R_reads' ot0.out).2.2 (Kd.R_reads' (Kd.S_R ot1.out)).2.2).mono ?_
  rintro e w5 ⟨v, rfl, ho, hb⟩
  obtain ⟨XW, yW, rfl, qW, rr⟩ := Kd.R_reads ho
  clear rr
  have oW := Lib.hid (Kd.R_lower (R_iv ho) HB4.out.size)
  clear ho
  have HB5 := Lib.hid (below_next HB4.out HB4.out.size hb)
  have s5 : w4.heap.size ≤ w5.heap.size := hb.size
  have ot0' := Lib.hid (Kd.R_below ot0.out hb)
  clear ot0
  have ot0 := ot0'
  clear ot0'
  have ot1' := Lib.hid (Kd.S_below ot1.out hb)
  clear ot1
  have ot1 := ot1'
  clear ot1'
  clear hb HB4
  clear ot0
  clear ot1
  go_wp2_with (fail)
  refine (toCapS_any A0 c0 l0 _ (Kd.C_below HR0.out HB5.out) hc0 (by omega)).mono ?_
  rintro e w6 ⟨v, rfl, ho, hb⟩
  obtain ⟨Xx0, yx0, rfl, qx0, rr⟩ := Kd.R_reads ho
  clear rr
  have ox0 := Lib.hid (Kd.R_lower (R_iv ho) HB5.out.size)
  clear ho
  have HB6 := Lib.hid (below_next HB5.out HB5.out.size hb)
  have s6 : w5.heap.size ≤ w6.heap.size := hb.size
  have oW' := Lib.hid (Kd.R_below oW.out hb)
  clear oW
  have oW := oW'
  clear oW'
  clear hb HB5
  go_wp2_with (fail)
  refine (toFlightS_any A1 c1 l1 _ (Kd.C_below HR1.out HB6.out) hc1 (by omega)).mono ?_
  rintro e w7 ⟨v, rfl, ho, hb⟩
  obtain ⟨Xx1, yx1, rfl, qx1, rr⟩ := Kd.R_reads (Kd.S_R ho)
  clear rr
  have ox1 := Lib.hid (Kd.S_lower (S_iv ho) HB6.out.size)
  clear ho
  have HB7 := Lib.hid (below_next HB6.out HB6.out.size hb)
  have s7 : w6.heap.size ≤ w7.heap.size := hb.size
  have oW' := Lib.hid (Kd.R_below oW.out hb)
  clear oW
  have oW := oW'
  clear oW'
  have ox0' := Lib.hid (Kd.R_below ox0.out hb)
  clear ox0
  have ox0 := ox0'
  clear ox0'
  clear hb HB6
  go_wp2_with (fail)
  refine (impl_give_any _ _ l0 _ _ l1 _ (Kd.R_reads' ox0.out).2.2 (Kd.R_reads' (Kd.S_R ox1.out)).2.2).mono ?_
  rintro e w8 ⟨v, rfl, ho, hb⟩
  obtain ⟨XG, yG, rfl, qG, rr⟩ := Kd.R_reads ho
  clear rr
  have oG := Lib.hid (Kd.R_lower (R_iv ho) HB7.out.size)
  clear ho
  have HB8 := Lib.hid (below_next HB7.out HB7.out.size hb)
  have s8 : w7.heap.size ≤ w8.heap.size := hb.size
  have oW' := Lib.hid (Kd.R_below oW.out hb)
  clear oW
  have oW := oW'
  clear oW'
  have ox0' := Lib.hid (Kd.R_below ox0.out hb)
  clear ox0
  have ox0 := ox0'
  clear ox0'
  have ox1' := Lib.hid (Kd.S_below ox1.out hb)
  clear ox1
  have ox1 := ox1'
  clear ox1'
  clear hb HB7
  go_wp2_with (fail)
  refine (eq_ints_any _ _ _ _ _ _ (Kd.R_reads' oG.out).2.2 (Kd.R_reads' oW.out).2.2).mono ?_
  rintro e w9 ⟨rfl, hb⟩
  have HB9 := Lib.hid (below_next HB8.out HB8.out.size hb)
  have s9 : w8.heap.size ≤ w9.heap.size := hb.size
  have oW' := Lib.hid (Kd.R_below oW.out hb)
  clear oW
  have oW := oW'
  clear oW'
  have ox0' := Lib.hid (Kd.R_below ox0.out hb)
  clear ox0
  have ox0 := ox0'
  clear ox0'
  have ox1' := Lib.hid (Kd.S_below ox1.out hb)
  clear ox1
  have ox1 := ox1'
  clear ox1'
  have oG' := Lib.hid (Kd.R_below oG.out hb)
  clear oG
  have oG := oG'
  clear oG'
  clear hb HB8
  go_wp2_with (fail)
  refine (toCapS_any A0 c0 l0 _ (Kd.C_below HR0.out HB9.out) hc0 (by omega)).mono ?_
  rintro e w10 ⟨v, rfl, ho, hb⟩
  obtain ⟨Xu, yu, rfl, qu, rr⟩ := Kd.R_reads ho
  clear rr
  have ou := Lib.hid (Kd.R_lower (R_iv ho) HB9.out.size)
  clear ho
  have HB10 := Lib.hid (below_next HB9.out HB9.out.size hb)
  have s10 : w9.heap.size ≤ w10.heap.size := hb.size
  have oW' := Lib.hid (Kd.R_below oW.out hb)
  clear oW
  have oW := oW'
  clear oW'
  have ox0' := Lib.hid (Kd.R_below ox0.out hb)
  clear ox0
  have ox0 := ox0'
  clear ox0'
  have ox1' := Lib.hid (Kd.S_below ox1.out hb)
  clear ox1
  have ox1 := ox1'
  clear ox1'
  have oG' := Lib.hid (Kd.R_below oG.out hb)
  clear oG
  have oG := oG'
  clear oG'
  clear hb HB9
  go_wp2_with (fail)
  refine (eq_caps_any _ _ _ _ l0 _ (Kd.R_reads' ox0.out).2.2 (Kd.R_reads' ou.out).2.2).mono ?_
  rintro e w11 ⟨rfl, hb⟩
  have HB11 := Lib.hid (below_next HB10.out HB10.out.size hb)
  have s11 : w10.heap.size ≤ w11.heap.size := hb.size
  have oW' := Lib.hid (Kd.R_below oW.out hb)
  clear oW
  have oW := oW'
  clear oW'
  have ox0' := Lib.hid (Kd.R_below ox0.out hb)
  clear ox0
  have ox0 := ox0'
  clear ox0'
  have ox1' := Lib.hid (Kd.S_below ox1.out hb)
  clear ox1
  have ox1 := ox1'
  clear ox1'
  have oG' := Lib.hid (Kd.R_below oG.out hb)
  clear oG
  have oG := oG'
  clear oG'
  have ou' := Lib.hid (Kd.R_below ou.out hb)
  clear ou
  have ou := ou'
  clear ou'
  clear hb HB10
  clear ou
  go_wp2_with (fail)
  refine (toFlightS_any A1 c1 l1 _ (Kd.C_below HR1.out HB11.out) hc1 (by omega)).mono ?_
  rintro e w12 ⟨v, rfl, ho, hb⟩
  obtain ⟨Xu, yu, rfl, qu, rr⟩ := Kd.R_reads (Kd.S_R ho)
  clear rr
  have ou := Lib.hid (Kd.S_lower (S_iv ho) HB11.out.size)
  clear ho
  have HB12 := Lib.hid (below_next HB11.out HB11.out.size hb)
  have s12 : w11.heap.size ≤ w12.heap.size := hb.size
  have oW' := Lib.hid (Kd.R_below oW.out hb)
  clear oW
  have oW := oW'
  clear oW'
  have ox0' := Lib.hid (Kd.R_below ox0.out hb)
  clear ox0
  have ox0 := ox0'
  clear ox0'
  have ox1' := Lib.hid (Kd.S_below ox1.out hb)
  clear ox1
  have ox1 := ox1'
  clear ox1'
  have oG' := Lib.hid (Kd.R_below oG.out hb)
  clear oG
  have oG := oG'
  clear oG'
  clear hb HB11
  go_wp2_with (fail)
  refine (eq_flights_any _ _ _ _ l1 _ (Kd.R_reads' (Kd.S_R ox1.out)).2.2 (Kd.R_reads' (Kd.S_R ou.out)).2.2).mono ?_
  rintro e w13 ⟨rfl, hb⟩
  have HB13 := Lib.hid (below_next HB12.out HB12.out.size hb)
  have s13 : w12.heap.size ≤ w13.heap.size := hb.size
  have oW' := Lib.hid (Kd.R_below oW.out hb)
  clear oW
  have oW := oW'
  clear oW'
  have ox0' := Lib.hid (Kd.R_below ox0.out hb)
  clear ox0
  have ox0 := ox0'
  clear ox0'
  have ox1' := Lib.hid (Kd.S_below ox1.out hb)
  clear ox1
  have ox1 := ox1'
  clear ox1'
  have oG' := Lib.hid (Kd.R_below oG.out hb)
  clear oG
  have oG := oG'
  clear oG'
  have ou' := Lib.hid (Kd.S_below ou.out hb)
  clear ou
  have ou := ou'
  clear ou'
  clear hb HB12
  clear ou
  go_wp2_with (fail)
  refine (markC_any _ _ l0 (1) w _ HB13.out ox0.out (by omega) (by omega) (by omega) ).mono ?_
  rintro e w14 ⟨rfl, ho, hb, hk⟩
  have HB14 := Lib.hid hb
  have s14 : w13.heap.size ≤ w14.heap.size := hk.1
  have oW' := Lib.hid (R_apart oW.out hk (by omega))
  clear oW
  have oW := oW'
  clear oW'
  have ox1' := Lib.hid (S_apart ox1.out hk (by omega))
  clear ox1
  have ox1 := ox1'
  clear ox1'
  have oG' := Lib.hid (R_apart oG.out hk (by omega))
  clear oG
  have oG := oG'
  clear oG'
  have ox0' := Lib.hid ho
  clear ox0 ho
  have ox0 := ox0'
  clear ox0' hb hk HB13
  clear ox0
  go_wp2_with (fail)
  refine (markF_any _ _ l1 (1 + 2 * (l0.length : Int)) w _ HB14.out ox1.out (by omega) (by omega) (by omega) V1.out).mono ?_
  rintro e w15 ⟨rfl, ho, hb, hk⟩
  have HB15 := Lib.hid hb
  have s15 : w14.heap.size ≤ w15.heap.size := hk.1
  have oW' := Lib.hid (R_apart oW.out hk (by omega))
  clear oW
  have oW := oW'
  clear oW'
  have oG' := Lib.hid (R_apart oG.out hk (by omega))
  clear oG
  have oG := oG'
  clear oG'
  have ox1' := Lib.hid ho
  clear ox1 ho
  have ox1 := ox1'
  clear ox1' hb hk HB14
  clear ox1
  have e7 : decide (1 + 2 * (l0.length : Int) + cntF l1 < 0) = false := decide_eq_false (by omega)
  go_wp2_with (fail)
  refine (eq_ints_any _ _ _ _ _ _ (Kd.R_reads' oG.out).2.2 (Kd.R_reads' oW.out).2.2).mono ?_
  rintro e w16 ⟨rfl, hb⟩
  have HB16 := Lib.hid (below_next HB15.out HB15.out.size hb)
  have s16 : w15.heap.size ≤ w16.heap.size := hb.size
  have oW' := Lib.hid (Kd.R_below oW.out hb)
  clear oW
  have oW := oW'
  clear oW'
  have oG' := Lib.hid (Kd.R_below oG.out hb)
  clear oG
  have oG := oG'
  clear oG'
  clear hb HB15
  go_wp2_with (fail)
  refine (markI_any _ _ _ 1 w _ HB16.out oG.out (by omega) (by omega) (giveB_len l0 l1)).mono ?_
  rintro e w17 ⟨rfl, ho, hb, hk⟩
  have HB17 := Lib.hid hb
  have s17 : w16.heap.size ≤ w17.heap.size := hk.1
  have oW' := Lib.hid (R_apart oW.out hk (by omega))
  clear oW
  have oW := oW'
  clear oW'
  have oG' := Lib.hid ho
  clear oG ho
  have oG := oG'
  clear oG' hb hk HB16
  have HC := Lib.hid ((Kd.R_reads' oG.out).2.2)
  have HY := (Kd.R_reads' oG.out).2.1
  go_wp2_with (fail)
  refine (held_ints_any _ _ _ 1 _ oG.out (by omega) (by omega) (giveB_len l0 l1)).mono ?_
  rintro e w18 ⟨rfl, hb⟩
  have HB18 := Lib.hid (below_next HB17.out HB17.out.size hb)
  have s18 : w17.heap.size ≤ w18.heap.size := hb.size
  have oW' := Lib.hid (Kd.R_below oW.out hb)
  clear oW
  have oW := oW'
  clear oW'
  have oG' := Lib.hid (Kd.R_below oG.out hb)
  clear oG
  have oG := oG'
  clear oG'
  clear hb HB17
  have e8 : decide (1 + ((giveB l0 l1).length : Int) < 0) = false := decide_eq_false (by omega)
  go_wp2_with (fail)
  refine (toCapS_any A0 c0 l0 _ (Kd.C_below HR0.out HB18.out) hc0 (by omega)).mono ?_
  rintro e w19 ⟨v, rfl, ho, hb⟩
  obtain ⟨Xz0, yz0, rfl, qz0, rr⟩ := Kd.R_reads ho
  clear rr
  have oz0 := Lib.hid (Kd.R_lower (R_iv ho) HB18.out.size)
  clear ho
  have HB19 := Lib.hid (below_next HB18.out HB18.out.size hb)
  have s19 : w18.heap.size ≤ w19.heap.size := hb.size
  have oW' := Lib.hid (Kd.R_below oW.out hb)
  clear oW
  have oW := oW'
  clear oW'
  have oG' := Lib.hid (Kd.R_below oG.out hb)
  clear oG
  have oG := oG'
  clear oG'
  clear hb HB18
  go_wp2_with (fail)
  refine (toFlightS_any A1 c1 l1 _ (Kd.C_below HR1.out HB19.out) hc1 (by omega)).mono ?_
  rintro e w20 ⟨v, rfl, ho, hb⟩
  obtain ⟨Xz1, yz1, rfl, qz1, rr⟩ := Kd.R_reads (Kd.S_R ho)
  clear rr
  have oz1 := Lib.hid (Kd.S_lower (S_iv ho) HB19.out.size)
  clear ho
  have HB20 := Lib.hid (below_next HB19.out HB19.out.size hb)
  have s20 : w19.heap.size ≤ w20.heap.size := hb.size
  have oW' := Lib.hid (Kd.R_below oW.out hb)
  clear oW
  have oW := oW'
  clear oW'
  have oG' := Lib.hid (Kd.R_below oG.out hb)
  clear oG
  have oG := oG'
  clear oG'
  have oz0' := Lib.hid (Kd.R_below oz0.out hb)
  clear oz0
  have oz0 := oz0'
  clear oz0'
  clear hb HB19
  go_wp2_with (fail)
  refine (impl_give_any _ _ l0 _ _ l1 _ (Kd.R_reads' oz0.out).2.2 (Kd.R_reads' (Kd.S_R oz1.out)).2.2).mono ?_
  rintro e w21 ⟨v, rfl, ho, hb⟩
  obtain ⟨XK, yK, rfl, qK, rr⟩ := Kd.R_reads ho
  clear rr
  have oK := Lib.hid (Kd.R_lower (R_iv ho) HB20.out.size)
  clear ho
  have HB21 := Lib.hid (below_next HB20.out HB20.out.size hb)
  have s21 : w20.heap.size ≤ w21.heap.size := hb.size
  have oW' := Lib.hid (Kd.R_below oW.out hb)
  clear oW
  have oW := oW'
  clear oW'
  have oG' := Lib.hid (Kd.R_below oG.out hb)
  clear oG
  have oG := oG'
  clear oG'
  have oz0' := Lib.hid (Kd.R_below oz0.out hb)
  clear oz0
  have oz0 := oz0'
  clear oz0'
  have oz1' := Lib.hid (Kd.S_below oz1.out hb)
  clear oz1
  have oz1 := oz1'
  clear oz1'
  clear hb HB20
  clear oz0
  clear oz1
  go_wp2_with (fail)
  refine (eq_ints_any _ _ _ _ _ _ (Kd.R_reads' oK.out).2.2 (Kd.R_reads' oW.out).2.2).mono ?_
  rintro e w22 ⟨rfl, hb⟩
  have HB22 := Lib.hid (below_next HB21.out HB21.out.size hb)
  have s22 : w21.heap.size ≤ w22.heap.size := hb.size
  have oW' := Lib.hid (Kd.R_below oW.out hb)
  clear oW
  have oW := oW'
  clear oW'
  have oG' := Lib.hid (Kd.R_below oG.out hb)
  clear oG
  have oG := oG'
  clear oG'
  have oK' := Lib.hid (Kd.R_below oK.out hb)
  clear oK
  have oK := oK'
  clear oK'
  clear hb HB21
  have HC := Lib.hid ((Kd.R_reads' oG.out).2.2)
  have HY := (Kd.R_reads' oG.out).2.1
  go_wp2_with (fail)
  refine (held_ints_any _ _ _ 1 _ oG.out (by omega) (by omega) (giveB_len l0 l1)).mono ?_
  rintro e w23 ⟨rfl, hb⟩
  have HB23 := Lib.hid (below_next HB22.out HB22.out.size hb)
  have s23 : w22.heap.size ≤ w23.heap.size := hb.size
  have oW' := Lib.hid (Kd.R_below oW.out hb)
  clear oW
  have oW := oW'
  clear oW'
  have oG' := Lib.hid (Kd.R_below oG.out hb)
  clear oG
  have oG := oG'
  clear oG'
  have oK' := Lib.hid (Kd.R_below oK.out hb)
  clear oK
  have oK := oK'
  clear oK'
  clear hb HB22
  go_wp2
  go_ret
  exact ⟨rfl, HB23.out⟩
end Go.Proofs.Ytkfoeplefajkcaa.Q
end


section
namespace Go.Proofs.Ytkfoeplefajkcaa.fnExactFlowGive
open Go.ChangeShapes Go.WideShapes Go.ChangeAt Go.RowKit
open Go.ChangeMaps (open_string shut_string)
set_option linter.unusedVariables false
theorem own : ownKnob Try.prog.godebug = none := by kernel_rfl
theorem laidOut : laidOutB Try.prog = true := by kernel_rfl
set_option maxRecDepth 100000 in
theorem lifted (os : Os) (started : os.Started) (H : Type) (enc : TypeId × Value → H) :
    ReturnsInHanded {} Try.checked os 4 .any (Rows.fnExactFlowGiveSpec.pre6 enc Try.prog Try.f4 Rows.fnExactFlowGiveRow.domain false) (Rows.fnExactFlowGiveSpec.post enc Try.prog Try.f4 false true false false) := by
  refine returnsInHanded_of_change_sized (C := Try.checked) own started (by kernel_rfl) Try.func4
    (ChangeSpec.witness6 (enc := enc) (C := Try.checked) false ⟨#[], #[.slice none 0 0, .slice none 0 0], []⟩ 8 (by kernel_rfl) (by kernel_rfl) (by kernel_rfl) (by kernel_rfl)) ?_
  intro W base args ds gs before hval0 hW hcnd hsz0 _
  have hsz : (DataW.weightsEach Try.prog (Try.f4.params.toList ++ Rows.fnExactFlowGiveSpec.plain.varTypes Try.prog) (ds ++ gs)).all (· ≤ reachBytes) = true := hsz0
  have hval : ∀ (j : Nat) t v, Try.f4.params[j]? = some t → args[j]? = some v → Value.okWide Try.prog W .any base t v := hval0
  have hW' := hW
  obtain ⟨p, q, hA0, hV, rfl, hfz, hnd⟩ := hW
  have hA : DataW.TrodAll enc Try.prog W 0 (fun _ => true) true Try.f4.params.toList args.toList ds p := hA0
  rw [Try.params4] at hA hval hsz
  obtain ⟨v0, vs0, d0, ds0, p0, q0, hargs, rfl, rfl, h0, r0⟩ := trodAll_cons hA
  obtain ⟨v1, vs1, d1, ds1, p1, q1, rfl, rfl, rfl, h1, r1⟩ := trodAll_cons r0
  obtain ⟨rfl, rfl, rfl⟩ := trodAll_nil r1
  obtain rfl : args = #[v0, v1] := by cases args; simp_all
  obtain ⟨rfl, rfl⟩ := trodVars_none hV
  obtain ⟨a0, len0, cap0, rfl⟩ := okWide_slice Try.underlying33 (hval 0 33 v0 rfl rfl)
  have k0 := h0
  have lt0 : ∀ x ∈ p0, x.block < W.heap.size := by obtain ⟨m, hm⟩ := k0; exact DataW.trod_lt m _ _ _ hm
  obtain ⟨l0, rfl, hc0, hr0, hg0⟩ := Q.arg_caps h0
  obtain ⟨a1, len1, cap1, rfl⟩ := okWide_slice Try.underlying22 (hval 1 22 v1 rfl rfl)
  have k1 := h1
  have lt1 : ∀ x ∈ p1, x.block < W.heap.size := by obtain ⟨m, hm⟩ := k1; exact DataW.trod_lt m _ _ _ hm
  obtain ⟨l1, rfl, hc1, hr1, hg1⟩ := Q.arg_flights h1
  clear hA0 hval0 hsz0 hsz
  refine (Q.walk_give a0 cap0 l0 a1 cap1 l1 W hr0 hc0 hg0 hr1 hc1 hg1).mono fun e W' ⟨he, bel⟩ => ?_
  subst he
  exact ⟨_, rfl, _, _, _, [], _, [], hW', trodAll_mk1 (shut_bool Try.underlying4 _), (trodAll_cons_mk (Below.trod laidOut (by kernel_rfl) (of_decide_eq_true (by kernel_rfl)) k0 bel lt0) (trodAll_cons_mk (Below.trod laidOut (by kernel_rfl) (of_decide_eq_true (by kernel_rfl)) k1 bel lt1) trodAll_mk0)), rfl, bel.frame _, fun h => by cases h⟩
theorem over : Rows.fnExactFlowGiveRow.holds Try.pinned (OpenSpec.ofChange Rows.fnExactFlowGiveSpec) :=
  OpenClaim.holds_of_wide 4 Try.f4 rfl rfl rfl rfl rfl rfl rfl ⟨rfl, rfl, rfl, rfl, rfl⟩ rfl rfl rfl rfl rfl (by kernel_rfl) Try.func4 (by kernel_rfl)
    (of_decide_eq_true (by kernel_rfl)) (by unfold Func.isWrapper; first | (rw [if_pos (by decide +kernel)]; kernel_rfl) | (rw [if_neg (by decide +kernel)]; exact ⟨rfl, rfl⟩))
    (fun os started H enc _ => lifted os started H enc)
theorem proved : Rows.FnExactFlowGiveSaid := over
#print axioms proved
end Go.Proofs.Ytkfoeplefajkcaa.fnExactFlowGive
end
