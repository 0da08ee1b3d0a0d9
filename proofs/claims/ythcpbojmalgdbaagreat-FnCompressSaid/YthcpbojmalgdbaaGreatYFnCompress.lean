/- Proved: for every input that can be read, laws.FnCompress answers true and each argument reads behind the call as it read before. No conditions. -/
import Derived.Test.YthcpbojmalgdbaaGreatMgF
import Derived.Test.YthcpbojmalgdbaaGreatMgL
import Derived.Test.YthcpbojmalgdbaaGreatMgQ
import Derived.Test.YthcpbojmalgdbaaGreatMgE
import Derived.Test.YthcpbojmalgdbaaGreatMgB
import Derived.Test.YthcpbojmalgdbaaGreatMgC
import Derived.Deep.RegionHeld3
import Derived.Test.YthcpbojmalgdbaaGreatRows
import Derived.Test.YthcpbojmalgdbaaGreatMgS
import Derived.WalkKit
import Derived.ProofKit
import Derived.OpenShut
import Derived.ShutString
import Derived.ChangeOld
import Derived.Below
import Derived.SizedLaws
section
namespace Go.Proofs.YthcpbojmalgdbaaGreat.Q
open Go.RowKit Go.Proofs.YthcpbojmalgdbaaGreatW.PrintWords Go.Proofs.YthcpbojmalgdbaaGreatW.PrintLast Go.Proofs.YthcpbojmalgdbaaGreatW.PrintMore Go.Proofs.YthcpbojmalgdbaaGreat.Core
set_option linter.unusedVariables false
set_option linter.unusedSimpArgs false
theorem stable_comp {b : Book} (h : okB b = true) : stableB (compB b).f0 (compB b).f1 (compB b).f2 = true := by
  have h1 : fitsB (compB b).f0 (compB b).f1 (compB b).f2 = true := compB_ok h
  unfold stableB stableFrom
  rw [h1, List.drop_zero, Bool.true_and, List.all_eq_true]
  intro i hi
  rw [List.mem_range, compB_len h] at hi
  rw [compB_still h i hi]
  exact beq_self_eq_true _
theorem okB_small9 {b : Book} (h : okB b = true) : b.f1.length ≤ b.f2.length ∧ b.f2.length ≤ 8 := by
  have h1 := okB_len h
  have h2 := (flightsB_parts (slotsB_parts (fitsB_parts h).2.1).1).1
  omega
theorem compR_lens {b : Book} (h : b.f2.length ≤ 200) : (compressR b).f2.length ≤ 300 := by
  cases hk : okB b with
  | false => rw [compressR_bad hk]; exact Nat.zero_le _
  | true =>
    rw [compressR_ok hk]
    have h1 := okB_small9 (compB_ok hk)
    omega
set_option maxRecDepth 100000 in
set_option maxHeartbeats 16000000 in
theorem walk_fncompress (A0 : Option Addr) (c0 : Nat) (l0 : List Int) (w : World) (hr0 : Kd.C (Kd.int .u8) w A0 l0.length l0) (hc0 : l0.length ≤ c0) (hg0 : ∀ y ∈ l0, (fun y : Int => 0 ≤ y ∧ y ≤ 255) y) :
    Calls Tryz.prog 3 #[.slice A0 l0.length c0] w fun e w' => e = .returned (.bool true) ∧ Below w.heap.size w w' := by
  have HR := Lib.hid hr0
  have HG := Lib.hid (show byteL l0 from hg0)
  clear hr0 hg0
  by_cases hs : 1048576 < l0.length
  · have e1 : decide ((1048576 : Int) < l0.length) = true := by simp; omega
    go_enter Tryz.func3, Tryz.ntmps3
    go_wp2
    go_ret
    exact ⟨rfl, Below.refl _ _⟩
  have e1 : decide ((1048576 : Int) < l0.length) = false := by simp; omega
  go_enter Tryz.func3, Tryz.ntmps3
  go_wp2_with (fail)
  refine (drawComp_any A0 c0 l0 _ HR.out hc0 HG.out).mono ?_
  rintro e w1 ⟨v0, v1, v2, b, hb1, hb2, rfl, hR, hbw⟩
  have z1 := hbw.size
  obtain ⟨AB, cB, CB, dB, DB, eB, rfl, rfl, rfl⟩ := hR.form
  have hb := below_alloc (Below.refl w1.heap.size w1) (.cells #[.slice AB b.f0.length cB, .slice CB b.f1.length dB, .slice DB b.f2.length eB] 27)
  have T1 : Hid (BoxR (w1.alloc (.cells #[.slice AB b.f0.length cB, .slice CB b.f1.length dB, .slice DB b.f2.length eB] 27)) w.heap.size w1.heap.size (.slice AB b.f0.length cB) (.slice CB b.f1.length dB) (.slice DB b.f2.length eB) b) := BoxR.made hR
  have L1 := Lib.hid (below_next hbw hbw.size hb)
  clear hR hbw hb
  obtain ⟨ta, tb, tc⟩ := T1.out.cells
  obtain ⟨xb_, hxb⟩ : ∃ x, x = compressR b := ⟨_, rfl⟩
  have HXB := Lib.hid hxb
  clear hxb
  go_wp2_with (fail)
  refine (impl_flowCompress_any _ _ _ _ _ _ b _ T1.out.book.form_D.1 T1.out.book.form_D.2.1 T1.out.book.form_D.2.2).mono ?_
  rintro e w2 ⟨u0, u1, u2, rfl, ho, hb⟩
  rw [← HXB.out] at ho
  obtain ⟨AX, cX, CX, dX, DX, eX, rfl, rfl, rfl, _, _, _⟩ := ho.form
  have ho' := Lib.hid (ho.rd.lower (base' := w.heap.size) (by have := L1.out.size; omega))
  clear ta tb tc
  have T2 := Lib.hid (T1.out.below hb)
  have L2 := Lib.hid (below_next L1.out L1.out.size hb)
  clear T1 L1
  clear ho hb
  have hb : Below w2.heap.size w2 (w2.alloc (.cells #[.slice AX xb_.f0.length cX, .slice CX xb_.f1.length dX, .slice DX xb_.f2.length eX] 27)) := below_alloc (Below.refl _ _) _
  have X3 : Hid (BoxR (w2.alloc (.cells #[.slice AX xb_.f0.length cX, .slice CX xb_.f1.length dX, .slice DX xb_.f2.length eX] 27)) w.heap.size w2.heap.size (.slice AX xb_.f0.length cX) (.slice CX xb_.f1.length dX) (.slice DX xb_.f2.length eX) xb_) := BoxR.made ho'.out
  have T3 := Lib.hid (T2.out.below hb)
  have L3 := Lib.hid (below_next L2.out L2.out.size hb)
  clear T2 L2
  clear hb ho'
  obtain ⟨ta, tb, tc⟩ := T3.out.cells
  obtain ⟨xa, xb, xc⟩ := X3.out.cells
  have hlen : xb_.f2.length ≤ 300 := by rw [HXB.out]; exact compR_lens hb2
  clear ta tb tc xa xb xc
  obtain ⟨sb_, hsb⟩ : ∃ x, x = stableB b.f0 b.f1 b.f2 := ⟨_, rfl⟩
  have HSB := Lib.hid hsb
  clear hsb
  have esb : (sb_ == sb_) = true := beq_self_eq_true _
  have T4 : Hid (BoxR (w2.alloc (.cells #[.slice AX xb_.f0.length cX, .slice CX xb_.f1.length dX, .slice DX xb_.f2.length eX] 27)).drew w.heap.size w1.heap.size (.slice AB b.f0.length cB) (.slice CB b.f1.length dB) (.slice DB b.f2.length eB) b) := T3.out.below (pw_below_drewN (Below.refl _ _) 1)
  have X4 : Hid (BoxR (w2.alloc (.cells #[.slice AX xb_.f0.length cX, .slice CX xb_.f1.length dX, .slice DX xb_.f2.length eX] 27)).drew w.heap.size w2.heap.size (.slice AX xb_.f0.length cX) (.slice CX xb_.f1.length dX) (.slice DX xb_.f2.length eX) xb_) := X3.out.below (pw_below_drewN (Below.refl _ _) 1)
  have L4 : Hid (Below w.heap.size w (w2.alloc (.cells #[.slice AX xb_.f0.length cX, .slice CX xb_.f1.length dX, .slice DX xb_.f2.length eX] 27)).drew) := pw_below_drewN L3.out 1
  clear T3 X3 L3
  obtain ⟨ta, tb, tc⟩ := T4.out.cells
  obtain ⟨xa, xb, xc⟩ := X4.out.cells
  go_wp2
  go_region_held3 (fun W' => W'.cell? ⟨w1.heap.size, 0, none⟩ = some (.slice AB b.f0.length cB) ∧ W'.cell? ⟨w1.heap.size, 1, none⟩ = some (.slice CB b.f1.length dB) ∧ W'.cell? ⟨w1.heap.size, 2, none⟩ = some (.slice DB b.f2.length eB) ∧ W'.cell? ⟨w2.heap.size, 0, none⟩ = some (.slice AX xb_.f0.length cX) ∧ W'.cell? ⟨w2.heap.size, 1, none⟩ = some (.slice CX xb_.f1.length dX) ∧ W'.cell? ⟨w2.heap.size, 2, none⟩ = some (.slice DX xb_.f2.length eX)) (first | (exact ⟨by assumption, by assumption, by assumption, by assumption, by assumption, by assumption⟩) | go_keep) (first
    | (go_at_call 7; refine (spec_flowCompress_any _ _ _ _ _ _ b _ T4.out.book.form_D.1 T4.out.book.form_D.2.1 T4.out.book.form_D.2.2).mono ?_; rintro e w4 ⟨u0, u1, u2, rfl, ho, hb⟩; rw [← HXB.out] at ho; obtain ⟨AY, cY, CY, dY, DY, eY, rfl, rfl, rfl, _, _, _⟩ := ho.form; have HB4 := Lib.hid ho.rd; clear ho; clear ta tb tc xa xb xc; have T5 := Lib.hid (T4.out.below hb); have X5 := Lib.hid (X4.out.below hb); have L5 := Lib.hid (below_next L4.out L4.out.size hb); clear hb; obtain ⟨ta, tb, tc⟩ := T5.out.cells; obtain ⟨xa, xb, xc⟩ := X5.out.cells)
    | (go_at_call 6; refine (wBookC_any _ _ _ _ _ _ _ _ _ _ _ _ xb_ _ X5.out.book.form_D.1 X5.out.book.form_D.2.1 X5.out.book.form_D.2.2 HB4.out.form_D.1 HB4.out.form_D.2.1 HB4.out.form_D.2.2 (Kd.R_reads' X5.out.book.slots).2.1 (Kd.R_reads' HB4.out.slots).2.1 (by omega)).mono ?_; rintro e w5 ⟨rfl, hb⟩; clear ta tb tc xa xb xc; have T6 := Lib.hid (T5.out.below hb); have X6 := Lib.hid (X5.out.below hb); have L6 := Lib.hid (below_next L5.out L5.out.size hb); clear hb; obtain ⟨ta, tb, tc⟩ := T6.out.cells; obtain ⟨xa, xb, xc⟩ := X6.out.cells)
    | (go_at_call 8; refine (impl_stable_any _ _ b.f0 _ _ b.f1 _ _ b.f2 _ T6.out.book.form_D.1 T6.out.book.form_D.2.1 T6.out.book.form_D.2.2).mono ?_; rintro e w6 ⟨rfl, hb⟩; rw [← HSB.out]; clear ta tb tc xa xb xc; have T7 := Lib.hid (T6.out.below hb); have X7 := Lib.hid (X6.out.below hb); have L7 := Lib.hid (below_next L6.out L6.out.size hb); clear hb; obtain ⟨ta, tb, tc⟩ := T7.out.cells; obtain ⟨xa, xb, xc⟩ := X7.out.cells)
    | (go_at_call 9; refine (spec_stable_any _ _ b.f0 _ _ b.f1 _ _ b.f2 _ T7.out.book.form_D.1 T7.out.book.form_D.2.1 T7.out.book.form_D.2.2).mono ?_; rintro e w7 ⟨rfl, hb⟩; rw [← HSB.out]; clear ta tb tc xa xb xc; have T8 := Lib.hid (T7.out.below hb); have X8 := Lib.hid (X7.out.below hb); have L8 := Lib.hid (below_next L7.out L7.out.size hb); clear hb; obtain ⟨ta, tb, tc⟩ := T8.out.cells; obtain ⟨xa, xb, xc⟩ := X8.out.cells))
  clear HB4
  cases hok : okB b
  case false =>
    have HOK := Lib.hid hok
    have hx0 : xb_ = emptyB := HXB.out.trans (compressR_bad hok)
    clear hok HXB
    go_wp2_with (fail)
    refine (spec_bookOk_any _ _ b.f0 _ _ b.f1 _ _ b.f2 _ T8.out.book.form_D.1 T8.out.book.form_D.2.1 T8.out.book.form_D.2.2).mono ?_
    rintro e w8 ⟨rfl, hb⟩
    rw [show fitsB b.f0 b.f1 b.f2 = false from HOK.out]
    clear ta tb tc
    clear xa xb xc
    have T9 := Lib.hid (T8.out.below hb)
    have X9 := Lib.hid (X8.out.below hb)
    have L9 := Lib.hid (below_next L8.out L8.out.size hb)
    clear T8 X8 L8
    clear hb
    obtain ⟨ta, tb, tc⟩ := T9.out.cells
    obtain ⟨xa, xb, xc⟩ := X9.out.cells
    subst hx0
    go_wp2_with (fail)
    refine (wBookC_any _ _ _ _ _ _ none 0 none 0 none 0 emptyB _ X9.out.book.form_D.1 X9.out.book.form_D.2.1 X9.out.book.form_D.2.2 (emptyO _ 0).rd.form_D.1 (emptyO _ 0).rd.form_D.2.1 (emptyO _ 0).rd.form_D.2.2 (Kd.R_reads' X9.out.book.slots).2.1 (Nat.le_refl 0) (by decide)).mono ?_
    rintro e w9 ⟨rfl, hb⟩
    clear ta tb tc
    clear xa xb xc
    have T10 := Lib.hid (T9.out.below hb)
    have X10 := Lib.hid (X9.out.below hb)
    have L10 := Lib.hid (below_next L9.out L9.out.size hb)
    clear T9 X9 L9
    clear hb
    obtain ⟨ta, tb, tc⟩ := T10.out.cells
    obtain ⟨xa, xb, xc⟩ := X10.out.cells
    go_wp2
    go_ret
    exact ⟨rfl, L10.out⟩
  have HOK := Lib.hid hok
  have HX := Lib.hid (HXB.out.trans (compressR_ok hok))
  have H1 : Hid (okB xb_ = true) := by rw [HX.out]; exact compB_ok hok
  have H2 : Hid (noLB b xb_ = true) := by rw [HX.out]; exact noLB_comp hok
  have H3 : Hid (stableB xb_.f0 xb_.f1 xb_.f2 = true) := by rw [HX.out]; exact stable_comp hok
  have H4 : Hid (compressR xb_ = xb_) := by rw [HX.out]; exact compressR_again hok
  have H5 : Hid (∀ (i : Nat) (x : Int), xb_.f2[i]? = some x → leastB xb_.f0 xb_.f1 xb_.f2 (i : Int) = x) := by rw [HX.out]; exact fun i x hx => least_compB hok hx
  have H6 : Hid (xb_.f2.length = xb_.f1.length) := okB_len H1.out
  clear hok HX HXB
  go_wp2_with (fail)
  refine (spec_bookOk_any _ _ b.f0 _ _ b.f1 _ _ b.f2 _ T8.out.book.form_D.1 T8.out.book.form_D.2.1 T8.out.book.form_D.2.2).mono ?_
  rintro e w8 ⟨rfl, hb⟩
  rw [show fitsB b.f0 b.f1 b.f2 = true from HOK.out]
  clear ta tb tc
  clear xa xb xc
  have T9 := Lib.hid (T8.out.below hb)
  have X9 := Lib.hid (X8.out.below hb)
  have L9 := Lib.hid (below_next L8.out L8.out.size hb)
  clear T8 X8 L8
  clear hb
  obtain ⟨ta, tb, tc⟩ := T9.out.cells
  obtain ⟨xa, xb, xc⟩ := X9.out.cells
  obtain ⟨dl_, hdl⟩ : ∃ x, x = delayN xb_.f1 xb_.f2 := ⟨_, rfl⟩
  have HDL := Lib.hid hdl
  clear hdl
  have edl : (dl_ == dl_) = true := beq_self_eq_true _
  clear ta tb tc xa xb xc
  have T10 : Hid (BoxR (w8).drew w.heap.size w1.heap.size (.slice AB b.f0.length cB) (.slice CB b.f1.length dB) (.slice DB b.f2.length eB) b) := T9.out.below (pw_below_drewN (Below.refl _ _) 1)
  have X10 : Hid (BoxR (w8).drew w.heap.size w2.heap.size (.slice AX xb_.f0.length cX) (.slice CX xb_.f1.length dX) (.slice DX xb_.f2.length eX) xb_) := X9.out.below (pw_below_drewN (Below.refl _ _) 1)
  have L10 : Hid (Below w.heap.size w (w8).drew) := pw_below_drewN L9.out 1
  clear T9 X9 L9
  obtain ⟨ta, tb, tc⟩ := T10.out.cells
  obtain ⟨xa, xb, xc⟩ := X10.out.cells
  go_wp2
  go_region_held3 (fun W' => W'.cell? ⟨w1.heap.size, 0, none⟩ = some (.slice AB b.f0.length cB) ∧ W'.cell? ⟨w1.heap.size, 1, none⟩ = some (.slice CB b.f1.length dB) ∧ W'.cell? ⟨w1.heap.size, 2, none⟩ = some (.slice DB b.f2.length eB) ∧ W'.cell? ⟨w2.heap.size, 0, none⟩ = some (.slice AX xb_.f0.length cX) ∧ W'.cell? ⟨w2.heap.size, 1, none⟩ = some (.slice CX xb_.f1.length dX) ∧ W'.cell? ⟨w2.heap.size, 2, none⟩ = some (.slice DX xb_.f2.length eX)) (first | (exact ⟨by assumption, by assumption, by assumption, by assumption, by assumption, by assumption⟩) | go_keep) (first
    | (go_at_call 8; refine (impl_stable_any _ _ xb_.f0 _ _ xb_.f1 _ _ xb_.f2 _ X10.out.book.form_D.1 X10.out.book.form_D.2.1 X10.out.book.form_D.2.2).mono ?_; rintro e w9 ⟨rfl, hb⟩; rw [H3.out]; clear ta tb tc xa xb xc; have T11 := Lib.hid (T10.out.below hb); have X11 := Lib.hid (X10.out.below hb); have L11 := Lib.hid (below_next L10.out L10.out.size hb); clear hb; obtain ⟨ta, tb, tc⟩ := T11.out.cells; obtain ⟨xa, xb, xc⟩ := X11.out.cells)
    | (go_at_call 11; refine (wNoLater_any _ _ _ _ _ _ _ _ _ _ _ _ b xb_ _ T11.out.book.form_D.1 T11.out.book.form_D.2.1 T11.out.book.form_D.2.2 X11.out.book.form_D.1 X11.out.book.form_D.2.1 X11.out.book.form_D.2.2 (okB_small9 HOK.out).1 (okB_small9 H1.out).1).mono ?_; rintro e w10 ⟨rfl, hb⟩; rw [H2.out]; clear ta tb tc xa xb xc; have T12 := Lib.hid (T11.out.below hb); have X12 := Lib.hid (X11.out.below hb); have L12 := Lib.hid (below_next L11.out L11.out.size hb); clear hb; obtain ⟨ta, tb, tc⟩ := T12.out.cells; obtain ⟨xa, xb, xc⟩ := X12.out.cells)
    | (go_at_call 5; refine (impl_flowCompress_any _ _ _ _ _ _ xb_ _ X12.out.book.form_D.1 X12.out.book.form_D.2.1 X12.out.book.form_D.2.2).mono ?_; rintro e w11 ⟨u0, u1, u2, rfl, ho, hb⟩; rw [H4.out] at ho; obtain ⟨AZ, cZ, CZ, dZ, DZ, eZ, rfl, rfl, rfl, _, _, _⟩ := ho.form; have HB11 := Lib.hid ho.rd; clear ho; clear ta tb tc xa xb xc; have T13 := Lib.hid (T12.out.below hb); have X13 := Lib.hid (X12.out.below hb); have L13 := Lib.hid (below_next L12.out L12.out.size hb); clear hb; obtain ⟨ta, tb, tc⟩ := T13.out.cells; obtain ⟨xa, xb, xc⟩ := X13.out.cells)
    | (go_at_call 6; refine (wBookC_any _ _ _ _ _ _ _ _ _ _ _ _ xb_ _ HB11.out.form_D.1 HB11.out.form_D.2.1 HB11.out.form_D.2.2 X13.out.book.form_D.1 X13.out.book.form_D.2.1 X13.out.book.form_D.2.2 (Kd.R_reads' HB11.out.slots).2.1 (Kd.R_reads' X13.out.book.slots).2.1 (by omega)).mono ?_; rintro e w12 ⟨rfl, hb⟩; clear ta tb tc xa xb xc; have T14 := Lib.hid (T13.out.below hb); have X14 := Lib.hid (X13.out.below hb); have L14 := Lib.hid (below_next L13.out L13.out.size hb); clear hb; obtain ⟨ta, tb, tc⟩ := T14.out.cells; obtain ⟨xa, xb, xc⟩ := X14.out.cells)
    | (go_at_call 12; refine (impl_delay_any _ _ xb_.f1 _ _ xb_.f2 _ X14.out.book.form_D.2.1 X14.out.book.form_D.2.2).mono ?_; rintro e w13 ⟨rfl, hb⟩; rw [← HDL.out]; clear ta tb tc xa xb xc; have T15 := Lib.hid (T14.out.below hb); have X15 := Lib.hid (X14.out.below hb); have L15 := Lib.hid (below_next L14.out L14.out.size hb); clear hb; obtain ⟨ta, tb, tc⟩ := T15.out.cells; obtain ⟨xa, xb, xc⟩ := X15.out.cells)
    | (go_at_call 13; refine (spec_delay_any _ _ xb_.f1 _ _ xb_.f2 _ X15.out.book.form_D.2.1 X15.out.book.form_D.2.2).mono ?_; rintro e w14 ⟨rfl, hb⟩; rw [← HDL.out]; clear ta tb tc xa xb xc; have T16 := Lib.hid (T15.out.below hb); have X16 := Lib.hid (X15.out.below hb); have L16 := Lib.hid (below_next L15.out L15.out.size hb); clear hb; obtain ⟨ta, tb, tc⟩ := T16.out.cells; obtain ⟨xa, xb, xc⟩ := X16.out.cells))
  clear HB11 ta tb tc
  go_wp2
  go_loopw [5] (fun vk wr => ∃ i : Nat, vk = .int .i64 i ∧ i ≤ xb_.f1.length ∧ Hid (BoxR wr w.heap.size w2.heap.size (.slice AX xb_.f0.length cX) (.slice CX xb_.f1.length dX) (.slice DX xb_.f2.length eX) xb_) ∧ Hid (Below w.heap.size w wr)) (fun vk _ => xb_.f1.length - (intOf vk).toNat)
  case atStart => exact ⟨0, rfl, Nat.zero_le _, X16, L16⟩
  case round =>
    obtain ⟨i, rfl, hi, X40, L40⟩ := hrel
    clear xa xb xc X16 L16
    obtain ⟨wq, rfl⟩ : ∃ wo : World, wo = wr := ⟨_, rfl⟩
    obtain ⟨xa, xb, xc⟩ := X40.out.cells
    by_cases hlt : i < xb_.f1.length
    · have j1 : (i : Int) < xb_.f1.length := by omega
      have hi2 : i < xb_.f2.length := by rw [H6.out]; exact hlt
      have j2 : (i : Int) < xb_.f2.length := by omega
      obtain ⟨xi, hxi⟩ : ∃ x, xb_.f2[i]? = some x := ⟨_, List.getElem?_eq_getElem hi2⟩
      have HLE := Lib.hid (H5.out i xi hxi)
      have HXI := Lib.hid hxi
      clear hxi
      have exi : (xi == xi) = true := beq_self_eq_true _
      go_wp2_with (fail)
      refine (impl_flowLeast_any _ _ xb_.f0 _ _ xb_.f1 _ _ xb_.f2 (i : Int) _ X40.out.book.form_D.1 X40.out.book.form_D.2.1 X40.out.book.form_D.2.2).mono ?_
      rintro e w20 ⟨rfl, hb⟩
      rw [HLE.out]
      clear xa xb xc
      have X41 := Lib.hid (X40.out.below hb)
      have L41 := Lib.hid (below_next L40.out L40.out.size hb)
      clear X40 L40
      clear hb
      obtain ⟨xa, xb, xc⟩ := X41.out.cells
      obtain ⟨ad, xi', rfl, hx', cx⟩ := intAt (X41.out.book.form_D.2.2) i hi2
      obtain rfl : xi' = xi := Option.some.inj (hx'.symm.trans HXI.out)
      clear hx'
      go_wp2_with (fail)
      refine (spec_flowLeast_any _ _ xb_.f0 _ _ xb_.f1 _ _ xb_.f2 (i : Int) _ X41.out.book.form_D.1 X41.out.book.form_D.2.1 X41.out.book.form_D.2.2).mono ?_
      rintro e w21 ⟨rfl, hb⟩
      rw [HLE.out]
      clear xa xb xc
      have X42 := Lib.hid (X41.out.below hb)
      have L42 := Lib.hid (below_next L41.out L41.out.size hb)
      clear X41 L41
      clear hb
      obtain ⟨xa, xb, xc⟩ := X42.out.cells
      clear cx
      go_wp2
      go_roundw
      case rel => exact ⟨i + 1, by go_num, hlt, X42, L42⟩
      case measure => simp [intOf]; omega
    · obtain rfl : i = xb_.f1.length := by omega
      go_wp2_with (fail)
      refine (wBounded_any _ _ xb_.f0 _ _ xb_.f1 _ _ xb_.f2 _ X40.out.book.form_D.1 X40.out.book.form_D.2.1 X40.out.book.form_D.2.2 (show fitsB xb_.f0 xb_.f1 xb_.f2 = true from H1.out)).mono ?_
      rintro e w22 ⟨rfl, hb⟩
      clear xa xb xc
      have X41 := Lib.hid (X40.out.below hb)
      have L41 := Lib.hid (below_next L40.out L40.out.size hb)
      clear X40 L40
      clear hb
      obtain ⟨xa, xb, xc⟩ := X41.out.cells
      go_wp2
      go_ret
      exact ⟨rfl, L41.out⟩
end Go.Proofs.YthcpbojmalgdbaaGreat.Q
end
section
namespace Go.Proofs.YthcpbojmalgdbaaGreat.fnCompress
open Go.ChangeShapes Go.WideShapes Go.ChangeAt Go.RowKit
open Go.ChangeMaps (open_string shut_string)
set_option linter.unusedVariables false
theorem own : ownKnob Tryz.prog.godebug = none := by kernel_rfl
theorem laidOut : laidOutB Tryz.prog = true := by kernel_rfl
set_option maxRecDepth 100000 in
theorem lifted (os : Os) (started : os.Started) (H : Type) (enc : TypeId × Value → H) :
    ReturnsInHanded {} Tryz.checked os 3 .any (Rows.fnCompressSpec.pre6 enc Tryz.prog Tryz.f3 Rows.fnCompressRow.domain false) (Rows.fnCompressSpec.post enc Tryz.prog Tryz.f3 false true false false) := by
  refine returnsInHanded_of_change_sized (C := Tryz.checked) own started (by kernel_rfl) Tryz.func3
    (ChangeSpec.witness6 (enc := enc) (C := Tryz.checked) false ⟨#[], #[.slice none 0 0], []⟩ 8 (by kernel_rfl) (by kernel_rfl) (by kernel_rfl) (by kernel_rfl)) ?_
  intro W base args ds gs before hval0 hW hcnd hsz0 _
  have hsz : (DataW.weightsEach Tryz.prog (Tryz.f3.params.toList ++ Rows.fnCompressSpec.plain.varTypes Tryz.prog) (ds ++ gs)).all (· ≤ reachBytes) = true := hsz0
  have hval : ∀ (j : Nat) t v, Tryz.f3.params[j]? = some t → args[j]? = some v → Value.okWide Tryz.prog W .any base t v := hval0
  have hW' := hW
  obtain ⟨p, q, hA0, hV, rfl, hfz, hnd⟩ := hW
  have hA : DataW.TrodAll enc Tryz.prog W 0 (fun _ => true) true Tryz.f3.params.toList args.toList ds p := hA0
  rw [Tryz.params3] at hA hval hsz
  obtain ⟨v0, vs0, d0, ds0, p0, q0, hargs, rfl, rfl, h0, r0⟩ := trodAll_cons hA
  obtain ⟨rfl, rfl, rfl⟩ := trodAll_nil r0
  obtain rfl : args = #[v0] := by cases args; simp_all
  obtain ⟨rfl, rfl⟩ := trodVars_none hV
  obtain ⟨a0, len0, cap0, rfl⟩ := okWide_slice Tryz.underlying22 (hval 0 22 v0 rfl rfl)
  have k0 := h0
  have lt0 : ∀ x ∈ p0, x.block < W.heap.size := by obtain ⟨m, hm⟩ := k0; exact DataW.trod_lt m _ _ _ hm
  obtain ⟨l0, rfl, hc0, hr0, hg0⟩ := Q.arg_bytes h0
  clear hA0 hval0 hsz0 hsz
  refine (Q.walk_fncompress a0 cap0 l0 W hr0 hc0 hg0).mono fun e W' ⟨he, bel⟩ => ?_
  subst he
  exact ⟨_, rfl, _, _, _, [], _, [], hW', trodAll_mk1 (shut_bool Tryz.underlying4 _), (trodAll_cons_mk (Below.trod laidOut (by kernel_rfl) (of_decide_eq_true (by kernel_rfl)) k0 bel lt0) trodAll_mk0), rfl, bel.frame _, fun h => by cases h⟩
theorem over : Rows.fnCompressRow.holds Tryz.pinned (OpenSpec.ofChange Rows.fnCompressSpec) :=
  OpenClaim.holds_of_wide 3 Tryz.f3 rfl rfl rfl rfl rfl rfl rfl ⟨rfl, rfl, rfl, rfl, rfl⟩ rfl rfl rfl rfl rfl (by kernel_rfl) Tryz.func3 (by kernel_rfl)
    (of_decide_eq_true (by kernel_rfl)) (by unfold Func.isWrapper; first | (rw [if_pos (by decide +kernel)]; kernel_rfl) | (rw [if_neg (by decide +kernel)]; exact ⟨rfl, rfl⟩))
    (fun os started H enc _ => lifted os started H enc)
theorem proved : Rows.FnCompressSaid := over
#print axioms proved
end Go.Proofs.YthcpbojmalgdbaaGreat.fnCompress
end
