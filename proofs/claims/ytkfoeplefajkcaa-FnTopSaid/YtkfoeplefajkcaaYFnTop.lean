/- Proved: for every input that can be read, laws.FnTop answers true and each argument reads behind the call as it read before. No conditions. -/
import Derived.Test.YtkfoeplefajkcaaMgF
import Derived.Test.YtkfoeplefajkcaaMgV
import Derived.Test.YtkfoeplefajkcaaMgAd
import Derived.Test.YtkfoeplefajkcaaMgDp
import Derived.Test.YtkfoeplefajkcaaMgB
import Derived.Test.YtkfoeplefajkcaaRows
import Derived.Test.YtkfoeplefajkcaaMgS
import Derived.WalkKit
import Derived.ProofKit
import Derived.OpenShut
import Derived.ShutString
import Derived.ChangeOld
import Derived.Below
import Derived.SizedLaws
section
namespace Go.Proofs.Ytkfoeplefajkcaa.Q
open Go.RowKit Go.Proofs.YtkfoeplefajkcaaW.PrintWords Go.Proofs.YtkfoeplefajkcaaW.PrintLast Go.Proofs.YtkfoeplefajkcaaW.PrintMore Go.Proofs.Ytkfoeplefajkcaa.Core
set_option linter.unusedVariables false
set_option linter.unusedSimpArgs false
theorem stableB_of {b : Book} (h : okB b = true) (hs : ∀ i, i < b.f1.length → leastAt b.f0 b.f1 b.f2 i = b.f2.getD i 0) : stableB b.f0 b.f1 b.f2 = true := by
  have h1 : fitsB b.f0 b.f1 b.f2 = true := h
  unfold stableB stableFrom
  rw [h1, List.drop_zero, Bool.true_and, List.all_eq_true]
  intro i hi
  rw [List.mem_range, okB_len h] at hi
  rw [hs i hi]
  exact beq_self_eq_true _
theorem okB_small {b : Book} (h : okB b = true) : b.f1.length ≤ b.f2.length ∧ b.f2.length ≤ 10000000 := by
  have h1 := okB_len h
  have h2 := (flightsB_parts (slotsB_parts (fitsB_parts h).2.1).1).1
  omega
set_option maxRecDepth 100000 in
set_option maxHeartbeats 16000000 in
theorem walk_fntop (A0 : Option Addr) (c0 : Nat) (l0 : List Int) (w : World) (hr0 : Kd.C (Kd.int .u8) w A0 l0.length l0) (hc0 : l0.length ≤ c0) (hg0 : ∀ y ∈ l0, (fun y : Int => 0 ≤ y ∧ y ≤ 255) y) :
    Calls Try.prog 9 #[.slice A0 l0.length c0] w fun e w' => e = .returned (.bool true) ∧ Below w.heap.size w w' := by
  have HR := Lib.hid hr0
  have HG := Lib.hid (show byteL l0 from hg0)
  clear hr0 hg0
  by_cases hs : 1048576 < l0.length
  · have e1 : decide ((1048576 : Int) < l0.length) = true := by simp; omega
    go_enter Try.func9, Try.ntmps9
    go_wp2
    go_ret
    exact ⟨rfl, Below.refl _ _⟩
  have e1 : decide ((1048576 : Int) < l0.length) = false := by simp; omega
  go_enter Try.func9, Try.ntmps9
  go_wp2_with (fail)
  refine (drawEvents_any A0 c0 l0 _ HR.out hc0 HG.out).mono ?_
  rintro e w1 ⟨A1, c1, caps, A2, c2, ev, hok, hn, rfl, ho1, ho2, hb1⟩
  have z1 := hb1.size
  have hb0 := below_alloc (Below.refl w1.heap.size w1) (.cells #[.slice A1 caps.length c1, .slice none 0 0, .slice none 0 0] 55)
  have T0 : Hid (BoxB (w1.alloc (.cells #[.slice A1 caps.length c1, .slice none 0 0, .slice none 0 0] 55)) w.heap.size w1.heap.size (.slice A1 caps.length c1) (.slice none 0 0) (.slice none 0 0) ⟨caps, [], []⟩) := BoxB.made ⟨ho1, Kd.S_nil _ _ _ _ _, Kd.R_nil _ _ _ _ _⟩
  have E0 := Lib.hid (Kd.R_below ho2 hb0)
  have L0 := Lib.hid (below_next hb1 hb1.size hb0)
  have HK0 : Hid (okB ⟨caps, [], []⟩ = true) := okB_empty hok
  have hB : w.heap.size ≤ w1.heap.size := z1
  clear ho1 ho2 hb1 hb0
  go_wp2
  go_loopw [6] (fun vi wr => ∃ (i : Nat) (v0 v1 v2 : Value) (b : Book), vi = .int .i64 i ∧ i ≤ ev.length ∧ Hid (okB b = true) ∧ Hid (BoxB wr w.heap.size w1.heap.size v0 v1 v2 b) ∧ Hid (Kd.R k61 61 wr w.heap.size (fun _ => True) (.slice A2 ev.length c2) ev) ∧ Hid (Below w.heap.size w wr)) (fun vi _ => ev.length - (intOf vi).toNat)
  case atStart => exact ⟨0, _, _, _, _, rfl, Nat.zero_le _, HK0, T0, E0, L0⟩
  case round =>
    clear T0 E0 L0 HK0
    obtain ⟨i, v0, v1, v2, b, rfl, hi, HK0, T0, E0, L0⟩ := hrel
    obtain ⟨wa, rfl⟩ : ∃ wo : World, wo = wr := ⟨_, rfl⟩
    obtain ⟨AB, cB, CB, dB, DB, eB, rfl, rfl, rfl, _, _, _⟩ := T0.out.book.form
    by_cases hlt : i < ev.length
    · have j1 : (i : Int) < ev.length := by omega
      obtain ⟨ad, f, A3, c3, rfl, hf, p0, p1, p2, p3, hl3, hr3⟩ := flightAt (Kd.R_reads' E0.out).2.2 i hlt
      have hb : Below wa.heap.size wa (wa.alloc (.cells #[.string f.f0, .int .i64 f.f1, .int .i64 f.f2, .slice A3 f.f3.length c3] 61)) := below_alloc (Below.refl _ _) _
      have F1 : Hid (BoxF (wa.alloc (.cells #[.string f.f0, .int .i64 f.f1, .int .i64 f.f2, .slice A3 f.f3.length c3] 61)) wa.heap.size f A3 c3) := BoxF.made hr3
      have T1 := Lib.hid (T0.out.below hb)
      have E1 := Lib.hid (Kd.R_below E0.out hb)
      have L1 := Lib.hid (below_next L0.out L0.out.size hb)
      clear hf hr3 hb T0 E0 L0
      obtain ⟨ta, tb, tc⟩ := T1.out.cells
      obtain ⟨fa, fb, fc, fd⟩ := F1.out.cells
      by_cases hv : f.f3.length = 0
      · have ev0 : (((f.f3.length : Nat) : Int) == 0) = true := by rw [hv]; rfl
        clear hv
        obtain ⟨xb_, hxb⟩ : ∃ x, x = (dropR b f.f0).1 := ⟨_, rfl⟩
        obtain ⟨cd, hcd⟩ : ∃ x, x = (dropR b f.f0).2 := ⟨_, rfl⟩
        have HX1 : Hid (okB xb_ = true) := by show _ = _; rw [hxb]; exact (dropR_ok HK0.out _).1
        have HX2 : Hid (noLB b xb_ = true) := by show _ = _; rw [hxb]; exact (dropR_no HK0.out _).1
        have hcc : cd = 0 ∨ cd = 3 := by rw [hcd]; exact (dropR_no HK0.out _).2.1
        have HX3 : Hid (cd = 0 → stableB xb_.f0 xb_.f1 xb_.f2 = true) := fun h0 => stableB_of HX1.out (by rw [hcd] at h0; rw [hxb]; exact (dropR_no HK0.out _).2.2 h0)
        have HXB := Lib.hid hxb
        have HCD := Lib.hid hcd
        clear hxb hcd
        go_wp2_with (fail)
        refine (impl_flowDrop_any _ _ _ _ _ _ b f.f0 _ T1.out.book.form_D.1 T1.out.book.form_D.2.1 T1.out.book.form_D.2.2).mono ?_
        rintro e w2 ⟨u0, u1, u2, rfl, ho, hb⟩
        rw [← HXB.out] at ho
        rw [← HCD.out]
        obtain ⟨AX, cX, CX, dX, DX, eX, rfl, rfl, rfl, _, _, _⟩ := ho.form
        have zb := hb.size
        have ho' := Lib.hid (ho.lower (base' := w.heap.size) (by have := L1.out.size; omega))
        clear ta tb tc
        clear fa fb fc fd
        have T2 := Lib.hid (T1.out.below hb)
        have F2 := Lib.hid (F1.out.below hb)
        have E2 := Lib.hid (Kd.R_below E1.out hb)
        have L2 := Lib.hid (below_next L1.out L1.out.size hb)
        clear T1 F1 E1 L1
        clear ho hb zb
        have hb : Below w2.heap.size w2 (w2.alloc (.cells #[.slice AX xb_.f0.length cX, .slice CX xb_.f1.length dX, .slice DX xb_.f2.length eX] 55)) := below_alloc (Below.refl _ _) _
        have X3 : Hid (BoxB (w2.alloc (.cells #[.slice AX xb_.f0.length cX, .slice CX xb_.f1.length dX, .slice DX xb_.f2.length eX] 55)) w.heap.size w2.heap.size (.slice AX xb_.f0.length cX) (.slice CX xb_.f1.length dX) (.slice DX xb_.f2.length eX) xb_) := BoxB.made ho'.out
        have T3 := Lib.hid (T2.out.below hb)
        have F3 := Lib.hid (F2.out.below hb)
        have E3 := Lib.hid (Kd.R_below E2.out hb)
        have L3 := Lib.hid (below_next L2.out L2.out.size hb)
        clear T2 F2 E2 L2
        clear hb ho'
        obtain ⟨ta, tb, tc⟩ := T3.out.cells
        obtain ⟨fa, fb, fc, fd⟩ := F3.out.cells
        obtain ⟨xa, xb, xc⟩ := X3.out.cells
        go_wp2_with (fail)
        refine (spec_flowDrop_any _ _ _ _ _ _ b f.f0 _ T3.out.book.form_D.1 T3.out.book.form_D.2.1 T3.out.book.form_D.2.2).mono ?_
        rintro e w4 ⟨u0, u1, u2, rfl, ho, hb⟩
        rw [← HXB.out] at ho
        rw [← HCD.out]
        obtain ⟨AY, cY, CY, dY, DY, eY, rfl, rfl, rfl, _, _, _⟩ := ho.form
        have zb := hb.size
        have ho' := Lib.hid (ho.lower (base' := w.heap.size) (by have := L3.out.size; omega))
        clear ta tb tc
        clear fa fb fc fd
        clear xa xb xc
        have T4 := Lib.hid (T3.out.below hb)
        have F4 := Lib.hid (F3.out.below hb)
        have X4 := Lib.hid (X3.out.below hb)
        have E4 := Lib.hid (Kd.R_below E3.out hb)
        have L4 := Lib.hid (below_next L3.out L3.out.size hb)
        clear T3 F3 X3 E3 L3
        clear ho hb zb
        have hb : Below w4.heap.size w4 (w4.alloc (.cells #[.slice AY xb_.f0.length cY, .slice CY xb_.f1.length dY, .slice DY xb_.f2.length eY] 55)) := below_alloc (Below.refl _ _) _
        have Y5 : Hid (BoxB (w4.alloc (.cells #[.slice AY xb_.f0.length cY, .slice CY xb_.f1.length dY, .slice DY xb_.f2.length eY] 55)) w.heap.size w4.heap.size (.slice AY xb_.f0.length cY) (.slice CY xb_.f1.length dY) (.slice DY xb_.f2.length eY) xb_) := BoxB.made ho'.out
        have T5 := Lib.hid (T4.out.below hb)
        have F5 := Lib.hid (F4.out.below hb)
        have X5 := Lib.hid (X4.out.below hb)
        have E5 := Lib.hid (Kd.R_below E4.out hb)
        have L5 := Lib.hid (below_next L4.out L4.out.size hb)
        clear T4 F4 X4 E4 L4
        clear hb ho'
        obtain ⟨ta, tb, tc⟩ := T5.out.cells
        obtain ⟨fa, fb, fc, fd⟩ := F5.out.cells
        obtain ⟨xa, xb, xc⟩ := X5.out.cells
        obtain ⟨ya, yb, yc⟩ := Y5.out.cells
        clear HXB HCD
        have ecc : (cd == cd) = true := beq_self_eq_true _
        go_wp2_with (fail)
        refine (wBook_any _ _ _ _ _ _ xb_ _ _ _ X5.out.book Y5.out.book (okB_small HX1.out).2).mono ?_
        rintro e w6 ⟨rfl, hb⟩
        clear ta tb tc
        clear fa fb fc fd
        clear xa xb xc
        clear ya yb yc
        have T6 := Lib.hid (T5.out.below hb)
        have F6 := Lib.hid (F5.out.below hb)
        have X6 := Lib.hid (X5.out.below hb)
        have Y6 := Lib.hid (Y5.out.below hb)
        have E6 := Lib.hid (Kd.R_below E5.out hb)
        have L6 := Lib.hid (below_next L5.out L5.out.size hb)
        clear T5 F5 X5 Y5 E5 L5
        clear hb
        clear F6 Y6
        obtain ⟨ta, tb, tc⟩ := T6.out.cells
        obtain ⟨xa, xb, xc⟩ := X6.out.cells
        go_wp2_with (fail)
        refine (wNoLater_any _ _ _ _ _ _ _ _ _ _ _ _ b xb_ _ T6.out.book.form_D.1 T6.out.book.form_D.2.1 T6.out.book.form_D.2.2 X6.out.book.form_D.1 X6.out.book.form_D.2.1 X6.out.book.form_D.2.2 (okB_small HK0.out).1 (okB_small HX1.out).1).mono ?_
        rintro e w7 ⟨rfl, hb⟩
        rw [HX2.out]
        clear ta tb tc
        clear xa xb xc
        have T7 := Lib.hid (T6.out.below hb)
        have X7 := Lib.hid (X6.out.below hb)
        have E7 := Lib.hid (Kd.R_below E6.out hb)
        have L7 := Lib.hid (below_next L6.out L6.out.size hb)
        clear T6 X6 E6 L6
        clear hb
        obtain ⟨ta, tb, tc⟩ := T7.out.cells
        obtain ⟨xa, xb, xc⟩ := X7.out.cells
        rcases hcc with rfl | rfl
        · have HX4 := Lib.hid (HX3.out rfl)
          go_wp2_with (fail)
          refine (impl_stable_any _ _ xb_.f0 _ _ xb_.f1 _ _ xb_.f2 _ X7.out.book.form_D.1 X7.out.book.form_D.2.1 X7.out.book.form_D.2.2).mono ?_
          rintro e w8 ⟨rfl, hb⟩
          rw [HX4.out]
          clear ta tb tc
          clear xa xb xc
          have T8 := Lib.hid (T7.out.below hb)
          have X8 := Lib.hid (X7.out.below hb)
          have E8 := Lib.hid (Kd.R_below E7.out hb)
          have L8 := Lib.hid (below_next L7.out L7.out.size hb)
          clear T7 X7 E7 L7
          clear hb
          obtain ⟨ta, tb, tc⟩ := T8.out.cells
          obtain ⟨xa, xb, xc⟩ := X8.out.cells
          have X9 := (OwnB.res X8.out.book L8.out T8.out.box hB (.slice AX xb_.f0.length cX) (.slice CX xb_.f1.length dX) (.slice DX xb_.f2.length eX))
          have TT : Hid (BoxB (((w8.setCell ⟨w1.heap.size, 0, none⟩ (.slice AX xb_.f0.length cX)).setCell ⟨w1.heap.size, 1, none⟩ (.slice CX xb_.f1.length dX)).setCell ⟨w1.heap.size, 2, none⟩ (.slice DX xb_.f2.length eX)) w.heap.size w1.heap.size (.slice AX xb_.f0.length cX) (.slice CX xb_.f1.length dX) (.slice DX xb_.f2.length eX) xb_) := ⟨blk_set (blk_set (blk_set T8.out.box 0 _) 1 _) 2 _, X9.1⟩
          have EE : Hid (Kd.R k61 61 (((w8.setCell ⟨w1.heap.size, 0, none⟩ (.slice AX xb_.f0.length cX)).setCell ⟨w1.heap.size, 1, none⟩ (.slice CX xb_.f1.length dX)).setCell ⟨w1.heap.size, 2, none⟩ (.slice DX xb_.f2.length eX)) w.heap.size (fun _ => True) (.slice (some ad) ev.length c2) ev) := Kd.R_set (Kd.R_set (Kd.R_set E8.out T8.out.box flights_book _ _) (blk_set T8.out.box 0 _) flights_book _ _) (blk_set (blk_set T8.out.box 0 _) 1 _) flights_book _ _
          have LL : Hid (Below w.heap.size w (((w8.setCell ⟨w1.heap.size, 0, none⟩ (.slice AX xb_.f0.length cX)).setCell ⟨w1.heap.size, 1, none⟩ (.slice CX xb_.f1.length dX)).setCell ⟨w1.heap.size, 2, none⟩ (.slice DX xb_.f2.length eX))) := X9.2
          clear X9
          obtain ⟨sa, sb, sc⟩ := TT.out.cells
          have fr0 := blk_frozen T8.out.box 0
          have fr1 := blk_frozen T8.out.box 1
          have fr2 := blk_frozen T8.out.box 2
          go_wp2_with (fail)
          clear sa sb sc fr0 fr1 fr2
          clear ta tb tc
          clear xa xb xc
          clear T8 X8 E8 L8
          refine (impl_bookOk_any _ _ xb_.f0 _ _ xb_.f1 _ _ xb_.f2 _ TT.out.book.form_D.1 TT.out.book.form_D.2.1 TT.out.book.form_D.2.2).mono ?_
          rintro e w20 ⟨rfl, hb⟩
          rw [show fitsB xb_.f0 xb_.f1 xb_.f2 = true from HX1.out]
          have T20 := Lib.hid (TT.out.below hb)
          have E20 := Lib.hid (Kd.R_below EE.out hb)
          have L20 := Lib.hid (below_next LL.out LL.out.size hb)
          clear hb TT EE LL
          obtain ⟨ta, tb, tc⟩ := T20.out.cells
          go_wp2_with (fail)
          refine (wOver_any _ _ xb_.f0 _ _ xb_.f1 _ _ xb_.f2 0 _ T20.out.book.form_D.1 T20.out.book.form_D.2.1 T20.out.book.form_D.2.2 HX1.out (by omega) (by omega)).mono ?_
          rintro e w21 ⟨rfl, hb⟩
          have T21 := Lib.hid (T20.out.below hb)
          have E21 := Lib.hid (Kd.R_below E20.out hb)
          have L21 := Lib.hid (below_next L20.out L20.out.size hb)
          clear hb T20 E20 L20 ta tb tc
          obtain ⟨ta, tb, tc⟩ := T21.out.cells
          go_wp2_with (fail)
          refine (wOver_any _ _ xb_.f0 _ _ xb_.f1 _ _ xb_.f2 9999 _ T21.out.book.form_D.1 T21.out.book.form_D.2.1 T21.out.book.form_D.2.2 HX1.out (by omega) (by omega)).mono ?_
          rintro e w22 ⟨rfl, hb⟩
          have T22 := Lib.hid (T21.out.below hb)
          have E22 := Lib.hid (Kd.R_below E21.out hb)
          have L22 := Lib.hid (below_next L21.out L21.out.size hb)
          clear hb T21 E21 L21 ta tb tc
          go_wp2
          go_roundw
          case rel => exact ⟨i + 1, _, _, _, _, by go_num, hlt, HX1, T22, E22, L22⟩
          case measure => simp [intOf]; omega
        · have WW := z1
          have X9 := (OwnB.res X7.out.book L7.out T7.out.box hB (.slice AX xb_.f0.length cX) (.slice CX xb_.f1.length dX) (.slice DX xb_.f2.length eX))
          have TT : Hid (BoxB (((w7.setCell ⟨w1.heap.size, 0, none⟩ (.slice AX xb_.f0.length cX)).setCell ⟨w1.heap.size, 1, none⟩ (.slice CX xb_.f1.length dX)).setCell ⟨w1.heap.size, 2, none⟩ (.slice DX xb_.f2.length eX)) w.heap.size w1.heap.size (.slice AX xb_.f0.length cX) (.slice CX xb_.f1.length dX) (.slice DX xb_.f2.length eX) xb_) := ⟨blk_set (blk_set (blk_set T7.out.box 0 _) 1 _) 2 _, X9.1⟩
          have EE : Hid (Kd.R k61 61 (((w7.setCell ⟨w1.heap.size, 0, none⟩ (.slice AX xb_.f0.length cX)).setCell ⟨w1.heap.size, 1, none⟩ (.slice CX xb_.f1.length dX)).setCell ⟨w1.heap.size, 2, none⟩ (.slice DX xb_.f2.length eX)) w.heap.size (fun _ => True) (.slice (some ad) ev.length c2) ev) := Kd.R_set (Kd.R_set (Kd.R_set E7.out T7.out.box flights_book _ _) (blk_set T7.out.box 0 _) flights_book _ _) (blk_set (blk_set T7.out.box 0 _) 1 _) flights_book _ _
          have LL : Hid (Below w.heap.size w (((w7.setCell ⟨w1.heap.size, 0, none⟩ (.slice AX xb_.f0.length cX)).setCell ⟨w1.heap.size, 1, none⟩ (.slice CX xb_.f1.length dX)).setCell ⟨w1.heap.size, 2, none⟩ (.slice DX xb_.f2.length eX))) := X9.2
          clear X9
          obtain ⟨sa, sb, sc⟩ := TT.out.cells
          have fr0 := blk_frozen T7.out.box 0
          have fr1 := blk_frozen T7.out.box 1
          have fr2 := blk_frozen T7.out.box 2
          go_wp2_with (fail)
          clear sa sb sc fr0 fr1 fr2
          clear ta tb tc
          clear xa xb xc
          clear T7 X7 E7 L7
          refine (impl_bookOk_any _ _ xb_.f0 _ _ xb_.f1 _ _ xb_.f2 _ TT.out.book.form_D.1 TT.out.book.form_D.2.1 TT.out.book.form_D.2.2).mono ?_
          rintro e w20 ⟨rfl, hb⟩
          rw [show fitsB xb_.f0 xb_.f1 xb_.f2 = true from HX1.out]
          have T20 := Lib.hid (TT.out.below hb)
          have E20 := Lib.hid (Kd.R_below EE.out hb)
          have L20 := Lib.hid (below_next LL.out LL.out.size hb)
          clear hb TT EE LL
          obtain ⟨ta, tb, tc⟩ := T20.out.cells
          go_wp2_with (fail)
          refine (wOver_any _ _ xb_.f0 _ _ xb_.f1 _ _ xb_.f2 0 _ T20.out.book.form_D.1 T20.out.book.form_D.2.1 T20.out.book.form_D.2.2 HX1.out (by omega) (by omega)).mono ?_
          rintro e w21 ⟨rfl, hb⟩
          have T21 := Lib.hid (T20.out.below hb)
          have E21 := Lib.hid (Kd.R_below E20.out hb)
          have L21 := Lib.hid (below_next L20.out L20.out.size hb)
          clear hb T20 E20 L20 ta tb tc
          obtain ⟨ta, tb, tc⟩ := T21.out.cells
          go_wp2_with (fail)
          refine (wOver_any _ _ xb_.f0 _ _ xb_.f1 _ _ xb_.f2 9999 _ T21.out.book.form_D.1 T21.out.book.form_D.2.1 T21.out.book.form_D.2.2 HX1.out (by omega) (by omega)).mono ?_
          rintro e w22 ⟨rfl, hb⟩
          have T22 := Lib.hid (T21.out.below hb)
          have E22 := Lib.hid (Kd.R_below E21.out hb)
          have L22 := Lib.hid (below_next L21.out L21.out.size hb)
          clear hb T21 E21 L21 ta tb tc
          go_wp2
          go_roundw
          case rel => exact ⟨i + 1, _, _, _, _, by go_num, hlt, HX1, T22, E22, L22⟩
          case measure => simp [intOf]; omega
      · have ev0 : (((f.f3.length : Nat) : Int) == 0) = false := by rw [beq_eq_false_iff_ne]; omega
        clear hv
        obtain ⟨xb_, hxb⟩ : ∃ x, x = (addR b f).1 := ⟨_, rfl⟩
        obtain ⟨cd, hcd⟩ : ∃ x, x = (addR b f).2 := ⟨_, rfl⟩
        have HX1 : Hid (okB xb_ = true) := by show _ = _; rw [hxb]; exact (addR_ok HK0.out _).1
        have HX2 : Hid (noLB b xb_ = true) := by show _ = _; rw [hxb]; exact (addR_no HK0.out _).1
        have HX3 : Hid (0 < cd → noLB xb_ b = true) := fun h0 => by rw [hcd] at h0; rw [hxb, (addR_no HK0.out _).2 h0]; exact noLB_self HK0.out
        have HXB := Lib.hid hxb
        have HCD := Lib.hid hcd
        clear hxb hcd
        go_wp2_with (fail)
        refine (impl_flowAdd_any _ _ _ _ _ _ b f A3 c3 _ T1.out.book.form_D.1 T1.out.book.form_D.2.1 T1.out.book.form_D.2.2 F1.out.vis hl3).mono ?_
        rintro e w2 ⟨u0, u1, u2, rfl, ho, hb⟩
        rw [← HXB.out] at ho
        rw [← HCD.out]
        obtain ⟨AX, cX, CX, dX, DX, eX, rfl, rfl, rfl, _, _, _⟩ := ho.form
        have zb := hb.size
        have ho' := Lib.hid (ho.lower (base' := w.heap.size) (by have := L1.out.size; omega))
        clear ta tb tc
        clear fa fb fc fd
        have T2 := Lib.hid (T1.out.below hb)
        have F2 := Lib.hid (F1.out.below hb)
        have E2 := Lib.hid (Kd.R_below E1.out hb)
        have L2 := Lib.hid (below_next L1.out L1.out.size hb)
        clear T1 F1 E1 L1
        clear ho hb zb
        have hb : Below w2.heap.size w2 (w2.alloc (.cells #[.slice AX xb_.f0.length cX, .slice CX xb_.f1.length dX, .slice DX xb_.f2.length eX] 55)) := below_alloc (Below.refl _ _) _
        have X3 : Hid (BoxB (w2.alloc (.cells #[.slice AX xb_.f0.length cX, .slice CX xb_.f1.length dX, .slice DX xb_.f2.length eX] 55)) w.heap.size w2.heap.size (.slice AX xb_.f0.length cX) (.slice CX xb_.f1.length dX) (.slice DX xb_.f2.length eX) xb_) := BoxB.made ho'.out
        have T3 := Lib.hid (T2.out.below hb)
        have F3 := Lib.hid (F2.out.below hb)
        have E3 := Lib.hid (Kd.R_below E2.out hb)
        have L3 := Lib.hid (below_next L2.out L2.out.size hb)
        clear T2 F2 E2 L2
        clear hb ho'
        obtain ⟨ta, tb, tc⟩ := T3.out.cells
        obtain ⟨fa, fb, fc, fd⟩ := F3.out.cells
        obtain ⟨xa, xb, xc⟩ := X3.out.cells
        go_wp2_with (fail)
        refine (spec_flowAdd_any _ _ _ _ _ _ b f A3 c3 _ T3.out.book.form_D.1 T3.out.book.form_D.2.1 T3.out.book.form_D.2.2 F3.out.vis hl3).mono ?_
        rintro e w4 ⟨u0, u1, u2, rfl, ho, hb⟩
        rw [← HXB.out] at ho
        rw [← HCD.out]
        obtain ⟨AY, cY, CY, dY, DY, eY, rfl, rfl, rfl, _, _, _⟩ := ho.form
        have zb := hb.size
        have ho' := Lib.hid (ho.lower (base' := w.heap.size) (by have := L3.out.size; omega))
        clear ta tb tc
        clear fa fb fc fd
        clear xa xb xc
        have T4 := Lib.hid (T3.out.below hb)
        have F4 := Lib.hid (F3.out.below hb)
        have X4 := Lib.hid (X3.out.below hb)
        have E4 := Lib.hid (Kd.R_below E3.out hb)
        have L4 := Lib.hid (below_next L3.out L3.out.size hb)
        clear T3 F3 X3 E3 L3
        clear ho hb zb
        have hb : Below w4.heap.size w4 (w4.alloc (.cells #[.slice AY xb_.f0.length cY, .slice CY xb_.f1.length dY, .slice DY xb_.f2.length eY] 55)) := below_alloc (Below.refl _ _) _
        have Y5 : Hid (BoxB (w4.alloc (.cells #[.slice AY xb_.f0.length cY, .slice CY xb_.f1.length dY, .slice DY xb_.f2.length eY] 55)) w.heap.size w4.heap.size (.slice AY xb_.f0.length cY) (.slice CY xb_.f1.length dY) (.slice DY xb_.f2.length eY) xb_) := BoxB.made ho'.out
        have T5 := Lib.hid (T4.out.below hb)
        have F5 := Lib.hid (F4.out.below hb)
        have X5 := Lib.hid (X4.out.below hb)
        have E5 := Lib.hid (Kd.R_below E4.out hb)
        have L5 := Lib.hid (below_next L4.out L4.out.size hb)
        clear T4 F4 X4 E4 L4
        clear hb ho'
        obtain ⟨ta, tb, tc⟩ := T5.out.cells
        obtain ⟨fa, fb, fc, fd⟩ := F5.out.cells
        obtain ⟨xa, xb, xc⟩ := X5.out.cells
        obtain ⟨ya, yb, yc⟩ := Y5.out.cells
        clear HXB HCD
        have ecc : (cd == cd) = true := beq_self_eq_true _
        go_wp2_with (fail)
        refine (wBook_any _ _ _ _ _ _ xb_ _ _ _ X5.out.book Y5.out.book (okB_small HX1.out).2).mono ?_
        rintro e w6 ⟨rfl, hb⟩
        clear ta tb tc
        clear fa fb fc fd
        clear xa xb xc
        clear ya yb yc
        have T6 := Lib.hid (T5.out.below hb)
        have F6 := Lib.hid (F5.out.below hb)
        have X6 := Lib.hid (X5.out.below hb)
        have Y6 := Lib.hid (Y5.out.below hb)
        have E6 := Lib.hid (Kd.R_below E5.out hb)
        have L6 := Lib.hid (below_next L5.out L5.out.size hb)
        clear T5 F5 X5 Y5 E5 L5
        clear hb
        clear F6 Y6
        obtain ⟨ta, tb, tc⟩ := T6.out.cells
        obtain ⟨xa, xb, xc⟩ := X6.out.cells
        go_wp2_with (fail)
        refine (wNoLater_any _ _ _ _ _ _ _ _ _ _ _ _ b xb_ _ T6.out.book.form_D.1 T6.out.book.form_D.2.1 T6.out.book.form_D.2.2 X6.out.book.form_D.1 X6.out.book.form_D.2.1 X6.out.book.form_D.2.2 (okB_small HK0.out).1 (okB_small HX1.out).1).mono ?_
        rintro e w7 ⟨rfl, hb⟩
        rw [HX2.out]
        clear ta tb tc
        clear xa xb xc
        have T7 := Lib.hid (T6.out.below hb)
        have X7 := Lib.hid (X6.out.below hb)
        have E7 := Lib.hid (Kd.R_below E6.out hb)
        have L7 := Lib.hid (below_next L6.out L6.out.size hb)
        clear T6 X6 E6 L6
        clear hb
        obtain ⟨ta, tb, tc⟩ := T7.out.cells
        obtain ⟨xa, xb, xc⟩ := X7.out.cells
        go_wp2_with (fail)
        refine (wNoLater_any _ _ _ _ _ _ _ _ _ _ _ _ xb_ b _ X7.out.book.form_D.1 X7.out.book.form_D.2.1 X7.out.book.form_D.2.2 T7.out.book.form_D.1 T7.out.book.form_D.2.1 T7.out.book.form_D.2.2 (okB_small HX1.out).1 (okB_small HK0.out).1).mono ?_
        rintro e w8 ⟨rfl, hb⟩
        clear ta tb tc
        clear xa xb xc
        have T8 := Lib.hid (T7.out.below hb)
        have X8 := Lib.hid (X7.out.below hb)
        have E8 := Lib.hid (Kd.R_below E7.out hb)
        have L8 := Lib.hid (below_next L7.out L7.out.size hb)
        clear T7 X7 E7 L7
        clear hb
        obtain ⟨ta, tb, tc⟩ := T8.out.cells
        obtain ⟨xa, xb, xc⟩ := X8.out.cells
        cases hno : noLB xb_ b with
        | true =>
          clear hno
          have X9 := (OwnB.res X8.out.book L8.out T8.out.box hB (.slice AX xb_.f0.length cX) (.slice CX xb_.f1.length dX) (.slice DX xb_.f2.length eX))
          have TT : Hid (BoxB (((w8.setCell ⟨w1.heap.size, 0, none⟩ (.slice AX xb_.f0.length cX)).setCell ⟨w1.heap.size, 1, none⟩ (.slice CX xb_.f1.length dX)).setCell ⟨w1.heap.size, 2, none⟩ (.slice DX xb_.f2.length eX)) w.heap.size w1.heap.size (.slice AX xb_.f0.length cX) (.slice CX xb_.f1.length dX) (.slice DX xb_.f2.length eX) xb_) := ⟨blk_set (blk_set (blk_set T8.out.box 0 _) 1 _) 2 _, X9.1⟩
          have EE : Hid (Kd.R k61 61 (((w8.setCell ⟨w1.heap.size, 0, none⟩ (.slice AX xb_.f0.length cX)).setCell ⟨w1.heap.size, 1, none⟩ (.slice CX xb_.f1.length dX)).setCell ⟨w1.heap.size, 2, none⟩ (.slice DX xb_.f2.length eX)) w.heap.size (fun _ => True) (.slice (some ad) ev.length c2) ev) := Kd.R_set (Kd.R_set (Kd.R_set E8.out T8.out.box flights_book _ _) (blk_set T8.out.box 0 _) flights_book _ _) (blk_set (blk_set T8.out.box 0 _) 1 _) flights_book _ _
          have LL : Hid (Below w.heap.size w (((w8.setCell ⟨w1.heap.size, 0, none⟩ (.slice AX xb_.f0.length cX)).setCell ⟨w1.heap.size, 1, none⟩ (.slice CX xb_.f1.length dX)).setCell ⟨w1.heap.size, 2, none⟩ (.slice DX xb_.f2.length eX))) := X9.2
          clear X9
          obtain ⟨sa, sb, sc⟩ := TT.out.cells
          have fr0 := blk_frozen T8.out.box 0
          have fr1 := blk_frozen T8.out.box 1
          have fr2 := blk_frozen T8.out.box 2
          go_wp2_with (fail)
          clear sa sb sc fr0 fr1 fr2
          clear ta tb tc
          clear xa xb xc
          clear T8 X8 E8 L8
          refine (impl_bookOk_any _ _ xb_.f0 _ _ xb_.f1 _ _ xb_.f2 _ TT.out.book.form_D.1 TT.out.book.form_D.2.1 TT.out.book.form_D.2.2).mono ?_
          rintro e w20 ⟨rfl, hb⟩
          rw [show fitsB xb_.f0 xb_.f1 xb_.f2 = true from HX1.out]
          have T20 := Lib.hid (TT.out.below hb)
          have E20 := Lib.hid (Kd.R_below EE.out hb)
          have L20 := Lib.hid (below_next LL.out LL.out.size hb)
          clear hb TT EE LL
          obtain ⟨ta, tb, tc⟩ := T20.out.cells
          go_wp2_with (fail)
          refine (wOver_any _ _ xb_.f0 _ _ xb_.f1 _ _ xb_.f2 0 _ T20.out.book.form_D.1 T20.out.book.form_D.2.1 T20.out.book.form_D.2.2 HX1.out (by omega) (by omega)).mono ?_
          rintro e w21 ⟨rfl, hb⟩
          have T21 := Lib.hid (T20.out.below hb)
          have E21 := Lib.hid (Kd.R_below E20.out hb)
          have L21 := Lib.hid (below_next L20.out L20.out.size hb)
          clear hb T20 E20 L20 ta tb tc
          obtain ⟨ta, tb, tc⟩ := T21.out.cells
          go_wp2_with (fail)
          refine (wOver_any _ _ xb_.f0 _ _ xb_.f1 _ _ xb_.f2 9999 _ T21.out.book.form_D.1 T21.out.book.form_D.2.1 T21.out.book.form_D.2.2 HX1.out (by omega) (by omega)).mono ?_
          rintro e w22 ⟨rfl, hb⟩
          have T22 := Lib.hid (T21.out.below hb)
          have E22 := Lib.hid (Kd.R_below E21.out hb)
          have L22 := Lib.hid (below_next L21.out L21.out.size hb)
          clear hb T21 E21 L21 ta tb tc
          go_wp2
          go_roundw
          case rel => exact ⟨i + 1, _, _, _, _, by go_num, hlt, HX1, T22, E22, L22⟩
          case measure => simp [intOf]; omega
        | false =>
          have ed : decide (0 < cd) = false := decide_eq_false (fun h => by have := HX3.out h; rw [hno] at this; cases this)
          clear hno
          have X9 := (OwnB.res X8.out.book L8.out T8.out.box hB (.slice AX xb_.f0.length cX) (.slice CX xb_.f1.length dX) (.slice DX xb_.f2.length eX))
          have TT : Hid (BoxB (((w8.setCell ⟨w1.heap.size, 0, none⟩ (.slice AX xb_.f0.length cX)).setCell ⟨w1.heap.size, 1, none⟩ (.slice CX xb_.f1.length dX)).setCell ⟨w1.heap.size, 2, none⟩ (.slice DX xb_.f2.length eX)) w.heap.size w1.heap.size (.slice AX xb_.f0.length cX) (.slice CX xb_.f1.length dX) (.slice DX xb_.f2.length eX) xb_) := ⟨blk_set (blk_set (blk_set T8.out.box 0 _) 1 _) 2 _, X9.1⟩
          have EE : Hid (Kd.R k61 61 (((w8.setCell ⟨w1.heap.size, 0, none⟩ (.slice AX xb_.f0.length cX)).setCell ⟨w1.heap.size, 1, none⟩ (.slice CX xb_.f1.length dX)).setCell ⟨w1.heap.size, 2, none⟩ (.slice DX xb_.f2.length eX)) w.heap.size (fun _ => True) (.slice (some ad) ev.length c2) ev) := Kd.R_set (Kd.R_set (Kd.R_set E8.out T8.out.box flights_book _ _) (blk_set T8.out.box 0 _) flights_book _ _) (blk_set (blk_set T8.out.box 0 _) 1 _) flights_book _ _
          have LL : Hid (Below w.heap.size w (((w8.setCell ⟨w1.heap.size, 0, none⟩ (.slice AX xb_.f0.length cX)).setCell ⟨w1.heap.size, 1, none⟩ (.slice CX xb_.f1.length dX)).setCell ⟨w1.heap.size, 2, none⟩ (.slice DX xb_.f2.length eX))) := X9.2
          clear X9
          obtain ⟨sa, sb, sc⟩ := TT.out.cells
          have fr0 := blk_frozen T8.out.box 0
          have fr1 := blk_frozen T8.out.box 1
          have fr2 := blk_frozen T8.out.box 2
          go_wp2_with (fail)
          clear sa sb sc fr0 fr1 fr2
          clear ta tb tc
          clear xa xb xc
          clear T8 X8 E8 L8
          refine (impl_bookOk_any _ _ xb_.f0 _ _ xb_.f1 _ _ xb_.f2 _ TT.out.book.form_D.1 TT.out.book.form_D.2.1 TT.out.book.form_D.2.2).mono ?_
          rintro e w20 ⟨rfl, hb⟩
          rw [show fitsB xb_.f0 xb_.f1 xb_.f2 = true from HX1.out]
          have T20 := Lib.hid (TT.out.below hb)
          have E20 := Lib.hid (Kd.R_below EE.out hb)
          have L20 := Lib.hid (below_next LL.out LL.out.size hb)
          clear hb TT EE LL
          obtain ⟨ta, tb, tc⟩ := T20.out.cells
          go_wp2_with (fail)
          refine (wOver_any _ _ xb_.f0 _ _ xb_.f1 _ _ xb_.f2 0 _ T20.out.book.form_D.1 T20.out.book.form_D.2.1 T20.out.book.form_D.2.2 HX1.out (by omega) (by omega)).mono ?_
          rintro e w21 ⟨rfl, hb⟩
          have T21 := Lib.hid (T20.out.below hb)
          have E21 := Lib.hid (Kd.R_below E20.out hb)
          have L21 := Lib.hid (below_next L20.out L20.out.size hb)
          clear hb T20 E20 L20 ta tb tc
          obtain ⟨ta, tb, tc⟩ := T21.out.cells
          go_wp2_with (fail)
          refine (wOver_any _ _ xb_.f0 _ _ xb_.f1 _ _ xb_.f2 9999 _ T21.out.book.form_D.1 T21.out.book.form_D.2.1 T21.out.book.form_D.2.2 HX1.out (by omega) (by omega)).mono ?_
          rintro e w22 ⟨rfl, hb⟩
          have T22 := Lib.hid (T21.out.below hb)
          have E22 := Lib.hid (Kd.R_below E21.out hb)
          have L22 := Lib.hid (below_next L21.out L21.out.size hb)
          clear hb T21 E21 L21 ta tb tc
          go_wp2
          go_roundw
          case rel => exact ⟨i + 1, _, _, _, _, by go_num, hlt, HX1, T22, E22, L22⟩
          case measure => simp [intOf]; omega
    · obtain ⟨xa, xb, xc⟩ := T0.out.cells
      go_wp2_with (fail)
      refine (impl_bookOk_any _ _ b.f0 _ _ b.f1 _ _ b.f2 _ T0.out.book.form_D.1 T0.out.book.form_D.2.1 T0.out.book.form_D.2.2).mono ?_
      rintro e w2 ⟨rfl, hb⟩
      rw [show fitsB b.f0 b.f1 b.f2 = true from HK0.out]
      have L1 := Lib.hid (below_next L0.out L0.out.size hb)
      go_wp2
      go_ret
      exact ⟨rfl, L1.out⟩
end Go.Proofs.Ytkfoeplefajkcaa.Q
end
section
namespace Go.Proofs.Ytkfoeplefajkcaa.fnTop
open Go.ChangeShapes Go.WideShapes Go.ChangeAt Go.RowKit
open Go.ChangeMaps (open_string shut_string)
set_option linter.unusedVariables false
theorem own : ownKnob Try.prog.godebug = none := by kernel_rfl
theorem laidOut : laidOutB Try.prog = true := by kernel_rfl
set_option maxRecDepth 100000 in
theorem lifted (os : Os) (started : os.Started) (H : Type) (enc : TypeId × Value → H) :
    ReturnsInHanded {} Try.checked os 9 .any (Rows.fnTopSpec.pre6 enc Try.prog Try.f9 Rows.fnTopRow.domain false) (Rows.fnTopSpec.post enc Try.prog Try.f9 false true false false) := by
  refine returnsInHanded_of_change_sized (C := Try.checked) own started (by kernel_rfl) Try.func9
    (ChangeSpec.witness6 (enc := enc) (C := Try.checked) false ⟨#[], #[.slice none 0 0], []⟩ 8 (by kernel_rfl) (by kernel_rfl) (by kernel_rfl) (by kernel_rfl)) ?_
  intro W base args ds gs before hval0 hW hcnd hsz0 _
  have hsz : (DataW.weightsEach Try.prog (Try.f9.params.toList ++ Rows.fnTopSpec.plain.varTypes Try.prog) (ds ++ gs)).all (· ≤ reachBytes) = true := hsz0
  have hval : ∀ (j : Nat) t v, Try.f9.params[j]? = some t → args[j]? = some v → Value.okWide Try.prog W .any base t v := hval0
  have hW' := hW
  obtain ⟨p, q, hA0, hV, rfl, hfz, hnd⟩ := hW
  have hA : DataW.TrodAll enc Try.prog W 0 (fun _ => true) true Try.f9.params.toList args.toList ds p := hA0
  rw [Try.params9] at hA hval hsz
  obtain ⟨v0, vs0, d0, ds0, p0, q0, hargs, rfl, rfl, h0, r0⟩ := trodAll_cons hA
  obtain ⟨rfl, rfl, rfl⟩ := trodAll_nil r0
  obtain rfl : args = #[v0] := by cases args; simp_all
  obtain ⟨rfl, rfl⟩ := trodVars_none hV
  obtain ⟨a0, len0, cap0, rfl⟩ := okWide_slice Try.underlying72 (hval 0 72 v0 rfl rfl)
  have k0 := h0
  have lt0 : ∀ x ∈ p0, x.block < W.heap.size := by obtain ⟨m, hm⟩ := k0; exact DataW.trod_lt m _ _ _ hm
  obtain ⟨l0, rfl, hc0, hr0, hg0⟩ := Q.arg_bytes h0
  clear hA0 hval0 hsz0 hsz
  refine (Q.walk_fntop a0 cap0 l0 W hr0 hc0 hg0).mono fun e W' ⟨he, bel⟩ => ?_
  subst he
  exact ⟨_, rfl, _, _, _, [], _, [], hW', trodAll_mk1 (shut_bool Try.underlying4 _), (trodAll_cons_mk (Below.trod laidOut (by kernel_rfl) (of_decide_eq_true (by kernel_rfl)) k0 bel lt0) trodAll_mk0), rfl, bel.frame _, fun h => by cases h⟩
theorem over : Rows.fnTopRow.holds Try.pinned (OpenSpec.ofChange Rows.fnTopSpec) :=
  OpenClaim.holds_of_wide 9 Try.f9 rfl rfl rfl rfl rfl rfl rfl ⟨rfl, rfl, rfl, rfl, rfl⟩ rfl rfl rfl rfl rfl (by kernel_rfl) Try.func9 (by kernel_rfl)
    (of_decide_eq_true (by kernel_rfl)) (by unfold Func.isWrapper; first | (rw [if_pos (by decide +kernel)]; kernel_rfl) | (rw [if_neg (by decide +kernel)]; exact ⟨rfl, rfl⟩))
    (fun os started H enc _ => lifted os started H enc)
theorem proved : Rows.FnTopSaid := over
#print axioms proved
end Go.Proofs.Ytkfoeplefajkcaa.fnTop
end
