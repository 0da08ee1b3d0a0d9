/- Proved: for every input that can be read, laws.FnExactFlowDrop answers true and each argument reads behind the call as it read before. No conditions. -/
import Derived.Test.YtkfoeplefajkcaaMgDp
import Derived.Test.YtkfoeplefajkcaaMgX
import Derived.Deep.RegionHeld3
import Derived.Test.YtkfoeplefajkcaaRows
import Derived.Test.YtkfoeplefajkcaaMgS
import Derived.WalkKit
import Derived.ProofKit
import Derived.OpenShut
import Derived.ShutString
import Derived.ChangeOld
import Derived.Below
import Derived.SizedLaws
section
namespace Go.Proofs.Ytkfoeplefajkcaa.Q
open Go.RowKit Go.Proofs.YtkfoeplefajkcaaW.PrintWords Go.Proofs.YtkfoeplefajkcaaW.PrintLast Go.Proofs.YtkfoeplefajkcaaW.PrintMore Go.Proofs.Ytkfoeplefajkcaa.Core
set_option linter.unusedVariables false
set_option linter.unusedSimpArgs false
set_option maxRecDepth 100000 in
set_option maxHeartbeats 8000000 in
theorem walk_drop (A0 : Option Addr) (c0 : Nat) (A1 : Option Addr) (c1 : Nat) (A2 : Option Addr) (c2 : Nat) (b : Book) (a : ByteArray) (w : World)
    (hr0 : Kd.C k106 w A0 b.f0.length b.f0) (hc0 : b.f0.length ≤ c0) (hg0 : ∀ x ∈ b.f0, smallC x) (hr1 : Kd.C k51 w A1 b.f1.length b.f1) (hc1 : b.f1.length ≤ c1) (hg1 : ∀ x ∈ b.f1, smallF x) (hr2 : Kd.C (Kd.int .i64) w A2 b.f2.length b.f2) (hc2 : b.f2.length ≤ c2) (hg2 : ∀ y ∈ b.f2, (Lit.int .i64 y).wf = true) (hwa : a.size ≤ 140737488351232) :
    Calls Try.prog 8 #[.agg #[.slice A0 b.f0.length c0, .slice A1 b.f1.length c1, .slice A2 b.f2.length c2], .string a] w fun e w' => e = .returned (.bool true) ∧ Below w.heap.size w w' := by
  have hn2 := C_len hr2
  clear hg2
  obtain ⟨W, hW⟩ : ∃ W, W = w.alloc (.cells #[.slice A0 b.f0.length c0, .slice A1 b.f1.length c1, .slice A2 b.f2.length c2] 48) := ⟨_, rfl⟩
  have HB0 : Hid (Below w.heap.size w W) := by rw [hW]; exact (Below.refl _ _).alloc (Nat.le_refl _) _
  have X0 : Hid (W.heap[w.heap.size]? = some (.cells #[.slice A0 b.f0.length c0, .slice A1 b.f1.length c1, .slice A2 b.f2.length c2] 48 (0, 0))) := by rw [hW]; exact blk_new _ _
  have G0 := Lib.hid hg0
  have G1 := Lib.hid hg1
  have HR0 := Lib.hid hr0
  have HR1 := Lib.hid hr1
  have HR2 := Lib.hid hr2
  have z0 : W.heap.size = w.heap.size + 1 := by rw [hW]; simp
  clear hg0 hg1 hr0 hr1 hr2
  have QZ := Lib.hid (sz_book_any A0 c0 b.f0 A1 c1 b.f1 A2 c2 b.f2 1048576 W (Kd.C_below HR0.out HB0.out) (Kd.C_below HR1.out HB0.out) hn2 (by omega) (by omega) G0.out G1.out)
  by_cases hm : 1048576 < a.size
  · have e1 : decide ((1048576 : Int) < (a.size : Int)) = true := decide_eq_true (by omega)
    have e2 : decide (1048576 < a.size) = true := decide_eq_true hm
    clear QZ
    go_enter Try.func8, Try.ntmps8
    go_wp2_with (fail)
    rw [← hW]
    go_ret
    exact ⟨rfl, HB0.out⟩
  have em1 : decide ((1048576 : Int) < (a.size : Int)) = false := decide_eq_false (by omega)
  have em2 : decide (1048576 < a.size) = false := decide_eq_false hm
  by_cases hz : subB 1048576 b.f0 b.f1 b.f2 < 0
  · have HZ := Lib.hid (subB_low _ _ _ _ hz)
    clear hz
    go_enter Try.func8, Try.ntmps8
    go_wp2_with (first | (go_at_call 35; rw [← hW]; refine QZ.out.mono ?_; rintro e w1 ⟨rfl, hb1⟩; rw [HZ.out]) | go_in)
    go_ret
    exact ⟨rfl, below_next HB0.out HB0.out.size hb1⟩
  have hbd := (subB_parts hz).1
  have e1 : decide (subB 1048576 b.f0 b.f1 b.f2 < 0) = false := decide_eq_false hz
  have n0 : wL wC b.f0 ≤ 1048576 := by omega
  have n1 : wL wF b.f1 ≤ 1048576 := by omega
  have n2 : b.f2.length ≤ 1048576 := by omega
  have SB := Lib.hid (smallB_of n0 n1 n2)
  have SR := Lib.hid (smallB_drop SB.out a)
  have QT := Lib.hid (fun V (h : Below w.heap.size w V) => toBookO_any A0 c0 A1 c1 A2 c2 b V (Kd.C_below HR0.out h) hc0 (Kd.C_below HR1.out h) hc1 (Kd.C_below HR2.out h) hc2 n0 n1 n2)
  have cb0 : 0 ≤ cntB b := cntB_nonneg b
  have cb1 : cntB b ≤ 1000000000 := cntB_le SB.out
  have cr0 : 0 ≤ cntB (dropR b a).1 := cntB_nonneg (dropR b a).1
  have cr1 : cntB (dropR b a).1 ≤ 1000000000 := cntB_le SR.out
  clear hz hbd n0 n1 n2 hc0 hc1 hc2 hn2
  go_enter Try.func8, Try.ntmps8
  go_wp2_with (fail)
  rw [← hW]
  refine QZ.out.mono ?_
  rintro e w1 ⟨rfl, hb⟩
  have s1 : W.heap.size ≤ w1.heap.size := hb.size
  have X1 := Lib.hid (blk_below X0.out hb)
  have HB1 := Lib.hid (below_next HB0.out HB0.out.size hb)
  clear hb X0 HB0 QZ hW
  have xa := (blk_cell X1.out 0).trans rfl
  have xb := (blk_cell X1.out 1).trans rfl
  have xc := (blk_cell X1.out 2).trans rfl
  go_wp2_with (fail)
  refine (QT.out _ HB1.out).mono ?_
  rintro e w2 ⟨v0, v1, v2, rfl, ho, hb⟩
  have s2 : w1.heap.size ≤ w2.heap.size := hb.size
  have ho := ho
  obtain ⟨AT, cT, BT, dT, CT, eT, rfl, rfl, rfl, _, _, _⟩ := ho.toB.form
  have X2 := Lib.hid (blk_below X1.out hb)
  have HB2 := Lib.hid (below_next HB1.out HB1.out.size hb)
  clear X1 HB1
  have oT := Lib.hid (ho.lower (base' := w.heap.size) (by omega))
  clear ho hb
  clear xa xb xc
  go_wp2_with (fail)
  refine (spec_flowDrop_any _ _ _ _ _ _ b a _ oT.out.toB.form_C.1 oT.out.toB.form_C.2.1 oT.out.toB.form_C.2.2).mono ?_
  rintro e w3 ⟨v0, v1, v2, rfl, ho, hb⟩
  have s3 : w2.heap.size ≤ w3.heap.size := hb.size
  have ho := ho.toO
  obtain ⟨AW, cW, BW, dW, CW, eW, rfl, rfl, rfl, _, _, _⟩ := ho.toB.form
  have X3 := Lib.hid (blk_below X2.out hb)
  have HB3 := Lib.hid (below_next HB2.out HB2.out.size hb)
  have oT' := Lib.hid (oT.out.below hb)
  clear oT
  have oT := oT'
  clear oT'
  clear X2 HB2
  have oW := Lib.hid (ho.lower (base' := w.heap.size) (by omega))
  clear ho hb
  clear oT
  have hb : Below w3.heap.size w3 (w3.alloc (.cells #[.slice AW (dropR b a).1.f0.length cW, .slice BW (dropR b a).1.f1.length dW, .slice CW (dropR b a).1.f2.length eW] 55)) := below_alloc (Below.refl _ _) _
  have YW : Hid ((w3.alloc (.cells #[.slice AW (dropR b a).1.f0.length cW, .slice BW (dropR b a).1.f1.length dW, .slice CW (dropR b a).1.f2.length eW] 55)).heap[w3.heap.size]? = some (.cells #[.slice AW (dropR b a).1.f0.length cW, .slice BW (dropR b a).1.f1.length dW, .slice CW (dropR b a).1.f2.length eW] 55 (0, 0))) := blk_new _ _
  have s4 : (w3.alloc (.cells #[.slice AW (dropR b a).1.f0.length cW, .slice BW (dropR b a).1.f1.length dW, .slice CW (dropR b a).1.f2.length eW] 55)).heap.size = w3.heap.size + 1 := by simp
  have X4 := Lib.hid (blk_below X3.out hb)
  have HB4 := Lib.hid (below_next HB3.out HB3.out.size hb)
  have oW' := Lib.hid (oW.out.below hb)
  clear oW
  have oW := oW'
  clear oW'
  clear X3 HB3
  clear hb
  have xa := (blk_cell X4.out 0).trans rfl
  have xb := (blk_cell X4.out 1).trans rfl
  have xc := (blk_cell X4.out 2).trans rfl
  have wya := (blk_cell YW.out 0).trans rfl
  have wyb := (blk_cell YW.out 1).trans rfl
  have wyc := (blk_cell YW.out 2).trans rfl
  go_wp2_with (fail)
  refine (QT.out _ HB4.out).mono ?_
  rintro e w5 ⟨v0, v1, v2, rfl, ho, hb⟩
  have s5 : (w3.alloc (.cells #[.slice AW (dropR b a).1.f0.length cW, .slice BW (dropR b a).1.f1.length dW, .slice CW (dropR b a).1.f2.length eW] 55)).heap.size ≤ w5.heap.size := hb.size
  have ho := ho
  obtain ⟨AX, cX, BX, dX, CX, eX, rfl, rfl, rfl, _, _, _⟩ := ho.toB.form
  have X5 := Lib.hid (blk_below X4.out hb)
  have HB5 := Lib.hid (below_next HB4.out HB4.out.size hb)
  have oW' := Lib.hid (oW.out.below hb)
  clear oW
  have oW := oW'
  clear oW'
  have YW' := Lib.hid (blk_below YW.out hb)
  clear YW
  have YW := YW'
  clear YW'
  clear X4 HB4
  have oX := Lib.hid (ho.lower (base' := w.heap.size) (by omega))
  clear ho hb
  clear xa xb xc
  clear wya wyb wyc
  have hb : Below w5.heap.size w5 (w5.alloc (.cells #[.slice AX b.f0.length cX, .slice BX b.f1.length dX, .slice CX b.f2.length eX] 55)) := below_alloc (Below.refl _ _) _
  have YX : Hid ((w5.alloc (.cells #[.slice AX b.f0.length cX, .slice BX b.f1.length dX, .slice CX b.f2.length eX] 55)).heap[w5.heap.size]? = some (.cells #[.slice AX b.f0.length cX, .slice BX b.f1.length dX, .slice CX b.f2.length eX] 55 (0, 0))) := blk_new _ _
  have s6 : (w5.alloc (.cells #[.slice AX b.f0.length cX, .slice BX b.f1.length dX, .slice CX b.f2.length eX] 55)).heap.size = w5.heap.size + 1 := by simp
  have X6 := Lib.hid (blk_below X5.out hb)
  have HB6 := Lib.hid (below_next HB5.out HB5.out.size hb)
  have oW' := Lib.hid (oW.out.below hb)
  clear oW
  have oW := oW'
  clear oW'
  have oX' := Lib.hid (oX.out.below hb)
  clear oX
  have oX := oX'
  clear oX'
  have YW' := Lib.hid (blk_below YW.out hb)
  clear YW
  have YW := YW'
  clear YW'
  clear X5 HB5
  clear hb
  have xa := (blk_cell X6.out 0).trans rfl
  have xb := (blk_cell X6.out 1).trans rfl
  have xc := (blk_cell X6.out 2).trans rfl
  have wya := (blk_cell YW.out 0).trans rfl
  have wyb := (blk_cell YW.out 1).trans rfl
  have wyc := (blk_cell YW.out 2).trans rfl
  have xya := (blk_cell YX.out 0).trans rfl
  have xyb := (blk_cell YX.out 1).trans rfl
  have xyc := (blk_cell YX.out 2).trans rfl
  go_wp2_with (fail)
  refine (impl_flowDrop_any _ _ _ _ _ _ b a _ oX.out.toB.form_C.1 oX.out.toB.form_C.2.1 oX.out.toB.form_C.2.2).mono ?_
  rintro e w7 ⟨v0, v1, v2, rfl, ho, hb⟩
  have s7 : (w5.alloc (.cells #[.slice AX b.f0.length cX, .slice BX b.f1.length dX, .slice CX b.f2.length eX] 55)).heap.size ≤ w7.heap.size := hb.size
  have ho := ho.toO
  obtain ⟨AG, cG, BG, dG, CG, eG, rfl, rfl, rfl, _, _, _⟩ := ho.toB.form
  have X7 := Lib.hid (blk_below X6.out hb)
  have HB7 := Lib.hid (below_next HB6.out HB6.out.size hb)
  have oW' := Lib.hid (oW.out.below hb)
  clear oW
  have oW := oW'
  clear oW'
  have oX' := Lib.hid (oX.out.below hb)
  clear oX
  have oX := oX'
  clear oX'
  have YW' := Lib.hid (blk_below YW.out hb)
  clear YW
  have YW := YW'
  clear YW'
  have YX' := Lib.hid (blk_below YX.out hb)
  clear YX
  have YX := YX'
  clear YX'
  clear X6 HB6
  have oG := Lib.hid (ho.lower (base' := w.heap.size) (by omega))
  clear ho hb
  clear xa xb xc
  clear wya wyb wyc
  clear xya xyb xyc
  have hb : Below w7.heap.size w7 (w7.alloc (.cells #[.slice AG (dropR b a).1.f0.length cG, .slice BG (dropR b a).1.f1.length dG, .slice CG (dropR b a).1.f2.length eG] 55)) := below_alloc (Below.refl _ _) _
  have YG : Hid ((w7.alloc (.cells #[.slice AG (dropR b a).1.f0.length cG, .slice BG (dropR b a).1.f1.length dG, .slice CG (dropR b a).1.f2.length eG] 55)).heap[w7.heap.size]? = some (.cells #[.slice AG (dropR b a).1.f0.length cG, .slice BG (dropR b a).1.f1.length dG, .slice CG (dropR b a).1.f2.length eG] 55 (0, 0))) := blk_new _ _
  have s8 : (w7.alloc (.cells #[.slice AG (dropR b a).1.f0.length cG, .slice BG (dropR b a).1.f1.length dG, .slice CG (dropR b a).1.f2.length eG] 55)).heap.size = w7.heap.size + 1 := by simp
  have X8 := Lib.hid (blk_below X7.out hb)
  have HB8 := Lib.hid (below_next HB7.out HB7.out.size hb)
  have oW' := Lib.hid (oW.out.below hb)
  clear oW
  have oW := oW'
  clear oW'
  have oX' := Lib.hid (oX.out.below hb)
  clear oX
  have oX := oX'
  clear oX'
  have oG' := Lib.hid (oG.out.below hb)
  clear oG
  have oG := oG'
  clear oG'
  have YW' := Lib.hid (blk_below YW.out hb)
  clear YW
  have YW := YW'
  clear YW'
  have YX' := Lib.hid (blk_below YX.out hb)
  clear YX
  have YX := YX'
  clear YX'
  clear X7 HB7
  clear hb
  have xa := (blk_cell X8.out 0).trans rfl
  have xb := (blk_cell X8.out 1).trans rfl
  have xc := (blk_cell X8.out 2).trans rfl
  have wya := (blk_cell YW.out 0).trans rfl
  have wyb := (blk_cell YW.out 1).trans rfl
  have wyc := (blk_cell YW.out 2).trans rfl
  have xya := (blk_cell YX.out 0).trans rfl
  have xyb := (blk_cell YX.out 1).trans rfl
  have xyc := (blk_cell YX.out 2).trans rfl
  have gya := (blk_cell YG.out 0).trans rfl
  have gyb := (blk_cell YG.out 1).trans rfl
  have gyc := (blk_cell YG.out 2).trans rfl
  go_wp2_with (fail)
  refine (eq_books_any oG.out oW.out).mono ?_
  rintro e w9 ⟨rfl, hb⟩
  have s9 : (w7.alloc (.cells #[.slice AG (dropR b a).1.f0.length cG, .slice BG (dropR b a).1.f1.length dG, .slice CG (dropR b a).1.f2.length eG] 55)).heap.size ≤ w9.heap.size := hb.size
  have X9 := Lib.hid (blk_below X8.out hb)
  have HB9 := Lib.hid (below_next HB8.out HB8.out.size hb)
  have oW' := Lib.hid (oW.out.below hb)
  clear oW
  have oW := oW'
  clear oW'
  have oX' := Lib.hid (oX.out.below hb)
  clear oX
  have oX := oX'
  clear oX'
  have oG' := Lib.hid (oG.out.below hb)
  clear oG
  have oG := oG'
  clear oG'
  have YW' := Lib.hid (blk_below YW.out hb)
  clear YW
  have YW := YW'
  clear YW'
  have YX' := Lib.hid (blk_below YX.out hb)
  clear YX
  have YX := YX'
  clear YX'
  have YG' := Lib.hid (blk_below YG.out hb)
  clear YG
  have YG := YG'
  clear YG'
  clear X8 HB8
  clear hb
  clear xa xb xc
  clear wya wyb wyc
  clear xya xyb xyc
  clear gya gyb gyc
  have xa := (blk_cell X9.out 0).trans rfl
  have xb := (blk_cell X9.out 1).trans rfl
  have xc := (blk_cell X9.out 2).trans rfl
  have wya := (blk_cell YW.out 0).trans rfl
  have wyb := (blk_cell YW.out 1).trans rfl
  have wyc := (blk_cell YW.out 2).trans rfl
  have xya := (blk_cell YX.out 0).trans rfl
  have xyb := (blk_cell YX.out 1).trans rfl
  have xyc := (blk_cell YX.out 2).trans rfl
  have gya := (blk_cell YG.out 0).trans rfl
  have gyb := (blk_cell YG.out 1).trans rfl
  have gyc := (blk_cell YG.out 2).trans rfl
  have bd : Below w9.heap.size w9 w9.drew := pw_below_drewN (Below.refl _ _) 1
  have HBd := Lib.hid (below_next HB9.out HB9.out.size bd)
  go_wp2
  go_region_held3 (fun W' => W'.cell? ⟨w.heap.size, 0, none⟩ = some (.slice A0 b.f0.length c0) ∧ W'.cell? ⟨w.heap.size, 1, none⟩ = some (.slice A1 b.f1.length c1) ∧ W'.cell? ⟨w.heap.size, 2, none⟩ = some (.slice A2 b.f2.length c2) ∧ W'.cell? ⟨w5.heap.size, 0, none⟩ = some (.slice AX b.f0.length cX) ∧ W'.cell? ⟨w5.heap.size, 1, none⟩ = some (.slice BX b.f1.length dX) ∧ W'.cell? ⟨w5.heap.size, 2, none⟩ = some (.slice CX b.f2.length eX)) (first | exact ⟨by assumption, by assumption, by assumption, by assumption, by assumption, by assumption⟩ | go_keep) (first
    | (go_at_call 38; refine (QT.out _ HBd.out).mono ?_; rintro e w10 ⟨v0, v1, v2, rfl, ho, hb⟩; obtain ⟨AU, cU, BU, dU, CU, eU, rfl, rfl, rfl, _, _, _⟩ := ho.toB.form; have b1 := bd.trans hb; have oq := Lib.hid (oX.out.below b1); have oU := Lib.hid ho; have xa := pw_cell_below b1 xa; have xb := pw_cell_below b1 xb; have xc := pw_cell_below b1 xc; have xya := pw_cell_below b1 xya; have xyb := pw_cell_below b1 xyb; have xyc := pw_cell_below b1 xyc; clear ho hb)
    | (go_at_call 41; refine (eq_books_any oq.out oU.out).mono ?_; rintro e w11 ⟨rfl, hb⟩; have b2 := below_next b1 b1.size hb; have xa := pw_cell_below hb xa; have xb := pw_cell_below hb xb; have xc := pw_cell_below hb xc; have xya := pw_cell_below hb xya; have xyb := pw_cell_below hb xyb; have xyc := pw_cell_below hb xyc; clear hb))
  clear bd HBd b1 oq oU xa xb xc xya xyb xyc
  have s11 : w9.heap.size ≤ w11.heap.size := b2.size
  have X11 := Lib.hid (blk_below X9.out b2)
  have HB11 := Lib.hid (below_next HB9.out HB9.out.size b2)
  have oW' := Lib.hid (oW.out.below b2)
  clear oW
  have oW := oW'
  clear oW'
  have oX' := Lib.hid (oX.out.below b2)
  clear oX
  have oX := oX'
  clear oX'
  have oG' := Lib.hid (oG.out.below b2)
  clear oG
  have oG := oG'
  clear oG'
  have YW' := Lib.hid (blk_below YW.out b2)
  clear YW
  have YW := YW'
  clear YW'
  have YX' := Lib.hid (blk_below YX.out b2)
  clear YX
  have YX := YX'
  clear YX'
  have YG' := Lib.hid (blk_below YG.out b2)
  clear YG
  have YG := YG'
  clear YG'
  clear X9 HB9
  clear b2
  have e7 : decide (1 + cntB b < 0) = false := decide_eq_false (by omega)
  have xa := (blk_cell X11.out 0).trans rfl
  have xb := (blk_cell X11.out 1).trans rfl
  have xc := (blk_cell X11.out 2).trans rfl
  have wya := (blk_cell YW.out 0).trans rfl
  have wyb := (blk_cell YW.out 1).trans rfl
  have wyc := (blk_cell YW.out 2).trans rfl
  have xya := (blk_cell YX.out 0).trans rfl
  have xyb := (blk_cell YX.out 1).trans rfl
  have xyc := (blk_cell YX.out 2).trans rfl
  have gya := (blk_cell YG.out 0).trans rfl
  have gyb := (blk_cell YG.out 1).trans rfl
  have gyc := (blk_cell YG.out 2).trans rfl
  go_wp2_with (fail)
  refine (mark_book_any _ _ _ b 1 w _ HB11.out oX.out (by omega) (by omega) (by omega) SB.out).mono ?_
  rintro e w12 ⟨rfl, ho, hb, hk⟩
  have s12 : w11.heap.size ≤ w12.heap.size := hk.1
  have HB12 := Lib.hid hb
  have X12 := Lib.hid (blk_kept X11.out hk (fun h => by have h1 := h.1; have h2 := h.2; omega))
  have oW' := Lib.hid (oW.out.apart hk (by omega))
  clear oW
  have oW := oW'
  clear oW'
  have oG' := Lib.hid (oG.out.apart hk (by omega))
  clear oG
  have oG := oG'
  clear oG'
  have YW' := Lib.hid (blk_kept YW.out hk (fun h => by have h1 := h.1; have h2 := h.2; omega))
  clear YW
  have YW := YW'
  clear YW'
  have YX' := Lib.hid (blk_kept YX.out hk (fun h => by have h1 := h.1; have h2 := h.2; omega))
  clear YX
  have YX := YX'
  clear YX'
  have YG' := Lib.hid (blk_kept YG.out hk (fun h => by have h1 := h.1; have h2 := h.2; omega))
  clear YG
  have YG := YG'
  clear YG'
  have oX' := Lib.hid ho
  clear oX
  have oX := oX'
  clear oX' ho hb hk X11 HB11
  clear xa xb xc
  clear wya wyb wyc
  clear xya xyb xyc
  clear gya gyb gyc
  clear oX
  have xa := (blk_cell X12.out 0).trans rfl
  have xb := (blk_cell X12.out 1).trans rfl
  have xc := (blk_cell X12.out 2).trans rfl
  have wya := (blk_cell YW.out 0).trans rfl
  have wyb := (blk_cell YW.out 1).trans rfl
  have wyc := (blk_cell YW.out 2).trans rfl
  have xya := (blk_cell YX.out 0).trans rfl
  have xyb := (blk_cell YX.out 1).trans rfl
  have xyc := (blk_cell YX.out 2).trans rfl
  have gya := (blk_cell YG.out 0).trans rfl
  have gyb := (blk_cell YG.out 1).trans rfl
  have gyc := (blk_cell YG.out 2).trans rfl
  go_wp2_with (fail)
  refine (eq_books_any oG.out oW.out).mono ?_
  rintro e w13 ⟨rfl, hb⟩
  have s13 : w12.heap.size ≤ w13.heap.size := hb.size
  have X13 := Lib.hid (blk_below X12.out hb)
  have HB13 := Lib.hid (below_next HB12.out HB12.out.size hb)
  have oW' := Lib.hid (oW.out.below hb)
  clear oW
  have oW := oW'
  clear oW'
  have oG' := Lib.hid (oG.out.below hb)
  clear oG
  have oG := oG'
  clear oG'
  have YW' := Lib.hid (blk_below YW.out hb)
  clear YW
  have YW := YW'
  clear YW'
  have YX' := Lib.hid (blk_below YX.out hb)
  clear YX
  have YX := YX'
  clear YX'
  have YG' := Lib.hid (blk_below YG.out hb)
  clear YG
  have YG := YG'
  clear YG'
  clear X12 HB12
  clear hb
  clear xa xb xc
  clear wya wyb wyc
  clear xya xyb xyc
  clear gya gyb gyc
  have e8 : decide (1 + cntB (dropR b a).1 < 0) = false := decide_eq_false (by omega)
  have xa := (blk_cell X13.out 0).trans rfl
  have xb := (blk_cell X13.out 1).trans rfl
  have xc := (blk_cell X13.out 2).trans rfl
  have wya := (blk_cell YW.out 0).trans rfl
  have wyb := (blk_cell YW.out 1).trans rfl
  have wyc := (blk_cell YW.out 2).trans rfl
  have xya := (blk_cell YX.out 0).trans rfl
  have xyb := (blk_cell YX.out 1).trans rfl
  have xyc := (blk_cell YX.out 2).trans rfl
  have gya := (blk_cell YG.out 0).trans rfl
  have gyb := (blk_cell YG.out 1).trans rfl
  have gyc := (blk_cell YG.out 2).trans rfl
  go_wp2_with (fail)
  refine (mark_book_any _ _ _ (dropR b a).1 1 w _ HB13.out oG.out (by omega) (by omega) (by omega) SR.out).mono ?_
  rintro e w14 ⟨rfl, ho, hb, hk⟩
  have s14 : w13.heap.size ≤ w14.heap.size := hk.1
  have HB14 := Lib.hid hb
  have X14 := Lib.hid (blk_kept X13.out hk (fun h => by have h1 := h.1; have h2 := h.2; omega))
  have oW' := Lib.hid (oW.out.apart hk (by omega))
  clear oW
  have oW := oW'
  clear oW'
  have YW' := Lib.hid (blk_kept YW.out hk (fun h => by have h1 := h.1; have h2 := h.2; omega))
  clear YW
  have YW := YW'
  clear YW'
  have YX' := Lib.hid (blk_kept YX.out hk (fun h => by have h1 := h.1; have h2 := h.2; omega))
  clear YX
  have YX := YX'
  clear YX'
  have YG' := Lib.hid (blk_kept YG.out hk (fun h => by have h1 := h.1; have h2 := h.2; omega))
  clear YG
  have YG := YG'
  clear YG'
  have oG' := Lib.hid ho
  clear oG
  have oG := oG'
  clear oG' ho hb hk X13 HB13
  clear xa xb xc
  clear wya wyb wyc
  clear xya xyb xyc
  clear gya gyb gyc
  have xa := (blk_cell X14.out 0).trans rfl
  have xb := (blk_cell X14.out 1).trans rfl
  have xc := (blk_cell X14.out 2).trans rfl
  have wya := (blk_cell YW.out 0).trans rfl
  have wyb := (blk_cell YW.out 1).trans rfl
  have wyc := (blk_cell YW.out 2).trans rfl
  have xya := (blk_cell YX.out 0).trans rfl
  have xyb := (blk_cell YX.out 1).trans rfl
  have xyc := (blk_cell YX.out 2).trans rfl
  have gya := (blk_cell YG.out 0).trans rfl
  have gyb := (blk_cell YG.out 1).trans rfl
  have gyc := (blk_cell YG.out 2).trans rfl
  go_wp2_with (fail)
  refine (held_book_any (dropR b a).1 1 oG.out (by omega) (by omega) SR.out).mono ?_
  rintro e w15 ⟨rfl, hb⟩
  have s15 : w14.heap.size ≤ w15.heap.size := hb.size
  have X15 := Lib.hid (blk_below X14.out hb)
  have HB15 := Lib.hid (below_next HB14.out HB14.out.size hb)
  have oW' := Lib.hid (oW.out.below hb)
  clear oW
  have oW := oW'
  clear oW'
  have oG' := Lib.hid (oG.out.below hb)
  clear oG
  have oG := oG'
  clear oG'
  have YW' := Lib.hid (blk_below YW.out hb)
  clear YW
  have YW := YW'
  clear YW'
  have YX' := Lib.hid (blk_below YX.out hb)
  clear YX
  have YX := YX'
  clear YX'
  have YG' := Lib.hid (blk_below YG.out hb)
  clear YG
  have YG := YG'
  clear YG'
  clear X14 HB14
  clear hb
  clear xa xb xc
  clear wya wyb wyc
  clear xya xyb xyc
  clear gya gyb gyc
  have xa := (blk_cell X15.out 0).trans rfl
  have xb := (blk_cell X15.out 1).trans rfl
  have xc := (blk_cell X15.out 2).trans rfl
  have wya := (blk_cell YW.out 0).trans rfl
  have wyb := (blk_cell YW.out 1).trans rfl
  have wyc := (blk_cell YW.out 2).trans rfl
  have xya := (blk_cell YX.out 0).trans rfl
  have xyb := (blk_cell YX.out 1).trans rfl
  have xyc := (blk_cell YX.out 2).trans rfl
  have gya := (blk_cell YG.out 0).trans rfl
  have gyb := (blk_cell YG.out 1).trans rfl
  have gyc := (blk_cell YG.out 2).trans rfl
  go_wp2_with (fail)
  refine (QT.out _ HB15.out).mono ?_
  rintro e w16 ⟨v0, v1, v2, rfl, ho, hb⟩
  have s16 : w15.heap.size ≤ w16.heap.size := hb.size
  have ho := ho
  obtain ⟨AZ, cZ, BZ, dZ, CZ, eZ, rfl, rfl, rfl, _, _, _⟩ := ho.toB.form
  have X16 := Lib.hid (blk_below X15.out hb)
  have HB16 := Lib.hid (below_next HB15.out HB15.out.size hb)
  have oW' := Lib.hid (oW.out.below hb)
  clear oW
  have oW := oW'
  clear oW'
  have oG' := Lib.hid (oG.out.below hb)
  clear oG
  have oG := oG'
  clear oG'
  have YW' := Lib.hid (blk_below YW.out hb)
  clear YW
  have YW := YW'
  clear YW'
  have YX' := Lib.hid (blk_below YX.out hb)
  clear YX
  have YX := YX'
  clear YX'
  have YG' := Lib.hid (blk_below YG.out hb)
  clear YG
  have YG := YG'
  clear YG'
  clear X15 HB15
  have oZ := Lib.hid (ho.lower (base' := w.heap.size) (by omega))
  clear ho hb
  clear xa xb xc
  clear wya wyb wyc
  clear xya xyb xyc
  clear gya gyb gyc
  go_wp2_with (fail)
  refine (impl_flowDrop_any _ _ _ _ _ _ b a _ oZ.out.toB.form_C.1 oZ.out.toB.form_C.2.1 oZ.out.toB.form_C.2.2).mono ?_
  rintro e w17 ⟨v0, v1, v2, rfl, ho, hb⟩
  have s17 : w16.heap.size ≤ w17.heap.size := hb.size
  have ho := ho.toO
  obtain ⟨AH, cH, BH, dH, CH, eH, rfl, rfl, rfl, _, _, _⟩ := ho.toB.form
  have X17 := Lib.hid (blk_below X16.out hb)
  have HB17 := Lib.hid (below_next HB16.out HB16.out.size hb)
  have oW' := Lib.hid (oW.out.below hb)
  clear oW
  have oW := oW'
  clear oW'
  have oG' := Lib.hid (oG.out.below hb)
  clear oG
  have oG := oG'
  clear oG'
  have oZ' := Lib.hid (oZ.out.below hb)
  clear oZ
  have oZ := oZ'
  clear oZ'
  have YW' := Lib.hid (blk_below YW.out hb)
  clear YW
  have YW := YW'
  clear YW'
  have YX' := Lib.hid (blk_below YX.out hb)
  clear YX
  have YX := YX'
  clear YX'
  have YG' := Lib.hid (blk_below YG.out hb)
  clear YG
  have YG := YG'
  clear YG'
  clear X16 HB16
  have oH := Lib.hid (ho.lower (base' := w.heap.size) (by omega))
  clear ho hb
  clear oZ
  have hb : Below w17.heap.size w17 (w17.alloc (.cells #[.slice AH (dropR b a).1.f0.length cH, .slice BH (dropR b a).1.f1.length dH, .slice CH (dropR b a).1.f2.length eH] 55)) := below_alloc (Below.refl _ _) _
  have YH : Hid ((w17.alloc (.cells #[.slice AH (dropR b a).1.f0.length cH, .slice BH (dropR b a).1.f1.length dH, .slice CH (dropR b a).1.f2.length eH] 55)).heap[w17.heap.size]? = some (.cells #[.slice AH (dropR b a).1.f0.length cH, .slice BH (dropR b a).1.f1.length dH, .slice CH (dropR b a).1.f2.length eH] 55 (0, 0))) := blk_new _ _
  have s18 : (w17.alloc (.cells #[.slice AH (dropR b a).1.f0.length cH, .slice BH (dropR b a).1.f1.length dH, .slice CH (dropR b a).1.f2.length eH] 55)).heap.size = w17.heap.size + 1 := by simp
  have X18 := Lib.hid (blk_below X17.out hb)
  have HB18 := Lib.hid (below_next HB17.out HB17.out.size hb)
  have oW' := Lib.hid (oW.out.below hb)
  clear oW
  have oW := oW'
  clear oW'
  have oG' := Lib.hid (oG.out.below hb)
  clear oG
  have oG := oG'
  clear oG'
  have oH' := Lib.hid (oH.out.below hb)
  clear oH
  have oH := oH'
  clear oH'
  have YW' := Lib.hid (blk_below YW.out hb)
  clear YW
  have YW := YW'
  clear YW'
  have YX' := Lib.hid (blk_below YX.out hb)
  clear YX
  have YX := YX'
  clear YX'
  have YG' := Lib.hid (blk_below YG.out hb)
  clear YG
  have YG := YG'
  clear YG'
  clear X17 HB17
  clear hb
  have xa := (blk_cell X18.out 0).trans rfl
  have xb := (blk_cell X18.out 1).trans rfl
  have xc := (blk_cell X18.out 2).trans rfl
  have wya := (blk_cell YW.out 0).trans rfl
  have wyb := (blk_cell YW.out 1).trans rfl
  have wyc := (blk_cell YW.out 2).trans rfl
  have xya := (blk_cell YX.out 0).trans rfl
  have xyb := (blk_cell YX.out 1).trans rfl
  have xyc := (blk_cell YX.out 2).trans rfl
  have gya := (blk_cell YG.out 0).trans rfl
  have gyb := (blk_cell YG.out 1).trans rfl
  have gyc := (blk_cell YG.out 2).trans rfl
  have hya := (blk_cell YH.out 0).trans rfl
  have hyb := (blk_cell YH.out 1).trans rfl
  have hyc := (blk_cell YH.out 2).trans rfl
  go_wp2_with (fail)
  refine (eq_books_any oH.out oW.out).mono ?_
  rintro e w19 ⟨rfl, hb⟩
  have s19 : (w17.alloc (.cells #[.slice AH (dropR b a).1.f0.length cH, .slice BH (dropR b a).1.f1.length dH, .slice CH (dropR b a).1.f2.length eH] 55)).heap.size ≤ w19.heap.size := hb.size
  have X19 := Lib.hid (blk_below X18.out hb)
  have HB19 := Lib.hid (below_next HB18.out HB18.out.size hb)
  have oW' := Lib.hid (oW.out.below hb)
  clear oW
  have oW := oW'
  clear oW'
  have oG' := Lib.hid (oG.out.below hb)
  clear oG
  have oG := oG'
  clear oG'
  have oH' := Lib.hid (oH.out.below hb)
  clear oH
  have oH := oH'
  clear oH'
  have YW' := Lib.hid (blk_below YW.out hb)
  clear YW
  have YW := YW'
  clear YW'
  have YX' := Lib.hid (blk_below YX.out hb)
  clear YX
  have YX := YX'
  clear YX'
  have YG' := Lib.hid (blk_below YG.out hb)
  clear YG
  have YG := YG'
  clear YG'
  have YH' := Lib.hid (blk_below YH.out hb)
  clear YH
  have YH := YH'
  clear YH'
  clear X18 HB18
  clear hb
  clear xa xb xc
  clear wya wyb wyc
  clear xya xyb xyc
  clear gya gyb gyc
  clear hya hyb hyc
  have xa := (blk_cell X19.out 0).trans rfl
  have xb := (blk_cell X19.out 1).trans rfl
  have xc := (blk_cell X19.out 2).trans rfl
  have wya := (blk_cell YW.out 0).trans rfl
  have wyb := (blk_cell YW.out 1).trans rfl
  have wyc := (blk_cell YW.out 2).trans rfl
  have xya := (blk_cell YX.out 0).trans rfl
  have xyb := (blk_cell YX.out 1).trans rfl
  have xyc := (blk_cell YX.out 2).trans rfl
  have gya := (blk_cell YG.out 0).trans rfl
  have gyb := (blk_cell YG.out 1).trans rfl
  have gyc := (blk_cell YG.out 2).trans rfl
  have hya := (blk_cell YH.out 0).trans rfl
  have hyb := (blk_cell YH.out 1).trans rfl
  have hyc := (blk_cell YH.out 2).trans rfl
  go_wp2_with (fail)
  refine (held_book_any (dropR b a).1 1 oG.out (by omega) (by omega) SR.out).mono ?_
  rintro e w20 ⟨rfl, hb⟩
  have s20 : w19.heap.size ≤ w20.heap.size := hb.size
  have X20 := Lib.hid (blk_below X19.out hb)
  have HB20 := Lib.hid (below_next HB19.out HB19.out.size hb)
  have oW' := Lib.hid (oW.out.below hb)
  clear oW
  have oW := oW'
  clear oW'
  have oG' := Lib.hid (oG.out.below hb)
  clear oG
  have oG := oG'
  clear oG'
  have oH' := Lib.hid (oH.out.below hb)
  clear oH
  have oH := oH'
  clear oH'
  have YW' := Lib.hid (blk_below YW.out hb)
  clear YW
  have YW := YW'
  clear YW'
  have YX' := Lib.hid (blk_below YX.out hb)
  clear YX
  have YX := YX'
  clear YX'
  have YG' := Lib.hid (blk_below YG.out hb)
  clear YG
  have YG := YG'
  clear YG'
  have YH' := Lib.hid (blk_below YH.out hb)
  clear YH
  have YH := YH'
  clear YH'
  clear X19 HB19
  clear hb
  clear xa xb xc
  clear wya wyb wyc
  clear xya xyb xyc
  clear gya gyb gyc
  clear hya hyb hyc
  go_wp2
  go_ret
  exact ⟨rfl, HB20.out⟩
theorem walk_drop_rows (A0 : Option Addr) (c0 : Nat) (l0 : List Cap) (A1 : Option Addr) (c1 : Nat) (l1 : List Flight) (A2 : Option Addr) (c2 : Nat) (l2 : List Int) (a : ByteArray) (w : World)
    (hr0 : Kd.C k106 w A0 l0.length l0) (hc0 : l0.length ≤ c0) (hg0 : ∀ x ∈ l0, smallC x) (hr1 : Kd.C k51 w A1 l1.length l1) (hc1 : l1.length ≤ c1) (hg1 : ∀ x ∈ l1, smallF x) (hr2 : Kd.C (Kd.int .i64) w A2 l2.length l2) (hc2 : l2.length ≤ c2) (hg2 : ∀ y ∈ l2, (Lit.int .i64 y).wf = true) (hwa : a.size ≤ 140737488351232) :
    Calls Try.prog 8 #[.agg #[.slice A0 l0.length c0, .slice A1 l1.length c1, .slice A2 l2.length c2], .string a] w fun e w' => e = .returned (.bool true) ∧ Below w.heap.size w w' :=
  walk_drop A0 c0 A1 c1 A2 c2 ⟨l0, l1, l2⟩ a w hr0 hc0 hg0 hr1 hc1 hg1 hr2 hc2 hg2 hwa
end Go.Proofs.Ytkfoeplefajkcaa.Q
end
section
namespace Go.Proofs.Ytkfoeplefajkcaa.fnExactFlowDrop
open Go.ChangeShapes Go.WideShapes Go.ChangeAt Go.RowKit
open Go.ChangeMaps (open_string shut_string)
set_option linter.unusedVariables false
theorem own : ownKnob Try.prog.godebug = none := by kernel_rfl
theorem laidOut : laidOutB Try.prog = true := by kernel_rfl
set_option maxRecDepth 100000 in
theorem lifted (os : Os) (started : os.Started) (H : Type) (enc : TypeId × Value → H) :
    ReturnsInHanded {} Try.checked os 8 .any (Rows.fnExactFlowDropSpec.pre6 enc Try.prog Try.f8 Rows.fnExactFlowDropRow.domain false) (Rows.fnExactFlowDropSpec.post enc Try.prog Try.f8 false true false false) := by
  refine returnsInHanded_of_change_sized (C := Try.checked) own started (by kernel_rfl) Try.func8
    (ChangeSpec.witness6 (enc := enc) (C := Try.checked) false ⟨#[], #[.agg #[.slice none 0 0, .slice none 0 0, .slice none 0 0], .string ByteArray.empty], []⟩ 8 (by kernel_rfl) (by kernel_rfl) (by kernel_rfl) (by kernel_rfl)) ?_
  intro W base args ds gs before hval0 hW hcnd hsz0 _
  have hsz : (DataW.weightsEach Try.prog (Try.f8.params.toList ++ Rows.fnExactFlowDropSpec.plain.varTypes Try.prog) (ds ++ gs)).all (· ≤ reachBytes) = true := hsz0
  have hval : ∀ (j : Nat) t v, Try.f8.params[j]? = some t → args[j]? = some v → Value.okWide Try.prog W .any base t v := hval0
  have hW' := hW
  obtain ⟨p, q, hA0, hV, rfl, hfz, hnd⟩ := hW
  have hA : DataW.TrodAll enc Try.prog W 0 (fun _ => true) true Try.f8.params.toList args.toList ds p := hA0
  rw [Try.params8] at hA hval hsz
  obtain ⟨v0, vs0, d0, ds0, p0, q0, hargs, rfl, rfl, h0, r0⟩ := trodAll_cons hA
  obtain ⟨v1, vs1, d1, ds1, p1, q1, rfl, rfl, rfl, h1, r1⟩ := trodAll_cons r0
  obtain ⟨rfl, rfl, rfl⟩ := trodAll_nil r1
  obtain rfl : args = #[v0, v1] := by cases args; simp_all
  obtain ⟨rfl, rfl⟩ := trodVars_none hV
  have k0 := h0
  have lt0 : ∀ x ∈ p0, x.block < W.heap.size := by obtain ⟨m, hm⟩ := k0; exact DataW.trod_lt m _ _ _ hm
  obtain ⟨x0_0, y0_0, l0_0, x1_0, y1_0, l1_0, x2_0, y2_0, l2_0, rfl, hc0_0, hr0_0, hg0_0, hc1_0, hr1_0, hg1_0, hc2_0, hr2_0, hg2_0⟩ := Q.arg_book (hval 0 48 v0 rfl rfl) h0
  obtain ⟨a1, rfl, rfl, rfl, y1⟩ := open_string Try.underlying9 (hval 1 9 v1 rfl rfl) h1
  have w1 : a1.size ≤ 140737488351232 := by
    have z := sized_string hsz (j := 1) (t := 9) rfl rfl
    rw [Array.length_toList] at z
    exact z
  clear hA0 hval0 hsz0 hsz
  refine (Q.walk_drop_rows x0_0 y0_0 l0_0 x1_0 y1_0 l1_0 x2_0 y2_0 l2_0 a1 W hr0_0 hc0_0 hg0_0 hr1_0 hc1_0 hg1_0 hr2_0 hc2_0 hg2_0 w1).mono fun e W' ⟨he, bel⟩ => ?_
  subst he
  exact ⟨_, rfl, _, _, _, [], _, [], hW', trodAll_mk1 (shut_bool Try.underlying4 _), (trodAll_cons_mk (Below.trod laidOut (by kernel_rfl) (of_decide_eq_true (by kernel_rfl)) k0 bel lt0) (trodAll_cons_mk (shut_string Try.underlying9 y1) trodAll_mk0)), rfl, bel.frame _, fun h => by cases h⟩
theorem over : Rows.fnExactFlowDropRow.holds Try.pinned (OpenSpec.ofChange Rows.fnExactFlowDropSpec) :=
  OpenClaim.holds_of_wide 8 Try.f8 rfl rfl rfl rfl rfl rfl rfl ⟨rfl, rfl, rfl, rfl, rfl⟩ rfl rfl rfl rfl rfl (by kernel_rfl) Try.func8 (by kernel_rfl)
    (of_decide_eq_true (by kernel_rfl)) (by unfold Func.isWrapper; first | (rw [if_pos (by decide +kernel)]; kernel_rfl) | (rw [if_neg (by decide +kernel)]; exact ⟨rfl, rfl⟩))
    (fun os started H enc _ => lifted os started H enc)
theorem proved : Rows.FnExactFlowDropSaid := over
#print axioms proved
end Go.Proofs.Ytkfoeplefajkcaa.fnExactFlowDrop
end
