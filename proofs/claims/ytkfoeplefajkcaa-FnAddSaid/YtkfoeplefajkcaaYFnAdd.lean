/- Proved: for every input that can be read, laws.FnAdd answers true and each argument reads behind the call as it read before. No conditions. -/
import Derived.Test.YtkfoeplefajkcaaMgF
import Derived.Test.YtkfoeplefajkcaaMgL
import Derived.Test.YtkfoeplefajkcaaMgAd
import Derived.Test.YtkfoeplefajkcaaMgDp
import Derived.Test.YtkfoeplefajkcaaMgB
import Derived.Test.YtkfoeplefajkcaaRows
import Derived.Test.YtkfoeplefajkcaaMgS
import Derived.WalkKit
import Derived.ProofKit
import Derived.OpenShut
import Derived.ShutString
import Derived.ChangeOld
import Derived.Below
import Derived.SizedLaws
section
namespace Go.Proofs.Ytkfoeplefajkcaa.Q
open Go.RowKit Go.Proofs.YtkfoeplefajkcaaW.PrintWords Go.Proofs.YtkfoeplefajkcaaW.PrintLast Go.Proofs.YtkfoeplefajkcaaW.PrintMore Go.Proofs.Ytkfoeplefajkcaa.Core
set_option linter.unusedVariables false
set_option linter.unusedSimpArgs false
structure BoxG (w : World) (B : Nat) (f : Flight) (A : Option Addr) (c : Nat) : Prop where
  box : w.heap[B]? = some (.cells #[.string f.f0, .int .i64 f.f1, .int .i64 f.f2, .slice A f.f3.length c] 61 (0, 0))
  vis : Kd.C k97 w A f.f3.length f.f3
theorem BoxG.below {w w1 : World} {B : Nat} {f : Flight} {A : Option Addr} {c : Nat} (h : BoxG w B f A c) (hb : Below w.heap.size w w1) : BoxG w1 B f A c := ⟨blk_below h.box hb, Kd.C_below h.vis hb⟩
theorem BoxG.cells {w : World} {B : Nat} {f : Flight} {A : Option Addr} {c : Nat} (h : BoxG w B f A c) : w.cell? ⟨B, 0, none⟩ = some (.string f.f0) ∧ w.cell? ⟨B, 1, none⟩ = some (.int .i64 f.f1) ∧ w.cell? ⟨B, 2, none⟩ = some (.int .i64 f.f2) ∧ w.cell? ⟨B, 3, none⟩ = some (.slice A f.f3.length c) :=
  ⟨(blk_cell h.box 0).trans rfl, (blk_cell h.box 1).trans rfl, (blk_cell h.box 2).trans rfl, (blk_cell h.box 3).trans rfl⟩
theorem stable_of_still {b : Book} (h : okB b = true) (hs : ∀ i, i < b.f1.length → leastAt b.f0 b.f1 b.f2 i = b.f2.getD i 0) : stableB b.f0 b.f1 b.f2 = true := by
  have h1 : fitsB b.f0 b.f1 b.f2 = true := h
  unfold stableB stableFrom
  rw [h1, List.drop_zero, Bool.true_and, List.all_eq_true]
  intro i hi
  rw [List.mem_range, okB_len h] at hi
  rw [hs i hi]
  exact beq_self_eq_true _
theorem okB_small8 {b : Book} (h : okB b = true) : b.f1.length ≤ b.f2.length ∧ b.f2.length ≤ 8 := by
  have h1 := okB_len h
  have h2 := (flightsB_parts (slotsB_parts (fitsB_parts h).2.1).1).1
  omega
theorem addR_cases (b : Book) (f : Flight) : ((addR b f).2 = 0 ∧ okB b = true ∧ okB (addR b f).1 = true ∧ noLB b (addR b f).1 = true ∧ (addR b f).1.f1.length = b.f1.length + 1) ∨ (addR b f).2 = 1 ∨ (1 < (addR b f).2 ∧ (addR b f).1 = b) := by
  cases h : okB b with
  | false => exact .inr (.inl (by unfold addR; rw [if_pos h]))
  | true =>
    have h1 := (addR_ok h f).1
    have h2 := (addR_no h f).1
    unfold addR at h1 h2 ⊢
    rw [if_neg (by rw [h]; decide)] at h1 h2 ⊢
    split
    · exact .inr (.inr ⟨(by decide : (1 : Int) < 2), rfl⟩)
    · rename_i hf
      rw [if_neg hf] at h1 h2
      split
      · exact .inr (.inr ⟨(by decide : (1 : Int) < 3), rfl⟩)
      · rename_i ha
        rw [if_neg ha] at h1 h2
        split
        · exact .inr (.inr ⟨(by decide : (1 : Int) < 4), rfl⟩)
        · rename_i hl
          rw [if_neg hl] at h1 h2
          exact .inl ⟨rfl, rfl, h1, h2, insAt_len f (placeB_le _ _)⟩
theorem dropR_cases (b : Book) (n : ByteArray) : ((dropR b n).2 = 0 ∧ okB b = true ∧ okB (dropR b n).1 = true ∧ noLB b (dropR b n).1 = true ∧ stableB (dropR b n).1.f0 (dropR b n).1.f1 (dropR b n).1.f2 = true ∧ (dropR b n).1.f1.length + 1 = b.f1.length) ∨ (dropR b n).2 = 1 ∨ ((dropR b n).2 = 3 ∧ (dropR b n).1 = b) := by
  cases h : okB b with
  | false => exact .inr (.inl (by unfold dropR; rw [if_pos h]))
  | true =>
    have h1 := (dropR_ok h n).1
    have h2 := dropR_no h n
    have h3 := fun h0 => stable_of_still h1 (h2.2.2 h0)
    have h4 := h2.1
    clear h2
    unfold dropR at h1 h3 h4 ⊢
    rw [if_neg (by rw [h]; decide)] at h1 h3 h4 ⊢
    split
    · exact .inr (.inr ⟨rfl, rfl⟩)
    · rename_i ha
      rw [if_neg ha] at h1 h3 h4
      refine .inl ⟨rfl, rfl, h1, h4, h3 rfl, ?_⟩
      show (delAt (atB b.f1 n).toNat b.f1).length + 1 = b.f1.length
      rcases atB_spec b.f1 n with ⟨e, _⟩ | ⟨k, g, hk, _, e, _⟩
      · rw [e] at ha; exact absurd (by decide) ha
      · rw [e]
        have hkl := (List.getElem?_eq_some_iff.1 hk).1
        unfold delAt
        simp only [List.length_append, List.length_take, List.length_drop, Int.toNat_natCast]
        omega
theorem dropR_lens {b : Book} (h : b.f2.length ≤ 200) (n : ByteArray) : (dropR b n).1.f2.length ≤ 300 := by
  rcases dropR_cases b n with ⟨_, _, h1, _⟩ | h1 | ⟨_, h1⟩
  · have := okB_small8 h1; omega
  · unfold dropR at h1 ⊢
    split
    · exact Nat.zero_le _
    · rename_i hb
      rw [if_neg hb] at h1
      split at h1
      · exact absurd (show (3 : Int) = 1 from h1) (by decide)
      · exact absurd (show (0 : Int) = 1 from h1) (by decide)
  · rw [h1]; omega
set_option maxRecDepth 100000 in
set_option maxHeartbeats 16000000 in
theorem walk_fnadd (A0 : Option Addr) (c0 : Nat) (l0 : List Int) (A9 : Option Addr) (c9 : Nat) (l9 : List Int) (w : World) (hr0 : Kd.C (Kd.int .u8) w A0 l0.length l0) (hc0 : l0.length ≤ c0) (hg0 : ∀ y ∈ l0, (fun y : Int => 0 ≤ y ∧ y ≤ 255) y) (hr9 : Kd.C (Kd.int .u8) w A9 l9.length l9) (hc9 : l9.length ≤ c9) (hg9 : ∀ y ∈ l9, (fun y : Int => 0 ≤ y ∧ y ≤ 255) y) :
    Calls Try.prog 12 #[.slice A0 l0.length c0, .slice A9 l9.length c9] w fun e w' => e = .returned (.bool true) ∧ Below w.heap.size w w' := by
  have HR := Lib.hid hr0
  have HG := Lib.hid (show byteL l0 from hg0)
  have HR9 := Lib.hid hr9
  have HG9 := Lib.hid (show byteL l9 from hg9)
  clear hr0 hg0 hr9 hg9
  by_cases hs : 1048576 < l0.length
  · have e1 : decide ((1048576 : Int) < l0.length) = true := by simp; omega
    go_enter Try.func12, Try.ntmps12
    go_wp2
    go_ret
    exact ⟨rfl, Below.refl _ _⟩
  have e1 : decide ((1048576 : Int) < l0.length) = false := by simp; omega
  by_cases hs9 : 1048576 < l9.length
  · have e2 : decide ((1048576 : Int) < l9.length) = true := by simp; omega
    go_enter Try.func12, Try.ntmps12
    go_wp2
    go_ret
    exact ⟨rfl, Below.refl _ _⟩
  have e2 : decide ((1048576 : Int) < l9.length) = false := by simp; omega
  go_enter Try.func12, Try.ntmps12
  go_wp2_with (fail)
  refine (drawAdd_any A0 c0 l0 _ HR.out hc0 HG.out).mono ?_
  rintro e w1 ⟨v0, v1, v2, b, f, A3, c3, hb1, hb2, rfl, hR, hl3, hC3, hbw⟩
  have z1 := hbw.size
  obtain ⟨AB, cB, CB, dB, DB, eB, rfl, rfl, rfl⟩ := hR.form
  have w1b : Below w1.heap.size w1 ((w1.alloc (.cells #[.slice AB b.f0.length cB, .slice CB b.f1.length dB, .slice DB b.f2.length eB] 55)).alloc (.cells #[.string f.f0, .int .i64 f.f1, .int .i64 f.f2, .slice A3 f.f3.length c3] 61)) := below_alloc (below_alloc (Below.refl _ _) _) _
  have T1 : Hid (BoxR ((w1.alloc (.cells #[.slice AB b.f0.length cB, .slice CB b.f1.length dB, .slice DB b.f2.length eB] 55)).alloc (.cells #[.string f.f0, .int .i64 f.f1, .int .i64 f.f2, .slice A3 f.f3.length c3] 61)) w.heap.size w1.heap.size (.slice AB b.f0.length cB) (.slice CB b.f1.length dB) (.slice DB b.f2.length eB) b) := ⟨blk_alloc (blk_new w1 _) _, hR.below w1b⟩
  have G1 : Hid (BoxG ((w1.alloc (.cells #[.slice AB b.f0.length cB, .slice CB b.f1.length dB, .slice DB b.f2.length eB] 55)).alloc (.cells #[.string f.f0, .int .i64 f.f1, .int .i64 f.f2, .slice A3 f.f3.length c3] 61)) (w1.heap.size + 1) f A3 c3) := by
    have t := blk_new (w1.alloc (.cells #[.slice AB b.f0.length cB, .slice CB b.f1.length dB, .slice DB b.f2.length eB] 55)) (.cells #[.string f.f0, .int .i64 f.f1, .int .i64 f.f2, .slice A3 f.f3.length c3] 61)
    rw [World.size_alloc] at t
    exact ⟨t, Kd.C_below hC3 w1b⟩
  have L1 := Lib.hid (below_next hbw hbw.size w1b)
  clear hR hC3 hbw w1b
  obtain ⟨ta, tb, tc⟩ := T1.out.cells
  obtain ⟨fa, fb, fc, fd⟩ := G1.out.cells
  obtain ⟨xb_, hxb⟩ : ∃ x, x = (addR b f).1 := ⟨_, rfl⟩
  obtain ⟨cd, hcd⟩ : ∃ x, x = (addR b f).2 := ⟨_, rfl⟩
  have hlen : xb_.f2.length ≤ 300 := by rw [hxb]; have := (addR_lens b f).2; omega
  have HCA : Hid ((cd = 0 ∧ okB b = true ∧ okB xb_ = true ∧ noLB b xb_ = true ∧ xb_.f1.length = b.f1.length + 1) ∨ cd = 1 ∨ (1 < cd ∧ xb_ = b)) := by show _ ∨ _; rw [hxb, hcd]; exact addR_cases b f
  have HXB := Lib.hid hxb
  have HCD := Lib.hid hcd
  clear hxb hcd
  go_wp2_with (fail)
  refine (impl_flowAdd_any _ _ _ _ _ _ b f A3 c3 _ T1.out.book.form_D.1 T1.out.book.form_D.2.1 T1.out.book.form_D.2.2 G1.out.vis hl3).mono ?_
  rintro e w2 ⟨u0, u1, u2, rfl, ho, hb⟩
  rw [← HXB.out] at ho
  rw [← HCD.out]
  obtain ⟨AX, cX, CX, dX, DX, eX, rfl, rfl, rfl, _, _, _⟩ := ho.form
  have zb := hb.size
  have ho' := Lib.hid (ho.rd.lower (base' := w.heap.size) (by have := L1.out.size; omega))
  clear ta tb tc
  clear fa fb fc fd
  have T2 := Lib.hid (T1.out.below hb)
  have G2 := Lib.hid (G1.out.below hb)
  have L2 := Lib.hid (below_next L1.out L1.out.size hb)
  clear T1 G1 L1
  clear ho hb zb
  have hb : Below w2.heap.size w2 (w2.alloc (.cells #[.slice AX xb_.f0.length cX, .slice CX xb_.f1.length dX, .slice DX xb_.f2.length eX] 55)) := below_alloc (Below.refl _ _) _
  have X3 : Hid (BoxR (w2.alloc (.cells #[.slice AX xb_.f0.length cX, .slice CX xb_.f1.length dX, .slice DX xb_.f2.length eX] 55)) w.heap.size w2.heap.size (.slice AX xb_.f0.length cX) (.slice CX xb_.f1.length dX) (.slice DX xb_.f2.length eX) xb_) := BoxR.made ho'.out
  have T3 := Lib.hid (T2.out.below hb)
  have G3 := Lib.hid (G2.out.below hb)
  have L3 := Lib.hid (below_next L2.out L2.out.size hb)
  clear T2 G2 L2
  clear hb ho'
  obtain ⟨ta, tb, tc⟩ := T3.out.cells
  obtain ⟨fa, fb, fc, fd⟩ := G3.out.cells
  obtain ⟨xa, xb, xc⟩ := X3.out.cells
  go_wp2_with (fail)
  refine (spec_flowAdd_any _ _ _ _ _ _ b f A3 c3 _ T3.out.book.form_D.1 T3.out.book.form_D.2.1 T3.out.book.form_D.2.2 G3.out.vis hl3).mono ?_
  rintro e w4 ⟨u0, u1, u2, rfl, ho, hb⟩
  rw [← HXB.out] at ho
  rw [← HCD.out]
  obtain ⟨AY, cY, CY, dY, DY, eY, rfl, rfl, rfl, _, _, _⟩ := ho.form
  have zb := hb.size
  have ho' := Lib.hid (ho.rd.lower (base' := w.heap.size) (by have := L3.out.size; omega))
  clear ta tb tc
  clear fa fb fc fd
  clear xa xb xc
  have T4 := Lib.hid (T3.out.below hb)
  have G4 := Lib.hid (G3.out.below hb)
  have X4 := Lib.hid (X3.out.below hb)
  have L4 := Lib.hid (below_next L3.out L3.out.size hb)
  clear T3 G3 X3 L3
  clear ho hb zb
  have hb : Below w4.heap.size w4 (w4.alloc (.cells #[.slice AY xb_.f0.length cY, .slice CY xb_.f1.length dY, .slice DY xb_.f2.length eY] 55)) := below_alloc (Below.refl _ _) _
  have Y5 : Hid (BoxR (w4.alloc (.cells #[.slice AY xb_.f0.length cY, .slice CY xb_.f1.length dY, .slice DY xb_.f2.length eY] 55)) w.heap.size w4.heap.size (.slice AY xb_.f0.length cY) (.slice CY xb_.f1.length dY) (.slice DY xb_.f2.length eY) xb_) := BoxR.made ho'.out
  have T5 := Lib.hid (T4.out.below hb)
  have G5 := Lib.hid (G4.out.below hb)
  have X5 := Lib.hid (X4.out.below hb)
  have L5 := Lib.hid (below_next L4.out L4.out.size hb)
  clear T4 G4 X4 L4
  clear hb ho'
  obtain ⟨ta, tb, tc⟩ := T5.out.cells
  obtain ⟨xa, xb, xc⟩ := X5.out.cells
  obtain ⟨ya, yb, yc⟩ := Y5.out.cells
  clear HXB HCD G5
  have ecc : (cd == cd) = true := beq_self_eq_true _
  go_wp2_with (fail)
  refine (wBookC_any _ _ _ _ _ _ _ _ _ _ _ _ xb_ _ X5.out.book.form_D.1 X5.out.book.form_D.2.1 X5.out.book.form_D.2.2 Y5.out.book.form_D.1 Y5.out.book.form_D.2.1 Y5.out.book.form_D.2.2 (Kd.R_reads' X5.out.book.slots).2.1 (Kd.R_reads' Y5.out.book.slots).2.1 (by omega)).mono ?_
  rintro e w6 ⟨rfl, hb⟩
  clear ta tb tc
  clear xa xb xc
  clear ya yb yc
  have T6 := Lib.hid (T5.out.below hb)
  have X6 := Lib.hid (X5.out.below hb)
  have Y6 := Lib.hid (Y5.out.below hb)
  have L6 := Lib.hid (below_next L5.out L5.out.size hb)
  clear T5 X5 Y5 L5
  clear hb
  obtain ⟨ta, tb, tc⟩ := T6.out.cells
  obtain ⟨xa, xb, xc⟩ := X6.out.cells
  obtain ⟨ya, yb, yc⟩ := Y6.out.cells
  clear ya yb yc Y6
  rcases HCA.out with ⟨rfl, g1, g2, g3, g5⟩ | rfl | ⟨hcd1, g1⟩
  · have G1 := Lib.hid g1
    have G2 := Lib.hid g2
    have G3 := Lib.hid g3
    have G5 := Lib.hid g5
    have e7 : IntKind.i64.wrap (((b.f1.length : Nat) : Int) + 1) = ((xb_.f1.length : Nat) : Int) := (IntWalk.i64_in _ (by omega)).trans (by omega)
    clear g1 g2 g3 g5 HCA
    go_wp2_with (fail)
    refine (wNoLater_any _ _ _ _ _ _ _ _ _ _ _ _ b xb_ _ T6.out.book.form_D.1 T6.out.book.form_D.2.1 T6.out.book.form_D.2.2 X6.out.book.form_D.1 X6.out.book.form_D.2.1 X6.out.book.form_D.2.2 (okB_small8 G1.out).1 (okB_small8 G2.out).1).mono ?_
    rintro e w7 ⟨rfl, hb⟩
    rw [G3.out]
    clear ta tb tc
    clear xa xb xc
    have T7 := Lib.hid (T6.out.below hb)
    have X7 := Lib.hid (X6.out.below hb)
    have L7 := Lib.hid (below_next L6.out L6.out.size hb)
    clear T6 X6 L6
    clear hb
    obtain ⟨ta, tb, tc⟩ := T7.out.cells
    obtain ⟨xa, xb, xc⟩ := X7.out.cells
    go_wp2_with (fail)
    refine (impl_bookOk_any _ _ xb_.f0 _ _ xb_.f1 _ _ xb_.f2 _ X7.out.book.form_D.1 X7.out.book.form_D.2.1 X7.out.book.form_D.2.2).mono ?_
    rintro e w8 ⟨rfl, hb⟩
    rw [show fitsB xb_.f0 xb_.f1 xb_.f2 = true from G2.out]
    clear ta tb tc
    clear xa xb xc
    have T8 := Lib.hid (T7.out.below hb)
    have X8 := Lib.hid (X7.out.below hb)
    have L8 := Lib.hid (below_next L7.out L7.out.size hb)
    clear T7 X7 L7
    clear hb
    obtain ⟨ta, tb, tc⟩ := T8.out.cells
    obtain ⟨xa, xb, xc⟩ := X8.out.cells
    go_wp2_with (fail)
    refine (drawDrop_any A9 c9 l9 _ (Kd.C_below HR9.out L8.out) hc9 HG9.out).mono ?_
    rintro e w20 ⟨v0, v1, v2, b2, nn, hb21, hb22, rfl, hR, hb⟩
    have z20 := hb.size
    obtain ⟨AE, cE, CE, dE, DE, eE, rfl, rfl, rfl⟩ := hR.form
    have hR' := Lib.hid (hR.lower (base' := w.heap.size) (by have := L8.out.size; omega))
    have L20 := Lib.hid (below_next L8.out L8.out.size hb)
    clear hR hb T8 X8 L8
    clear ta tb tc
    clear xa xb xc
    have hb : Below w20.heap.size w20 (w20.alloc (.cells #[.slice AE b2.f0.length cE, .slice CE b2.f1.length dE, .slice DE b2.f2.length eE] 55)) := below_alloc (Below.refl _ _) _
    have E21 : Hid (BoxR (w20.alloc (.cells #[.slice AE b2.f0.length cE, .slice CE b2.f1.length dE, .slice DE b2.f2.length eE] 55)) w.heap.size w20.heap.size (.slice AE b2.f0.length cE) (.slice CE b2.f1.length dE) (.slice DE b2.f2.length eE) b2) := BoxR.made hR'.out
    have L21 := Lib.hid (below_next L20.out L20.out.size hb)
    clear hb hR' L20
    obtain ⟨ea, eb, ec⟩ := E21.out.cells
    obtain ⟨xb_, hxb⟩ : ∃ x, x = (dropR b2 nn).1 := ⟨_, rfl⟩
    obtain ⟨cd, hcd⟩ : ∃ x, x = (dropR b2 nn).2 := ⟨_, rfl⟩
    have hlen2 : xb_.f2.length ≤ 300 := by rw [hxb]; exact dropR_lens hb22 nn
    have HCB : Hid ((cd = 0 ∧ okB b2 = true ∧ okB xb_ = true ∧ noLB b2 xb_ = true ∧ stableB xb_.f0 xb_.f1 xb_.f2 = true ∧ xb_.f1.length + 1 = b2.f1.length) ∨ cd = 1 ∨ (cd = 3 ∧ xb_ = b2)) := by show _ ∨ _; rw [hxb, hcd]; exact dropR_cases b2 nn
    have HXB := Lib.hid hxb
    have HCD := Lib.hid hcd
    clear hxb hcd
    go_wp2_with (fail)
    refine (impl_flowDrop_any _ _ _ _ _ _ b2 nn _ E21.out.book.form_D.1 E21.out.book.form_D.2.1 E21.out.book.form_D.2.2).mono ?_
    rintro e w22 ⟨u0, u1, u2, rfl, ho, hb⟩
    rw [← HXB.out] at ho
    rw [← HCD.out]
    obtain ⟨AP, cP, CP, dP, DP, eP, rfl, rfl, rfl, _, _, _⟩ := ho.form
    have zb := hb.size
    have ho' := Lib.hid (ho.rd.lower (base' := w.heap.size) (by have := L21.out.size; omega))
    clear ea eb ec
    have E22 := Lib.hid (E21.out.below hb)
    have L22 := Lib.hid (below_next L21.out L21.out.size hb)
    clear E21 L21
    clear ho hb zb
    have hb : Below w22.heap.size w22 (w22.alloc (.cells #[.slice AP xb_.f0.length cP, .slice CP xb_.f1.length dP, .slice DP xb_.f2.length eP] 55)) := below_alloc (Below.refl _ _) _
    have P23 : Hid (BoxR (w22.alloc (.cells #[.slice AP xb_.f0.length cP, .slice CP xb_.f1.length dP, .slice DP xb_.f2.length eP] 55)) w.heap.size w22.heap.size (.slice AP xb_.f0.length cP) (.slice CP xb_.f1.length dP) (.slice DP xb_.f2.length eP) xb_) := BoxR.made ho'.out
    have E23 := Lib.hid (E22.out.below hb)
    have L23 := Lib.hid (below_next L22.out L22.out.size hb)
    clear E22 L22
    clear hb ho'
    obtain ⟨ea, eb, ec⟩ := E23.out.cells
    obtain ⟨pa, pb, pc⟩ := P23.out.cells
    go_wp2_with (fail)
    refine (spec_flowDrop_any _ _ _ _ _ _ b2 nn _ E23.out.book.form_D.1 E23.out.book.form_D.2.1 E23.out.book.form_D.2.2).mono ?_
    rintro e w24 ⟨u0, u1, u2, rfl, ho, hb⟩
    rw [← HXB.out] at ho
    rw [← HCD.out]
    obtain ⟨AQ, cQ, CQ, dQ, DQ, eQ, rfl, rfl, rfl, _, _, _⟩ := ho.form
    have zb := hb.size
    have ho' := Lib.hid (ho.rd.lower (base' := w.heap.size) (by have := L23.out.size; omega))
    clear ea eb ec
    clear pa pb pc
    have E24 := Lib.hid (E23.out.below hb)
    have P24 := Lib.hid (P23.out.below hb)
    have L24 := Lib.hid (below_next L23.out L23.out.size hb)
    clear E23 P23 L23
    clear ho hb zb
    have hb : Below w24.heap.size w24 (w24.alloc (.cells #[.slice AQ xb_.f0.length cQ, .slice CQ xb_.f1.length dQ, .slice DQ xb_.f2.length eQ] 55)) := below_alloc (Below.refl _ _) _
    have Q25 : Hid (BoxR (w24.alloc (.cells #[.slice AQ xb_.f0.length cQ, .slice CQ xb_.f1.length dQ, .slice DQ xb_.f2.length eQ] 55)) w.heap.size w24.heap.size (.slice AQ xb_.f0.length cQ) (.slice CQ xb_.f1.length dQ) (.slice DQ xb_.f2.length eQ) xb_) := BoxR.made ho'.out
    have E25 := Lib.hid (E24.out.below hb)
    have P25 := Lib.hid (P24.out.below hb)
    have L25 := Lib.hid (below_next L24.out L24.out.size hb)
    clear E24 P24 L24
    clear hb ho'
    obtain ⟨ea, eb, ec⟩ := E25.out.cells
    obtain ⟨pa, pb, pc⟩ := P25.out.cells
    obtain ⟨qa, qb, qc⟩ := Q25.out.cells
    clear HXB HCD
    have ecd : (cd == cd) = true := beq_self_eq_true _
    go_wp2_with (fail)
    refine (wBookC_any _ _ _ _ _ _ _ _ _ _ _ _ xb_ _ P25.out.book.form_D.1 P25.out.book.form_D.2.1 P25.out.book.form_D.2.2 Q25.out.book.form_D.1 Q25.out.book.form_D.2.1 Q25.out.book.form_D.2.2 (Kd.R_reads' P25.out.book.slots).2.1 (Kd.R_reads' Q25.out.book.slots).2.1 (by omega)).mono ?_
    rintro e w26 ⟨rfl, hb⟩
    clear ea eb ec
    clear pa pb pc
    clear qa qb qc
    have E26 := Lib.hid (E25.out.below hb)
    have P26 := Lib.hid (P25.out.below hb)
    have Q26 := Lib.hid (Q25.out.below hb)
    have L26 := Lib.hid (below_next L25.out L25.out.size hb)
    clear E25 P25 Q25 L25
    clear hb
    obtain ⟨ea, eb, ec⟩ := E26.out.cells
    obtain ⟨pa, pb, pc⟩ := P26.out.cells
    obtain ⟨qa, qb, qc⟩ := Q26.out.cells
    clear qa qb qc Q26
    rcases HCB.out with ⟨rfl, g1, g2, g3, g4, g5⟩ | rfl | ⟨rfl, g1⟩
    · have G1 := Lib.hid g1
      have G2 := Lib.hid g2
      have G3 := Lib.hid g3
      have G4 := Lib.hid g4
      have G5 := Lib.hid g5
      have e7 : (((xb_.f1.length : Nat) : Int) == IntKind.i64.wrap (((b2.f1.length : Nat) : Int) - 1)) = true := by rw [show IntKind.i64.wrap (((b2.f1.length : Nat) : Int) - 1) = ((xb_.f1.length : Nat) : Int) from (IntWalk.i64_in _ (by omega)).trans (by omega)]; exact beq_self_eq_true _
      have e8 : IntKind.i64.wrap (((b2.f1.length : Nat) : Int) - 1) = ((xb_.f1.length : Nat) : Int) := (IntWalk.i64_in _ (by omega)).trans (by omega)
      clear g1 g2 g3 g4 g5 HCB
      go_wp2_with (fail)
      refine (wNoLater_any _ _ _ _ _ _ _ _ _ _ _ _ b2 xb_ _ E26.out.book.form_D.1 E26.out.book.form_D.2.1 E26.out.book.form_D.2.2 P26.out.book.form_D.1 P26.out.book.form_D.2.1 P26.out.book.form_D.2.2 (okB_small8 G1.out).1 (okB_small8 G2.out).1).mono ?_
      rintro e w27 ⟨rfl, hb⟩
      rw [G3.out]
      clear ea eb ec
      clear pa pb pc
      have E27 := Lib.hid (E26.out.below hb)
      have P27 := Lib.hid (P26.out.below hb)
      have L27 := Lib.hid (below_next L26.out L26.out.size hb)
      clear E26 P26 L26
      clear hb
      obtain ⟨ea, eb, ec⟩ := E27.out.cells
      obtain ⟨pa, pb, pc⟩ := P27.out.cells
      go_wp2_with (fail)
      refine (impl_stable_any _ _ xb_.f0 _ _ xb_.f1 _ _ xb_.f2 _ P27.out.book.form_D.1 P27.out.book.form_D.2.1 P27.out.book.form_D.2.2).mono ?_
      rintro e w28 ⟨rfl, hb⟩
      rw [G4.out]
      clear ea eb ec
      clear pa pb pc
      have E28 := Lib.hid (E27.out.below hb)
      have P28 := Lib.hid (P27.out.below hb)
      have L28 := Lib.hid (below_next L27.out L27.out.size hb)
      clear E27 P27 L27
      clear hb
      obtain ⟨ea, eb, ec⟩ := E28.out.cells
      obtain ⟨pa, pb, pc⟩ := P28.out.cells
      go_wp2
      go_ret
      exact ⟨by simp, L28.out⟩
    · clear HCB
      go_wp2
      go_ret
      exact ⟨by simp, L26.out⟩
    · subst g1
      clear HCB
      go_wp2_with (fail)
      refine (wBookC_any _ _ _ _ _ _ _ _ _ _ _ _ xb_ _ P26.out.book.form_D.1 P26.out.book.form_D.2.1 P26.out.book.form_D.2.2 E26.out.book.form_D.1 E26.out.book.form_D.2.1 E26.out.book.form_D.2.2 (Kd.R_reads' P26.out.book.slots).2.1 (Kd.R_reads' E26.out.book.slots).2.1 (by omega)).mono ?_
      rintro e w27 ⟨rfl, hb⟩
      clear ea eb ec
      clear pa pb pc
      have E27 := Lib.hid (E26.out.below hb)
      have P27 := Lib.hid (P26.out.below hb)
      have L27 := Lib.hid (below_next L26.out L26.out.size hb)
      clear E26 P26 L26
      clear hb
      obtain ⟨ea, eb, ec⟩ := E27.out.cells
      obtain ⟨pa, pb, pc⟩ := P27.out.cells
      go_wp2
      go_ret
      exact ⟨by simp, L27.out⟩
  · clear HCA
    go_wp2_with (fail)
    refine (drawDrop_any A9 c9 l9 _ (Kd.C_below HR9.out L6.out) hc9 HG9.out).mono ?_
    rintro e w20 ⟨v0, v1, v2, b2, nn, hb21, hb22, rfl, hR, hb⟩
    have z20 := hb.size
    obtain ⟨AE, cE, CE, dE, DE, eE, rfl, rfl, rfl⟩ := hR.form
    have hR' := Lib.hid (hR.lower (base' := w.heap.size) (by have := L6.out.size; omega))
    have L20 := Lib.hid (below_next L6.out L6.out.size hb)
    clear hR hb T6 X6 L6
    clear ta tb tc
    clear xa xb xc
    have hb : Below w20.heap.size w20 (w20.alloc (.cells #[.slice AE b2.f0.length cE, .slice CE b2.f1.length dE, .slice DE b2.f2.length eE] 55)) := below_alloc (Below.refl _ _) _
    have E21 : Hid (BoxR (w20.alloc (.cells #[.slice AE b2.f0.length cE, .slice CE b2.f1.length dE, .slice DE b2.f2.length eE] 55)) w.heap.size w20.heap.size (.slice AE b2.f0.length cE) (.slice CE b2.f1.length dE) (.slice DE b2.f2.length eE) b2) := BoxR.made hR'.out
    have L21 := Lib.hid (below_next L20.out L20.out.size hb)
    clear hb hR' L20
    obtain ⟨ea, eb, ec⟩ := E21.out.cells
    obtain ⟨xb_, hxb⟩ : ∃ x, x = (dropR b2 nn).1 := ⟨_, rfl⟩
    obtain ⟨cd, hcd⟩ : ∃ x, x = (dropR b2 nn).2 := ⟨_, rfl⟩
    have hlen2 : xb_.f2.length ≤ 300 := by rw [hxb]; exact dropR_lens hb22 nn
    have HCB : Hid ((cd = 0 ∧ okB b2 = true ∧ okB xb_ = true ∧ noLB b2 xb_ = true ∧ stableB xb_.f0 xb_.f1 xb_.f2 = true ∧ xb_.f1.length + 1 = b2.f1.length) ∨ cd = 1 ∨ (cd = 3 ∧ xb_ = b2)) := by show _ ∨ _; rw [hxb, hcd]; exact dropR_cases b2 nn
    have HXB := Lib.hid hxb
    have HCD := Lib.hid hcd
    clear hxb hcd
    go_wp2_with (fail)
    refine (impl_flowDrop_any _ _ _ _ _ _ b2 nn _ E21.out.book.form_D.1 E21.out.book.form_D.2.1 E21.out.book.form_D.2.2).mono ?_
    rintro e w22 ⟨u0, u1, u2, rfl, ho, hb⟩
    rw [← HXB.out] at ho
    rw [← HCD.out]
    obtain ⟨AP, cP, CP, dP, DP, eP, rfl, rfl, rfl, _, _, _⟩ := ho.form
    have zb := hb.size
    have ho' := Lib.hid (ho.rd.lower (base' := w.heap.size) (by have := L21.out.size; omega))
    clear ea eb ec
    have E22 := Lib.hid (E21.out.below hb)
    have L22 := Lib.hid (below_next L21.out L21.out.size hb)
    clear E21 L21
    clear ho hb zb
    have hb : Below w22.heap.size w22 (w22.alloc (.cells #[.slice AP xb_.f0.length cP, .slice CP xb_.f1.length dP, .slice DP xb_.f2.length eP] 55)) := below_alloc (Below.refl _ _) _
    have P23 : Hid (BoxR (w22.alloc (.cells #[.slice AP xb_.f0.length cP, .slice CP xb_.f1.length dP, .slice DP xb_.f2.length eP] 55)) w.heap.size w22.heap.size (.slice AP xb_.f0.length cP) (.slice CP xb_.f1.length dP) (.slice DP xb_.f2.length eP) xb_) := BoxR.made ho'.out
    have E23 := Lib.hid (E22.out.below hb)
    have L23 := Lib.hid (below_next L22.out L22.out.size hb)
    clear E22 L22
    clear hb ho'
    obtain ⟨ea, eb, ec⟩ := E23.out.cells
    obtain ⟨pa, pb, pc⟩ := P23.out.cells
    go_wp2_with (fail)
    refine (spec_flowDrop_any _ _ _ _ _ _ b2 nn _ E23.out.book.form_D.1 E23.out.book.form_D.2.1 E23.out.book.form_D.2.2).mono ?_
    rintro e w24 ⟨u0, u1, u2, rfl, ho, hb⟩
    rw [← HXB.out] at ho
    rw [← HCD.out]
    obtain ⟨AQ, cQ, CQ, dQ, DQ, eQ, rfl, rfl, rfl, _, _, _⟩ := ho.form
    have zb := hb.size
    have ho' := Lib.hid (ho.rd.lower (base' := w.heap.size) (by have := L23.out.size; omega))
    clear ea eb ec
    clear pa pb pc
    have E24 := Lib.hid (E23.out.below hb)
    have P24 := Lib.hid (P23.out.below hb)
    have L24 := Lib.hid (below_next L23.out L23.out.size hb)
    clear E23 P23 L23
    clear ho hb zb
    have hb : Below w24.heap.size w24 (w24.alloc (.cells #[.slice AQ xb_.f0.length cQ, .slice CQ xb_.f1.length dQ, .slice DQ xb_.f2.length eQ] 55)) := below_alloc (Below.refl _ _) _
    have Q25 : Hid (BoxR (w24.alloc (.cells #[.slice AQ xb_.f0.length cQ, .slice CQ xb_.f1.length dQ, .slice DQ xb_.f2.length eQ] 55)) w.heap.size w24.heap.size (.slice AQ xb_.f0.length cQ) (.slice CQ xb_.f1.length dQ) (.slice DQ xb_.f2.length eQ) xb_) := BoxR.made ho'.out
    have E25 := Lib.hid (E24.out.below hb)
    have P25 := Lib.hid (P24.out.below hb)
    have L25 := Lib.hid (below_next L24.out L24.out.size hb)
    clear E24 P24 L24
    clear hb ho'
    obtain ⟨ea, eb, ec⟩ := E25.out.cells
    obtain ⟨pa, pb, pc⟩ := P25.out.cells
    obtain ⟨qa, qb, qc⟩ := Q25.out.cells
    clear HXB HCD
    have ecd : (cd == cd) = true := beq_self_eq_true _
    go_wp2_with (fail)
    refine (wBookC_any _ _ _ _ _ _ _ _ _ _ _ _ xb_ _ P25.out.book.form_D.1 P25.out.book.form_D.2.1 P25.out.book.form_D.2.2 Q25.out.book.form_D.1 Q25.out.book.form_D.2.1 Q25.out.book.form_D.2.2 (Kd.R_reads' P25.out.book.slots).2.1 (Kd.R_reads' Q25.out.book.slots).2.1 (by omega)).mono ?_
    rintro e w26 ⟨rfl, hb⟩
    clear ea eb ec
    clear pa pb pc
    clear qa qb qc
    have E26 := Lib.hid (E25.out.below hb)
    have P26 := Lib.hid (P25.out.below hb)
    have Q26 := Lib.hid (Q25.out.below hb)
    have L26 := Lib.hid (below_next L25.out L25.out.size hb)
    clear E25 P25 Q25 L25
    clear hb
    obtain ⟨ea, eb, ec⟩ := E26.out.cells
    obtain ⟨pa, pb, pc⟩ := P26.out.cells
    obtain ⟨qa, qb, qc⟩ := Q26.out.cells
    clear qa qb qc Q26
    rcases HCB.out with ⟨rfl, g1, g2, g3, g4, g5⟩ | rfl | ⟨rfl, g1⟩
    · have G1 := Lib.hid g1
      have G2 := Lib.hid g2
      have G3 := Lib.hid g3
      have G4 := Lib.hid g4
      have G5 := Lib.hid g5
      have e7 : (((xb_.f1.length : Nat) : Int) == IntKind.i64.wrap (((b2.f1.length : Nat) : Int) - 1)) = true := by rw [show IntKind.i64.wrap (((b2.f1.length : Nat) : Int) - 1) = ((xb_.f1.length : Nat) : Int) from (IntWalk.i64_in _ (by omega)).trans (by omega)]; exact beq_self_eq_true _
      have e8 : IntKind.i64.wrap (((b2.f1.length : Nat) : Int) - 1) = ((xb_.f1.length : Nat) : Int) := (IntWalk.i64_in _ (by omega)).trans (by omega)
      clear g1 g2 g3 g4 g5 HCB
      go_wp2_with (fail)
      refine (wNoLater_any _ _ _ _ _ _ _ _ _ _ _ _ b2 xb_ _ E26.out.book.form_D.1 E26.out.book.form_D.2.1 E26.out.book.form_D.2.2 P26.out.book.form_D.1 P26.out.book.form_D.2.1 P26.out.book.form_D.2.2 (okB_small8 G1.out).1 (okB_small8 G2.out).1).mono ?_
      rintro e w27 ⟨rfl, hb⟩
      rw [G3.out]
      clear ea eb ec
      clear pa pb pc
      have E27 := Lib.hid (E26.out.below hb)
      have P27 := Lib.hid (P26.out.below hb)
      have L27 := Lib.hid (below_next L26.out L26.out.size hb)
      clear E26 P26 L26
      clear hb
      obtain ⟨ea, eb, ec⟩ := E27.out.cells
      obtain ⟨pa, pb, pc⟩ := P27.out.cells
      go_wp2_with (fail)
      refine (impl_stable_any _ _ xb_.f0 _ _ xb_.f1 _ _ xb_.f2 _ P27.out.book.form_D.1 P27.out.book.form_D.2.1 P27.out.book.form_D.2.2).mono ?_
      rintro e w28 ⟨rfl, hb⟩
      rw [G4.out]
      clear ea eb ec
      clear pa pb pc
      have E28 := Lib.hid (E27.out.below hb)
      have P28 := Lib.hid (P27.out.below hb)
      have L28 := Lib.hid (below_next L27.out L27.out.size hb)
      clear E27 P27 L27
      clear hb
      obtain ⟨ea, eb, ec⟩ := E28.out.cells
      obtain ⟨pa, pb, pc⟩ := P28.out.cells
      go_wp2
      go_ret
      exact ⟨by simp, L28.out⟩
    · clear HCB
      go_wp2
      go_ret
      exact ⟨by simp, L26.out⟩
    · subst g1
      clear HCB
      go_wp2_with (fail)
      refine (wBookC_any _ _ _ _ _ _ _ _ _ _ _ _ xb_ _ P26.out.book.form_D.1 P26.out.book.form_D.2.1 P26.out.book.form_D.2.2 E26.out.book.form_D.1 E26.out.book.form_D.2.1 E26.out.book.form_D.2.2 (Kd.R_reads' P26.out.book.slots).2.1 (Kd.R_reads' E26.out.book.slots).2.1 (by omega)).mono ?_
      rintro e w27 ⟨rfl, hb⟩
      clear ea eb ec
      clear pa pb pc
      have E27 := Lib.hid (E26.out.below hb)
      have P27 := Lib.hid (P26.out.below hb)
      have L27 := Lib.hid (below_next L26.out L26.out.size hb)
      clear E26 P26 L26
      clear hb
      obtain ⟨ea, eb, ec⟩ := E27.out.cells
      obtain ⟨pa, pb, pc⟩ := P27.out.cells
      go_wp2
      go_ret
      exact ⟨by simp, L27.out⟩
  · have ec1 : decide (1 < cd) = true := decide_eq_true hcd1
    have ec0 : (cd == 0) = false := by rw [beq_eq_false_iff_ne]; omega
    subst g1
    clear HCA
    go_wp2_with (fail)
    refine (wBookC_any _ _ _ _ _ _ _ _ _ _ _ _ xb_ _ X6.out.book.form_D.1 X6.out.book.form_D.2.1 X6.out.book.form_D.2.2 T6.out.book.form_D.1 T6.out.book.form_D.2.1 T6.out.book.form_D.2.2 (Kd.R_reads' X6.out.book.slots).2.1 (Kd.R_reads' T6.out.book.slots).2.1 (by omega)).mono ?_
    rintro e w7 ⟨rfl, hb⟩
    clear ta tb tc
    clear xa xb xc
    have T7 := Lib.hid (T6.out.below hb)
    have X7 := Lib.hid (X6.out.below hb)
    have L7 := Lib.hid (below_next L6.out L6.out.size hb)
    clear T6 X6 L6
    clear hb
    obtain ⟨ta, tb, tc⟩ := T7.out.cells
    obtain ⟨xa, xb, xc⟩ := X7.out.cells
    go_wp2_with (fail)
    refine (drawDrop_any A9 c9 l9 _ (Kd.C_below HR9.out L7.out) hc9 HG9.out).mono ?_
    rintro e w20 ⟨v0, v1, v2, b2, nn, hb21, hb22, rfl, hR, hb⟩
    have z20 := hb.size
    obtain ⟨AE, cE, CE, dE, DE, eE, rfl, rfl, rfl⟩ := hR.form
    have hR' := Lib.hid (hR.lower (base' := w.heap.size) (by have := L7.out.size; omega))
    have L20 := Lib.hid (below_next L7.out L7.out.size hb)
    clear hR hb T7 X7 L7
    clear ta tb tc
    clear xa xb xc
    have hb : Below w20.heap.size w20 (w20.alloc (.cells #[.slice AE b2.f0.length cE, .slice CE b2.f1.length dE, .slice DE b2.f2.length eE] 55)) := below_alloc (Below.refl _ _) _
    have E21 : Hid (BoxR (w20.alloc (.cells #[.slice AE b2.f0.length cE, .slice CE b2.f1.length dE, .slice DE b2.f2.length eE] 55)) w.heap.size w20.heap.size (.slice AE b2.f0.length cE) (.slice CE b2.f1.length dE) (.slice DE b2.f2.length eE) b2) := BoxR.made hR'.out
    have L21 := Lib.hid (below_next L20.out L20.out.size hb)
    clear hb hR' L20
    obtain ⟨ea, eb, ec⟩ := E21.out.cells
    obtain ⟨xb_, hxb⟩ : ∃ x, x = (dropR b2 nn).1 := ⟨_, rfl⟩
    obtain ⟨cd, hcd⟩ : ∃ x, x = (dropR b2 nn).2 := ⟨_, rfl⟩
    have hlen2 : xb_.f2.length ≤ 300 := by rw [hxb]; exact dropR_lens hb22 nn
    have HCB : Hid ((cd = 0 ∧ okB b2 = true ∧ okB xb_ = true ∧ noLB b2 xb_ = true ∧ stableB xb_.f0 xb_.f1 xb_.f2 = true ∧ xb_.f1.length + 1 = b2.f1.length) ∨ cd = 1 ∨ (cd = 3 ∧ xb_ = b2)) := by show _ ∨ _; rw [hxb, hcd]; exact dropR_cases b2 nn
    have HXB := Lib.hid hxb
    have HCD := Lib.hid hcd
    clear hxb hcd
    go_wp2_with (fail)
    refine (impl_flowDrop_any _ _ _ _ _ _ b2 nn _ E21.out.book.form_D.1 E21.out.book.form_D.2.1 E21.out.book.form_D.2.2).mono ?_
    rintro e w22 ⟨u0, u1, u2, rfl, ho, hb⟩
    rw [← HXB.out] at ho
    rw [← HCD.out]
    obtain ⟨AP, cP, CP, dP, DP, eP, rfl, rfl, rfl, _, _, _⟩ := ho.form
    have zb := hb.size
    have ho' := Lib.hid (ho.rd.lower (base' := w.heap.size) (by have := L21.out.size; omega))
    clear ea eb ec
    have E22 := Lib.hid (E21.out.below hb)
    have L22 := Lib.hid (below_next L21.out L21.out.size hb)
    clear E21 L21
    clear ho hb zb
    have hb : Below w22.heap.size w22 (w22.alloc (.cells #[.slice AP xb_.f0.length cP, .slice CP xb_.f1.length dP, .slice DP xb_.f2.length eP] 55)) := below_alloc (Below.refl _ _) _
    have P23 : Hid (BoxR (w22.alloc (.cells #[.slice AP xb_.f0.length cP, .slice CP xb_.f1.length dP, .slice DP xb_.f2.length eP] 55)) w.heap.size w22.heap.size (.slice AP xb_.f0.length cP) (.slice CP xb_.f1.length dP) (.slice DP xb_.f2.length eP) xb_) := BoxR.made ho'.out
    have E23 := Lib.hid (E22.out.below hb)
    have L23 := Lib.hid (below_next L22.out L22.out.size hb)
    clear E22 L22
    clear hb ho'
    obtain ⟨ea, eb, ec⟩ := E23.out.cells
    obtain ⟨pa, pb, pc⟩ := P23.out.cells
    go_wp2_with (fail)
    refine (spec_flowDrop_any _ _ _ _ _ _ b2 nn _ E23.out.book.form_D.1 E23.out.book.form_D.2.1 E23.out.book.form_D.2.2).mono ?_
    rintro e w24 ⟨u0, u1, u2, rfl, ho, hb⟩
    rw [← HXB.out] at ho
    rw [← HCD.out]
    obtain ⟨AQ, cQ, CQ, dQ, DQ, eQ, rfl, rfl, rfl, _, _, _⟩ := ho.form
    have zb := hb.size
    have ho' := Lib.hid (ho.rd.lower (base' := w.heap.size) (by have := L23.out.size; omega))
    clear ea eb ec
    clear pa pb pc
    have E24 := Lib.hid (E23.out.below hb)
    have P24 := Lib.hid (P23.out.below hb)
    have L24 := Lib.hid (below_next L23.out L23.out.size hb)
    clear E23 P23 L23
    clear ho hb zb
    have hb : Below w24.heap.size w24 (w24.alloc (.cells #[.slice AQ xb_.f0.length cQ, .slice CQ xb_.f1.length dQ, .slice DQ xb_.f2.length eQ] 55)) := below_alloc (Below.refl _ _) _
    have Q25 : Hid (BoxR (w24.alloc (.cells #[.slice AQ xb_.f0.length cQ, .slice CQ xb_.f1.length dQ, .slice DQ xb_.f2.length eQ] 55)) w.heap.size w24.heap.size (.slice AQ xb_.f0.length cQ) (.slice CQ xb_.f1.length dQ) (.slice DQ xb_.f2.length eQ) xb_) := BoxR.made ho'.out
    have E25 := Lib.hid (E24.out.below hb)
    have P25 := Lib.hid (P24.out.below hb)
    have L25 := Lib.hid (below_next L24.out L24.out.size hb)
    clear E24 P24 L24
    clear hb ho'
    obtain ⟨ea, eb, ec⟩ := E25.out.cells
    obtain ⟨pa, pb, pc⟩ := P25.out.cells
    obtain ⟨qa, qb, qc⟩ := Q25.out.cells
    clear HXB HCD
    have ecd : (cd == cd) = true := beq_self_eq_true _
    go_wp2_with (fail)
    refine (wBookC_any _ _ _ _ _ _ _ _ _ _ _ _ xb_ _ P25.out.book.form_D.1 P25.out.book.form_D.2.1 P25.out.book.form_D.2.2 Q25.out.book.form_D.1 Q25.out.book.form_D.2.1 Q25.out.book.form_D.2.2 (Kd.R_reads' P25.out.book.slots).2.1 (Kd.R_reads' Q25.out.book.slots).2.1 (by omega)).mono ?_
    rintro e w26 ⟨rfl, hb⟩
    clear ea eb ec
    clear pa pb pc
    clear qa qb qc
    have E26 := Lib.hid (E25.out.below hb)
    have P26 := Lib.hid (P25.out.below hb)
    have Q26 := Lib.hid (Q25.out.below hb)
    have L26 := Lib.hid (below_next L25.out L25.out.size hb)
    clear E25 P25 Q25 L25
    clear hb
    obtain ⟨ea, eb, ec⟩ := E26.out.cells
    obtain ⟨pa, pb, pc⟩ := P26.out.cells
    obtain ⟨qa, qb, qc⟩ := Q26.out.cells
    clear qa qb qc Q26
    rcases HCB.out with ⟨rfl, g1, g2, g3, g4, g5⟩ | rfl | ⟨rfl, g1⟩
    · have G1 := Lib.hid g1
      have G2 := Lib.hid g2
      have G3 := Lib.hid g3
      have G4 := Lib.hid g4
      have G5 := Lib.hid g5
      have e7 : (((xb_.f1.length : Nat) : Int) == IntKind.i64.wrap (((b2.f1.length : Nat) : Int) - 1)) = true := by rw [show IntKind.i64.wrap (((b2.f1.length : Nat) : Int) - 1) = ((xb_.f1.length : Nat) : Int) from (IntWalk.i64_in _ (by omega)).trans (by omega)]; exact beq_self_eq_true _
      have e8 : IntKind.i64.wrap (((b2.f1.length : Nat) : Int) - 1) = ((xb_.f1.length : Nat) : Int) := (IntWalk.i64_in _ (by omega)).trans (by omega)
      clear g1 g2 g3 g4 g5 HCB
      go_wp2_with (fail)
      refine (wNoLater_any _ _ _ _ _ _ _ _ _ _ _ _ b2 xb_ _ E26.out.book.form_D.1 E26.out.book.form_D.2.1 E26.out.book.form_D.2.2 P26.out.book.form_D.1 P26.out.book.form_D.2.1 P26.out.book.form_D.2.2 (okB_small8 G1.out).1 (okB_small8 G2.out).1).mono ?_
      rintro e w27 ⟨rfl, hb⟩
      rw [G3.out]
      clear ea eb ec
      clear pa pb pc
      have E27 := Lib.hid (E26.out.below hb)
      have P27 := Lib.hid (P26.out.below hb)
      have L27 := Lib.hid (below_next L26.out L26.out.size hb)
      clear E26 P26 L26
      clear hb
      obtain ⟨ea, eb, ec⟩ := E27.out.cells
      obtain ⟨pa, pb, pc⟩ := P27.out.cells
      go_wp2_with (fail)
      refine (impl_stable_any _ _ xb_.f0 _ _ xb_.f1 _ _ xb_.f2 _ P27.out.book.form_D.1 P27.out.book.form_D.2.1 P27.out.book.form_D.2.2).mono ?_
      rintro e w28 ⟨rfl, hb⟩
      rw [G4.out]
      clear ea eb ec
      clear pa pb pc
      have E28 := Lib.hid (E27.out.below hb)
      have P28 := Lib.hid (P27.out.below hb)
      have L28 := Lib.hid (below_next L27.out L27.out.size hb)
      clear E27 P27 L27
      clear hb
      obtain ⟨ea, eb, ec⟩ := E28.out.cells
      obtain ⟨pa, pb, pc⟩ := P28.out.cells
      go_wp2
      go_ret
      exact ⟨by simp, L28.out⟩
    · clear HCB
      go_wp2
      go_ret
      exact ⟨by simp, L26.out⟩
    · subst g1
      clear HCB
      go_wp2_with (fail)
      refine (wBookC_any _ _ _ _ _ _ _ _ _ _ _ _ xb_ _ P26.out.book.form_D.1 P26.out.book.form_D.2.1 P26.out.book.form_D.2.2 E26.out.book.form_D.1 E26.out.book.form_D.2.1 E26.out.book.form_D.2.2 (Kd.R_reads' P26.out.book.slots).2.1 (Kd.R_reads' E26.out.book.slots).2.1 (by omega)).mono ?_
      rintro e w27 ⟨rfl, hb⟩
      clear ea eb ec
      clear pa pb pc
      have E27 := Lib.hid (E26.out.below hb)
      have P27 := Lib.hid (P26.out.below hb)
      have L27 := Lib.hid (below_next L26.out L26.out.size hb)
      clear E26 P26 L26
      clear hb
      obtain ⟨ea, eb, ec⟩ := E27.out.cells
      obtain ⟨pa, pb, pc⟩ := P27.out.cells
      go_wp2
      go_ret
      exact ⟨by simp, L27.out⟩
end Go.Proofs.Ytkfoeplefajkcaa.Q
end
section
namespace Go.Proofs.Ytkfoeplefajkcaa.fnAdd
open Go.ChangeShapes Go.WideShapes Go.ChangeAt Go.RowKit
open Go.ChangeMaps (open_string shut_string)
set_option linter.unusedVariables false
theorem own : ownKnob Try.prog.godebug = none := by kernel_rfl
theorem laidOut : laidOutB Try.prog = true := by kernel_rfl
set_option maxRecDepth 100000 in
theorem lifted (os : Os) (started : os.Started) (H : Type) (enc : TypeId × Value → H) :
    ReturnsInHanded {} Try.checked os 12 .any (Rows.fnAddSpec.pre6 enc Try.prog Try.f12 Rows.fnAddRow.domain false) (Rows.fnAddSpec.post enc Try.prog Try.f12 false true false false) := by
  refine returnsInHanded_of_change_sized (C := Try.checked) own started (by kernel_rfl) Try.func12
    (ChangeSpec.witness6 (enc := enc) (C := Try.checked) false ⟨#[], #[.slice none 0 0, .slice none 0 0], []⟩ 8 (by kernel_rfl) (by kernel_rfl) (by kernel_rfl) (by kernel_rfl)) ?_
  intro W base args ds gs before hval0 hW hcnd hsz0 _
  have hsz : (DataW.weightsEach Try.prog (Try.f12.params.toList ++ Rows.fnAddSpec.plain.varTypes Try.prog) (ds ++ gs)).all (· ≤ reachBytes) = true := hsz0
  have hval : ∀ (j : Nat) t v, Try.f12.params[j]? = some t → args[j]? = some v → Value.okWide Try.prog W .any base t v := hval0
  have hW' := hW
  obtain ⟨p, q, hA0, hV, rfl, hfz, hnd⟩ := hW
  have hA : DataW.TrodAll enc Try.prog W 0 (fun _ => true) true Try.f12.params.toList args.toList ds p := hA0
  rw [Try.params12] at hA hval hsz
  obtain ⟨v0, vs0, d0, ds0, p0, q0, hargs, rfl, rfl, h0, r0⟩ := trodAll_cons hA
  obtain ⟨v1, vs1, d1, ds1, p1, q1, rfl, rfl, rfl, h1, r1⟩ := trodAll_cons r0
  obtain ⟨rfl, rfl, rfl⟩ := trodAll_nil r1
  obtain rfl : args = #[v0, v1] := by cases args; simp_all
  obtain ⟨rfl, rfl⟩ := trodVars_none hV
  obtain ⟨a0, len0, cap0, rfl⟩ := okWide_slice Try.underlying72 (hval 0 72 v0 rfl rfl)
  have k0 := h0
  have lt0 : ∀ x ∈ p0, x.block < W.heap.size := by obtain ⟨m, hm⟩ := k0; exact DataW.trod_lt m _ _ _ hm
  obtain ⟨l0, rfl, hc0, hr0, hg0⟩ := Q.arg_bytes h0
  obtain ⟨a1, len1, cap1, rfl⟩ := okWide_slice Try.underlying72 (hval 1 72 v1 rfl rfl)
  have k1 := h1
  have lt1 : ∀ x ∈ p1, x.block < W.heap.size := by obtain ⟨m, hm⟩ := k1; exact DataW.trod_lt m _ _ _ hm
  obtain ⟨l1, rfl, hc1, hr1, hg1⟩ := Q.arg_bytes h1
  clear hA0 hval0 hsz0 hsz
  refine (Q.walk_fnadd a0 cap0 l0 a1 cap1 l1 W hr0 hc0 hg0 hr1 hc1 hg1).mono fun e W' ⟨he, bel⟩ => ?_
  subst he
  exact ⟨_, rfl, _, _, _, [], _, [], hW', trodAll_mk1 (shut_bool Try.underlying4 _), (trodAll_cons_mk (Below.trod laidOut (by kernel_rfl) (of_decide_eq_true (by kernel_rfl)) k0 bel lt0) (trodAll_cons_mk (Below.trod laidOut (by kernel_rfl) (of_decide_eq_true (by kernel_rfl)) k1 bel lt1) trodAll_mk0)), rfl, bel.frame _, fun h => by cases h⟩
theorem over : Rows.fnAddRow.holds Try.pinned (OpenSpec.ofChange Rows.fnAddSpec) :=
  OpenClaim.holds_of_wide 12 Try.f12 rfl rfl rfl rfl rfl rfl rfl ⟨rfl, rfl, rfl, rfl, rfl⟩ rfl rfl rfl rfl rfl (by kernel_rfl) Try.func12 (by kernel_rfl)
    (of_decide_eq_true (by kernel_rfl)) (by unfold Func.isWrapper; first | (rw [if_pos (by decide +kernel)]; kernel_rfl) | (rw [if_neg (by decide +kernel)]; exact ⟨rfl, rfl⟩))
    (fun os started H enc _ => lifted os started H enc)
theorem proved : Rows.FnAddSaid := over
#print axioms proved
end Go.Proofs.Ytkfoeplefajkcaa.fnAdd
end
