/- Proved: for every input that can be read, laws.FnExactFlowAdd answers true and each argument reads behind the call as it read before. No conditions. -/
import Derived.Test.YtkfoeplefajkcaaMgAd
import Derived.Deep.RegionHeld3
import Derived.Test.YtkfoeplefajkcaaRows
import Derived.Test.YtkfoeplefajkcaaMgS
import Derived.WalkKit
import Derived.ProofKit
import Derived.OpenShut
import Derived.ShutString
import Derived.ChangeOld
import Derived.Below
import Derived.SizedLaws
section
namespace Go.Proofs.Ytkfoeplefajkcaa.Q
open Go.RowKit Go.Proofs.YtkfoeplefajkcaaW.PrintWords Go.Proofs.YtkfoeplefajkcaaW.PrintLast Go.Proofs.YtkfoeplefajkcaaW.PrintMore Go.Proofs.Ytkfoeplefajkcaa.Core
set_option linter.unusedVariables false
set_option linter.unusedSimpArgs false
theorem OwnO.far {w : World} {base lo hi : Nat} {v0 v1 v2 : Value} {b : Book} (h : OwnO w base (iv lo hi) v0 v1 v2 b) {p : Addr} (hp : p.block < lo ∨ hi ≤ p.block) (u : Value) : OwnO (w.setCell p u) base (iv lo hi) v0 v1 v2 b :=
  ⟨Kd.R_far h.caps (fun k hk => by have h1 : lo ≤ k := hk.1; have h2 : k < hi := hk.2; omega) u, Kd.S_far h.flights (fun k hk => by have h1 : lo ≤ k := hk.1; have h2 : k < hi := hk.2; omega) u, Kd.R_far h.slots (fun k hk => by have h1 : lo ≤ k := hk.1; have h2 : k < hi := hk.2; omega) u⟩
set_option maxRecDepth 100000 in
set_option maxHeartbeats 8000000 in
theorem walk_add (A0 : Option Addr) (c0 : Nat) (A1 : Option Addr) (c1 : Nat) (A2 : Option Addr) (c2 : Nat) (b : Book) (a : Flight) (A3 : Option Addr) (c3 : Nat) (w : World)
    (hr0 : Kd.C k106 w A0 b.f0.length b.f0) (hc0 : b.f0.length ≤ c0) (hg0 : ∀ x ∈ b.f0, smallC x) (hr1 : Kd.C k51 w A1 b.f1.length b.f1) (hc1 : b.f1.length ≤ c1) (hg1 : ∀ x ∈ b.f1, smallF x) (hr2 : Kd.C (Kd.int .i64) w A2 b.f2.length b.f2) (hc2 : b.f2.length ≤ c2) (hg2 : ∀ y ∈ b.f2, (Lit.int .i64 y).wf = true)
    (hs3 : a.f0.size ≤ maxS) (hr3 : Kd.C k162 w A3 a.f3.length a.f3) (hc3 : a.f3.length ≤ c3) (hg3 : ∀ y ∈ a.f3, smallV y) :
    Calls Try.prog 6 #[.agg #[.slice A0 b.f0.length c0, .slice A1 b.f1.length c1, .slice A2 b.f2.length c2], .agg #[.string a.f0, .int .i64 a.f1, .int .i64 a.f2, .slice A3 a.f3.length c3]] w fun e w' => e = .returned (.bool true) ∧ Below w.heap.size w w' := by
  have hn2 := C_len hr2
  have hs9 : a.f0.size ≤ 9223372036854775807 := Nat.le_trans hs3 (by decide)
  clear hg2 hs3
  obtain ⟨W, hW⟩ : ∃ W, W = (w.alloc (.cells #[.slice A0 b.f0.length c0, .slice A1 b.f1.length c1, .slice A2 b.f2.length c2] 48)).alloc (.cells #[.string a.f0, .int .i64 a.f1, .int .i64 a.f2, .slice A3 a.f3.length c3] 51) := ⟨_, rfl⟩
  have HB0 : Hid (Below w.heap.size w W) := by rw [hW]; exact below_alloc (below_alloc (Below.refl _ _) _) _
  have X0 : Hid (W.heap[w.heap.size]? = some (.cells #[.slice A0 b.f0.length c0, .slice A1 b.f1.length c1, .slice A2 b.f2.length c2] 48 (0, 0))) := by rw [hW]; exact blk_alloc (blk_new _ _) _
  have F0 : Hid (W.heap[w.heap.size + 1]? = some (.cells #[.string a.f0, .int .i64 a.f1, .int .i64 a.f2, .slice A3 a.f3.length c3] 51 (0, 0))) := by
    have t := blk_new (w.alloc (.cells #[.slice A0 b.f0.length c0, .slice A1 b.f1.length c1, .slice A2 b.f2.length c2] 48)) (.cells #[.string a.f0, .int .i64 a.f1, .int .i64 a.f2, .slice A3 a.f3.length c3] 51)
    rw [World.size_alloc] at t
    rw [hW]
    exact t
  have G0 := Lib.hid hg0
  have G1 := Lib.hid hg1
  have HR0 := Lib.hid hr0
  have HR1 := Lib.hid hr1
  have HR2 := Lib.hid hr2
  have HR3 := Lib.hid hr3
  have z0 : W.heap.size = w.heap.size + 2 := by rw [hW]; simp
  clear hg0 hg1 hr0 hr1 hr2 hr3
  have QZ := Lib.hid (sz_book_any A0 c0 b.f0 A1 c1 b.f1 A2 c2 b.f2 1048576 W (Kd.C_below HR0.out HB0.out) (Kd.C_below HR1.out HB0.out) hn2 (by omega) (by omega) G0.out G1.out)
  by_cases hz : subB 1048576 b.f0 b.f1 b.f2 < 0
  · have HZ := Lib.hid (subB_low _ _ _ _ hz)
    clear hz
    go_enter Try.func6, Try.ntmps6
    go_wp2_with (first | (go_at_call 35; rw [← hW]; refine QZ.out.mono ?_; rintro e w1 ⟨rfl, hb1⟩; rw [HZ.out]) | go_in)
    go_ret
    exact ⟨rfl, below_next HB0.out HB0.out.size hb1⟩
  have hbd := (subB_parts hz).1
  have hbe := (subB_parts hz).2
  have e1 : decide (subB 1048576 b.f0 b.f1 b.f2 < 0) = false := decide_eq_false hz
  have n0 : wL wC b.f0 ≤ 1048576 := by omega
  have n1 : wL wF b.f1 ≤ 1048576 := by omega
  have n2 : b.f2.length ≤ 1048576 := by omega
  have QY := Lib.hid (fun V (h : Below w.heap.size w V) => sz_flight_any A3 c3 a.f0 a.f1 a.f2 a.f3 (subB 1048576 b.f0 b.f1 b.f2) V (Kd.C_below HR3.out h) (by omega) (by omega) hs9 hg3)
  have SB := Lib.hid (smallB_of n0 n1 n2)
  have SR := Lib.hid (smallB_add SB.out a)
  have QT := Lib.hid (fun V (h : Below w.heap.size w V) => toBookO_any A0 c0 A1 c1 A2 c2 b V (Kd.C_below HR0.out h) hc0 (Kd.C_below HR1.out h) hc1 (Kd.C_below HR2.out h) hc2 n0 n1 n2)
  have cb0 : 0 ≤ cntB b := cntB_nonneg b
  have cb1 : cntB b ≤ 1000000000 := cntB_le SB.out
  have cr0 : 0 ≤ cntB (addR b a).1 := cntB_nonneg (addR b a).1
  have cr1 : cntB (addR b a).1 ≤ 1000000000 := cntB_le SR.out
  have hlo : subB 1048576 b.f0 b.f1 b.f2 ≤ 1048576 := by omega
  clear hz hbd hbe n0 n1 n2 hc0 hc1 hc2 hn2 hs9 hg3
  obtain ⟨left, hleft⟩ : ∃ n, n = subB 1048576 b.f0 b.f1 b.f2 := ⟨_, rfl⟩
  rw [← hleft] at QZ QY e1 hlo
  clear hleft
  by_cases hy : left < (wF a : Int)
  · have HY := Lib.hid (subN_neg hy)
    clear hy hlo
    go_enter Try.func6, Try.ntmps6
    go_wp2_with (fail)
    rw [← hW]
    refine QZ.out.mono ?_
    rintro e w1 ⟨rfl, hb⟩
    have F1 := Lib.hid (blk_below F0.out hb)
    have HB1 := Lib.hid (below_next HB0.out HB0.out.size hb)
    clear hb X0 F0 HB0 QZ hW
    have fa := (blk_cell F1.out 0).trans rfl
    have fb := (blk_cell F1.out 1).trans rfl
    have fc := (blk_cell F1.out 2).trans rfl
    have fd := (blk_cell F1.out 3).trans rfl
    go_wp2_with (fail)
    refine (QY.out _ HB1.out).mono ?_
    rintro e w2 ⟨rfl, hb⟩
    rw [show wF ⟨a.f0, a.f1, a.f2, a.f3⟩ = wF a from rfl, HY.out]
    go_wp2
    go_ret
    exact ⟨rfl, below_next HB1.out HB1.out.size hb⟩
  have hn3 : a.f3.length ≤ 1048576 := by
    have h1 : wF a = a.f0.size + wL wV a.f3 := rfl
    have h2 := len_le_wL wV a.f3
    omega
  have HY := Lib.hid (subN_pos hy)
  have e9 : decide (left - (wF a : Int) < 0) = false := decide_eq_false (by omega)
  have e9' : decide (left < (wF a : Int)) = false := decide_eq_false hy
  have QF := Lib.hid (fun V (h : Below w.heap.size w V) => toFlight_any A3 c3 a V (Kd.C_below HR3.out h) hc3 hn3)
  have HN3 := Lib.hid hn3
  have HC3 := Lib.hid hc3
  clear hy hlo hn3 hc3
  go_enter Try.func6, Try.ntmps6
  go_wp2_with (fail)
  rw [← hW]
  refine QZ.out.mono ?_
  rintro e w1 ⟨rfl, hb⟩
  have s1 : W.heap.size ≤ w1.heap.size := hb.size
  have X1 := Lib.hid (blk_below X0.out hb)
  have F1 := Lib.hid (blk_below F0.out hb)
  have HB1 := Lib.hid (below_next HB0.out HB0.out.size hb)
  clear hb X0 F0 HB0 QZ hW
  have fa := (blk_cell F1.out 0).trans rfl
  have fb := (blk_cell F1.out 1).trans rfl
  have fc := (blk_cell F1.out 2).trans rfl
  have fd := (blk_cell F1.out 3).trans rfl
  go_wp2_with (fail)
  refine (QY.out _ HB1.out).mono ?_
  rintro e w2 ⟨rfl, hb⟩
  rw [show wF ⟨a.f0, a.f1, a.f2, a.f3⟩ = wF a from rfl, HY.out]
  have s2 : w1.heap.size ≤ w2.heap.size := hb.size
  have X2 := Lib.hid (blk_below X1.out hb)
  have F2 := Lib.hid (blk_below F1.out hb)
  have HB2 := Lib.hid (below_next HB1.out HB1.out.size hb)
  clear X1 F1 HB1
  clear hb fa fb fc fd QY
  have xa := (blk_cell X2.out 0).trans rfl
  have xb := (blk_cell X2.out 1).trans rfl
  have xc := (blk_cell X2.out 2).trans rfl
  have fa := (blk_cell F2.out 0).trans rfl
  have fb := (blk_cell F2.out 1).trans rfl
  have fc := (blk_cell F2.out 2).trans rfl
  have fd := (blk_cell F2.out 3).trans rfl
  have KA : Hid (∀ V, Below w2.heap.size w2 V → V.cell? ⟨w.heap.size, 0, none⟩ = some (.slice A0 b.f0.length c0) ∧ V.cell? ⟨w.heap.size, 1, none⟩ = some (.slice A1 b.f1.length c1) ∧ V.cell? ⟨w.heap.size, 2, none⟩ = some (.slice A2 b.f2.length c2) ∧ V.cell? ⟨w.heap.size + 1, 0, none⟩ = some (.string a.f0) ∧ V.cell? ⟨w.heap.size + 1, 1, none⟩ = some (.int .i64 a.f1) ∧ V.cell? ⟨w.heap.size + 1, 2, none⟩ = some (.int .i64 a.f2) ∧ V.cell? ⟨w.heap.size + 1, 3, none⟩ = some (.slice A3 a.f3.length c3)) := fun V h => ⟨pw_cell_below h xa, pw_cell_below h xb, pw_cell_below h xc, pw_cell_below h fa, pw_cell_below h fb, pw_cell_below h fc, pw_cell_below h fd⟩
  clear xa xb xc fa fb fc fd
  go_upto_region 8 with (fail)
  go_cut [6, 7] (fun s6 s7 wx => ∃ (g lo hi : Nat) (AN : Option Addr) (cN : Nat) (BN : Option Addr) (dN : Nat) (CN : Option Addr) (eN : Nat), s6 = .pointer (some ⟨g, 0, none⟩) ∧ s7 = .int .i64 (addR b a).2 ∧ Hid (OwnO wx w.heap.size (iv lo hi) (.slice AN (addR b a).1.f0.length cN) (.slice BN (addR b a).1.f1.length dN) (.slice CN (addR b a).1.f2.length eN) (addR b a).1) ∧ Hid (wx.heap[g]? = some (.cells #[.slice AN (addR b a).1.f0.length cN, .slice BN (addR b a).1.f1.length dN, .slice CN (addR b a).1.f2.length eN] 55 (0, 0))) ∧ Hid (Below w2.heap.size w2 wx) ∧ w2.heap.size ≤ lo ∧ hi ≤ wx.heap.size ∧ w2.heap.size ≤ g ∧ g < wx.heap.size ∧ (g < lo ∨ hi ≤ g))
  case first =>
    refine start_ (n := 11) (S := fun W' => W'.cell? ⟨w.heap.size, 0, none⟩ = some (.slice A0 b.f0.length c0) ∧ W'.cell? ⟨w.heap.size, 1, none⟩ = some (.slice A1 b.f1.length c1) ∧ W'.cell? ⟨w.heap.size, 2, none⟩ = some (.slice A2 b.f2.length c2) ∧ W'.cell? ⟨w.heap.size + 1, 0, none⟩ = some (.string a.f0) ∧ W'.cell? ⟨w.heap.size + 1, 1, none⟩ = some (.int .i64 a.f1) ∧ W'.cell? ⟨w.heap.size + 1, 2, none⟩ = some (.int .i64 a.f2) ∧ W'.cell? ⟨w.heap.size + 1, 3, none⟩ = some (.slice A3 a.f3.length c3)) (ds := [9]) #[false, false, false, false, false, false, false, false, false, false, false] (by kernel_rfl) rfl rfl (KA.out _ (pw_below_drewN (Below.refl _ _) 1)) (fun hHeld => ?_)
    refine take_ (i := 0) (N := some 28) (v := ?_) (a' := ?_) #[true, false, false, false, false, false, false, false, false, false, false] rfl rfl (by kernel_rfl) (fun _ _ _ h => h) (Or.inl ⟨by rfl, ?_⟩) hHeld ?_ ?_
    rotate_left
    · rintro w' ⟨s0, s1, s2, s3, s4, s5, s6⟩
      go_simp
      try with_reducible rfl
    rotate_left
    · (try simp only [Act.put, List.setIfInBounds_toArray, List.set_cons_zero, List.set_cons_succ])
      rfl
    refine take_ (i := 2) (N := some 30) (v := ?_) (a' := ?_) #[true, false, true, false, false, false, false, false, false, false, false] rfl rfl (by kernel_rfl) (fun _ _ _ h => h) (Or.inl ⟨by rfl, ?_⟩) hHeld ?_ ?_
    rotate_left
    · rintro w' ⟨s0, s1, s2, s3, s4, s5, s6⟩
      go_simp
      try with_reducible rfl
    rotate_left
    · (try simp only [Act.put, List.setIfInBounds_toArray, List.set_cons_zero, List.set_cons_succ])
      rfl
    have b0 : Hid (Below w2.heap.size w2 w2.drew) := pw_below_drewN (Below.refl _ _) 1
    generalize w2.drew = V0 at hHeld b0 ⊢
    refine two_ (i := 1) (j := 8) (Ni := some 29) (Nj := some 6) #[true, true, true, false, false, false, false, false, false, false, false] #[true, false, true, false, false, false, false, false, true, false, false] rfl rfl rfl rfl (by kernel_rfl) (by simp) (by simp) (fun K hK => ?_) (fun K hK => ?_)
    · go_simp
      refine (QT.out V0 (below_next HB2.out HB2.out.size b0.out)).mono ?_
      rintro e V1 ⟨v0, v1, v2, rfl, ho, hb⟩
      obtain ⟨AU, cU, BU, dU, CU, eU, rfl, rfl, rfl, _, _, _⟩ := ho.toB.form
      go_simp
      have bb1 := Lib.hid (below_next b0.out b0.out.size hb)
      have sz1 : Hid (V0.heap.size ≤ V1.heap.size) := hb.size
      have hU1 := Lib.hid ho
      clear ho hb
      refine hK.out _ _ (KA.out _ bb1.out) (fun hHeld => ?_)
      clear hK K
      try simp only [Act.put, List.setIfInBounds_toArray, List.set_cons_zero, List.set_cons_succ]
      refine two_ (i := 3) (j := 8) (Ni := some 31) (Nj := some 6) #[true, true, true, true, false, false, false, false, false, false, false] #[true, true, true, false, false, false, false, false, true, false, false] rfl rfl rfl rfl (by kernel_rfl) (by simp) (by simp) (fun K hK => ?_) (fun K hK => ?_)
      · go_simp
        refine (QF.out V1 (below_next HB2.out HB2.out.size bb1.out)).mono ?_
        rintro e V3 ⟨AV, cV, rfl, lV, ho, hb⟩
        go_simp
        have bb3 := Lib.hid (below_next bb1.out bb1.out.size hb)
        have sz3 : Hid (V1.heap.size ≤ V3.heap.size) := hb.size
        have hU3 := Lib.hid (OwnO.below hU1.out hb)
        have hV3 := Lib.hid ho
        have LV := Lib.hid lV
        clear lV
        clear ho hb
        refine hK.out _ _ (KA.out _ bb3.out) (fun hHeld => ?_)
        clear hK K
        try simp only [Act.put, List.setIfInBounds_toArray, List.set_cons_zero, List.set_cons_succ]
        refine two_ (i := 4) (j := 8) (Ni := some 32) (Nj := some 6) #[true, true, true, true, true, false, false, false, false, false, false] #[true, true, true, true, false, false, false, false, true, false, false] rfl rfl rfl rfl (by kernel_rfl) (by simp) (by simp) (fun K hK => ?_) (fun K hK => ?_)
        · go_simp
          refine (spec_flowAdd_any AU cU BU dU CU eU b a AV cV V3 hU3.out.toB.form_C.1 hU3.out.toB.form_C.2.1 hU3.out.toB.form_C.2.2 (Kd.R_reads' hV3.out).2.2 LV.out).mono ?_
          rintro e V5 ⟨v0, v1, v2, rfl, ho, hb⟩
          have ho := ho.toO
          obtain ⟨AN, cN, BN, dN, CN, eN, rfl, rfl, rfl, _, _, _⟩ := ho.toB.form
          go_simp
          have bb5 := Lib.hid (below_next bb3.out bb3.out.size hb)
          have sz5 : Hid (V3.heap.size ≤ V5.heap.size) := hb.size
          have hU5 := Lib.hid (OwnO.below hU3.out hb)
          have hV5 := Lib.hid (Kd.R_below hV3.out hb)
          have hN5 := Lib.hid ho
          clear ho hb
          refine hK.out _ _ (KA.out _ bb5.out) (fun hHeld => ?_)
          clear hK K
          try simp only [Act.put, List.setIfInBounds_toArray, List.set_cons_zero, List.set_cons_succ]
          refine pure_ (i := 5) (N := some 27) (v := ?_) (a' := ?_) #[true, true, true, true, true, true, false, false, false, false, false] rfl rfl (by kernel_rfl) (fun _ _ _ h => h) (Or.inl ⟨by rfl, ?_⟩) ?_ ?_
          rotate_left
          · intro w'
            go_simp
            try with_reducible rfl
          rotate_left
          · (try simp only [Act.put, List.setIfInBounds_toArray, List.set_cons_zero, List.set_cons_succ])
            rfl
          refine pure_ (i := 6) (N := some 33) (v := ?_) (a' := ?_) #[true, true, true, true, true, true, true, false, false, false, false] rfl rfl (by kernel_rfl) (fun _ _ _ h => h) (Or.inl ⟨by rfl, ?_⟩) ?_ ?_
          rotate_left
          · intro w'
            go_simp
            try with_reducible rfl
          rotate_left
          · (try simp only [Act.put, List.setIfInBounds_toArray, List.set_cons_zero, List.set_cons_succ])
            rfl
          refine pure_ (i := 7) (N := some 34) (v := ?_) (a' := ?_) #[true, true, true, true, true, true, true, true, false, false, false] rfl rfl (by kernel_rfl) (fun _ _ _ h => h) (Or.inl ⟨by rfl, ?_⟩) ?_ ?_
          rotate_left
          · intro w'
            go_simp
            try with_reducible rfl
          rotate_left
          · (try simp only [Act.put, List.setIfInBounds_toArray, List.set_cons_zero, List.set_cons_succ])
            rfl
          refine one_ (i := 8) (N := some 6) #[true, true, true, true, true, true, true, true, true, false, false] rfl rfl (by kernel_rfl) (by simp) (fun K hK => ?_)
          go_simp
          refine hK.out _ _ (KA.out _ (below_alloc bb5.out _)) (fun hHeld => ?_)
          clear hK K
          try simp only [Act.put, List.setIfInBounds_toArray, List.set_cons_zero, List.set_cons_succ]
          have bb7 : Hid (Below w2.heap.size w2 (V5.alloc (.cells #[.slice none 0 0, .slice none 0 0, .slice none 0 0] 55))) := below_alloc bb5.out _
          have ha : Below V5.heap.size V5 (V5.alloc (.cells #[.slice none 0 0, .slice none 0 0, .slice none 0 0] 55)) := below_alloc (Below.refl _ _) _
          have hN7 := Lib.hid (OwnO.below hN5.out ha)
          have y7 : Hid ((V5.alloc (.cells #[.slice none 0 0, .slice none 0 0, .slice none 0 0] 55)).heap[V5.heap.size]? = some (.cells #[.slice none 0 0, .slice none 0 0, .slice none 0 0] 55 (0, 0))) := blk_new _ _
          have hs7 : Hid ((V5.alloc (.cells #[.slice none 0 0, .slice none 0 0, .slice none 0 0] 55)).heap.size = V5.heap.size + 1) := (by show _ = _; simp)
          clear ha
          obtain ⟨V7, eV7⟩ : ∃ V, V = V5.alloc (.cells #[.slice none 0 0, .slice none 0 0, .slice none 0 0] 55) := ⟨_, rfl⟩
          rw [← eV7] at bb7 hHeld y7 hs7 hN7 ⊢
          clear eV7
          have pb0 := blk_frozen y7.out 0
          have cb0 := (blk_cell y7.out 0).trans rfl
          have pb1 := blk_frozen y7.out 1
          have cb1 := (blk_cell y7.out 1).trans rfl
          have pb2 := blk_frozen y7.out 2
          have cb2 := (blk_cell y7.out 2).trans rfl
          refine last_ (i := 9) (N := none) #[true, true, true, true, true, true, true, true, true, true, false] rfl rfl (by kernel_rfl) (by simp) (fun K hK => ?_)
          go_simp
          refine hK.out _ _ ?_
          clear hK K
          try simp only [Act.put, List.setIfInBounds_toArray, List.set_cons_zero, List.set_cons_succ]
          refine pure_ (i := 10) (N := some 7) (v := ?_) (a' := ?_) #[true, true, true, true, true, true, true, true, true, true, true] rfl rfl (by kernel_rfl) (fun _ _ _ h => h) (Or.inl ⟨by rfl, ?_⟩) ?_ ?_
          rotate_left
          · intro w'
            go_simp
            try with_reducible rfl
          rotate_left
          · (try simp only [Act.put, List.setIfInBounds_toArray, List.set_cons_zero, List.set_cons_succ])
            rfl
          refine done_ (by kernel_rfl) ?_
          go_wp2_with (fail)
          go_meet
          have := sz1.out
          have := sz3.out
          have := sz5.out
          have := hs7.out
          have := bb7.out.size
          have := b0.out.size
          have := blk_lt y7.out
          have e1 := blk_set y7.out 0 (.slice AN (addR b a).1.f0.length cN)
          have e2 := blk_set e1 1 (.slice BN (addR b a).1.f1.length dN)
          have e3 := blk_set e2 2 (.slice CN (addR b a).1.f2.length eN)
          exact ⟨V5.heap.size, V3.heap.size, V5.heap.size, AN, cN, BN, dN, CN, eN, rfl, rfl, (((OwnO.lower hN7.out (by omega)).far (p := ⟨V5.heap.size, 0, none⟩) (by show V5.heap.size < _ ∨ _ ≤ V5.heap.size; omega) _).far (p := ⟨V5.heap.size, 1, none⟩) (by show V5.heap.size < _ ∨ _ ≤ V5.heap.size; omega) _).far (p := ⟨V5.heap.size, 2, none⟩) (by show V5.heap.size < _ ∨ _ ≤ V5.heap.size; omega) _, e3, ((bb7.out.setCell (p := ⟨V5.heap.size, 0, none⟩) (by show _ ≤ V5.heap.size; omega) _).setCell (p := ⟨V5.heap.size, 1, none⟩) (by show _ ≤ V5.heap.size; omega) _).setCell (p := ⟨V5.heap.size, 2, none⟩) (by show _ ≤ V5.heap.size; omega) _, by omega, by simp <;> omega, by omega, by simp <;> omega, by omega⟩
        · go_simp
          refine hK.out _ _ (KA.out _ (below_alloc bb3.out _)) (fun hHeld => ?_)
          clear hK K
          try simp only [Act.put, List.setIfInBounds_toArray, List.set_cons_zero, List.set_cons_succ]
          have bb6 : Hid (Below w2.heap.size w2 (V3.alloc (.cells #[.slice none 0 0, .slice none 0 0, .slice none 0 0] 55))) := below_alloc bb3.out _
          have ha : Below V3.heap.size V3 (V3.alloc (.cells #[.slice none 0 0, .slice none 0 0, .slice none 0 0] 55)) := below_alloc (Below.refl _ _) _
          have hU6 := Lib.hid (OwnO.below hU3.out ha)
          have hV6 := Lib.hid (Kd.R_below hV3.out ha)
          have y6 : Hid ((V3.alloc (.cells #[.slice none 0 0, .slice none 0 0, .slice none 0 0] 55)).heap[V3.heap.size]? = some (.cells #[.slice none 0 0, .slice none 0 0, .slice none 0 0] 55 (0, 0))) := blk_new _ _
          have hs6 : Hid ((V3.alloc (.cells #[.slice none 0 0, .slice none 0 0, .slice none 0 0] 55)).heap.size = V3.heap.size + 1) := (by show _ = _; simp)
          clear ha
          obtain ⟨V6, eV6⟩ : ∃ V, V = V3.alloc (.cells #[.slice none 0 0, .slice none 0 0, .slice none 0 0] 55) := ⟨_, rfl⟩
          rw [← eV6] at bb6 hHeld y6 hs6 hU6 hV6 ⊢
          clear eV6
          refine one_ (i := 4) (N := some 32) #[true, true, true, true, true, false, false, false, true, false, false] rfl rfl (by kernel_rfl) (by simp) (fun K hK => ?_)
          go_simp
          refine (spec_flowAdd_any AU cU BU dU CU eU b a AV cV V6 hU6.out.toB.form_C.1 hU6.out.toB.form_C.2.1 hU6.out.toB.form_C.2.2 (Kd.R_reads' hV6.out).2.2 LV.out).mono ?_
          rintro e V8 ⟨v0, v1, v2, rfl, ho, hb⟩
          have ho := ho.toO
          obtain ⟨AN, cN, BN, dN, CN, eN, rfl, rfl, rfl, _, _, _⟩ := ho.toB.form
          go_simp
          have bb8 := Lib.hid (below_next bb6.out bb6.out.size hb)
          have sz8 : Hid (V6.heap.size ≤ V8.heap.size) := hb.size
          have hU8 := Lib.hid (OwnO.below hU6.out hb)
          have hV8 := Lib.hid (Kd.R_below hV6.out hb)
          have y8 := Lib.hid (blk_below y6.out hb)
          have hN8 := Lib.hid ho
          clear ho hb
          refine hK.out _ _ (KA.out _ bb8.out) (fun hHeld => ?_)
          clear hK K
          try simp only [Act.put, List.setIfInBounds_toArray, List.set_cons_zero, List.set_cons_succ]
          refine pure_ (i := 5) (N := some 27) (v := ?_) (a' := ?_) #[true, true, true, true, true, true, false, false, true, false, false] rfl rfl (by kernel_rfl) (fun _ _ _ h => h) (Or.inl ⟨by rfl, ?_⟩) ?_ ?_
          rotate_left
          · intro w'
            go_simp
            try with_reducible rfl
          rotate_left
          · (try simp only [Act.put, List.setIfInBounds_toArray, List.set_cons_zero, List.set_cons_succ])
            rfl
          refine pure_ (i := 6) (N := some 33) (v := ?_) (a' := ?_) #[true, true, true, true, true, true, true, false, true, false, false] rfl rfl (by kernel_rfl) (fun _ _ _ h => h) (Or.inl ⟨by rfl, ?_⟩) ?_ ?_
          rotate_left
          · intro w'
            go_simp
            try with_reducible rfl
          rotate_left
          · (try simp only [Act.put, List.setIfInBounds_toArray, List.set_cons_zero, List.set_cons_succ])
            rfl
          refine pure_ (i := 7) (N := some 34) (v := ?_) (a' := ?_) #[true, true, true, true, true, true, true, true, true, false, false] rfl rfl (by kernel_rfl) (fun _ _ _ h => h) (Or.inl ⟨by rfl, ?_⟩) ?_ ?_
          rotate_left
          · intro w'
            go_simp
            try with_reducible rfl
          rotate_left
          · (try simp only [Act.put, List.setIfInBounds_toArray, List.set_cons_zero, List.set_cons_succ])
            rfl
          have pb0 := blk_frozen y8.out 0
          have cb0 := (blk_cell y8.out 0).trans rfl
          have pb1 := blk_frozen y8.out 1
          have cb1 := (blk_cell y8.out 1).trans rfl
          have pb2 := blk_frozen y8.out 2
          have cb2 := (blk_cell y8.out 2).trans rfl
          refine last_ (i := 9) (N := none) #[true, true, true, true, true, true, true, true, true, true, false] rfl rfl (by kernel_rfl) (by simp) (fun K hK => ?_)
          go_simp
          refine hK.out _ _ ?_
          clear hK K
          try simp only [Act.put, List.setIfInBounds_toArray, List.set_cons_zero, List.set_cons_succ]
          refine pure_ (i := 10) (N := some 7) (v := ?_) (a' := ?_) #[true, true, true, true, true, true, true, true, true, true, true] rfl rfl (by kernel_rfl) (fun _ _ _ h => h) (Or.inl ⟨by rfl, ?_⟩) ?_ ?_
          rotate_left
          · intro w'
            go_simp
            try with_reducible rfl
          rotate_left
          · (try simp only [Act.put, List.setIfInBounds_toArray, List.set_cons_zero, List.set_cons_succ])
            rfl
          refine done_ (by kernel_rfl) ?_
          go_wp2_with (fail)
          go_meet
          have := sz1.out
          have := sz3.out
          have := hs6.out
          have := sz8.out
          have := bb8.out.size
          have := b0.out.size
          have := blk_lt y8.out
          have e1 := blk_set y8.out 0 (.slice AN (addR b a).1.f0.length cN)
          have e2 := blk_set e1 1 (.slice BN (addR b a).1.f1.length dN)
          have e3 := blk_set e2 2 (.slice CN (addR b a).1.f2.length eN)
          exact ⟨V3.heap.size, V6.heap.size, V8.heap.size, AN, cN, BN, dN, CN, eN, rfl, rfl, (((OwnO.lower hN8.out (by omega)).far (p := ⟨V3.heap.size, 0, none⟩) (by show V3.heap.size < _ ∨ _ ≤ V3.heap.size; omega) _).far (p := ⟨V3.heap.size, 1, none⟩) (by show V3.heap.size < _ ∨ _ ≤ V3.heap.size; omega) _).far (p := ⟨V3.heap.size, 2, none⟩) (by show V3.heap.size < _ ∨ _ ≤ V3.heap.size; omega) _, e3, ((bb8.out.setCell (p := ⟨V3.heap.size, 0, none⟩) (by show _ ≤ V3.heap.size; omega) _).setCell (p := ⟨V3.heap.size, 1, none⟩) (by show _ ≤ V3.heap.size; omega) _).setCell (p := ⟨V3.heap.size, 2, none⟩) (by show _ ≤ V3.heap.size; omega) _, by omega, by simp <;> omega, by omega, by simp <;> omega, by omega⟩
      · go_simp
        refine hK.out _ _ (KA.out _ (below_alloc bb1.out _)) (fun hHeld => ?_)
        clear hK K
        try simp only [Act.put, List.setIfInBounds_toArray, List.set_cons_zero, List.set_cons_succ]
        have bb4 : Hid (Below w2.heap.size w2 (V1.alloc (.cells #[.slice none 0 0, .slice none 0 0, .slice none 0 0] 55))) := below_alloc bb1.out _
        have ha : Below V1.heap.size V1 (V1.alloc (.cells #[.slice none 0 0, .slice none 0 0, .slice none 0 0] 55)) := below_alloc (Below.refl _ _) _
        have hU4 := Lib.hid (OwnO.below hU1.out ha)
        have y4 : Hid ((V1.alloc (.cells #[.slice none 0 0, .slice none 0 0, .slice none 0 0] 55)).heap[V1.heap.size]? = some (.cells #[.slice none 0 0, .slice none 0 0, .slice none 0 0] 55 (0, 0))) := blk_new _ _
        have hs4 : Hid ((V1.alloc (.cells #[.slice none 0 0, .slice none 0 0, .slice none 0 0] 55)).heap.size = V1.heap.size + 1) := (by show _ = _; simp)
        clear ha
        obtain ⟨V4, eV4⟩ : ∃ V, V = V1.alloc (.cells #[.slice none 0 0, .slice none 0 0, .slice none 0 0] 55) := ⟨_, rfl⟩
        rw [← eV4] at bb4 hHeld y4 hs4 hU4 ⊢
        clear eV4
        refine one_ (i := 3) (N := some 31) #[true, true, true, true, false, false, false, false, true, false, false] rfl rfl (by kernel_rfl) (by simp) (fun K hK => ?_)
        go_simp
        refine (QF.out V4 (below_next HB2.out HB2.out.size bb4.out)).mono ?_
        rintro e V9 ⟨AV, cV, rfl, lV, ho, hb⟩
        go_simp
        have bb9 := Lib.hid (below_next bb4.out bb4.out.size hb)
        have sz9 : Hid (V4.heap.size ≤ V9.heap.size) := hb.size
        have hU9 := Lib.hid (OwnO.below hU4.out hb)
        have y9 := Lib.hid (blk_below y4.out hb)
        have hV9 := Lib.hid ho
        have LV := Lib.hid lV
        clear lV
        clear ho hb
        refine hK.out _ _ (KA.out _ bb9.out) (fun hHeld => ?_)
        clear hK K
        try simp only [Act.put, List.setIfInBounds_toArray, List.set_cons_zero, List.set_cons_succ]
        refine one_ (i := 4) (N := some 32) #[true, true, true, true, true, false, false, false, true, false, false] rfl rfl (by kernel_rfl) (by simp) (fun K hK => ?_)
        go_simp
        refine (spec_flowAdd_any AU cU BU dU CU eU b a AV cV V9 hU9.out.toB.form_C.1 hU9.out.toB.form_C.2.1 hU9.out.toB.form_C.2.2 (Kd.R_reads' hV9.out).2.2 LV.out).mono ?_
        rintro e V10 ⟨v0, v1, v2, rfl, ho, hb⟩
        have ho := ho.toO
        obtain ⟨AN, cN, BN, dN, CN, eN, rfl, rfl, rfl, _, _, _⟩ := ho.toB.form
        go_simp
        have bb10 := Lib.hid (below_next bb9.out bb9.out.size hb)
        have sz10 : Hid (V9.heap.size ≤ V10.heap.size) := hb.size
        have hU10 := Lib.hid (OwnO.below hU9.out hb)
        have hV10 := Lib.hid (Kd.R_below hV9.out hb)
        have y10 := Lib.hid (blk_below y9.out hb)
        have hN10 := Lib.hid ho
        clear ho hb
        refine hK.out _ _ (KA.out _ bb10.out) (fun hHeld => ?_)
        clear hK K
        try simp only [Act.put, List.setIfInBounds_toArray, List.set_cons_zero, List.set_cons_succ]
        refine pure_ (i := 5) (N := some 27) (v := ?_) (a' := ?_) #[true, true, true, true, true, true, false, false, true, false, false] rfl rfl (by kernel_rfl) (fun _ _ _ h => h) (Or.inl ⟨by rfl, ?_⟩) ?_ ?_
        rotate_left
        · intro w'
          go_simp
          try with_reducible rfl
        rotate_left
        · (try simp only [Act.put, List.setIfInBounds_toArray, List.set_cons_zero, List.set_cons_succ])
          rfl
        refine pure_ (i := 6) (N := some 33) (v := ?_) (a' := ?_) #[true, true, true, true, true, true, true, false, true, false, false] rfl rfl (by kernel_rfl) (fun _ _ _ h => h) (Or.inl ⟨by rfl, ?_⟩) ?_ ?_
        rotate_left
        · intro w'
          go_simp
          try with_reducible rfl
        rotate_left
        · (try simp only [Act.put, List.setIfInBounds_toArray, List.set_cons_zero, List.set_cons_succ])
          rfl
        refine pure_ (i := 7) (N := some 34) (v := ?_) (a' := ?_) #[true, true, true, true, true, true, true, true, true, false, false] rfl rfl (by kernel_rfl) (fun _ _ _ h => h) (Or.inl ⟨by rfl, ?_⟩) ?_ ?_
        rotate_left
        · intro w'
          go_simp
          try with_reducible rfl
        rotate_left
        · (try simp only [Act.put, List.setIfInBounds_toArray, List.set_cons_zero, List.set_cons_succ])
          rfl
        have pb0 := blk_frozen y10.out 0
        have cb0 := (blk_cell y10.out 0).trans rfl
        have pb1 := blk_frozen y10.out 1
        have cb1 := (blk_cell y10.out 1).trans rfl
        have pb2 := blk_frozen y10.out 2
        have cb2 := (blk_cell y10.out 2).trans rfl
        refine last_ (i := 9) (N := none) #[true, true, true, true, true, true, true, true, true, true, false] rfl rfl (by kernel_rfl) (by simp) (fun K hK => ?_)
        go_simp
        refine hK.out _ _ ?_
        clear hK K
        try simp only [Act.put, List.setIfInBounds_toArray, List.set_cons_zero, List.set_cons_succ]
        refine pure_ (i := 10) (N := some 7) (v := ?_) (a' := ?_) #[true, true, true, true, true, true, true, true, true, true, true] rfl rfl (by kernel_rfl) (fun _ _ _ h => h) (Or.inl ⟨by rfl, ?_⟩) ?_ ?_
        rotate_left
        · intro w'
          go_simp
          try with_reducible rfl
        rotate_left
        · (try simp only [Act.put, List.setIfInBounds_toArray, List.set_cons_zero, List.set_cons_succ])
          rfl
        refine done_ (by kernel_rfl) ?_
        go_wp2_with (fail)
        go_meet
        have := sz1.out
        have := hs4.out
        have := sz9.out
        have := sz10.out
        have := bb10.out.size
        have := b0.out.size
        have := blk_lt y10.out
        have e1 := blk_set y10.out 0 (.slice AN (addR b a).1.f0.length cN)
        have e2 := blk_set e1 1 (.slice BN (addR b a).1.f1.length dN)
        have e3 := blk_set e2 2 (.slice CN (addR b a).1.f2.length eN)
        exact ⟨V1.heap.size, V9.heap.size, V10.heap.size, AN, cN, BN, dN, CN, eN, rfl, rfl, (((OwnO.lower hN10.out (by omega)).far (p := ⟨V1.heap.size, 0, none⟩) (by show V1.heap.size < _ ∨ _ ≤ V1.heap.size; omega) _).far (p := ⟨V1.heap.size, 1, none⟩) (by show V1.heap.size < _ ∨ _ ≤ V1.heap.size; omega) _).far (p := ⟨V1.heap.size, 2, none⟩) (by show V1.heap.size < _ ∨ _ ≤ V1.heap.size; omega) _, e3, ((bb10.out.setCell (p := ⟨V1.heap.size, 0, none⟩) (by show _ ≤ V1.heap.size; omega) _).setCell (p := ⟨V1.heap.size, 1, none⟩) (by show _ ≤ V1.heap.size; omega) _).setCell (p := ⟨V1.heap.size, 2, none⟩) (by show _ ≤ V1.heap.size; omega) _, by omega, by simp <;> omega, by omega, by simp <;> omega, by omega⟩
    · go_simp
      refine hK.out _ _ (KA.out _ (below_alloc b0.out _)) (fun hHeld => ?_)
      clear hK K
      try simp only [Act.put, List.setIfInBounds_toArray, List.set_cons_zero, List.set_cons_succ]
      have bb2 : Hid (Below w2.heap.size w2 (V0.alloc (.cells #[.slice none 0 0, .slice none 0 0, .slice none 0 0] 55))) := below_alloc b0.out _
      have ha : Below V0.heap.size V0 (V0.alloc (.cells #[.slice none 0 0, .slice none 0 0, .slice none 0 0] 55)) := below_alloc (Below.refl _ _) _
      have y2 : Hid ((V0.alloc (.cells #[.slice none 0 0, .slice none 0 0, .slice none 0 0] 55)).heap[V0.heap.size]? = some (.cells #[.slice none 0 0, .slice none 0 0, .slice none 0 0] 55 (0, 0))) := blk_new _ _
      have hs2 : Hid ((V0.alloc (.cells #[.slice none 0 0, .slice none 0 0, .slice none 0 0] 55)).heap.size = V0.heap.size + 1) := (by show _ = _; simp)
      clear ha
      obtain ⟨V2, eV2⟩ : ∃ V, V = V0.alloc (.cells #[.slice none 0 0, .slice none 0 0, .slice none 0 0] 55) := ⟨_, rfl⟩
      rw [← eV2] at bb2 hHeld y2 hs2 ⊢
      clear eV2
      refine one_ (i := 1) (N := some 29) #[true, true, true, false, false, false, false, false, true, false, false] rfl rfl (by kernel_rfl) (by simp) (fun K hK => ?_)
      go_simp
      refine (QT.out V2 (below_next HB2.out HB2.out.size bb2.out)).mono ?_
      rintro e V11 ⟨v0, v1, v2, rfl, ho, hb⟩
      obtain ⟨AU, cU, BU, dU, CU, eU, rfl, rfl, rfl, _, _, _⟩ := ho.toB.form
      go_simp
      have bb11 := Lib.hid (below_next bb2.out bb2.out.size hb)
      have sz11 : Hid (V2.heap.size ≤ V11.heap.size) := hb.size
      have y11 := Lib.hid (blk_below y2.out hb)
      have hU11 := Lib.hid ho
      clear ho hb
      refine hK.out _ _ (KA.out _ bb11.out) (fun hHeld => ?_)
      clear hK K
      try simp only [Act.put, List.setIfInBounds_toArray, List.set_cons_zero, List.set_cons_succ]
      refine one_ (i := 3) (N := some 31) #[true, true, true, true, false, false, false, false, true, false, false] rfl rfl (by kernel_rfl) (by simp) (fun K hK => ?_)
      go_simp
      refine (QF.out V11 (below_next HB2.out HB2.out.size bb11.out)).mono ?_
      rintro e V12 ⟨AV, cV, rfl, lV, ho, hb⟩
      go_simp
      have bb12 := Lib.hid (below_next bb11.out bb11.out.size hb)
      have sz12 : Hid (V11.heap.size ≤ V12.heap.size) := hb.size
      have hU12 := Lib.hid (OwnO.below hU11.out hb)
      have y12 := Lib.hid (blk_below y11.out hb)
      have hV12 := Lib.hid ho
      have LV := Lib.hid lV
      clear lV
      clear ho hb
      refine hK.out _ _ (KA.out _ bb12.out) (fun hHeld => ?_)
      clear hK K
      try simp only [Act.put, List.setIfInBounds_toArray, List.set_cons_zero, List.set_cons_succ]
      refine one_ (i := 4) (N := some 32) #[true, true, true, true, true, false, false, false, true, false, false] rfl rfl (by kernel_rfl) (by simp) (fun K hK => ?_)
      go_simp
      refine (spec_flowAdd_any AU cU BU dU CU eU b a AV cV V12 hU12.out.toB.form_C.1 hU12.out.toB.form_C.2.1 hU12.out.toB.form_C.2.2 (Kd.R_reads' hV12.out).2.2 LV.out).mono ?_
      rintro e V13 ⟨v0, v1, v2, rfl, ho, hb⟩
      have ho := ho.toO
      obtain ⟨AN, cN, BN, dN, CN, eN, rfl, rfl, rfl, _, _, _⟩ := ho.toB.form
      go_simp
      have bb13 := Lib.hid (below_next bb12.out bb12.out.size hb)
      have sz13 : Hid (V12.heap.size ≤ V13.heap.size) := hb.size
      have hU13 := Lib.hid (OwnO.below hU12.out hb)
      have hV13 := Lib.hid (Kd.R_below hV12.out hb)
      have y13 := Lib.hid (blk_below y12.out hb)
      have hN13 := Lib.hid ho
      clear ho hb
      refine hK.out _ _ (KA.out _ bb13.out) (fun hHeld => ?_)
      clear hK K
      try simp only [Act.put, List.setIfInBounds_toArray, List.set_cons_zero, List.set_cons_succ]
      refine pure_ (i := 5) (N := some 27) (v := ?_) (a' := ?_) #[true, true, true, true, true, true, false, false, true, false, false] rfl rfl (by kernel_rfl) (fun _ _ _ h => h) (Or.inl ⟨by rfl, ?_⟩) ?_ ?_
      rotate_left
      · intro w'
        go_simp
        try with_reducible rfl
      rotate_left
      · (try simp only [Act.put, List.setIfInBounds_toArray, List.set_cons_zero, List.set_cons_succ])
        rfl
      refine pure_ (i := 6) (N := some 33) (v := ?_) (a' := ?_) #[true, true, true, true, true, true, true, false, true, false, false] rfl rfl (by kernel_rfl) (fun _ _ _ h => h) (Or.inl ⟨by rfl, ?_⟩) ?_ ?_
      rotate_left
      · intro w'
        go_simp
        try with_reducible rfl
      rotate_left
      · (try simp only [Act.put, List.setIfInBounds_toArray, List.set_cons_zero, List.set_cons_succ])
        rfl
      refine pure_ (i := 7) (N := some 34) (v := ?_) (a' := ?_) #[true, true, true, true, true, true, true, true, true, false, false] rfl rfl (by kernel_rfl) (fun _ _ _ h => h) (Or.inl ⟨by rfl, ?_⟩) ?_ ?_
      rotate_left
      · intro w'
        go_simp
        try with_reducible rfl
      rotate_left
      · (try simp only [Act.put, List.setIfInBounds_toArray, List.set_cons_zero, List.set_cons_succ])
        rfl
      have pb0 := blk_frozen y13.out 0
      have cb0 := (blk_cell y13.out 0).trans rfl
      have pb1 := blk_frozen y13.out 1
      have cb1 := (blk_cell y13.out 1).trans rfl
      have pb2 := blk_frozen y13.out 2
      have cb2 := (blk_cell y13.out 2).trans rfl
      refine last_ (i := 9) (N := none) #[true, true, true, true, true, true, true, true, true, true, false] rfl rfl (by kernel_rfl) (by simp) (fun K hK => ?_)
      go_simp
      refine hK.out _ _ ?_
      clear hK K
      try simp only [Act.put, List.setIfInBounds_toArray, List.set_cons_zero, List.set_cons_succ]
      refine pure_ (i := 10) (N := some 7) (v := ?_) (a' := ?_) #[true, true, true, true, true, true, true, true, true, true, true] rfl rfl (by kernel_rfl) (fun _ _ _ h => h) (Or.inl ⟨by rfl, ?_⟩) ?_ ?_
      rotate_left
      · intro w'
        go_simp
        try with_reducible rfl
      rotate_left
      · (try simp only [Act.put, List.setIfInBounds_toArray, List.set_cons_zero, List.set_cons_succ])
        rfl
      refine done_ (by kernel_rfl) ?_
      go_wp2_with (fail)
      go_meet
      have := hs2.out
      have := sz11.out
      have := sz12.out
      have := sz13.out
      have := bb13.out.size
      have := b0.out.size
      have := blk_lt y13.out
      have e1 := blk_set y13.out 0 (.slice AN (addR b a).1.f0.length cN)
      have e2 := blk_set e1 1 (.slice BN (addR b a).1.f1.length dN)
      have e3 := blk_set e2 2 (.slice CN (addR b a).1.f2.length eN)
      exact ⟨V0.heap.size, V12.heap.size, V13.heap.size, AN, cN, BN, dN, CN, eN, rfl, rfl, (((OwnO.lower hN13.out (by omega)).far (p := ⟨V0.heap.size, 0, none⟩) (by show V0.heap.size < _ ∨ _ ≤ V0.heap.size; omega) _).far (p := ⟨V0.heap.size, 1, none⟩) (by show V0.heap.size < _ ∨ _ ≤ V0.heap.size; omega) _).far (p := ⟨V0.heap.size, 2, none⟩) (by show V0.heap.size < _ ∨ _ ≤ V0.heap.size; omega) _, e3, ((bb13.out.setCell (p := ⟨V0.heap.size, 0, none⟩) (by show _ ≤ V0.heap.size; omega) _).setCell (p := ⟨V0.heap.size, 1, none⟩) (by show _ ≤ V0.heap.size; omega) _).setCell (p := ⟨V0.heap.size, 2, none⟩) (by show _ ≤ V0.heap.size; omega) _, by omega, by simp <;> omega, by omega, by simp <;> omega, by omega⟩
  case rest =>
  obtain ⟨gW, loW, hiW, AW, cW, BW, dW, CW, eW, rfl, rfl, oW_, YW_, hb_, t1W, t2W, t3W, t4W, t5W⟩ := hcut
  obtain ⟨w3, hw3⟩ : ∃ V, V = wc := ⟨_, rfl⟩
  subst hw3
  have hb := hb_.out
  have s3 : w2.heap.size ≤ w3.heap.size := hb.size
  clear hb_ KA
  have X3 := Lib.hid (blk_below X2.out hb)
  have F3 := Lib.hid (blk_below F2.out hb)
  have HB3 := Lib.hid (below_next HB2.out HB2.out.size hb)
  clear X2 F2 HB2
  clear hb
  have oW := oW_
  have YW := YW_
  clear oW_ YW_
  have xa := (blk_cell X3.out 0).trans rfl
  have xb := (blk_cell X3.out 1).trans rfl
  have xc := (blk_cell X3.out 2).trans rfl
  have fa := (blk_cell F3.out 0).trans rfl
  have fb := (blk_cell F3.out 1).trans rfl
  have fc := (blk_cell F3.out 2).trans rfl
  have fd := (blk_cell F3.out 3).trans rfl
  have wya := (blk_cell YW.out 0).trans rfl
  have wyb := (blk_cell YW.out 1).trans rfl
  have wyc := (blk_cell YW.out 2).trans rfl
  go_wp2_with (fail)
  refine (QT.out _ HB3.out).mono ?_
  rintro e w4 ⟨v0, v1, v2, rfl, ho, hb⟩
  have s4 : w3.heap.size ≤ w4.heap.size := hb.size
  have ho := ho
  obtain ⟨AX, cX, BX, dX, CX, eX, rfl, rfl, rfl, _, _, _⟩ := ho.toB.form
  have X4 := Lib.hid (blk_below X3.out hb)
  have F4 := Lib.hid (blk_below F3.out hb)
  have HB4 := Lib.hid (below_next HB3.out HB3.out.size hb)
  have oW' := Lib.hid (oW.out.below hb)
  clear oW
  have oW := oW'
  clear oW'
  have YW' := Lib.hid (blk_below YW.out hb)
  clear YW
  have YW := YW'
  clear YW'
  clear X3 F3 HB3
  have oX := Lib.hid (ho.lower (base' := w.heap.size) (by omega))
  clear ho hb
  clear xa xb xc fa fb fc fd
  clear wya wyb wyc
  have hb : Below w4.heap.size w4 (w4.alloc (.cells #[.slice AX b.f0.length cX, .slice BX b.f1.length dX, .slice CX b.f2.length eX] 55)) := below_alloc (Below.refl _ _) _
  have YX : Hid ((w4.alloc (.cells #[.slice AX b.f0.length cX, .slice BX b.f1.length dX, .slice CX b.f2.length eX] 55)).heap[w4.heap.size]? = some (.cells #[.slice AX b.f0.length cX, .slice BX b.f1.length dX, .slice CX b.f2.length eX] 55 (0, 0))) := blk_new _ _
  have s5 : (w4.alloc (.cells #[.slice AX b.f0.length cX, .slice BX b.f1.length dX, .slice CX b.f2.length eX] 55)).heap.size = w4.heap.size + 1 := by simp
  have X5 := Lib.hid (blk_below X4.out hb)
  have F5 := Lib.hid (blk_below F4.out hb)
  have HB5 := Lib.hid (below_next HB4.out HB4.out.size hb)
  have oW' := Lib.hid (oW.out.below hb)
  clear oW
  have oW := oW'
  clear oW'
  have oX' := Lib.hid (oX.out.below hb)
  clear oX
  have oX := oX'
  clear oX'
  have YW' := Lib.hid (blk_below YW.out hb)
  clear YW
  have YW := YW'
  clear YW'
  clear X4 F4 HB4
  clear hb
  have xa := (blk_cell X5.out 0).trans rfl
  have xb := (blk_cell X5.out 1).trans rfl
  have xc := (blk_cell X5.out 2).trans rfl
  have fa := (blk_cell F5.out 0).trans rfl
  have fb := (blk_cell F5.out 1).trans rfl
  have fc := (blk_cell F5.out 2).trans rfl
  have fd := (blk_cell F5.out 3).trans rfl
  have wya := (blk_cell YW.out 0).trans rfl
  have wyb := (blk_cell YW.out 1).trans rfl
  have wyc := (blk_cell YW.out 2).trans rfl
  have xya := (blk_cell YX.out 0).trans rfl
  have xyb := (blk_cell YX.out 1).trans rfl
  have xyc := (blk_cell YX.out 2).trans rfl
  go_wp2_with (fail)
  refine (QF.out _ HB5.out).mono ?_
  rintro e w6 ⟨AY, cY, rfl, lY, ho, hb⟩
  have s6 : (w4.alloc (.cells #[.slice AX b.f0.length cX, .slice BX b.f1.length dX, .slice CX b.f2.length eX] 55)).heap.size ≤ w6.heap.size := hb.size
  have X6 := Lib.hid (blk_below X5.out hb)
  have F6 := Lib.hid (blk_below F5.out hb)
  have HB6 := Lib.hid (below_next HB5.out HB5.out.size hb)
  have oW' := Lib.hid (oW.out.below hb)
  clear oW
  have oW := oW'
  clear oW'
  have oX' := Lib.hid (oX.out.below hb)
  clear oX
  have oX := oX'
  clear oX'
  have YW' := Lib.hid (blk_below YW.out hb)
  clear YW
  have YW := YW'
  clear YW'
  have YX' := Lib.hid (blk_below YX.out hb)
  clear YX
  have YX := YX'
  clear YX'
  clear X5 F5 HB5
  have oY := Lib.hid (Kd.R_lower ho (show w.heap.size ≤ (w4.alloc (.cells #[.slice AX b.f0.length cX, .slice BX b.f1.length dX, .slice CX b.f2.length eX] 55)).heap.size by omega))
  have LY := Lib.hid lY
  clear ho hb lY
  clear xa xb xc fa fb fc fd
  clear wya wyb wyc
  clear xya xyb xyc
  have hb : Below w6.heap.size w6 (w6.alloc (.cells #[.string a.f0, .int .i64 a.f1, .int .i64 a.f2, .slice AY a.f3.length cY] 61)) := below_alloc (Below.refl _ _) _
  have YY : Hid ((w6.alloc (.cells #[.string a.f0, .int .i64 a.f1, .int .i64 a.f2, .slice AY a.f3.length cY] 61)).heap[w6.heap.size]? = some (.cells #[.string a.f0, .int .i64 a.f1, .int .i64 a.f2, .slice AY a.f3.length cY] 61 (0, 0))) := blk_new _ _
  have s7 : (w6.alloc (.cells #[.string a.f0, .int .i64 a.f1, .int .i64 a.f2, .slice AY a.f3.length cY] 61)).heap.size = w6.heap.size + 1 := by simp
  have X7 := Lib.hid (blk_below X6.out hb)
  have F7 := Lib.hid (blk_below F6.out hb)
  have HB7 := Lib.hid (below_next HB6.out HB6.out.size hb)
  have oW' := Lib.hid (oW.out.below hb)
  clear oW
  have oW := oW'
  clear oW'
  have oX' := Lib.hid (oX.out.below hb)
  clear oX
  have oX := oX'
  clear oX'
  have oY' := Lib.hid (Kd.R_below oY.out hb)
  clear oY
  have oY := oY'
  clear oY'
  have YW' := Lib.hid (blk_below YW.out hb)
  clear YW
  have YW := YW'
  clear YW'
  have YX' := Lib.hid (blk_below YX.out hb)
  clear YX
  have YX := YX'
  clear YX'
  clear X6 F6 HB6
  clear hb
  have xa := (blk_cell X7.out 0).trans rfl
  have xb := (blk_cell X7.out 1).trans rfl
  have xc := (blk_cell X7.out 2).trans rfl
  have fa := (blk_cell F7.out 0).trans rfl
  have fb := (blk_cell F7.out 1).trans rfl
  have fc := (blk_cell F7.out 2).trans rfl
  have fd := (blk_cell F7.out 3).trans rfl
  have wya := (blk_cell YW.out 0).trans rfl
  have wyb := (blk_cell YW.out 1).trans rfl
  have wyc := (blk_cell YW.out 2).trans rfl
  have xya := (blk_cell YX.out 0).trans rfl
  have xyb := (blk_cell YX.out 1).trans rfl
  have xyc := (blk_cell YX.out 2).trans rfl
  have yya := (blk_cell YY.out 0).trans rfl
  have yyb := (blk_cell YY.out 1).trans rfl
  have yyc := (blk_cell YY.out 2).trans rfl
  have yyd := (blk_cell YY.out 3).trans rfl
  go_wp2_with (fail)
  refine (impl_flowAdd_any _ _ _ _ _ _ b a _ _ _ oX.out.toB.form_C.1 oX.out.toB.form_C.2.1 oX.out.toB.form_C.2.2 (Kd.R_reads' oY.out).2.2 LY.out).mono ?_
  rintro e w8 ⟨v0, v1, v2, rfl, ho, hb⟩
  have s8 : (w6.alloc (.cells #[.string a.f0, .int .i64 a.f1, .int .i64 a.f2, .slice AY a.f3.length cY] 61)).heap.size ≤ w8.heap.size := hb.size
  have ho := ho.toO
  obtain ⟨AG, cG, BG, dG, CG, eG, rfl, rfl, rfl, _, _, _⟩ := ho.toB.form
  have X8 := Lib.hid (blk_below X7.out hb)
  have F8 := Lib.hid (blk_below F7.out hb)
  have HB8 := Lib.hid (below_next HB7.out HB7.out.size hb)
  have oW' := Lib.hid (oW.out.below hb)
  clear oW
  have oW := oW'
  clear oW'
  have oX' := Lib.hid (oX.out.below hb)
  clear oX
  have oX := oX'
  clear oX'
  have oY' := Lib.hid (Kd.R_below oY.out hb)
  clear oY
  have oY := oY'
  clear oY'
  have YW' := Lib.hid (blk_below YW.out hb)
  clear YW
  have YW := YW'
  clear YW'
  have YX' := Lib.hid (blk_below YX.out hb)
  clear YX
  have YX := YX'
  clear YX'
  have YY' := Lib.hid (blk_below YY.out hb)
  clear YY
  have YY := YY'
  clear YY'
  clear X7 F7 HB7
  have oG := Lib.hid (ho.lower (base' := w.heap.size) (by omega))
  clear ho hb
  clear xa xb xc fa fb fc fd
  clear wya wyb wyc
  clear xya xyb xyc
  clear yya yyb yyc yyd
  have hb : Below w8.heap.size w8 (w8.alloc (.cells #[.slice AG (addR b a).1.f0.length cG, .slice BG (addR b a).1.f1.length dG, .slice CG (addR b a).1.f2.length eG] 55)) := below_alloc (Below.refl _ _) _
  have YG : Hid ((w8.alloc (.cells #[.slice AG (addR b a).1.f0.length cG, .slice BG (addR b a).1.f1.length dG, .slice CG (addR b a).1.f2.length eG] 55)).heap[w8.heap.size]? = some (.cells #[.slice AG (addR b a).1.f0.length cG, .slice BG (addR b a).1.f1.length dG, .slice CG (addR b a).1.f2.length eG] 55 (0, 0))) := blk_new _ _
  have s9 : (w8.alloc (.cells #[.slice AG (addR b a).1.f0.length cG, .slice BG (addR b a).1.f1.length dG, .slice CG (addR b a).1.f2.length eG] 55)).heap.size = w8.heap.size + 1 := by simp
  have X9 := Lib.hid (blk_below X8.out hb)
  have F9 := Lib.hid (blk_below F8.out hb)
  have HB9 := Lib.hid (below_next HB8.out HB8.out.size hb)
  have oW' := Lib.hid (oW.out.below hb)
  clear oW
  have oW := oW'
  clear oW'
  have oX' := Lib.hid (oX.out.below hb)
  clear oX
  have oX := oX'
  clear oX'
  have oY' := Lib.hid (Kd.R_below oY.out hb)
  clear oY
  have oY := oY'
  clear oY'
  have oG' := Lib.hid (oG.out.below hb)
  clear oG
  have oG := oG'
  clear oG'
  have YW' := Lib.hid (blk_below YW.out hb)
  clear YW
  have YW := YW'
  clear YW'
  have YX' := Lib.hid (blk_below YX.out hb)
  clear YX
  have YX := YX'
  clear YX'
  have YY' := Lib.hid (blk_below YY.out hb)
  clear YY
  have YY := YY'
  clear YY'
  clear X8 F8 HB8
  clear hb
  have xa := (blk_cell X9.out 0).trans rfl
  have xb := (blk_cell X9.out 1).trans rfl
  have xc := (blk_cell X9.out 2).trans rfl
  have fa := (blk_cell F9.out 0).trans rfl
  have fb := (blk_cell F9.out 1).trans rfl
  have fc := (blk_cell F9.out 2).trans rfl
  have fd := (blk_cell F9.out 3).trans rfl
  have wya := (blk_cell YW.out 0).trans rfl
  have wyb := (blk_cell YW.out 1).trans rfl
  have wyc := (blk_cell YW.out 2).trans rfl
  have xya := (blk_cell YX.out 0).trans rfl
  have xyb := (blk_cell YX.out 1).trans rfl
  have xyc := (blk_cell YX.out 2).trans rfl
  have yya := (blk_cell YY.out 0).trans rfl
  have yyb := (blk_cell YY.out 1).trans rfl
  have yyc := (blk_cell YY.out 2).trans rfl
  have yyd := (blk_cell YY.out 3).trans rfl
  have gya := (blk_cell YG.out 0).trans rfl
  have gyb := (blk_cell YG.out 1).trans rfl
  have gyc := (blk_cell YG.out 2).trans rfl
  go_wp2_with (fail)
  refine (eq_books_any oG.out oW.out).mono ?_
  rintro e w10 ⟨rfl, hb⟩
  have s10 : (w8.alloc (.cells #[.slice AG (addR b a).1.f0.length cG, .slice BG (addR b a).1.f1.length dG, .slice CG (addR b a).1.f2.length eG] 55)).heap.size ≤ w10.heap.size := hb.size
  have X10 := Lib.hid (blk_below X9.out hb)
  have F10 := Lib.hid (blk_below F9.out hb)
  have HB10 := Lib.hid (below_next HB9.out HB9.out.size hb)
  have oW' := Lib.hid (oW.out.below hb)
  clear oW
  have oW := oW'
  clear oW'
  have oX' := Lib.hid (oX.out.below hb)
  clear oX
  have oX := oX'
  clear oX'
  have oY' := Lib.hid (Kd.R_below oY.out hb)
  clear oY
  have oY := oY'
  clear oY'
  have oG' := Lib.hid (oG.out.below hb)
  clear oG
  have oG := oG'
  clear oG'
  have YW' := Lib.hid (blk_below YW.out hb)
  clear YW
  have YW := YW'
  clear YW'
  have YX' := Lib.hid (blk_below YX.out hb)
  clear YX
  have YX := YX'
  clear YX'
  have YY' := Lib.hid (blk_below YY.out hb)
  clear YY
  have YY := YY'
  clear YY'
  have YG' := Lib.hid (blk_below YG.out hb)
  clear YG
  have YG := YG'
  clear YG'
  clear X9 F9 HB9
  clear hb
  clear xa xb xc fa fb fc fd
  clear wya wyb wyc
  clear xya xyb xyc
  clear yya yyb yyc yyd
  clear gya gyb gyc
  have xa := (blk_cell X10.out 0).trans rfl
  have xb := (blk_cell X10.out 1).trans rfl
  have xc := (blk_cell X10.out 2).trans rfl
  have fa := (blk_cell F10.out 0).trans rfl
  have fb := (blk_cell F10.out 1).trans rfl
  have fc := (blk_cell F10.out 2).trans rfl
  have fd := (blk_cell F10.out 3).trans rfl
  have wya := (blk_cell YW.out 0).trans rfl
  have wyb := (blk_cell YW.out 1).trans rfl
  have wyc := (blk_cell YW.out 2).trans rfl
  have xya := (blk_cell YX.out 0).trans rfl
  have xyb := (blk_cell YX.out 1).trans rfl
  have xyc := (blk_cell YX.out 2).trans rfl
  have yya := (blk_cell YY.out 0).trans rfl
  have yyb := (blk_cell YY.out 1).trans rfl
  have yyc := (blk_cell YY.out 2).trans rfl
  have yyd := (blk_cell YY.out 3).trans rfl
  have gya := (blk_cell YG.out 0).trans rfl
  have gyb := (blk_cell YG.out 1).trans rfl
  have gyc := (blk_cell YG.out 2).trans rfl
  have bd : Below w10.heap.size w10 w10.drew := pw_below_drewN (Below.refl _ _) 1
  have HBd := Lib.hid (below_next HB10.out HB10.out.size bd)
  go_wp2
  go_region_held3 (fun W' => W'.cell? ⟨w.heap.size, 0, none⟩ = some (.slice A0 b.f0.length c0) ∧ W'.cell? ⟨w.heap.size, 1, none⟩ = some (.slice A1 b.f1.length c1) ∧ W'.cell? ⟨w.heap.size, 2, none⟩ = some (.slice A2 b.f2.length c2) ∧ W'.cell? ⟨w4.heap.size, 0, none⟩ = some (.slice AX b.f0.length cX) ∧ W'.cell? ⟨w4.heap.size, 1, none⟩ = some (.slice BX b.f1.length dX) ∧ W'.cell? ⟨w4.heap.size, 2, none⟩ = some (.slice CX b.f2.length eX)) (first | exact ⟨by assumption, by assumption, by assumption, by assumption, by assumption, by assumption⟩ | go_keep) (first
    | (go_at_call 38; refine (QT.out _ HBd.out).mono ?_; rintro e w11 ⟨v0, v1, v2, rfl, ho, hb⟩; obtain ⟨AU, cU, BU, dU, CU, eU, rfl, rfl, rfl, _, _, _⟩ := ho.toB.form; have b1 := bd.trans hb; have oq := Lib.hid (oX.out.below b1); have oU := Lib.hid ho; have xa := pw_cell_below b1 xa; have xb := pw_cell_below b1 xb; have xc := pw_cell_below b1 xc; have xya := pw_cell_below b1 xya; have xyb := pw_cell_below b1 xyb; have xyc := pw_cell_below b1 xyc; clear ho hb)
    | (go_at_call 41; refine (eq_books_any oq.out oU.out).mono ?_; rintro e w12 ⟨rfl, hb⟩; have b2 := below_next b1 b1.size hb; have xa := pw_cell_below hb xa; have xb := pw_cell_below hb xb; have xc := pw_cell_below hb xc; have xya := pw_cell_below hb xya; have xyb := pw_cell_below hb xyb; have xyc := pw_cell_below hb xyc; clear hb))
  clear bd HBd b1 oq oU xa xb xc xya xyb xyc
  have s12 : w10.heap.size ≤ w12.heap.size := b2.size
  have X12 := Lib.hid (blk_below X10.out b2)
  have F12 := Lib.hid (blk_below F10.out b2)
  have HB12 := Lib.hid (below_next HB10.out HB10.out.size b2)
  have oW' := Lib.hid (oW.out.below b2)
  clear oW
  have oW := oW'
  clear oW'
  have oX' := Lib.hid (oX.out.below b2)
  clear oX
  have oX := oX'
  clear oX'
  have oY' := Lib.hid (Kd.R_below oY.out b2)
  clear oY
  have oY := oY'
  clear oY'
  have oG' := Lib.hid (oG.out.below b2)
  clear oG
  have oG := oG'
  clear oG'
  have YW' := Lib.hid (blk_below YW.out b2)
  clear YW
  have YW := YW'
  clear YW'
  have YX' := Lib.hid (blk_below YX.out b2)
  clear YX
  have YX := YX'
  clear YX'
  have YY' := Lib.hid (blk_below YY.out b2)
  clear YY
  have YY := YY'
  clear YY'
  have YG' := Lib.hid (blk_below YG.out b2)
  clear YG
  have YG := YG'
  clear YG'
  clear X10 F10 HB10
  clear b2
  clear fa fb fc fd
  clear wya wyb wyc
  clear yya yyb yyc yyd
  clear gya gyb gyc
  have xa := (blk_cell X12.out 0).trans rfl
  have xb := (blk_cell X12.out 1).trans rfl
  have xc := (blk_cell X12.out 2).trans rfl
  have fa := (blk_cell F12.out 0).trans rfl
  have fb := (blk_cell F12.out 1).trans rfl
  have fc := (blk_cell F12.out 2).trans rfl
  have fd := (blk_cell F12.out 3).trans rfl
  have wya := (blk_cell YW.out 0).trans rfl
  have wyb := (blk_cell YW.out 1).trans rfl
  have wyc := (blk_cell YW.out 2).trans rfl
  have xya := (blk_cell YX.out 0).trans rfl
  have xyb := (blk_cell YX.out 1).trans rfl
  have xyc := (blk_cell YX.out 2).trans rfl
  have yya := (blk_cell YY.out 0).trans rfl
  have yyb := (blk_cell YY.out 1).trans rfl
  have yyc := (blk_cell YY.out 2).trans rfl
  have yyd := (blk_cell YY.out 3).trans rfl
  have gya := (blk_cell YG.out 0).trans rfl
  have gyb := (blk_cell YG.out 1).trans rfl
  have gyc := (blk_cell YG.out 2).trans rfl
  have bd : Below w12.heap.size w12 w12.drew := pw_below_drewN (Below.refl _ _) 1
  have HBd := Lib.hid (below_next HB12.out HB12.out.size bd)
  go_wp2
  go_region_held3 (fun W' => W'.cell? ⟨w.heap.size + 1, 0, none⟩ = some (.string a.f0) ∧ W'.cell? ⟨w.heap.size + 1, 1, none⟩ = some (.int .i64 a.f1) ∧ W'.cell? ⟨w.heap.size + 1, 2, none⟩ = some (.int .i64 a.f2) ∧ W'.cell? ⟨w.heap.size + 1, 3, none⟩ = some (.slice A3 a.f3.length c3) ∧ W'.cell? ⟨w6.heap.size, 0, none⟩ = some (.string a.f0) ∧ W'.cell? ⟨w6.heap.size, 1, none⟩ = some (.int .i64 a.f1) ∧ W'.cell? ⟨w6.heap.size, 2, none⟩ = some (.int .i64 a.f2) ∧ W'.cell? ⟨w6.heap.size, 3, none⟩ = some (.slice AY a.f3.length cY)) (first | exact ⟨by assumption, by assumption, by assumption, by assumption, by assumption, by assumption, by assumption, by assumption⟩ | go_keep) (first
    | (go_at_call 39; refine (QF.out _ HBd.out).mono ?_; rintro e w13 ⟨AU, cU, rfl, lU, ho, hb⟩; have b1 := bd.trans hb; have oq := Lib.hid (Kd.R_below oY.out b1); have oU := Lib.hid ho; have fa := pw_cell_below b1 fa; have fb := pw_cell_below b1 fb; have fc := pw_cell_below b1 fc; have fd := pw_cell_below b1 fd; have yya := pw_cell_below b1 yya; have yyb := pw_cell_below b1 yyb; have yyc := pw_cell_below b1 yyc; have yyd := pw_cell_below b1 yyd; clear ho hb lU)
    | (go_at_call 42; refine (eq_flight_any _ _ _ _ _ _ _ a.f3 _ (Kd.R_reads' oq.out).2.2 (Kd.R_reads' oU.out).2.2).mono ?_; rintro e w14 ⟨rfl, hb⟩; have b2 := below_next b1 b1.size hb; have fa := pw_cell_below hb fa; have fb := pw_cell_below hb fb; have fc := pw_cell_below hb fc; have fd := pw_cell_below hb fd; have yya := pw_cell_below hb yya; have yyb := pw_cell_below hb yyb; have yyc := pw_cell_below hb yyc; have yyd := pw_cell_below hb yyd; clear hb))
  clear bd HBd b1 oq oU fa fb fc fd yya yyb yyc yyd
  have s14 : w12.heap.size ≤ w14.heap.size := b2.size
  have X14 := Lib.hid (blk_below X12.out b2)
  have F14 := Lib.hid (blk_below F12.out b2)
  have HB14 := Lib.hid (below_next HB12.out HB12.out.size b2)
  have oW' := Lib.hid (oW.out.below b2)
  clear oW
  have oW := oW'
  clear oW'
  have oX' := Lib.hid (oX.out.below b2)
  clear oX
  have oX := oX'
  clear oX'
  have oY' := Lib.hid (Kd.R_below oY.out b2)
  clear oY
  have oY := oY'
  clear oY'
  have oG' := Lib.hid (oG.out.below b2)
  clear oG
  have oG := oG'
  clear oG'
  have YW' := Lib.hid (blk_below YW.out b2)
  clear YW
  have YW := YW'
  clear YW'
  have YX' := Lib.hid (blk_below YX.out b2)
  clear YX
  have YX := YX'
  clear YX'
  have YY' := Lib.hid (blk_below YY.out b2)
  clear YY
  have YY := YY'
  clear YY'
  have YG' := Lib.hid (blk_below YG.out b2)
  clear YG
  have YG := YG'
  clear YG'
  clear X12 F12 HB12
  clear b2
  clear xa xb xc
  clear wya wyb wyc
  clear xya xyb xyc
  clear gya gyb gyc
  have xa := (blk_cell X14.out 0).trans rfl
  have xb := (blk_cell X14.out 1).trans rfl
  have xc := (blk_cell X14.out 2).trans rfl
  have fa := (blk_cell F14.out 0).trans rfl
  have fb := (blk_cell F14.out 1).trans rfl
  have fc := (blk_cell F14.out 2).trans rfl
  have fd := (blk_cell F14.out 3).trans rfl
  have wya := (blk_cell YW.out 0).trans rfl
  have wyb := (blk_cell YW.out 1).trans rfl
  have wyc := (blk_cell YW.out 2).trans rfl
  have xya := (blk_cell YX.out 0).trans rfl
  have xyb := (blk_cell YX.out 1).trans rfl
  have xyc := (blk_cell YX.out 2).trans rfl
  have yya := (blk_cell YY.out 0).trans rfl
  have yyb := (blk_cell YY.out 1).trans rfl
  have yyc := (blk_cell YY.out 2).trans rfl
  have yyd := (blk_cell YY.out 3).trans rfl
  have gya := (blk_cell YG.out 0).trans rfl
  have gyb := (blk_cell YG.out 1).trans rfl
  have gyc := (blk_cell YG.out 2).trans rfl
  go_wp2_with (fail)
  refine (mark_book_any _ _ _ b 1 w _ HB14.out oX.out (by omega) (by omega) (by omega) SB.out).mono ?_
  rintro e w15 ⟨rfl, ho, hb, hk⟩
  have s15 : w14.heap.size ≤ w15.heap.size := hk.1
  have HB15 := Lib.hid hb
  have X15 := Lib.hid (blk_kept X14.out hk (fun h => by have h1 := h.1; have h2 := h.2; omega))
  have F15 := Lib.hid (blk_kept F14.out hk (fun h => by have h1 := h.1; have h2 := h.2; omega))
  have oW' := Lib.hid (oW.out.apart hk (by omega))
  clear oW
  have oW := oW'
  clear oW'
  have oY' := Lib.hid (R_apart oY.out hk (by omega))
  clear oY
  have oY := oY'
  clear oY'
  have oG' := Lib.hid (oG.out.apart hk (by omega))
  clear oG
  have oG := oG'
  clear oG'
  have YW' := Lib.hid (blk_kept YW.out hk (fun h => by have h1 := h.1; have h2 := h.2; omega))
  clear YW
  have YW := YW'
  clear YW'
  have YX' := Lib.hid (blk_kept YX.out hk (fun h => by have h1 := h.1; have h2 := h.2; omega))
  clear YX
  have YX := YX'
  clear YX'
  have YY' := Lib.hid (blk_kept YY.out hk (fun h => by have h1 := h.1; have h2 := h.2; omega))
  clear YY
  have YY := YY'
  clear YY'
  have YG' := Lib.hid (blk_kept YG.out hk (fun h => by have h1 := h.1; have h2 := h.2; omega))
  clear YG
  have YG := YG'
  clear YG'
  have oX' := Lib.hid ho
  clear oX
  have oX := oX'
  clear oX' ho hb hk X14 F14 HB14
  clear xa xb xc fa fb fc fd
  clear wya wyb wyc
  clear xya xyb xyc
  clear yya yyb yyc yyd
  clear gya gyb gyc
  clear oX
  have xa := (blk_cell X15.out 0).trans rfl
  have xb := (blk_cell X15.out 1).trans rfl
  have xc := (blk_cell X15.out 2).trans rfl
  have fa := (blk_cell F15.out 0).trans rfl
  have fb := (blk_cell F15.out 1).trans rfl
  have fc := (blk_cell F15.out 2).trans rfl
  have fd := (blk_cell F15.out 3).trans rfl
  have wya := (blk_cell YW.out 0).trans rfl
  have wyb := (blk_cell YW.out 1).trans rfl
  have wyc := (blk_cell YW.out 2).trans rfl
  have xya := (blk_cell YX.out 0).trans rfl
  have xyb := (blk_cell YX.out 1).trans rfl
  have xyc := (blk_cell YX.out 2).trans rfl
  have yya := (blk_cell YY.out 0).trans rfl
  have yyb := (blk_cell YY.out 1).trans rfl
  have yyc := (blk_cell YY.out 2).trans rfl
  have yyd := (blk_cell YY.out 3).trans rfl
  have gya := (blk_cell YG.out 0).trans rfl
  have gyb := (blk_cell YG.out 1).trans rfl
  have gyc := (blk_cell YG.out 2).trans rfl
  go_wp2_with (fail)
  refine (mark_flight_any _ _ _ _ _ a.f3 (1 + cntB b) w _ HB15.out oY.out (by omega) (by omega) (by have := HN3.out; omega)).mono ?_
  rintro e w16 ⟨rfl, hb, hk⟩
  have s16 : w15.heap.size ≤ w16.heap.size := hk.1
  have HB16 := Lib.hid hb
  have X16 := Lib.hid (blk_kept X15.out hk (fun h => by have h1 := h.1; have h2 := h.2; omega))
  have F16 := Lib.hid (blk_kept F15.out hk (fun h => by have h1 := h.1; have h2 := h.2; omega))
  have oW' := Lib.hid (oW.out.apart hk (by omega))
  clear oW
  have oW := oW'
  clear oW'
  have oG' := Lib.hid (oG.out.apart hk (by omega))
  clear oG
  have oG := oG'
  clear oG'
  have YW' := Lib.hid (blk_kept YW.out hk (fun h => by have h1 := h.1; have h2 := h.2; omega))
  clear YW
  have YW := YW'
  clear YW'
  have YX' := Lib.hid (blk_kept YX.out hk (fun h => by have h1 := h.1; have h2 := h.2; omega))
  clear YX
  have YX := YX'
  clear YX'
  have YY' := Lib.hid (blk_kept YY.out hk (fun h => by have h1 := h.1; have h2 := h.2; omega))
  clear YY
  have YY := YY'
  clear YY'
  have YG' := Lib.hid (blk_kept YG.out hk (fun h => by have h1 := h.1; have h2 := h.2; omega))
  clear YG
  have YG := YG'
  clear YG'
  clear oY hb hk X15 F15 HB15
  clear xa xb xc fa fb fc fd
  clear wya wyb wyc
  clear xya xyb xyc
  clear yya yyb yyc yyd
  clear gya gyb gyc
  have e7 : decide (1 + cntB b + 3 * (a.f3.length : Int) < 0) = false := decide_eq_false (by omega)
  have xa := (blk_cell X16.out 0).trans rfl
  have xb := (blk_cell X16.out 1).trans rfl
  have xc := (blk_cell X16.out 2).trans rfl
  have fa := (blk_cell F16.out 0).trans rfl
  have fb := (blk_cell F16.out 1).trans rfl
  have fc := (blk_cell F16.out 2).trans rfl
  have fd := (blk_cell F16.out 3).trans rfl
  have wya := (blk_cell YW.out 0).trans rfl
  have wyb := (blk_cell YW.out 1).trans rfl
  have wyc := (blk_cell YW.out 2).trans rfl
  have xya := (blk_cell YX.out 0).trans rfl
  have xyb := (blk_cell YX.out 1).trans rfl
  have xyc := (blk_cell YX.out 2).trans rfl
  have yya := (blk_cell YY.out 0).trans rfl
  have yyb := (blk_cell YY.out 1).trans rfl
  have yyc := (blk_cell YY.out 2).trans rfl
  have yyd := (blk_cell YY.out 3).trans rfl
  have gya := (blk_cell YG.out 0).trans rfl
  have gyb := (blk_cell YG.out 1).trans rfl
  have gyc := (blk_cell YG.out 2).trans rfl
  go_wp2_with (fail)
  refine (eq_books_any oG.out oW.out).mono ?_
  rintro e w17 ⟨rfl, hb⟩
  have s17 : w16.heap.size ≤ w17.heap.size := hb.size
  have X17 := Lib.hid (blk_below X16.out hb)
  have F17 := Lib.hid (blk_below F16.out hb)
  have HB17 := Lib.hid (below_next HB16.out HB16.out.size hb)
  have oW' := Lib.hid (oW.out.below hb)
  clear oW
  have oW := oW'
  clear oW'
  have oG' := Lib.hid (oG.out.below hb)
  clear oG
  have oG := oG'
  clear oG'
  have YW' := Lib.hid (blk_below YW.out hb)
  clear YW
  have YW := YW'
  clear YW'
  have YX' := Lib.hid (blk_below YX.out hb)
  clear YX
  have YX := YX'
  clear YX'
  have YY' := Lib.hid (blk_below YY.out hb)
  clear YY
  have YY := YY'
  clear YY'
  have YG' := Lib.hid (blk_below YG.out hb)
  clear YG
  have YG := YG'
  clear YG'
  clear X16 F16 HB16
  clear hb
  clear xa xb xc fa fb fc fd
  clear wya wyb wyc
  clear xya xyb xyc
  clear yya yyb yyc yyd
  clear gya gyb gyc
  have e8 : decide (1 + cntB (addR b a).1 < 0) = false := decide_eq_false (by omega)
  have xa := (blk_cell X17.out 0).trans rfl
  have xb := (blk_cell X17.out 1).trans rfl
  have xc := (blk_cell X17.out 2).trans rfl
  have fa := (blk_cell F17.out 0).trans rfl
  have fb := (blk_cell F17.out 1).trans rfl
  have fc := (blk_cell F17.out 2).trans rfl
  have fd := (blk_cell F17.out 3).trans rfl
  have wya := (blk_cell YW.out 0).trans rfl
  have wyb := (blk_cell YW.out 1).trans rfl
  have wyc := (blk_cell YW.out 2).trans rfl
  have xya := (blk_cell YX.out 0).trans rfl
  have xyb := (blk_cell YX.out 1).trans rfl
  have xyc := (blk_cell YX.out 2).trans rfl
  have yya := (blk_cell YY.out 0).trans rfl
  have yyb := (blk_cell YY.out 1).trans rfl
  have yyc := (blk_cell YY.out 2).trans rfl
  have yyd := (blk_cell YY.out 3).trans rfl
  have gya := (blk_cell YG.out 0).trans rfl
  have gyb := (blk_cell YG.out 1).trans rfl
  have gyc := (blk_cell YG.out 2).trans rfl
  go_wp2_with (fail)
  refine (mark_book_any _ _ _ (addR b a).1 1 w _ HB17.out oG.out (by omega) (by omega) (by omega) SR.out).mono ?_
  rintro e w18 ⟨rfl, ho, hb, hk⟩
  have s18 : w17.heap.size ≤ w18.heap.size := hk.1
  have HB18 := Lib.hid hb
  have X18 := Lib.hid (blk_kept X17.out hk (fun h => by have h1 := h.1; have h2 := h.2; omega))
  have F18 := Lib.hid (blk_kept F17.out hk (fun h => by have h1 := h.1; have h2 := h.2; omega))
  have oW' := Lib.hid (oW.out.apart hk (by omega))
  clear oW
  have oW := oW'
  clear oW'
  have YW' := Lib.hid (blk_kept YW.out hk (fun h => by have h1 := h.1; have h2 := h.2; omega))
  clear YW
  have YW := YW'
  clear YW'
  have YX' := Lib.hid (blk_kept YX.out hk (fun h => by have h1 := h.1; have h2 := h.2; omega))
  clear YX
  have YX := YX'
  clear YX'
  have YY' := Lib.hid (blk_kept YY.out hk (fun h => by have h1 := h.1; have h2 := h.2; omega))
  clear YY
  have YY := YY'
  clear YY'
  have YG' := Lib.hid (blk_kept YG.out hk (fun h => by have h1 := h.1; have h2 := h.2; omega))
  clear YG
  have YG := YG'
  clear YG'
  have oG' := Lib.hid ho
  clear oG
  have oG := oG'
  clear oG' ho hb hk X17 F17 HB17
  clear xa xb xc fa fb fc fd
  clear wya wyb wyc
  clear xya xyb xyc
  clear yya yyb yyc yyd
  clear gya gyb gyc
  have xa := (blk_cell X18.out 0).trans rfl
  have xb := (blk_cell X18.out 1).trans rfl
  have xc := (blk_cell X18.out 2).trans rfl
  have fa := (blk_cell F18.out 0).trans rfl
  have fb := (blk_cell F18.out 1).trans rfl
  have fc := (blk_cell F18.out 2).trans rfl
  have fd := (blk_cell F18.out 3).trans rfl
  have wya := (blk_cell YW.out 0).trans rfl
  have wyb := (blk_cell YW.out 1).trans rfl
  have wyc := (blk_cell YW.out 2).trans rfl
  have xya := (blk_cell YX.out 0).trans rfl
  have xyb := (blk_cell YX.out 1).trans rfl
  have xyc := (blk_cell YX.out 2).trans rfl
  have yya := (blk_cell YY.out 0).trans rfl
  have yyb := (blk_cell YY.out 1).trans rfl
  have yyc := (blk_cell YY.out 2).trans rfl
  have yyd := (blk_cell YY.out 3).trans rfl
  have gya := (blk_cell YG.out 0).trans rfl
  have gyb := (blk_cell YG.out 1).trans rfl
  have gyc := (blk_cell YG.out 2).trans rfl
  go_wp2_with (fail)
  refine (held_book_any (addR b a).1 1 oG.out (by omega) (by omega) SR.out).mono ?_
  rintro e w19 ⟨rfl, hb⟩
  have s19 : w18.heap.size ≤ w19.heap.size := hb.size
  have X19 := Lib.hid (blk_below X18.out hb)
  have F19 := Lib.hid (blk_below F18.out hb)
  have HB19 := Lib.hid (below_next HB18.out HB18.out.size hb)
  have oW' := Lib.hid (oW.out.below hb)
  clear oW
  have oW := oW'
  clear oW'
  have oG' := Lib.hid (oG.out.below hb)
  clear oG
  have oG := oG'
  clear oG'
  have YW' := Lib.hid (blk_below YW.out hb)
  clear YW
  have YW := YW'
  clear YW'
  have YX' := Lib.hid (blk_below YX.out hb)
  clear YX
  have YX := YX'
  clear YX'
  have YY' := Lib.hid (blk_below YY.out hb)
  clear YY
  have YY := YY'
  clear YY'
  have YG' := Lib.hid (blk_below YG.out hb)
  clear YG
  have YG := YG'
  clear YG'
  clear X18 F18 HB18
  clear hb
  clear xa xb xc fa fb fc fd
  clear wya wyb wyc
  clear xya xyb xyc
  clear yya yyb yyc yyd
  clear gya gyb gyc
  have xa := (blk_cell X19.out 0).trans rfl
  have xb := (blk_cell X19.out 1).trans rfl
  have xc := (blk_cell X19.out 2).trans rfl
  have fa := (blk_cell F19.out 0).trans rfl
  have fb := (blk_cell F19.out 1).trans rfl
  have fc := (blk_cell F19.out 2).trans rfl
  have fd := (blk_cell F19.out 3).trans rfl
  have wya := (blk_cell YW.out 0).trans rfl
  have wyb := (blk_cell YW.out 1).trans rfl
  have wyc := (blk_cell YW.out 2).trans rfl
  have xya := (blk_cell YX.out 0).trans rfl
  have xyb := (blk_cell YX.out 1).trans rfl
  have xyc := (blk_cell YX.out 2).trans rfl
  have yya := (blk_cell YY.out 0).trans rfl
  have yyb := (blk_cell YY.out 1).trans rfl
  have yyc := (blk_cell YY.out 2).trans rfl
  have yyd := (blk_cell YY.out 3).trans rfl
  have gya := (blk_cell YG.out 0).trans rfl
  have gyb := (blk_cell YG.out 1).trans rfl
  have gyc := (blk_cell YG.out 2).trans rfl
  clear wya wyb wyc
  clear xya xyb xyc
  clear yya yyb yyc yyd
  clear gya gyb gyc
  have KA : Hid (∀ V, Below w19.heap.size w19 V → V.cell? ⟨w.heap.size, 0, none⟩ = some (.slice A0 b.f0.length c0) ∧ V.cell? ⟨w.heap.size, 1, none⟩ = some (.slice A1 b.f1.length c1) ∧ V.cell? ⟨w.heap.size, 2, none⟩ = some (.slice A2 b.f2.length c2) ∧ V.cell? ⟨w.heap.size + 1, 0, none⟩ = some (.string a.f0) ∧ V.cell? ⟨w.heap.size + 1, 1, none⟩ = some (.int .i64 a.f1) ∧ V.cell? ⟨w.heap.size + 1, 2, none⟩ = some (.int .i64 a.f2) ∧ V.cell? ⟨w.heap.size + 1, 3, none⟩ = some (.slice A3 a.f3.length c3)) := fun V h => ⟨pw_cell_below h xa, pw_cell_below h xb, pw_cell_below h xc, pw_cell_below h fa, pw_cell_below h fb, pw_cell_below h fc, pw_cell_below h fd⟩
  clear xa xb xc fa fb fc fd
  go_upto_region 31 with (fail)
  go_cut [15, 16] (fun s6 s7 wx => ∃ (g lo hi : Nat) (AN : Option Addr) (cN : Nat) (BN : Option Addr) (dN : Nat) (CN : Option Addr) (eN : Nat), s6 = .pointer (some ⟨g, 0, none⟩) ∧ s7 = .int .i64 (addR b a).2 ∧ Hid (OwnO wx w.heap.size (iv lo hi) (.slice AN (addR b a).1.f0.length cN) (.slice BN (addR b a).1.f1.length dN) (.slice CN (addR b a).1.f2.length eN) (addR b a).1) ∧ Hid (wx.heap[g]? = some (.cells #[.slice AN (addR b a).1.f0.length cN, .slice BN (addR b a).1.f1.length dN, .slice CN (addR b a).1.f2.length eN] 55 (0, 0))) ∧ Hid (Below w19.heap.size w19 wx) ∧ w19.heap.size ≤ lo ∧ hi ≤ wx.heap.size ∧ w19.heap.size ≤ g ∧ g < wx.heap.size ∧ (g < lo ∨ hi ≤ g))
  case first =>
    refine start_ (n := 11) (S := fun W' => W'.cell? ⟨w.heap.size, 0, none⟩ = some (.slice A0 b.f0.length c0) ∧ W'.cell? ⟨w.heap.size, 1, none⟩ = some (.slice A1 b.f1.length c1) ∧ W'.cell? ⟨w.heap.size, 2, none⟩ = some (.slice A2 b.f2.length c2) ∧ W'.cell? ⟨w.heap.size + 1, 0, none⟩ = some (.string a.f0) ∧ W'.cell? ⟨w.heap.size + 1, 1, none⟩ = some (.int .i64 a.f1) ∧ W'.cell? ⟨w.heap.size + 1, 2, none⟩ = some (.int .i64 a.f2) ∧ W'.cell? ⟨w.heap.size + 1, 3, none⟩ = some (.slice A3 a.f3.length c3)) (ds := [9]) #[false, false, false, false, false, false, false, false, false, false, false] (by kernel_rfl) rfl rfl (KA.out _ (pw_below_drewN (Below.refl _ _) 1)) (fun hHeld => ?_)
    refine take_ (i := 0) (N := some 95) (v := ?_) (a' := ?_) #[true, false, false, false, false, false, false, false, false, false, false] rfl rfl (by kernel_rfl) (fun _ _ _ h => h) (Or.inl ⟨by rfl, ?_⟩) hHeld ?_ ?_
    rotate_left
    · rintro w' ⟨s0, s1, s2, s3, s4, s5, s6⟩
      go_simp
      try with_reducible rfl
    rotate_left
    · (try simp only [Act.put, List.setIfInBounds_toArray, List.set_cons_zero, List.set_cons_succ])
      rfl
    refine take_ (i := 2) (N := some 97) (v := ?_) (a' := ?_) #[true, false, true, false, false, false, false, false, false, false, false] rfl rfl (by kernel_rfl) (fun _ _ _ h => h) (Or.inl ⟨by rfl, ?_⟩) hHeld ?_ ?_
    rotate_left
    · rintro w' ⟨s0, s1, s2, s3, s4, s5, s6⟩
      go_simp
      try with_reducible rfl
    rotate_left
    · (try simp only [Act.put, List.setIfInBounds_toArray, List.set_cons_zero, List.set_cons_succ])
      rfl
    have b0 : Hid (Below w19.heap.size w19 w19.drew) := pw_below_drewN (Below.refl _ _) 1
    generalize w19.drew = V0 at hHeld b0 ⊢
    refine two_ (i := 1) (j := 8) (Ni := some 96) (Nj := some 15) #[true, true, true, false, false, false, false, false, false, false, false] #[true, false, true, false, false, false, false, false, true, false, false] rfl rfl rfl rfl (by kernel_rfl) (by simp) (by simp) (fun K hK => ?_) (fun K hK => ?_)
    · go_simp
      refine (QT.out V0 (below_next HB19.out HB19.out.size b0.out)).mono ?_
      rintro e V1 ⟨v0, v1, v2, rfl, ho, hb⟩
      obtain ⟨AU, cU, BU, dU, CU, eU, rfl, rfl, rfl, _, _, _⟩ := ho.toB.form
      go_simp
      have bb1 := Lib.hid (below_next b0.out b0.out.size hb)
      have sz1 : Hid (V0.heap.size ≤ V1.heap.size) := hb.size
      have hU1 := Lib.hid ho
      clear ho hb
      refine hK.out _ _ (KA.out _ bb1.out) (fun hHeld => ?_)
      clear hK K
      try simp only [Act.put, List.setIfInBounds_toArray, List.set_cons_zero, List.set_cons_succ]
      refine two_ (i := 3) (j := 8) (Ni := some 98) (Nj := some 15) #[true, true, true, true, false, false, false, false, false, false, false] #[true, true, true, false, false, false, false, false, true, false, false] rfl rfl rfl rfl (by kernel_rfl) (by simp) (by simp) (fun K hK => ?_) (fun K hK => ?_)
      · go_simp
        refine (QF.out V1 (below_next HB19.out HB19.out.size bb1.out)).mono ?_
        rintro e V3 ⟨AV, cV, rfl, lV, ho, hb⟩
        go_simp
        have bb3 := Lib.hid (below_next bb1.out bb1.out.size hb)
        have sz3 : Hid (V1.heap.size ≤ V3.heap.size) := hb.size
        have hU3 := Lib.hid (OwnO.below hU1.out hb)
        have hV3 := Lib.hid ho
        have LV := Lib.hid lV
        clear lV
        clear ho hb
        refine hK.out _ _ (KA.out _ bb3.out) (fun hHeld => ?_)
        clear hK K
        try simp only [Act.put, List.setIfInBounds_toArray, List.set_cons_zero, List.set_cons_succ]
        refine two_ (i := 4) (j := 8) (Ni := some 99) (Nj := some 15) #[true, true, true, true, true, false, false, false, false, false, false] #[true, true, true, true, false, false, false, false, true, false, false] rfl rfl rfl rfl (by kernel_rfl) (by simp) (by simp) (fun K hK => ?_) (fun K hK => ?_)
        · go_simp
          refine (impl_flowAdd_any AU cU BU dU CU eU b a AV cV V3 hU3.out.toB.form_C.1 hU3.out.toB.form_C.2.1 hU3.out.toB.form_C.2.2 (Kd.R_reads' hV3.out).2.2 LV.out).mono ?_
          rintro e V5 ⟨v0, v1, v2, rfl, ho, hb⟩
          have ho := ho.toO
          obtain ⟨AN, cN, BN, dN, CN, eN, rfl, rfl, rfl, _, _, _⟩ := ho.toB.form
          go_simp
          have bb5 := Lib.hid (below_next bb3.out bb3.out.size hb)
          have sz5 : Hid (V3.heap.size ≤ V5.heap.size) := hb.size
          have hU5 := Lib.hid (OwnO.below hU3.out hb)
          have hV5 := Lib.hid (Kd.R_below hV3.out hb)
          have hN5 := Lib.hid ho
          clear ho hb
          refine hK.out _ _ (KA.out _ bb5.out) (fun hHeld => ?_)
          clear hK K
          try simp only [Act.put, List.setIfInBounds_toArray, List.set_cons_zero, List.set_cons_succ]
          refine pure_ (i := 5) (N := some 94) (v := ?_) (a' := ?_) #[true, true, true, true, true, true, false, false, false, false, false] rfl rfl (by kernel_rfl) (fun _ _ _ h => h) (Or.inl ⟨by rfl, ?_⟩) ?_ ?_
          rotate_left
          · intro w'
            go_simp
            try with_reducible rfl
          rotate_left
          · (try simp only [Act.put, List.setIfInBounds_toArray, List.set_cons_zero, List.set_cons_succ])
            rfl
          refine pure_ (i := 6) (N := some 100) (v := ?_) (a' := ?_) #[true, true, true, true, true, true, true, false, false, false, false] rfl rfl (by kernel_rfl) (fun _ _ _ h => h) (Or.inl ⟨by rfl, ?_⟩) ?_ ?_
          rotate_left
          · intro w'
            go_simp
            try with_reducible rfl
          rotate_left
          · (try simp only [Act.put, List.setIfInBounds_toArray, List.set_cons_zero, List.set_cons_succ])
            rfl
          refine pure_ (i := 7) (N := some 101) (v := ?_) (a' := ?_) #[true, true, true, true, true, true, true, true, false, false, false] rfl rfl (by kernel_rfl) (fun _ _ _ h => h) (Or.inl ⟨by rfl, ?_⟩) ?_ ?_
          rotate_left
          · intro w'
            go_simp
            try with_reducible rfl
          rotate_left
          · (try simp only [Act.put, List.setIfInBounds_toArray, List.set_cons_zero, List.set_cons_succ])
            rfl
          refine one_ (i := 8) (N := some 15) #[true, true, true, true, true, true, true, true, true, false, false] rfl rfl (by kernel_rfl) (by simp) (fun K hK => ?_)
          go_simp
          refine hK.out _ _ (KA.out _ (below_alloc bb5.out _)) (fun hHeld => ?_)
          clear hK K
          try simp only [Act.put, List.setIfInBounds_toArray, List.set_cons_zero, List.set_cons_succ]
          have bb7 : Hid (Below w19.heap.size w19 (V5.alloc (.cells #[.slice none 0 0, .slice none 0 0, .slice none 0 0] 55))) := below_alloc bb5.out _
          have ha : Below V5.heap.size V5 (V5.alloc (.cells #[.slice none 0 0, .slice none 0 0, .slice none 0 0] 55)) := below_alloc (Below.refl _ _) _
          have hN7 := Lib.hid (OwnO.below hN5.out ha)
          have y7 : Hid ((V5.alloc (.cells #[.slice none 0 0, .slice none 0 0, .slice none 0 0] 55)).heap[V5.heap.size]? = some (.cells #[.slice none 0 0, .slice none 0 0, .slice none 0 0] 55 (0, 0))) := blk_new _ _
          have hs7 : Hid ((V5.alloc (.cells #[.slice none 0 0, .slice none 0 0, .slice none 0 0] 55)).heap.size = V5.heap.size + 1) := (by show _ = _; simp)
          clear ha
          obtain ⟨V7, eV7⟩ : ∃ V, V = V5.alloc (.cells #[.slice none 0 0, .slice none 0 0, .slice none 0 0] 55) := ⟨_, rfl⟩
          rw [← eV7] at bb7 hHeld y7 hs7 hN7 ⊢
          clear eV7
          have pb0 := blk_frozen y7.out 0
          have cb0 := (blk_cell y7.out 0).trans rfl
          have pb1 := blk_frozen y7.out 1
          have cb1 := (blk_cell y7.out 1).trans rfl
          have pb2 := blk_frozen y7.out 2
          have cb2 := (blk_cell y7.out 2).trans rfl
          refine last_ (i := 9) (N := none) #[true, true, true, true, true, true, true, true, true, true, false] rfl rfl (by kernel_rfl) (by simp) (fun K hK => ?_)
          go_simp
          refine hK.out _ _ ?_
          clear hK K
          try simp only [Act.put, List.setIfInBounds_toArray, List.set_cons_zero, List.set_cons_succ]
          refine pure_ (i := 10) (N := some 16) (v := ?_) (a' := ?_) #[true, true, true, true, true, true, true, true, true, true, true] rfl rfl (by kernel_rfl) (fun _ _ _ h => h) (Or.inl ⟨by rfl, ?_⟩) ?_ ?_
          rotate_left
          · intro w'
            go_simp
            try with_reducible rfl
          rotate_left
          · (try simp only [Act.put, List.setIfInBounds_toArray, List.set_cons_zero, List.set_cons_succ])
            rfl
          refine done_ (by kernel_rfl) ?_
          go_wp2_with (fail)
          go_meet
          have := sz1.out
          have := sz3.out
          have := sz5.out
          have := hs7.out
          have := bb7.out.size
          have := b0.out.size
          have := blk_lt y7.out
          have e1 := blk_set y7.out 0 (.slice AN (addR b a).1.f0.length cN)
          have e2 := blk_set e1 1 (.slice BN (addR b a).1.f1.length dN)
          have e3 := blk_set e2 2 (.slice CN (addR b a).1.f2.length eN)
          exact ⟨V5.heap.size, V3.heap.size, V5.heap.size, AN, cN, BN, dN, CN, eN, rfl, rfl, (((OwnO.lower hN7.out (by omega)).far (p := ⟨V5.heap.size, 0, none⟩) (by show V5.heap.size < _ ∨ _ ≤ V5.heap.size; omega) _).far (p := ⟨V5.heap.size, 1, none⟩) (by show V5.heap.size < _ ∨ _ ≤ V5.heap.size; omega) _).far (p := ⟨V5.heap.size, 2, none⟩) (by show V5.heap.size < _ ∨ _ ≤ V5.heap.size; omega) _, e3, ((bb7.out.setCell (p := ⟨V5.heap.size, 0, none⟩) (by show _ ≤ V5.heap.size; omega) _).setCell (p := ⟨V5.heap.size, 1, none⟩) (by show _ ≤ V5.heap.size; omega) _).setCell (p := ⟨V5.heap.size, 2, none⟩) (by show _ ≤ V5.heap.size; omega) _, by omega, by simp <;> omega, by omega, by simp <;> omega, by omega⟩
        · go_simp
          refine hK.out _ _ (KA.out _ (below_alloc bb3.out _)) (fun hHeld => ?_)
          clear hK K
          try simp only [Act.put, List.setIfInBounds_toArray, List.set_cons_zero, List.set_cons_succ]
          have bb6 : Hid (Below w19.heap.size w19 (V3.alloc (.cells #[.slice none 0 0, .slice none 0 0, .slice none 0 0] 55))) := below_alloc bb3.out _
          have ha : Below V3.heap.size V3 (V3.alloc (.cells #[.slice none 0 0, .slice none 0 0, .slice none 0 0] 55)) := below_alloc (Below.refl _ _) _
          have hU6 := Lib.hid (OwnO.below hU3.out ha)
          have hV6 := Lib.hid (Kd.R_below hV3.out ha)
          have y6 : Hid ((V3.alloc (.cells #[.slice none 0 0, .slice none 0 0, .slice none 0 0] 55)).heap[V3.heap.size]? = some (.cells #[.slice none 0 0, .slice none 0 0, .slice none 0 0] 55 (0, 0))) := blk_new _ _
          have hs6 : Hid ((V3.alloc (.cells #[.slice none 0 0, .slice none 0 0, .slice none 0 0] 55)).heap.size = V3.heap.size + 1) := (by show _ = _; simp)
          clear ha
          obtain ⟨V6, eV6⟩ : ∃ V, V = V3.alloc (.cells #[.slice none 0 0, .slice none 0 0, .slice none 0 0] 55) := ⟨_, rfl⟩
          rw [← eV6] at bb6 hHeld y6 hs6 hU6 hV6 ⊢
          clear eV6
          refine one_ (i := 4) (N := some 99) #[true, true, true, true, true, false, false, false, true, false, false] rfl rfl (by kernel_rfl) (by simp) (fun K hK => ?_)
          go_simp
          refine (impl_flowAdd_any AU cU BU dU CU eU b a AV cV V6 hU6.out.toB.form_C.1 hU6.out.toB.form_C.2.1 hU6.out.toB.form_C.2.2 (Kd.R_reads' hV6.out).2.2 LV.out).mono ?_
          rintro e V8 ⟨v0, v1, v2, rfl, ho, hb⟩
          have ho := ho.toO
          obtain ⟨AN, cN, BN, dN, CN, eN, rfl, rfl, rfl, _, _, _⟩ := ho.toB.form
          go_simp
          have bb8 := Lib.hid (below_next bb6.out bb6.out.size hb)
          have sz8 : Hid (V6.heap.size ≤ V8.heap.size) := hb.size
          have hU8 := Lib.hid (OwnO.below hU6.out hb)
          have hV8 := Lib.hid (Kd.R_below hV6.out hb)
          have y8 := Lib.hid (blk_below y6.out hb)
          have hN8 := Lib.hid ho
          clear ho hb
          refine hK.out _ _ (KA.out _ bb8.out) (fun hHeld => ?_)
          clear hK K
          try simp only [Act.put, List.setIfInBounds_toArray, List.set_cons_zero, List.set_cons_succ]
          refine pure_ (i := 5) (N := some 94) (v := ?_) (a' := ?_) #[true, true, true, true, true, true, false, false, true, false, false] rfl rfl (by kernel_rfl) (fun _ _ _ h => h) (Or.inl ⟨by rfl, ?_⟩) ?_ ?_
          rotate_left
          · intro w'
            go_simp
            try with_reducible rfl
          rotate_left
          · (try simp only [Act.put, List.setIfInBounds_toArray, List.set_cons_zero, List.set_cons_succ])
            rfl
          refine pure_ (i := 6) (N := some 100) (v := ?_) (a' := ?_) #[true, true, true, true, true, true, true, false, true, false, false] rfl rfl (by kernel_rfl) (fun _ _ _ h => h) (Or.inl ⟨by rfl, ?_⟩) ?_ ?_
          rotate_left
          · intro w'
            go_simp
            try with_reducible rfl
          rotate_left
          · (try simp only [Act.put, List.setIfInBounds_toArray, List.set_cons_zero, List.set_cons_succ])
            rfl
          refine pure_ (i := 7) (N := some 101) (v := ?_) (a' := ?_) #[true, true, true, true, true, true, true, true, true, false, false] rfl rfl (by kernel_rfl) (fun _ _ _ h => h) (Or.inl ⟨by rfl, ?_⟩) ?_ ?_
          rotate_left
          · intro w'
            go_simp
            try with_reducible rfl
          rotate_left
          · (try simp only [Act.put, List.setIfInBounds_toArray, List.set_cons_zero, List.set_cons_succ])
            rfl
          have pb0 := blk_frozen y8.out 0
          have cb0 := (blk_cell y8.out 0).trans rfl
          have pb1 := blk_frozen y8.out 1
          have cb1 := (blk_cell y8.out 1).trans rfl
          have pb2 := blk_frozen y8.out 2
          have cb2 := (blk_cell y8.out 2).trans rfl
          refine last_ (i := 9) (N := none) #[true, true, true, true, true, true, true, true, true, true, false] rfl rfl (by kernel_rfl) (by simp) (fun K hK => ?_)
          go_simp
          refine hK.out _ _ ?_
          clear hK K
          try simp only [Act.put, List.setIfInBounds_toArray, List.set_cons_zero, List.set_cons_succ]
          refine pure_ (i := 10) (N := some 16) (v := ?_) (a' := ?_) #[true, true, true, true, true, true, true, true, true, true, true] rfl rfl (by kernel_rfl) (fun _ _ _ h => h) (Or.inl ⟨by rfl, ?_⟩) ?_ ?_
          rotate_left
          · intro w'
            go_simp
            try with_reducible rfl
          rotate_left
          · (try simp only [Act.put, List.setIfInBounds_toArray, List.set_cons_zero, List.set_cons_succ])
            rfl
          refine done_ (by kernel_rfl) ?_
          go_wp2_with (fail)
          go_meet
          have := sz1.out
          have := sz3.out
          have := hs6.out
          have := sz8.out
          have := bb8.out.size
          have := b0.out.size
          have := blk_lt y8.out
          have e1 := blk_set y8.out 0 (.slice AN (addR b a).1.f0.length cN)
          have e2 := blk_set e1 1 (.slice BN (addR b a).1.f1.length dN)
          have e3 := blk_set e2 2 (.slice CN (addR b a).1.f2.length eN)
          exact ⟨V3.heap.size, V6.heap.size, V8.heap.size, AN, cN, BN, dN, CN, eN, rfl, rfl, (((OwnO.lower hN8.out (by omega)).far (p := ⟨V3.heap.size, 0, none⟩) (by show V3.heap.size < _ ∨ _ ≤ V3.heap.size; omega) _).far (p := ⟨V3.heap.size, 1, none⟩) (by show V3.heap.size < _ ∨ _ ≤ V3.heap.size; omega) _).far (p := ⟨V3.heap.size, 2, none⟩) (by show V3.heap.size < _ ∨ _ ≤ V3.heap.size; omega) _, e3, ((bb8.out.setCell (p := ⟨V3.heap.size, 0, none⟩) (by show _ ≤ V3.heap.size; omega) _).setCell (p := ⟨V3.heap.size, 1, none⟩) (by show _ ≤ V3.heap.size; omega) _).setCell (p := ⟨V3.heap.size, 2, none⟩) (by show _ ≤ V3.heap.size; omega) _, by omega, by simp <;> omega, by omega, by simp <;> omega, by omega⟩
      · go_simp
        refine hK.out _ _ (KA.out _ (below_alloc bb1.out _)) (fun hHeld => ?_)
        clear hK K
        try simp only [Act.put, List.setIfInBounds_toArray, List.set_cons_zero, List.set_cons_succ]
        have bb4 : Hid (Below w19.heap.size w19 (V1.alloc (.cells #[.slice none 0 0, .slice none 0 0, .slice none 0 0] 55))) := below_alloc bb1.out _
        have ha : Below V1.heap.size V1 (V1.alloc (.cells #[.slice none 0 0, .slice none 0 0, .slice none 0 0] 55)) := below_alloc (Below.refl _ _) _
        have hU4 := Lib.hid (OwnO.below hU1.out ha)
        have y4 : Hid ((V1.alloc (.cells #[.slice none 0 0, .slice none 0 0, .slice none 0 0] 55)).heap[V1.heap.size]? = some (.cells #[.slice none 0 0, .slice none 0 0, .slice none 0 0] 55 (0, 0))) := blk_new _ _
        have hs4 : Hid ((V1.alloc (.cells #[.slice none 0 0, .slice none 0 0, .slice none 0 0] 55)).heap.size = V1.heap.size + 1) := (by show _ = _; simp)
        clear ha
        obtain ⟨V4, eV4⟩ : ∃ V, V = V1.alloc (.cells #[.slice none 0 0, .slice none 0 0, .slice none 0 0] 55) := ⟨_, rfl⟩
        rw [← eV4] at bb4 hHeld y4 hs4 hU4 ⊢
        clear eV4
        refine one_ (i := 3) (N := some 98) #[true, true, true, true, false, false, false, false, true, false, false] rfl rfl (by kernel_rfl) (by simp) (fun K hK => ?_)
        go_simp
        refine (QF.out V4 (below_next HB19.out HB19.out.size bb4.out)).mono ?_
        rintro e V9 ⟨AV, cV, rfl, lV, ho, hb⟩
        go_simp
        have bb9 := Lib.hid (below_next bb4.out bb4.out.size hb)
        have sz9 : Hid (V4.heap.size ≤ V9.heap.size) := hb.size
        have hU9 := Lib.hid (OwnO.below hU4.out hb)
        have y9 := Lib.hid (blk_below y4.out hb)
        have hV9 := Lib.hid ho
        have LV := Lib.hid lV
        clear lV
        clear ho hb
        refine hK.out _ _ (KA.out _ bb9.out) (fun hHeld => ?_)
        clear hK K
        try simp only [Act.put, List.setIfInBounds_toArray, List.set_cons_zero, List.set_cons_succ]
        refine one_ (i := 4) (N := some 99) #[true, true, true, true, true, false, false, false, true, false, false] rfl rfl (by kernel_rfl) (by simp) (fun K hK => ?_)
        go_simp
        refine (impl_flowAdd_any AU cU BU dU CU eU b a AV cV V9 hU9.out.toB.form_C.1 hU9.out.toB.form_C.2.1 hU9.out.toB.form_C.2.2 (Kd.R_reads' hV9.out).2.2 LV.out).mono ?_
        rintro e V10 ⟨v0, v1, v2, rfl, ho, hb⟩
        have ho := ho.toO
        obtain ⟨AN, cN, BN, dN, CN, eN, rfl, rfl, rfl, _, _, _⟩ := ho.toB.form
        go_simp
        have bb10 := Lib.hid (below_next bb9.out bb9.out.size hb)
        have sz10 : Hid (V9.heap.size ≤ V10.heap.size) := hb.size
        have hU10 := Lib.hid (OwnO.below hU9.out hb)
        have hV10 := Lib.hid (Kd.R_below hV9.out hb)
        have y10 := Lib.hid (blk_below y9.out hb)
        have hN10 := Lib.hid ho
        clear ho hb
        refine hK.out _ _ (KA.out _ bb10.out) (fun hHeld => ?_)
        clear hK K
        try simp only [Act.put, List.setIfInBounds_toArray, List.set_cons_zero, List.set_cons_succ]
        refine pure_ (i := 5) (N := some 94) (v := ?_) (a' := ?_) #[true, true, true, true, true, true, false, false, true, false, false] rfl rfl (by kernel_rfl) (fun _ _ _ h => h) (Or.inl ⟨by rfl, ?_⟩) ?_ ?_
        rotate_left
        · intro w'
          go_simp
          try with_reducible rfl
        rotate_left
        · (try simp only [Act.put, List.setIfInBounds_toArray, List.set_cons_zero, List.set_cons_succ])
          rfl
        refine pure_ (i := 6) (N := some 100) (v := ?_) (a' := ?_) #[true, true, true, true, true, true, true, false, true, false, false] rfl rfl (by kernel_rfl) (fun _ _ _ h => h) (Or.inl ⟨by rfl, ?_⟩) ?_ ?_
        rotate_left
        · intro w'
          go_simp
          try with_reducible rfl
        rotate_left
        · (try simp only [Act.put, List.setIfInBounds_toArray, List.set_cons_zero, List.set_cons_succ])
          rfl
        refine pure_ (i := 7) (N := some 101) (v := ?_) (a' := ?_) #[true, true, true, true, true, true, true, true, true, false, false] rfl rfl (by kernel_rfl) (fun _ _ _ h => h) (Or.inl ⟨by rfl, ?_⟩) ?_ ?_
        rotate_left
        · intro w'
          go_simp
          try with_reducible rfl
        rotate_left
        · (try simp only [Act.put, List.setIfInBounds_toArray, List.set_cons_zero, List.set_cons_succ])
          rfl
        have pb0 := blk_frozen y10.out 0
        have cb0 := (blk_cell y10.out 0).trans rfl
        have pb1 := blk_frozen y10.out 1
        have cb1 := (blk_cell y10.out 1).trans rfl
        have pb2 := blk_frozen y10.out 2
        have cb2 := (blk_cell y10.out 2).trans rfl
        refine last_ (i := 9) (N := none) #[true, true, true, true, true, true, true, true, true, true, false] rfl rfl (by kernel_rfl) (by simp) (fun K hK => ?_)
        go_simp
        refine hK.out _ _ ?_
        clear hK K
        try simp only [Act.put, List.setIfInBounds_toArray, List.set_cons_zero, List.set_cons_succ]
        refine pure_ (i := 10) (N := some 16) (v := ?_) (a' := ?_) #[true, true, true, true, true, true, true, true, true, true, true] rfl rfl (by kernel_rfl) (fun _ _ _ h => h) (Or.inl ⟨by rfl, ?_⟩) ?_ ?_
        rotate_left
        · intro w'
          go_simp
          try with_reducible rfl
        rotate_left
        · (try simp only [Act.put, List.setIfInBounds_toArray, List.set_cons_zero, List.set_cons_succ])
          rfl
        refine done_ (by kernel_rfl) ?_
        go_wp2_with (fail)
        go_meet
        have := sz1.out
        have := hs4.out
        have := sz9.out
        have := sz10.out
        have := bb10.out.size
        have := b0.out.size
        have := blk_lt y10.out
        have e1 := blk_set y10.out 0 (.slice AN (addR b a).1.f0.length cN)
        have e2 := blk_set e1 1 (.slice BN (addR b a).1.f1.length dN)
        have e3 := blk_set e2 2 (.slice CN (addR b a).1.f2.length eN)
        exact ⟨V1.heap.size, V9.heap.size, V10.heap.size, AN, cN, BN, dN, CN, eN, rfl, rfl, (((OwnO.lower hN10.out (by omega)).far (p := ⟨V1.heap.size, 0, none⟩) (by show V1.heap.size < _ ∨ _ ≤ V1.heap.size; omega) _).far (p := ⟨V1.heap.size, 1, none⟩) (by show V1.heap.size < _ ∨ _ ≤ V1.heap.size; omega) _).far (p := ⟨V1.heap.size, 2, none⟩) (by show V1.heap.size < _ ∨ _ ≤ V1.heap.size; omega) _, e3, ((bb10.out.setCell (p := ⟨V1.heap.size, 0, none⟩) (by show _ ≤ V1.heap.size; omega) _).setCell (p := ⟨V1.heap.size, 1, none⟩) (by show _ ≤ V1.heap.size; omega) _).setCell (p := ⟨V1.heap.size, 2, none⟩) (by show _ ≤ V1.heap.size; omega) _, by omega, by simp <;> omega, by omega, by simp <;> omega, by omega⟩
    · go_simp
      refine hK.out _ _ (KA.out _ (below_alloc b0.out _)) (fun hHeld => ?_)
      clear hK K
      try simp only [Act.put, List.setIfInBounds_toArray, List.set_cons_zero, List.set_cons_succ]
      have bb2 : Hid (Below w19.heap.size w19 (V0.alloc (.cells #[.slice none 0 0, .slice none 0 0, .slice none 0 0] 55))) := below_alloc b0.out _
      have ha : Below V0.heap.size V0 (V0.alloc (.cells #[.slice none 0 0, .slice none 0 0, .slice none 0 0] 55)) := below_alloc (Below.refl _ _) _
      have y2 : Hid ((V0.alloc (.cells #[.slice none 0 0, .slice none 0 0, .slice none 0 0] 55)).heap[V0.heap.size]? = some (.cells #[.slice none 0 0, .slice none 0 0, .slice none 0 0] 55 (0, 0))) := blk_new _ _
      have hs2 : Hid ((V0.alloc (.cells #[.slice none 0 0, .slice none 0 0, .slice none 0 0] 55)).heap.size = V0.heap.size + 1) := (by show _ = _; simp)
      clear ha
      obtain ⟨V2, eV2⟩ : ∃ V, V = V0.alloc (.cells #[.slice none 0 0, .slice none 0 0, .slice none 0 0] 55) := ⟨_, rfl⟩
      rw [← eV2] at bb2 hHeld y2 hs2 ⊢
      clear eV2
      refine one_ (i := 1) (N := some 96) #[true, true, true, false, false, false, false, false, true, false, false] rfl rfl (by kernel_rfl) (by simp) (fun K hK => ?_)
      go_simp
      refine (QT.out V2 (below_next HB19.out HB19.out.size bb2.out)).mono ?_
      rintro e V11 ⟨v0, v1, v2, rfl, ho, hb⟩
      obtain ⟨AU, cU, BU, dU, CU, eU, rfl, rfl, rfl, _, _, _⟩ := ho.toB.form
      go_simp
      have bb11 := Lib.hid (below_next bb2.out bb2.out.size hb)
      have sz11 : Hid (V2.heap.size ≤ V11.heap.size) := hb.size
      have y11 := Lib.hid (blk_below y2.out hb)
      have hU11 := Lib.hid ho
      clear ho hb
      refine hK.out _ _ (KA.out _ bb11.out) (fun hHeld => ?_)
      clear hK K
      try simp only [Act.put, List.setIfInBounds_toArray, List.set_cons_zero, List.set_cons_succ]
      refine one_ (i := 3) (N := some 98) #[true, true, true, true, false, false, false, false, true, false, false] rfl rfl (by kernel_rfl) (by simp) (fun K hK => ?_)
      go_simp
      refine (QF.out V11 (below_next HB19.out HB19.out.size bb11.out)).mono ?_
      rintro e V12 ⟨AV, cV, rfl, lV, ho, hb⟩
      go_simp
      have bb12 := Lib.hid (below_next bb11.out bb11.out.size hb)
      have sz12 : Hid (V11.heap.size ≤ V12.heap.size) := hb.size
      have hU12 := Lib.hid (OwnO.below hU11.out hb)
      have y12 := Lib.hid (blk_below y11.out hb)
      have hV12 := Lib.hid ho
      have LV := Lib.hid lV
      clear lV
      clear ho hb
      refine hK.out _ _ (KA.out _ bb12.out) (fun hHeld => ?_)
      clear hK K
      try simp only [Act.put, List.setIfInBounds_toArray, List.set_cons_zero, List.set_cons_succ]
      refine one_ (i := 4) (N := some 99) #[true, true, true, true, true, false, false, false, true, false, false] rfl rfl (by kernel_rfl) (by simp) (fun K hK => ?_)
      go_simp
      refine (impl_flowAdd_any AU cU BU dU CU eU b a AV cV V12 hU12.out.toB.form_C.1 hU12.out.toB.form_C.2.1 hU12.out.toB.form_C.2.2 (Kd.R_reads' hV12.out).2.2 LV.out).mono ?_
      rintro e V13 ⟨v0, v1, v2, rfl, ho, hb⟩
      have ho := ho.toO
      obtain ⟨AN, cN, BN, dN, CN, eN, rfl, rfl, rfl, _, _, _⟩ := ho.toB.form
      go_simp
      have bb13 := Lib.hid (below_next bb12.out bb12.out.size hb)
      have sz13 : Hid (V12.heap.size ≤ V13.heap.size) := hb.size
      have hU13 := Lib.hid (OwnO.below hU12.out hb)
      have hV13 := Lib.hid (Kd.R_below hV12.out hb)
      have y13 := Lib.hid (blk_below y12.out hb)
      have hN13 := Lib.hid ho
      clear ho hb
      refine hK.out _ _ (KA.out _ bb13.out) (fun hHeld => ?_)
      clear hK K
      try simp only [Act.put, List.setIfInBounds_toArray, List.set_cons_zero, List.set_cons_succ]
      refine pure_ (i := 5) (N := some 94) (v := ?_) (a' := ?_) #[true, true, true, true, true, true, false, false, true, false, false] rfl rfl (by kernel_rfl) (fun _ _ _ h => h) (Or.inl ⟨by rfl, ?_⟩) ?_ ?_
      rotate_left
      · intro w'
        go_simp
        try with_reducible rfl
      rotate_left
      · (try simp only [Act.put, List.setIfInBounds_toArray, List.set_cons_zero, List.set_cons_succ])
        rfl
      refine pure_ (i := 6) (N := some 100) (v := ?_) (a' := ?_) #[true, true, true, true, true, true, true, false, true, false, false] rfl rfl (by kernel_rfl) (fun _ _ _ h => h) (Or.inl ⟨by rfl, ?_⟩) ?_ ?_
      rotate_left
      · intro w'
        go_simp
        try with_reducible rfl
      rotate_left
      · (try simp only [Act.put, List.setIfInBounds_toArray, List.set_cons_zero, List.set_cons_succ])
        rfl
      refine pure_ (i := 7) (N := some 101) (v := ?_) (a' := ?_) #[true, true, true, true, true, true, true, true, true, false, false] rfl rfl (by kernel_rfl) (fun _ _ _ h => h) (Or.inl ⟨by rfl, ?_⟩) ?_ ?_
      rotate_left
      · intro w'
        go_simp
        try with_reducible rfl
      rotate_left
      · (try simp only [Act.put, List.setIfInBounds_toArray, List.set_cons_zero, List.set_cons_succ])
        rfl
      have pb0 := blk_frozen y13.out 0
      have cb0 := (blk_cell y13.out 0).trans rfl
      have pb1 := blk_frozen y13.out 1
      have cb1 := (blk_cell y13.out 1).trans rfl
      have pb2 := blk_frozen y13.out 2
      have cb2 := (blk_cell y13.out 2).trans rfl
      refine last_ (i := 9) (N := none) #[true, true, true, true, true, true, true, true, true, true, false] rfl rfl (by kernel_rfl) (by simp) (fun K hK => ?_)
      go_simp
      refine hK.out _ _ ?_
      clear hK K
      try simp only [Act.put, List.setIfInBounds_toArray, List.set_cons_zero, List.set_cons_succ]
      refine pure_ (i := 10) (N := some 16) (v := ?_) (a' := ?_) #[true, true, true, true, true, true, true, true, true, true, true] rfl rfl (by kernel_rfl) (fun _ _ _ h => h) (Or.inl ⟨by rfl, ?_⟩) ?_ ?_
      rotate_left
      · intro w'
        go_simp
        try with_reducible rfl
      rotate_left
      · (try simp only [Act.put, List.setIfInBounds_toArray, List.set_cons_zero, List.set_cons_succ])
        rfl
      refine done_ (by kernel_rfl) ?_
      go_wp2_with (fail)
      go_meet
      have := hs2.out
      have := sz11.out
      have := sz12.out
      have := sz13.out
      have := bb13.out.size
      have := b0.out.size
      have := blk_lt y13.out
      have e1 := blk_set y13.out 0 (.slice AN (addR b a).1.f0.length cN)
      have e2 := blk_set e1 1 (.slice BN (addR b a).1.f1.length dN)
      have e3 := blk_set e2 2 (.slice CN (addR b a).1.f2.length eN)
      exact ⟨V0.heap.size, V12.heap.size, V13.heap.size, AN, cN, BN, dN, CN, eN, rfl, rfl, (((OwnO.lower hN13.out (by omega)).far (p := ⟨V0.heap.size, 0, none⟩) (by show V0.heap.size < _ ∨ _ ≤ V0.heap.size; omega) _).far (p := ⟨V0.heap.size, 1, none⟩) (by show V0.heap.size < _ ∨ _ ≤ V0.heap.size; omega) _).far (p := ⟨V0.heap.size, 2, none⟩) (by show V0.heap.size < _ ∨ _ ≤ V0.heap.size; omega) _, e3, ((bb13.out.setCell (p := ⟨V0.heap.size, 0, none⟩) (by show _ ≤ V0.heap.size; omega) _).setCell (p := ⟨V0.heap.size, 1, none⟩) (by show _ ≤ V0.heap.size; omega) _).setCell (p := ⟨V0.heap.size, 2, none⟩) (by show _ ≤ V0.heap.size; omega) _, by omega, by simp <;> omega, by omega, by simp <;> omega, by omega⟩
  case rest =>
  obtain ⟨gH, loH, hiH, AH, cH, BH, dH, CH, eH, rfl, rfl, oH_, YH_, hb_, t1H, t2H, t3H, t4H, t5H⟩ := hcut
  obtain ⟨w20, hw20⟩ : ∃ V, V = wc := ⟨_, rfl⟩
  subst hw20
  have hb := hb_.out
  have s20 : w19.heap.size ≤ w20.heap.size := hb.size
  clear hb_ KA
  have X20 := Lib.hid (blk_below X19.out hb)
  have F20 := Lib.hid (blk_below F19.out hb)
  have HB20 := Lib.hid (below_next HB19.out HB19.out.size hb)
  have oW' := Lib.hid (oW.out.below hb)
  clear oW
  have oW := oW'
  clear oW'
  have oG' := Lib.hid (oG.out.below hb)
  clear oG
  have oG := oG'
  clear oG'
  have YW' := Lib.hid (blk_below YW.out hb)
  clear YW
  have YW := YW'
  clear YW'
  have YX' := Lib.hid (blk_below YX.out hb)
  clear YX
  have YX := YX'
  clear YX'
  have YY' := Lib.hid (blk_below YY.out hb)
  clear YY
  have YY := YY'
  clear YY'
  have YG' := Lib.hid (blk_below YG.out hb)
  clear YG
  have YG := YG'
  clear YG'
  clear X19 F19 HB19
  clear hb
  have oH := oH_
  have YH := YH_
  clear oH_ YH_
  have xa := (blk_cell X20.out 0).trans rfl
  have xb := (blk_cell X20.out 1).trans rfl
  have xc := (blk_cell X20.out 2).trans rfl
  have fa := (blk_cell F20.out 0).trans rfl
  have fb := (blk_cell F20.out 1).trans rfl
  have fc := (blk_cell F20.out 2).trans rfl
  have fd := (blk_cell F20.out 3).trans rfl
  have wya := (blk_cell YW.out 0).trans rfl
  have wyb := (blk_cell YW.out 1).trans rfl
  have wyc := (blk_cell YW.out 2).trans rfl
  have xya := (blk_cell YX.out 0).trans rfl
  have xyb := (blk_cell YX.out 1).trans rfl
  have xyc := (blk_cell YX.out 2).trans rfl
  have yya := (blk_cell YY.out 0).trans rfl
  have yyb := (blk_cell YY.out 1).trans rfl
  have yyc := (blk_cell YY.out 2).trans rfl
  have yyd := (blk_cell YY.out 3).trans rfl
  have gya := (blk_cell YG.out 0).trans rfl
  have gyb := (blk_cell YG.out 1).trans rfl
  have gyc := (blk_cell YG.out 2).trans rfl
  have hya := (blk_cell YH.out 0).trans rfl
  have hyb := (blk_cell YH.out 1).trans rfl
  have hyc := (blk_cell YH.out 2).trans rfl
  go_wp2_with (fail)
  refine (eq_books_any oH.out oW.out).mono ?_
  rintro e w21 ⟨rfl, hb⟩
  have s21 : w20.heap.size ≤ w21.heap.size := hb.size
  have X21 := Lib.hid (blk_below X20.out hb)
  have F21 := Lib.hid (blk_below F20.out hb)
  have HB21 := Lib.hid (below_next HB20.out HB20.out.size hb)
  have oW' := Lib.hid (oW.out.below hb)
  clear oW
  have oW := oW'
  clear oW'
  have oG' := Lib.hid (oG.out.below hb)
  clear oG
  have oG := oG'
  clear oG'
  have oH' := Lib.hid (oH.out.below hb)
  clear oH
  have oH := oH'
  clear oH'
  have YW' := Lib.hid (blk_below YW.out hb)
  clear YW
  have YW := YW'
  clear YW'
  have YX' := Lib.hid (blk_below YX.out hb)
  clear YX
  have YX := YX'
  clear YX'
  have YY' := Lib.hid (blk_below YY.out hb)
  clear YY
  have YY := YY'
  clear YY'
  have YG' := Lib.hid (blk_below YG.out hb)
  clear YG
  have YG := YG'
  clear YG'
  have YH' := Lib.hid (blk_below YH.out hb)
  clear YH
  have YH := YH'
  clear YH'
  clear X20 F20 HB20
  clear hb
  clear xa xb xc fa fb fc fd
  clear wya wyb wyc
  clear xya xyb xyc
  clear yya yyb yyc yyd
  clear gya gyb gyc
  clear hya hyb hyc
  have xa := (blk_cell X21.out 0).trans rfl
  have xb := (blk_cell X21.out 1).trans rfl
  have xc := (blk_cell X21.out 2).trans rfl
  have fa := (blk_cell F21.out 0).trans rfl
  have fb := (blk_cell F21.out 1).trans rfl
  have fc := (blk_cell F21.out 2).trans rfl
  have fd := (blk_cell F21.out 3).trans rfl
  have wya := (blk_cell YW.out 0).trans rfl
  have wyb := (blk_cell YW.out 1).trans rfl
  have wyc := (blk_cell YW.out 2).trans rfl
  have xya := (blk_cell YX.out 0).trans rfl
  have xyb := (blk_cell YX.out 1).trans rfl
  have xyc := (blk_cell YX.out 2).trans rfl
  have yya := (blk_cell YY.out 0).trans rfl
  have yyb := (blk_cell YY.out 1).trans rfl
  have yyc := (blk_cell YY.out 2).trans rfl
  have yyd := (blk_cell YY.out 3).trans rfl
  have gya := (blk_cell YG.out 0).trans rfl
  have gyb := (blk_cell YG.out 1).trans rfl
  have gyc := (blk_cell YG.out 2).trans rfl
  have hya := (blk_cell YH.out 0).trans rfl
  have hyb := (blk_cell YH.out 1).trans rfl
  have hyc := (blk_cell YH.out 2).trans rfl
  go_wp2_with (fail)
  refine (held_book_any (addR b a).1 1 oG.out (by omega) (by omega) SR.out).mono ?_
  rintro e w22 ⟨rfl, hb⟩
  have s22 : w21.heap.size ≤ w22.heap.size := hb.size
  have X22 := Lib.hid (blk_below X21.out hb)
  have F22 := Lib.hid (blk_below F21.out hb)
  have HB22 := Lib.hid (below_next HB21.out HB21.out.size hb)
  have oW' := Lib.hid (oW.out.below hb)
  clear oW
  have oW := oW'
  clear oW'
  have oG' := Lib.hid (oG.out.below hb)
  clear oG
  have oG := oG'
  clear oG'
  have oH' := Lib.hid (oH.out.below hb)
  clear oH
  have oH := oH'
  clear oH'
  have YW' := Lib.hid (blk_below YW.out hb)
  clear YW
  have YW := YW'
  clear YW'
  have YX' := Lib.hid (blk_below YX.out hb)
  clear YX
  have YX := YX'
  clear YX'
  have YY' := Lib.hid (blk_below YY.out hb)
  clear YY
  have YY := YY'
  clear YY'
  have YG' := Lib.hid (blk_below YG.out hb)
  clear YG
  have YG := YG'
  clear YG'
  have YH' := Lib.hid (blk_below YH.out hb)
  clear YH
  have YH := YH'
  clear YH'
  clear X21 F21 HB21
  clear hb
  clear xa xb xc fa fb fc fd
  clear wya wyb wyc
  clear xya xyb xyc
  clear yya yyb yyc yyd
  clear gya gyb gyc
  clear hya hyb hyc
  go_wp2
  go_ret
  exact ⟨rfl, HB22.out⟩
theorem walk_add_rows (A0 : Option Addr) (c0 : Nat) (l0 : List Cap) (A1 : Option Addr) (c1 : Nat) (l1 : List Flight) (A2 : Option Addr) (c2 : Nat) (l2 : List Int) (f0 : ByteArray) (f1 f2 : Int) (A3 : Option Addr) (c3 : Nat) (l3 : List Visit) (w : World)
    (hr0 : Kd.C k106 w A0 l0.length l0) (hc0 : l0.length ≤ c0) (hg0 : ∀ x ∈ l0, smallC x) (hr1 : Kd.C k51 w A1 l1.length l1) (hc1 : l1.length ≤ c1) (hg1 : ∀ x ∈ l1, smallF x) (hr2 : Kd.C (Kd.int .i64) w A2 l2.length l2) (hc2 : l2.length ≤ c2) (hg2 : ∀ y ∈ l2, (Lit.int .i64 y).wf = true)
    (hs3 : f0.size ≤ maxS) (hr3 : Kd.C k162 w A3 l3.length l3) (hc3 : l3.length ≤ c3) (hg3 : ∀ y ∈ l3, smallV y) :
    Calls Try.prog 6 #[.agg #[.slice A0 l0.length c0, .slice A1 l1.length c1, .slice A2 l2.length c2], .agg #[.string f0, .int .i64 f1, .int .i64 f2, .slice A3 l3.length c3]] w fun e w' => e = .returned (.bool true) ∧ Below w.heap.size w w' :=
  walk_add A0 c0 A1 c1 A2 c2 ⟨l0, l1, l2⟩ ⟨f0, f1, f2, l3⟩ A3 c3 w hr0 hc0 hg0 hr1 hc1 hg1 hr2 hc2 hg2 hs3 hr3 hc3 hg3
end Go.Proofs.Ytkfoeplefajkcaa.Q
end
section
namespace Go.Proofs.Ytkfoeplefajkcaa.fnExactFlowAdd
open Go.ChangeShapes Go.WideShapes Go.ChangeAt Go.RowKit
open Go.ChangeMaps (open_string shut_string)
set_option linter.unusedVariables false
theorem own : ownKnob Try.prog.godebug = none := by kernel_rfl
theorem laidOut : laidOutB Try.prog = true := by kernel_rfl
set_option maxRecDepth 100000 in
theorem lifted (os : Os) (started : os.Started) (H : Type) (enc : TypeId × Value → H) :
    ReturnsInHanded {} Try.checked os 6 .any (Rows.fnExactFlowAddSpec.pre6 enc Try.prog Try.f6 Rows.fnExactFlowAddRow.domain false) (Rows.fnExactFlowAddSpec.post enc Try.prog Try.f6 false true false false) := by
  refine returnsInHanded_of_change_sized (C := Try.checked) own started (by kernel_rfl) Try.func6
    (ChangeSpec.witness6 (enc := enc) (C := Try.checked) false ⟨#[], #[.agg #[.slice none 0 0, .slice none 0 0, .slice none 0 0], .agg #[.string ByteArray.empty, .int .i64 0, .int .i64 0, .slice none 0 0]], []⟩ 8 (by kernel_rfl) (by kernel_rfl) (by kernel_rfl) (by kernel_rfl)) ?_
  intro W base args ds gs before hval0 hW hcnd hsz0 _
  have hsz : (DataW.weightsEach Try.prog (Try.f6.params.toList ++ Rows.fnExactFlowAddSpec.plain.varTypes Try.prog) (ds ++ gs)).all (· ≤ reachBytes) = true := hsz0
  have hval : ∀ (j : Nat) t v, Try.f6.params[j]? = some t → args[j]? = some v → Value.okWide Try.prog W .any base t v := hval0
  have hW' := hW
  obtain ⟨p, q, hA0, hV, rfl, hfz, hnd⟩ := hW
  have hA : DataW.TrodAll enc Try.prog W 0 (fun _ => true) true Try.f6.params.toList args.toList ds p := hA0
  rw [Try.params6] at hA hval hsz
  obtain ⟨v0, vs0, d0, ds0, p0, q0, hargs, rfl, rfl, h0, r0⟩ := trodAll_cons hA
  obtain ⟨v1, vs1, d1, ds1, p1, q1, rfl, rfl, rfl, h1, r1⟩ := trodAll_cons r0
  obtain ⟨rfl, rfl, rfl⟩ := trodAll_nil r1
  obtain rfl : args = #[v0, v1] := by cases args; simp_all
  obtain ⟨rfl, rfl⟩ := trodVars_none hV
  have k0 := h0
  have lt0 : ∀ x ∈ p0, x.block < W.heap.size := by obtain ⟨m, hm⟩ := k0; exact DataW.trod_lt m _ _ _ hm
  obtain ⟨x0_0, y0_0, l0_0, x1_0, y1_0, l1_0, x2_0, y2_0, l2_0, rfl, hc0_0, hr0_0, hg0_0, hc1_0, hr1_0, hg1_0, hc2_0, hr2_0, hg2_0⟩ := Q.arg_book (hval 0 48 v0 rfl rfl) h0
  have k1 := h1
  have lt1 : ∀ x ∈ p1, x.block < W.heap.size := by obtain ⟨m, hm⟩ := k1; exact DataW.trod_lt m _ _ _ hm
  obtain ⟨f0_1, f1_1, f2_1, a1, cap1, l1, rfl, hs1, hc1, hr1, hg1⟩ := Q.arg_flight (hval 1 51 v1 rfl rfl) h1
  clear hA0 hval0 hsz0 hsz
  refine (Q.walk_add_rows x0_0 y0_0 l0_0 x1_0 y1_0 l1_0 x2_0 y2_0 l2_0 f0_1 f1_1 f2_1 a1 cap1 l1 W hr0_0 hc0_0 hg0_0 hr1_0 hc1_0 hg1_0 hr2_0 hc2_0 hg2_0 hs1 hr1 hc1 hg1).mono fun e W' ⟨he, bel⟩ => ?_
  subst he
  exact ⟨_, rfl, _, _, _, [], _, [], hW', trodAll_mk1 (shut_bool Try.underlying4 _), (trodAll_cons_mk (Below.trod laidOut (by kernel_rfl) (of_decide_eq_true (by kernel_rfl)) k0 bel lt0) (trodAll_cons_mk (Below.trod laidOut (by kernel_rfl) (of_decide_eq_true (by kernel_rfl)) k1 bel lt1) trodAll_mk0)), rfl, bel.frame _, fun h => by cases h⟩
theorem over : Rows.fnExactFlowAddRow.holds Try.pinned (OpenSpec.ofChange Rows.fnExactFlowAddSpec) :=
  OpenClaim.holds_of_wide 6 Try.f6 rfl rfl rfl rfl rfl rfl rfl ⟨rfl, rfl, rfl, rfl, rfl⟩ rfl rfl rfl rfl rfl (by kernel_rfl) Try.func6 (by kernel_rfl)
    (of_decide_eq_true (by kernel_rfl)) (by unfold Func.isWrapper; first | (rw [if_pos (by decide +kernel)]; kernel_rfl) | (rw [if_neg (by decide +kernel)]; exact ⟨rfl, rfl⟩))
    (fun os started H enc _ => lifted os started H enc)
theorem proved : Rows.FnExactFlowAddSaid := over
#print axioms proved
end Go.Proofs.Ytkfoeplefajkcaa.fnExactFlowAdd
end
