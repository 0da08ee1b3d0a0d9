/- Merged out of this seat's own texts. -/
import Derived.Test.YtkfoeplefajkcaaMgM
import Derived.Test.YtkfoeplefajkcaaMgS
section
namespace Go.Proofs.Ytkfoeplefajkcaa.Q
open Go.RowKit Go.Proofs.YtkfoeplefajkcaaW.PrintWords Go.Proofs.YtkfoeplefajkcaaW.PrintLast Go.Proofs.YtkfoeplefajkcaaW.PrintMore Go.Proofs.Ytkfoeplefajkcaa.Core
set_option linter.unusedVariables false
set_option linter.unusedSimpArgs false
theorem sz_ints_any (A : Option Addr) (c : Nat) (l : List Int) (left : Int) (w : World) (hn : l.length ≤ 9223372036854775807) (h0 : 0 ≤ left) (h1 : left ≤ 1048576) :
    Calls Try.prog 93 #[.slice A l.length c, .int .i64 left] w fun e w' => e = .returned (.int .i64 (subN left l.length)) ∧ Below w.heap.size w w' := by
  by_cases h : left < l.length
  · have e1 : decide (left - (l.length : Int) < 0) = true := decide_eq_true (by omega)
    go_enter Try.func93, Try.ntmps93
    go_wp2
    go_ret
    exact ⟨ret_int (subN_neg h).symm, Below.refl _ _⟩
  · have e1 : decide (left - (l.length : Int) < 0) = false := decide_eq_false (by omega)
    go_enter Try.func93, Try.ntmps93
    go_wp2
    go_ret
    exact ⟨ret_int (subN_pos (by omega)).symm, Below.refl _ _⟩
def subB (left : Int) (l0 : List Cap) (l1 : List Flight) (l2 : List Int) : Int :=
  if left < (wL wC l0 : Int) then -1 else if left - (wL wC l0 : Int) < (wL wF l1 : Int) then -1 else subN (left - (wL wC l0 : Int) - (wL wF l1 : Int)) l2.length
theorem subB_parts {left : Int} {l0 : List Cap} {l1 : List Flight} {l2 : List Int} (h : ¬ subB left l0 l1 l2 < 0) : (wL wC l0 : Int) + (wL wF l1 : Int) + (l2.length : Int) ≤ left ∧ subB left l0 l1 l2 = left - (wL wC l0 : Int) - (wL wF l1 : Int) - (l2.length : Int) := by
  unfold subB subN at h ⊢
  split at h
  · omega
  · split at h
    · omega
    · split at h
      · omega
      · rename_i h1 h2 h3
        rw [if_neg h1, if_neg h2, if_neg h3]
        omega
theorem subB_low (left : Int) (l0 : List Cap) (l1 : List Flight) (l2 : List Int) : subB left l0 l1 l2 < 0 → subB left l0 l1 l2 = -1 := by
  unfold subB subN
  intro h
  split
  · rfl
  · split
    · rfl
    · split
      · rfl
      · rename_i h1 h2 h3
        rw [if_neg h1, if_neg h2, if_neg h3] at h
        omega
set_option maxRecDepth 100000 in
set_option maxHeartbeats 2000000 in
theorem sz_book_any (A0 : Option Addr) (c0 : Nat) (l0 : List Cap) (A1 : Option Addr) (c1 : Nat) (l1 : List Flight) (A2 : Option Addr) (c2 : Nat) (l2 : List Int) (left : Int) (w : World)
    (hr0 : Kd.C k106 w A0 l0.length l0) (hr1 : Kd.C k51 w A1 l1.length l1) (hn2 : l2.length ≤ 9223372036854775807) (h0 : 0 ≤ left) (h1 : left ≤ 1048576) (hs0 : ∀ x ∈ l0, smallC x) (hs1 : ∀ x ∈ l1, smallF x) :
    Calls Try.prog 35 #[.agg #[.slice A0 l0.length c0, .slice A1 l1.length c1, .slice A2 l2.length c2], .int .i64 left] w fun e w' => e = .returned (.int .i64 (subB left l0 l1 l2)) ∧ Below w.heap.size w w' := by
  have hba : Below w.heap.size w (w.alloc (.cells #[.slice A0 l0.length c0, .slice A1 l1.length c1, .slice A2 l2.length c2] 48)) := (Below.refl _ _).alloc (Nat.le_refl _) _
  have S0 := Lib.hid hs0
  have S1 := Lib.hid hs1
  clear hs0 hs1
  by_cases c1' : left < (wL wC l0 : Int)
  · have HN := Lib.hid (subN_neg c1')
    have hB : Hid (subB left l0 l1 l2 = -1) := if_pos c1'
    clear c1'
    go_enter Try.func35, Try.ntmps35
    go_wp2_with (fail)
    refine (sz_caps_any A0 c0 l0 left _ (Kd.C_below hr0 hba) h0 h1 S0.out).mono ?_
    rintro e w1 ⟨rfl, hb1⟩
    rw [HN.out]
    go_wp2
    go_ret
    exact ⟨ret_int hB.out.symm, below_next hba hba.size hb1⟩
  have HP := Lib.hid (subN_pos c1')
  by_cases c2' : left - (wL wC l0 : Int) < (wL wF l1 : Int)
  · have HN := Lib.hid (subN_neg c2')
    have hB : Hid (subB left l0 l1 l2 = -1) := by show _ = _; unfold subB; rw [if_neg c1', if_pos c2']
    clear c2'
    go_enter Try.func35, Try.ntmps35
    go_wp2_with (fail)
    refine (sz_caps_any A0 c0 l0 left _ (Kd.C_below hr0 hba) h0 h1 S0.out).mono ?_
    rintro e w1 ⟨rfl, hb1⟩
    rw [HP.out]
    have g1 := pw_cell_below hb1 (show (w.alloc (.cells #[.slice A0 l0.length c0, .slice A1 l1.length c1, .slice A2 l2.length c2] 48)).cell? ⟨w.heap.size, 1, none⟩ = some (.slice A1 l1.length c1) by simp)
    have hB1 := below_next hba hba.size hb1
    go_wp2_with (fail)
    refine (sz_flights_any A1 c1 l1 (left - (wL wC l0 : Int)) _ (Kd.C_below hr1 hB1) (by omega) (by omega) S1.out).mono ?_
    rintro e w2 ⟨rfl, hb2⟩
    rw [HN.out]
    go_wp2
    go_ret
    exact ⟨ret_int hB.out.symm, below_next hB1 hB1.size hb2⟩
  have HP2 := Lib.hid (subN_pos c2')
  have hB : Hid (subB left l0 l1 l2 = subN (left - (wL wC l0 : Int) - (wL wF l1 : Int)) l2.length) := by show _ = _; unfold subB; rw [if_neg c1', if_neg c2']
  have hk0 : 0 ≤ left - (wL wC l0 : Int) := by omega
  have hk1 : left - (wL wC l0 : Int) ≤ 1048576 := by omega
  have hk2 : 0 ≤ left - (wL wC l0 : Int) - (wL wF l1 : Int) := by omega
  have hk3 : left - (wL wC l0 : Int) - (wL wF l1 : Int) ≤ 1048576 := by omega
  clear c1' c2'
  go_enter Try.func35, Try.ntmps35
  go_wp2_with (fail)
  refine (sz_caps_any A0 c0 l0 left _ (Kd.C_below hr0 hba) h0 h1 S0.out).mono ?_
  rintro e w1 ⟨rfl, hb1⟩
  rw [HP.out]
  have g1 := pw_cell_below hb1 (show (w.alloc (.cells #[.slice A0 l0.length c0, .slice A1 l1.length c1, .slice A2 l2.length c2] 48)).cell? ⟨w.heap.size, 1, none⟩ = some (.slice A1 l1.length c1) by simp)
  have g2 := pw_cell_below hb1 (show (w.alloc (.cells #[.slice A0 l0.length c0, .slice A1 l1.length c1, .slice A2 l2.length c2] 48)).cell? ⟨w.heap.size, 2, none⟩ = some (.slice A2 l2.length c2) by simp)
  have hB1 := below_next hba hba.size hb1
  go_wp2_with (fail)
  refine (sz_flights_any A1 c1 l1 (left - (wL wC l0 : Int)) _ (Kd.C_below hr1 hB1) hk0 hk1 S1.out).mono ?_
  rintro e w2 ⟨rfl, hb2⟩
  rw [HP2.out]
  have g2 := pw_cell_below hb2 g2
  have hB2 := below_next hB1 hB1.size hb2
  go_wp2_with (fail)
  refine (sz_ints_any A2 c2 l2 (left - (wL wC l0 : Int) - (wL wF l1 : Int)) _ hn2 hk2 hk3).mono ?_
  rintro e w3 ⟨rfl, hb3⟩
  have hB3 := Lib.hid (below_next hB2 hB2.size hb3)
  by_cases c3' : left - (wL wC l0 : Int) - (wL wF l1 : Int) < (l2.length : Int)
  · rw [subN_neg c3']
    have HN := Lib.hid (subN_neg c3')
    go_wp2
    go_ret
    exact ⟨ret_int (by rw [hB.out, HN.out]), hB3.out⟩
  · rw [subN_pos c3']
    have HN := Lib.hid (subN_pos c3')
    have e1 : decide (left - (wL wC l0 : Int) - (wL wF l1 : Int) - (l2.length : Int) < 0) = false := decide_eq_false (by omega)
    go_wp2
    go_ret
    exact ⟨ret_int (by rw [hB.out, HN.out]), hB3.out⟩
set_option maxRecDepth 100000 in
set_option maxHeartbeats 2000000 in
theorem eq_book_any (A0 B0 : Option Addr) (c0 d0 : Nat) (l0 : List Cap) (A1 B1 : Option Addr) (c1 d1 : Nat) (l1 : List Flight) (A2 B2 : Option Addr) (c2 d2 : Nat) (l2 : List Int) (w : World)
    (hr0 : Kd.C k99 w A0 l0.length l0) (hq0 : Kd.C k99 w B0 l0.length l0) (hr1 : Kd.C k61 w A1 l1.length l1) (hq1 : Kd.C k61 w B1 l1.length l1)
    (hr2 : Kd.C (Kd.int .i64) w A2 l2.length l2) (hq2 : Kd.C (Kd.int .i64) w B2 l2.length l2) :
    Calls Try.prog 41 #[.agg #[.slice A0 l0.length c0, .slice A1 l1.length c1, .slice A2 l2.length c2], .agg #[.slice B0 l0.length d0, .slice B1 l1.length d1, .slice B2 l2.length d2]] w fun e w' => e = .returned (.bool true) ∧ Below w.heap.size w w' := by
  have hba : Below w.heap.size w ((w.alloc (.cells #[.slice A0 l0.length c0, .slice A1 l1.length c1, .slice A2 l2.length c2] 55)).alloc (.cells #[.slice B0 l0.length d0, .slice B1 l1.length d1, .slice B2 l2.length d2] 55)) :=
    ((Below.refl _ _).alloc (Nat.le_refl _) _).alloc (by simp) _
  obtain ⟨W, hW⟩ : ∃ W, W = ((w.alloc (.cells #[.slice A0 l0.length c0, .slice A1 l1.length c1, .slice A2 l2.length c2] 55)).alloc (.cells #[.slice B0 l0.length d0, .slice B1 l1.length d1, .slice B2 l2.length d2] 55)) := ⟨_, rfl⟩
  have g1 : W.cell? ⟨w.heap.size, 1, none⟩ = some (.slice A1 l1.length c1) := by rw [hW]; exact cell_al (by simp) _
  have g2 : W.cell? ⟨w.heap.size, 2, none⟩ = some (.slice A2 l2.length c2) := by rw [hW]; exact cell_al (by simp) _
  have q1 : W.cell? ⟨w.heap.size + 1, 1, none⟩ = some (.slice B1 l1.length d1) := by rw [hW]; simp
  have q2 : W.cell? ⟨w.heap.size + 1, 2, none⟩ = some (.slice B2 l2.length d2) := by rw [hW]; simp
  rw [← hW] at hba
  go_enter Try.func41, Try.ntmps41
  go_wp2_with (fail)
  rw [← hW]
  refine (eq_caps_any _ _ _ _ l0 _ (Kd.C_below hr0 hba) (Kd.C_below hq0 hba)).mono ?_
  rintro e w1 ⟨rfl, hb1⟩
  have hB1 := below_next hba hba.size hb1
  have g1 := pw_cell_below hb1 g1
  have g2 := pw_cell_below hb1 g2
  have q1 := pw_cell_below hb1 q1
  have q2 := pw_cell_below hb1 q2
  go_wp2_with (fail)
  refine (eq_flights_any _ _ _ _ l1 _ (Kd.C_below hr1 hB1) (Kd.C_below hq1 hB1)).mono ?_
  rintro e w2 ⟨rfl, hb2⟩
  have hB2 := below_next hB1 hB1.size hb2
  have g2 := pw_cell_below hb2 g2
  have q2 := pw_cell_below hb2 q2
  go_wp2_with (fail)
  refine (eq_ints_any _ _ _ _ l2 _ (Kd.C_below hr2 hB2) (Kd.C_below hq2 hB2)).mono ?_
  rintro e w3 ⟨rfl, hb3⟩
  go_wp2
  go_ret
  exact ⟨rfl, below_next hB2 hB2.size hb3⟩
end Go.Proofs.Ytkfoeplefajkcaa.Q
end
section
namespace Go.Proofs.Ytkfoeplefajkcaa.Q
open Go.RowKit Go.Proofs.YtkfoeplefajkcaaW.PrintWords Go.Proofs.YtkfoeplefajkcaaW.PrintLast Go.Proofs.YtkfoeplefajkcaaW.PrintMore Go.Proofs.Ytkfoeplefajkcaa.Core
set_option linter.unusedVariables false
set_option linter.unusedSimpArgs false
theorem impl_bookOk_any (A0 : Option Addr) (c0 : Nat) (l0 : List Cap) (A1 : Option Addr) (c1 : Nat) (l1 : List Flight) (A2 : Option Addr) (c2 : Nat) (l2 : List Int) (w : World)
    (hr0 : Kd.C k99 w A0 l0.length l0) (hr1 : Kd.C k61 w A1 l1.length l1) (hr2 : Kd.C (Kd.int .i64) w A2 l2.length l2) :
    Calls Try.prog 54 #[.agg #[.slice A0 l0.length c0, .slice A1 l1.length c1, .slice A2 l2.length c2]] w fun e w' => e = .returned (.bool (fitsB l0 l1 l2)) ∧ Below w.heap.size w w' := by
  have hba : Below w.heap.size w (w.alloc (.cells #[.slice A0 l0.length c0, .slice A1 l1.length c1, .slice A2 l2.length c2] 55)) := (Below.refl _ _).alloc (Nat.le_refl _) _
  have QF := Lib.hid (impl_fitsAll_any A0 c0 l0 A1 c1 l1 A2 c2 l2 _ (Kd.C_below hr0 hba) (Kd.C_below hr1 hba) (Kd.C_below hr2 hba))
  go_enter Try.func54, Try.ntmps54
  go_wp2_with (first | (go_at_call 61; refine QF.out.mono ?_; rintro e w1 ⟨rfl, hb1⟩) | go_in)
  go_ret
  exact ⟨rfl, below_next hba hba.size hb1⟩
theorem spec_bookOk_any (A0 : Option Addr) (c0 : Nat) (l0 : List Cap) (A1 : Option Addr) (c1 : Nat) (l1 : List Flight) (A2 : Option Addr) (c2 : Nat) (l2 : List Int) (w : World)
    (hr0 : Kd.C k99 w A0 l0.length l0) (hr1 : Kd.C k61 w A1 l1.length l1) (hr2 : Kd.C (Kd.int .i64) w A2 l2.length l2) :
    Calls Try.prog 95 #[.agg #[.slice A0 l0.length c0, .slice A1 l1.length c1, .slice A2 l2.length c2]] w fun e w' => e = .returned (.bool (fitsB l0 l1 l2)) ∧ Below w.heap.size w w' := by
  have hba : Below w.heap.size w (w.alloc (.cells #[.slice A0 l0.length c0, .slice A1 l1.length c1, .slice A2 l2.length c2] 55)) := (Below.refl _ _).alloc (Nat.le_refl _) _
  have QF := Lib.hid (spec_fitsAll_any A0 c0 l0 A1 c1 l1 A2 c2 l2 _ (Kd.C_below hr0 hba) (Kd.C_below hr1 hba) (Kd.C_below hr2 hba))
  go_enter Try.func95, Try.ntmps95
  go_wp2_with (first | (go_at_call 66; refine QF.out.mono ?_; rintro e w1 ⟨rfl, hb1⟩) | go_in)
  go_ret
  exact ⟨rfl, below_next hba hba.size hb1⟩
end Go.Proofs.Ytkfoeplefajkcaa.Q
end
