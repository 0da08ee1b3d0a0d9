/- The walk of the law FnExactFlowBookOk. -/
import Derived.Test.YteklmkoahhociaaB2
import Derived.Deep.RegionWith
namespace Go.Proofs.Yteklmkoahhociaa.Q
open Go.RowKit Go.Proofs.YteklmkoahhociaaW.PrintWords Go.Proofs.YteklmkoahhociaaW.PrintLast Go.Proofs.YteklmkoahhociaaW.PrintMore Go.Proofs.Yteklmkoahhociaa.Core
set_option linter.unusedVariables false
set_option linter.unusedSimpArgs false

set_option maxRecDepth 100000 in
set_option maxHeartbeats 4000000 in
theorem law_bookOk (A0 : Option Addr) (c0 : Nat) (l0 : List Cap) (A1 : Option Addr) (c1 : Nat) (l1 : List Flight) (A2 : Option Addr) (c2 : Nat) (l2 : List Int) (w : World)
    (hr0 : Kd.C k67 w A0 l0.length l0) (hc0 : l0.length ≤ c0) (hg0 : ∀ x ∈ l0, smallC x) (hr1 : Kd.C k76 w A1 l1.length l1) (hc1 : l1.length ≤ c1) (hg1 : ∀ x ∈ l1, smallF x) (hr2 : Kd.C (Kd.int .i64) w A2 l2.length l2) (hc2 : l2.length ≤ c2) (hg2 : ∀ y ∈ l2, (Lit.int .i64 y).wf = true) :
    Calls Try.prog 11 #[.agg #[.slice A0 l0.length c0, .slice A1 l1.length c1, .slice A2 l2.length c2]] w fun e w' => e = .returned (.bool true) ∧ Below w.heap.size w w' := by
  have hn2 := C_len hr2
  clear hg2
  obtain ⟨W, hW⟩ : ∃ W, W = w.alloc (.cells #[.slice A0 l0.length c0, .slice A1 l1.length c1, .slice A2 l2.length c2] 52) := ⟨_, rfl⟩
  have hba : Below w.heap.size w W := by rw [hW]; exact (Below.refl _ _).alloc (Nat.le_refl _) _
  have g0 : W.cell? ⟨w.heap.size, 0, none⟩ = some (.slice A0 l0.length c0) := by rw [hW]; simp
  have g1 : W.cell? ⟨w.heap.size, 1, none⟩ = some (.slice A1 l1.length c1) := by rw [hW]; simp
  have g2 : W.cell? ⟨w.heap.size, 2, none⟩ = some (.slice A2 l2.length c2) := by rw [hW]; simp
  have G0 := Lib.hid hg0
  have G1 := Lib.hid hg1
  clear hg0 hg1
  have QZ := Lib.hid (sz_book_any A0 c0 l0 A1 c1 l1 A2 c2 l2 1048576 W (Kd.C_below hr0 hba) (Kd.C_below hr1 hba) hn2 (by omega) (by omega) G0.out G1.out)
  by_cases hz : subB 1048576 l0 l1 l2 < 0
  · have HZ := Lib.hid (subB_low _ _ _ _ hz)
    clear hz
    go_enter Try.func11, Try.ntmps11
    go_wp2_with (first | (go_at_call 40; rw [← hW]; refine QZ.out.mono ?_; rintro e w1 ⟨rfl, hb1⟩; rw [HZ.out]) | go_in)
    go_ret
    exact ⟨rfl, below_next hba hba.size hb1⟩
  have hbd := (subB_parts hz).1
  have e1 : decide (subB 1048576 l0 l1 l2 < 0) = false := decide_eq_false hz
  have n0 : wL wC l0 ≤ 1048576 := by omega
  have n1 : wL wF l1 ≤ 1048576 := by omega
  have n2 : l2.length ≤ 1048576 := by omega
  have QT := Lib.hid (fun V (h : Below w.heap.size w V) => toBook_any A0 c0 l0 A1 c1 l1 A2 c2 l2 V (Kd.C_below hr0 h) hc0 (Kd.C_below hr1 h) hc1 (Kd.C_below hr2 h) hc2 n0 n1 n2)
  clear hz hbd n0 n1 n2
  go_enter Try.func11, Try.ntmps11
  go_wp2_with (fail)
  rw [← hW]
  refine QZ.out.mono ?_
  rintro e w1 ⟨rfl, hb1⟩
  have hB1 := below_next hba hba.size hb1
  have g0 := pw_cell_below hb1 g0
  have g1 := pw_cell_below hb1 g1
  have g2 := pw_cell_below hb1 g2
  go_wp2_with (fail)
  refine (QT.out _ hB1).mono ?_
  rintro e w2 ⟨X0, d0, X1, d1, X2, d2, rfl, r0, r1, r2, hb2⟩
  have hB2 := below_next hB1 hB1.size hb2
  have g0 := pw_cell_below hb2 g0
  have g1 := pw_cell_below hb2 g1
  have g2 := pw_cell_below hb2 g2
  go_wp2_with (fail)
  refine (spec_bookOk_any _ _ l0 _ _ l1 _ _ l2 _ r0 r1 r2).mono ?_
  rintro e w3 ⟨rfl, hb3⟩
  have hB3 := below_next hB2 hB2.size hb3
  have g0 := pw_cell_below hb3 g0
  have g1 := pw_cell_below hb3 g1
  have g2 := pw_cell_below hb3 g2
  clear r0 r1 r2
  go_wp2_with (fail)
  refine (QT.out _ hB3).mono ?_
  rintro e w4 ⟨X0, d0, X1, d1, X2, d2, rfl, r0, r1, r2, hb4⟩
  have hB4 := below_next hB3 hB3.size hb4
  have g0 := pw_cell_below hb4 g0
  have g1 := pw_cell_below hb4 g1
  have g2 := pw_cell_below hb4 g2
  obtain ⟨V, hV⟩ : ∃ V, V = w4.alloc (.cells #[.slice X0 l0.length d0, .slice X1 l1.length d1, .slice X2 l2.length d2] 56) := ⟨_, rfl⟩
  have hb5 : Below w4.heap.size w4 V := by rw [hV]; exact (Below.refl _ _).alloc (Nat.le_refl _) _
  have g0 := pw_cell_below hb5 g0
  have g1 := pw_cell_below hb5 g1
  have g2 := pw_cell_below hb5 g2
  have r0 := Kd.C_below r0 hb5
  have r1 := Kd.C_below r1 hb5
  have r2 := Kd.C_below r2 hb5
  have q0 : V.cell? ⟨w4.heap.size, 0, none⟩ = some (.slice X0 l0.length d0) := by rw [hV]; simp
  have q1 : V.cell? ⟨w4.heap.size, 1, none⟩ = some (.slice X1 l1.length d1) := by rw [hV]; simp
  have q2 : V.cell? ⟨w4.heap.size, 2, none⟩ = some (.slice X2 l2.length d2) := by rw [hV]; simp
  have hB5 := below_next hB4 hB4.size hb5
  go_wp2_with (fail)
  rw [← hV]
  refine (impl_bookOk_any _ _ l0 _ _ l1 _ _ l2 _ r0 r1 r2).mono ?_
  rintro e w5 ⟨rfl, hb6⟩
  have hB6 := below_next hB5 hB5.size hb6
  have g0 := pw_cell_below hb6 g0
  have g1 := pw_cell_below hb6 g1
  have g2 := pw_cell_below hb6 g2
  have q0 := pw_cell_below hb6 q0
  have q1 := pw_cell_below hb6 q1
  have q2 := pw_cell_below hb6 q2
  have r0 := Kd.C_below r0 hb6
  have r1 := Kd.C_below r1 hb6
  have r2 := Kd.C_below r2 hb6
  clear hb1 hb2 hb3 hb4 hb5 hb6 hB1 hB2 hB3 hB4 hB5 hba hV hW G0 G1 QZ hr0 hr1 hr2
  go_wp2
  obtain ⟨Y, hY⟩ : ∃ Y, Y = w5.drew := ⟨_, rfl⟩
  have hB7 : Below w.heap.size w Y := by rw [hY]; exact hB6.drew
  have r0 : Kd.C k69 Y X0 l0.length l0 := by rw [hY]; exact Kd.C_below r0 (Below.refl _ _).drew
  have r1 : Kd.C k79 Y X1 l1.length l1 := by rw [hY]; exact Kd.C_below r1 (Below.refl _ _).drew
  have r2 : Kd.C (Kd.int .i64) Y X2 l2.length l2 := by rw [hY]; exact Kd.C_below r2 (Below.refl _ _).drew
  have q0 : Y.cell? ⟨w4.heap.size, 0, none⟩ = some (.slice X0 l0.length d0) := by rw [hY]; exact q0
  have q1 : Y.cell? ⟨w4.heap.size, 1, none⟩ = some (.slice X1 l1.length d1) := by rw [hY]; exact q1
  have q2 : Y.cell? ⟨w4.heap.size, 2, none⟩ = some (.slice X2 l2.length d2) := by rw [hY]; exact q2
  have QT' := Lib.hid (QT.out Y hB7)
  have QE := Lib.hid (fun (V : World) B0 e0 B1 e1 B2 e2 (hb : Below Y.heap.size Y V) (t0 : Kd.C k69 V B0 l0.length l0) (t1 : Kd.C k79 V B1 l1.length l1) (t2 : Kd.C (Kd.int .i64) V B2 l2.length l2) => eq_book_any X0 B0 d0 e0 l0 X1 B1 d1 e1 l1 X2 B2 d2 e2 l2 V (Kd.C_below r0 hb) t0 (Kd.C_below r1 hb) t1 (Kd.C_below r2 hb) t2)
  have P0 := Lib.hid q0
  have P1 := Lib.hid q1
  have P2 := Lib.hid q2
  have HB := Lib.hid hB7
  go_region_with (first
    | (go_at_call 42; rw [← hY]; refine QT'.out.mono ?_; rintro e w6 ⟨Y0, e0, Y1, e1, Y2, e2, rfl, t0, t1, t2, hb7⟩; have p0 := pw_cell_below hb7 P0.out; have p1 := pw_cell_below hb7 P1.out; have p2 := pw_cell_below hb7 P2.out)
    | (go_at_call 44; refine (QE.out _ _ _ _ _ _ _ hb7 t0 t1 t2).mono ?_; rintro e w7 ⟨rfl, hb8⟩))
  all_goals (go_wp2; go_ret; exact ⟨rfl, below_next (below_next HB.out HB.out.size hb7) (below_next HB.out HB.out.size hb7).size hb8⟩)
end Go.Proofs.Yteklmkoahhociaa.Q
