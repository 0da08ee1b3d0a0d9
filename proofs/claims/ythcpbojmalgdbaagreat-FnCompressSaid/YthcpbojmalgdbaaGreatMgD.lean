/- Merged out of this seat's own texts. -/
import Derived.Test.YthcpbojmalgdbaaGreatMgA
import Derived.Laws.BitsLemmas
import Derived.Deep.RegionHeld3
section
namespace Go.Proofs.YthcpbojmalgdbaaGreat.Q
open Go.RowKit Go.Proofs.YthcpbojmalgdbaaGreatW.PrintWords Go.Proofs.YthcpbojmalgdbaaGreatW.PrintLast Go.Proofs.YthcpbojmalgdbaaGreatW.PrintMore
attribute [local go_sem] max2_int min2_int max_two min_two max_three min_three max_four min_four
set_option linter.unusedVariables false
set_option linter.unusedSimpArgs false
def IsS52 (w0 W : World) (g : Nat) (f0 : List Int) (f1 : Int) : Prop := ∃ A0 c0, W.heap[g]? = some (.cells #[.slice A0 f0.length c0, .int .i64 f1] 52 (0, 0)) ∧ w0.heap.size ≤ g ∧ Kd.C (Kd.int .u8) w0 A0 f0.length f0
theorem IsS52.grown {w0 W : World} {g : Nat} {f0 : List Int} {f1 : Int} {W1 : World} {row : Option Nat} (h : IsS52 w0 W g f0 f1) (hw : W.grownBy W1 row) (hne : some g ≠ row) : IsS52 w0 W1 g f0 f1 := by
  obtain ⟨A0, c0, hb, hg, hr0⟩ := h
  exact ⟨A0, c0, blk_grown hb hw hne, hg, hr0⟩
theorem IsS52.fresh {w0 W : World} {g : Nat} {f0 : List Int} {f1 : Int} (h : IsS52 w0 W g f0 f1) : ∀ k, W.heap.size ≤ k → k ≠ g := by
  obtain ⟨A0, c0, hb, hg, hr0⟩ := h
  exact Kd.freshB hb
theorem IsS52.below {w0 W : World} {g : Nat} {f0 : List Int} {f1 : Int} {W1 : World} (h : IsS52 w0 W g f0 f1) (hw : Below W.heap.size W W1) : IsS52 w0 W1 g f0 f1 := h.grown (grown_of_below hw none) (by simp)
theorem IsS52.alloc {w0 W : World} {g : Nat} {f0 : List Int} {f1 : Int} (h : IsS52 w0 W g f0 f1) (o : Obj) : IsS52 w0 (W.alloc o) g f0 f1 := h.below (below_alloc (Below.refl _ _) o)
theorem IsS52.drewN {w0 W : World} {g : Nat} {f0 : List Int} {f1 : Int} (h : IsS52 w0 W g f0 f1) (m : Nat) : IsS52 w0 (W.drewN m) g f0 f1 := h
theorem IsS52.drew {w0 W : World} {g : Nat} {f0 : List Int} {f1 : Int} (h : IsS52 w0 W g f0 f1) : IsS52 w0 W.drew g f0 f1 := h
theorem IsS52.lt {w0 W : World} {g : Nat} {f0 : List Int} {f1 : Int} (h : IsS52 w0 W g f0 f1) : g < W.heap.size := by
  obtain ⟨A0, c0, hb, hg, hr0⟩ := h
  exact blk_lt hb
theorem IsS52.ge {w0 W : World} {g : Nat} {f0 : List Int} {f1 : Int} (h : IsS52 w0 W g f0 f1) : w0.heap.size ≤ g := by
  obtain ⟨A0, c0, hb, hg, hr0⟩ := h
  exact hg
theorem IsS52.far {w0 W : World} {g : Nat} {f0 : List Int} {f1 : Int} {p : Addr} (h : IsS52 w0 W g f0 f1) (hne : g ≠ p.block) (u : Value) : IsS52 w0 (W.setCell p u) g f0 f1 := by
  obtain ⟨A0, c0, hb, hg, hr0⟩ := h
  exact ⟨A0, c0, blk_far hb hne u, hg, hr0⟩
theorem cellS52_0 {W : World} {g : Nat} {A0 : Option Addr} {c0 : Nat} {f0 : List Int} {f1 : Int} (h : W.heap[g]? = some (.cells #[.slice A0 f0.length c0, .int .i64 f1] 52 (0, 0))) : W.cell? ⟨g, 0, none⟩ = some (.slice A0 f0.length c0) := (blk_cell h 0).trans rfl
theorem cellS52_1 {W : World} {g : Nat} {A0 : Option Addr} {c0 : Nat} {f0 : List Int} {f1 : Int} (h : W.heap[g]? = some (.cells #[.slice A0 f0.length c0, .int .i64 f1] 52 (0, 0))) : W.cell? ⟨g, 1, none⟩ = some (.int .i64 f1) := (blk_cell h 1).trans rfl
theorem IsS52.set_1 {w0 W : World} {g : Nat} {f0 : List Int} {f1 : Int} (h : IsS52 w0 W g f0 f1) (x : Int) : IsS52 w0 (W.setCell ⟨g, 1, none⟩ (.int .i64 x)) g f0 x := by
  obtain ⟨A0, c0, hb, hg, hr0⟩ := h
  exact ⟨A0, c0, by simpa using blk_set hb 1 (.int .i64 x), hg, hr0⟩
def spec_l1Open.f (l0 : List Int) : Option (List Int × Int) := if (l0.length : Int) > 2000 then (if 2000 ≤ (l0.length : Int) then (some (l0.take 2000, 0)) else (none)) else (some (l0, 0))
set_option maxHeartbeats 8000000 in
set_option maxRecDepth 100000 in
theorem spec_l1Open.calls (A0 : Option Addr) (c0 : Nat) (l0 : List Int) (r1 : List Int) (r2 : Int) (w0 w : World) (hB : Below w0.heap.size w0 w) (hr0 : Kd.C (Kd.int .u8) w0 A0 l0.length l0) (hc0 : l0.length ≤ c0) (h : spec_l1Open.f l0 = some (r1, r2)) :
    Calls Tryz.prog 17 #[.slice A0 l0.length c0] w fun e w' => ∃ g_ : Nat, e = .returned (.pointer (some ⟨g_, 0, none⟩)) ∧ IsS52 w0 w' g_ r1 r2 ∧ Below w0.heap.size w0 w' ∧ Below w.heap.size w w' := by
  have hu52 := Tryz.underlying52
  have HR0 := Aside0.mk hr0
  have HC0 := Aside0.mk hc0
  clear hr0 hc0
  have HBW := Aside0.mk (Below.refl w.heap.size w)
  have HW0 := Aside0.mk hB.size
  have HB := Aside0.mk hB
  clear hB
  have H : (if (l0.length : Int) > 2000 then (if 2000 ≤ (l0.length : Int) then (some (l0.take 2000, 0)) else (none)) else (some (l0, 0))) = some (r1, r2) := h
  clear h
  by_cases c2 : (l0.length : Int) > 2000
  · rw [if_pos c2] at H
    have c2b0 : decide (2000 < (l0.length : Int)) = true := decide_eq_true c2
    have c2b1 : decide (2000 < l0.length) = true := decide_eq_true (by omega)
    clear c2
    by_cases c3 : 2000 ≤ (l0.length : Int)
    · rw [if_pos c3] at H
      have c3b0 := eq_true c3
      have c3b1 : decide (2000 ≤ (l0.length : Int)) = true := decide_eq_true c3
      clear c3
      simp only [Option.some.injEq, Prod.mk.injEq] at H
      obtain ⟨rfl, rfl⟩ := H
      obtain ⟨i04, hi04, _, hsz4, _⟩ := info_parts info5
      obtain ⟨hcut4, hA4, hC4⟩ := print_take_of (P := Tryz.prog) (Value.int .u8) 0 22 5 .i64 Tryz.underlying22 hi04 hsz4 A0 c0 l0 2000 (by omega) (of_decide_eq_true (by first | (with_reducible assumption) | assumption)) HC0.out
      have HR101 := Aside0.mk (Kd.C_of_reads (h1 := fun _ => rfl) (hA4 _ (Kd.reads_of_C HR0.out)))
      have HC101 := Aside0.mk hC4
      clear hA4 hC4 hi04 hsz4
      go_enter Tryz.func17, Tryz.ntmps17
      go_wp2_with (first | ((with_reducible refine gate_dst (N := 10) rfl ?_); refine box_event ?hg (N := 10) ?hd (cs := #[.slice A0 (l0.take 2000).length c0, .int .i64 0]) (t := 52) ?hr ?_; (case hd => rfl); (case hg => rfl); (case hr => first | (go_simp; done) | (go_simp; rfl)); intro gb102 hg w5 hbox hb; have n0_ := Aside0.mk (below_step HBW.out hb); have n1_ := Aside0.mk (below_step (by repeat (first | (with_reducible first | exact HB.out | apply below_alloc | apply pw_below_drewN | apply below_drew1) | exact HB.out)) hb); have n2_ := Aside0.mk (hbox); have n3_ := Aside0.mk ((by rw [hg]; exact (below_size (by repeat (first | (with_reducible first | exact HBW.out | apply below_alloc | apply pw_below_drewN | apply below_drew1) | exact HBW.out))) : w.heap.size ≤ gb102)); have n4_ := Aside0.mk ((Nat.le_trans HW0.out (by rw [hg]; exact (below_size (by repeat (first | (with_reducible first | exact HBW.out | apply below_alloc | apply pw_below_drewN | apply below_drew1) | exact HBW.out))) : w.heap.size ≤ gb102) : w0.heap.size ≤ gb102)); clear HBW; clear HB; have HBW := n0_; have HB := n1_; have BK102 := n2_; have GW102 := n3_; have GE102 := n4_; clear n0_ n1_ n2_ n3_ n4_; clear hb hbox hg))
      go_ret
      exact ⟨_, rfl, (show IsS52 w0 _ gb102 (l0.take 2000) 0 from ⟨_, _, by (with_reducible repeat (first | refine blk_drewN ?_ _ | refine blk_drew ?_ | refine blk_alloc ?_ _)); exact BK102.out, GE102.out, HR101.out⟩), by repeat (first | (with_reducible first | exact HB.out | apply below_alloc | apply pw_below_drewN | apply below_drew1 | refine below_set ?_ GE102.out) | exact HB.out), by repeat (first | (with_reducible first | exact HBW.out | apply below_alloc | apply pw_below_drewN | apply below_drew1 | refine below_set ?_ GW102.out) | exact HBW.out)⟩
    · rw [if_neg c3] at H
      exact absurd H (by simp)
  · rw [if_neg c2] at H
    have c2b0 : decide (2000 < (l0.length : Int)) = false := decide_eq_false c2
    have c2b1 : decide (2000 < l0.length) = false := decide_eq_false (by omega)
    clear c2
    simp only [Option.some.injEq, Prod.mk.injEq] at H
    obtain ⟨rfl, rfl⟩ := H
    go_enter Tryz.func17, Tryz.ntmps17
    go_wp2_with (first | ((with_reducible refine gate_dst (N := 10) rfl ?_); refine box_event ?hg (N := 10) ?hd (cs := #[.slice A0 l0.length c0, .int .i64 0]) (t := 52) ?hr ?_; (case hd => rfl); (case hg => rfl); (case hr => first | (go_simp; done) | (go_simp; rfl)); intro gb103 hg w6 hbox hb; have n0_ := Aside0.mk (below_step HBW.out hb); have n1_ := Aside0.mk (below_step (by repeat (first | (with_reducible first | exact HB.out | apply below_alloc | apply pw_below_drewN | apply below_drew1) | exact HB.out)) hb); have n2_ := Aside0.mk (hbox); have n3_ := Aside0.mk ((by rw [hg]; exact (below_size (by repeat (first | (with_reducible first | exact HBW.out | apply below_alloc | apply pw_below_drewN | apply below_drew1) | exact HBW.out))) : w.heap.size ≤ gb103)); have n4_ := Aside0.mk ((Nat.le_trans HW0.out (by rw [hg]; exact (below_size (by repeat (first | (with_reducible first | exact HBW.out | apply below_alloc | apply pw_below_drewN | apply below_drew1) | exact HBW.out))) : w.heap.size ≤ gb103) : w0.heap.size ≤ gb103)); clear HBW; clear HB; have HBW := n0_; have HB := n1_; have BK103 := n2_; have GW103 := n3_; have GE103 := n4_; clear n0_ n1_ n2_ n3_ n4_; clear hb hbox hg))
    go_ret
    exact ⟨_, rfl, (show IsS52 w0 _ gb103 l0 0 from ⟨_, _, by (with_reducible repeat (first | refine blk_drewN ?_ _ | refine blk_drew ?_ | refine blk_alloc ?_ _)); exact BK103.out, GE103.out, HR0.out⟩), by repeat (first | (with_reducible first | exact HB.out | apply below_alloc | apply pw_below_drewN | apply below_drew1 | refine below_set ?_ GE103.out) | exact HB.out), by repeat (first | (with_reducible first | exact HBW.out | apply below_alloc | apply pw_below_drewN | apply below_drew1 | refine below_set ?_ GW103.out) | exact HBW.out)⟩
def spec_l1Rd_pick.j0 : Nat → Int → Bool → List Int → Int → Option (Int × Int)
  | 0, _, _, _, _ => none
  | k + 1, x1, x24, x1000, x1001 => if x24 = true then (some (0, x1001)) else (if (wrap64 (x1001 - 1)) < (x1000.length : Int) then (if 0 ≤ (wrap64 (x1001 - 1)) then (if x1 = 0 then (none) else (some (Int.tmod (wrap64 (rd x1000 (wrap64 (x1001 - 1)))) x1, x1001))) else (none)) else (if (x1000.length : Int) = 0 then (none) else (if 0 ≤ (Int.tmod (wrap64 (x1001 - 1)) (x1000.length : Int)) then (if (Int.tmod (wrap64 (x1001 - 1)) (x1000.length : Int)) < (x1000.length : Int) then (if 0 ≤ (Int.tmod (wrap64 ((wrap64 ((wrap64 (x1001 - 1)) * 7)) + 3)) (x1000.length : Int)) then (if (Int.tmod (wrap64 ((wrap64 ((wrap64 (x1001 - 1)) * 7)) + 3)) (x1000.length : Int)) < (x1000.length : Int) then (if x1 = 0 then (none) else (some (Int.tmod (Go.bits .xor .i64 (wrap64 ((wrap64 ((wrap64 ((wrap64 ((wrap64 (rd x1000 (Int.tmod (wrap64 (x1001 - 1)) (x1000.length : Int)))) * 131)) + (wrap64 ((wrap64 (rd x1000 (Int.tmod (wrap64 ((wrap64 ((wrap64 (x1001 - 1)) * 7)) + 3)) (x1000.length : Int)))) * 1117)))) + (wrap64 ((wrap64 (x1001 - 1)) * 29)))) + (wrap64 ((wrap64 (Int.tdiv (wrap64 (x1001 - 1)) (x1000.length : Int))) * 53)))) (wrap64 (Int.tdiv (wrap64 ((wrap64 ((wrap64 ((wrap64 ((wrap64 (rd x1000 (Int.tmod (wrap64 (x1001 - 1)) (x1000.length : Int)))) * 131)) + (wrap64 ((wrap64 (rd x1000 (Int.tmod (wrap64 ((wrap64 ((wrap64 (x1001 - 1)) * 7)) + 3)) (x1000.length : Int)))) * 1117)))) + (wrap64 ((wrap64 (x1001 - 1)) * 29)))) + (wrap64 ((wrap64 (Int.tdiv (wrap64 (x1001 - 1)) (x1000.length : Int))) * 53)))) 64))) x1, x1001))) else (none)) else (none)) else (none)) else (none))))
def spec_l1Rd_pick.f (k : Nat) (s0_0 : List Int) (s0_1 : Int) (a1 : Int) : Option (Int × Int) := if a1 < 1 then (spec_l1Rd_pick.j0 k a1 true s0_0 (wrap64 (s0_1 + 1))) else (spec_l1Rd_pick.j0 k a1 ((s0_0.length : Int) == 0) s0_0 (wrap64 (s0_1 + 1)))
theorem spec_l1Rd_pick.mono_l : ∀ k, (∀ y0 y1 y2 y3, LeO (spec_l1Rd_pick.j0 k y0 y1 y2 y3) (spec_l1Rd_pick.j0 (k + 1) y0 y1 y2 y3))
  | 0 => fun _ _ _ _ r h => by simp [spec_l1Rd_pick.j0] at h
  | k + 1 => by
    have ih0 := spec_l1Rd_pick.mono_l k
    · intro y0 y1 y2 y3
      unfold spec_l1Rd_pick.j0
      repeat' first
      | (with_reducible exact ih0 _ _ _ _)
      | (with_reducible exact LeO.refl _)
      | (with_reducible exact LeO.none _)
      | (with_reducible refine LeO.ite ?_ ?_)
      | (with_reducible refine LeO.bind ?_ (fun _ => ?_))
      | exact ih0 _ _ _ _
      | exact LeO.none _
      | refine LeO.ite ?_ ?_
      | refine LeO.bind ?_ (fun _ => ?_)
theorem spec_l1Rd_pick.mono : ∀ a0 a1 a2 k, LeO (spec_l1Rd_pick.f k a0 a1 a2) (spec_l1Rd_pick.f (k + 1) a0 a1 a2) := by
  intro a0 a1 a2 k
  have ih0 := spec_l1Rd_pick.mono_l k
  unfold spec_l1Rd_pick.f
  repeat' first
      | (with_reducible exact ih0 _ _ _ _)
      | (with_reducible exact LeO.refl _)
      | (with_reducible exact LeO.none _)
      | (with_reducible refine LeO.ite ?_ ?_)
      | (with_reducible refine LeO.bind ?_ (fun _ => ?_))
      | exact ih0 _ _ _ _
      | exact LeO.none _
      | refine LeO.ite ?_ ?_
      | refine LeO.bind ?_ (fun _ => ?_)
set_option maxHeartbeats 8000000 in
set_option maxRecDepth 100000 in
theorem spec_l1Rd_pick.calls (k : Nat) (g : Nat) (s0_0 : List Int) (s0_1 : Int) (a1 : Int) (r1 : Int) (r2 : Int) (w0 w : World) (hI : IsS52 w0 w g s0_0 s0_1) (hB : Below w0.heap.size w0 w) (h : spec_l1Rd_pick.f k s0_0 s0_1 a1 = some (r1, r2)) :
    Calls Tryz.prog 19 #[.pointer (some ⟨g, 0, none⟩), .int .i64 a1] w fun e w' => e = .returned (.int .i64 r1) ∧ IsS52 w0 w' g s0_0 r2 ∧ Below w0.heap.size w0 w' ∧ KeepBut w w' g none := by
  have HI0 := Aside0.mk hI
  have HK := Aside0.mk (KeepBut.refl w g none)
  have HL := Aside0.mk hB.size
  clear hI
  have HW0 := Aside0.mk hB.size
  have HB := Aside0.mk hB
  clear hB
  have H : (if a1 < 1 then (spec_l1Rd_pick.j0 k a1 true s0_0 (wrap64 (s0_1 + 1))) else (spec_l1Rd_pick.j0 k a1 ((s0_0.length : Int) == 0) s0_0 (wrap64 (s0_1 + 1)))) = some (r1, r2) := h
  clear h
  have HC3 := Aside0.mk H
  clear H
  obtain ⟨ASz4_0, cSz4_0, HGz4, hgz4, HSz4_0⟩ := HI0.out
  have hcz4_0 := cellS52_0 HGz4
  have hcz4_1 := cellS52_1 HGz4
  have hfz4_1 := blk_frozen HGz4 1
  clear HGz4 hgz4
  go_enter Tryz.func19, Tryz.ntmps19
  go_upto_region 2 with (fail)
  repeat (go_quiet (fail); go_upto_region 2 with (fail))
  go_cut [24] (fun v24 wc => ∃ (kq : Nat) (x24_2 : Bool), v24 = .bool x24_2 ∧ Aside0 (spec_l1Rd_pick.j0 kq a1 x24_2 s0_0 (wrap64 (s0_1 + 1)) = some (r1, r2)) ∧ Aside0 (kq ≤ k) ∧ Aside0 (IsS52 w0 wc g s0_0 (wrap64 (s0_1 + 1))) ∧ Aside0 (KeepBut w wc g none) ∧ Aside0 (Below w0.heap.size w0 wc))
  case first =>
    have H := HC3.out
    clear HC3
    by_cases c5 : a1 < 1
    · rw [if_pos c5] at H
      have c5b0 : decide (a1 < 1) = true := decide_eq_true c5
      clear c5
      (first | rw [c5b0] | (simp only [i64_w, i32_w]; rw [c5b0]) | skip)
      have H' := Aside0.mk H
      clear H
      go_wp2
      repeat (go_quiet (fail); try go_wp2)
      go_meet
      case rel => exact ⟨_, (true), (by first | rfl | (simp; done) | (simp [*]; done)), H', ⟨by first | omega | exact Nat.le_refl _⟩, ⟨by repeat (first | (with_reducible first | exact HI0.out | apply IsS52.alloc | apply IsS52.drewN | apply IsS52.drew | apply IsS52.set_1) | exact HI0.out)⟩, ⟨by repeat (first | (with_reducible first | exact HK.out | apply KeepBut.set_ | apply keep_drewN | apply keep_drew | apply keep_alloc) | exact HK.out)⟩, ⟨by repeat (first | (with_reducible first | exact HB.out | apply below_alloc | apply pw_below_drewN | apply below_drew1 | refine below_set ?_ (IsS52.ge HI0.out)) | exact HB.out)⟩⟩
    · rw [if_neg c5] at H
      have c5b0 : decide (a1 < 1) = false := decide_eq_false c5
      clear c5
      (first | rw [c5b0] | (simp only [i64_w, i32_w]; rw [c5b0]) | skip)
      have H' := Aside0.mk H
      clear H
      obtain ⟨ASz6_0, cSz6_0, HGz6, hgz6, HSz6_0⟩ := HI0.out
      have hcz6_0 := cellS52_0 HGz6
      have hcz6_1 := cellS52_1 HGz6
      have hfz6_1 := blk_frozen HGz6 1
      clear HGz6 hgz6
      go_wp2
      repeat (go_quiet (fail); try go_wp2)
      go_meet
      case rel => exact ⟨_, (((s0_0.length : Int) == 0)), (by first | rfl | (simp; done) | (simp [*]; done)), H', ⟨by first | omega | exact Nat.le_refl _⟩, ⟨by repeat (first | (with_reducible first | exact HI0.out | apply IsS52.alloc | apply IsS52.drewN | apply IsS52.drew | apply IsS52.set_1) | exact HI0.out)⟩, ⟨by repeat (first | (with_reducible first | exact HK.out | apply KeepBut.set_ | apply keep_drewN | apply keep_drew | apply keep_alloc) | exact HK.out)⟩, ⟨by repeat (first | (with_reducible first | exact HB.out | apply below_alloc | apply pw_below_drewN | apply below_drew1 | refine below_set ?_ (IsS52.ge HI0.out)) | exact HB.out)⟩⟩
  case rest =>
    clear HC3
    try clear c1
    try clear p2
    try clear c5
    try clear c5b0
    try clear p6
    try clear hcz4_0
    try clear hcz4_1
    try clear hcz6_0
    try clear hcz6_1
    try clear hfz4_1
    try clear hfz6_1
    obtain ⟨kq, x24_2, rfl, HA, HJ2, HI0, HK, HB⟩ := hcut
    cases kq with
    | zero => exact absurd HA.out (by simp [spec_l1Rd_pick.j0])
    | succ kj2 =>
      have H := HA.out
      clear HA
      simp only [spec_l1Rd_pick.j0] at H
      by_cases c7 : x24_2 = true
      · subst c7
        have H1 : (some (0, (wrap64 (s0_1 + 1)))) = some (r1, r2) := by rw [if_pos rfl] at H; exact H
        clear H
        have H := H1
        clear H1
        simp only [Option.some.injEq, Prod.mk.injEq] at H
        obtain ⟨rfl, rfl⟩ := H
        go_wp2
        repeat (go_quiet (fail); try go_wp2)
        go_ret
        exact ⟨by first | rfl | (simp [errW_none, errW_some] <;> rfl) | (simp [*, errW_none, errW_some] <;> rfl), by repeat (first | (with_reducible first | exact HI0.out | apply IsS52.alloc | apply IsS52.drewN | apply IsS52.drew | apply IsS52.set_1) | exact HI0.out), by repeat (first | (with_reducible first | exact HB.out | apply below_alloc | apply pw_below_drewN | apply below_drew1 | refine below_set ?_ (IsS52.ge HI0.out)) | exact HB.out), by repeat (first | (with_reducible first | exact HK.out | apply KeepBut.set_ | apply keep_drewN | apply keep_drew | apply keep_alloc) | exact HK.out)⟩
      · replace c7 := Bool.eq_false_iff.mpr c7
        subst c7
        have H1 : (if (wrap64 ((wrap64 (s0_1 + 1)) - 1)) < (s0_0.length : Int) then (if 0 ≤ (wrap64 ((wrap64 (s0_1 + 1)) - 1)) then (if a1 = 0 then (none) else (some (Int.tmod (wrap64 (rd s0_0 (wrap64 ((wrap64 (s0_1 + 1)) - 1)))) a1, (wrap64 (s0_1 + 1))))) else (none)) else (if (s0_0.length : Int) = 0 then (none) else (if 0 ≤ (Int.tmod (wrap64 ((wrap64 (s0_1 + 1)) - 1)) (s0_0.length : Int)) then (if (Int.tmod (wrap64 ((wrap64 (s0_1 + 1)) - 1)) (s0_0.length : Int)) < (s0_0.length : Int) then (if 0 ≤ (Int.tmod (wrap64 ((wrap64 ((wrap64 ((wrap64 (s0_1 + 1)) - 1)) * 7)) + 3)) (s0_0.length : Int)) then (if (Int.tmod (wrap64 ((wrap64 ((wrap64 ((wrap64 (s0_1 + 1)) - 1)) * 7)) + 3)) (s0_0.length : Int)) < (s0_0.length : Int) then (if a1 = 0 then (none) else (some (Int.tmod (Go.bits .xor .i64 (wrap64 ((wrap64 ((wrap64 ((wrap64 ((wrap64 (rd s0_0 (Int.tmod (wrap64 ((wrap64 (s0_1 + 1)) - 1)) (s0_0.length : Int)))) * 131)) + (wrap64 ((wrap64 (rd s0_0 (Int.tmod (wrap64 ((wrap64 ((wrap64 ((wrap64 (s0_1 + 1)) - 1)) * 7)) + 3)) (s0_0.length : Int)))) * 1117)))) + (wrap64 ((wrap64 ((wrap64 (s0_1 + 1)) - 1)) * 29)))) + (wrap64 ((wrap64 (Int.tdiv (wrap64 ((wrap64 (s0_1 + 1)) - 1)) (s0_0.length : Int))) * 53)))) (wrap64 (Int.tdiv (wrap64 ((wrap64 ((wrap64 ((wrap64 ((wrap64 (rd s0_0 (Int.tmod (wrap64 ((wrap64 (s0_1 + 1)) - 1)) (s0_0.length : Int)))) * 131)) + (wrap64 ((wrap64 (rd s0_0 (Int.tmod (wrap64 ((wrap64 ((wrap64 ((wrap64 (s0_1 + 1)) - 1)) * 7)) + 3)) (s0_0.length : Int)))) * 1117)))) + (wrap64 ((wrap64 ((wrap64 (s0_1 + 1)) - 1)) * 29)))) + (wrap64 ((wrap64 (Int.tdiv (wrap64 ((wrap64 (s0_1 + 1)) - 1)) (s0_0.length : Int))) * 53)))) 64))) a1, (wrap64 (s0_1 + 1))))) else (none)) else (none)) else (none)) else (none)))) = some (r1, r2) := by rw [if_neg (show ¬ (false = true) by decide)] at H; exact H
        clear H
        have H := H1
        clear H1
        by_cases c8 : (wrap64 ((wrap64 (s0_1 + 1)) - 1)) < (s0_0.length : Int)
        · rw [if_pos c8] at H
          have c8b0 : decide ((wrap64 ((wrap64 (s0_1 + 1)) - 1)) < (s0_0.length : Int)) = true := decide_eq_true c8
          clear c8
          obtain ⟨ji9, hji9⟩ : ∃ j_ : Int, (wrap64 ((wrap64 (s0_1 + 1)) - 1)) = j_ := ⟨_, rfl⟩
          replace H : (if 0 ≤ (ji9) then (if a1 = 0 then (none) else (some (Int.tmod (wrap64 (rd s0_0 (ji9))) a1, (wrap64 (s0_1 + 1))))) else (none)) = some (r1, r2) := by first | (rw [hji9] at H; exact H) | (simp only [hji9] at H ⊢; exact H)
          (try rw [hji9] at c8b0)
          have hji9w : (IntKind.i64.wrap ((wrap64 (s0_1 + 1)) - 1)) = ji9 := (i64_w _).trans hji9
          by_cases c10 : 0 ≤ (ji9)
          · rw [if_pos c10] at H
            have c10b0 : decide (0 ≤ (ji9)) = true := decide_eq_true c10
            clear c10
            by_cases c11 : a1 = 0
            · rw [if_pos c11] at H
              exact absurd H (by simp)
            · rw [if_neg c11] at H
              have c11b0 : (a1 == 0) = false := beq_eq_false_iff_ne.mpr c11
              have c11b1 : (a1 != 0) = true := bne_iff_ne.mpr c11
              simp only [Option.some.injEq, Prod.mk.injEq] at H
              obtain ⟨rfl, rfl⟩ := H
              obtain ⟨ASz12_0, cSz12_0, HGz12, hgz12, HSz12_0⟩ := HI0.out
              have hcz12_0 := cellS52_0 HGz12
              have hcz12_1 := cellS52_1 HGz12
              have hfz12_1 := blk_frozen HGz12 1
              clear HGz12 hgz12
              have p104 : 0 ≤ ((ji9) : Int) := of_decide_eq_true (by first | (with_reducible assumption) | assumption)
              have q104 : (ji9) < (s0_0.length : Int) := of_decide_eq_true (by first | (with_reducible assumption) | assumption)
              obtain ⟨ad104, e104, hx104_0⟩ := Kd.at_int HSz12_0 (ji9) p104 q104
              cases e104
              replace hx104_0 := pw_cell_below HB.out hx104_0
              replace p104 := eq_true p104
              replace q104 := eq_true q104
              go_wp2
              repeat (go_quiet (fail); try go_wp2)
              go_ret
              exact ⟨by first | rfl | (simp [errW_none, errW_some] <;> rfl) | (simp only [← hji9]; first | rfl | (simp [errW_none, errW_some] <;> rfl)) | (simp [*, errW_none, errW_some] <;> rfl), by repeat (first | (with_reducible first | exact HI0.out | apply IsS52.alloc | apply IsS52.drewN | apply IsS52.drew | apply IsS52.set_1) | exact HI0.out), by repeat (first | (with_reducible first | exact HB.out | apply below_alloc | apply pw_below_drewN | apply below_drew1 | refine below_set ?_ (IsS52.ge HI0.out)) | exact HB.out), by repeat (first | (with_reducible first | exact HK.out | apply KeepBut.set_ | apply keep_drewN | apply keep_drew | apply keep_alloc) | exact HK.out)⟩
          · rw [if_neg c10] at H
            exact absurd H (by simp)
        · rw [if_neg c8] at H
          have c8b0 : decide ((wrap64 ((wrap64 (s0_1 + 1)) - 1)) < (s0_0.length : Int)) = false := decide_eq_false c8
          clear c8
          by_cases c13 : (s0_0.length : Int) = 0
          · rw [if_pos c13] at H
            exact absurd H (by simp)
          · rw [if_neg c13] at H
            have c13b0 : ((s0_0.length : Int) == 0) = false := beq_eq_false_iff_ne.mpr c13
            have c13b1 : ((s0_0.length : Int) != 0) = true := bne_iff_ne.mpr c13
            have c13b2 : ¬ (s0_0 = []) := fun h_ => c13 (by rw [h_]; rfl)
            obtain ⟨ji14, hji14⟩ : ∃ j_ : Int, (Int.tmod (wrap64 ((wrap64 (s0_1 + 1)) - 1)) (s0_0.length : Int)) = j_ := ⟨_, rfl⟩
            replace H : (if 0 ≤ (ji14) then (if (ji14) < (s0_0.length : Int) then (if 0 ≤ (Int.tmod (wrap64 ((wrap64 ((wrap64 ((wrap64 (s0_1 + 1)) - 1)) * 7)) + 3)) (s0_0.length : Int)) then (if (Int.tmod (wrap64 ((wrap64 ((wrap64 ((wrap64 (s0_1 + 1)) - 1)) * 7)) + 3)) (s0_0.length : Int)) < (s0_0.length : Int) then (if a1 = 0 then (none) else (some (Int.tmod (Go.bits .xor .i64 (wrap64 ((wrap64 ((wrap64 ((wrap64 ((wrap64 (rd s0_0 (ji14))) * 131)) + (wrap64 ((wrap64 (rd s0_0 (Int.tmod (wrap64 ((wrap64 ((wrap64 ((wrap64 (s0_1 + 1)) - 1)) * 7)) + 3)) (s0_0.length : Int)))) * 1117)))) + (wrap64 ((wrap64 ((wrap64 (s0_1 + 1)) - 1)) * 29)))) + (wrap64 ((wrap64 (Int.tdiv (wrap64 ((wrap64 (s0_1 + 1)) - 1)) (s0_0.length : Int))) * 53)))) (wrap64 (Int.tdiv (wrap64 ((wrap64 ((wrap64 ((wrap64 ((wrap64 (rd s0_0 (ji14))) * 131)) + (wrap64 ((wrap64 (rd s0_0 (Int.tmod (wrap64 ((wrap64 ((wrap64 ((wrap64 (s0_1 + 1)) - 1)) * 7)) + 3)) (s0_0.length : Int)))) * 1117)))) + (wrap64 ((wrap64 ((wrap64 (s0_1 + 1)) - 1)) * 29)))) + (wrap64 ((wrap64 (Int.tdiv (wrap64 ((wrap64 (s0_1 + 1)) - 1)) (s0_0.length : Int))) * 53)))) 64))) a1, (wrap64 (s0_1 + 1))))) else (none)) else (none)) else (none)) else (none)) = some (r1, r2) := by first | (rw [hji14] at H; exact H) | (simp only [hji14] at H ⊢; exact H)
            by_cases c15 : 0 ≤ (ji14)
            · rw [if_pos c15] at H
              have c15b0 : decide (0 ≤ (ji14)) = true := decide_eq_true c15
              clear c15
              by_cases c16 : (ji14) < (s0_0.length : Int)
              · rw [if_pos c16] at H
                have c16b0 : decide ((ji14) < (s0_0.length : Int)) = true := decide_eq_true c16
                clear c16
                obtain ⟨ji17, hji17⟩ : ∃ j_ : Int, (Int.tmod (wrap64 ((wrap64 ((wrap64 ((wrap64 (s0_1 + 1)) - 1)) * 7)) + 3)) (s0_0.length : Int)) = j_ := ⟨_, rfl⟩
                replace H : (if 0 ≤ (ji17) then (if (ji17) < (s0_0.length : Int) then (if a1 = 0 then (none) else (some (Int.tmod (Go.bits .xor .i64 (wrap64 ((wrap64 ((wrap64 ((wrap64 ((wrap64 (rd s0_0 (ji14))) * 131)) + (wrap64 ((wrap64 (rd s0_0 (ji17))) * 1117)))) + (wrap64 ((wrap64 ((wrap64 (s0_1 + 1)) - 1)) * 29)))) + (wrap64 ((wrap64 (Int.tdiv (wrap64 ((wrap64 (s0_1 + 1)) - 1)) (s0_0.length : Int))) * 53)))) (wrap64 (Int.tdiv (wrap64 ((wrap64 ((wrap64 ((wrap64 ((wrap64 (rd s0_0 (ji14))) * 131)) + (wrap64 ((wrap64 (rd s0_0 (ji17))) * 1117)))) + (wrap64 ((wrap64 ((wrap64 (s0_1 + 1)) - 1)) * 29)))) + (wrap64 ((wrap64 (Int.tdiv (wrap64 ((wrap64 (s0_1 + 1)) - 1)) (s0_0.length : Int))) * 53)))) 64))) a1, (wrap64 (s0_1 + 1))))) else (none)) else (none)) = some (r1, r2) := by first | (rw [hji17] at H; exact H) | (simp only [hji17] at H ⊢; exact H)
                by_cases c18 : 0 ≤ (ji17)
                · rw [if_pos c18] at H
                  have c18b0 : decide (0 ≤ (ji17)) = true := decide_eq_true c18
                  clear c18
                  by_cases c19 : (ji17) < (s0_0.length : Int)
                  · rw [if_pos c19] at H
                    have c19b0 : decide ((ji17) < (s0_0.length : Int)) = true := decide_eq_true c19
                    clear c19
                    by_cases c20 : a1 = 0
                    · rw [if_pos c20] at H
                      exact absurd H (by simp)
                    · rw [if_neg c20] at H
                      have c20b0 : (a1 == 0) = false := beq_eq_false_iff_ne.mpr c20
                      have c20b1 : (a1 != 0) = true := bne_iff_ne.mpr c20
                      simp only [Option.some.injEq, Prod.mk.injEq] at H
                      obtain ⟨rfl, rfl⟩ := H
                      obtain ⟨ASz21_0, cSz21_0, HGz21, hgz21, HSz21_0⟩ := HI0.out
                      have hcz21_0 := cellS52_0 HGz21
                      have hcz21_1 := cellS52_1 HGz21
                      have hfz21_1 := blk_frozen HGz21 1
                      clear HGz21 hgz21
                      have p105 : 0 ≤ ((ji14) : Int) := of_decide_eq_true (by first | (with_reducible assumption) | assumption)
                      have q105 : (ji14) < (s0_0.length : Int) := of_decide_eq_true (by first | (with_reducible assumption) | assumption)
                      obtain ⟨ad105, e105, hx105_0⟩ := Kd.at_int HSz21_0 (ji14) p105 q105
                      cases e105
                      replace hx105_0 := pw_cell_below HB.out hx105_0
                      replace p105 := eq_true p105
                      replace q105 := eq_true q105
                      have p106 : 0 ≤ ((ji17) : Int) := of_decide_eq_true (by first | (with_reducible assumption) | assumption)
                      have q106 : (ji17) < (s0_0.length : Int) := of_decide_eq_true (by first | (with_reducible assumption) | assumption)
                      obtain ⟨ad106, e106, hx106_0⟩ := Kd.at_int HSz21_0 (ji17) p106 q106
                      obtain rfl : ad105 = ad106 := (by injection e106)
                      replace hx106_0 := pw_cell_below HB.out hx106_0
                      replace p106 := eq_true p106
                      replace q106 := eq_true q106
                      go_wp2
                      repeat (go_quiet (fail); try go_wp2)
                      go_ret
                      exact ⟨by first | rfl | (simp [errW_none, errW_some] <;> rfl) | (simp only [← hji14, ← hji17]; first | rfl | (simp [errW_none, errW_some] <;> rfl)) | (simp [*, errW_none, errW_some] <;> rfl), by repeat (first | (with_reducible first | exact HI0.out | apply IsS52.alloc | apply IsS52.drewN | apply IsS52.drew | apply IsS52.set_1) | exact HI0.out), by repeat (first | (with_reducible first | exact HB.out | apply below_alloc | apply pw_below_drewN | apply below_drew1 | refine below_set ?_ (IsS52.ge HI0.out)) | exact HB.out), by repeat (first | (with_reducible first | exact HK.out | apply KeepBut.set_ | apply keep_drewN | apply keep_drew | apply keep_alloc) | exact HK.out)⟩
                  · rw [if_neg c19] at H
                    exact absurd H (by simp)
                · rw [if_neg c18] at H
                  exact absurd H (by simp)
              · rw [if_neg c16] at H
                exact absurd H (by simp)
            · rw [if_neg c15] at H
              exact absurd H (by simp)
def spec_l1Rd_of.f (k : Nat) (s0_0 : List Int) (s0_1 : Int) (l1 : List ByteArray) : Option (ByteArray × Int) := (spec_l1Rd_pick.f k s0_0 s0_1 (l1.length : Int)).bind fun bt107 => (if 0 ≤ bt107.1 then (if bt107.1 < (l1.length : Int) then (some (rdOf ByteArray.empty l1 bt107.1, bt107.2)) else (none)) else (none))
theorem spec_l1Rd_of.mono : ∀ a0 a1 a2 k, LeO (spec_l1Rd_of.f k a0 a1 a2) (spec_l1Rd_of.f (k + 1) a0 a1 a2) := by
  intro a0 a1 a2 k
  unfold spec_l1Rd_of.f
  repeat' first
      | (with_reducible exact spec_l1Rd_pick.mono _ _ _ _)
      | (with_reducible exact LeO.refl _)
      | (with_reducible exact LeO.none _)
      | (with_reducible refine LeO.ite ?_ ?_)
      | (with_reducible refine LeO.bind ?_ (fun _ => ?_))
      | exact spec_l1Rd_pick.mono _ _ _ _
      | exact LeO.none _
      | refine LeO.ite ?_ ?_
      | refine LeO.bind ?_ (fun _ => ?_)
set_option maxHeartbeats 8000000 in
set_option maxRecDepth 100000 in
theorem spec_l1Rd_of.calls (k : Nat) (g : Nat) (s0_0 : List Int) (s0_1 : Int) (A1 : Option Addr) (c1 : Nat) (l1 : List ByteArray) (r1 : ByteArray) (r2 : Int) (w0 w : World) (hI : IsS52 w0 w g s0_0 s0_1) (hB : Below w0.heap.size w0 w) (hr1 : Kd.C Kd.string w A1 l1.length l1) (hc1 : l1.length ≤ c1) (hf1 : ∀ ad, A1 = some ad → 0 < l1.length → ad.block ≠ g) (h : spec_l1Rd_of.f k s0_0 s0_1 l1 = some (r1, r2)) :
    Calls Tryz.prog 54 #[.pointer (some ⟨g, 0, none⟩), .slice A1 l1.length c1] w fun e w' => e = .returned (.string r1) ∧ IsS52 w0 w' g s0_0 r2 ∧ Below w0.heap.size w0 w' ∧ KeepBut w w' g none := by
  have HR1 := Aside0.mk hr1
  have HC1 := Aside0.mk hc1
  clear hr1 hc1
  have HI0 := Aside0.mk hI
  have HK := Aside0.mk (KeepBut.refl w g none)
  have HL := Aside0.mk hB.size
  clear hI
  have HW0 := Aside0.mk hB.size
  have HB := Aside0.mk hB
  clear hB
  have H : ((spec_l1Rd_pick.f k s0_0 s0_1 (l1.length : Int)).bind fun bt107 => (if 0 ≤ bt107.1 then (if bt107.1 < (l1.length : Int) then (some (rdOf ByteArray.empty l1 bt107.1, bt107.2)) else (none)) else (none))) = some (r1, r2) := h
  clear h
  replace H := Option.bind_eq_some_iff.mp H
  obtain ⟨⟨t107, t108⟩, A30, H⟩ := H
  replace H : (if 0 ≤ t107 then (if t107 < (l1.length : Int) then (some (rdOf ByteArray.empty l1 t107, t108)) else (none)) else (none)) = some (r1, r2) := H
  have A3 := Aside0.mk A30
  clear A30
  by_cases c4 : 0 ≤ t107
  · rw [if_pos c4] at H
    have c4b0 : decide (0 ≤ t107) = true := decide_eq_true c4
    clear c4
    by_cases c5 : t107 < (l1.length : Int)
    · rw [if_pos c5] at H
      have c5b0 : decide (t107 < (l1.length : Int)) = true := decide_eq_true c5
      clear c5
      simp only [Option.some.injEq, Prod.mk.injEq] at H
      obtain ⟨rfl, rfl⟩ := H
      go_enter Tryz.func54, Tryz.ntmps54
      go_wp2_with (first | ((with_reducible refine gate_callee (f := 19) rfl ?_); refine goesL_ (some 9) rfl rfl Tryz.func19 (by kernel_rfl) rfl #[.pointer (some ⟨g, 0, none⟩), .int .i64 (l1.length : Int)] rfl (by (try simp only [List.map_toArray, List.map_cons, List.map_nil]); first | done | rfl | (simp only [List.length_drop, List.length_take]; rfl)) ?_; (with_reducible refine (spec_l1Rd_pick.calls k g s0_0 s0_1 (l1.length : Int) t107 t108 w0 _ ?side1 ?side2 A3.out).mono ?_); (case side1 => repeat (first | (with_reducible first | exact HI0.out | apply IsS52.alloc | apply IsS52.drewN | apply IsS52.drew | apply IsS52.set_1) | exact HI0.out)); (case side2 => repeat (first | (with_reducible first | exact HB.out | apply below_alloc | apply pw_below_drewN | apply below_drew1 | refine below_set ?_ (IsS52.ge HI0.out)) | exact HB.out)); rintro e w6 ⟨rfl, hi, hb, hk⟩; refine ⟨_, rfl, ?_⟩; have n0_ := Aside0.mk (KeepBut.trans (by repeat (first | (with_reducible first | exact HK.out | apply KeepBut.set_ | apply keep_drewN | apply keep_drew | apply keep_alloc) | exact HK.out)) hk (.inl rfl)); have n1_ := Aside0.mk (hb); have n2_ := Aside0.mk (hi); clear HK; clear HB; clear HI0; have HK := n0_; have HB := n1_; have HI0 := n2_; clear n0_ n1_ n2_; (try clear hb); (try clear hb2); (try clear hk); (try clear hi); have p109 : 0 ≤ (t107 : Int) := of_decide_eq_true (by first | (with_reducible assumption) | assumption); have q109 : t107 < (l1.length : Int) := of_decide_eq_true (by first | (with_reducible assumption) | assumption); obtain ⟨ad109, e109, hx109_0⟩ := Kd.at_string HR1.out t107 p109 q109; cases e109; replace hx109_0 := keep_cell HK.out hx109_0 (by first | (rw [add_block]; exact hf1 _ rfl (by omega)) | exact hf1 _ rfl (by omega) | exact hf1 ad109 rfl (by omega)); replace p109 := eq_true p109; replace q109 := eq_true q109))
      go_ret
      exact ⟨by first | rfl | (simp [errW_none, errW_some] <;> rfl) | (simp [*, errW_none, errW_some] <;> rfl), by repeat (first | (with_reducible first | exact HI0.out | apply IsS52.alloc | apply IsS52.drewN | apply IsS52.drew | apply IsS52.set_1) | exact HI0.out), by repeat (first | (with_reducible first | exact HB.out | apply below_alloc | apply pw_below_drewN | apply below_drew1 | refine below_set ?_ (IsS52.ge HI0.out)) | exact HB.out), by repeat (first | (with_reducible first | exact HK.out | apply KeepBut.set_ | apply keep_drewN | apply keep_drew | apply keep_alloc) | exact HK.out)⟩
    · rw [if_neg c5] at H
      exact absurd H (by simp)
  · rw [if_neg c4] at H
    exact absurd H (by simp)
def spec_l6Dec.f : Nat → Int → Option (ByteArray)
  | 0, _ => none
  | k + 1, a0 => if a0 < 0 then ((spec_l6Dec.f k (wrap64 (-a0))).bind fun t110 => (if 1 + t110.size ≤ 9223372036854775807 then (some ((⟨#[45]⟩ : ByteArray) ++ t110)) else (none))) else (if a0 < 10 then (some (strOfNums (([(wrap64 (48 + a0)) % 256] : List Int)))) else ((spec_l6Dec.f k (wrap64 (Int.tdiv a0 10))).bind fun t114 => ((some (([(wrap64 (48 + (Int.tmod a0 10))) % 256] : List Int) : List Int)).bind fun y115 => (if t114.size + (strOfNums y115).size ≤ 9223372036854775807 then (some (t114 ++ (strOfNums y115))) else (none)))))
theorem spec_l6Dec.mono_l : ∀ k, (∀ y0, LeO (spec_l6Dec.f k y0) (spec_l6Dec.f (k + 1) y0))
  | 0 => fun _ r h => by simp [spec_l6Dec.f] at h
  | k + 1 => by
    have ih0 := spec_l6Dec.mono_l k
    · intro y0
      unfold spec_l6Dec.f
      repeat' first
      | (with_reducible exact ih0 _)
      | (with_reducible exact LeO.refl _)
      | (with_reducible exact LeO.none _)
      | (with_reducible refine LeO.ite ?_ ?_)
      | (with_reducible refine LeO.bind ?_ (fun _ => ?_))
      | exact ih0 _
      | exact LeO.none _
      | refine LeO.ite ?_ ?_
      | refine LeO.bind ?_ (fun _ => ?_)
theorem spec_l6Dec.mono : ∀ a0 k, LeO (spec_l6Dec.f k a0) (spec_l6Dec.f (k + 1) a0) := by
  intro a0 k
  have ih0 := spec_l6Dec.mono_l k
  exact ih0 a0
def spec_l6Dec.T5 : Bool × List (List Nat × List Nat) := (true, [([], []), ([0], [0]), ([1], [1]), ([], []), ([3], [3]), ([4], [4]), ([5], [5]), ([6], [6]), ([7], [7]), ([2, 8], [2, 8]), ([9, 2, 0, 1, 2, 3, 4, 5, 6, 7, 8, 9], [9])])
def spec_l6Dec.B5 : List Nat := [0, 1, 3, 0, 8, 24, 56, 120, 248, 511, 1023]
theorem spec_l6Dec.tab5 : rtab .any (opsOf Tryz.f73 5) = spec_l6Dec.T5 := by kernel_rfl
theorem spec_l6Dec.bits5 : waitsOk spec_l6Dec.T5.2 spec_l6Dec.B5 = true := by kernel_rfl
set_option maxHeartbeats 8000000 in
set_option maxRecDepth 100000 in
theorem spec_l6Dec.calls (k : Nat) : ∀ (a0 : Int) (r : ByteArray) (w : World) (h : spec_l6Dec.f k a0 = some r),
    Calls Tryz.prog 73 #[.int .i64 a0] w fun e w' => e = .returned (.string r) ∧ Below w.heap.size w w' := by
  induction k using Nat.strongRecOn with
  | _ k ih =>
  intro a0 r w h
  cases k with
  | zero => exact absurd h (by simp [spec_l6Dec.f])
  | succ k =>
  simp only [spec_l6Dec.f] at h
  have HB := Aside0.mk (Below.refl w.heap.size w)
  have H : (if a0 < 0 then ((spec_l6Dec.f k (wrap64 (-a0))).bind fun t110 => (if 1 + t110.size ≤ 9223372036854775807 then (some ((⟨#[45]⟩ : ByteArray) ++ t110)) else (none))) else (if a0 < 10 then (some (strOfNums (([(wrap64 (48 + a0)) % 256] : List Int)))) else ((spec_l6Dec.f k (wrap64 (Int.tdiv a0 10))).bind fun t114 => ((some (([(wrap64 (48 + (Int.tmod a0 10))) % 256] : List Int) : List Int)).bind fun y115 => (if t114.size + (strOfNums y115).size ≤ 9223372036854775807 then (some (t114 ++ (strOfNums y115))) else (none)))))) = some r := h
  clear h
  by_cases c2 : a0 < 0
  · rw [if_pos c2] at H
    have c2b0 : decide (a0 < 0) = true := decide_eq_true c2
    clear c2
    replace H := Option.bind_eq_some_iff.mp H
    obtain ⟨t110, A30, H⟩ := H
    replace H : (if 1 + t110.size ≤ 9223372036854775807 then (some ((⟨#[45]⟩ : ByteArray) ++ t110)) else (none)) = some r := H
    have A3 := Aside0.mk A30
    clear A30
    by_cases c4 : 1 + t110.size ≤ 9223372036854775807
    · rw [if_pos c4] at H
      have c4b0 := eq_true c4
      have c4b1 : decide (1 + t110.size ≤ 9223372036854775807) = true := decide_eq_true c4
      try have c4b2 : (9223372036854775807 < 1 + t110.size) = False := eq_false (Nat.not_lt.2 c4)
      obtain rfl := Option.some.inj H
      go_enter Tryz.func73, Tryz.ntmps73
      go_wp2_with (first | ((with_reducible refine gate_callee (f := 73) rfl ?_); refine goesL_ (some 7) rfl rfl Tryz.func73 (by kernel_rfl) rfl #[.int .i64 (wrap64 (-a0))] rfl (by (try simp only [List.map_toArray, List.map_cons, List.map_nil]); first | done | rfl | (simp only [List.length_drop, List.length_take]; rfl)) ?_; (with_reducible refine (ih k (by omega) (wrap64 (-a0)) t110 _ A3.out).mono ?_); rintro e w5 ⟨rfl, hb⟩; refine ⟨_, rfl, ?_⟩; have n0_ := Aside0.mk (below_step (by repeat (first | (with_reducible first | exact HB.out | apply below_alloc | apply pw_below_drewN | apply below_drew1) | exact HB.out)) hb); clear HB; have HB := n0_; clear n0_; (try clear hb); (try clear hb2); (try clear hk); (try clear hi)))
      go_ret
      exact ⟨by first | rfl | (simp [errW_none, errW_some] <;> rfl) | (simp [*, errW_none, errW_some] <;> rfl), by repeat (first | (with_reducible first | exact HB.out | apply below_alloc | apply pw_below_drewN | apply below_drew1) | exact HB.out)⟩
    · rw [if_neg c4] at H
      exact absurd H (by simp)
  · rw [if_neg c2] at H
    have c2b0 : decide (a0 < 0) = false := decide_eq_false c2
    clear c2
    by_cases c6 : a0 < 10
    · rw [if_pos c6] at H
      have c6b0 : decide (a0 < 10) = true := decide_eq_true c6
      clear c6
      obtain ⟨y111, hy111⟩ : ∃ y_ : List Int, y_ = (([(wrap64 (48 + a0)) % 256] : List Int)) := ⟨_, rfl⟩
      replace H : (some (strOfNums y111)) = some r := by first | (rw [hy111]; with_reducible exact H) | (have H2_ := (Option.bind_some _ _).symm.trans H; rw [hy111]; with_reducible exact H2_) | (have H2_ := (Option.bind_some _ _).symm.trans H; with_reducible exact H2_) | with_reducible exact H | (rw [hy111]; exact H) | exact H
      have Ny111 := Aside0.mk hy111
      clear hy111
      obtain rfl := Option.some.inj H
      go_enter Tryz.func73, Tryz.ntmps73
      go_wp2_with (first | ((with_reducible refine gate_dst (N := 14) rfl ?_); refine Kd.R_lit (Kd.int .u8) _ 5 ?hg (N := 14) ?hd (xs := ([(wrap64 (48 + a0)) % 256] : List Int)) (inner := [.int .u8 ((wrap64 (48 + a0)) % 256)]) (ok := fun _ => True) (okp := fun _ => True) ?hr ?hp (fun _ hk => hk) trivial (Below.refl _ _) (Nat.le_refl _) (by simp) ?_; (case hd => rfl); (case hg => rfl); (case hr => first | (go_simp; done) | (go_simp; rfl)); (case hp => exact (Reps.one (show Kd.M (Kd.int .u8) _ _ _ ((wrap64 (48 + a0)) % 256) [.int .u8 ((wrap64 (48 + a0)) % 256)] from rfl) (Reps.none _ _))); intro v112 w7 ho8 hb hg_ hnew_; clear hg_ hnew_; (first | rw [← Ny111.out] at ho8 | (simp only [Int.reduceToNat] at ho8; rw [← Ny111.out] at ho8)); have n0_ := Aside0.mk (Kd.R_lower ho8 (below_size (by repeat (first | (with_reducible first | exact HB.out | apply below_alloc | apply pw_below_drewN | apply below_drew1) | exact HB.out)))); have n1_ := Aside0.mk (below_step (by repeat (first | (with_reducible first | exact HB.out | apply below_alloc | apply pw_below_drewN | apply below_drew1) | exact HB.out)) hb); clear HB; have HO113 := n0_; have HB := n1_; clear n0_ n1_; clear hb ho8; have hcv9 := own_string (P := Tryz.prog) Tryz.underlying22 Tryz.underlying5 Tryz.underlying9 (Kd.own_of_R HO113.out)))
      go_ret
      exact ⟨by first | rfl | (simp [errW_none, errW_some] <;> rfl) | (simp [*, errW_none, errW_some] <;> rfl), by repeat (first | (with_reducible first | exact HB.out | apply below_alloc | apply pw_below_drewN | apply below_drew1) | exact HB.out)⟩
    · rw [if_neg c6] at H
      have c6b0 : decide (a0 < 10) = false := decide_eq_false c6
      clear c6
      replace H := Option.bind_eq_some_iff.mp H
      obtain ⟨t114, A100, H⟩ := H
      replace H : ((some (([(wrap64 (48 + (Int.tmod a0 10))) % 256] : List Int) : List Int)).bind fun y115 => (if t114.size + (strOfNums y115).size ≤ 9223372036854775807 then (some (t114 ++ (strOfNums y115))) else (none))) = some r := H
      have A10 := Aside0.mk A100
      clear A100
      obtain ⟨y115, hy115⟩ : ∃ y_ : List Int, y_ = (([(wrap64 (48 + (Int.tmod a0 10))) % 256] : List Int)) := ⟨_, rfl⟩
      replace H : (if t114.size + (strOfNums y115).size ≤ 9223372036854775807 then (some (t114 ++ (strOfNums y115))) else (none)) = some r := by first | (rw [hy115]; with_reducible exact H) | (have H2_ := (Option.bind_some _ _).symm.trans H; rw [hy115]; with_reducible exact H2_) | (have H2_ := (Option.bind_some _ _).symm.trans H; with_reducible exact H2_) | with_reducible exact H | (rw [hy115]; exact H) | exact H
      have Ny115 := Aside0.mk hy115
      clear hy115
      by_cases c11 : t114.size + (strOfNums y115).size ≤ 9223372036854775807
      · rw [if_pos c11] at H
        have c11b0 := eq_true c11
        have c11b1 : decide (t114.size + (strOfNums y115).size ≤ 9223372036854775807) = true := decide_eq_true c11
        try have c11b2 : (9223372036854775807 < t114.size + (strOfNums y115).size) = False := eq_false (Nat.not_lt.2 c11)
        obtain rfl := Option.some.inj H
        go_enter Tryz.func73, Tryz.ntmps73
        try go_wp2
        have n0_ := Aside0.mk (below_drew1 HB.out)
        clear HB
        have HB := n0_
        clear n0_
        refine start_ (n := 11) (S := fun w' => True) (ds := []) #[false, false, false, false, false, false, false, false, false, false, false] (by kernel_rfl) rfl rfl trivial (fun hHeld => ?_); refine with_tabW spec_l6Dec.tab5 spec_l6Dec.bits5 (fun HT_ HW_ => ?_)
        generalize w.drew = w12 at HB hHeld ⊢
        refine pure_ (i := 0) (N := some 16) (v := ?_) (a' := ?_) #[true, false, false, false, false, false, false, false, false, false, false] rfl rfl (any_of HT_.out (by kernel_rfl)) (fun _ _ _ h => h) (Or.inl ⟨by rfl, ?_⟩) ?_ ?_
        rotate_left
        · intro w'
          go_simp
          with_reducible rfl
        rotate_left
        · simp only [Act.put, List.setIfInBounds_toArray, List.set_cons_zero, List.set_cons_succ, i64_w, i32_w]
          rfl
        refine pure_ (i := 1) (N := some 17) (v := ?_) (a' := ?_) #[true, true, false, false, false, false, false, false, false, false, false] rfl rfl (any_of HT_.out (by kernel_rfl)) (fun _ _ _ h => h) (Or.inl ⟨by rfl, ?_⟩) ?_ ?_
        rotate_left
        · intro w'
          go_simp
          with_reducible rfl
        rotate_left
        · simp only [Act.put, List.setIfInBounds_toArray, List.set_cons_zero, List.set_cons_succ, i64_w, i32_w]
          rfl
        refine pure_ (i := 3) (N := some 19) (v := ?_) (a' := ?_) #[true, true, false, true, false, false, false, false, false, false, false] rfl rfl (any_of HT_.out (by kernel_rfl)) (fun _ _ _ h => h) (Or.inl ⟨by rfl, ?_⟩) ?_ ?_
        rotate_left
        · intro w'
          go_simp
          with_reducible rfl
        rotate_left
        · simp only [Act.put, List.setIfInBounds_toArray, List.set_cons_zero, List.set_cons_succ, i64_w, i32_w]
          rfl
        refine pure_ (i := 4) (N := some 20) (v := ?_) (a' := ?_) #[true, true, false, true, true, false, false, false, false, false, false] rfl rfl (any_of HT_.out (by kernel_rfl)) (fun _ _ _ h => h) (Or.inl ⟨by rfl, ?_⟩) ?_ ?_
        rotate_left
        · intro w'
          go_simp
          with_reducible rfl
        rotate_left
        · simp only [Act.put, List.setIfInBounds_toArray, List.set_cons_zero, List.set_cons_succ, i64_w, i32_w]
          rfl
        refine pure_ (i := 5) (N := some 21) (v := ?_) (a' := ?_) #[true, true, false, true, true, true, false, false, false, false, false] rfl rfl (any_of HT_.out (by kernel_rfl)) (fun _ _ _ h => h) (Or.inl ⟨by rfl, ?_⟩) ?_ ?_
        rotate_left
        · intro w'
          go_simp
          with_reducible rfl
        rotate_left
        · simp only [Act.put, List.setIfInBounds_toArray, List.set_cons_zero, List.set_cons_succ, i64_w, i32_w]
          rfl
        refine pure_ (i := 6) (N := some 22) (v := ?_) (a' := ?_) #[true, true, false, true, true, true, true, false, false, false, false] rfl rfl (any_of HT_.out (by kernel_rfl)) (fun _ _ _ h => h) (Or.inl ⟨by rfl, ?_⟩) ?_ ?_
        rotate_left
        · intro w'
          go_simp
          with_reducible rfl
        rotate_left
        · simp only [Act.put, List.setIfInBounds_toArray, List.set_cons_zero, List.set_cons_succ, i64_w, i32_w]
          rfl
        refine join_ (σ := Value) 2 #[true, true, true, true, true, true, true, true, true, false, false] (fun s_ => [(18, .string t114), (23, s_), (24, .string (strOfNums y115))]) (fun s_ w' => (Kd.R (Kd.int .u8) 5 w' w.heap.size (fun _ => True) s_ y115) ∧ (Below w.heap.size w w')) ?_ ?_
        rotate_left
        · intro hCont
          refine two_ (i := 2) (j := 7) (Ni := some 18) (Nj := some 23) #[true, true, true, true, true, true, true, false, false, false, false] #[true, true, false, true, true, true, true, true, false, false, false] rfl rfl rfl rfl (two_of HT_.out (by kernel_rfl)) (by decide) (by decide) (fun K hK => ?_) (fun K hK => ?_)
          · skip
            refine goes_ Tryz.func73 (by kernel_rfl) rfl #[.int .i64 (wrap64 (Int.tdiv a0 10))] (by rfl) rfl rfl (by (try simp only [List.map_toArray, List.map_cons, List.map_nil]); first | done | rfl | (simp only [List.length_drop, List.length_take]; rfl)) ?_
            with_reducible refine (ih k (by omega) (wrap64 (Int.tdiv a0 10)) t114 _ A10.out).mono ?_
            rintro e w13 ⟨rfl, hb⟩
            refine ⟨_, rfl, ?_⟩
            have n0_ := Aside0.mk (below_step (by repeat (first | (with_reducible first | exact HB.out | apply below_alloc | apply pw_below_drewN | apply below_drew1) | exact HB.out)) hb)
            clear HB
            have HB := n0_
            clear n0_
            (try clear hb)
            (try clear hb2)
            (try clear hk)
            (try clear hi)
            refine hK.out _ _ trivial (fun hHeld => ?_)
            clear hK K
            refine norm_ (a' := ?_) ?_ ?_
            rotate_left
            · show Act.put _ (some 18) _ = _
              simp only [Act.put, List.setIfInBounds_toArray, List.set_cons_zero, List.set_cons_succ, i64_w, i32_w]
              rfl
            refine one_ (i := 7) (N := some 23) #[true, true, true, true, true, true, true, true, false, false, false] rfl rfl (one_of HT_.out (by kernel_rfl)) (by decide) (fun K hK => ?_)
            refine Kd.R_lit_step (Kd.int .u8) _ 5 ?hg (N := 23) ?hd (xs := ([(wrap64 (48 + (Int.tmod a0 10))) % 256] : List Int)) (inner := [.int .u8 ((wrap64 (48 + (Int.tmod a0 10))) % 256)]) (ok := fun _ => True) (okp := fun _ => True) ?hr ?hp (fun _ hk => hk) trivial (Below.refl _ _) (Nat.le_refl _) (by simp) ?_; (case hd => rfl); (case hg => rfl); (case hr => first | (go_simp; done) | (go_simp; rfl)); (case hp => exact (Reps.one (show Kd.M (Kd.int .u8) _ _ _ ((wrap64 (48 + (Int.tmod a0 10))) % 256) [.int .u8 ((wrap64 (48 + (Int.tmod a0 10))) % 256)] from rfl) (Reps.none _ _)))
            intro v116 w14 ho15 hb hg_ hnew_
            clear hg_ hnew_
            (first | rw [← Ny115.out] at ho15 | (simp only [Int.reduceToNat] at ho15; rw [← Ny115.out] at ho15))
            have n0_ := Aside0.mk (Kd.R_lower ho15 (below_size (by repeat (first | (with_reducible first | exact HB.out | apply below_alloc | apply pw_below_drewN | apply below_drew1) | exact HB.out))))
            have n1_ := Aside0.mk (below_step (by repeat (first | (with_reducible first | exact HB.out | apply below_alloc | apply pw_below_drewN | apply below_drew1) | exact HB.out)) hb)
            clear HB
            have HO117 := n0_
            have HB := n1_
            clear n0_ n1_
            clear hb ho15
            refine hK.out _ _ trivial (fun hHeld => ?_)
            clear hK K
            refine norm_ (a' := ?_) ?_ ?_
            rotate_left
            · show Act.put _ (some 23) _ = _
              simp only [Act.put, List.setIfInBounds_toArray, List.set_cons_zero, List.set_cons_succ, i64_w, i32_w]
              rfl
            refine one_ (i := 8) (N := some 24) #[true, true, true, true, true, true, true, true, true, false, false] rfl rfl (one_of HT_.out (by kernel_rfl)) (by decide) (fun K hK => ?_)
            have hcv16 := own_string (P := Tryz.prog) Tryz.underlying22 Tryz.underlying5 Tryz.underlying9 (Kd.own_of_R HO117.out)
            refine value_ (w1 := ?_) (v := ?_) (by rfl) rfl ?_ ?_
            rotate_left 2
            · go_simp
              constructor
              · rfl
              · rfl
            clear hcv16
            refine hK.out _ _ trivial (fun hHeld => ?_)
            clear hK K
            refine norm_ (a' := ?_) ?_ ?_
            rotate_left
            · show Act.put _ (some 24) _ = _
              simp only [Act.put, List.setIfInBounds_toArray, List.set_cons_zero, List.set_cons_succ, i64_w, i32_w]
              rfl
            exact norm_ (by simp only [putAll, Act.put, List.setIfInBounds_toArray, List.set_cons_zero, List.set_cons_succ]) (hCont (v116) _ ⟨(by (with_reducible repeat (first | apply Kd.R_alloc | apply Kd.R_drewN | apply Kd.R_drew)); exact HO117.out), (by repeat (first | (with_reducible first | exact HB.out | apply below_alloc | apply pw_below_drewN | apply below_drew1) | exact HB.out))⟩)
          · skip
            refine Kd.R_lit_step (Kd.int .u8) _ 5 ?hg (N := 23) ?hd (xs := ([(wrap64 (48 + (Int.tmod a0 10))) % 256] : List Int)) (inner := [.int .u8 ((wrap64 (48 + (Int.tmod a0 10))) % 256)]) (ok := fun _ => True) (okp := fun _ => True) ?hr ?hp (fun _ hk => hk) trivial (Below.refl _ _) (Nat.le_refl _) (by simp) ?_; (case hd => rfl); (case hg => rfl); (case hr => first | (go_simp; done) | (go_simp; rfl)); (case hp => exact (Reps.one (show Kd.M (Kd.int .u8) _ _ _ ((wrap64 (48 + (Int.tmod a0 10))) % 256) [.int .u8 ((wrap64 (48 + (Int.tmod a0 10))) % 256)] from rfl) (Reps.none _ _)))
            intro v116 w13 ho14 hb hg_ hnew_
            clear hg_ hnew_
            (first | rw [← Ny115.out] at ho14 | (simp only [Int.reduceToNat] at ho14; rw [← Ny115.out] at ho14))
            have n0_ := Aside0.mk (Kd.R_lower ho14 (below_size (by repeat (first | (with_reducible first | exact HB.out | apply below_alloc | apply pw_below_drewN | apply below_drew1) | exact HB.out))))
            have n1_ := Aside0.mk (below_step (by repeat (first | (with_reducible first | exact HB.out | apply below_alloc | apply pw_below_drewN | apply below_drew1) | exact HB.out)) hb)
            clear HB
            have HO117 := n0_
            have HB := n1_
            clear n0_ n1_
            clear hb ho14
            refine hK.out _ _ trivial (fun hHeld => ?_)
            clear hK K
            refine norm_ (a' := ?_) ?_ ?_
            rotate_left
            · show Act.put _ (some 23) _ = _
              simp only [Act.put, List.setIfInBounds_toArray, List.set_cons_zero, List.set_cons_succ, i64_w, i32_w]
              rfl
            refine two_ (i := 2) (j := 8) (Ni := some 18) (Nj := some 24) #[true, true, true, true, true, true, true, true, false, false, false] #[true, true, false, true, true, true, true, true, true, false, false] rfl rfl rfl rfl (two_of HT_.out (by kernel_rfl)) (by decide) (by decide) (fun K hK => ?_) (fun K hK => ?_)
            · skip
              refine goes_ Tryz.func73 (by kernel_rfl) rfl #[.int .i64 (wrap64 (Int.tdiv a0 10))] (by rfl) rfl rfl (by (try simp only [List.map_toArray, List.map_cons, List.map_nil]); first | done | rfl | (simp only [List.length_drop, List.length_take]; rfl)) ?_
              with_reducible refine (ih k (by omega) (wrap64 (Int.tdiv a0 10)) t114 _ A10.out).mono ?_
              rintro e w15 ⟨rfl, hb⟩
              refine ⟨_, rfl, ?_⟩
              have n0_ := Aside0.mk (Kd.R_below (by (with_reducible repeat (first | apply Kd.R_alloc | apply Kd.R_drewN | apply Kd.R_drew)); exact HO117.out) hb)
              have n1_ := Aside0.mk (below_step (by repeat (first | (with_reducible first | exact HB.out | apply below_alloc | apply pw_below_drewN | apply below_drew1) | exact HB.out)) hb)
              clear HO117
              clear HB
              have HO117 := n0_
              have HB := n1_
              clear n0_ n1_
              (try clear hb)
              (try clear hb2)
              (try clear hk)
              (try clear hi)
              refine hK.out _ _ trivial (fun hHeld => ?_)
              clear hK K
              refine norm_ (a' := ?_) ?_ ?_
              rotate_left
              · show Act.put _ (some 18) _ = _
                simp only [Act.put, List.setIfInBounds_toArray, List.set_cons_zero, List.set_cons_succ, i64_w, i32_w]
                rfl
              refine one_ (i := 8) (N := some 24) #[true, true, true, true, true, true, true, true, true, false, false] rfl rfl (one_of HT_.out (by kernel_rfl)) (by decide) (fun K hK => ?_)
              have hcv16 := own_string (P := Tryz.prog) Tryz.underlying22 Tryz.underlying5 Tryz.underlying9 (Kd.own_of_R HO117.out)
              refine value_ (w1 := ?_) (v := ?_) (by rfl) rfl ?_ ?_
              rotate_left 2
              · go_simp
                constructor
                · rfl
                · rfl
              clear hcv16
              refine hK.out _ _ trivial (fun hHeld => ?_)
              clear hK K
              refine norm_ (a' := ?_) ?_ ?_
              rotate_left
              · show Act.put _ (some 24) _ = _
                simp only [Act.put, List.setIfInBounds_toArray, List.set_cons_zero, List.set_cons_succ, i64_w, i32_w]
                rfl
              exact norm_ (by simp only [putAll, Act.put, List.setIfInBounds_toArray, List.set_cons_zero, List.set_cons_succ]) (hCont (v116) _ ⟨(by (with_reducible repeat (first | apply Kd.R_alloc | apply Kd.R_drewN | apply Kd.R_drew)); exact HO117.out), (by repeat (first | (with_reducible first | exact HB.out | apply below_alloc | apply pw_below_drewN | apply below_drew1) | exact HB.out))⟩)
            · skip
              have hcv15 := own_string (P := Tryz.prog) Tryz.underlying22 Tryz.underlying5 Tryz.underlying9 (Kd.own_of_R HO117.out)
              refine value_ (w1 := ?_) (v := ?_) (by rfl) rfl ?_ ?_
              rotate_left 2
              · go_simp
                constructor
                · rfl
                · rfl
              clear hcv15
              refine hK.out _ _ trivial (fun hHeld => ?_)
              clear hK K
              refine norm_ (a' := ?_) ?_ ?_
              rotate_left
              · show Act.put _ (some 24) _ = _
                simp only [Act.put, List.setIfInBounds_toArray, List.set_cons_zero, List.set_cons_succ, i64_w, i32_w]
                rfl
              refine one_ (i := 2) (N := some 18) #[true, true, true, true, true, true, true, true, true, false, false] rfl rfl (one_of HT_.out (by kernel_rfl)) (by decide) (fun K hK => ?_)
              refine goes_ Tryz.func73 (by kernel_rfl) rfl #[.int .i64 (wrap64 (Int.tdiv a0 10))] (by rfl) rfl rfl (by (try simp only [List.map_toArray, List.map_cons, List.map_nil]); first | done | rfl | (simp only [List.length_drop, List.length_take]; rfl)) ?_
              with_reducible refine (ih k (by omega) (wrap64 (Int.tdiv a0 10)) t114 _ A10.out).mono ?_
              rintro e w16 ⟨rfl, hb⟩
              refine ⟨_, rfl, ?_⟩
              have n0_ := Aside0.mk (Kd.R_below (by (with_reducible repeat (first | apply Kd.R_alloc | apply Kd.R_drewN | apply Kd.R_drew)); exact HO117.out) hb)
              have n1_ := Aside0.mk (below_step (by repeat (first | (with_reducible first | exact HB.out | apply below_alloc | apply pw_below_drewN | apply below_drew1) | exact HB.out)) hb)
              clear HO117
              clear HB
              have HO117 := n0_
              have HB := n1_
              clear n0_ n1_
              (try clear hb)
              (try clear hb2)
              (try clear hk)
              (try clear hi)
              refine hK.out _ _ trivial (fun hHeld => ?_)
              clear hK K
              refine norm_ (a' := ?_) ?_ ?_
              rotate_left
              · show Act.put _ (some 18) _ = _
                simp only [Act.put, List.setIfInBounds_toArray, List.set_cons_zero, List.set_cons_succ, i64_w, i32_w]
                rfl
              exact norm_ (by simp only [putAll, Act.put, List.setIfInBounds_toArray, List.set_cons_zero, List.set_cons_succ]) (hCont (v116) _ ⟨(by (with_reducible repeat (first | apply Kd.R_alloc | apply Kd.R_drewN | apply Kd.R_drew)); exact HO117.out), (by repeat (first | (with_reducible first | exact HB.out | apply below_alloc | apply pw_below_drewN | apply below_drew1) | exact HB.out))⟩)
        rintro v116 w17 ⟨h0_, h1_⟩
        have n0_ : Aside0 (Kd.R (Kd.int .u8) 5 w17 w.heap.size (fun _ => True) v116 y115) := ⟨h0_⟩
        have n1_ : Aside0 (Below w.heap.size w w17) := ⟨h1_⟩
        clear HB
        clear h0_ h1_
        have HO117 := n0_
        have HB := n1_
        clear n0_ n1_
        have hHeld := trivial
        refine norm_ (a' := ?_) ?_ ?_
        rotate_left
        · simp only [putAll, Act.put, List.setIfInBounds_toArray, List.set_cons_zero, List.set_cons_succ]
          rfl
        refine pure_ (i := 9) (N := some 25) (v := ?_) (a' := ?_) #[true, true, true, true, true, true, true, true, true, true, false] rfl rfl (any_of HT_.out (by kernel_rfl)) (fun _ _ _ h => h) (Or.inl ⟨by rfl, ?_⟩) ?_ ?_
        rotate_left
        · intro w'
          go_simp
          with_reducible rfl
        rotate_left
        · simp only [Act.put, List.setIfInBounds_toArray, List.set_cons_zero, List.set_cons_succ, i64_w, i32_w]
          rfl
        refine pure_ (i := 10) (N := some 2) (v := ?_) (a' := ?_) #[true, true, true, true, true, true, true, true, true, true, true] rfl rfl (any_of HT_.out (by kernel_rfl)) (fun _ _ _ h => h) (Or.inl ⟨by rfl, ?_⟩) ?_ ?_
        rotate_left
        · intro w'
          go_simp
          with_reducible rfl
        rotate_left
        · simp only [Act.put, List.setIfInBounds_toArray, List.set_cons_zero, List.set_cons_succ, i64_w, i32_w]
          rfl
        refine done_ (done_of HT_.out (by kernel_rfl)) ?_
        try go_wp2
        go_ret
        exact ⟨by first | rfl | (simp [errW_none, errW_some] <;> rfl) | (simp [*, errW_none, errW_some] <;> rfl), by repeat (first | (with_reducible first | exact HB.out | apply below_alloc | apply pw_below_drewN | apply below_drew1) | exact HB.out)⟩
      · rw [if_neg c11] at H
        exact absurd H (by simp)
end Go.Proofs.YthcpbojmalgdbaaGreat.Q
end
section
namespace Go.Proofs.YthcpbojmalgdbaaGreat.Q
open Go.RowKit Go.Proofs.YthcpbojmalgdbaaGreatW.PrintWords Go.Proofs.YthcpbojmalgdbaaGreatW.PrintLast Go.Proofs.YthcpbojmalgdbaaGreatW.PrintMore Go.Proofs.YthcpbojmalgdbaaGreat.Core
set_option linter.unusedVariables false
set_option linter.unusedSimpArgs false
def BsOk (bs : List Int) : Prop := bs.length ≤ 2000 ∧ ∀ b ∈ bs, 0 ≤ b ∧ b ≤ 255
theorem xor_small (a b : Nat) (ha : a < 1099511627776) (hb : b < 1099511627776) : 0 ≤ Go.bits .xor .i64 (a : Int) (b : Int) := by
  have ha : a < 2 ^ 40 := Nat.lt_of_lt_of_le ha (by decide)
  have hb : b < 2 ^ 40 := Nat.lt_of_lt_of_le hb (by decide)
  have hx : a ^^^ b < 1099511627776 := Nat.lt_of_lt_of_le (Nat.xor_lt_two_pow ha hb) (by decide)
  have h : Go.bits .xor .i64 (a : Int) (b : Int) = ((a ^^^ b : Nat) : Int) := by
    have ha' : a % 2 ^ IntKind.i64.bits = a := Nat.mod_eq_of_lt (Nat.lt_of_lt_of_le ha (by decide))
    have hb' : b % 2 ^ IntKind.i64.bits = b := Nat.mod_eq_of_lt (Nat.lt_of_lt_of_le hb (by decide))
    simp only [Go.bits, BitVec.ofInt_natCast, BitVec.toNat_xor, BitVec.toNat_ofNat, ha', hb']
    rw [IntKind.wrap_i64]
    omega
  rw [h]
  exact Int.natCast_nonneg _
theorem rd_byte {bs : List Int} (hb : BsOk bs) (i : Int) : 0 ≤ rd bs i ∧ rd bs i ≤ 255 := by
  unfold rd
  rw [List.getD_eq_getElem?_getD]
  cases h : bs[i.toNat]? with
  | none => simp
  | some b => exact hb.2 b (List.mem_of_getElem? h)
theorem tmod_in {x n : Int} (hx : 0 ≤ x) (hn : 1 ≤ n) : 0 ≤ Int.tmod x n ∧ Int.tmod x n < n := by
  rw [Int.tmod_eq_emod_of_nonneg hx]
  exact ⟨Int.emod_nonneg _ (by omega), Int.emod_lt_of_pos _ (by omega)⟩
theorem pick_ex {bs : List Int} (hb : BsOk bs) (p n : Int) (hp : 0 ≤ p) (hp1 : p ≤ 1000000) (hn : 1 ≤ n) (hn1 : n ≤ 1000) (K : Nat) (hK : 1 ≤ K) : ∃ r, spec_l1Rd_pick.f K bs p n = some (r, p + 1) ∧ 0 ≤ r ∧ r < n := by
  obtain ⟨K, rfl⟩ : ∃ m, K = m + 1 := ⟨K - 1, by omega⟩
  have e1 : wrap64 (p + 1) = p + 1 := wrap_small (by omega) (by omega)
  have e2 : wrap64 (p + 1 - 1) = p := by rw [wrap_small (by omega) (by omega)]; omega
  unfold spec_l1Rd_pick.f
  rw [if_neg (by omega), e1]
  simp only [spec_l1Rd_pick.j0]
  rw [e2]
  by_cases h0 : (bs.length : Int) = 0
  · rw [if_pos (by simp [h0])]
    exact ⟨0, rfl, Int.le_refl _, by omega⟩
  · rw [if_neg (by simpa using h0)]
    by_cases h1 : p < (bs.length : Int)
    · have hr := rd_byte hb p
      have e3 : wrap64 (rd bs p) = rd bs p := wrap_small (by omega) (by omega)
      rw [if_pos h1, if_pos hp, if_neg (by omega), e3]
      exact ⟨_, rfl, tmod_in hr.1 hn⟩
    · have hlen : 1 ≤ (bs.length : Int) := by omega
      have t1 := tmod_in (x := p) hp hlen
      have e4 : wrap64 (p * 7) = p * 7 := wrap_small (by omega) (by omega)
      have e5 : wrap64 (p * 7 + 3) = p * 7 + 3 := wrap_small (by omega) (by omega)
      have t2 := tmod_in (x := p * 7 + 3) (by omega) hlen
      rw [if_neg h1, if_neg h0, if_pos t1.1, if_pos t1.2, e4, e5, if_pos t2.1, if_pos t2.2, if_neg (by omega)]
      have r1 := rd_byte hb (Int.tmod p bs.length)
      have r2 := rd_byte hb (Int.tmod (p * 7 + 3) bs.length)
      obtain ⟨a, ha⟩ : ∃ a, a = rd bs (Int.tmod p bs.length) := ⟨_, rfl⟩
      obtain ⟨b, hb2⟩ : ∃ b, b = rd bs (Int.tmod (p * 7 + 3) bs.length) := ⟨_, rfl⟩
      rw [← ha] at r1 ⊢
      rw [← hb2] at r2 ⊢
      have q0 : 0 ≤ Int.tdiv p bs.length ∧ Int.tdiv p bs.length ≤ p := by
        rw [Int.tdiv_eq_ediv_of_nonneg hp]
        exact ⟨Int.ediv_nonneg hp (by omega), Int.ediv_le_self _ hp⟩
      obtain ⟨q, hq⟩ : ∃ q, q = Int.tdiv p (bs.length : Int) := ⟨_, rfl⟩
      rw [← hq] at q0 ⊢
      have w1 : wrap64 a = a := wrap_small (by omega) (by omega)
      have w2 : wrap64 b = b := wrap_small (by omega) (by omega)
      have w3 : wrap64 (a * 131) = a * 131 := wrap_small (by omega) (by omega)
      have w4 : wrap64 (b * 1117) = b * 1117 := wrap_small (by omega) (by omega)
      have w5 : wrap64 (a * 131 + b * 1117) = a * 131 + b * 1117 := wrap_small (by omega) (by omega)
      have w6 : wrap64 (p * 29) = p * 29 := wrap_small (by omega) (by omega)
      have w7 : wrap64 (a * 131 + b * 1117 + p * 29) = a * 131 + b * 1117 + p * 29 := wrap_small (by omega) (by omega)
      have w8 : wrap64 q = q := wrap_small (by omega) (by omega)
      have w9 : wrap64 (q * 53) = q * 53 := wrap_small (by omega) (by omega)
      have w10 : wrap64 (a * 131 + b * 1117 + p * 29 + q * 53) = a * 131 + b * 1117 + p * 29 + q * 53 := wrap_small (by omega) (by omega)
      rw [w1, w2, w3, w4, w5, w6, w7, w8, w9, w10]
      obtain ⟨x, hx⟩ : ∃ x : Nat, (x : Int) = a * 131 + b * 1117 + p * 29 + q * 53 := ⟨(a * 131 + b * 1117 + p * 29 + q * 53).toNat, by omega⟩
      rw [← hx]
      have hx1 : x < 1099511627776 := by omega
      have hx2 : x / 64 < 1099511627776 := Nat.lt_of_le_of_lt (Nat.div_le_self _ _) hx1
      have e6 : Int.tdiv (x : Int) 64 = ((x / 64 : Nat) : Int) := by rw [Int.tdiv_eq_ediv_of_nonneg (by omega)]; rfl
      have e7 : wrap64 ((x / 64 : Nat) : Int) = ((x / 64 : Nat) : Int) := by
        obtain ⟨z, hz⟩ : ∃ z, z = x / 64 := ⟨_, rfl⟩
        rw [← hz] at hx2 ⊢
        exact wrap_small (by omega) (by omega)
      rw [e6, e7]
      exact ⟨_, rfl, tmod_in (xor_small x (x / 64) hx1 hx2) hn⟩
theorem of_ex {bs : List Int} (hb : BsOk bs) (p : Int) (l : List ByteArray) (hp : 0 ≤ p) (hp1 : p ≤ 1000000) (hl : 1 ≤ l.length) (hl1 : l.length ≤ 1000) (K : Nat) (hK : 1 ≤ K) : ∃ s, spec_l1Rd_of.f K bs p l = some (s, p + 1) ∧ s ∈ l := by
  obtain ⟨r, hr, h0, h1⟩ := pick_ex hb p l.length hp hp1 (by omega) (by omega) K hK
  unfold spec_l1Rd_of.f
  rw [hr, Option.bind_some, if_pos h0, if_pos h1]
  refine ⟨_, rfl, ?_⟩
  unfold rdOf
  have hlt : r.toNat < l.length := by omega
  rw [List.getD_eq_getElem?_getD, List.getElem?_eq_getElem hlt]
  exact List.getElem_mem hlt
theorem dec_ex : ∀ (n K : Nat) (a : Int), n ≤ 100000 → 0 ≤ a → a.toNat ≤ n → a ≤ 100000 → n + 1 ≤ K → ∃ s, spec_l6Dec.f K a = some s ∧ s.size ≤ n + 1 := by
  intro n
  induction n using Nat.strongRecOn with
  | ind n ih =>
    intro K a hnn h0 hn ha hK
    obtain ⟨K, rfl⟩ : ∃ m, K = m + 1 := ⟨K - 1, by omega⟩
    rw [spec_l6Dec.f, if_neg (by omega)]
    by_cases h1 : a < 10
    · rw [if_pos h1]
      exact ⟨_, rfl, by rw [strOfNums_one]; omega⟩
    · rw [if_neg h1]
      have e : wrap64 (Int.tdiv a 10) = a / 10 := by rw [Int.tdiv_eq_ediv_of_nonneg h0]; exact wrap_small (by omega) (by omega)
      obtain ⟨s, hs, hl⟩ := ih (n - 1) (by omega) K (a / 10) (by omega) (by omega) (by omega) (by omega) (by omega)
      rw [e, hs, Option.bind_some, Option.bind_some, if_pos (by rw [strOfNums_one]; omega)]
      exact ⟨_, rfl, by rw [ByteArray.size_append, strOfNums_one]; omega⟩
end Go.Proofs.YthcpbojmalgdbaaGreat.Q
end
section
namespace Go.Proofs.YthcpbojmalgdbaaGreat.Q
open Go.RowKit Go.Proofs.YthcpbojmalgdbaaGreatW.PrintWords Go.Proofs.YthcpbojmalgdbaaGreatW.PrintLast Go.Proofs.YthcpbojmalgdbaaGreatW.PrintMore Go.Proofs.YthcpbojmalgdbaaGreat.Core
set_option linter.unusedVariables false
set_option linter.unusedSimpArgs false
structure Rdr (w0 w : World) (g : Nat) (bs : List Int) (p : Int) : Prop where
  is : IsS52 w0 w g bs p
  ok : BsOk bs
  p0 : 0 ≤ p
  hb : Below w0.heap.size w0 w
theorem Rdr.lt {w0 w : World} {g : Nat} {bs : List Int} {p : Int} (h : Rdr w0 w g bs p) : g < w.heap.size := h.is.lt
theorem Rdr.alloc {w0 w : World} {g : Nat} {bs : List Int} {p : Int} (h : Rdr w0 w g bs p) (o : Obj) : Rdr w0 (w.alloc o) g bs p := ⟨h.is.alloc o, h.ok, h.p0, h.hb.alloc h.hb.size o⟩
theorem Rdr.drewN {w0 w : World} {g : Nat} {bs : List Int} {p : Int} (h : Rdr w0 w g bs p) (m : Nat) : Rdr w0 (w.drewN m) g bs p := ⟨h.is.drewN m, h.ok, h.p0, pw_below_drewN h.hb m⟩
theorem Rdr.below {w0 w w1 : World} {g : Nat} {bs : List Int} {p : Int} (h : Rdr w0 w g bs p) (hb : Below w.heap.size w w1) : Rdr w0 w1 g bs p := ⟨h.is.below hb, h.ok, h.p0, below_next h.hb h.hb.size hb⟩
theorem Rdr.far {w0 w : World} {g : Nat} {bs : List Int} {p : Int} (h : Rdr w0 w g bs p) {q : Addr} (hne : g ≠ q.block) (hq : w0.heap.size ≤ q.block) (u : Value) : Rdr w0 (w.setCell q u) g bs p := ⟨h.is.far hne u, h.ok, h.p0, h.hb.setCell hq u⟩
theorem Rdr.grown {w0 w w1 : World} {g : Nat} {bs : List Int} {p : Int} {row : Option Nat} (h : Rdr w0 w g bs p) (hg : w.grownBy w1 row) (hne : some g ≠ row) (hq : ∀ j, row = some j → w0.heap.size ≤ j) : Rdr w0 w1 g bs p :=
  ⟨h.is.grown hg hne, h.ok, h.p0, h.hb.grown hg h.hb.size hq⟩
theorem pick_any {w0 w : World} {g : Nat} {bs : List Int} {p : Int} (h : Rdr w0 w g bs p) (n : Int) (hp : p ≤ 1000000) (hn : 1 ≤ n) (hn1 : n ≤ 1000) :
    Calls Tryz.prog 19 #[.pointer (some ⟨g, 0, none⟩), .int .i64 n] w fun e w' => ∃ r, 0 ≤ r ∧ r < n ∧ e = .returned (.int .i64 r) ∧ Rdr w0 w' g bs (p + 1) ∧ KeepBut w w' g none := by
  obtain ⟨r, hr, h0, h1⟩ := pick_ex h.ok p n h.p0 hp hn hn1 1 (Nat.le_refl _)
  refine (spec_l1Rd_pick.calls 1 g bs p n r (p + 1) w0 w h.is h.hb hr).mono ?_
  rintro e w' ⟨he, hi, hb, hk⟩
  exact ⟨r, h0, h1, he, ⟨hi, h.ok, by have := h.p0; omega, hb⟩, hk⟩
theorem of_any {w0 w : World} {g : Nat} {bs : List Int} {p : Int} (h : Rdr w0 w g bs p) (A : Option Addr) (c : Nat) (l : List ByteArray) (hr : Kd.C Kd.string w A l.length l) (hc : l.length ≤ c) (hne : ∀ ad, A = some ad → 0 < l.length → ad.block ≠ g) (hp : p ≤ 1000000) (hl : 1 ≤ l.length) (hl1 : l.length ≤ 1000) :
    Calls Tryz.prog 54 #[.pointer (some ⟨g, 0, none⟩), .slice A l.length c] w fun e w' => ∃ s, e = .returned (.string s) ∧ Rdr w0 w' g bs (p + 1) ∧ KeepBut w w' g none := by
  obtain ⟨s, hs, _⟩ := of_ex h.ok p l h.p0 hp hl hl1 1 (Nat.le_refl _)
  refine (spec_l1Rd_of.calls 1 g bs p A c l s (p + 1) w0 w h.is h.hb hr hc hne hs).mono ?_
  rintro e w' ⟨he, hi, hb, hk⟩
  exact ⟨s, he, ⟨hi, h.ok, by have := h.p0; omega, hb⟩, hk⟩
theorem litS (w : World) (xs : List ByteArray) (h : xs.length ≤ 1000) : Kd.R Kd.string 9 (w.alloc (.cells (xs.map Value.string).toArray 9)) w.heap.size (fun _ => True) (.slice (some ⟨w.heap.size, 0, none⟩) xs.length xs.length) xs :=
  Kd.R_of_own (enc := Value.string) (h1 := fun _ => rfl) (xs := xs) ⟨by simp [encs], .inr ⟨w.heap.size, xs.length, (xs.map Value.string).toArray, rfl, Nat.le_refl _, heap_alloc_new w _, Nat.le_refl _, by unfold maxLen; omega, by simp, by simp [encs, List.take_of_length_le]⟩⟩ (fun _ _ => trivial)
theorem litSC (w : World) (xs : List ByteArray) (h : xs.length ≤ 1000) : Kd.C Kd.string (w.alloc (.cells (xs.map Value.string).toArray 9)) (some ⟨w.heap.size, 0, none⟩) xs.length xs := (Kd.R_reads' (litS w xs h)).2.2
def smallL (f : Flight) : Prop := -1 ≤ f.f1 ∧ f.f1 ≤ 10001 ∧ -1 ≤ f.f2 ∧ f.f2 ≤ 61
theorem keep_blk {w w' : World} {g b : Nat} {o : Obj} (hk : KeepBut w w' g none) (h : w.heap[b]? = some o) (hne : b ≠ g) : w'.heap[b]? = some o := (hk.2 b (Array.getElem?_eq_some_iff.1 h).1 hne (by simp)).trans h
theorem pw_keep_cellR {w w' : World} {g b j : Nat} {row : Option Nat} {v : Value} (hk : KeepBut w w' g row) (hne : b ≠ g) (hr : some b ≠ row) (h : w.cell? ⟨b, j, none⟩ = some v) : w'.cell? ⟨b, j, none⟩ = some v := by
  have hl : b < w.heap.size := World.block_lt_of_cell? w ⟨b, j, none⟩ h
  rw [← h]
  unfold World.cell?
  rw [hk.2 b hl hne hr]
theorem pw_keep_cell {w w' : World} {g b j : Nat} {v : Value} (hk : KeepBut w w' g none) (hne : b ≠ g) (h : w.cell? ⟨b, j, none⟩ = some v) : w'.cell? ⟨b, j, none⟩ = some v := pw_keep_cellR hk hne (by simp) h
theorem R_keep {α : Type} {d : Kd α} {e base g : Nat} {w w' : World} {ok : Nat → Prop} {v : Value} {xs : List α} (h : d.R e w base ok v xs) (hk : KeepBut w w' g none) (hne : ∀ k, ok k → k ≠ g) : d.R e w' base ok v xs :=
  Kd.R_step h (fun k ho hk2 => hk.2 k hk2 (hne k ho) (by simp))
theorem sector_any {w0 w : World} {g : Nat} {bs : List Int} {p : Int} (h : Rdr w0 w g bs p) (hp : p ≤ 1000000) :
    Calls Tryz.prog 72 #[.pointer (some ⟨g, 0, none⟩)] w fun e w' => ∃ s, e = .returned (.string s) ∧ Rdr w0 w' g bs (p + 1) ∧ KeepBut w w' g none := by
  have hgl := h.lt
  have H := Lib.hid h
  clear h
  go_enter Tryz.func72, Tryz.ntmps72
  go_wp2_with (fail)
  refine (of_any (H.out.alloc _) _ 6 [⟨#[101]⟩, ⟨#[101]⟩, ⟨#[110, 45, 49]⟩, ⟨#[119]⟩, ⟨#[119]⟩, ⟨#[122, 122]⟩] (litSC w _ (by decide)) (by decide) (fun ad e _ => by injection e with e; rw [← e]; show w.heap.size ≠ g; omega) hp (by decide) (by decide)).mono ?_
  rintro e w1 ⟨s, rfl, h1, k1⟩
  have H1 := Lib.hid h1
  have K1 := Lib.hid ((KeepBut.of_below (below_alloc (Below.refl _ _) _) g none).trans k1 (.inl rfl))
  clear h1 k1
  go_wp2
  go_ret
  exact ⟨s, rfl, H1.out, K1.out⟩
theorem names_any (w : World) : Calls Tryz.prog 55 #[] w fun e w' => ∃ (v : Value) (l : List ByteArray), l.length = 8 ∧ e = .returned v ∧ Kd.R Kd.string 9 w' w.heap.size (fun _ => True) v l ∧ Below w.heap.size w w' := by
  go_enter Tryz.func55, Tryz.ntmps55
  go_wp2
  go_ret
  exact ⟨_, [⟨#[97, 49]⟩, ⟨#[98, 97]⟩, ⟨#[99, 45, 99]⟩, ⟨#[100]⟩, ⟨#[107, 108, 49]⟩, ⟨#[108, 104]⟩, ⟨#[113]⟩, ⟨#[120, 57]⟩], rfl, rfl, litS w _ (by decide), below_alloc (Below.refl _ _) _⟩
theorem dec_any (n : Int) (w : World) (h0 : 0 ≤ n) (h1 : n ≤ 1000) : Calls Tryz.prog 73 #[.int .i64 n] w fun e w' => ∃ s, s.size ≤ 1001 ∧ e = .returned (.string s) ∧ Below w.heap.size w w' := by
  obtain ⟨s, hs, hl⟩ := dec_ex 1000 1001 n (by omega) h0 (by omega) (by omega) (by omega)
  exact (spec_l6Dec.calls 1001 n s w hs).mono fun _ _ h => ⟨s, hl, h.1, h.2⟩
end Go.Proofs.YthcpbojmalgdbaaGreat.Q
end
section
namespace Go.Proofs.YthcpbojmalgdbaaGreat.Q
open Go.RowKit Go.Proofs.YthcpbojmalgdbaaGreatW.PrintWords Go.Proofs.YthcpbojmalgdbaaGreatW.PrintLast Go.Proofs.YthcpbojmalgdbaaGreatW.PrintMore Go.Proofs.YthcpbojmalgdbaaGreat.Core
set_option linter.unusedVariables false
set_option linter.unusedSimpArgs false
theorem infoCap : (Tryz.prog.info? 42).map (fun i => (i.zero, i.size, i.bytes)) = some (some (.agg #[.string ByteArray.empty, .int .i64 0]), 2, 24) := by kernel_rfl
theorem infoVisit : (Tryz.prog.info? 58).map (fun i => (i.zero, i.size, i.bytes)) = some (some (.agg #[.string ByteArray.empty, .int .i64 0, .int .i64 0]), 3, 32) := by kernel_rfl
theorem keep_set {w w1 : World} {g : Nat} (h : KeepBut w w1 g none) {q : Addr} (hq : w.heap.size ≤ q.block) (u : Value) : KeepBut w (w1.setCell q u) g none :=
  ⟨by simpa [World.setCell] using h.1, fun i hi hg hr => (Below.heap_setCell w1 q u i (by omega)).trans (h.2 i hi hg hr)⟩
theorem R_madeF {α : Type} (d : Kd α) (w : World) (e : Nat) (hs : 0 < d.sz) : d.R e (w.alloc (.cells #[] e)) w.heap.size (fun _ => True) (.slice (some ⟨w.heap.size, 0, none⟩) 0 0) [] :=
  ⟨fun _ _ => trivial, [], World.ownsRow_made w #[] 0 (Nat.le_refl _) (Nat.zero_le _) (by simp), by simp [Reps]⟩
theorem keep_al {w w1 : World} {g : Nat} (h : KeepBut w w1 g none) (o : Obj) : KeepBut w (w1.alloc o) g none := h.trans (KeepBut.of_below (below_alloc (Below.refl _ _) o) g none) (.inl rfl)
theorem keep_gr {w w1 w2 : World} {g : Nat} {v : Value} (h : KeepBut w w1 g none) (hg : w1.grownBy w2 v.ownBlock) (hv : ∀ j, v.ownBlock = some j → w.heap.size ≤ j) : KeepBut w w2 g none :=
  h.trans (KeepBut.of_grown hg g) (by
    cases hx : v.ownBlock with
    | none => exact .inl rfl
    | some b => exact .inr ⟨b, rfl, hv b hx⟩)
section
variable {w : World} {base g n cap : Nat} {ok : Nat → Prop} {xs : List Cap}
theorem capSetAt (h : Kd.R k42 42 w base ok (.slice (some ⟨g, 0, none⟩) n cap) xs) (k : Nat) (hk : k < n) :
    ∃ x : Cap, w.cell? ⟨g, k * 2, none⟩ = some (.string x.f0) ∧ w.cell? ⟨g, k * 2 + 1, none⟩ = some (.int .i64 x.f1) ∧ w.frozen? ⟨g, k * 2, none⟩ = false ∧ w.frozen? ⟨g, k * 2 + 1, none⟩ = false ∧
      (∀ s, Kd.R k42 42 (w.setCell ⟨g, k * 2, none⟩ (.string s)) base ok (.slice (some ⟨g, 0, none⟩) n cap) (xs.set k ⟨s, x.f1⟩)) ∧
      ∀ t, Kd.R k42 42 (w.setCell ⟨g, k * 2 + 1, none⟩ (.int .i64 t)) base ok (.slice (some ⟨g, 0, none⟩) n cap) (xs.set k ⟨x.f0, t⟩) := by
  obtain ⟨c, hcl, hM, hcc, hfr⟩ := Kd.R_elem h default (k : Int) (by omega) (by omega)
  obtain ⟨x, hx⟩ : ∃ x, x = xs.getD (k : Int).toNat default := ⟨_, rfl⟩
  rw [← hx] at hM
  obtain rfl := k42_openM hM
  refine ⟨x, hcc 0 _ rfl, hcc 1 _ rfl, hfr 0, hfr 1, fun s => ?_, fun t => ?_⟩
  · exact (Kd.R_seg h (k : Int) (by omega) (by omega) (seg := [.string s]) (j := 0) hcl hcc (show 0 + 1 ≤ 2 from by decide) (x' := (⟨s, x.f1⟩ : Cap)) (k42_mkM _ _ _ (⟨s, x.f1⟩ : Cap)) (fun _ hk => hk)).1
  · exact (Kd.R_seg h (k : Int) (by omega) (by omega) (seg := [.int .i64 t]) (j := 1) hcl hcc (show 1 + 1 ≤ 2 from by decide) (x' := (⟨x.f0, t⟩ : Cap)) (k42_mkM _ _ _ (⟨x.f0, t⟩ : Cap)) (fun _ hk => hk)).1
end
theorem capOne (w : World) (s : ByteArray) (n : Int) : Kd.R k42 42 (w.alloc (.cells #[.string s, .int .i64 n] 42)) w.heap.size (fun _ => True) (.slice (some ⟨w.heap.size, 0, none⟩) 1 1) [⟨s, n⟩] :=
  ⟨fun _ _ => trivial, [.string s, .int .i64 n], ⟨rfl, .inr ⟨w.heap.size, 1, #[.string s, .int .i64 n], rfl, Nat.le_refl _, heap_alloc_new w _, Nat.le_refl _, by decide, by simp; rfl, by simp; rfl⟩⟩, Reps.c2 (k42_mkM _ _ _ (⟨s, n⟩ : Cap)) (Reps.none _ _)⟩
theorem lit4i (a b c d : Int) (j : Nat) (hj : (j : Int) < 4) : ∃ q : Int, (#[Value.int .i64 a, Value.int .i64 b, Value.int .i64 c, Value.int .i64 d] : Array Value)[j]? = some (.int .i64 q) := by
  have h : j = 0 ∨ j = 1 ∨ j = 2 ∨ j = 3 := by omega
  rcases h with rfl | rfl | rfl | rfl <;> exact ⟨_, rfl⟩
def vlen : Value → Nat
  | .slice _ n _ => n
  | _ => 0
set_option maxRecDepth 100000 in
set_option maxHeartbeats 4000000 in
theorem spoilCaps_any {w0 w : World} {g : Nat} {bs : List Int} {p : Int} (h : Rdr w0 w g bs p) (hp : p ≤ 800000) (A : Option Addr) (c : Nat) (l : List Cap) (hr : Kd.C k42 w A l.length l) (hc : l.length ≤ c) (hl : l.length ≤ 3) :
    Calls Tryz.prog 58 #[.pointer (some ⟨g, 0, none⟩), .slice A l.length c] w fun e w' => ∃ v l' p', p ≤ p' ∧ p' ≤ p + 3 ∧ l'.length ≤ 10 ∧ e = .returned v ∧ Kd.R k42 42 w' w.heap.size (fun j => j ≠ g) v l' ∧ Rdr w0 w' g bs p' ∧ KeepBut w w' g none := by
  have hgl := h.lt
  have h0w := h.hb.size
  have H := Lib.hid h
  have HR := Lib.hid hr
  clear h hr
  by_cases hl0 : l.length = 0
  · have j0 : ((l.length : Int) == 0) = true := by simp; exact List.eq_nil_of_length_eq_zero hl0
    have j1 : (l.length : Int) = 0 := by omega
    go_enter Tryz.func58, Tryz.ntmps58
    go_wp2_with (first
      | (at_builtin; refine Kd.R_append_rows k42 (w0 := w) w.heap.size rfl _ _ 23 42 (.agg #[.string ByteArray.empty, .int .i64 0]) 24 rfl Tryz.underlying23 infoCap rfl (by decide) (by omega) (.slice (some ⟨w.heap.size, 0, none⟩) 0 0) [] l A _ c (fun j => j ≠ g) (fun _ => False) rfl rfl (Kd.R_mono (Kd.R_bound (R_madeF k42 w 42 (by decide))) (fun j hj => by have := hj.2.1; omega)) (Kd.C_alloc HR.out _) (fun _ _ h => h) (fun _ h => h.elim) (fun j hj => by simp at hj; omega) (below_alloc (Below.refl _ _) _) (by simp) (by simp; omega) ?_; intro v1 w2 ho2 hb2 hg2 hat2; rw [List.nil_append] at ho2; obtain ⟨A2, c2, rfl⟩ := Kd.R_slice ho2; have HO2 := Lib.hid ho2; have H2 := Lib.hid (H.out.below hb2); have K2 := Lib.hid (KeepBut.of_below hb2 g none); have z2 := hb2.size; clear ho2 hb2 hg2 hat2))
    go_ret
    exact ⟨_, [⟨⟨#[69]⟩, 1⟩], p, Int.le_refl _, by omega, by simp, rfl, Kd.R_mono (Kd.R_lower (Kd.R_bound (capOne w2 _ _)) z2) (fun j hj => by have := hj.2.1; omega), H2.out.alloc _, keep_al K2.out _⟩
  have j0 : ((l.length : Int) == 0) = false := by simp; intro e; exact hl0 (by rw [e]; rfl)
  have j1 : ¬ (l.length : Int) = 0 := by omega
  go_enter Tryz.func58, Tryz.ntmps58
  go_wp2_with (first
    | (at_builtin; refine Kd.R_append_rows k42 (w0 := w) w.heap.size rfl _ _ 23 42 (.agg #[.string ByteArray.empty, .int .i64 0]) 24 rfl Tryz.underlying23 infoCap rfl (by decide) (by omega) (.slice (some ⟨w.heap.size, 0, none⟩) 0 0) [] l A _ c (fun j => j ≠ g) (fun _ => False) rfl rfl (Kd.R_mono (Kd.R_bound (R_madeF k42 w 42 (by decide))) (fun j hj => by have := hj.2.1; omega)) (Kd.C_alloc HR.out _) (fun _ _ h => h) (fun _ h => h.elim) (fun j hj => by simp at hj; omega) (below_alloc (Below.refl _ _) _) (by simp) (by simp; omega) ?_; intro v1 w2 ho2 hb2 hg2 hat2; rw [List.nil_append] at ho2; obtain ⟨A2, c2, rfl⟩ := Kd.R_slice ho2; have HO2 := Lib.hid ho2; have H2 := Lib.hid (H.out.below hb2); have K2 := Lib.hid (KeepBut.of_below hb2 g none); have z2 := hb2.size; clear ho2 hb2 hg2 hat2))
  clear H HR j0 j1
  obtain ⟨gX, cX, hform, hg0, hg1, _⟩ := Kd.R_form HO2.out (by omega)
  injection hform with ea en ec
  subst ea ec
  clear en
  obtain ⟨m, hm⟩ : ∃ m, m = l.length := ⟨_, rfl⟩
  rw [← hm] at HO2 hl hl0 ⊢
  have HM := Lib.hid hm
  clear hm hc
  go_wp2_with (fail)
  refine (pick_any H2.out m (by omega) (by omega) (by omega)).mono ?_
  rintro e w3 ⟨k, a3, b3, rfl, h3, k3⟩
  go_wp2_with (fail)
  refine (pick_any h3 4 (by omega) (by omega) (by omega)).mono ?_
  rintro e w4 ⟨r, a4, b4, rfl, h4, k4⟩
  have z3 := k3.1
  have z4 := k4.1
  have HO4 := Lib.hid (R_keep (R_keep HO2.out k3 (fun j hj => hj)) k4 (fun j hj => hj))
  have K4 := Lib.hid ((K2.out.trans k3 (.inl rfl)).trans k4 (.inl rfl))
  have H4 := Lib.hid h4
  obtain ⟨k, rfl⟩ := Int.eq_ofNat_of_zero_le a3
  have hkm : k < m := by omega
  have hgX : g ≠ gX := fun e => HO2.out.1 gX rfl e.symm
  have hgw : w0.heap.size ≤ gX := by omega
  clear h3 k3 h4 k4 HO2 H2 K2
  have hcases : r = 0 ∨ r = 1 ∨ r = 2 ∨ r = 3 := by omega
  rcases hcases with rfl | rfl | rfl | rfl
  · go_wp2_with (fail)
    have hgl4 := H4.out.lt
    refine (of_any (H4.out.alloc _) _ 4 [⟨#[]⟩, ⟨#[69]⟩, ⟨#[122, 122]⟩, ⟨#[101]⟩] (litSC w4 _ (by decide)) (by decide) (fun ad e _ => by injection e with e; rw [← e]; show w4.heap.size ≠ g; omega) (by omega) (by decide) (by decide)).mono ?_
    rintro e w5 ⟨s, rfl, h5, k5⟩
    have HO5 := R_keep (Kd.R_alloc HO4.out (.cells #[.string ⟨#[]⟩, .string ⟨#[69]⟩, .string ⟨#[122, 122]⟩, .string ⟨#[101]⟩] 9)) k5 (fun j hj => hj)
    obtain ⟨x, x0, x1, xf0, xf1, hs1, hs2⟩ := capSetAt HO5 k hkm
    have HS := Lib.hid (hs1 s)
    have H5 := Lib.hid (h5.far (q := ⟨gX, k * 2, none⟩) hgX hgw (.string s))
    have K5 := Lib.hid (keep_set ((keep_al K4.out _).trans k5 (.inl rfl)) (q := ⟨gX, k * 2, none⟩) hg0 (.string s))
    clear hs1 hs2 h5 k5 HO5 H4 K4 HO4
    go_wp2
    go_ret
    exact ⟨_, _, _, by omega, by omega, by rw [List.length_set, ← HM.out]; omega, rfl, HS.out, H5.out, K5.out⟩
  · go_wp2_with (fail)
    have hgl4 := H4.out.lt
    refine (pick_any (H4.out.alloc _) 4 (by omega) (by omega) (by omega)).mono ?_
    rintro e w5 ⟨j, a5, b5, rfl, h5, k5⟩
    obtain ⟨j, rfl⟩ := Int.eq_ofNat_of_zero_le a5
    obtain ⟨qv, HQ⟩ := lit4i (-1) 0 20 21 j b5
    have L5 := (blk_cell (keep_blk k5 (blk_new w4 (.cells #[.int .i64 (-1), .int .i64 0, .int .i64 20, .int .i64 21] 3)) (by omega)) j).trans HQ
    have HO5 := R_keep (Kd.R_alloc HO4.out (.cells #[.int .i64 (-1), .int .i64 0, .int .i64 20, .int .i64 21] 3)) k5 (fun j hj => hj)
    obtain ⟨x, x0, x1, xf0, xf1, hs1, hs2⟩ := capSetAt HO5 k hkm
    have HS := Lib.hid (hs2 qv)
    have H5 := Lib.hid (h5.far (q := ⟨gX, k * 2 + 1, none⟩) hgX hgw (.int .i64 qv))
    have K5 := Lib.hid (keep_set ((keep_al K4.out _).trans k5 (.inl rfl)) (q := ⟨gX, k * 2 + 1, none⟩) hg0 (.int .i64 qv))
    clear hs1 hs2 h5 k5 HO5 H4 K4 HO4 HQ
    go_wp2
    go_ret
    exact ⟨_, _, _, by omega, by omega, by rw [List.length_set, ← HM.out]; omega, rfl, HS.out, H5.out, K5.out⟩
  · obtain ⟨x, x0, x1, xf0, xf1, hs1, hs2⟩ := capSetAt HO4.out k hkm
    clear hs1 hs2
    have hgl4 := H4.out.lt
    go_wp2_with (first
      | (at_builtin; refine Kd.R_append k42 (w0 := w4) w.heap.size rfl _ _ 23 42 (.agg #[.string ByteArray.empty, .int .i64 0]) 24 rfl Tryz.underlying23 infoCap rfl (by decide) (by decide) (.slice (some ⟨gX, 0, none⟩) m c2) l (⟨x.f0, x.f1⟩ : Cap) [.string x.f0, .int .i64 x.f1] (fun j => j ≠ g) (fun _ => False) rfl rfl (k42_mkM _ _ _ (⟨x.f0, x.f1⟩ : Cap)) (fun _ h => h.elim) (fun j hj => by omega) HO4.out (Below.refl _ _) (by omega) (by rw [← HM.out]; omega) ?_; intro v1 w5 ho5 hb5 hg5 hat5; have HO5 := Lib.hid ho5; have HG5 := Lib.hid hg5; clear ho5 hb5 hg5 hat5)
      | go_in)
    go_ret
    exact ⟨_, _, _, by omega, by omega, by rw [List.length_append, List.length_singleton, ← HM.out]; omega, rfl, HO5.out, H4.out.grown HG5.out (fun e => hgX (by injection e)) (fun j hj => by obtain rfl : gX = j := Option.some.inj hj; omega), keep_gr K4.out HG5.out (fun j hj => by obtain rfl : gX = j := Option.some.inj hj; omega)⟩
  · go_wp2_with (fail)
    refine (pick_any H4.out 2 (by omega) (by omega) (by omega)).mono ?_
    rintro e w5 ⟨n, a5, b5, rfl, h5, k5⟩
    obtain ⟨n, rfl⟩ := Int.eq_ofNat_of_zero_le a5
    have jN : IntKind.i64.wrap (6 + (n : Int)) = ((n + 6 : Nat) : Int) := by rw [show 6 + (n : Int) = ((n + 6 : Nat) : Int) by omega]; exact IntWalk.i64_in _ (by omega)
    have HO5 : Hid (Kd.R k42 42 w5 w.heap.size (fun j => j ≠ g) (.slice (some ⟨gX, 0, none⟩) l.length c2) l) := by have t := R_keep HO4.out k5 (fun j hj => hj); rwa [HM.out] at t
    have K5 := Lib.hid (K4.out.trans k5 (.inl rfl))
    have H5 := Lib.hid h5
    have z5 := k5.1
    have hl3 : l.length ≤ 3 := by rw [← HM.out]; exact hl
    rw [HM.out]
    clear h5 k5 HO4 H4 K4
    go_wp2
    go_loopw [5] (fun x wr => ∃ (A' : Option Addr) (c' : Nat) (vs : List Cap), x = .slice A' vs.length c' ∧ vs.length ≤ 8 ∧ Hid (Kd.R k42 42 wr w.heap.size (fun j => j ≠ g) (.slice A' vs.length c') vs) ∧ Hid (Rdr w0 wr g bs (p + 1 + 1 + 1)) ∧ Hid (KeepBut w wr g none)) (fun x _ => 9 - vlen x)
    case atStart => exact ⟨_, _, l, rfl, by omega, HO5, H5, K5⟩
    case round =>
      clear HO5 H5 K5
      obtain ⟨A', c', vs, rfl, hv8, HO, HD, HK⟩ := hrel
      have hgl5 := HD.out.lt
      have hwl : w.heap.size ≤ wr.heap.size := HK.out.1
      by_cases hn : vs.length < n + 6
      · have j2 : (vs.length : Int) < ((n + 6 : Nat) : Int) := by omega
        go_wp2_with (fail)
        refine (dec_any vs.length _ (by omega) (by omega)).mono ?_
        rintro e w6 ⟨s, hs, rfl, hb6⟩
        have HO6 := Lib.hid (Kd.R_below HO.out hb6)
        have HD6 := Lib.hid (HD.out.below hb6)
        have HK6 := Lib.hid (HK.out.trans (KeepBut.of_below hb6 g none) (.inl rfl))
        have z6 := hb6.size
        clear hb6 HO HD HK
        have hoW : Hid (∀ j, (Value.slice A' vs.length c').ownBlock = some j → w.heap.size ≤ j ∧ j ≠ g) := fun j hj => ⟨Kd.R_base HO6.out j hj, HO6.out.1 j hj⟩
        go_wp2_with (first
          | (at_builtin; refine Kd.R_append k42 (w0 := w6) w.heap.size rfl _ _ 23 42 (.agg #[.string ByteArray.empty, .int .i64 0]) 24 rfl Tryz.underlying23 infoCap rfl (by decide) (by decide) (.slice A' vs.length c') vs (⟨_, 1⟩ : Cap) [.string _, .int .i64 1] (fun j => j ≠ g) (fun _ => False) rfl rfl (k42_mkM _ _ _ (⟨_, 1⟩ : Cap)) (fun _ h => h.elim) (fun j hj => by omega) HO6.out (Below.refl _ _) (by omega) (by omega) ?_; intro v1 w7 ho7 hb7 hg7 hat7; obtain ⟨A7, c7, rfl⟩ := Kd.R_slice ho7; have HO7 := Lib.hid ho7; have HG7 := Lib.hid hg7; clear ho7 hb7 hg7 hat7)
          | go_in)
        go_roundw
        case rel => exact ⟨A7, c7, _, by rw [List.length_append, List.length_singleton], by rw [List.length_append, List.length_singleton]; omega, HO7.out, HD6.out.grown HG7.out (fun e => (hoW.out _ e.symm).2 rfl) (fun j hj => by have := (hoW.out j hj).1; omega), keep_gr HK6.out HG7.out (fun j hj => (hoW.out j hj).1)⟩
        case measure => simp [vlen]; omega
      · have j2 : ¬ (vs.length : Int) < ((n + 6 : Nat) : Int) := by omega
        go_wp2
        go_ret
        exact ⟨_, vs, _, by omega, by omega, by omega, rfl, HO.out, HD.out, HK.out⟩
set_option maxRecDepth 100000 in
set_option maxHeartbeats 4000000 in
theorem l1Flight_any (f : Flight) (A : Option Addr) (c : Nat) (w : World) (hr : Kd.C k58 w A f.f3.length f.f3) (hc : f.f3.length ≤ c) (hl : f.f3.length ≤ 1000) :
    Calls Tryz.prog 62 #[.agg #[.string f.f0, .int .i64 f.f1, .int .i64 f.f2, .slice A f.f3.length c]] w fun e w' => ∃ A' c', e = .returned (.agg #[.string f.f0, .int .i64 f.f1, .int .i64 f.f2, .slice A' f.f3.length c']) ∧
      Kd.R k58 58 w' w.heap.size (fun _ => True) (.slice A' f.f3.length c') f.f3 ∧ Below w.heap.size w w' := by
  have HR := Lib.hid hr
  clear hr
  have hB := below_alloc (below_alloc (below_alloc (Below.refl w.heap.size w) (.cells #[.string f.f0, .int .i64 f.f1, .int .i64 f.f2, .slice A f.f3.length c] 47)) (.cells #[.string ByteArray.empty, .int .i64 0, .int .i64 0, .slice none 0 0] 47)) (.cells #[] 58)
  have HB := Lib.hid hB
  have B1 := Lib.hid (blk_alloc (blk_alloc (blk_new w (.cells #[.string f.f0, .int .i64 f.f1, .int .i64 f.f2, .slice A f.f3.length c] 47)) (.cells #[.string ByteArray.empty, .int .i64 0, .int .i64 0, .slice none 0 0] 47)) (.cells #[] 58))
  have B2 : Hid (((((w.alloc (.cells #[.string f.f0, .int .i64 f.f1, .int .i64 f.f2, .slice A f.f3.length c] 47)).alloc (.cells #[.string ByteArray.empty, .int .i64 0, .int .i64 0, .slice none 0 0] 47)).alloc (.cells #[] 58))).heap[w.heap.size + 1]? = some (.cells #[.string ByteArray.empty, .int .i64 0, .int .i64 0, .slice none 0 0] 47 (0, 0))) := by
    have t := blk_alloc (blk_new (w.alloc (.cells #[.string f.f0, .int .i64 f.f1, .int .i64 f.f2, .slice A f.f3.length c] 47)) (.cells #[.string ByteArray.empty, .int .i64 0, .int .i64 0, .slice none 0 0] 47)) (.cells #[] 58)
    rwa [show (w.alloc (.cells #[.string f.f0, .int .i64 f.f1, .int .i64 f.f2, .slice A f.f3.length c] 47)).heap.size = w.heap.size + 1 by simp] at t
  have HO : Hid (Kd.R k58 58 (((w.alloc (.cells #[.string f.f0, .int .i64 f.f1, .int .i64 f.f2, .slice A f.f3.length c] 47)).alloc (.cells #[.string ByteArray.empty, .int .i64 0, .int .i64 0, .slice none 0 0] 47)).alloc (.cells #[] 58)) w.heap.size (fun j => j ≠ w.heap.size ∧ j ≠ w.heap.size + 1) (.slice (some ⟨w.heap.size + 2, 0, none⟩) 0 0) []) := by
    have t := Kd.R_bound (R_madeF k58 ((w.alloc (.cells #[.string f.f0, .int .i64 f.f1, .int .i64 f.f2, .slice A f.f3.length c] 47)).alloc (.cells #[.string ByteArray.empty, .int .i64 0, .int .i64 0, .slice none 0 0] 47)) 58 (by decide))
    rw [show ((w.alloc (.cells #[.string f.f0, .int .i64 f.f1, .int .i64 f.f2, .slice A f.f3.length c] 47)).alloc (.cells #[.string ByteArray.empty, .int .i64 0, .int .i64 0, .slice none 0 0] 47)).heap.size = w.heap.size + 2 by simp] at t
    exact Kd.R_lower (Kd.R_mono t (fun j hj => by have := hj.2.1; exact ⟨by omega, by omega⟩)) (by omega)
  clear hB
  go_enter Tryz.func62, Tryz.ntmps62
  go_wp2_with (first
    | (at_builtin; refine Kd.R_append_rows k58 (w0 := w) w.heap.size rfl _ _ 45 58 (.agg #[.string ByteArray.empty, .int .i64 0, .int .i64 0]) 32 rfl Tryz.underlying45 infoVisit rfl (by decide) (by omega) (.slice (some ⟨w.heap.size + 2, 0, none⟩) 0 0) [] f.f3 A _ c (fun j => j ≠ w.heap.size ∧ j ≠ w.heap.size + 1) (fun _ => False) rfl rfl HO.out (Kd.C_alloc (Kd.C_alloc (Kd.C_alloc HR.out _) _) _) (fun _ _ h => h) (fun _ h => h.elim) (fun j hj => by simp at hj; exact ⟨by omega, by omega⟩) HB.out (by simp; omega) (by simp; omega) ?_; intro v1 w5 ho5 hb5 hg5 hat5; rw [List.nil_append] at ho5; obtain ⟨A5, c5, rfl⟩ := Kd.R_slice ho5; have HO5 := Lib.hid ho5; have HB5 := Lib.hid hb5; have D1 := Lib.hid (blk_grown B1.out hg5 (show some w.heap.size ≠ some (w.heap.size + 2) by simp)); have D2 := Lib.hid (blk_grown B2.out hg5 (show some (w.heap.size + 1) ≠ some (w.heap.size + 2) by simp)); clear ho5 hb5 hg5 hat5; have d0 := blk_cell D1.out 0; have d1 := blk_cell D1.out 1; have d2 := blk_cell D1.out 2; have d3 := blk_cell D1.out 3; have e3 := blk_frozen D1.out 3; have g0 := blk_cell D2.out 0; have g1 := blk_cell D2.out 1; have g2 := blk_cell D2.out 2; have g3 := blk_cell D2.out 3; have q0 := blk_frozen D2.out 0; have q1 := blk_frozen D2.out 1; have q2 := blk_frozen D2.out 2; have q3 := blk_frozen D2.out 3; simp only [List.getElem?_toArray, List.getElem?_cons_zero, List.getElem?_cons_succ] at d0 d1 d2 d3 g0 g1 g2 g3))
  refine bodyPost_ret (results_cell_row rfl _ _ (w.heap.size + 1) 47 #[.string f.f0, .int .i64 f.f1, .int .i64 f.f2, .slice A5 f.f3.length c5] (0, 0) _ rfl (blk_set (blk_set (blk_set (blk_set (blk_far D2.out (p := ⟨w.heap.size, 3, none⟩) (show w.heap.size + 1 ≠ w.heap.size by omega) _) 0 _) 1 _) 2 _) 3 _) Tryz.underlying47 rfl (by kernel_rfl)) rfl ?_
  exact ⟨A5, c5, rfl, Kd.R_mono (Kd.R_far (p := ⟨w.heap.size + 1, 3, none⟩) (Kd.R_far (p := ⟨w.heap.size + 1, 2, none⟩) (Kd.R_far (p := ⟨w.heap.size + 1, 1, none⟩) (Kd.R_far (p := ⟨w.heap.size + 1, 0, none⟩) (Kd.R_far (p := ⟨w.heap.size, 3, none⟩) HO5.out (fun k hk => hk.1) _) (fun k hk => hk.2) _) (fun k hk => hk.2) _) (fun k hk => hk.2) _) (fun k hk => hk.2) _) (fun _ _ => trivial),
    ((((HB5.out.setCell (show w.heap.size ≤ w.heap.size by omega) _).setCell (show w.heap.size ≤ w.heap.size + 1 by omega) _).setCell (show w.heap.size ≤ w.heap.size + 1 by omega) _).setCell (show w.heap.size ≤ w.heap.size + 1 by omega) _).setCell (show w.heap.size ≤ w.heap.size + 1 by omega) _⟩
end Go.Proofs.YthcpbojmalgdbaaGreat.Q
end
section
namespace Go.Proofs.YthcpbojmalgdbaaGreat.Q
open Go.RowKit Go.Proofs.YthcpbojmalgdbaaGreatW.PrintWords Go.Proofs.YthcpbojmalgdbaaGreatW.PrintLast Go.Proofs.YthcpbojmalgdbaaGreatW.PrintMore Go.Proofs.YthcpbojmalgdbaaGreat.Core
set_option linter.unusedVariables false
set_option linter.unusedSimpArgs false
set_option maxRecDepth 100000 in
set_option maxHeartbeats 4000000 in
theorem flight_any {w0 w : World} {g : Nat} {bs : List Int} {p : Int} (h : Rdr w0 w g bs p) (hp : p ≤ 800000) (name : ByteArray) :
    Calls Tryz.prog 57 #[.pointer (some ⟨g, 0, none⟩), .string name] w fun e w' => ∃ (f : Flight) (A : Option Addr) (c : Nat) (p' : Int), p ≤ p' ∧ p' ≤ p + 40 ∧ 1 ≤ f.f3.length ∧ f.f3.length ≤ 3 ∧ smallL f ∧
      e = .returned (.agg #[.string f.f0, .int .i64 f.f1, .int .i64 f.f2, .slice A f.f3.length c]) ∧ Kd.R k58 58 w' w.heap.size (fun _ => True) (.slice A f.f3.length c) f.f3 ∧ Rdr w0 w' g bs p' ∧ KeepBut w w' g none := by
  have hgl := h.lt
  have h0w := h.hb.size
  go_enter Tryz.func57, Tryz.ntmps57
  go_wp2_with (fail)
  refine (pick_any (h.alloc _) 14 (by omega) (by omega) (by omega)).mono ?_
  rintro e w2 ⟨r1, a1, b1, rfl, h2, k2⟩
  go_wp2_with (fail)
  refine (pick_any h2 24 (by omega) (by omega) (by omega)).mono ?_
  rintro e w3 ⟨r2, a2, b2, rfl, h3, k3⟩
  go_wp2_with (fail)
  refine (pick_any (h3.alloc _) 24 (by omega) (by omega) (by omega)).mono ?_
  rintro e w4 ⟨r3, a3, b3, rfl, h4, k4⟩
  have z2 : w.heap.size + 1 ≤ w2.heap.size := by have := k2.1; simpa using this
  have z3 := k3.1
  have z4 : w3.heap.size + 1 ≤ w4.heap.size := by have := k4.1; simpa using this
  have hR4 : Hid (w4.heap[w.heap.size]? = some (.cells #[.string ByteArray.empty, .int .i64 0, .int .i64 0, .slice none 0 0] 47 (0, 0))) := keep_blk k4 (blk_alloc (keep_blk k3 (keep_blk k2 (blk_new _ _) (by omega)) (by omega)) _) (by omega)
  have hF4 : Hid (w4.heap[w3.heap.size]? = some (.cells #[.string name, .int .i64 r1, .int .i64 r2, .slice none 0 0] 47 (0, 0))) := keep_blk k4 (blk_new _ _) (by have := h3.lt; omega)
  have hK4 : Hid (KeepBut w w4 g none) := ((((KeepBut.refl w g none).trans (KeepBut.of_below (below_alloc (Below.refl _ _) _) g none) (.inl rfl)).trans k2 (.inl rfl)).trans k3 (.inl rfl)).trans ((KeepBut.of_below (below_alloc (Below.refl _ _) _) g none).trans k4 (.inl rfl)) (.inl rfl)
  clear k2 k3 k4 h2 h
  obtain ⟨gF, hgF⟩ : ∃ gF, gF = w3.heap.size := ⟨_, rfl⟩
  have h3l := h3.lt
  rw [← hgF] at hF4 z4 ⊢
  have HGF := Lib.hid hgF
  have hgn : g ≠ gF := by omega
  have hgw : w0.heap.size ≤ gF := by omega
  have hwF : w.heap.size < gF := by omega
  clear h3 hgF
  by_cases hr3 : r3 = 0
  · have e1 : decide (r3 = 0) = true := decide_eq_true hr3
    have e2 : (r3 == 0) = true := by simp [hr3]
    go_wp2_with (fail)
    refine (pick_any h4 2 (by omega) (by omega) (by omega)).mono ?_
    rintro e w5 ⟨r4, a4, b4, rfl, h5, k5⟩
    have z5 := k5.1
    have hF5 := Lib.hid (keep_blk k5 hF4.out (Ne.symm hgn))
    have hR5 := Lib.hid (keep_blk k5 hR4.out (by omega))
    have hK5 := Lib.hid (hK4.out.trans k5 (.inl rfl))
    have c1 := blk_cell hF5.out 1
    have f1 := blk_frozen hF5.out 1
    have c2 := blk_cell hF5.out 2
    have f2 := blk_frozen hF5.out 2
    simp only [List.getElem?_toArray, List.getElem?_cons_zero, List.getElem?_cons_succ] at c1 c2
    clear k5 hF4 hR4 hK4 h4
    have jr : IntKind.i64.wrap (10000 - r4) = 10000 - r4 := IntWalk.i64_in _ (by omega)
    go_wp2_with (fail)
    refine (pick_any ((h5.far (q := ⟨gF, 1, none⟩) hgn hgw _).far (q := ⟨gF, 2, none⟩) hgn hgw _) 5 (by omega) (by omega) (by omega)).mono ?_
    rintro e w6 ⟨t, a6, b6, rfl, h6, k6⟩
    go_wp2_with (fail)
    refine (pick_any h6 3 (by omega) (by omega) (by omega)).mono ?_
    rintro e w7 ⟨n, a7, b7, rfl, h7, k7⟩
    have hF7 : Hid (w7.heap[gF]? = some (.cells #[.string name, .int .i64 (10000 - r4), .int .i64 60, .slice none 0 0] 47 (0, 0))) := keep_blk k7 (keep_blk k6 (blk_set (blk_set hF5.out 1 (.int .i64 (10000 - r4))) 2 (.int .i64 60)) (Ne.symm hgn)) (Ne.symm hgn)
    have hR7 := Lib.hid (keep_blk k7 (keep_blk k6 (blk_far (blk_far hR5.out (show w.heap.size ≠ gF by omega) _) (show w.heap.size ≠ gF by omega) _) (by omega)) (by omega))
    have hK7 := Lib.hid ((KeepBut.trans (keep_set (keep_set hK5.out (show w.heap.size ≤ gF by omega) _) (show w.heap.size ≤ gF by omega) _) k6 (.inl rfl)).trans k7 (.inl rfl))
    obtain ⟨m, rfl⟩ := Int.eq_ofNat_of_zero_le a7
    have jn : IntKind.i64.wrap (1 + (m : Int)) = ((m + 1 : Nat) : Int) := by rw [show 1 + (m : Int) = ((m + 1 : Nat) : Int) by omega]; exact IntWalk.i64_in _ (by omega)
    have h7' := Lib.hid h7
    have hsz7 : gF < w7.heap.size := blk_lt hF7.out
    clear k6 k7 h6 h7
    go_wp2
    go_loopw [6, 7] (fun vt vn wr => ∃ (t : Int) (n : Nat) (x : Value) (vs : List Visit) (q : Int), vt = .int .i64 t ∧ vn = .int .i64 n ∧ vs.length + n = m + 1 ∧ p ≤ q ∧ q + 4 * (n : Int) ≤ p + 26 ∧ Hid (Rdr w0 wr g bs q) ∧
        Hid (wr.heap[w.heap.size]? = some (.cells #[.string ByteArray.empty, .int .i64 0, .int .i64 0, .slice none 0 0] 47 (0, 0))) ∧ Hid (wr.heap[gF]? = some (.cells #[.string name, .int .i64 (10000 - r4), .int .i64 60, x] 47 (0, 0))) ∧
        Hid (Kd.R k58 58 wr w.heap.size (fun k => k ≠ g ∧ k ≠ w.heap.size ∧ k ≠ gF) x vs) ∧ Hid (KeepBut w wr g none)) (fun _ vn _ => (intOf vn).toNat)
    case atStart => exact ⟨t, m + 1, _, [], _, rfl, rfl, by simp, by omega, by omega, h7', hR7, hF7, Kd.R_nil _ _ _ _ _, hK7⟩
    case round =>
      clear h7' hR7 hF7 hK7
      obtain ⟨t, n, x, vs, q, rfl, rfl, hvn, hq0, hq1, HD, HR, HF, HO, HK⟩ := hrel
      have hgl := HD.out.lt
      have hFl := blk_lt HF.out
      have c3 := blk_cell HF.out 3
      simp only [List.getElem?_toArray, List.getElem?_cons_zero, List.getElem?_cons_succ] at c3
      by_cases hn : 0 < n
      · obtain ⟨n', rfl⟩ : ∃ n', n = n' + 1 := ⟨n - 1, by omega⟩
        have jn2 : (0 : Int) < ((n' + 1 : Nat) : Int) := by omega
        have jn3 : IntKind.i64.wrap ((n' : Int) + 1 - 1) = (n' : Int) := by rw [show (n' : Int) + 1 - 1 = n' by omega]; exact IntWalk.i64_in _ (by omega)
        have jn4 : IntKind.i64.wrap (n' : Int) = (n' : Int) := IntWalk.i64_in _ (by omega)
        have jn5 : (0 : Int) < (n' : Int) + 1 := by omega
        obtain ⟨Ax, cx, rfl⟩ := Kd.R_slice HO.out
        go_wp2_with (fail)
        refine (sector_any HD.out (by omega)).mono ?_
        rintro e w8 ⟨sc, rfl, h8, k8⟩
        go_wp2_with (fail)
        refine (pick_any h8 7 (by omega) (by omega) (by omega)).mono ?_
        rintro e w9 ⟨st, a9, b9, rfl, h9, k9⟩
        have js : IntKind.i64.wrap (1 + st) = 1 + st := IntWalk.i64_in _ (by omega)
        have z8 := k8.1
        have z9 := k9.1
        have HF9 := keep_blk k9 (keep_blk k8 HF.out (Ne.symm hgn)) (Ne.symm hgn)
        have HR9 := Lib.hid (keep_blk k9 (keep_blk k8 HR.out (by omega)) (by omega))
        have HO9 := Lib.hid (R_keep (R_keep HO.out k8 (fun k hk => hk.1)) k9 (fun k hk => hk.1))
        have HK9 := Lib.hid ((HK.out.trans k8 (.inl rfl)).trans k9 (.inl rfl))
        have hoF : some gF ≠ (Value.slice Ax vs.length cx).ownBlock := fun e => (HO.out.1 _ e.symm).2.2 rfl
        have hoR : some w.heap.size ≠ (Value.slice Ax vs.length cx).ownBlock := fun e => (HO.out.1 _ e.symm).2.1 rfl
        have hoG : some g ≠ (Value.slice Ax vs.length cx).ownBlock := fun e => (HO.out.1 _ e.symm).1 rfl
        have hoV : some w9.heap.size ≠ (Value.slice Ax vs.length cx).ownBlock := fun e => by
          obtain ⟨_, _, hlt, _⟩ := (Kd.R_bound HO.out).1 _ e.symm
          omega
        have hoB : Hid (∀ j, (Value.slice Ax vs.length cx).ownBlock = some j → w.heap.size ≤ j) := fun j hj => Kd.R_base HO.out j hj
        have HF10 := Lib.hid (blk_alloc HF9 (.cells #[.string sc, .int .i64 t, .int .i64 (1 + st)] 58))
        have HV10 := Lib.hid (blk_new w9 (.cells #[.string sc, .int .i64 t, .int .i64 (1 + st)] 58))
        have c10 := blk_cell HF10.out 3
        simp only [List.getElem?_toArray, List.getElem?_cons_zero, List.getElem?_cons_succ] at c10
        have h9l := h9.lt
        have HE10 : Hid ((w9.alloc (.cells #[.string sc, .int .i64 t, .int .i64 (1 + st)] 58)).heap.size = w9.heap.size + 1) := by show _ = _; simp
        have H9 := Lib.hid h9
        clear k8 k9 HF HR HO HK HD HF9 h8 h9 c3
        go_wp2_with (first
          | (at_builtin; refine Kd.R_append k58 (w0 := w9.alloc (.cells #[.string sc, .int .i64 t, .int .i64 (1 + st)] 58)) w.heap.size rfl _ _ 45 58 (.agg #[.string ByteArray.empty, .int .i64 0, .int .i64 0]) 32 rfl Tryz.underlying45 infoVisit rfl (by decide) (by decide) (.slice Ax vs.length cx) vs (⟨sc, t, 1 + st⟩ : Visit) [.string sc, .int .i64 t, .int .i64 (1 + st)] (fun k => k ≠ g ∧ k ≠ w.heap.size ∧ k ≠ gF) (fun _ => False) rfl (by rw [HE10.out]; rfl) (k58_mkM _ _ _ (⟨sc, t, 1 + st⟩ : Visit)) (fun _ h => h.elim) (fun j hj => by simp at hj; refine ⟨?_, ?_, ?_⟩ <;> omega) (Kd.R_alloc HO9.out _) (Below.refl _ _) (by simp; omega) (by omega) ?_; intro v1 w11 ho11 hb11 hg11 hat11; obtain ⟨A11, y11, rfl⟩ := Kd.R_slice ho11; obtain ⟨n11, hn11⟩ : ∃ n, n = (vs ++ [(⟨sc, t, 1 + st⟩ : Visit)]).length := ⟨_, rfl⟩; rw [← hn11] at ho11 hat11 ⊢; have HN11 := Lib.hid hn11; clear hn11; have HF11 := Lib.hid (blk_grown HF10.out hg11 hoF); have c11 := blk_cell HF11.out 3; have f11 := blk_frozen HF11.out 3; simp only [List.getElem?_toArray, List.getElem?_cons_zero, List.getElem?_cons_succ] at c11; have HV11 := Lib.hid (blk_grown HV10.out hg11 hoV); have HO11 := Lib.hid ho11; have HG11 := Lib.hid hg11; clear ho11 hb11 hg11 hat11)
          | go_in)
        have hX : Hid (Rdr w0 (w11.setCell ⟨gF, 3, none⟩ (.slice A11 n11 y11)) g bs (q + 1 + 1)) := ((H9.out.alloc _).grown HG11.out hoG (fun j hj => by have := hoB.out j hj; omega)).far (q := ⟨gF, 3, none⟩) hgn hgw _
        have hVX := Lib.hid (blk_far HV11.out (p := ⟨gF, 3, none⟩) (show w9.heap.size ≠ gF by omega) (.slice A11 n11 y11))
        have HFX : Hid ((w11.setCell ⟨gF, 3, none⟩ (.slice A11 n11 y11)).heap[gF]? = some (.cells #[.string name, .int .i64 (10000 - r4), .int .i64 60, .slice A11 n11 y11] 47 (0, 0))) := blk_set HF11.out 3 (.slice A11 n11 y11)
        have HRX := Lib.hid (blk_far (blk_grown (blk_alloc HR9.out (.cells #[.string sc, .int .i64 t, .int .i64 (1 + st)] 58)) HG11.out hoR) (p := ⟨gF, 3, none⟩) (show w.heap.size ≠ gF by omega) (.slice A11 n11 y11))
        have HOX := Lib.hid (Kd.R_far HO11.out (p := ⟨gF, 3, none⟩) (fun k hk => hk.2.2) (.slice A11 n11 y11))
        have HKX : Hid (KeepBut w (w11.setCell ⟨gF, 3, none⟩ (.slice A11 n11 y11)) g none) := keep_set ((HK9.out.trans (KeepBut.of_below (below_alloc (Below.refl _ _) _) g none) (.inl rfl)).trans (KeepBut.of_grown HG11.out g) (by
          cases hx : (Value.slice Ax vs.length cx).ownBlock with
          | none => exact .inl rfl
          | some b => exact .inr ⟨b, rfl, hoB.out b hx⟩)) (show w.heap.size ≤ gF by omega) _
        have hXl := blk_lt HFX.out
        have hVl := blk_lt hVX.out
        generalize w11.setCell ⟨gF, 3, none⟩ (.slice A11 n11 y11) = X at hX hVX HFX HRX HOX HKX hXl hVl ⊢
        clear HF10 HV10 HF11 HV11 HO11 HG11 HO9 HR9 HK9 H9 c10 c11 f11
        have hXd : Hid (Rdr w0 X.drew g bs (q + 1 + 1)) := hX.out.drewN 1
        have hVd : Hid (X.drew.heap[w9.heap.size]? = some (.cells #[.string sc, .int .i64 t, .int .i64 (1 + st)] 58 (0, 0))) := hVX.out
        have HFd : Hid (X.drew.heap[gF]? = some (.cells #[.string name, .int .i64 (10000 - r4), .int .i64 60, .slice A11 n11 y11] 47 (0, 0))) := HFX.out
        have HRd : Hid (X.drew.heap[w.heap.size]? = some (.cells #[.string ByteArray.empty, .int .i64 0, .int .i64 0, .slice none 0 0] 47 (0, 0))) := HRX.out
        have HOd := Lib.hid (Kd.R_drewN HOX.out 1)
        have HKd : Hid (KeepBut w X.drew g none) := HKX.out
        have cX : X.cell? ⟨w9.heap.size, 2, none⟩ = some (.int .i64 (1 + st)) := (blk_cell hVX.out 2).trans rfl
        have hne9 : w9.heap.size ≠ g := by omega
        clear hX hVX HFX HRX HOX HKX
        go_region_held3 (fun W' => W'.cell? ⟨w9.heap.size, 2, none⟩ = some (.int .i64 (1 + st))) (first | assumption | go_keep) (first
          | (go_at_call 19; refine (pick_any H12.out 4 (by omega) (by omega) (by omega)).mono ?_; rintro e w13 ⟨s6, a13, b13, rfl, h13, k13⟩; have hV13 := Lib.hid (keep_blk k13 hV12.out hne9); have cV13 : w13.cell? ⟨w9.heap.size, 2, none⟩ = some (.int .i64 (1 + st)) := (blk_cell hV13.out 2).trans rfl; have H13 := Lib.hid h13; have K13 := Lib.hid k13; clear h13 k13)
          | (go_at_call 19; refine (pick_any hXd.out 2 (by omega) (by omega) (by omega)).mono ?_; rintro e w12 ⟨s5, a12, b12, rfl, h12, k12⟩; have hV12 := Lib.hid (keep_blk k12 hVd.out hne9); have cV12 : w12.cell? ⟨w9.heap.size, 2, none⟩ = some (.int .i64 (1 + st)) := (blk_cell hV12.out 2).trans rfl; have H12 := Lib.hid h12; have K12 := Lib.hid k12; clear h12 k12))
        all_goals
          go_wp2
          go_roundw
          case rel =>
            refine ⟨_, n', _, vs ++ [(⟨sc, t, 1 + st⟩ : Visit)], q + 1 + 1 + 1 + 1, rfl, by go_num, by rw [List.length_append, List.length_singleton]; omega, by omega, by omega, H13.out, keep_blk K13.out (keep_blk K12.out HRd.out (by omega)) (by omega), keep_blk K13.out (keep_blk K12.out HFd.out (Ne.symm hgn)) (Ne.symm hgn), ?_, (HKd.out.trans K12.out (.inl rfl)).trans K13.out (.inl rfl)⟩
            exact R_keep (R_keep HOd.out K12.out (fun k hk => hk.1)) K13.out (fun k hk => hk.1)
          case measure => simp [intOf]
      · obtain rfl : n = 0 := by omega
        obtain ⟨Ax, cx, rfl⟩ := Kd.R_slice HO.out
        have d0 := blk_cell HF.out 0
        have d1 := blk_cell HF.out 1
        have d2 := blk_cell HF.out 2
        have g0 := blk_cell HR.out 0
        have g1 := blk_cell HR.out 1
        have g2 := blk_cell HR.out 2
        have g3 := blk_cell HR.out 3
        have q0 := blk_frozen HR.out 0
        have q1 := blk_frozen HR.out 1
        have q2 := blk_frozen HR.out 2
        have q3 := blk_frozen HR.out 3
        simp only [List.getElem?_toArray, List.getElem?_cons_zero, List.getElem?_cons_succ] at d0 d1 d2 g0 g1 g2 g3
        go_wp2
        refine bodyPost_ret (results_cell_row rfl _ _ w.heap.size 47 #[.string name, .int .i64 (10000 - r4), .int .i64 60, .slice Ax vs.length cx] (0, 0) _ rfl (blk_set (blk_set (blk_set (blk_set HR.out 0 _) 1 _) 2 _) 3 _) Tryz.underlying47 rfl (by kernel_rfl)) rfl ?_
        exact ⟨⟨name, (10000 - r4), 60, vs⟩, Ax, cx, q, hq0, by omega, (by show 1 ≤ vs.length; omega), (by show vs.length ≤ 3; omega), (by show -1 ≤ (10000 - r4) ∧ (10000 - r4) ≤ 10001 ∧ -1 ≤ 60 ∧ 60 ≤ 61; omega), rfl,
          Kd.R_mono (Kd.R_far (p := ⟨w.heap.size, 3, none⟩) (Kd.R_far (p := ⟨w.heap.size, 2, none⟩) (Kd.R_far (p := ⟨w.heap.size, 1, none⟩) (Kd.R_far (p := ⟨w.heap.size, 0, none⟩) HO.out (fun k hk => hk.2.1) _) (fun k hk => hk.2.1) _) (fun k hk => hk.2.1) _) (fun k hk => hk.2.1) _) (fun _ _ => trivial),
          ((((HD.out.far (q := ⟨w.heap.size, 0, none⟩) (show g ≠ w.heap.size by omega) h0w _).far (q := ⟨w.heap.size, 1, none⟩) (show g ≠ w.heap.size by omega) h0w _).far (q := ⟨w.heap.size, 2, none⟩) (show g ≠ w.heap.size by omega) h0w _).far (q := ⟨w.heap.size, 3, none⟩) (show g ≠ w.heap.size by omega) h0w _),
          keep_set (keep_set (keep_set (keep_set HK.out (q := ⟨w.heap.size, 0, none⟩) (Nat.le_refl _) _) (q := ⟨w.heap.size, 1, none⟩) (Nat.le_refl _) _) (q := ⟨w.heap.size, 2, none⟩) (Nat.le_refl _) _) (q := ⟨w.heap.size, 3, none⟩) (Nat.le_refl _) _⟩
  · have e1 : decide (r3 = 0) = false := decide_eq_false hr3
    have e2 : (r3 == 0) = false := by simp [hr3]
    go_wp2_with (fail)
    refine (pick_any h4 5 (by omega) (by omega) (by omega)).mono ?_
    rintro e w6 ⟨t, a6, b6, rfl, h6, k6⟩
    go_wp2_with (fail)
    refine (pick_any h6 3 (by omega) (by omega) (by omega)).mono ?_
    rintro e w7 ⟨n, a7, b7, rfl, h7, k7⟩
    have hF7 : Hid (w7.heap[gF]? = some (.cells #[.string name, .int .i64 r1, .int .i64 r2, .slice none 0 0] 47 (0, 0))) := keep_blk k7 (keep_blk k6 hF4.out (Ne.symm hgn)) (Ne.symm hgn)
    have hR7 := Lib.hid (keep_blk k7 (keep_blk k6 hR4.out (by omega)) (by omega))
    have hK7 := Lib.hid ((KeepBut.trans hK4.out k6 (.inl rfl)).trans k7 (.inl rfl))
    obtain ⟨m, rfl⟩ := Int.eq_ofNat_of_zero_le a7
    have jn : IntKind.i64.wrap (1 + (m : Int)) = ((m + 1 : Nat) : Int) := by rw [show 1 + (m : Int) = ((m + 1 : Nat) : Int) by omega]; exact IntWalk.i64_in _ (by omega)
    have h7' := Lib.hid h7
    have hsz7 : gF < w7.heap.size := blk_lt hF7.out
    clear k6 k7 h6 h7
    go_wp2
    go_loopw [6, 7] (fun vt vn wr => ∃ (t : Int) (n : Nat) (x : Value) (vs : List Visit) (q : Int), vt = .int .i64 t ∧ vn = .int .i64 n ∧ vs.length + n = m + 1 ∧ p ≤ q ∧ q + 4 * (n : Int) ≤ p + 26 ∧ Hid (Rdr w0 wr g bs q) ∧
        Hid (wr.heap[w.heap.size]? = some (.cells #[.string ByteArray.empty, .int .i64 0, .int .i64 0, .slice none 0 0] 47 (0, 0))) ∧ Hid (wr.heap[gF]? = some (.cells #[.string name, .int .i64 r1, .int .i64 r2, x] 47 (0, 0))) ∧
        Hid (Kd.R k58 58 wr w.heap.size (fun k => k ≠ g ∧ k ≠ w.heap.size ∧ k ≠ gF) x vs) ∧ Hid (KeepBut w wr g none)) (fun _ vn _ => (intOf vn).toNat)
    case atStart => exact ⟨t, m + 1, _, [], _, rfl, rfl, by simp, by omega, by omega, h7', hR7, hF7, Kd.R_nil _ _ _ _ _, hK7⟩
    case round =>
      clear h7' hR7 hF7 hK7
      obtain ⟨t, n, x, vs, q, rfl, rfl, hvn, hq0, hq1, HD, HR, HF, HO, HK⟩ := hrel
      have hgl := HD.out.lt
      have hFl := blk_lt HF.out
      have c3 := blk_cell HF.out 3
      simp only [List.getElem?_toArray, List.getElem?_cons_zero, List.getElem?_cons_succ] at c3
      by_cases hn : 0 < n
      · obtain ⟨n', rfl⟩ : ∃ n', n = n' + 1 := ⟨n - 1, by omega⟩
        have jn2 : (0 : Int) < ((n' + 1 : Nat) : Int) := by omega
        have jn3 : IntKind.i64.wrap ((n' : Int) + 1 - 1) = (n' : Int) := by rw [show (n' : Int) + 1 - 1 = n' by omega]; exact IntWalk.i64_in _ (by omega)
        have jn4 : IntKind.i64.wrap (n' : Int) = (n' : Int) := IntWalk.i64_in _ (by omega)
        have jn5 : (0 : Int) < (n' : Int) + 1 := by omega
        obtain ⟨Ax, cx, rfl⟩ := Kd.R_slice HO.out
        go_wp2_with (fail)
        refine (sector_any HD.out (by omega)).mono ?_
        rintro e w8 ⟨sc, rfl, h8, k8⟩
        go_wp2_with (fail)
        refine (pick_any h8 7 (by omega) (by omega) (by omega)).mono ?_
        rintro e w9 ⟨st, a9, b9, rfl, h9, k9⟩
        have js : IntKind.i64.wrap (1 + st) = 1 + st := IntWalk.i64_in _ (by omega)
        have z8 := k8.1
        have z9 := k9.1
        have HF9 := keep_blk k9 (keep_blk k8 HF.out (Ne.symm hgn)) (Ne.symm hgn)
        have HR9 := Lib.hid (keep_blk k9 (keep_blk k8 HR.out (by omega)) (by omega))
        have HO9 := Lib.hid (R_keep (R_keep HO.out k8 (fun k hk => hk.1)) k9 (fun k hk => hk.1))
        have HK9 := Lib.hid ((HK.out.trans k8 (.inl rfl)).trans k9 (.inl rfl))
        have hoF : some gF ≠ (Value.slice Ax vs.length cx).ownBlock := fun e => (HO.out.1 _ e.symm).2.2 rfl
        have hoR : some w.heap.size ≠ (Value.slice Ax vs.length cx).ownBlock := fun e => (HO.out.1 _ e.symm).2.1 rfl
        have hoG : some g ≠ (Value.slice Ax vs.length cx).ownBlock := fun e => (HO.out.1 _ e.symm).1 rfl
        have hoV : some w9.heap.size ≠ (Value.slice Ax vs.length cx).ownBlock := fun e => by
          obtain ⟨_, _, hlt, _⟩ := (Kd.R_bound HO.out).1 _ e.symm
          omega
        have hoB : Hid (∀ j, (Value.slice Ax vs.length cx).ownBlock = some j → w.heap.size ≤ j) := fun j hj => Kd.R_base HO.out j hj
        have HF10 := Lib.hid (blk_alloc HF9 (.cells #[.string sc, .int .i64 t, .int .i64 (1 + st)] 58))
        have HV10 := Lib.hid (blk_new w9 (.cells #[.string sc, .int .i64 t, .int .i64 (1 + st)] 58))
        have c10 := blk_cell HF10.out 3
        simp only [List.getElem?_toArray, List.getElem?_cons_zero, List.getElem?_cons_succ] at c10
        have h9l := h9.lt
        have HE10 : Hid ((w9.alloc (.cells #[.string sc, .int .i64 t, .int .i64 (1 + st)] 58)).heap.size = w9.heap.size + 1) := by show _ = _; simp
        have H9 := Lib.hid h9
        clear k8 k9 HF HR HO HK HD HF9 h8 h9 c3
        go_wp2_with (first
          | (at_builtin; refine Kd.R_append k58 (w0 := w9.alloc (.cells #[.string sc, .int .i64 t, .int .i64 (1 + st)] 58)) w.heap.size rfl _ _ 45 58 (.agg #[.string ByteArray.empty, .int .i64 0, .int .i64 0]) 32 rfl Tryz.underlying45 infoVisit rfl (by decide) (by decide) (.slice Ax vs.length cx) vs (⟨sc, t, 1 + st⟩ : Visit) [.string sc, .int .i64 t, .int .i64 (1 + st)] (fun k => k ≠ g ∧ k ≠ w.heap.size ∧ k ≠ gF) (fun _ => False) rfl (by rw [HE10.out]; rfl) (k58_mkM _ _ _ (⟨sc, t, 1 + st⟩ : Visit)) (fun _ h => h.elim) (fun j hj => by simp at hj; refine ⟨?_, ?_, ?_⟩ <;> omega) (Kd.R_alloc HO9.out _) (Below.refl _ _) (by simp; omega) (by omega) ?_; intro v1 w11 ho11 hb11 hg11 hat11; obtain ⟨A11, y11, rfl⟩ := Kd.R_slice ho11; obtain ⟨n11, hn11⟩ : ∃ n, n = (vs ++ [(⟨sc, t, 1 + st⟩ : Visit)]).length := ⟨_, rfl⟩; rw [← hn11] at ho11 hat11 ⊢; have HN11 := Lib.hid hn11; clear hn11; have HF11 := Lib.hid (blk_grown HF10.out hg11 hoF); have c11 := blk_cell HF11.out 3; have f11 := blk_frozen HF11.out 3; simp only [List.getElem?_toArray, List.getElem?_cons_zero, List.getElem?_cons_succ] at c11; have HV11 := Lib.hid (blk_grown HV10.out hg11 hoV); have HO11 := Lib.hid ho11; have HG11 := Lib.hid hg11; clear ho11 hb11 hg11 hat11)
          | go_in)
        have hX : Hid (Rdr w0 (w11.setCell ⟨gF, 3, none⟩ (.slice A11 n11 y11)) g bs (q + 1 + 1)) := ((H9.out.alloc _).grown HG11.out hoG (fun j hj => by have := hoB.out j hj; omega)).far (q := ⟨gF, 3, none⟩) hgn hgw _
        have hVX := Lib.hid (blk_far HV11.out (p := ⟨gF, 3, none⟩) (show w9.heap.size ≠ gF by omega) (.slice A11 n11 y11))
        have HFX : Hid ((w11.setCell ⟨gF, 3, none⟩ (.slice A11 n11 y11)).heap[gF]? = some (.cells #[.string name, .int .i64 r1, .int .i64 r2, .slice A11 n11 y11] 47 (0, 0))) := blk_set HF11.out 3 (.slice A11 n11 y11)
        have HRX := Lib.hid (blk_far (blk_grown (blk_alloc HR9.out (.cells #[.string sc, .int .i64 t, .int .i64 (1 + st)] 58)) HG11.out hoR) (p := ⟨gF, 3, none⟩) (show w.heap.size ≠ gF by omega) (.slice A11 n11 y11))
        have HOX := Lib.hid (Kd.R_far HO11.out (p := ⟨gF, 3, none⟩) (fun k hk => hk.2.2) (.slice A11 n11 y11))
        have HKX : Hid (KeepBut w (w11.setCell ⟨gF, 3, none⟩ (.slice A11 n11 y11)) g none) := keep_set ((HK9.out.trans (KeepBut.of_below (below_alloc (Below.refl _ _) _) g none) (.inl rfl)).trans (KeepBut.of_grown HG11.out g) (by
          cases hx : (Value.slice Ax vs.length cx).ownBlock with
          | none => exact .inl rfl
          | some b => exact .inr ⟨b, rfl, hoB.out b hx⟩)) (show w.heap.size ≤ gF by omega) _
        have hXl := blk_lt HFX.out
        have hVl := blk_lt hVX.out
        generalize w11.setCell ⟨gF, 3, none⟩ (.slice A11 n11 y11) = X at hX hVX HFX HRX HOX HKX hXl hVl ⊢
        clear HF10 HV10 HF11 HV11 HO11 HG11 HO9 HR9 HK9 H9 c10 c11 f11
        have hXd : Hid (Rdr w0 X.drew g bs (q + 1 + 1)) := hX.out.drewN 1
        have hVd : Hid (X.drew.heap[w9.heap.size]? = some (.cells #[.string sc, .int .i64 t, .int .i64 (1 + st)] 58 (0, 0))) := hVX.out
        have HFd : Hid (X.drew.heap[gF]? = some (.cells #[.string name, .int .i64 r1, .int .i64 r2, .slice A11 n11 y11] 47 (0, 0))) := HFX.out
        have HRd : Hid (X.drew.heap[w.heap.size]? = some (.cells #[.string ByteArray.empty, .int .i64 0, .int .i64 0, .slice none 0 0] 47 (0, 0))) := HRX.out
        have HOd := Lib.hid (Kd.R_drewN HOX.out 1)
        have HKd : Hid (KeepBut w X.drew g none) := HKX.out
        have cX : X.cell? ⟨w9.heap.size, 2, none⟩ = some (.int .i64 (1 + st)) := (blk_cell hVX.out 2).trans rfl
        have hne9 : w9.heap.size ≠ g := by omega
        clear hX hVX HFX HRX HOX HKX
        go_region_held3 (fun W' => W'.cell? ⟨w9.heap.size, 2, none⟩ = some (.int .i64 (1 + st))) (first | assumption | go_keep) (first
          | (go_at_call 19; refine (pick_any H12.out 4 (by omega) (by omega) (by omega)).mono ?_; rintro e w13 ⟨s6, a13, b13, rfl, h13, k13⟩; have hV13 := Lib.hid (keep_blk k13 hV12.out hne9); have cV13 : w13.cell? ⟨w9.heap.size, 2, none⟩ = some (.int .i64 (1 + st)) := (blk_cell hV13.out 2).trans rfl; have H13 := Lib.hid h13; have K13 := Lib.hid k13; clear h13 k13)
          | (go_at_call 19; refine (pick_any hXd.out 2 (by omega) (by omega) (by omega)).mono ?_; rintro e w12 ⟨s5, a12, b12, rfl, h12, k12⟩; have hV12 := Lib.hid (keep_blk k12 hVd.out hne9); have cV12 : w12.cell? ⟨w9.heap.size, 2, none⟩ = some (.int .i64 (1 + st)) := (blk_cell hV12.out 2).trans rfl; have H12 := Lib.hid h12; have K12 := Lib.hid k12; clear h12 k12))
        all_goals
          go_wp2
          go_roundw
          case rel =>
            refine ⟨_, n', _, vs ++ [(⟨sc, t, 1 + st⟩ : Visit)], q + 1 + 1 + 1 + 1, rfl, by go_num, by rw [List.length_append, List.length_singleton]; omega, by omega, by omega, H13.out, keep_blk K13.out (keep_blk K12.out HRd.out (by omega)) (by omega), keep_blk K13.out (keep_blk K12.out HFd.out (Ne.symm hgn)) (Ne.symm hgn), ?_, (HKd.out.trans K12.out (.inl rfl)).trans K13.out (.inl rfl)⟩
            exact R_keep (R_keep HOd.out K12.out (fun k hk => hk.1)) K13.out (fun k hk => hk.1)
          case measure => simp [intOf]
      · obtain rfl : n = 0 := by omega
        obtain ⟨Ax, cx, rfl⟩ := Kd.R_slice HO.out
        have d0 := blk_cell HF.out 0
        have d1 := blk_cell HF.out 1
        have d2 := blk_cell HF.out 2
        have g0 := blk_cell HR.out 0
        have g1 := blk_cell HR.out 1
        have g2 := blk_cell HR.out 2
        have g3 := blk_cell HR.out 3
        have q0 := blk_frozen HR.out 0
        have q1 := blk_frozen HR.out 1
        have q2 := blk_frozen HR.out 2
        have q3 := blk_frozen HR.out 3
        simp only [List.getElem?_toArray, List.getElem?_cons_zero, List.getElem?_cons_succ] at d0 d1 d2 g0 g1 g2 g3
        go_wp2
        refine bodyPost_ret (results_cell_row rfl _ _ w.heap.size 47 #[.string name, .int .i64 r1, .int .i64 r2, .slice Ax vs.length cx] (0, 0) _ rfl (blk_set (blk_set (blk_set (blk_set HR.out 0 _) 1 _) 2 _) 3 _) Tryz.underlying47 rfl (by kernel_rfl)) rfl ?_
        exact ⟨⟨name, r1, r2, vs⟩, Ax, cx, q, hq0, by omega, (by show 1 ≤ vs.length; omega), (by show vs.length ≤ 3; omega), (by show -1 ≤ r1 ∧ r1 ≤ 10001 ∧ -1 ≤ r2 ∧ r2 ≤ 61; omega), rfl,
          Kd.R_mono (Kd.R_far (p := ⟨w.heap.size, 3, none⟩) (Kd.R_far (p := ⟨w.heap.size, 2, none⟩) (Kd.R_far (p := ⟨w.heap.size, 1, none⟩) (Kd.R_far (p := ⟨w.heap.size, 0, none⟩) HO.out (fun k hk => hk.2.1) _) (fun k hk => hk.2.1) _) (fun k hk => hk.2.1) _) (fun k hk => hk.2.1) _) (fun _ _ => trivial),
          ((((HD.out.far (q := ⟨w.heap.size, 0, none⟩) (show g ≠ w.heap.size by omega) h0w _).far (q := ⟨w.heap.size, 1, none⟩) (show g ≠ w.heap.size by omega) h0w _).far (q := ⟨w.heap.size, 2, none⟩) (show g ≠ w.heap.size by omega) h0w _).far (q := ⟨w.heap.size, 3, none⟩) (show g ≠ w.heap.size by omega) h0w _),
          keep_set (keep_set (keep_set (keep_set HK.out (q := ⟨w.heap.size, 0, none⟩) (Nat.le_refl _) _) (q := ⟨w.heap.size, 1, none⟩) (Nat.le_refl _) _) (q := ⟨w.heap.size, 2, none⟩) (Nat.le_refl _) _) (q := ⟨w.heap.size, 3, none⟩) (Nat.le_refl _) _⟩
end Go.Proofs.YthcpbojmalgdbaaGreat.Q
end
section
namespace Go.Proofs.YthcpbojmalgdbaaGreat.Q
open Go.RowKit Go.Proofs.YthcpbojmalgdbaaGreatW.PrintWords Go.Proofs.YthcpbojmalgdbaaGreatW.PrintLast Go.Proofs.YthcpbojmalgdbaaGreatW.PrintMore Go.Proofs.YthcpbojmalgdbaaGreat.Core
set_option linter.unusedVariables false
set_option linter.unusedSimpArgs false
theorem infoFlight : (Tryz.prog.info? 47).map (fun i => (i.zero, i.size, i.bytes)) = some (some (.agg #[.string ByteArray.empty, .int .i64 0, .int .i64 0, .slice none 0 0]), 4, 56) := by kernel_rfl
end Go.Proofs.YthcpbojmalgdbaaGreat.Q
end
section
namespace Go.Proofs.YthcpbojmalgdbaaGreat.Q
open Go.RowKit Go.Proofs.YthcpbojmalgdbaaGreatW.PrintWords Go.Proofs.YthcpbojmalgdbaaGreatW.PrintLast Go.Proofs.YthcpbojmalgdbaaGreatW.PrintMore Go.Proofs.YthcpbojmalgdbaaGreat.Core
set_option linter.unusedVariables false
set_option linter.unusedSimpArgs false
def cellLen (w : World) (a : Addr) : Nat := match w.cell? a with | some (.slice _ n _) => n | _ => 0
theorem cellLen_at {w : World} {a : Addr} {A : Option Addr} {n c : Nat} (h : w.cell? a = some (.slice A n c)) : cellLen w a = n := by unfold cellLen; rw [h]
section
variable {w : World} {base g n cap : Nat} {ok : Nat → Prop} {xs : List Visit}
theorem visAt (h : Kd.R k58 58 w base ok (.slice (some ⟨g, 0, none⟩) n cap) xs) (k : Nat) (hk : k < n) :
    ∃ x : Visit, w.cell? ⟨g, k * 3, none⟩ = some (.string x.f0) ∧ w.cell? ⟨g, k * 3 + 1, none⟩ = some (.int .i64 x.f1) ∧ w.cell? ⟨g, k * 3 + 2, none⟩ = some (.int .i64 x.f2) ∧ w.frozen? ⟨g, k * 3 + 1, none⟩ = false ∧ w.frozen? ⟨g, k * 3 + 2, none⟩ = false ∧
      (∀ t, Kd.R k58 58 (w.setCell ⟨g, k * 3 + 1, none⟩ (.int .i64 t)) base ok (.slice (some ⟨g, 0, none⟩) n cap) (xs.set k ⟨x.f0, t, x.f2⟩)) ∧
      ∀ t, Kd.R k58 58 (w.setCell ⟨g, k * 3 + 2, none⟩ (.int .i64 t)) base ok (.slice (some ⟨g, 0, none⟩) n cap) (xs.set k ⟨x.f0, x.f1, t⟩) := by
  obtain ⟨c, hcl, hM, hcc, hfr⟩ := Kd.R_elem h z58 (k : Int) (by omega) (by omega)
  obtain ⟨x, hx⟩ : ∃ x, x = xs.getD (k : Int).toNat z58 := ⟨_, rfl⟩
  rw [← hx] at hM
  obtain rfl := k58_openM hM
  refine ⟨x, hcc 0 _ rfl, hcc 1 _ rfl, hcc 2 _ rfl, hfr 1, hfr 2, fun t => ?_, fun t => ?_⟩
  · exact (Kd.R_seg h (k : Int) (by omega) (by omega) (seg := [.int .i64 t]) (j := 1) hcl hcc (show 1 + 1 ≤ 3 from by decide) (x' := (⟨x.f0, t, x.f2⟩ : Visit)) (k58_mkM _ _ _ (⟨x.f0, t, x.f2⟩ : Visit)) (fun _ hk => hk)).1
  · exact (Kd.R_seg h (k : Int) (by omega) (by omega) (seg := [.int .i64 t]) (j := 2) hcl hcc (show 2 + 1 ≤ 3 from by decide) (x' := (⟨x.f0, x.f1, t⟩ : Visit)) (k58_mkM _ _ _ (⟨x.f0, x.f1, t⟩ : Visit)) (fun _ hk => hk)).1
end
set_option maxRecDepth 100000 in
set_option maxHeartbeats 4000000 in
theorem spoil_any {w0 w : World} {g : Nat} {bs : List Int} {p : Int} (h : Rdr w0 w g bs p) (hp : p ≤ 800000) (f : Flight) (A3 : Option Addr) (c3 : Nat) (hr : Kd.C k58 w A3 f.f3.length f.f3) (hc : f.f3.length ≤ c3) (h1 : 1 ≤ f.f3.length) (h3 : f.f3.length ≤ 3) (hsm : smallL f) :
    Calls Tryz.prog 59 #[.pointer (some ⟨g, 0, none⟩), .agg #[.string f.f0, .int .i64 f.f1, .int .i64 f.f2, .slice A3 f.f3.length c3]] w fun e w' => ∃ (f' : Flight) (A : Option Addr) (c : Nat) (p' : Int), p ≤ p' ∧ p' ≤ p + 10 ∧ f'.f3.length ≤ 10 ∧ smallL f' ∧
      e = .returned (.agg #[.string f'.f0, .int .i64 f'.f1, .int .i64 f'.f2, .slice A f'.f3.length c]) ∧ Kd.R k58 58 w' w.heap.size (fun k => k ≠ g) (.slice A f'.f3.length c) f'.f3 ∧ Rdr w0 w' g bs p' ∧ KeepBut w w' g none := by
  have hgl := h.lt
  have h0w := h.hb.size
  have HR0 := Lib.hid hr
  have HSM := Lib.hid hsm
  clear hr hsm
  go_enter Tryz.func59, Tryz.ntmps59
  go_wp2_with (fail)
  refine (l1Flight_any f A3 c3 _ (Kd.C_below HR0.out (below_alloc (below_alloc (Below.refl _ _) _) _)) hc (by omega)).mono ?_
  rintro e w3 ⟨A, c, rfl, hx, hb3⟩
  have z3 : w.heap.size + 2 ≤ w3.heap.size := by have := hb3.size; simpa using this
  obtain ⟨m, hm⟩ : ∃ m, m = f.f3.length := ⟨_, rfl⟩
  have H3 := Lib.hid (((h.alloc (.cells #[.string f.f0, .int .i64 f.f1, .int .i64 f.f2, .slice A3 f.f3.length c3] 47)).alloc (.cells #[.string ByteArray.empty, .int .i64 0, .int .i64 0, .slice none 0 0] 47)).below hb3)
  have HB3 : Hid (w3.heap[w.heap.size + 1]? = some (.cells #[.string ByteArray.empty, .int .i64 0, .int .i64 0, .slice none 0 0] 47 (0, 0))) := by
    have t := blk_new (w.alloc (.cells #[.string f.f0, .int .i64 f.f1, .int .i64 f.f2, .slice A3 f.f3.length c3] 47)) (.cells #[.string ByteArray.empty, .int .i64 0, .int .i64 0, .slice none 0 0] 47)
    rw [show (w.alloc (.cells #[.string f.f0, .int .i64 f.f1, .int .i64 f.f2, .slice A3 f.f3.length c3] 47)).heap.size = w.heap.size + 1 by simp] at t
    exact (hb3.block _ (by simp)).trans t
  obtain ⟨gX, hgX⟩ : ∃ gX, gX = w3.heap.size := ⟨_, rfl⟩
  have HO3 : Hid (Kd.R k58 58 w3 w.heap.size (fun k => k ≠ g ∧ k ≠ w.heap.size ∧ k ≠ w.heap.size + 1 ∧ k ≠ gX) (.slice A m c) f.f3) := by
    have t := Kd.R_bound hx
    rw [← hm] at t
    exact Kd.R_lower (Kd.R_mono t (fun k hk => by
      have h1 := hk.2.1
      have h2 := hk.2.2.1
      simp at h1
      exact ⟨by omega, by omega, by omega, by omega⟩)) (by simp; omega)
  have HK3 : Hid (KeepBut w w3 g none) := (KeepBut.of_below (below_alloc (below_alloc (Below.refl _ _) _) _) g none).trans (KeepBut.of_below hb3 g none) (.inl rfl)
  rw [← hm] at h1 h3 ⊢
  have HM := Lib.hid hm
  clear hm hx hb3 h
  go_wp2_with (fail)
  refine (pick_any (H3.out.alloc _) m (by omega) (by omega) (by omega)).mono ?_
  rintro e w4 ⟨k, a4, b4, rfl, h4, k4⟩
  go_wp2_with (fail)
  refine (pick_any h4 7 (by omega) (by omega) (by omega)).mono ?_
  rintro e w5 ⟨r, a5, b5, rfl, h5, k5⟩
  have z4 : w3.heap.size + 1 ≤ w4.heap.size := by have := k4.1; simpa using this
  have z5 := k5.1
  have h3l := H3.out.lt
  have hX5 : Hid (w5.heap[w3.heap.size]? = some (.cells #[.string f.f0, .int .i64 f.f1, .int .i64 f.f2, .slice A m c] 47 (0, 0))) := keep_blk k5 (keep_blk k4 (blk_new _ _) (by omega)) (by omega)
  have hR5 := Lib.hid (keep_blk k5 (keep_blk k4 (blk_alloc HB3.out (.cells #[.string f.f0, .int .i64 f.f1, .int .i64 f.f2, .slice A m c] 47)) (by omega)) (by omega))
  have HO5 := Lib.hid (R_keep (R_keep (Kd.R_alloc HO3.out (.cells #[.string f.f0, .int .i64 f.f1, .int .i64 f.f2, .slice A m c] 47)) k4 (fun k hk => hk.1)) k5 (fun k hk => hk.1))
  have HK5 := Lib.hid (((HK3.out.trans (KeepBut.of_below (below_alloc (Below.refl _ _) (.cells #[.string f.f0, .int .i64 f.f1, .int .i64 f.f2, .slice A m c] 47)) g none) (.inl rfl)).trans k4 (.inl rfl)).trans k5 (.inl rfl))
  have H5 := Lib.hid h5
  obtain ⟨gA, cA, hform, hg0, hg1, _⟩ := Kd.R_form HO5.out (by rw [← HM.out]; omega)
  have hmc : m ≤ c := by exact (Kd.R_reads' HO5.out).2.1
  injection hform with ea en ec
  subst ea ec
  clear en
  rw [← hgX] at hX5 z4 ⊢
  have HGX := Lib.hid hgX
  have hgx : g ≠ gX := by omega
  have hgw : w0.heap.size ≤ gX := by omega
  have hRw : w0.heap.size ≤ w.heap.size + 1 := by omega
  have hww : w.heap.size ≤ w.heap.size + 1 := by omega
  have hwX : w.heap.size + 1 < gX := by omega
  have c0 := blk_cell hX5.out 0
  have c1 := blk_cell hX5.out 1
  have c2 := blk_cell hX5.out 2
  have c3 := blk_cell hX5.out 3
  have e0 := blk_frozen hX5.out 0
  have e1 := blk_frozen hX5.out 1
  have e2 := blk_frozen hX5.out 2
  have e3 := blk_frozen hX5.out 3
  simp only [List.getElem?_toArray, List.getElem?_cons_zero, List.getElem?_cons_succ] at c0 c1 c2 c3
  have g0 := blk_cell hR5.out 0
  have g1 := blk_cell hR5.out 1
  have g2 := blk_cell hR5.out 2
  have g3 := blk_cell hR5.out 3
  have q0 := blk_frozen hR5.out 0
  have q1 := blk_frozen hR5.out 1
  have q2 := blk_frozen hR5.out 2
  have q3 := blk_frozen hR5.out 3
  simp only [List.getElem?_toArray, List.getElem?_cons_zero, List.getElem?_cons_succ] at g0 g1 g2 g3
  obtain ⟨k, rfl⟩ := Int.eq_ofNat_of_zero_le a4
  have hkm : k ≤ m := by omega
  have hkc : k ≤ c := by omega
  have hFL : f.f3.length ≤ 3 := by rw [← HM.out]; exact h3
  clear H3 HB3 HO3 HK3 h4 h5 k4 k5 hgX hg0 hg1
  have hcases : r = 0 ∨ r = 1 ∨ r = 2 ∨ r = 3 ∨ r = 4 ∨ r = 5 ∨ r = 6 := by omega
  rcases hcases with rfl | rfl | rfl | rfl | rfl | rfl | rfl
  · skip
    go_wp2_with (fail)
    refine (of_any (H5.out.alloc _) _ 4 [⟨#[]⟩, ⟨#[65]⟩, ⟨#[122, 122]⟩, ⟨#[97, 49]⟩] (litSC w5 _ (by decide)) (by decide) (fun ad e _ => by injection e with e; rw [← e]; show w5.heap.size ≠ g; have := H5.out.lt; omega) (by omega) (by simp) (by simp)).mono ?_
    rintro e w7 ⟨sx, rfl, h7, k7⟩
    have z7 : w5.heap.size + 1 ≤ w7.heap.size := by have := k7.1; simpa using this
    have hX7 := Lib.hid (keep_blk k7 (blk_alloc hX5.out (.cells #[.string ⟨#[]⟩, .string ⟨#[65]⟩, .string ⟨#[122, 122]⟩, .string ⟨#[97, 49]⟩] 9)) (Ne.symm hgx))
    have hR7 := Lib.hid (keep_blk k7 (blk_alloc hR5.out (.cells #[.string ⟨#[]⟩, .string ⟨#[65]⟩, .string ⟨#[122, 122]⟩, .string ⟨#[97, 49]⟩] 9)) (by omega))
    have HO7 := Lib.hid (R_keep (Kd.R_alloc HO5.out (.cells #[.string ⟨#[]⟩, .string ⟨#[65]⟩, .string ⟨#[122, 122]⟩, .string ⟨#[97, 49]⟩] 9)) k7 (fun k hk => hk.1))
    have HK7 := Lib.hid ((HK5.out.trans (KeepBut.of_below (below_alloc (Below.refl _ _) (.cells #[.string ⟨#[]⟩, .string ⟨#[65]⟩, .string ⟨#[122, 122]⟩, .string ⟨#[97, 49]⟩] 9)) g none) (.inl rfl)).trans k7 (.inl rfl))
    have H7 := Lib.hid h7
    clear c0 c1 c2 c3 e0 e1 e2 e3 g0 g1 g2 g3 q0 q1 q2 q3 hX5 hR5 HO5 HK5 H5 h7 k7
    have c0 := blk_cell hX7.out 0
    have c1 := blk_cell hX7.out 1
    have c2 := blk_cell hX7.out 2
    have c3 := blk_cell hX7.out 3
    have e0 := blk_frozen hX7.out 0
    have e1 := blk_frozen hX7.out 1
    have e2 := blk_frozen hX7.out 2
    have e3 := blk_frozen hX7.out 3
    have g0 := blk_cell hR7.out 0
    have g1 := blk_cell hR7.out 1
    have g2 := blk_cell hR7.out 2
    have g3 := blk_cell hR7.out 3
    have q0 := blk_frozen hR7.out 0
    have q1 := blk_frozen hR7.out 1
    have q2 := blk_frozen hR7.out 2
    have q3 := blk_frozen hR7.out 3
    simp only [List.getElem?_toArray, List.getElem?_cons_zero, List.getElem?_cons_succ] at c0 c1 c2 c3 g0 g1 g2 g3
    go_wp2
    refine bodyPost_ret (results_cell_row rfl _ _ (w.heap.size + 1) 47 #[.string sx, .int .i64 f.f1, .int .i64 f.f2, .slice (some ⟨gA, 0, none⟩) m c] (0, 0) _ rfl (blk_set (blk_set (blk_set (blk_set (blk_far hR7.out (p := ⟨gX, 0, none⟩) (show w.heap.size + 1 ≠ gX by omega) _) 0 _) 1 _) 2 _) 3 _) Tryz.underlying47 rfl (by kernel_rfl)) rfl ?_
    exact ⟨⟨sx, f.f1, f.f2, f.f3⟩, (some ⟨gA, 0, none⟩), c, (p + 1 + 1 + 1), by omega, by omega, (by show List.length _ ≤ 10; show f.f3.length ≤ 10; omega), (by have t : -1 ≤ f.f1 ∧ f.f1 ≤ 10001 ∧ -1 ≤ f.f2 ∧ f.f2 ≤ 61 := HSM.out; show -1 ≤ f.f1 ∧ f.f1 ≤ 10001 ∧ -1 ≤ f.f2 ∧ f.f2 ≤ 61; omega), (by show _ = Ending.returned (.agg #[_, _, _, .slice _ f.f3.length _]); rw [← HM.out]),
      (fun t => by rw [← HM.out]; exact t) <| Kd.R_mono (Kd.R_far (p := ⟨w.heap.size + 1, 3, none⟩) (Kd.R_far (p := ⟨w.heap.size + 1, 2, none⟩) (Kd.R_far (p := ⟨w.heap.size + 1, 1, none⟩) (Kd.R_far (p := ⟨w.heap.size + 1, 0, none⟩) (Kd.R_far (p := ⟨gX, 0, none⟩) HO7.out (fun k hk => hk.2.2.2) _) (fun k hk => hk.2.2.1) _) (fun k hk => hk.2.2.1) _) (fun k hk => hk.2.2.1) _) (fun k hk => hk.2.2.1) _) (fun _ hk => hk.1),
      (((((H7.out.far (q := ⟨gX, 0, none⟩) hgx hgw _).far (q := ⟨w.heap.size + 1, 0, none⟩) (show g ≠ w.heap.size + 1 by omega) hRw _).far (q := ⟨w.heap.size + 1, 1, none⟩) (show g ≠ w.heap.size + 1 by omega) hRw _).far (q := ⟨w.heap.size + 1, 2, none⟩) (show g ≠ w.heap.size + 1 by omega) hRw _).far (q := ⟨w.heap.size + 1, 3, none⟩) (show g ≠ w.heap.size + 1 by omega) hRw _),
      keep_set (keep_set (keep_set (keep_set (keep_set HK7.out (q := ⟨gX, 0, none⟩) (show w.heap.size ≤ gX by omega) _) (q := ⟨w.heap.size + 1, 0, none⟩) hww _) (q := ⟨w.heap.size + 1, 1, none⟩) hww _) (q := ⟨w.heap.size + 1, 2, none⟩) hww _) (q := ⟨w.heap.size + 1, 3, none⟩) hww _⟩
  · skip
    go_wp2_with (fail)
    refine (pick_any (H5.out.alloc _) 3 (by omega) (by omega) (by omega)).mono ?_
    rintro e w7 ⟨j, a7, b7, rfl, h7, k7⟩
    have z7 : w5.heap.size + 1 ≤ w7.heap.size := by have := k7.1; simpa using this
    have hL7 := keep_blk k7 (blk_new w5 (.cells #[.int .i64 (-1), .int .i64 (10000), .int .i64 (10001)] 3)) (by omega)
    have hX7 := Lib.hid (keep_blk k7 (blk_alloc hX5.out (.cells #[.int .i64 (-1), .int .i64 (10000), .int .i64 (10001)] 3)) (Ne.symm hgx))
    have hR7 := Lib.hid (keep_blk k7 (blk_alloc hR5.out (.cells #[.int .i64 (-1), .int .i64 (10000), .int .i64 (10001)] 3)) (by omega))
    have HO7 := Lib.hid (R_keep (Kd.R_alloc HO5.out (.cells #[.int .i64 (-1), .int .i64 (10000), .int .i64 (10001)] 3)) k7 (fun k hk => hk.1))
    have HK7 := Lib.hid ((HK5.out.trans (KeepBut.of_below (below_alloc (Below.refl _ _) (.cells #[.int .i64 (-1), .int .i64 (10000), .int .i64 (10001)] 3)) g none) (.inl rfl)).trans k7 (.inl rfl))
    have H7 := Lib.hid h7
    have L0 := blk_cell hL7 0
    have L1 := blk_cell hL7 1
    have L2 := blk_cell hL7 2
    simp only [List.getElem?_toArray, List.getElem?_cons_zero, List.getElem?_cons_succ] at L0 L1 L2
    clear c0 c1 c2 c3 e0 e1 e2 e3 g0 g1 g2 g3 q0 q1 q2 q3 hX5 hR5 HO5 HK5 H5 h7 k7 hL7
    have c0 := blk_cell hX7.out 0
    have c1 := blk_cell hX7.out 1
    have c2 := blk_cell hX7.out 2
    have c3 := blk_cell hX7.out 3
    have e0 := blk_frozen hX7.out 0
    have e1 := blk_frozen hX7.out 1
    have e2 := blk_frozen hX7.out 2
    have e3 := blk_frozen hX7.out 3
    have g0 := blk_cell hR7.out 0
    have g1 := blk_cell hR7.out 1
    have g2 := blk_cell hR7.out 2
    have g3 := blk_cell hR7.out 3
    have q0 := blk_frozen hR7.out 0
    have q1 := blk_frozen hR7.out 1
    have q2 := blk_frozen hR7.out 2
    have q3 := blk_frozen hR7.out 3
    simp only [List.getElem?_toArray, List.getElem?_cons_zero, List.getElem?_cons_succ] at c0 c1 c2 c3 g0 g1 g2 g3
    have hj : j = 0 ∨ j = 1 ∨ j = 2 := by omega
    rcases hj with rfl | rfl | rfl
    · go_wp2
      refine bodyPost_ret (results_cell_row rfl _ _ (w.heap.size + 1) 47 #[.string f.f0, .int .i64 (-1), .int .i64 f.f2, .slice (some ⟨gA, 0, none⟩) m c] (0, 0) _ rfl (blk_set (blk_set (blk_set (blk_set (blk_far hR7.out (p := ⟨gX, 1, none⟩) (show w.heap.size + 1 ≠ gX by omega) _) 0 _) 1 _) 2 _) 3 _) Tryz.underlying47 rfl (by kernel_rfl)) rfl ?_
      exact ⟨⟨f.f0, (-1), f.f2, f.f3⟩, (some ⟨gA, 0, none⟩), c, (p + 1 + 1 + 1), by omega, by omega, (by show List.length _ ≤ 10; show f.f3.length ≤ 10; omega), (by have t : -1 ≤ f.f1 ∧ f.f1 ≤ 10001 ∧ -1 ≤ f.f2 ∧ f.f2 ≤ 61 := HSM.out; show -1 ≤ (-1) ∧ (-1) ≤ 10001 ∧ -1 ≤ f.f2 ∧ f.f2 ≤ 61; omega), (by show _ = Ending.returned (.agg #[_, _, _, .slice _ f.f3.length _]); rw [← HM.out]),
        (fun t => by rw [← HM.out]; exact t) <| Kd.R_mono (Kd.R_far (p := ⟨w.heap.size + 1, 3, none⟩) (Kd.R_far (p := ⟨w.heap.size + 1, 2, none⟩) (Kd.R_far (p := ⟨w.heap.size + 1, 1, none⟩) (Kd.R_far (p := ⟨w.heap.size + 1, 0, none⟩) (Kd.R_far (p := ⟨gX, 1, none⟩) HO7.out (fun k hk => hk.2.2.2) _) (fun k hk => hk.2.2.1) _) (fun k hk => hk.2.2.1) _) (fun k hk => hk.2.2.1) _) (fun k hk => hk.2.2.1) _) (fun _ hk => hk.1),
        (((((H7.out.far (q := ⟨gX, 1, none⟩) hgx hgw _).far (q := ⟨w.heap.size + 1, 0, none⟩) (show g ≠ w.heap.size + 1 by omega) hRw _).far (q := ⟨w.heap.size + 1, 1, none⟩) (show g ≠ w.heap.size + 1 by omega) hRw _).far (q := ⟨w.heap.size + 1, 2, none⟩) (show g ≠ w.heap.size + 1 by omega) hRw _).far (q := ⟨w.heap.size + 1, 3, none⟩) (show g ≠ w.heap.size + 1 by omega) hRw _),
        keep_set (keep_set (keep_set (keep_set (keep_set HK7.out (q := ⟨gX, 1, none⟩) (show w.heap.size ≤ gX by omega) _) (q := ⟨w.heap.size + 1, 0, none⟩) hww _) (q := ⟨w.heap.size + 1, 1, none⟩) hww _) (q := ⟨w.heap.size + 1, 2, none⟩) hww _) (q := ⟨w.heap.size + 1, 3, none⟩) hww _⟩
    · go_wp2
      refine bodyPost_ret (results_cell_row rfl _ _ (w.heap.size + 1) 47 #[.string f.f0, .int .i64 (10000), .int .i64 f.f2, .slice (some ⟨gA, 0, none⟩) m c] (0, 0) _ rfl (blk_set (blk_set (blk_set (blk_set (blk_far hR7.out (p := ⟨gX, 1, none⟩) (show w.heap.size + 1 ≠ gX by omega) _) 0 _) 1 _) 2 _) 3 _) Tryz.underlying47 rfl (by kernel_rfl)) rfl ?_
      exact ⟨⟨f.f0, (10000), f.f2, f.f3⟩, (some ⟨gA, 0, none⟩), c, (p + 1 + 1 + 1), by omega, by omega, (by show List.length _ ≤ 10; show f.f3.length ≤ 10; omega), (by have t : -1 ≤ f.f1 ∧ f.f1 ≤ 10001 ∧ -1 ≤ f.f2 ∧ f.f2 ≤ 61 := HSM.out; show -1 ≤ (10000) ∧ (10000) ≤ 10001 ∧ -1 ≤ f.f2 ∧ f.f2 ≤ 61; omega), (by show _ = Ending.returned (.agg #[_, _, _, .slice _ f.f3.length _]); rw [← HM.out]),
        (fun t => by rw [← HM.out]; exact t) <| Kd.R_mono (Kd.R_far (p := ⟨w.heap.size + 1, 3, none⟩) (Kd.R_far (p := ⟨w.heap.size + 1, 2, none⟩) (Kd.R_far (p := ⟨w.heap.size + 1, 1, none⟩) (Kd.R_far (p := ⟨w.heap.size + 1, 0, none⟩) (Kd.R_far (p := ⟨gX, 1, none⟩) HO7.out (fun k hk => hk.2.2.2) _) (fun k hk => hk.2.2.1) _) (fun k hk => hk.2.2.1) _) (fun k hk => hk.2.2.1) _) (fun k hk => hk.2.2.1) _) (fun _ hk => hk.1),
        (((((H7.out.far (q := ⟨gX, 1, none⟩) hgx hgw _).far (q := ⟨w.heap.size + 1, 0, none⟩) (show g ≠ w.heap.size + 1 by omega) hRw _).far (q := ⟨w.heap.size + 1, 1, none⟩) (show g ≠ w.heap.size + 1 by omega) hRw _).far (q := ⟨w.heap.size + 1, 2, none⟩) (show g ≠ w.heap.size + 1 by omega) hRw _).far (q := ⟨w.heap.size + 1, 3, none⟩) (show g ≠ w.heap.size + 1 by omega) hRw _),
        keep_set (keep_set (keep_set (keep_set (keep_set HK7.out (q := ⟨gX, 1, none⟩) (show w.heap.size ≤ gX by omega) _) (q := ⟨w.heap.size + 1, 0, none⟩) hww _) (q := ⟨w.heap.size + 1, 1, none⟩) hww _) (q := ⟨w.heap.size + 1, 2, none⟩) hww _) (q := ⟨w.heap.size + 1, 3, none⟩) hww _⟩
    · go_wp2
      refine bodyPost_ret (results_cell_row rfl _ _ (w.heap.size + 1) 47 #[.string f.f0, .int .i64 (10001), .int .i64 f.f2, .slice (some ⟨gA, 0, none⟩) m c] (0, 0) _ rfl (blk_set (blk_set (blk_set (blk_set (blk_far hR7.out (p := ⟨gX, 1, none⟩) (show w.heap.size + 1 ≠ gX by omega) _) 0 _) 1 _) 2 _) 3 _) Tryz.underlying47 rfl (by kernel_rfl)) rfl ?_
      exact ⟨⟨f.f0, (10001), f.f2, f.f3⟩, (some ⟨gA, 0, none⟩), c, (p + 1 + 1 + 1), by omega, by omega, (by show List.length _ ≤ 10; show f.f3.length ≤ 10; omega), (by have t : -1 ≤ f.f1 ∧ f.f1 ≤ 10001 ∧ -1 ≤ f.f2 ∧ f.f2 ≤ 61 := HSM.out; show -1 ≤ (10001) ∧ (10001) ≤ 10001 ∧ -1 ≤ f.f2 ∧ f.f2 ≤ 61; omega), (by show _ = Ending.returned (.agg #[_, _, _, .slice _ f.f3.length _]); rw [← HM.out]),
        (fun t => by rw [← HM.out]; exact t) <| Kd.R_mono (Kd.R_far (p := ⟨w.heap.size + 1, 3, none⟩) (Kd.R_far (p := ⟨w.heap.size + 1, 2, none⟩) (Kd.R_far (p := ⟨w.heap.size + 1, 1, none⟩) (Kd.R_far (p := ⟨w.heap.size + 1, 0, none⟩) (Kd.R_far (p := ⟨gX, 1, none⟩) HO7.out (fun k hk => hk.2.2.2) _) (fun k hk => hk.2.2.1) _) (fun k hk => hk.2.2.1) _) (fun k hk => hk.2.2.1) _) (fun k hk => hk.2.2.1) _) (fun _ hk => hk.1),
        (((((H7.out.far (q := ⟨gX, 1, none⟩) hgx hgw _).far (q := ⟨w.heap.size + 1, 0, none⟩) (show g ≠ w.heap.size + 1 by omega) hRw _).far (q := ⟨w.heap.size + 1, 1, none⟩) (show g ≠ w.heap.size + 1 by omega) hRw _).far (q := ⟨w.heap.size + 1, 2, none⟩) (show g ≠ w.heap.size + 1 by omega) hRw _).far (q := ⟨w.heap.size + 1, 3, none⟩) (show g ≠ w.heap.size + 1 by omega) hRw _),
        keep_set (keep_set (keep_set (keep_set (keep_set HK7.out (q := ⟨gX, 1, none⟩) (show w.heap.size ≤ gX by omega) _) (q := ⟨w.heap.size + 1, 0, none⟩) hww _) (q := ⟨w.heap.size + 1, 1, none⟩) hww _) (q := ⟨w.heap.size + 1, 2, none⟩) hww _) (q := ⟨w.heap.size + 1, 3, none⟩) hww _⟩
  · skip
    go_wp2_with (fail)
    refine (pick_any (H5.out.alloc _) 3 (by omega) (by omega) (by omega)).mono ?_
    rintro e w7 ⟨j, a7, b7, rfl, h7, k7⟩
    have z7 : w5.heap.size + 1 ≤ w7.heap.size := by have := k7.1; simpa using this
    have hL7 := keep_blk k7 (blk_new w5 (.cells #[.int .i64 (-1), .int .i64 (60), .int .i64 (61)] 3)) (by omega)
    have hX7 := Lib.hid (keep_blk k7 (blk_alloc hX5.out (.cells #[.int .i64 (-1), .int .i64 (60), .int .i64 (61)] 3)) (Ne.symm hgx))
    have hR7 := Lib.hid (keep_blk k7 (blk_alloc hR5.out (.cells #[.int .i64 (-1), .int .i64 (60), .int .i64 (61)] 3)) (by omega))
    have HO7 := Lib.hid (R_keep (Kd.R_alloc HO5.out (.cells #[.int .i64 (-1), .int .i64 (60), .int .i64 (61)] 3)) k7 (fun k hk => hk.1))
    have HK7 := Lib.hid ((HK5.out.trans (KeepBut.of_below (below_alloc (Below.refl _ _) (.cells #[.int .i64 (-1), .int .i64 (60), .int .i64 (61)] 3)) g none) (.inl rfl)).trans k7 (.inl rfl))
    have H7 := Lib.hid h7
    have L0 := blk_cell hL7 0
    have L1 := blk_cell hL7 1
    have L2 := blk_cell hL7 2
    simp only [List.getElem?_toArray, List.getElem?_cons_zero, List.getElem?_cons_succ] at L0 L1 L2
    clear c0 c1 c2 c3 e0 e1 e2 e3 g0 g1 g2 g3 q0 q1 q2 q3 hX5 hR5 HO5 HK5 H5 h7 k7 hL7
    have c0 := blk_cell hX7.out 0
    have c1 := blk_cell hX7.out 1
    have c2 := blk_cell hX7.out 2
    have c3 := blk_cell hX7.out 3
    have e0 := blk_frozen hX7.out 0
    have e1 := blk_frozen hX7.out 1
    have e2 := blk_frozen hX7.out 2
    have e3 := blk_frozen hX7.out 3
    have g0 := blk_cell hR7.out 0
    have g1 := blk_cell hR7.out 1
    have g2 := blk_cell hR7.out 2
    have g3 := blk_cell hR7.out 3
    have q0 := blk_frozen hR7.out 0
    have q1 := blk_frozen hR7.out 1
    have q2 := blk_frozen hR7.out 2
    have q3 := blk_frozen hR7.out 3
    simp only [List.getElem?_toArray, List.getElem?_cons_zero, List.getElem?_cons_succ] at c0 c1 c2 c3 g0 g1 g2 g3
    have hj : j = 0 ∨ j = 1 ∨ j = 2 := by omega
    rcases hj with rfl | rfl | rfl
    · go_wp2
      refine bodyPost_ret (results_cell_row rfl _ _ (w.heap.size + 1) 47 #[.string f.f0, .int .i64 f.f1, .int .i64 (-1), .slice (some ⟨gA, 0, none⟩) m c] (0, 0) _ rfl (blk_set (blk_set (blk_set (blk_set (blk_far hR7.out (p := ⟨gX, 2, none⟩) (show w.heap.size + 1 ≠ gX by omega) _) 0 _) 1 _) 2 _) 3 _) Tryz.underlying47 rfl (by kernel_rfl)) rfl ?_
      exact ⟨⟨f.f0, f.f1, (-1), f.f3⟩, (some ⟨gA, 0, none⟩), c, (p + 1 + 1 + 1), by omega, by omega, (by show List.length _ ≤ 10; show f.f3.length ≤ 10; omega), (by have t : -1 ≤ f.f1 ∧ f.f1 ≤ 10001 ∧ -1 ≤ f.f2 ∧ f.f2 ≤ 61 := HSM.out; show -1 ≤ f.f1 ∧ f.f1 ≤ 10001 ∧ -1 ≤ (-1) ∧ (-1) ≤ 61; omega), (by show _ = Ending.returned (.agg #[_, _, _, .slice _ f.f3.length _]); rw [← HM.out]),
        (fun t => by rw [← HM.out]; exact t) <| Kd.R_mono (Kd.R_far (p := ⟨w.heap.size + 1, 3, none⟩) (Kd.R_far (p := ⟨w.heap.size + 1, 2, none⟩) (Kd.R_far (p := ⟨w.heap.size + 1, 1, none⟩) (Kd.R_far (p := ⟨w.heap.size + 1, 0, none⟩) (Kd.R_far (p := ⟨gX, 2, none⟩) HO7.out (fun k hk => hk.2.2.2) _) (fun k hk => hk.2.2.1) _) (fun k hk => hk.2.2.1) _) (fun k hk => hk.2.2.1) _) (fun k hk => hk.2.2.1) _) (fun _ hk => hk.1),
        (((((H7.out.far (q := ⟨gX, 2, none⟩) hgx hgw _).far (q := ⟨w.heap.size + 1, 0, none⟩) (show g ≠ w.heap.size + 1 by omega) hRw _).far (q := ⟨w.heap.size + 1, 1, none⟩) (show g ≠ w.heap.size + 1 by omega) hRw _).far (q := ⟨w.heap.size + 1, 2, none⟩) (show g ≠ w.heap.size + 1 by omega) hRw _).far (q := ⟨w.heap.size + 1, 3, none⟩) (show g ≠ w.heap.size + 1 by omega) hRw _),
        keep_set (keep_set (keep_set (keep_set (keep_set HK7.out (q := ⟨gX, 2, none⟩) (show w.heap.size ≤ gX by omega) _) (q := ⟨w.heap.size + 1, 0, none⟩) hww _) (q := ⟨w.heap.size + 1, 1, none⟩) hww _) (q := ⟨w.heap.size + 1, 2, none⟩) hww _) (q := ⟨w.heap.size + 1, 3, none⟩) hww _⟩
    · go_wp2
      refine bodyPost_ret (results_cell_row rfl _ _ (w.heap.size + 1) 47 #[.string f.f0, .int .i64 f.f1, .int .i64 (60), .slice (some ⟨gA, 0, none⟩) m c] (0, 0) _ rfl (blk_set (blk_set (blk_set (blk_set (blk_far hR7.out (p := ⟨gX, 2, none⟩) (show w.heap.size + 1 ≠ gX by omega) _) 0 _) 1 _) 2 _) 3 _) Tryz.underlying47 rfl (by kernel_rfl)) rfl ?_
      exact ⟨⟨f.f0, f.f1, (60), f.f3⟩, (some ⟨gA, 0, none⟩), c, (p + 1 + 1 + 1), by omega, by omega, (by show List.length _ ≤ 10; show f.f3.length ≤ 10; omega), (by have t : -1 ≤ f.f1 ∧ f.f1 ≤ 10001 ∧ -1 ≤ f.f2 ∧ f.f2 ≤ 61 := HSM.out; show -1 ≤ f.f1 ∧ f.f1 ≤ 10001 ∧ -1 ≤ (60) ∧ (60) ≤ 61; omega), (by show _ = Ending.returned (.agg #[_, _, _, .slice _ f.f3.length _]); rw [← HM.out]),
        (fun t => by rw [← HM.out]; exact t) <| Kd.R_mono (Kd.R_far (p := ⟨w.heap.size + 1, 3, none⟩) (Kd.R_far (p := ⟨w.heap.size + 1, 2, none⟩) (Kd.R_far (p := ⟨w.heap.size + 1, 1, none⟩) (Kd.R_far (p := ⟨w.heap.size + 1, 0, none⟩) (Kd.R_far (p := ⟨gX, 2, none⟩) HO7.out (fun k hk => hk.2.2.2) _) (fun k hk => hk.2.2.1) _) (fun k hk => hk.2.2.1) _) (fun k hk => hk.2.2.1) _) (fun k hk => hk.2.2.1) _) (fun _ hk => hk.1),
        (((((H7.out.far (q := ⟨gX, 2, none⟩) hgx hgw _).far (q := ⟨w.heap.size + 1, 0, none⟩) (show g ≠ w.heap.size + 1 by omega) hRw _).far (q := ⟨w.heap.size + 1, 1, none⟩) (show g ≠ w.heap.size + 1 by omega) hRw _).far (q := ⟨w.heap.size + 1, 2, none⟩) (show g ≠ w.heap.size + 1 by omega) hRw _).far (q := ⟨w.heap.size + 1, 3, none⟩) (show g ≠ w.heap.size + 1 by omega) hRw _),
        keep_set (keep_set (keep_set (keep_set (keep_set HK7.out (q := ⟨gX, 2, none⟩) (show w.heap.size ≤ gX by omega) _) (q := ⟨w.heap.size + 1, 0, none⟩) hww _) (q := ⟨w.heap.size + 1, 1, none⟩) hww _) (q := ⟨w.heap.size + 1, 2, none⟩) hww _) (q := ⟨w.heap.size + 1, 3, none⟩) hww _⟩
    · go_wp2
      refine bodyPost_ret (results_cell_row rfl _ _ (w.heap.size + 1) 47 #[.string f.f0, .int .i64 f.f1, .int .i64 (61), .slice (some ⟨gA, 0, none⟩) m c] (0, 0) _ rfl (blk_set (blk_set (blk_set (blk_set (blk_far hR7.out (p := ⟨gX, 2, none⟩) (show w.heap.size + 1 ≠ gX by omega) _) 0 _) 1 _) 2 _) 3 _) Tryz.underlying47 rfl (by kernel_rfl)) rfl ?_
      exact ⟨⟨f.f0, f.f1, (61), f.f3⟩, (some ⟨gA, 0, none⟩), c, (p + 1 + 1 + 1), by omega, by omega, (by show List.length _ ≤ 10; show f.f3.length ≤ 10; omega), (by have t : -1 ≤ f.f1 ∧ f.f1 ≤ 10001 ∧ -1 ≤ f.f2 ∧ f.f2 ≤ 61 := HSM.out; show -1 ≤ f.f1 ∧ f.f1 ≤ 10001 ∧ -1 ≤ (61) ∧ (61) ≤ 61; omega), (by show _ = Ending.returned (.agg #[_, _, _, .slice _ f.f3.length _]); rw [← HM.out]),
        (fun t => by rw [← HM.out]; exact t) <| Kd.R_mono (Kd.R_far (p := ⟨w.heap.size + 1, 3, none⟩) (Kd.R_far (p := ⟨w.heap.size + 1, 2, none⟩) (Kd.R_far (p := ⟨w.heap.size + 1, 1, none⟩) (Kd.R_far (p := ⟨w.heap.size + 1, 0, none⟩) (Kd.R_far (p := ⟨gX, 2, none⟩) HO7.out (fun k hk => hk.2.2.2) _) (fun k hk => hk.2.2.1) _) (fun k hk => hk.2.2.1) _) (fun k hk => hk.2.2.1) _) (fun k hk => hk.2.2.1) _) (fun _ hk => hk.1),
        (((((H7.out.far (q := ⟨gX, 2, none⟩) hgx hgw _).far (q := ⟨w.heap.size + 1, 0, none⟩) (show g ≠ w.heap.size + 1 by omega) hRw _).far (q := ⟨w.heap.size + 1, 1, none⟩) (show g ≠ w.heap.size + 1 by omega) hRw _).far (q := ⟨w.heap.size + 1, 2, none⟩) (show g ≠ w.heap.size + 1 by omega) hRw _).far (q := ⟨w.heap.size + 1, 3, none⟩) (show g ≠ w.heap.size + 1 by omega) hRw _),
        keep_set (keep_set (keep_set (keep_set (keep_set HK7.out (q := ⟨gX, 2, none⟩) (show w.heap.size ≤ gX by omega) _) (q := ⟨w.heap.size + 1, 0, none⟩) hww _) (q := ⟨w.heap.size + 1, 1, none⟩) hww _) (q := ⟨w.heap.size + 1, 2, none⟩) hww _) (q := ⟨w.heap.size + 1, 3, none⟩) hww _⟩
  · skip
    have hX5d : Hid (w5.drew.heap[gX]? = some (.cells #[.string f.f0, .int .i64 f.f1, .int .i64 f.f2, .slice (some ⟨gA, 0, none⟩) m c] 47 (0, 0))) := hX5.out
    have hR5d : Hid (w5.drew.heap[w.heap.size + 1]? = some (.cells #[.string ByteArray.empty, .int .i64 0, .int .i64 0, .slice none 0 0] 47 (0, 0))) := hR5.out
    have H5d : Hid (Rdr w0 w5.drew g bs (p + 1 + 1)) := H5.out.drewN 1
    have HO5d := Lib.hid (Kd.R_drewN HO5.out 1)
    have HK5d : Hid (KeepBut w w5.drew g none) := HK5.out
    have hX5a : Hid ((w5.alloc (.cells #[.int .i64 (-1), .int .i64 (200), .int .i64 (201), .int .i64 (0)] 3)).drew.heap[gX]? = some (.cells #[.string f.f0, .int .i64 f.f1, .int .i64 f.f2, .slice (some ⟨gA, 0, none⟩) m c] 47 (0, 0))) := blk_alloc hX5.out (.cells #[.int .i64 (-1), .int .i64 (200), .int .i64 (201), .int .i64 (0)] 3)
    have hR5a : Hid ((w5.alloc (.cells #[.int .i64 (-1), .int .i64 (200), .int .i64 (201), .int .i64 (0)] 3)).drew.heap[w.heap.size + 1]? = some (.cells #[.string ByteArray.empty, .int .i64 0, .int .i64 0, .slice none 0 0] 47 (0, 0))) := blk_alloc hR5.out (.cells #[.int .i64 (-1), .int .i64 (200), .int .i64 (201), .int .i64 (0)] 3)
    have H5a : Hid (∀ o, Rdr w0 (w5.alloc o).drew g bs (p + 1 + 1)) := fun o => (H5.out.alloc o).drewN 1
    have HO5a := Lib.hid (Kd.R_drewN (Kd.R_alloc HO5.out (.cells #[.int .i64 (-1), .int .i64 (200), .int .i64 (201), .int .i64 (0)] 3)) 1)
    have HK5a : Hid (KeepBut w (w5.alloc (.cells #[.int .i64 (-1), .int .i64 (200), .int .i64 (201), .int .i64 (0)] 3)).drew g none) := HK5.out.trans (KeepBut.of_below (below_alloc (Below.refl _ _) (.cells #[.int .i64 (-1), .int .i64 (200), .int .i64 (201), .int .i64 (0)] 3)) g none) (.inl rfl)
    have hq1 : p + 1 + 1 ≤ 1000000 := by omega
    have hq2 : (1 : Int) ≤ 4 := by omega
    have hq3 : (4 : Int) ≤ 1000 := by omega
    have hL5 : w5.heap.size ≠ g := by have := H5.out.lt; omega
    have jk : (k : Int) < m := by omega
    have hkm1 : k < m := by omega
    have HAX : Hid (gA ≠ gX) := fun e => (HO5.out.1 gA rfl).2.2.2 e
    clear c0 c1 c2 e0 e1 e2 e3 g0 g1 g2 g3 q0 q1 q2 q3 hX5 hR5 HO5 HK5 H5
    go_wp2
    have c3a := cell_al c3 (.cells #[.int .i64 (-1), .int .i64 (200), .int .i64 (201), .int .i64 (0)] 3)
    go_region_with (first
      | (go_at_call 19; refine (pick_any (H5a.out _) 4 hq1 hq2 hq3).mono ?_; rintro e w7 ⟨j, a7, b7, rfl, h7, k7⟩; obtain ⟨jn, rfl⟩ := Int.eq_ofNat_of_zero_le a7; obtain ⟨qv, HQ⟩ := lit4i (-1) (200) (201) (0) jn b7; have hX7 := Lib.hid (keep_blk k7 hX5a.out (Ne.symm hgx)); have hR7 := Lib.hid (keep_blk k7 hR5a.out (by omega)); have HO7 := Lib.hid (R_keep HO5a.out k7 (fun k hk => hk.1)); have HK7 : Hid (KeepBut w w7 g none) := KeepBut.trans HK5a.out k7 (.inl rfl); have H7 := Lib.hid h7; have hL7 := keep_blk k7 (show (w5.alloc (.cells #[.int .i64 (-1), .int .i64 (200), .int .i64 (201), .int .i64 (0)] 3)).drew.heap[w5.heap.size]? = _ from blk_new w5 _) hL5; have L7 := (blk_cell hL7 jn).trans HQ; have c7 := (blk_cell hX7.out 3).trans (show _ = some (.slice (some ⟨gA, 0, none⟩) m c) from rfl); obtain ⟨x, x0, x1, x2, xf1, xf2, hs1, hs2⟩ := visAt HO7.out k hkm1; have HS1 := Lib.hid hs1; have HS2 := Lib.hid hs2; clear hs1 hs2 HQ h7 k7 hL7)
      | (go_at_call 19; refine (pick_any H5d.out 4 hq1 hq2 hq3).mono ?_; rintro e w7 ⟨j, a7, b7, rfl, h7, k7⟩; obtain ⟨jn, rfl⟩ := Int.eq_ofNat_of_zero_le a7; obtain ⟨qv, HQ⟩ := lit4i (-1) (200) (201) (0) jn b7; have hX7 := Lib.hid (keep_blk k7 hX5d.out (Ne.symm hgx)); have hR7 := Lib.hid (keep_blk k7 hR5d.out (by omega)); have HO7 := Lib.hid (R_keep HO5d.out k7 (fun k hk => hk.1)); have HK7 : Hid (KeepBut w w7 g none) := KeepBut.trans HK5d.out k7 (.inl rfl); have H7 := Lib.hid h7; have L7 := (blk_cell (blk_new w7 (.cells #[.int .i64 (-1), .int .i64 (200), .int .i64 (201), .int .i64 (0)] 3)) jn).trans HQ; have c7 := (blk_cell hX7.out 3).trans (show _ = some (.slice (some ⟨gA, 0, none⟩) m c) from rfl); have c7a := cell_al c7 (.cells #[.int .i64 (-1), .int .i64 (200), .int .i64 (201), .int .i64 (0)] 3); have HO7a := Lib.hid (Kd.R_alloc HO7.out (.cells #[.int .i64 (-1), .int .i64 (200), .int .i64 (201), .int .i64 (0)] 3)); obtain ⟨x, x0, x1, x2, xf1, xf2, hs1, hs2⟩ := visAt HO7a.out k hkm1; have HS1 := Lib.hid hs1; have HS2 := Lib.hid hs2; clear hs1 hs2 HQ h7 k7))
    all_goals first
      | (have c7b := c7a
         have hbA : w.heap.size ≤ gA := Kd.R_base HO7.out gA rfl
         have hoA := HO7.out.1 gA rfl
         have hX8 := Lib.hid (blk_far (blk_alloc hX7.out (.cells #[.int .i64 (-1), .int .i64 (200), .int .i64 (201), .int .i64 (0)] 3)) (p := ⟨gA, k * 3 + 1, none⟩) (Ne.symm hoA.2.2.2) (.int .i64 qv))
         have hR8 := Lib.hid (blk_far (blk_alloc hR7.out (.cells #[.int .i64 (-1), .int .i64 (200), .int .i64 (201), .int .i64 (0)] 3)) (p := ⟨gA, k * 3 + 1, none⟩) (Ne.symm hoA.2.2.1) (.int .i64 qv))
         have HO8 := Lib.hid (HS1.out qv)
         have H8 := Lib.hid ((H7.out.alloc (.cells #[.int .i64 (-1), .int .i64 (200), .int .i64 (201), .int .i64 (0)] 3)).far (q := ⟨gA, k * 3 + 1, none⟩) (Ne.symm hoA.1) (show w0.heap.size ≤ gA by omega) (.int .i64 qv))
         have HK8 := Lib.hid (keep_set (HK7.out.trans (KeepBut.of_below (below_alloc (Below.refl _ _) (.cells #[.int .i64 (-1), .int .i64 (200), .int .i64 (201), .int .i64 (0)] 3)) g none) (.inl rfl)) (q := ⟨gA, k * 3 + 1, none⟩) hbA (.int .i64 qv))
         obtain ⟨vs, hvs⟩ : ∃ vs : List Visit, vs = f.f3.set k ⟨x.f0, qv, x.f2⟩ := ⟨_, rfl⟩
         rw [← hvs] at HO8
         have HVL : Hid (m = vs.length) := by show m = vs.length; rw [hvs, List.length_set]; exact HM.out
         clear hvs HS1 HS2 x0 x1 x2 xf1 xf2 L7 c7 c3 c3a hX7 hR7 HO7 HK7 H7 c7a c7b HO7a
         generalize ((w7.alloc (.cells #[.int .i64 (-1), .int .i64 (200), .int .i64 (201), .int .i64 (0)] 3))).setCell ⟨gA, k * 3 + 1, none⟩ (.int .i64 qv) = W8 at *
         have c0 := blk_cell hX8.out 0
         have c1 := blk_cell hX8.out 1
         have c2 := blk_cell hX8.out 2
         have c3 := blk_cell hX8.out 3
         have e0 := blk_frozen hX8.out 0
         have e1 := blk_frozen hX8.out 1
         have e2 := blk_frozen hX8.out 2
         have e3 := blk_frozen hX8.out 3
         have g0 := blk_cell hR8.out 0
         have g1 := blk_cell hR8.out 1
         have g2 := blk_cell hR8.out 2
         have g3 := blk_cell hR8.out 3
         have q0 := blk_frozen hR8.out 0
         have q1 := blk_frozen hR8.out 1
         have q2 := blk_frozen hR8.out 2
         have q3 := blk_frozen hR8.out 3
         simp only [List.getElem?_toArray, List.getElem?_cons_zero, List.getElem?_cons_succ] at c0 c1 c2 c3 g0 g1 g2 g3
         go_wp2
         refine bodyPost_ret (results_cell_row rfl _ _ (w.heap.size + 1) 47 #[.string f.f0, .int .i64 f.f1, .int .i64 f.f2, .slice (some ⟨gA, 0, none⟩) m c] (0, 0) _ rfl (blk_set (blk_set (blk_set (blk_set hR8.out 0 _) 1 _) 2 _) 3 _) Tryz.underlying47 rfl (by kernel_rfl)) rfl ?_
         exact ⟨⟨f.f0, f.f1, f.f2, vs⟩, (some ⟨gA, 0, none⟩), c, (p + 1 + 1 + 1), by omega, by omega, (by show List.length _ ≤ 10; show vs.length ≤ 10; rw [← HVL.out]; omega), (by have t : -1 ≤ f.f1 ∧ f.f1 ≤ 10001 ∧ -1 ≤ f.f2 ∧ f.f2 ≤ 61 := HSM.out; show -1 ≤ f.f1 ∧ f.f1 ≤ 10001 ∧ -1 ≤ f.f2 ∧ f.f2 ≤ 61; omega), (by show _ = Ending.returned (.agg #[_, _, _, .slice _ vs.length _]); rw [← HVL.out]),
           (fun t => by rw [← HVL.out]; exact t) <| Kd.R_mono (Kd.R_far (p := ⟨w.heap.size + 1, 3, none⟩) (Kd.R_far (p := ⟨w.heap.size + 1, 2, none⟩) (Kd.R_far (p := ⟨w.heap.size + 1, 1, none⟩) (Kd.R_far (p := ⟨w.heap.size + 1, 0, none⟩) HO8.out (fun k hk => hk.2.2.1) _) (fun k hk => hk.2.2.1) _) (fun k hk => hk.2.2.1) _) (fun k hk => hk.2.2.1) _) (fun _ hk => hk.1),
           ((((H8.out.far (q := ⟨w.heap.size + 1, 0, none⟩) (show g ≠ w.heap.size + 1 by omega) hRw _).far (q := ⟨w.heap.size + 1, 1, none⟩) (show g ≠ w.heap.size + 1 by omega) hRw _).far (q := ⟨w.heap.size + 1, 2, none⟩) (show g ≠ w.heap.size + 1 by omega) hRw _).far (q := ⟨w.heap.size + 1, 3, none⟩) (show g ≠ w.heap.size + 1 by omega) hRw _),
           keep_set (keep_set (keep_set (keep_set HK8.out (q := ⟨w.heap.size + 1, 0, none⟩) hww _) (q := ⟨w.heap.size + 1, 1, none⟩) hww _) (q := ⟨w.heap.size + 1, 2, none⟩) hww _) (q := ⟨w.heap.size + 1, 3, none⟩) hww _⟩)
      | (have hbA : w.heap.size ≤ gA := Kd.R_base HO7.out gA rfl
         have hoA := HO7.out.1 gA rfl
         have hX8 := Lib.hid (blk_far hX7.out (p := ⟨gA, k * 3 + 1, none⟩) (Ne.symm hoA.2.2.2) (.int .i64 qv))
         have hR8 := Lib.hid (blk_far hR7.out (p := ⟨gA, k * 3 + 1, none⟩) (Ne.symm hoA.2.2.1) (.int .i64 qv))
         have HO8 := Lib.hid (HS1.out qv)
         have H8 := Lib.hid (H7.out.far (q := ⟨gA, k * 3 + 1, none⟩) (Ne.symm hoA.1) (show w0.heap.size ≤ gA by omega) (.int .i64 qv))
         have HK8 := Lib.hid (keep_set HK7.out (q := ⟨gA, k * 3 + 1, none⟩) hbA (.int .i64 qv))
         obtain ⟨vs, hvs⟩ : ∃ vs : List Visit, vs = f.f3.set k ⟨x.f0, qv, x.f2⟩ := ⟨_, rfl⟩
         rw [← hvs] at HO8
         have HVL : Hid (m = vs.length) := by show m = vs.length; rw [hvs, List.length_set]; exact HM.out
         clear hvs HS1 HS2 x0 x1 x2 xf1 xf2 L7 c7 c3 c3a hX7 hR7 HO7 HK7 H7
         generalize (w7).setCell ⟨gA, k * 3 + 1, none⟩ (.int .i64 qv) = W8 at *
         have c0 := blk_cell hX8.out 0
         have c1 := blk_cell hX8.out 1
         have c2 := blk_cell hX8.out 2
         have c3 := blk_cell hX8.out 3
         have e0 := blk_frozen hX8.out 0
         have e1 := blk_frozen hX8.out 1
         have e2 := blk_frozen hX8.out 2
         have e3 := blk_frozen hX8.out 3
         have g0 := blk_cell hR8.out 0
         have g1 := blk_cell hR8.out 1
         have g2 := blk_cell hR8.out 2
         have g3 := blk_cell hR8.out 3
         have q0 := blk_frozen hR8.out 0
         have q1 := blk_frozen hR8.out 1
         have q2 := blk_frozen hR8.out 2
         have q3 := blk_frozen hR8.out 3
         simp only [List.getElem?_toArray, List.getElem?_cons_zero, List.getElem?_cons_succ] at c0 c1 c2 c3 g0 g1 g2 g3
         go_wp2
         refine bodyPost_ret (results_cell_row rfl _ _ (w.heap.size + 1) 47 #[.string f.f0, .int .i64 f.f1, .int .i64 f.f2, .slice (some ⟨gA, 0, none⟩) m c] (0, 0) _ rfl (blk_set (blk_set (blk_set (blk_set hR8.out 0 _) 1 _) 2 _) 3 _) Tryz.underlying47 rfl (by kernel_rfl)) rfl ?_
         exact ⟨⟨f.f0, f.f1, f.f2, vs⟩, (some ⟨gA, 0, none⟩), c, (p + 1 + 1 + 1), by omega, by omega, (by show List.length _ ≤ 10; show vs.length ≤ 10; rw [← HVL.out]; omega), (by have t : -1 ≤ f.f1 ∧ f.f1 ≤ 10001 ∧ -1 ≤ f.f2 ∧ f.f2 ≤ 61 := HSM.out; show -1 ≤ f.f1 ∧ f.f1 ≤ 10001 ∧ -1 ≤ f.f2 ∧ f.f2 ≤ 61; omega), (by show _ = Ending.returned (.agg #[_, _, _, .slice _ vs.length _]); rw [← HVL.out]),
           (fun t => by rw [← HVL.out]; exact t) <| Kd.R_mono (Kd.R_far (p := ⟨w.heap.size + 1, 3, none⟩) (Kd.R_far (p := ⟨w.heap.size + 1, 2, none⟩) (Kd.R_far (p := ⟨w.heap.size + 1, 1, none⟩) (Kd.R_far (p := ⟨w.heap.size + 1, 0, none⟩) HO8.out (fun k hk => hk.2.2.1) _) (fun k hk => hk.2.2.1) _) (fun k hk => hk.2.2.1) _) (fun k hk => hk.2.2.1) _) (fun _ hk => hk.1),
           ((((H8.out.far (q := ⟨w.heap.size + 1, 0, none⟩) (show g ≠ w.heap.size + 1 by omega) hRw _).far (q := ⟨w.heap.size + 1, 1, none⟩) (show g ≠ w.heap.size + 1 by omega) hRw _).far (q := ⟨w.heap.size + 1, 2, none⟩) (show g ≠ w.heap.size + 1 by omega) hRw _).far (q := ⟨w.heap.size + 1, 3, none⟩) (show g ≠ w.heap.size + 1 by omega) hRw _),
           keep_set (keep_set (keep_set (keep_set HK8.out (q := ⟨w.heap.size + 1, 0, none⟩) hww _) (q := ⟨w.heap.size + 1, 1, none⟩) hww _) (q := ⟨w.heap.size + 1, 2, none⟩) hww _) (q := ⟨w.heap.size + 1, 3, none⟩) hww _⟩)
  · skip
    have hX5d : Hid (w5.drew.heap[gX]? = some (.cells #[.string f.f0, .int .i64 f.f1, .int .i64 f.f2, .slice (some ⟨gA, 0, none⟩) m c] 47 (0, 0))) := hX5.out
    have hR5d : Hid (w5.drew.heap[w.heap.size + 1]? = some (.cells #[.string ByteArray.empty, .int .i64 0, .int .i64 0, .slice none 0 0] 47 (0, 0))) := hR5.out
    have H5d : Hid (Rdr w0 w5.drew g bs (p + 1 + 1)) := H5.out.drewN 1
    have HO5d := Lib.hid (Kd.R_drewN HO5.out 1)
    have HK5d : Hid (KeepBut w w5.drew g none) := HK5.out
    have hX5a : Hid ((w5.alloc (.cells #[.int .i64 (0), .int .i64 (30), .int .i64 (31), .int .i64 (20)] 3)).drew.heap[gX]? = some (.cells #[.string f.f0, .int .i64 f.f1, .int .i64 f.f2, .slice (some ⟨gA, 0, none⟩) m c] 47 (0, 0))) := blk_alloc hX5.out (.cells #[.int .i64 (0), .int .i64 (30), .int .i64 (31), .int .i64 (20)] 3)
    have hR5a : Hid ((w5.alloc (.cells #[.int .i64 (0), .int .i64 (30), .int .i64 (31), .int .i64 (20)] 3)).drew.heap[w.heap.size + 1]? = some (.cells #[.string ByteArray.empty, .int .i64 0, .int .i64 0, .slice none 0 0] 47 (0, 0))) := blk_alloc hR5.out (.cells #[.int .i64 (0), .int .i64 (30), .int .i64 (31), .int .i64 (20)] 3)
    have H5a : Hid (∀ o, Rdr w0 (w5.alloc o).drew g bs (p + 1 + 1)) := fun o => (H5.out.alloc o).drewN 1
    have HO5a := Lib.hid (Kd.R_drewN (Kd.R_alloc HO5.out (.cells #[.int .i64 (0), .int .i64 (30), .int .i64 (31), .int .i64 (20)] 3)) 1)
    have HK5a : Hid (KeepBut w (w5.alloc (.cells #[.int .i64 (0), .int .i64 (30), .int .i64 (31), .int .i64 (20)] 3)).drew g none) := HK5.out.trans (KeepBut.of_below (below_alloc (Below.refl _ _) (.cells #[.int .i64 (0), .int .i64 (30), .int .i64 (31), .int .i64 (20)] 3)) g none) (.inl rfl)
    have hq1 : p + 1 + 1 ≤ 1000000 := by omega
    have hq2 : (1 : Int) ≤ 4 := by omega
    have hq3 : (4 : Int) ≤ 1000 := by omega
    have hL5 : w5.heap.size ≠ g := by have := H5.out.lt; omega
    have jk : (k : Int) < m := by omega
    have hkm1 : k < m := by omega
    have HAX : Hid (gA ≠ gX) := fun e => (HO5.out.1 gA rfl).2.2.2 e
    clear c0 c1 c2 e0 e1 e2 e3 g0 g1 g2 g3 q0 q1 q2 q3 hX5 hR5 HO5 HK5 H5
    go_wp2
    have c3a := cell_al c3 (.cells #[.int .i64 (0), .int .i64 (30), .int .i64 (31), .int .i64 (20)] 3)
    go_region_with (first
      | (go_at_call 19; refine (pick_any (H5a.out _) 4 hq1 hq2 hq3).mono ?_; rintro e w7 ⟨j, a7, b7, rfl, h7, k7⟩; obtain ⟨jn, rfl⟩ := Int.eq_ofNat_of_zero_le a7; obtain ⟨qv, HQ⟩ := lit4i (0) (30) (31) (20) jn b7; have hX7 := Lib.hid (keep_blk k7 hX5a.out (Ne.symm hgx)); have hR7 := Lib.hid (keep_blk k7 hR5a.out (by omega)); have HO7 := Lib.hid (R_keep HO5a.out k7 (fun k hk => hk.1)); have HK7 : Hid (KeepBut w w7 g none) := KeepBut.trans HK5a.out k7 (.inl rfl); have H7 := Lib.hid h7; have hL7 := keep_blk k7 (show (w5.alloc (.cells #[.int .i64 (0), .int .i64 (30), .int .i64 (31), .int .i64 (20)] 3)).drew.heap[w5.heap.size]? = _ from blk_new w5 _) hL5; have L7 := (blk_cell hL7 jn).trans HQ; have c7 := (blk_cell hX7.out 3).trans (show _ = some (.slice (some ⟨gA, 0, none⟩) m c) from rfl); obtain ⟨x, x0, x1, x2, xf1, xf2, hs1, hs2⟩ := visAt HO7.out k hkm1; have HS1 := Lib.hid hs1; have HS2 := Lib.hid hs2; clear hs1 hs2 HQ h7 k7 hL7)
      | (go_at_call 19; refine (pick_any H5d.out 4 hq1 hq2 hq3).mono ?_; rintro e w7 ⟨j, a7, b7, rfl, h7, k7⟩; obtain ⟨jn, rfl⟩ := Int.eq_ofNat_of_zero_le a7; obtain ⟨qv, HQ⟩ := lit4i (0) (30) (31) (20) jn b7; have hX7 := Lib.hid (keep_blk k7 hX5d.out (Ne.symm hgx)); have hR7 := Lib.hid (keep_blk k7 hR5d.out (by omega)); have HO7 := Lib.hid (R_keep HO5d.out k7 (fun k hk => hk.1)); have HK7 : Hid (KeepBut w w7 g none) := KeepBut.trans HK5d.out k7 (.inl rfl); have H7 := Lib.hid h7; have L7 := (blk_cell (blk_new w7 (.cells #[.int .i64 (0), .int .i64 (30), .int .i64 (31), .int .i64 (20)] 3)) jn).trans HQ; have c7 := (blk_cell hX7.out 3).trans (show _ = some (.slice (some ⟨gA, 0, none⟩) m c) from rfl); have c7a := cell_al c7 (.cells #[.int .i64 (0), .int .i64 (30), .int .i64 (31), .int .i64 (20)] 3); have HO7a := Lib.hid (Kd.R_alloc HO7.out (.cells #[.int .i64 (0), .int .i64 (30), .int .i64 (31), .int .i64 (20)] 3)); obtain ⟨x, x0, x1, x2, xf1, xf2, hs1, hs2⟩ := visAt HO7a.out k hkm1; have HS1 := Lib.hid hs1; have HS2 := Lib.hid hs2; clear hs1 hs2 HQ h7 k7))
    all_goals first
      | (have c7b := c7a
         have hbA : w.heap.size ≤ gA := Kd.R_base HO7.out gA rfl
         have hoA := HO7.out.1 gA rfl
         have hX8 := Lib.hid (blk_far (blk_alloc hX7.out (.cells #[.int .i64 (0), .int .i64 (30), .int .i64 (31), .int .i64 (20)] 3)) (p := ⟨gA, k * 3 + 2, none⟩) (Ne.symm hoA.2.2.2) (.int .i64 qv))
         have hR8 := Lib.hid (blk_far (blk_alloc hR7.out (.cells #[.int .i64 (0), .int .i64 (30), .int .i64 (31), .int .i64 (20)] 3)) (p := ⟨gA, k * 3 + 2, none⟩) (Ne.symm hoA.2.2.1) (.int .i64 qv))
         have HO8 := Lib.hid (HS2.out qv)
         have H8 := Lib.hid ((H7.out.alloc (.cells #[.int .i64 (0), .int .i64 (30), .int .i64 (31), .int .i64 (20)] 3)).far (q := ⟨gA, k * 3 + 2, none⟩) (Ne.symm hoA.1) (show w0.heap.size ≤ gA by omega) (.int .i64 qv))
         have HK8 := Lib.hid (keep_set (HK7.out.trans (KeepBut.of_below (below_alloc (Below.refl _ _) (.cells #[.int .i64 (0), .int .i64 (30), .int .i64 (31), .int .i64 (20)] 3)) g none) (.inl rfl)) (q := ⟨gA, k * 3 + 2, none⟩) hbA (.int .i64 qv))
         obtain ⟨vs, hvs⟩ : ∃ vs : List Visit, vs = f.f3.set k ⟨x.f0, x.f1, qv⟩ := ⟨_, rfl⟩
         rw [← hvs] at HO8
         have HVL : Hid (m = vs.length) := by show m = vs.length; rw [hvs, List.length_set]; exact HM.out
         clear hvs HS1 HS2 x0 x1 x2 xf1 xf2 L7 c7 c3 c3a hX7 hR7 HO7 HK7 H7 c7a c7b HO7a
         generalize ((w7.alloc (.cells #[.int .i64 (0), .int .i64 (30), .int .i64 (31), .int .i64 (20)] 3))).setCell ⟨gA, k * 3 + 2, none⟩ (.int .i64 qv) = W8 at *
         have c0 := blk_cell hX8.out 0
         have c1 := blk_cell hX8.out 1
         have c2 := blk_cell hX8.out 2
         have c3 := blk_cell hX8.out 3
         have e0 := blk_frozen hX8.out 0
         have e1 := blk_frozen hX8.out 1
         have e2 := blk_frozen hX8.out 2
         have e3 := blk_frozen hX8.out 3
         have g0 := blk_cell hR8.out 0
         have g1 := blk_cell hR8.out 1
         have g2 := blk_cell hR8.out 2
         have g3 := blk_cell hR8.out 3
         have q0 := blk_frozen hR8.out 0
         have q1 := blk_frozen hR8.out 1
         have q2 := blk_frozen hR8.out 2
         have q3 := blk_frozen hR8.out 3
         simp only [List.getElem?_toArray, List.getElem?_cons_zero, List.getElem?_cons_succ] at c0 c1 c2 c3 g0 g1 g2 g3
         go_wp2
         refine bodyPost_ret (results_cell_row rfl _ _ (w.heap.size + 1) 47 #[.string f.f0, .int .i64 f.f1, .int .i64 f.f2, .slice (some ⟨gA, 0, none⟩) m c] (0, 0) _ rfl (blk_set (blk_set (blk_set (blk_set hR8.out 0 _) 1 _) 2 _) 3 _) Tryz.underlying47 rfl (by kernel_rfl)) rfl ?_
         exact ⟨⟨f.f0, f.f1, f.f2, vs⟩, (some ⟨gA, 0, none⟩), c, (p + 1 + 1 + 1), by omega, by omega, (by show List.length _ ≤ 10; show vs.length ≤ 10; rw [← HVL.out]; omega), (by have t : -1 ≤ f.f1 ∧ f.f1 ≤ 10001 ∧ -1 ≤ f.f2 ∧ f.f2 ≤ 61 := HSM.out; show -1 ≤ f.f1 ∧ f.f1 ≤ 10001 ∧ -1 ≤ f.f2 ∧ f.f2 ≤ 61; omega), (by show _ = Ending.returned (.agg #[_, _, _, .slice _ vs.length _]); rw [← HVL.out]),
           (fun t => by rw [← HVL.out]; exact t) <| Kd.R_mono (Kd.R_far (p := ⟨w.heap.size + 1, 3, none⟩) (Kd.R_far (p := ⟨w.heap.size + 1, 2, none⟩) (Kd.R_far (p := ⟨w.heap.size + 1, 1, none⟩) (Kd.R_far (p := ⟨w.heap.size + 1, 0, none⟩) HO8.out (fun k hk => hk.2.2.1) _) (fun k hk => hk.2.2.1) _) (fun k hk => hk.2.2.1) _) (fun k hk => hk.2.2.1) _) (fun _ hk => hk.1),
           ((((H8.out.far (q := ⟨w.heap.size + 1, 0, none⟩) (show g ≠ w.heap.size + 1 by omega) hRw _).far (q := ⟨w.heap.size + 1, 1, none⟩) (show g ≠ w.heap.size + 1 by omega) hRw _).far (q := ⟨w.heap.size + 1, 2, none⟩) (show g ≠ w.heap.size + 1 by omega) hRw _).far (q := ⟨w.heap.size + 1, 3, none⟩) (show g ≠ w.heap.size + 1 by omega) hRw _),
           keep_set (keep_set (keep_set (keep_set HK8.out (q := ⟨w.heap.size + 1, 0, none⟩) hww _) (q := ⟨w.heap.size + 1, 1, none⟩) hww _) (q := ⟨w.heap.size + 1, 2, none⟩) hww _) (q := ⟨w.heap.size + 1, 3, none⟩) hww _⟩)
      | (have hbA : w.heap.size ≤ gA := Kd.R_base HO7.out gA rfl
         have hoA := HO7.out.1 gA rfl
         have hX8 := Lib.hid (blk_far hX7.out (p := ⟨gA, k * 3 + 2, none⟩) (Ne.symm hoA.2.2.2) (.int .i64 qv))
         have hR8 := Lib.hid (blk_far hR7.out (p := ⟨gA, k * 3 + 2, none⟩) (Ne.symm hoA.2.2.1) (.int .i64 qv))
         have HO8 := Lib.hid (HS2.out qv)
         have H8 := Lib.hid (H7.out.far (q := ⟨gA, k * 3 + 2, none⟩) (Ne.symm hoA.1) (show w0.heap.size ≤ gA by omega) (.int .i64 qv))
         have HK8 := Lib.hid (keep_set HK7.out (q := ⟨gA, k * 3 + 2, none⟩) hbA (.int .i64 qv))
         obtain ⟨vs, hvs⟩ : ∃ vs : List Visit, vs = f.f3.set k ⟨x.f0, x.f1, qv⟩ := ⟨_, rfl⟩
         rw [← hvs] at HO8
         have HVL : Hid (m = vs.length) := by show m = vs.length; rw [hvs, List.length_set]; exact HM.out
         clear hvs HS1 HS2 x0 x1 x2 xf1 xf2 L7 c7 c3 c3a hX7 hR7 HO7 HK7 H7
         generalize (w7).setCell ⟨gA, k * 3 + 2, none⟩ (.int .i64 qv) = W8 at *
         have c0 := blk_cell hX8.out 0
         have c1 := blk_cell hX8.out 1
         have c2 := blk_cell hX8.out 2
         have c3 := blk_cell hX8.out 3
         have e0 := blk_frozen hX8.out 0
         have e1 := blk_frozen hX8.out 1
         have e2 := blk_frozen hX8.out 2
         have e3 := blk_frozen hX8.out 3
         have g0 := blk_cell hR8.out 0
         have g1 := blk_cell hR8.out 1
         have g2 := blk_cell hR8.out 2
         have g3 := blk_cell hR8.out 3
         have q0 := blk_frozen hR8.out 0
         have q1 := blk_frozen hR8.out 1
         have q2 := blk_frozen hR8.out 2
         have q3 := blk_frozen hR8.out 3
         simp only [List.getElem?_toArray, List.getElem?_cons_zero, List.getElem?_cons_succ] at c0 c1 c2 c3 g0 g1 g2 g3
         go_wp2
         refine bodyPost_ret (results_cell_row rfl _ _ (w.heap.size + 1) 47 #[.string f.f0, .int .i64 f.f1, .int .i64 f.f2, .slice (some ⟨gA, 0, none⟩) m c] (0, 0) _ rfl (blk_set (blk_set (blk_set (blk_set hR8.out 0 _) 1 _) 2 _) 3 _) Tryz.underlying47 rfl (by kernel_rfl)) rfl ?_
         exact ⟨⟨f.f0, f.f1, f.f2, vs⟩, (some ⟨gA, 0, none⟩), c, (p + 1 + 1 + 1), by omega, by omega, (by show List.length _ ≤ 10; show vs.length ≤ 10; rw [← HVL.out]; omega), (by have t : -1 ≤ f.f1 ∧ f.f1 ≤ 10001 ∧ -1 ≤ f.f2 ∧ f.f2 ≤ 61 := HSM.out; show -1 ≤ f.f1 ∧ f.f1 ≤ 10001 ∧ -1 ≤ f.f2 ∧ f.f2 ≤ 61; omega), (by show _ = Ending.returned (.agg #[_, _, _, .slice _ vs.length _]); rw [← HVL.out]),
           (fun t => by rw [← HVL.out]; exact t) <| Kd.R_mono (Kd.R_far (p := ⟨w.heap.size + 1, 3, none⟩) (Kd.R_far (p := ⟨w.heap.size + 1, 2, none⟩) (Kd.R_far (p := ⟨w.heap.size + 1, 1, none⟩) (Kd.R_far (p := ⟨w.heap.size + 1, 0, none⟩) HO8.out (fun k hk => hk.2.2.1) _) (fun k hk => hk.2.2.1) _) (fun k hk => hk.2.2.1) _) (fun k hk => hk.2.2.1) _) (fun _ hk => hk.1),
           ((((H8.out.far (q := ⟨w.heap.size + 1, 0, none⟩) (show g ≠ w.heap.size + 1 by omega) hRw _).far (q := ⟨w.heap.size + 1, 1, none⟩) (show g ≠ w.heap.size + 1 by omega) hRw _).far (q := ⟨w.heap.size + 1, 2, none⟩) (show g ≠ w.heap.size + 1 by omega) hRw _).far (q := ⟨w.heap.size + 1, 3, none⟩) (show g ≠ w.heap.size + 1 by omega) hRw _),
           keep_set (keep_set (keep_set (keep_set HK8.out (q := ⟨w.heap.size + 1, 0, none⟩) hww _) (q := ⟨w.heap.size + 1, 1, none⟩) hww _) (q := ⟨w.heap.size + 1, 2, none⟩) hww _) (q := ⟨w.heap.size + 1, 3, none⟩) hww _⟩)
  · obtain ⟨vs, hvs⟩ : ∃ vs, vs = f.f3.take k := ⟨_, rfl⟩
    have HO6 : Hid (Kd.R k58 58 w5 w.heap.size (fun k => k ≠ g ∧ k ≠ w.heap.size ∧ k ≠ w.heap.size + 1 ∧ k ≠ gX) (.slice (some ⟨gA, 0, none⟩) k c) vs) := by rw [hvs]; exact Kd.R_take HO5.out (m := k) (by rw [← HM.out]; exact hkm)
    have hkl : k = vs.length := by rw [hvs, List.length_take, Nat.min_eq_left (by rw [← HM.out]; exact hkm)]
    clear hvs HO5
    subst hkl
    go_wp2
    refine bodyPost_ret (results_cell_row rfl _ _ (w.heap.size + 1) 47 #[.string f.f0, .int .i64 f.f1, .int .i64 f.f2, .slice (some ⟨gA, 0, none⟩) vs.length c] (0, 0) _ rfl (blk_set (blk_set (blk_set (blk_set (blk_far hR5.out (p := ⟨gX, 3, none⟩) (show w.heap.size + 1 ≠ gX by omega) _) 0 _) 1 _) 2 _) 3 _) Tryz.underlying47 rfl (by kernel_rfl)) rfl ?_
    exact ⟨⟨f.f0, f.f1, f.f2, vs⟩, (some ⟨gA, 0, none⟩), c, (p + 1 + 1), by omega, by omega, (by show List.length _ ≤ 10; show vs.length ≤ 10; omega), (by have t : -1 ≤ f.f1 ∧ f.f1 ≤ 10001 ∧ -1 ≤ f.f2 ∧ f.f2 ≤ 61 := HSM.out; show -1 ≤ f.f1 ∧ f.f1 ≤ 10001 ∧ -1 ≤ f.f2 ∧ f.f2 ≤ 61; omega), rfl,
      Kd.R_mono (Kd.R_far (p := ⟨w.heap.size + 1, 3, none⟩) (Kd.R_far (p := ⟨w.heap.size + 1, 2, none⟩) (Kd.R_far (p := ⟨w.heap.size + 1, 1, none⟩) (Kd.R_far (p := ⟨w.heap.size + 1, 0, none⟩) (Kd.R_far (p := ⟨gX, 3, none⟩) HO6.out (fun k hk => hk.2.2.2) _) (fun k hk => hk.2.2.1) _) (fun k hk => hk.2.2.1) _) (fun k hk => hk.2.2.1) _) (fun k hk => hk.2.2.1) _) (fun _ hk => hk.1),
      (((((H5.out.far (q := ⟨gX, 3, none⟩) hgx hgw _).far (q := ⟨w.heap.size + 1, 0, none⟩) (show g ≠ w.heap.size + 1 by omega) hRw _).far (q := ⟨w.heap.size + 1, 1, none⟩) (show g ≠ w.heap.size + 1 by omega) hRw _).far (q := ⟨w.heap.size + 1, 2, none⟩) (show g ≠ w.heap.size + 1 by omega) hRw _).far (q := ⟨w.heap.size + 1, 3, none⟩) (show g ≠ w.heap.size + 1 by omega) hRw _),
      keep_set (keep_set (keep_set (keep_set (keep_set HK5.out (q := ⟨gX, 3, none⟩) (show w.heap.size ≤ gX by omega) _) (q := ⟨w.heap.size + 1, 0, none⟩) hww _) (q := ⟨w.heap.size + 1, 1, none⟩) hww _) (q := ⟨w.heap.size + 1, 2, none⟩) hww _) (q := ⟨w.heap.size + 1, 3, none⟩) hww _⟩
  · go_wp2_with (fail)
    refine (pick_any H5.out 2 (by omega) (by omega) (by omega)).mono ?_
    rintro e w6 ⟨r6, a6, b6, rfl, h6, k6⟩
    obtain ⟨N, rfl⟩ := Int.eq_ofNat_of_zero_le a6
    have jN : IntKind.i64.wrap (5 + (N : Int)) = ((N + 5 : Nat) : Int) := by rw [show 5 + (N : Int) = ((N + 5 : Nat) : Int) by omega]; exact IntWalk.i64_in _ (by omega)
    have hX6 := Lib.hid (keep_blk k6 hX5.out (Ne.symm hgx))
    have hR6 := Lib.hid (keep_blk k6 hR5.out (by omega))
    have HO6 := Lib.hid (R_keep HO5.out k6 (fun k hk => hk.1))
    have HK6 := Lib.hid (HK5.out.trans k6 (.inl rfl))
    have H6 := Lib.hid h6
    have HO6' : Hid (Kd.R k58 58 w6 w.heap.size (fun k => k ≠ g ∧ k ≠ w.heap.size ∧ k ≠ w.heap.size + 1 ∧ k ≠ gX) (.slice (some ⟨gA, 0, none⟩) f.f3.length c) f.f3) := by show Kd.R _ _ _ _ _ _ _; rw [← HM.out]; exact HO6.out
    have hX6' : Hid (w6.heap[gX]? = some (.cells #[.string f.f0, .int .i64 f.f1, .int .i64 f.f2, .slice (some ⟨gA, 0, none⟩) f.f3.length c] 47 (0, 0))) := by show w6.heap[gX]? = _; rw [← HM.out]; exact hX6.out
    have hf1 : 1 ≤ f.f3.length := by rw [← HM.out]; exact h1
    clear c0 c1 c2 c3 e0 e1 e2 e3 g0 g1 g2 g3 q0 q1 q2 q3 hX5 hR5 HO5 HK5 H5 h6 k6 hX6 HO6
    go_wp2
    go_loopw [8] (fun v8 wr => ∃ (Ax : Option Addr) (cx : Nat) (vs : List Visit), 1 ≤ vs.length ∧ vs.length ≤ 6 ∧ Hid (wr.heap[gX]? = some (.cells #[.string f.f0, .int .i64 f.f1, .int .i64 f.f2, .slice Ax vs.length cx] 47 (0, 0))) ∧
        Hid (Kd.R k58 58 wr w.heap.size (fun k => k ≠ g ∧ k ≠ w.heap.size ∧ k ≠ w.heap.size + 1 ∧ k ≠ gX) (.slice Ax vs.length cx) vs) ∧ Hid (Rdr w0 wr g bs (p + 1 + 1 + 1)) ∧ Hid (wr.heap[w.heap.size + 1]? = some (.cells #[.string ByteArray.empty, .int .i64 0, .int .i64 0, .slice none 0 0] 47 (0, 0))) ∧ Hid (KeepBut w wr g none))
      (fun _ wr => 7 - cellLen wr ⟨gX, 3, none⟩)
    case atStart => exact ⟨_, _, f.f3, hf1, by omega, hX6', HO6', H6, hR6, HK6⟩
    case round =>
      clear hX6' HO6' H6 hR6 HK6
      obtain ⟨Ax, cx, vs, hv1, hv6, HX, HO, HD, HR, HK⟩ := hrel
      obtain ⟨gv, cv, hform, hb0, hb1, _⟩ := Kd.R_form HO.out (by omega)
      injection hform with ea en ec
      subst ea ec
      clear en
      have hXl := blk_lt HX.out
      have hgl2 := HD.out.lt
      have p3 := blk_cell HX.out 3
      simp only [List.getElem?_toArray, List.getElem?_cons_zero, List.getElem?_cons_succ] at p3
      by_cases hn : vs.length < N + 5
      · obtain ⟨n', hn'⟩ : ∃ n', vs.length = n' + 1 := ⟨vs.length - 1, by omega⟩
        obtain ⟨x, x0, x1, x2, _, _, _, _⟩ := visAt HO.out n' (by omega)
        have j1 : (vs.length : Int) < ((N + 5 : Nat) : Int) := by omega
        have j2 : IntKind.i64.wrap ((vs.length : Int) - 1) = (n' : Int) := by rw [show (vs.length : Int) - 1 = n' by omega]; exact IntWalk.i64_in _ (by omega)
        have j3 : (n' : Int) < vs.length := by omega
        have HN' := Lib.hid hn'
        clear hn'
        clear p3
        have HXa := Lib.hid (blk_alloc HX.out (.cells #[.string x.f0, .int .i64 (wrap64 (x.f1 + x.f2)), .int .i64 x.f2] 58))
        have HRa := Lib.hid (blk_alloc HR.out (.cells #[.string x.f0, .int .i64 (wrap64 (x.f1 + x.f2)), .int .i64 x.f2] 58))
        have HE10 : Hid ((wr.alloc (.cells #[.string x.f0, .int .i64 (wrap64 (x.f1 + x.f2)), .int .i64 x.f2] 58)).heap.size = wr.heap.size + 1) := by show _ = _; simp
        have HOa := Lib.hid (Kd.R_alloc HO.out (.cells #[.string x.f0, .int .i64 (wrap64 (x.f1 + x.f2)), .int .i64 x.f2] 58))
        have p3 := blk_cell HX.out 3
        have p3a := blk_cell HXa.out 3
        simp only [List.getElem?_toArray, List.getElem?_cons_zero, List.getElem?_cons_succ] at p3 p3a
        have P3 := Lib.hid p3
        have hoX : some gX ≠ (Value.slice (some ⟨gv, 0, none⟩) vs.length cx).ownBlock := fun e => (HO.out.1 _ e.symm).2.2.2 rfl
        have hoR : some (w.heap.size + 1) ≠ (Value.slice (some ⟨gv, 0, none⟩) vs.length cx).ownBlock := fun e => (HO.out.1 _ e.symm).2.2.1 rfl
        have hoG : some g ≠ (Value.slice (some ⟨gv, 0, none⟩) vs.length cx).ownBlock := fun e => (HO.out.1 _ e.symm).1 rfl
        have hoB : Hid (∀ j, (Value.slice (some ⟨gv, 0, none⟩) vs.length cx).ownBlock = some j → w.heap.size ≤ j) := fun j hj => Kd.R_base HO.out j hj
        go_wp2_with (first
          | (at_builtin; refine Kd.R_append k58 (w0 := wr.alloc (.cells #[.string x.f0, .int .i64 (wrap64 (x.f1 + x.f2)), .int .i64 x.f2] 58)) w.heap.size rfl _ _ 45 58 (.agg #[.string ByteArray.empty, .int .i64 0, .int .i64 0]) 32 rfl Tryz.underlying45 infoVisit rfl (by decide) (by decide) (.slice (some ⟨gv, 0, none⟩) vs.length cx) vs (⟨x.f0, wrap64 (x.f1 + x.f2), x.f2⟩ : Visit) [.string x.f0, .int .i64 (wrap64 (x.f1 + x.f2)), .int .i64 x.f2] (fun k => k ≠ g ∧ k ≠ w.heap.size ∧ k ≠ w.heap.size + 1 ∧ k ≠ gX) (fun _ => False) rfl (by rw [HE10.out]; rfl) (k58_mkM _ _ _ (⟨x.f0, wrap64 (x.f1 + x.f2), x.f2⟩ : Visit)) (fun _ h => h.elim) (fun j hj => by simp at hj; refine ⟨?_, ?_, ?_, ?_⟩ <;> omega) HOa.out (Below.refl _ _) (by simp; omega) (by omega) ?_; intro v1 w11 ho11 hb11 hg11 hat11; obtain ⟨A11, y11, rfl⟩ := Kd.R_slice ho11; obtain ⟨n11, hn11⟩ : ∃ n, n = (vs ++ [(⟨x.f0, wrap64 (x.f1 + x.f2), x.f2⟩ : Visit)]).length := ⟨_, rfl⟩; rw [← hn11] at ho11 hat11 ⊢; have HN11 := Lib.hid hn11; clear hn11; have HX11 := Lib.hid (blk_grown HXa.out hg11 hoX); have c11 := blk_cell HX11.out 3; have f11 := blk_frozen HX11.out 3; simp only [List.getElem?_toArray, List.getElem?_cons_zero, List.getElem?_cons_succ] at c11; have HR11 := Lib.hid (blk_grown HRa.out hg11 hoR); have HO11 := Lib.hid ho11; have HG11 := Lib.hid hg11; clear ho11 hb11 hg11 hat11)
          | go_in)
        go_roundw
        case rel =>
          have HXX := blk_set HX11.out 3 (.slice A11 n11 y11)
          have el : n11 = vs.length + 1 := by rw [HN11.out, List.length_append, List.length_singleton]
          refine ⟨A11, y11, vs ++ [(⟨x.f0, wrap64 (x.f1 + x.f2), x.f2⟩ : Visit)], by rw [← HN11.out]; omega, by rw [← HN11.out]; omega, ?_, ?_, ((HD.out.alloc _).grown HG11.out hoG (fun j hj => by have := hoB.out j hj; omega)).far (q := ⟨gX, 3, none⟩) hgx hgw _, blk_far HR11.out (p := ⟨gX, 3, none⟩) (show w.heap.size + 1 ≠ gX by omega) _, ?_⟩
          · rw [← HN11.out]; exact HXX
          · rw [← HN11.out]; exact Kd.R_far HO11.out (p := ⟨gX, 3, none⟩) (fun k hk => hk.2.2.2) _
          · exact keep_set ((HK.out.trans (KeepBut.of_below (below_alloc (Below.refl _ _) _) g none) (.inl rfl)).trans (KeepBut.of_grown HG11.out g) (.inr ⟨gv, rfl, hb0⟩)) (show w.heap.size ≤ gX by omega) _
        case measure =>
          have HXX := blk_set HX11.out 3 (.slice A11 n11 y11)
          have el : n11 = vs.length + 1 := by rw [HN11.out, List.length_append, List.length_singleton]
          rw [cellLen_at P3.out, cellLen_at ((blk_cell HXX 3).trans rfl)]
          omega
      · have j1 : ¬ (vs.length : Int) < ((N + 5 : Nat) : Int) := by omega
        clear p3
        have c0 := blk_cell HX.out 0
        have c1 := blk_cell HX.out 1
        have c2 := blk_cell HX.out 2
        have c3 := blk_cell HX.out 3
        have e0 := blk_frozen HX.out 0
        have e1 := blk_frozen HX.out 1
        have e2 := blk_frozen HX.out 2
        have e3 := blk_frozen HX.out 3
        have g0 := blk_cell HR.out 0
        have g1 := blk_cell HR.out 1
        have g2 := blk_cell HR.out 2
        have g3 := blk_cell HR.out 3
        have q0 := blk_frozen HR.out 0
        have q1 := blk_frozen HR.out 1
        have q2 := blk_frozen HR.out 2
        have q3 := blk_frozen HR.out 3
        simp only [List.getElem?_toArray, List.getElem?_cons_zero, List.getElem?_cons_succ] at c0 c1 c2 c3 g0 g1 g2 g3
        go_wp2
        refine bodyPost_ret (results_cell_row rfl _ _ (w.heap.size + 1) 47 #[.string f.f0, .int .i64 f.f1, .int .i64 f.f2, .slice (some ⟨gv, 0, none⟩) vs.length cx] (0, 0) _ rfl (blk_set (blk_set (blk_set (blk_set HR.out 0 _) 1 _) 2 _) 3 _) Tryz.underlying47 rfl (by kernel_rfl)) rfl ?_
        exact ⟨⟨f.f0, f.f1, f.f2, vs⟩, (some ⟨gv, 0, none⟩), cx, (p + 1 + 1 + 1), by omega, by omega, (by show List.length _ ≤ 10; show vs.length ≤ 10; omega), (by have t : -1 ≤ f.f1 ∧ f.f1 ≤ 10001 ∧ -1 ≤ f.f2 ∧ f.f2 ≤ 61 := HSM.out; show -1 ≤ f.f1 ∧ f.f1 ≤ 10001 ∧ -1 ≤ f.f2 ∧ f.f2 ≤ 61; omega), rfl,
          Kd.R_mono (Kd.R_far (p := ⟨w.heap.size + 1, 3, none⟩) (Kd.R_far (p := ⟨w.heap.size + 1, 2, none⟩) (Kd.R_far (p := ⟨w.heap.size + 1, 1, none⟩) (Kd.R_far (p := ⟨w.heap.size + 1, 0, none⟩) HO.out (fun k hk => hk.2.2.1) _) (fun k hk => hk.2.2.1) _) (fun k hk => hk.2.2.1) _) (fun k hk => hk.2.2.1) _) (fun _ hk => hk.1),
          ((((HD.out.far (q := ⟨w.heap.size + 1, 0, none⟩) (show g ≠ w.heap.size + 1 by omega) hRw _).far (q := ⟨w.heap.size + 1, 1, none⟩) (show g ≠ w.heap.size + 1 by omega) hRw _).far (q := ⟨w.heap.size + 1, 2, none⟩) (show g ≠ w.heap.size + 1 by omega) hRw _).far (q := ⟨w.heap.size + 1, 3, none⟩) (show g ≠ w.heap.size + 1 by omega) hRw _),
          keep_set (keep_set (keep_set (keep_set HK.out (q := ⟨w.heap.size + 1, 0, none⟩) hww _) (q := ⟨w.heap.size + 1, 1, none⟩) hww _) (q := ⟨w.heap.size + 1, 2, none⟩) hww _) (q := ⟨w.heap.size + 1, 3, none⟩) hww _⟩
end Go.Proofs.YthcpbojmalgdbaaGreat.Q
end
section
namespace Go.Proofs.YthcpbojmalgdbaaGreat.Q
open Go.RowKit Go.Proofs.YthcpbojmalgdbaaGreatW.PrintWords Go.Proofs.YthcpbojmalgdbaaGreatW.PrintLast Go.Proofs.YthcpbojmalgdbaaGreatW.PrintMore Go.Proofs.YthcpbojmalgdbaaGreat.Core
set_option linter.unusedVariables false
set_option linter.unusedSimpArgs false
def byteL (l : List Int) : Prop := ∀ y ∈ l, 0 ≤ y ∧ y ≤ 255
theorem open_any (A : Option Addr) (c : Nat) (l : List Int) (w : World) (hr : Kd.C (Kd.int .u8) w A l.length l) (hc : l.length ≤ c) (hb : byteL l) :
    Calls Tryz.prog 17 #[.slice A l.length c] w fun e w' => ∃ (g : Nat) (bs : List Int), e = .returned (.pointer (some ⟨g, 0, none⟩)) ∧ Rdr w w' g bs 0 ∧ Below w.heap.size w w' ∧ w.heap.size ≤ g := by
  obtain ⟨bs, hbs, hok⟩ : ∃ bs, spec_l1Open.f l = some (bs, 0) ∧ BsOk bs := by
    unfold spec_l1Open.f
    by_cases h : (l.length : Int) > 2000
    · rw [if_pos h, if_pos (by omega)]
      exact ⟨_, rfl, by rw [List.length_take]; omega, fun b hm => hb b (List.mem_of_mem_take hm)⟩
    · rw [if_neg h]
      exact ⟨_, rfl, by omega, hb⟩
  refine (spec_l1Open.calls A c l bs 0 w w (Below.refl _ _) hr hc hbs).mono ?_
  rintro e w' ⟨g, rfl, hi, hB, hB'⟩
  obtain ⟨A0, c0, h1, h2, h3⟩ := id hi
  exact ⟨g, bs, rfl, ⟨hi, hok, Int.le_refl _, hB⟩, hB', h2⟩
end Go.Proofs.YthcpbojmalgdbaaGreat.Q
end
