/- Contracts: the laws' comparisons answer true where both sides read as the same. -/
import Derived.Test.YtgoepnbajpgkhaaS
namespace Go.Proofs.Ytgoepnbajpgkhaa.Q
open Go.RowKit Go.Proofs.YtgoepnbajpgkhaaW.PrintWords Go.Proofs.Ytgoepnbajpgkhaa.Core
set_option linter.unusedVariables false
set_option linter.unusedSimpArgs false

theorem eq_cap_any (f0 : ByteArray) (f1 : Int) (w : World) : Calls Try.prog 23 #[.agg #[.string f0, .int .i64 f1], .agg #[.string f0, .int .i64 f1]] w fun e w' => e = .returned (.bool true) ∧ Below w.heap.size w w' := by
  go_enter Try.func23, Try.ntmps23
  go_wp2
  go_ret
  exact ⟨rfl, ((Below.refl _ _).alloc (Nat.le_refl _) _).alloc (by simp) _⟩

theorem eq_visit_any (f0 : ByteArray) (f1 f2 : Int) (w : World) : Calls Try.prog 40 #[.agg #[.string f0, .int .i64 f1, .int .i64 f2], .agg #[.string f0, .int .i64 f1, .int .i64 f2]] w fun e w' => e = .returned (.bool true) ∧ Below w.heap.size w w' := by
  go_enter Try.func40, Try.ntmps40
  go_wp2
  go_ret
  exact ⟨rfl, ((Below.refl _ _).alloc (Nat.le_refl _) _).alloc (by simp) _⟩

set_option maxHeartbeats 2000000 in
theorem eq_caps_any (A B : Option Addr) (c d : Nat) (l : List Cap) (w : World) (hr : Kd.C k46 w A l.length l) (hq : Kd.C k46 w B l.length l) :
    Calls Try.prog 10 #[.slice A l.length c, .slice B l.length d] w fun e w' => e = .returned (.bool true) ∧ Below w.heap.size w w' := by
  have hc := C_len hr
  go_enter Try.func10, Try.ntmps10
  go_wp2
  go_loopw [5] (fun v wr => ∃ k : Nat, k ≤ l.length ∧ v = .int .i64 k ∧ Below w.heap.size w wr) (fun v _ => l.length - (intOf v).toNat)
  case atStart => exact ⟨0, Nat.zero_le _, rfl, Below.refl _ _⟩
  case round =>
    obtain ⟨k, hk, rfl, hb⟩ := hrel
    by_cases hlt : k < l.length
    · obtain ⟨ad, x, rfl, hx, x0, x1⟩ := capAt (Kd.C_below hr hb) k hlt
      obtain ⟨bd, y, rfl, hy, y0, y1⟩ := capAt (Kd.C_below hq hb) k hlt
      obtain rfl : x = y := by rw [hx] at hy; exact Option.some.inj hy
      have j4 : (k : Int) < l.length := by omega
      have a0 := After.cell x0
      have b0 := After.cell y0
      have a1 := After.cell x1
      have b1 := After.cell y1
      clear x0 y0 x1 y1
      have QC := Lib.hid (fun u : After wr => eq_cap_any x.f0 x.f1 u.w)
      clear hx hy
      go_wp2
      refine wp_region_after (by kernel_rfl) (by kernel_rfl) ?_
      repeat (go_big_quiet_step (first | (go_at_call 23; exact calls_after (QC.out _))))
      refine wpQuiet_nil ?_
      intro _ hw'
      obtain ⟨u, hw''⟩ := hw'
      subst hw''
      go_wp2
      go_roundw
      case rel => exact ⟨k + 1, by omega, by go_num, below_next hb hb.size u.hb⟩
      case measure => simp [intOf]; omega
    · go_wp2
      go_ret
      exact ⟨rfl, hb⟩

set_option maxHeartbeats 2000000 in
theorem eq_visits_any (A B : Option Addr) (c d : Nat) (l : List Visit) (w : World) (hr : Kd.C k53 w A l.length l) (hq : Kd.C k53 w B l.length l) :
    Calls Try.prog 35 #[.slice A l.length c, .slice B l.length d] w fun e w' => e = .returned (.bool true) ∧ Below w.heap.size w w' := by
  have hc := C_len hr
  go_enter Try.func35, Try.ntmps35
  go_wp2
  go_loopw [5] (fun v wr => ∃ k : Nat, k ≤ l.length ∧ v = .int .i64 k ∧ Below w.heap.size w wr) (fun v _ => l.length - (intOf v).toNat)
  case atStart => exact ⟨0, Nat.zero_le _, rfl, Below.refl _ _⟩
  case round =>
    obtain ⟨k, hk, rfl, hb⟩ := hrel
    by_cases hlt : k < l.length
    · obtain ⟨ad, x, rfl, hx, x0, x1, x2⟩ := visitAt (Kd.C_below hr hb) k hlt
      obtain ⟨bd, y, rfl, hy, y0, y1, y2⟩ := visitAt (Kd.C_below hq hb) k hlt
      obtain rfl : x = y := by rw [hx] at hy; exact Option.some.inj hy
      have j4 : (k : Int) < l.length := by omega
      have a0 := After.cell x0
      have b0 := After.cell y0
      have a1 := After.cell x1
      have b1 := After.cell y1
      have a2 := After.cell x2
      have b2 := After.cell y2
      clear x0 y0 x1 y1 x2 y2
      have QC := Lib.hid (fun u : After wr => eq_visit_any x.f0 x.f1 x.f2 u.w)
      clear hx hy
      go_wp2
      refine wp_region_after (by kernel_rfl) (by kernel_rfl) ?_
      repeat (go_big_quiet_step (first | (go_at_call 40; exact calls_after (QC.out _))))
      refine wpQuiet_nil ?_
      intro _ hw'
      obtain ⟨u, hw''⟩ := hw'
      subst hw''
      go_wp2
      go_roundw
      case rel => exact ⟨k + 1, by omega, by go_num, below_next hb hb.size u.hb⟩
      case measure => simp [intOf]; omega
    · go_wp2
      go_ret
      exact ⟨rfl, hb⟩

set_option maxHeartbeats 2000000 in
theorem eq_flight_any (A B : Option Addr) (c d : Nat) (f0 : ByteArray) (f1 f2 : Int) (l : List Visit) (w : World) (hr : Kd.C k53 w A l.length l) (hq : Kd.C k53 w B l.length l) :
    Calls Try.prog 24 #[.agg #[.string f0, .int .i64 f1, .int .i64 f2, .slice A l.length c], .agg #[.string f0, .int .i64 f1, .int .i64 f2, .slice B l.length d]] w fun e w' => e = .returned (.bool true) ∧ Below w.heap.size w w' := by
  have QC := Lib.hid (fun W hr hq => eq_visits_any A B c d l W hr hq)
  have HB := Lib.hid (((Below.refl _ w).alloc (Nat.le_refl _) (.cells #[.string f0, .int .i64 f1, .int .i64 f2, .slice A l.length c] 50)).alloc (by simp) (.cells #[.string f0, .int .i64 f1, .int .i64 f2, .slice B l.length d] 50))
  have HR := Lib.hid (Kd.C_below hr HB.out)
  have HQ := Lib.hid (Kd.C_below hq HB.out)
  go_enter Try.func24, Try.ntmps24
  go_wp2_with (first | (go_at_call 35; refine (QC.out _ HR.out HQ.out).mono ?_; rintro e w' ⟨rfl, hb2⟩))
  go_ret
  exact ⟨rfl, below_next HB.out HB.out.size hb2⟩

set_option maxHeartbeats 2000000 in
theorem eq_flights_any (A B : Option Addr) (c d : Nat) (l : List Flight) (w : World) (hr : Kd.C k50 w A l.length l) (hq : Kd.C k50 w B l.length l) :
    Calls Try.prog 11 #[.slice A l.length c, .slice B l.length d] w fun e w' => e = .returned (.bool true) ∧ Below w.heap.size w w' := by
  have hc := C_len hr
  go_enter Try.func11, Try.ntmps11
  go_wp2
  go_loopw [5] (fun v wr => ∃ k : Nat, k ≤ l.length ∧ v = .int .i64 k ∧ Below w.heap.size w wr) (fun v _ => l.length - (intOf v).toNat)
  case atStart => exact ⟨0, Nat.zero_le _, rfl, Below.refl _ _⟩
  case round =>
    obtain ⟨k, hk, rfl, hb⟩ := hrel
    by_cases hlt : k < l.length
    · obtain ⟨ad, x, A3, c3, rfl, hx, x0, x1, x2, x3, hl3, hr3⟩ := flightAt (Kd.C_below hr hb) k hlt
      obtain ⟨bd, y, B3, d3, rfl, hy, y0, y1, y2, y3, hl4, hr4⟩ := flightAt (Kd.C_below hq hb) k hlt
      obtain rfl : x = y := by rw [hx] at hy; exact Option.some.inj hy
      have j4 : (k : Int) < l.length := by omega
      have a0 := After.cell x0
      have b0 := After.cell y0
      have a1 := After.cell x1
      have b1 := After.cell y1
      have a2 := After.cell x2
      have b2 := After.cell y2
      have a3 := After.cell x3
      have b3 := After.cell y3
      clear x0 y0 x1 y1 x2 y2 x3 y3
      have QC := Lib.hid (fun u : After wr => eq_flight_any A3 B3 c3 d3 x.f0 x.f1 x.f2 x.f3 u.w (Kd.C_below hr3 u.hb) (Kd.C_below hr4 u.hb))
      clear hr3 hr4 hl3 hl4
      clear hx hy
      go_wp2
      refine wp_region_after (by kernel_rfl) (by kernel_rfl) ?_
      repeat (go_big_quiet_step (first | (go_at_call 24; exact calls_after (QC.out _))))
      refine wpQuiet_nil ?_
      intro _ hw'
      obtain ⟨u, hw''⟩ := hw'
      subst hw''
      go_wp2
      go_roundw
      case rel => exact ⟨k + 1, by omega, by go_num, below_next hb hb.size u.hb⟩
      case measure => simp [intOf]; omega
    · go_wp2
      go_ret
      exact ⟨rfl, hb⟩

end Go.Proofs.Ytgoepnbajpgkhaa.Q
