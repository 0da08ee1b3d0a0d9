/- Contracts: the reference's checks of caps, visits, flights. -/
import Derived.Test.YtgoepnbajpgkhaaA4
namespace Go.Proofs.Ytgoepnbajpgkhaa.Q
open Go.RowKit Go.Proofs.YtgoepnbajpgkhaaW.PrintWords Go.Proofs.Ytgoepnbajpgkhaa.Core
set_option linter.unusedVariables false
set_option linter.unusedSimpArgs false

theorem quiet_name (s : ByteArray) (W : World) : Calls Try.prog 26 #[.string s] W fun e w' => e = .returned (.bool (nameB s)) ∧ w' = W := (spec_name_any _ W).mono fun _ _ h => ⟨h.1, h.2.symm⟩
theorem quiet_in (a b c : Int) (W : World) : Calls Try.prog 27 #[.int .i64 a, .int .i64 b, .int .i64 c] W fun e w' => e = .returned (.bool (inB a b c)) ∧ w' = W := (spec_in_any _ _ _ W).mono fun _ _ h => ⟨h.1, h.2.symm⟩
set_option maxHeartbeats 2000000 in
theorem spec_capsOk_any (A : Option Addr) (c : Nat) (l : List Cap) (w : World) (hr : Kd.C k46 w A l.length l) (hc : l.length ≤ 9223372036854775807) :
    Calls Try.prog 15 #[.slice A l.length c] w fun e w' => e = .returned (.bool (capsB l)) ∧ Below w.heap.size w w' := by
  by_cases hn : 6 < l.length
  · have h1 : decide ((6 : Int) < l.length) = true := by simp; omega
    have h2 : decide (6 < l.length) = true := by simp; omega
    go_enter Try.func15, Try.ntmps15
    go_wp2
    go_ret
    exact ⟨ret_bool (by simp [capsB]; omega), Below.refl _ _⟩
  · have h1 : decide ((6 : Int) < l.length) = false := by simp; omega
    have h2 : decide (6 < l.length) = false := by simp; omega
    have hB : Hid (capsB l = fromB capB bySector l 0) := by
      show _ = _
      rw [fromB_zero]; unfold capsB
      rw [decide_eq_true (by omega : l.length ≤ 6), Bool.true_and]
    go_enter Try.func15, Try.ntmps15
    go_wp2
    go_loopw [3] (fun v wr => ∃ k : Nat, k ≤ l.length ∧ v = .int .i64 k ∧ Hid (fromB capB bySector l k = fromB capB bySector l 0) ∧ Below w.heap.size w wr) (fun v _ => l.length - (intOf v).toNat)
    case atStart => exact ⟨0, Nat.zero_le _, rfl, rfl, Below.refl _ _⟩
    case round =>
      obtain ⟨k, hk, rfl, hF, hb⟩ := hrel
      by_cases hlt : k < l.length
      · obtain ⟨ad, x, rfl, hx, x0, x1⟩ := capAt (Kd.C_below hr hb) k hlt
        have hX := Lib.hid hx
        clear hx
        have QN := Lib.hid (quiet_name x.f0)
        have QI := Lib.hid (quiet_in x.f1 0 20)
        have j4 : (k : Int) < l.length := by omega
        cases hn : nameB x.f0 with
        | false =>
          go_wp2
          go_quiet (first | (go_at_call 26; exact Calls.quiet_of_same (QN.out _)) | (go_at_call 27; exact Calls.quiet_of_same (QI.out _)))
          go_wp2
          go_ret
          exact ⟨ret_bool (by rw [hB.out, ← hF.out, fromB_bad _ _ _ _ _ hX.out (by simp [capB, hn])]), pw_below_drewN hb _⟩
        | true =>
        by_cases hk0 : k = 0
        · have j1 : decide (0 < k) = false := decide_eq_false (by omega)
          have K0 := Lib.hid hk0
          clear hk0
          cases hi : inB x.f1 0 20 with
          | false =>
            go_wp2
            go_quiet (first | (go_at_call 26; exact Calls.quiet_of_same (QN.out _)) | (go_at_call 27; exact Calls.quiet_of_same (QI.out _)))
            go_wp2
            go_ret
            exact ⟨ret_bool (by rw [hB.out, ← hF.out, fromB_bad _ _ _ _ _ hX.out (by simp [capB, hn, hi])]), pw_below_drewN hb _⟩
          | true =>
            go_wp2
            go_quiet (first | (go_at_call 26; exact Calls.quiet_of_same (QN.out _)) | (go_at_call 27; exact Calls.quiet_of_same (QI.out _)))
            go_wp2
            go_roundw
            case rel => exact ⟨k + 1, by omega, by go_num, by show _ = _; rw [← hF.out, fromB_good0 _ _ _ _ _ K0.out hX.out (by simp [capB, hn, hi])], pw_below_drewN hb _⟩
            case measure => simp [intOf]; omega
        · obtain ⟨k, rfl⟩ : ∃ j, k = j + 1 := ⟨k - 1, by omega⟩
          clear hk0
          obtain ⟨ad2, p, e2, hp, p0, p1⟩ := capAt (Kd.C_below hr hb) k (by omega)
          obtain rfl : ad = ad2 := by injection e2
          have HP := Lib.hid hp
          clear hp e2 p1
          have j1 : decide (0 < (k : Int) + 1) = true := decide_eq_true (by omega)
          have j2 : (k : Int) < l.length := by omega
          have j3 : IntKind.i64.wrap (k : Int) = k := IntWalk.i64_in _ (by omega)
          cases hle : bySector p x with
          | false =>
            have hl : Op.bytesLess p.f0.toList x.f0.toList = false := hle
            go_wp2
            go_quiet (first | (go_at_call 26; exact Calls.quiet_of_same (QN.out _)) | (go_at_call 27; exact Calls.quiet_of_same (QI.out _)))
            go_wp2
            go_ret
            exact ⟨ret_bool (by rw [hB.out, ← hF.out, fromB_bad2 _ _ _ _ _ _ HP.out hX.out hle]), pw_below_drewN hb _⟩
          | true =>
            have hl : Op.bytesLess p.f0.toList x.f0.toList = true := hle
            cases hi : inB x.f1 0 20 with
            | false =>
              go_wp2
              go_quiet (first | (go_at_call 26; exact Calls.quiet_of_same (QN.out _)) | (go_at_call 27; exact Calls.quiet_of_same (QI.out _)))
              go_wp2
              go_ret
              exact ⟨ret_bool (by rw [hB.out, ← hF.out, fromB_bad _ _ _ _ _ hX.out (by simp [capB, hn, hi])]), pw_below_drewN hb _⟩
            | true =>
              go_wp2
              go_quiet (first | (go_at_call 26; exact Calls.quiet_of_same (QN.out _)) | (go_at_call 27; exact Calls.quiet_of_same (QI.out _)))
              go_wp2
              go_roundw
              case rel => exact ⟨k + 1 + 1, by omega, by go_num, by show _ = _; rw [← hF.out, fromB_good _ _ _ _ _ _ HP.out hX.out (by simp [capB, hn, hi]) hle], pw_below_drewN hb _⟩
              case measure => simp [intOf]; omega
      · go_wp2
        go_ret
        obtain rfl : k = l.length := by omega
        exact ⟨ret_bool (by rw [hB.out, ← hF.out, fromB_end _ _ _ _ (Nat.le_refl _)]), hb⟩

set_option maxHeartbeats 2000000 in
theorem spec_visitsOk_any (A : Option Addr) (c : Nat) (l : List Visit) (w : World) (hr : Kd.C k53 w A l.length l) (hc : l.length ≤ 9223372036854775807) :
    Calls Try.prog 28 #[.slice A l.length c] w fun e w' => e = .returned (.bool (visitsB l)) ∧ Below w.heap.size w w' := by
  cases hl : inB l.length 1 5 with
  | false =>
    go_enter Try.func28, Try.ntmps28
    go_wp2_with (first | (go_at_call 27; refine (spec_in_any _ _ _ _).mono ?_; rintro e w' ⟨rfl, rfl⟩; rw [hl]))
    go_ret
    exact ⟨ret_bool (by simp [visitsB, hl]), Below.refl _ _⟩
  | true =>
    have hB : Hid (visitsB l = fromB visitB apartB l 0) := by
      show _ = _
      rw [fromB_zero]; simp [visitsB, hl]
    go_enter Try.func28, Try.ntmps28
    go_wp2_with (first | (go_at_call 27; refine (spec_in_any _ _ _ _).mono ?_; rintro e w' ⟨rfl, rfl⟩; rw [hl]))
    clear hl
    go_loopw [3] (fun v wr => ∃ k : Nat, k ≤ l.length ∧ v = .int .i64 k ∧ Hid (fromB visitB apartB l k = fromB visitB apartB l 0) ∧ Hid (∀ j p, j < k → l[j]? = some p → visitB p = true) ∧ Below w.heap.size w wr) (fun v _ => l.length - (intOf v).toNat)
    case atStart => exact ⟨0, Nat.zero_le _, rfl, rfl, fun j p h => absurd h (Nat.not_lt_zero _), Below.refl _ _⟩
    case round =>
      obtain ⟨k, hk, rfl, hF, hV, hb⟩ := hrel
      by_cases hlt : k < l.length
      · obtain ⟨ad, x, rfl, hx, x0, x1, x2⟩ := visitAt (Kd.C_below hr hb) k hlt
        have hX := Lib.hid hx
        clear hx
        have QN := Lib.hid (quiet_name x.f0)
        have QI := Lib.hid quiet_in
        cases hn : nameB x.f0 with
        | false =>
          go_wp2
          go_quiet (first | (go_at_call 26; exact Calls.quiet_of_same (QN.out _)) | (go_at_call 27; exact Calls.quiet_of_same (QI.out _ _ _ _)))
          go_wp2
          go_ret
          exact ⟨ret_bool (by rw [hB.out, ← hF.out, fromB_bad _ _ _ _ _ hX.out (by simp [visitB, hn])]), pw_below_drewN (hb.alloc hb.size _) _⟩
        | true =>
        cases hi : inB x.f1 0 200 with
        | false =>
          go_wp2
          go_quiet (first | (go_at_call 26; exact Calls.quiet_of_same (QN.out _)) | (go_at_call 27; exact Calls.quiet_of_same (QI.out _ _ _ _)))
          go_wp2
          go_ret
          exact ⟨ret_bool (by rw [hB.out, ← hF.out, fromB_bad _ _ _ _ _ hX.out (by simp [visitB, hn, hi])]), pw_below_drewN (hb.alloc hb.size _) _⟩
        | true =>
        cases hj : inB x.f2 1 30 with
        | false =>
          go_wp2
          go_quiet (first | (go_at_call 26; exact Calls.quiet_of_same (QN.out _)) | (go_at_call 27; exact Calls.quiet_of_same (QI.out _ _ _ _)))
          go_wp2
          go_ret
          exact ⟨ret_bool (by rw [hB.out, ← hF.out, fromB_bad _ _ _ _ _ hX.out (by simp [visitB, hn, hi, hj])]), pw_below_drewN (hb.alloc hb.size _) _⟩
        | true =>
        have hok : visitB x = true := by simp [visitB, hn, hi, hj]
        have hV' : Hid (∀ j p, j < k + 1 → l[j]? = some p → visitB p = true) := fun j p h1 h2 => by
          rcases Nat.lt_or_ge j k with h3 | h3
          · exact hV.out j p h3 h2
          · obtain rfl : j = k := by omega
            rw [hX.out] at h2
            injection h2 with h2
            rw [← h2]; exact hok
        have HOK := Lib.hid hok
        clear hok
        by_cases hk0 : k = 0
        · have j1 : decide (0 < k) = false := decide_eq_false (by omega)
          have K0 := Lib.hid hk0
          clear hk0
          go_wp2
          go_quiet (first | (go_at_call 26; exact Calls.quiet_of_same (QN.out _)) | (go_at_call 27; exact Calls.quiet_of_same (QI.out _ _ _ _)))
          go_wp2
          go_roundw
          case rel => exact ⟨k + 1, by omega, by go_num, by show _ = _; rw [← hF.out, fromB_good0 _ _ _ _ _ K0.out hX.out HOK.out], hV', pw_below_drewN (hb.alloc hb.size _) _⟩
          case measure => simp [intOf]; omega
        · obtain ⟨k, rfl⟩ : ∃ j, k = j + 1 := ⟨k - 1, by omega⟩
          clear hk0
          obtain ⟨ad2, p, e2, hp, p0, p1, p2⟩ := visitAt (Kd.C_below hr hb) k (by omega)
          obtain rfl : ad = ad2 := by injection e2
          have pb := visitB_parts (hV.out k p (by omega) hp)
          obtain ⟨_, pb1, pb2, pb3, pb4⟩ := pb
          have HP := Lib.hid hp
          have p1 := cell_al p1
          have p2 := cell_al p2
          clear hp e2 p0
          have j1 : decide (0 < (k : Int) + 1) = true := decide_eq_true (by omega)
          have j2 : (k : Int) < l.length := by omega
          have j3 : IntKind.i64.wrap (k : Int) = k := IntWalk.i64_in _ (by omega)
          have j4 : IntKind.i64.wrap (p.f1 + p.f2) = p.f1 + p.f2 := IntWalk.i64_in _ (by omega)
          clear pb1 pb2 pb3 pb4
          cases hle : apartB p x with
          | false =>
            have hl : decide (x.f1 < p.f1 + p.f2) = true := by simp only [apartB, decide_eq_false_iff_not] at hle; exact decide_eq_true (by omega)
            go_wp2
            go_quiet (first | (go_at_call 26; exact Calls.quiet_of_same (QN.out _)) | (go_at_call 27; exact Calls.quiet_of_same (QI.out _ _ _ _)))
            go_wp2
            go_ret
            exact ⟨ret_bool (by rw [hB.out, ← hF.out, fromB_bad2 _ _ _ _ _ _ HP.out hX.out hle]), pw_below_drewN (hb.alloc hb.size _) _⟩
          | true =>
            have hl : decide (x.f1 < p.f1 + p.f2) = false := by simp only [apartB, decide_eq_true_eq] at hle; exact decide_eq_false (by omega)
            go_wp2
            go_quiet (first | (go_at_call 26; exact Calls.quiet_of_same (QN.out _)) | (go_at_call 27; exact Calls.quiet_of_same (QI.out _ _ _ _)))
            go_wp2
            go_roundw
            case rel => exact ⟨k + 1 + 1, by omega, by go_num, by show _ = _; rw [← hF.out, fromB_good _ _ _ _ _ _ HP.out hX.out HOK.out hle], hV', pw_below_drewN (hb.alloc hb.size _) _⟩
            case measure => simp [intOf]; omega
      · go_wp2
        go_ret
        obtain rfl : k = l.length := by omega
        exact ⟨ret_bool (by rw [hB.out, ← hF.out, fromB_end _ _ _ _ (Nat.le_refl _)]), hb⟩

set_option maxHeartbeats 4000000 in
theorem spec_flightsOk_any (A : Option Addr) (c : Nat) (l : List Flight) (w : World) (hr : Kd.C k50 w A l.length l) (hc : l.length ≤ 9223372036854775807) :
    Calls Try.prog 16 #[.slice A l.length c] w fun e w' => e = .returned (.bool (flightsB l)) ∧ Below w.heap.size w w' := by
  by_cases hn : 8 < l.length
  · have h1 : decide ((8 : Int) < l.length) = true := by simp; omega
    have h2 : decide (8 < l.length) = true := by simp; omega
    go_enter Try.func16, Try.ntmps16
    go_wp2
    go_ret
    exact ⟨ret_bool (by simp [flightsB]; omega), Below.refl _ _⟩
  · have h1 : decide ((8 : Int) < l.length) = false := by simp; omega
    have h2 : decide (8 < l.length) = false := by simp; omega
    have hB : Hid (flightsB l = fromB flightB byName l 0) := by
      show _ = _
      rw [fromB_zero]; unfold flightsB
      rw [decide_eq_true (by omega : l.length ≤ 8), Bool.true_and]
    go_enter Try.func16, Try.ntmps16
    go_wp2
    go_loopw [3] (fun v wr => ∃ k : Nat, k ≤ l.length ∧ v = .int .i64 k ∧ Hid (fromB flightB byName l k = fromB flightB byName l 0) ∧ Below w.heap.size w wr) (fun v _ => l.length - (intOf v).toNat)
    case atStart => exact ⟨0, Nat.zero_le _, rfl, rfl, Below.refl _ _⟩
    case round =>
      obtain ⟨k, hk, rfl, hF, hb⟩ := hrel
      by_cases hlt : k < l.length
      · obtain ⟨ad, x, A3, c3, rfl, hx, x0, x1, x2, x3, hl3, hr3⟩ := flightAt (Kd.C_below hr hb) k hlt
        have hX := Lib.hid hx
        clear hx
        have HR := Lib.hid hr3
        clear hr3 hl3
        have qf : ∀ u : After (wr.alloc (.cells #[.string x.f0, .int .i64 x.f1, .int .i64 x.f2, .slice A3 x.f3.length c3] 50)), Calls Try.prog 28 #[.slice A3 x.f3.length c3] u.w fun e w' => e = .returned (.bool (visitsB x.f3)) ∧ Below u.w.heap.size u.w w' :=
          fun u => spec_visitsOk_any _ _ x.f3 _ (Kd.C_below (Kd.C_below HR.out ((Below.refl _ _).alloc (Nat.le_refl _) _)) u.hb) (C_len HR.out)
        have QF := Lib.hid qf
        have QN := Lib.hid (quiet_name x.f0)
        have QI := Lib.hid quiet_in
        have b0 := After.cell (W := wr.alloc (.cells #[.string x.f0, .int .i64 x.f1, .int .i64 x.f2, .slice A3 x.f3.length c3] 50)) (a := ⟨wr.heap.size, 0, none⟩) (v := .string x.f0) (by simp)
        have b1 := After.cell (W := wr.alloc (.cells #[.string x.f0, .int .i64 x.f1, .int .i64 x.f2, .slice A3 x.f3.length c3] 50)) (a := ⟨wr.heap.size, 1, none⟩) (v := .int .i64 x.f1) (by simp)
        have b2 := After.cell (W := wr.alloc (.cells #[.string x.f0, .int .i64 x.f1, .int .i64 x.f2, .slice A3 x.f3.length c3] 50)) (a := ⟨wr.heap.size, 2, none⟩) (v := .int .i64 x.f2) (by simp)
        have b3 := After.cell (W := wr.alloc (.cells #[.string x.f0, .int .i64 x.f1, .int .i64 x.f2, .slice A3 x.f3.length c3] 50)) (a := ⟨wr.heap.size, 3, none⟩) (v := .slice A3 x.f3.length c3) (by simp)
        clear qf
        cases hn : nameB x.f0 with
        | false =>
          go_wp2
          refine wp_region_after (by kernel_rfl) (by kernel_rfl) ?_
          repeat (go_big_quiet_step (first | (go_at_call 26; exact calls_after_same (QN.out _)) | (go_at_call 27; exact calls_after_same (QI.out _ _ _ _)) | (go_at_call 28; exact calls_after (QF.out _))))
          refine wpQuiet_nil ?_
          intro _ hw'
          obtain ⟨u, hw''⟩ := hw'
          subst hw''
          go_wp2
          go_ret
          exact ⟨ret_bool (by rw [hB.out, ← hF.out, fromB_bad _ _ _ _ _ hX.out (by simp [flightB, hn])]), below_next (hb.alloc hb.size _) (by have := hb.size; simp; omega) u.hb⟩
        | true =>
        by_cases hk0 : k = 0
        · have j1 : decide (0 < k) = false := decide_eq_false (by omega)
          have K0 := Lib.hid hk0
          clear hk0
          cases hi : inB x.f1 0 10000 with
          | false =>
            go_wp2
            refine wp_region_after (by kernel_rfl) (by kernel_rfl) ?_
            repeat (go_big_quiet_step (first | (go_at_call 26; exact calls_after_same (QN.out _)) | (go_at_call 27; exact calls_after_same (QI.out _ _ _ _)) | (go_at_call 28; exact calls_after (QF.out _))))
            refine wpQuiet_nil ?_
            intro _ hw'
            obtain ⟨u, hw''⟩ := hw'
            subst hw''
            go_wp2
            go_ret
            exact ⟨ret_bool (by rw [hB.out, ← hF.out, fromB_bad _ _ _ _ _ hX.out (by simp [flightB, hn, hi])]), below_next (hb.alloc hb.size _) (by have := hb.size; simp; omega) u.hb⟩
          | true =>
          cases hj : inB x.f2 0 60 with
          | false =>
            go_wp2
            refine wp_region_after (by kernel_rfl) (by kernel_rfl) ?_
            repeat (go_big_quiet_step (first | (go_at_call 26; exact calls_after_same (QN.out _)) | (go_at_call 27; exact calls_after_same (QI.out _ _ _ _)) | (go_at_call 28; exact calls_after (QF.out _))))
            refine wpQuiet_nil ?_
            intro _ hw'
            obtain ⟨u, hw''⟩ := hw'
            subst hw''
            go_wp2
            go_ret
            exact ⟨ret_bool (by rw [hB.out, ← hF.out, fromB_bad _ _ _ _ _ hX.out (by simp [flightB, hn, hi, hj])]), below_next (hb.alloc hb.size _) (by have := hb.size; simp; omega) u.hb⟩
          | true =>
          cases hv : visitsB x.f3 with
          | false =>
            go_wp2
            refine wp_region_after (by kernel_rfl) (by kernel_rfl) ?_
            repeat (go_big_quiet_step (first | (go_at_call 26; exact calls_after_same (QN.out _)) | (go_at_call 27; exact calls_after_same (QI.out _ _ _ _)) | (go_at_call 28; exact calls_after (QF.out _))))
            refine wpQuiet_nil ?_
            intro _ hw'
            obtain ⟨u, hw''⟩ := hw'
            subst hw''
            go_wp2
            go_ret
            exact ⟨ret_bool (by rw [hB.out, ← hF.out, fromB_bad _ _ _ _ _ hX.out (by simp [flightB, hn, hi, hj, hv])]), below_next (hb.alloc hb.size _) (by have := hb.size; simp; omega) u.hb⟩
          | true =>
            go_wp2
            refine wp_region_after (by kernel_rfl) (by kernel_rfl) ?_
            repeat (go_big_quiet_step (first | (go_at_call 26; exact calls_after_same (QN.out _)) | (go_at_call 27; exact calls_after_same (QI.out _ _ _ _)) | (go_at_call 28; exact calls_after (QF.out _))))
            refine wpQuiet_nil ?_
            intro _ hw'
            obtain ⟨u, hw''⟩ := hw'
            subst hw''
            go_wp2
            go_roundw
            case rel => exact ⟨k + 1, by omega, by go_num, by show _ = _; rw [← hF.out, fromB_good0 _ _ _ _ _ K0.out hX.out (by simp [flightB, hn, hi, hj, hv])], below_next (hb.alloc hb.size _) (by have := hb.size; simp; omega) u.hb⟩
            case measure => simp [intOf]; omega
        · obtain ⟨k, rfl⟩ : ∃ j, k = j + 1 := ⟨k - 1, by omega⟩
          clear hk0
          obtain ⟨ad2, p, A4, c4, e2, hp, p0, p1, p2, p3, pl, pr⟩ := flightAt (Kd.C_below hr hb) k (by omega)
          obtain rfl : ad = ad2 := by injection e2
          have HP := Lib.hid hp
          have p0 := After.cell (cell_al p0 (.cells #[.string x.f0, .int .i64 x.f1, .int .i64 x.f2, .slice A3 x.f3.length c3] 50))
          clear hp e2 p1 p2 p3 pl pr
          have j1 : decide (0 < (k : Int) + 1) = true := decide_eq_true (by omega)
          have j2 : (k : Int) < l.length := by omega
          have j3 : IntKind.i64.wrap (k : Int) = k := IntWalk.i64_in _ (by omega)
          cases hle : byName p x with
          | false =>
            have hl : Op.bytesLess p.f0.toList x.f0.toList = false := hle
            go_wp2
            refine wp_region_after (by kernel_rfl) (by kernel_rfl) ?_
            repeat (go_big_quiet_step (first | (go_at_call 26; exact calls_after_same (QN.out _)) | (go_at_call 27; exact calls_after_same (QI.out _ _ _ _)) | (go_at_call 28; exact calls_after (QF.out _))))
            refine wpQuiet_nil ?_
            intro _ hw'
            obtain ⟨u, hw''⟩ := hw'
            subst hw''
            go_wp2
            go_ret
            exact ⟨ret_bool (by rw [hB.out, ← hF.out, fromB_bad2 _ _ _ _ _ _ HP.out hX.out hle]), below_next (hb.alloc hb.size _) (by have := hb.size; simp; omega) u.hb⟩
          | true =>
            have hl : Op.bytesLess p.f0.toList x.f0.toList = true := hle
            cases hi : inB x.f1 0 10000 with
            | false =>
              go_wp2
              refine wp_region_after (by kernel_rfl) (by kernel_rfl) ?_
              repeat (go_big_quiet_step (first | (go_at_call 26; exact calls_after_same (QN.out _)) | (go_at_call 27; exact calls_after_same (QI.out _ _ _ _)) | (go_at_call 28; exact calls_after (QF.out _))))
              refine wpQuiet_nil ?_
              intro _ hw'
              obtain ⟨u, hw''⟩ := hw'
              subst hw''
              go_wp2
              go_ret
              exact ⟨ret_bool (by rw [hB.out, ← hF.out, fromB_bad _ _ _ _ _ hX.out (by simp [flightB, hn, hi])]), below_next (hb.alloc hb.size _) (by have := hb.size; simp; omega) u.hb⟩
            | true =>
            cases hj : inB x.f2 0 60 with
            | false =>
              go_wp2
              refine wp_region_after (by kernel_rfl) (by kernel_rfl) ?_
              repeat (go_big_quiet_step (first | (go_at_call 26; exact calls_after_same (QN.out _)) | (go_at_call 27; exact calls_after_same (QI.out _ _ _ _)) | (go_at_call 28; exact calls_after (QF.out _))))
              refine wpQuiet_nil ?_
              intro _ hw'
              obtain ⟨u, hw''⟩ := hw'
              subst hw''
              go_wp2
              go_ret
              exact ⟨ret_bool (by rw [hB.out, ← hF.out, fromB_bad _ _ _ _ _ hX.out (by simp [flightB, hn, hi, hj])]), below_next (hb.alloc hb.size _) (by have := hb.size; simp; omega) u.hb⟩
            | true =>
            cases hv : visitsB x.f3 with
            | false =>
              go_wp2
              refine wp_region_after (by kernel_rfl) (by kernel_rfl) ?_
              repeat (go_big_quiet_step (first | (go_at_call 26; exact calls_after_same (QN.out _)) | (go_at_call 27; exact calls_after_same (QI.out _ _ _ _)) | (go_at_call 28; exact calls_after (QF.out _))))
              refine wpQuiet_nil ?_
              intro _ hw'
              obtain ⟨u, hw''⟩ := hw'
              subst hw''
              go_wp2
              go_ret
              exact ⟨ret_bool (by rw [hB.out, ← hF.out, fromB_bad _ _ _ _ _ hX.out (by simp [flightB, hn, hi, hj, hv])]), below_next (hb.alloc hb.size _) (by have := hb.size; simp; omega) u.hb⟩
            | true =>
              go_wp2
              refine wp_region_after (by kernel_rfl) (by kernel_rfl) ?_
              repeat (go_big_quiet_step (first | (go_at_call 26; exact calls_after_same (QN.out _)) | (go_at_call 27; exact calls_after_same (QI.out _ _ _ _)) | (go_at_call 28; exact calls_after (QF.out _))))
              refine wpQuiet_nil ?_
              intro _ hw'
              obtain ⟨u, hw''⟩ := hw'
              subst hw''
              go_wp2
              go_roundw
              case rel => exact ⟨k + 1 + 1, by omega, by go_num, by show _ = _; rw [← hF.out, fromB_good _ _ _ _ _ _ HP.out hX.out (by simp [flightB, hn, hi, hj, hv]) hle], below_next (hb.alloc hb.size _) (by have := hb.size; simp; omega) u.hb⟩
              case measure => simp [intOf]; omega
      · go_wp2
        go_ret
        obtain rfl : k = l.length := by omega
        exact ⟨ret_bool (by rw [hB.out, ← hF.out, fromB_end _ _ _ _ (Nat.le_refl _)]), hb⟩

end Go.Proofs.Ytgoepnbajpgkhaa.Q
