/- Contracts: FlowFlightsOk of the program. -/
import Derived.Test.YtgoepnbajpgkhaaA3
import Derived.Test.YtgoepnbajpgkhaaAft
namespace Go.Proofs.Ytgoepnbajpgkhaa.Q
open Go.RowKit Go.Proofs.YtgoepnbajpgkhaaW.PrintWords Go.Proofs.Ytgoepnbajpgkhaa.Core
set_option linter.unusedVariables false
set_option linter.unusedSimpArgs false

theorem flightAt {w : World} {A : Option Addr} {xs : List Flight} (h : Kd.C k50 w A xs.length xs) (k : Nat) (hk : k < xs.length) :
    ∃ ad x A3 c3, A = some ad ∧ xs[k]? = some x ∧ w.cell? (ad.add (k * 4)) = some (.string x.f0) ∧ w.cell? ⟨(ad.add (k * 4)).block, (ad.add (k * 4)).off + 1, none⟩ = some (.int .i64 x.f1) ∧
      w.cell? ⟨(ad.add (k * 4)).block, (ad.add (k * 4)).off + 2, none⟩ = some (.int .i64 x.f2) ∧ w.cell? ⟨(ad.add (k * 4)).block, (ad.add (k * 4)).off + 3, none⟩ = some (.slice A3 x.f3.length c3) ∧
      x.f3.length ≤ c3 ∧ Kd.C k53 w A3 x.f3.length x.f3 := by
  obtain ⟨ad, A3, c3, e, h0, h1, h2, h3, h4, h5⟩ := at_T50 h k (by omega) (by omega)
  have er : rd_T50 xs k = xs[k] := by
    unfold rd_T50
    rw [Int.toNat_natCast, List.getD_eq_getElem?_getD, List.getElem?_eq_getElem hk]
    rfl
  rw [er] at h0 h1 h2 h3 h4 h5
  exact ⟨ad, xs[k], A3, c3, e, List.getElem?_eq_getElem hk, h0, h1, h2, h3, h4, h5⟩
theorem C_len {α : Type} {d : Kd α} {w : World} {A : Option Addr} {n : Nat} {xs : List α} (h : d.C w A n xs) : n ≤ 9223372036854775807 := h.2.1

set_option maxHeartbeats 2000000 in
theorem impl_flightsOk_any (A : Option Addr) (c : Nat) (l : List Flight) (w : World) (hr : Kd.C k50 w A l.length l) (hc : l.length ≤ 9223372036854775807) :
    Calls Try.prog 21 #[.slice A l.length c] w fun e w' => e = .returned (.bool (flightsB l)) ∧ Below w.heap.size w w' := by
  by_cases hn : 8 < l.length
  · have h1 : decide ((8 : Int) < l.length) = true := by simp; omega
    have h2 : decide (8 < l.length) = true := by simp; omega
    go_enter Try.func21, Try.ntmps21
    go_wp2
    go_ret
    exact ⟨ret_bool (by simp [flightsB]; omega), Below.refl _ _⟩
  · have h1 : decide ((8 : Int) < l.length) = false := by simp; omega
    have h2 : decide (8 < l.length) = false := by simp; omega
    have hB : Hid (flightsB l = fromB flightB byName l 0) := by
      show _ = _
      rw [fromB_zero]; unfold flightsB
      rw [decide_eq_true (by omega : l.length ≤ 8), Bool.true_and]
    go_enter Try.func21, Try.ntmps21
    go_wp2
    go_loopw [10] (fun v wr => ∃ k : Nat, k ≤ l.length ∧ v = .int .i64 k ∧ Hid (fromB flightB byName l k = fromB flightB byName l 0) ∧ Below w.heap.size w wr) (fun v _ => l.length - (intOf v).toNat)
    case atStart => exact ⟨0, Nat.zero_le _, rfl, rfl, Below.refl _ _⟩
    case round =>
      obtain ⟨k, hk, rfl, hF, hb⟩ := hrel
      by_cases hlt : k < l.length
      · obtain ⟨ad, x, A3, c3, rfl, hx, x0, x1, x2, x3, hl3, hr3⟩ := flightAt (Kd.C_below hr hb) k hlt
        have hX := Lib.hid hx
        clear hx
        have HR := Lib.hid hr3
        clear hr3 hl3
        have hs : (wr.alloc (.cells #[.string x.f0, .int .i64 x.f1, .int .i64 x.f2, .slice A3 x.f3.length c3] 50)).heap.size = wr.heap.size + 1 := by simp
        have qf : ∀ u : After (wr.alloc (.cells #[.string x.f0, .int .i64 x.f1, .int .i64 x.f2, .slice A3 x.f3.length c3] 50)), Calls Try.prog 33 #[.agg #[.string x.f0, .int .i64 x.f1, .int .i64 x.f2, .slice A3 x.f3.length c3]] u.w fun e w' => e = .returned (.bool (flightB x)) ∧ Below u.w.heap.size u.w w' :=
          fun u => impl_flightOk_any _ _ x _ (Kd.C_below (Kd.C_below HR.out ((Below.refl _ _).alloc (Nat.le_refl _) _)) u.hb) (C_len HR.out)
        have QF := Lib.hid qf
        have b0 := After.cell (W := wr.alloc (.cells #[.string x.f0, .int .i64 x.f1, .int .i64 x.f2, .slice A3 x.f3.length c3] 50)) (a := ⟨wr.heap.size, 0, none⟩) (v := .string x.f0) (by simp)
        have b1 := After.cell (W := wr.alloc (.cells #[.string x.f0, .int .i64 x.f1, .int .i64 x.f2, .slice A3 x.f3.length c3] 50)) (a := ⟨wr.heap.size, 1, none⟩) (v := .int .i64 x.f1) (by simp)
        have b2 := After.cell (W := wr.alloc (.cells #[.string x.f0, .int .i64 x.f1, .int .i64 x.f2, .slice A3 x.f3.length c3] 50)) (a := ⟨wr.heap.size, 2, none⟩) (v := .int .i64 x.f2) (by simp)
        have b3 := After.cell (W := wr.alloc (.cells #[.string x.f0, .int .i64 x.f1, .int .i64 x.f2, .slice A3 x.f3.length c3] 50)) (a := ⟨wr.heap.size, 3, none⟩) (v := .slice A3 x.f3.length c3) (by simp)
        clear qf hs
        cases hn : flightB x with
        | false =>
          go_wp2
          refine wp_region_after (by kernel_rfl) (by kernel_rfl) ?_
          repeat (go_big_quiet_step (first | (go_at_call 33; exact calls_after (QF.out _))))
          refine wpQuiet_nil ?_
          intro _ hw'
          obtain ⟨u, hw''⟩ := hw'
          subst hw''
          go_wp2
          go_ret
          exact ⟨ret_bool (by rw [hB.out, ← hF.out, fromB_bad _ _ _ _ _ hX.out hn]), below_next (hb.alloc hb.size _) (by have := hb.size; simp; omega) u.hb⟩
        | true =>
        by_cases hk0 : k = 0
        · have j1 : decide (0 < k) = false := decide_eq_false (by omega)
          have K0 := Lib.hid hk0
          clear hk0
          go_wp2
          refine wp_region_after (by kernel_rfl) (by kernel_rfl) ?_
          repeat (go_big_quiet_step (first | (go_at_call 33; exact calls_after (QF.out _))))
          refine wpQuiet_nil ?_
          intro _ hw'
          obtain ⟨u, hw''⟩ := hw'
          subst hw''
          go_wp2
          go_roundw
          case rel => exact ⟨k + 1, by omega, by go_num, by show _ = _; rw [← hF.out, fromB_good0 _ _ _ _ _ K0.out hX.out hn], below_next (hb.alloc hb.size _) (by have := hb.size; simp; omega) u.hb⟩
          case measure => simp [intOf]; omega
        · obtain ⟨k, rfl⟩ : ∃ j, k = j + 1 := ⟨k - 1, by omega⟩
          clear hk0
          obtain ⟨ad2, p, A4, c4, e2, hp, p0, p1, p2, p3, pl, pr⟩ := flightAt (Kd.C_below hr hb) k (by omega)
          obtain rfl : ad = ad2 := by injection e2
          have HP := Lib.hid hp
          have p0 := After.cell (cell_al p0 (.cells #[.string x.f0, .int .i64 x.f1, .int .i64 x.f2, .slice A3 x.f3.length c3] 50))
          clear hp e2 p1 p2 p3 pl pr
          have j1 : decide (0 < (k : Int) + 1) = true := decide_eq_true (by omega)
          have j2 : (k : Int) < l.length := by omega
          have j3 : IntKind.i64.wrap (k : Int) = k := IntWalk.i64_in _ (by omega)
          cases hle : byName p x with
          | false =>
            have hl : Op.bytesLess p.f0.toList x.f0.toList = false := hle
            go_wp2
            refine wp_region_after (by kernel_rfl) (by kernel_rfl) ?_
            repeat (go_big_quiet_step (first | (go_at_call 33; exact calls_after (QF.out _))))
            refine wpQuiet_nil ?_
            intro _ hw'
            obtain ⟨u, hw''⟩ := hw'
            subst hw''
            go_wp2
            go_ret
            exact ⟨ret_bool (by rw [hB.out, ← hF.out, fromB_bad2 _ _ _ _ _ _ HP.out hX.out hle]), below_next (hb.alloc hb.size _) (by have := hb.size; simp; omega) u.hb⟩
          | true =>
            have hl : Op.bytesLess p.f0.toList x.f0.toList = true := hle
            go_wp2
            refine wp_region_after (by kernel_rfl) (by kernel_rfl) ?_
            repeat (go_big_quiet_step (first | (go_at_call 33; exact calls_after (QF.out _))))
            refine wpQuiet_nil ?_
            intro _ hw'
            obtain ⟨u, hw''⟩ := hw'
            subst hw''
            go_wp2
            go_roundw
            case rel => exact ⟨k + 1 + 1, by omega, by go_num, by show _ = _; rw [← hF.out, fromB_good _ _ _ _ _ _ HP.out hX.out hn hle], below_next (hb.alloc hb.size _) (by have := hb.size; simp; omega) u.hb⟩
            case measure => simp [intOf]; omega
      · go_wp2
        go_ret
        obtain rfl : k = l.length := by omega
        exact ⟨ret_bool (by rw [hB.out, ← hF.out, fromB_end _ _ _ _ (Nat.le_refl _)]), hb⟩
end Go.Proofs.Ytgoepnbajpgkhaa.Q
