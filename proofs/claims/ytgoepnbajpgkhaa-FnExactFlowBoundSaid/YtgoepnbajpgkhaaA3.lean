/- Contracts: flightOk of the program. -/
import Derived.Test.YtgoepnbajpgkhaaCore2
import Derived.Test.YtgoepnbajpgkhaaA2
namespace Go.Proofs.Ytgoepnbajpgkhaa.Q
open Go.RowKit Go.Proofs.YtgoepnbajpgkhaaW.PrintWords Go.Proofs.Ytgoepnbajpgkhaa.Core
set_option linter.unusedVariables false
set_option linter.unusedSimpArgs false

theorem visitAt {w : World} {A : Option Addr} {xs : List Visit} (h : Kd.C k53 w A xs.length xs) (k : Nat) (hk : k < xs.length) :
    ∃ ad c, A = some ad ∧ xs[k]? = some c ∧ w.cell? (ad.add (k * 3)) = some (.string c.f0) ∧ w.cell? ⟨(ad.add (k * 3)).block, (ad.add (k * 3)).off + 1, none⟩ = some (.int .i64 c.f1) ∧
      w.cell? ⟨(ad.add (k * 3)).block, (ad.add (k * 3)).off + 2, none⟩ = some (.int .i64 c.f2) := by
  obtain ⟨ad, e, h0, h1, h2⟩ := at_T53 h k (by omega) (by omega)
  have er : rd_T53 xs k = xs[k] := by
    unfold rd_T53
    rw [Int.toNat_natCast, List.getD_eq_getElem?_getD, List.getElem?_eq_getElem hk]
    rfl
  rw [er] at h0 h1 h2
  exact ⟨ad, xs[k], e, List.getElem?_eq_getElem hk, h0, h1, h2⟩

theorem visitB_parts {v : Visit} (h : visitB v = true) : nameB v.f0 = true ∧ 0 ≤ v.f1 ∧ v.f1 ≤ 200 ∧ 1 ≤ v.f2 ∧ v.f2 ≤ 30 := by
  simp only [visitB, inB, Bool.and_eq_true, decide_eq_true_eq] at h
  exact ⟨h.1.1, h.1.2.1, h.1.2.2, h.2.1, h.2.2⟩

set_option maxHeartbeats 2000000 in
theorem impl_flightOk_any (A : Option Addr) (c : Nat) (f : Flight) (w : World) (hr : Kd.C k53 w A f.f3.length f.f3) (hc : f.f3.length ≤ 9223372036854775807) :
    Calls Try.prog 33 #[.agg #[.string f.f0, .int .i64 f.f1, .int .i64 f.f2, .slice A f.f3.length c]] w fun e w' => e = .returned (.bool (flightB f)) ∧ Below w.heap.size w w' := by
  obtain ⟨f0, f1, f2, l⟩ := f
  simp only at hr hc ⊢
  cases hn : nameB f0 with
  | false =>
    go_enter Try.func33, Try.ntmps33
    go_wp2_with (first | (go_at_call 31; refine (impl_name_any _ _).mono ?_; rintro e w' ⟨rfl, rfl⟩; rw [hn]))
    go_ret
    exact ⟨ret_bool (by simp [flightB, hn]), (Below.refl _ _).alloc (Nat.le_refl _) _⟩
  | true =>
  cases hp : inB f1 0 10000 with
  | false =>
    go_enter Try.func33, Try.ntmps33
    go_wp2_with (first | (go_at_call 31; refine (impl_name_any _ _).mono ?_; rintro e w' ⟨rfl, rfl⟩; rw [hn]) | (go_at_call 32; refine (impl_in_any _ _ _ _).mono ?_; rintro e w' ⟨rfl, rfl⟩))
    go_ret
    exact ⟨ret_bool (by simp [flightB, hn, hp]), (Below.refl _ _).alloc (Nat.le_refl _) _⟩
  | true =>
  cases hq : inB f2 0 60 with
  | false =>
    go_enter Try.func33, Try.ntmps33
    go_wp2_with (first | (go_at_call 31; refine (impl_name_any _ _).mono ?_; rintro e w' ⟨rfl, rfl⟩; rw [hn]) | (go_at_call 32; refine (impl_in_any _ _ _ _).mono ?_; rintro e w' ⟨rfl, rfl⟩))
    go_ret
    exact ⟨ret_bool (by simp [flightB, hn, hp, hq]), (Below.refl _ _).alloc (Nat.le_refl _) _⟩
  | true =>
  cases hl : inB l.length 1 5 with
  | false =>
    go_enter Try.func33, Try.ntmps33
    go_wp2_with (first | (go_at_call 31; refine (impl_name_any _ _).mono ?_; rintro e w' ⟨rfl, rfl⟩; rw [hn]) | (go_at_call 32; refine (impl_in_any _ _ _ _).mono ?_; rintro e w' ⟨rfl, rfl⟩))
    go_ret
    exact ⟨ret_bool (by simp [flightB, visitsB, hn, hp, hq, hl]), (Below.refl _ _).alloc (Nat.le_refl _) _⟩
  | true =>
    have hB : Hid (flightB ⟨f0, f1, f2, l⟩ = fromB visitB apartB l 0) := by
      show _ = _
      rw [fromB_zero]; simp [flightB, visitsB, hn, hp, hq, hl]
    go_enter Try.func33, Try.ntmps33
    go_wp2_with (first | (go_at_call 31; refine (impl_name_any _ _).mono ?_; rintro e w' ⟨rfl, rfl⟩; rw [hn]) | (go_at_call 32; refine (impl_in_any _ _ _ _).mono ?_; rintro e w' ⟨rfl, rfl⟩))
    clear hn hp hq hl
    go_loopw [31] (fun v wr => ∃ k : Nat, k ≤ l.length ∧ v = .int .i64 k ∧ Hid (fromB visitB apartB l k = fromB visitB apartB l 0) ∧ Hid (∀ j p, j < k → l[j]? = some p → visitB p = true) ∧ Below (w.heap.size + 1) (w.alloc (.cells #[.string f0, .int .i64 f1, .int .i64 f2, .slice A l.length c] 50)) wr) (fun v _ => l.length - (intOf v).toNat)
    case atStart => exact ⟨0, Nat.zero_le _, rfl, rfl, fun j p h => absurd h (Nat.not_lt_zero _), Below.refl _ _⟩
    case round =>
      obtain ⟨k, hk, rfl, hF, hV, hb⟩ := hrel
      have hsz : w.heap.size + 1 ≤ wr.heap.size := by have := hb.size; simpa using this
      have hbw : Below w.heap.size w wr := ((Below.refl _ _).alloc (Nat.le_refl _) _).trans (hb.mono (by omega))
      have hBW := Lib.hid hbw
      by_cases hlt : k < l.length
      · obtain ⟨ad, x, rfl, hx, x0, x1, x2⟩ := visitAt (Kd.C_below hr hbw) k hlt
        have hX := Lib.hid hx
        have c3 : wr.cell? ⟨w.heap.size, 3, none⟩ = some (.slice (some ad) l.length c) := (hb.cell (p := ⟨w.heap.size, 3, none⟩) (by simp)).trans (by simp)
        clear hx hbw
        have qn : ∀ W : World, Calls Try.prog 31 #[.string x.f0] W fun e w' => e = .returned (.bool (nameB x.f0)) ∧ w' = W := fun W => (impl_name_any _ W).mono fun _ _ h => ⟨h.1, h.2.symm⟩
        have qi : ∀ a b d (W : World), Calls Try.prog 32 #[.int .i64 a, .int .i64 b, .int .i64 d] W fun e w' => e = .returned (.bool (inB a b d)) ∧ w' = W := fun a b d W => (impl_in_any _ _ _ W).mono fun _ _ h => ⟨h.1, h.2.symm⟩
        have QN := Lib.hid qn
        have QI := Lib.hid qi
        clear qn qi
        cases hn : nameB x.f0 with
        | false =>
          go_wp2
          go_quiet (first | (go_at_call 31; exact Calls.quiet_of_same (QN.out _)) | (go_at_call 32; exact Calls.quiet_of_same (QI.out _ _ _ _)))
          go_wp2
          go_ret
          exact ⟨ret_bool (by rw [hB.out, ← hF.out, fromB_bad _ _ _ _ _ hX.out (by simp [visitB, hn])]), pw_below_drewN (hBW.out.alloc hBW.out.size _) _⟩
        | true =>
        cases hi : inB x.f1 0 200 with
        | false =>
          go_wp2
          go_quiet (first | (go_at_call 31; exact Calls.quiet_of_same (QN.out _)) | (go_at_call 32; exact Calls.quiet_of_same (QI.out _ _ _ _)))
          go_wp2
          go_ret
          exact ⟨ret_bool (by rw [hB.out, ← hF.out, fromB_bad _ _ _ _ _ hX.out (by simp [visitB, hn, hi])]), pw_below_drewN (hBW.out.alloc hBW.out.size _) _⟩
        | true =>
        cases hj : inB x.f2 1 30 with
        | false =>
          go_wp2
          go_quiet (first | (go_at_call 31; exact Calls.quiet_of_same (QN.out _)) | (go_at_call 32; exact Calls.quiet_of_same (QI.out _ _ _ _)))
          go_wp2
          go_ret
          exact ⟨ret_bool (by rw [hB.out, ← hF.out, fromB_bad _ _ _ _ _ hX.out (by simp [visitB, hn, hi, hj])]), pw_below_drewN (hBW.out.alloc hBW.out.size _) _⟩
        | true =>
        have hok : visitB x = true := by simp [visitB, hn, hi, hj]
        have hV' : Hid (∀ j p, j < k + 1 → l[j]? = some p → visitB p = true) := fun j p h1 h2 => by
          rcases Nat.lt_or_ge j k with h3 | h3
          · exact hV.out j p h3 h2
          · obtain rfl : j = k := by omega
            rw [hX.out] at h2
            injection h2 with h2
            rw [← h2]; exact hok
        have HOK := Lib.hid hok
        clear hok
        by_cases hk0 : k = 0
        · have j1 : decide (0 < k) = false := decide_eq_false (by omega)
          have K0 := Lib.hid hk0
          clear hk0
          go_wp2
          go_quiet (first | (go_at_call 31; exact Calls.quiet_of_same (QN.out _)) | (go_at_call 32; exact Calls.quiet_of_same (QI.out _ _ _ _)))
          go_wp2
          go_roundw
          case rel => exact ⟨k + 1, by omega, by go_num, by show _ = _; rw [← hF.out, fromB_good0 _ _ _ _ _ K0.out hX.out HOK.out], hV', pw_below_drewN (hb.alloc (by simpa using hsz) _) _⟩
          case measure => simp [intOf]; omega
        · obtain ⟨k, rfl⟩ : ∃ j, k = j + 1 := ⟨k - 1, by omega⟩
          clear hk0
          obtain ⟨ad2, p, e2, hp, p0, p1, p2⟩ := visitAt (Kd.C_below hr hBW.out) k (by omega)
          obtain rfl : ad = ad2 := by injection e2
          have pb := visitB_parts (hV.out k p (by omega) hp)
          obtain ⟨_, pb1, pb2, pb3, pb4⟩ := pb
          have HP := Lib.hid hp
          have p1 := cell_al p1
          have p2 := cell_al p2
          have c3 := cell_al c3
          clear hp e2 p0
          have j1 : decide (0 < (k : Int) + 1) = true := decide_eq_true (by omega)
          have j2 : (k : Int) < l.length := by omega
          have j3 : IntKind.i64.wrap (k : Int) = k := IntWalk.i64_in _ (by omega)
          have j4 : IntKind.i64.wrap (p.f1 + p.f2) = p.f1 + p.f2 := IntWalk.i64_in _ (by omega)
          clear pb1 pb2 pb3 pb4
          cases hle : apartB p x with
          | false =>
            have hl : decide (x.f1 < p.f1 + p.f2) = true := by simp only [apartB, decide_eq_false_iff_not] at hle; exact decide_eq_true (by omega)
            go_wp2
            go_quiet (first | (go_at_call 31; exact Calls.quiet_of_same (QN.out _)) | (go_at_call 32; exact Calls.quiet_of_same (QI.out _ _ _ _)))
            go_wp2
            go_ret
            exact ⟨ret_bool (by rw [hB.out, ← hF.out, fromB_bad2 _ _ _ _ _ _ HP.out hX.out hle]), pw_below_drewN (hBW.out.alloc hBW.out.size _) _⟩
          | true =>
            have hl : decide (x.f1 < p.f1 + p.f2) = false := by simp only [apartB, decide_eq_true_eq] at hle; exact decide_eq_false (by omega)
            go_wp2
            go_quiet (first | (go_at_call 31; exact Calls.quiet_of_same (QN.out _)) | (go_at_call 32; exact Calls.quiet_of_same (QI.out _ _ _ _)))
            go_wp2
            go_roundw
            case rel => exact ⟨k + 1 + 1, by omega, by go_num, by show _ = _; rw [← hF.out, fromB_good _ _ _ _ _ _ HP.out hX.out HOK.out hle], hV', pw_below_drewN (hb.alloc (by simpa using hsz) _) _⟩
            case measure => simp [intOf]; omega
      · go_wp2
        go_ret
        obtain rfl : k = l.length := by omega
        exact ⟨ret_bool (by rw [hB.out, ← hF.out, fromB_end _ _ _ _ (Nat.le_refl _)]), hBW.out⟩
end Go.Proofs.Ytgoepnbajpgkhaa.Q
