/- Contracts: FlowCapsOk, the program's and the reference's. -/
import Derived.Test.YtgoepnbajpgkhaaCore2
import Derived.Test.YtgoepnbajpgkhaaA1
import Derived.Deep.QuietTactic
import Derived.BigQuiet
import Derived.IntWalk
namespace Go.Proofs.Ytgoepnbajpgkhaa.Q
open Go.RowKit Go.Proofs.YtgoepnbajpgkhaaW.PrintWords Go.Proofs.Ytgoepnbajpgkhaa.Core
set_option linter.unusedVariables false
set_option linter.unusedSimpArgs false

theorem cell_al {w : World} {a : Addr} {v : Value} (h : w.cell? a = some v) (o : Obj) : (w.alloc o).cell? a = some v := pw_cell_below ((Below.refl _ _).alloc (Nat.le_refl _) o) h
theorem capAt {w : World} {A : Option Addr} {xs : List Cap} (h : Kd.C k46 w A xs.length xs) (k : Nat) (hk : k < xs.length) :
    ∃ ad c, A = some ad ∧ xs[k]? = some c ∧ w.cell? (ad.add (k * 2)) = some (.string c.f0) ∧ w.cell? ⟨(ad.add (k * 2)).block, (ad.add (k * 2)).off + 1, none⟩ = some (.int .i64 c.f1) := by
  obtain ⟨ad, e, h0, h1⟩ := at_T46 h k (by omega) (by omega)
  have er : rd_T46 xs k = xs[k] := by
    unfold rd_T46
    rw [Int.toNat_natCast, List.getD_eq_getElem?_getD, List.getElem?_eq_getElem hk]
    rfl
  rw [er] at h0 h1
  exact ⟨ad, xs[k], e, List.getElem?_eq_getElem hk, h0, h1⟩

set_option maxHeartbeats 1000000 in
theorem impl_capsOk_any (A : Option Addr) (c : Nat) (l : List Cap) (w : World) (hr : Kd.C k46 w A l.length l) (hc : l.length ≤ 9223372036854775807) :
    Calls Try.prog 20 #[.slice A l.length c] w fun e w' => e = .returned (.bool (capsB l)) ∧ Below w.heap.size w w' := by
  by_cases hn : 6 < l.length
  · have h1 : decide ((6 : Int) < l.length) = true := by simp; omega
    have h2 : decide (6 < l.length) = true := by simp; omega
    go_enter Try.func20, Try.ntmps20
    go_wp2
    go_ret
    exact ⟨ret_bool (by simp [capsB]; omega), Below.refl _ _⟩
  · have h1 : decide ((6 : Int) < l.length) = false := by simp; omega
    have h2 : decide (6 < l.length) = false := by simp; omega
    have hB : Hid (capsB l = fromB capB bySector l 0) := by
      show _ = _
      rw [fromB_zero]; unfold capsB
      rw [decide_eq_true (by omega : l.length ≤ 6), Bool.true_and]
    go_enter Try.func20, Try.ntmps20
    go_wp2
    go_loopw [10] (fun v wr => ∃ k : Nat, k ≤ l.length ∧ v = .int .i64 k ∧ Hid (fromB capB bySector l k = fromB capB bySector l 0) ∧ Below w.heap.size w wr) (fun v _ => l.length - (intOf v).toNat)
    case atStart => exact ⟨0, Nat.zero_le _, rfl, rfl, Below.refl _ _⟩
    case round =>
      obtain ⟨k, hk, rfl, hF, hb⟩ := hrel
      by_cases hlt : k < l.length
      · obtain ⟨ad, x, rfl, hx, x0, x1⟩ := capAt (Kd.C_below hr hb) k hlt
        have hX := Lib.hid hx
        clear hx
        have qn : ∀ W : World, Calls Try.prog 31 #[.string x.f0] W fun e w' => e = .returned (.bool (nameB x.f0)) ∧ w' = W := fun W => (impl_name_any _ W).mono fun _ _ h => ⟨h.1, h.2.symm⟩
        have qi : ∀ W : World, Calls Try.prog 32 #[.int .i64 x.f1, .int .i64 0, .int .i64 20] W fun e w' => e = .returned (.bool (inB x.f1 0 20)) ∧ w' = W := fun W => (impl_in_any _ _ _ W).mono fun _ _ h => ⟨h.1, h.2.symm⟩
        have QN := Lib.hid qn
        have QI := Lib.hid qi
        clear qn qi
        cases hn : nameB x.f0 with
        | false =>
          go_wp2
          go_quiet (first | (go_at_call 31; exact Calls.quiet_of_same (QN.out _)))
          go_wp2
          go_ret
          exact ⟨ret_bool (by rw [hB.out, ← hF.out, fromB_bad _ _ _ _ _ hX.out (by simp [capB, hn])]), pw_below_drewN (hb.alloc hb.size _) _⟩
        | true =>
        cases hi : inB x.f1 0 20 with
        | false =>
          go_wp2
          go_quiet (first | (go_at_call 31; exact Calls.quiet_of_same (QN.out _)) | (go_at_call 32; exact Calls.quiet_of_same (QI.out _)))
          go_wp2
          go_ret
          exact ⟨ret_bool (by rw [hB.out, ← hF.out, fromB_bad _ _ _ _ _ hX.out (by simp [capB, hn, hi])]), pw_below_drewN (hb.alloc hb.size _) _⟩
        | true =>
        by_cases hk0 : k = 0
        · have j1 : decide (0 < k) = false := decide_eq_false (by omega)
          have K0 := Lib.hid hk0
          clear hk0
          go_wp2
          go_quiet (first | (go_at_call 31; exact Calls.quiet_of_same (QN.out _)) | (go_at_call 32; exact Calls.quiet_of_same (QI.out _)))
          go_wp2
          go_roundw
          case rel => exact ⟨k + 1, by omega, by go_num, by show _ = _; rw [← hF.out, fromB_good0 _ _ _ _ _ K0.out hX.out (by simp [capB, hn, hi])], pw_below_drewN (hb.alloc hb.size _) _⟩
          case measure => simp [intOf]; omega
        · obtain ⟨k, rfl⟩ : ∃ j, k = j + 1 := ⟨k - 1, by omega⟩
          clear hk0
          obtain ⟨ad2, p, e2, hp, p0, p1⟩ := capAt (Kd.C_below hr hb) k (by omega)
          obtain rfl : ad = ad2 := by injection e2
          have HP := Lib.hid hp
          have p0 := cell_al p0
          clear hp e2
          have j1 : decide (0 < (k : Int) + 1) = true := decide_eq_true (by omega)
          have j2 : (k : Int) < l.length := by omega
          have j3 : IntKind.i64.wrap (k : Int) = k := IntWalk.i64_in _ (by omega)
          cases hle : lessB p.f0 x.f0 with
          | false =>
            have hl : Op.bytesLess p.f0.toList x.f0.toList = false := hle
            go_wp2
            go_quiet (first | (go_at_call 31; exact Calls.quiet_of_same (QN.out _)) | (go_at_call 32; exact Calls.quiet_of_same (QI.out _)))
            go_wp2
            go_ret
            exact ⟨ret_bool (by rw [hB.out, ← hF.out, fromB_bad2 _ _ _ _ _ _ HP.out hX.out hle]), pw_below_drewN (hb.alloc hb.size _) _⟩
          | true =>
            have hl : Op.bytesLess p.f0.toList x.f0.toList = true := hle
            go_wp2
            go_quiet (first | (go_at_call 31; exact Calls.quiet_of_same (QN.out _)) | (go_at_call 32; exact Calls.quiet_of_same (QI.out _)))
            go_wp2
            go_roundw
            case rel => exact ⟨k + 1 + 1, by omega, by go_num, by show _ = _; rw [← hF.out, fromB_good _ _ _ _ _ _ HP.out hX.out (by simp [capB, hn, hi]) hle], pw_below_drewN (hb.alloc hb.size _) _⟩
            case measure => simp [intOf]; omega
      · go_wp2
        go_ret
        obtain rfl : k = l.length := by omega
        exact ⟨ret_bool (by rw [hB.out, ← hF.out, fromB_end _ _ _ _ (Nat.le_refl _)]), hb⟩
end Go.Proofs.Ytgoepnbajpgkhaa.Q
