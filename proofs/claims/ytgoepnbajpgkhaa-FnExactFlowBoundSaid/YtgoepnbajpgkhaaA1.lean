/- Contracts of the small checks: in, name (the program's and the reference's). -/
import Derived.Test.YtgoepnbajpgkhaaCore
import Derived.Test.YtgoepnbajpgkhaaK
import Derived.Lib.Hide
namespace Go.Proofs.Ytgoepnbajpgkhaa.Q
open Go.RowKit Go.Proofs.YtgoepnbajpgkhaaW.PrintWords Go.Proofs.Ytgoepnbajpgkhaa.Core
set_option linter.unusedVariables false
set_option linter.unusedSimpArgs false

theorem inB_true {n lo hi : Int} (h : lo ≤ n ∧ n ≤ hi) : inB n lo hi = true := by simp [inB, h.1, h.2]
theorem inB_false {n lo hi : Int} (h : ¬ (lo ≤ n ∧ n ≤ hi)) : inB n lo hi = false := by
  cases e : inB n lo hi with
  | false => rfl
  | true => exact absurd (by simpa [inB] using e) h

theorem impl_in_any (a b c : Int) (w : World) : Calls Try.prog 32 #[.int .i64 a, .int .i64 b, .int .i64 c] w fun e w' => e = .returned (.bool (inB a b c)) ∧ w = w' := by
  by_cases h : b ≤ a
  · have h1 : decide (b ≤ a) = true := decide_eq_true h
    go_enter Try.func32, Try.ntmps32
    go_wp2
    go_ret
    exact ⟨by simp [inB, h1], rfl⟩
  · have h1 : decide (b ≤ a) = false := decide_eq_false h
    go_enter Try.func32, Try.ntmps32
    go_wp2
    go_ret
    exact ⟨by simp [inB, h1], rfl⟩
theorem spec_in_any (a b c : Int) (w : World) : Calls Try.prog 27 #[.int .i64 a, .int .i64 b, .int .i64 c] w fun e w' => e = .returned (.bool (inB a b c)) ∧ w = w' := by
  by_cases h : b ≤ a
  · have h1 : decide (b ≤ a) = true := decide_eq_true h
    go_enter Try.func27, Try.ntmps27
    go_wp2
    go_ret
    exact ⟨by simp [inB, h1], rfl⟩
  · have h1 : decide (b ≤ a) = false := decide_eq_false h
    go_enter Try.func27, Try.ntmps27
    go_wp2
    go_ret
    exact ⟨by simp [inB, h1], rfl⟩

theorem ret_bool {a b : Bool} (h : a = b) : Ending.returned (.bool a) = .returned (.bool b) := by rw [h]

/-- The bytes from place k on are ok. -/
def nameFrom (s : ByteArray) (k : Nat) : Bool := (s.data.toList.drop k).all fun c => okByte c.toNat
theorem nameFrom_end (s : ByteArray) : nameFrom s s.size = true := by
  unfold nameFrom
  rw [List.drop_of_length_le (by simp)]
  rfl
theorem nameFrom_step (s : ByteArray) (k : Nat) (h : k < s.size) : nameFrom s k = (okByte (bt s k) && nameFrom s (k + 1)) := by
  unfold nameFrom
  have hl : k < s.data.toList.length := by simpa using h
  rw [List.drop_eq_getElem_cons hl, List.all_cons]
  have e : bt s (k : Int) = ((s.data.toList[k]).toNat : Int) := by
    unfold bt
    rw [dif_pos (show (k : Int).toNat < s.size from h)]
    rfl
  rw [e]
theorem nameB_from {s : ByteArray} (h : inB s.size 1 8 = true) : nameB s = nameFrom s 0 := by unfold nameB nameFrom; rw [h, List.drop_zero, Bool.true_and]

/-- The ways through the test of a byte, as the walk asks them. -/
theorem byte_cases (c : Int) : (decide (97 ≤ c) = true ∧ decide (c ≤ 122) = true ∧ Hid (okByte c = true)) ∨
    (decide (97 ≤ c) = true ∧ decide (c ≤ 122) = false ∧ decide (48 ≤ c) = true ∧ decide (c ≤ 57) = false ∧ (c == 45) = false ∧ Hid (okByte c = false)) ∨
    (decide (97 ≤ c) = false ∧ decide (48 ≤ c) = true ∧ decide (c ≤ 57) = true ∧ Hid (okByte c = true)) ∨
    (decide (97 ≤ c) = false ∧ decide (48 ≤ c) = true ∧ decide (c ≤ 57) = false ∧ (c == 45) = false ∧ Hid (okByte c = false)) ∨
    (decide (97 ≤ c) = false ∧ decide (48 ≤ c) = false ∧ (c == 45) = true ∧ Hid (okByte c = true)) ∨
    (decide (97 ≤ c) = false ∧ decide (48 ≤ c) = false ∧ (c == 45) = false ∧ Hid (okByte c = false)) := by
  unfold Hid okByte
  by_cases a : 97 ≤ c <;> by_cases b : c ≤ 122 <;> by_cases d : 48 ≤ c <;> by_cases e : c ≤ 57 <;> by_cases f : c = 45 <;> simp [a, b, d, e, f] <;> omega

set_option maxHeartbeats 1000000 in
theorem impl_name_any (s : ByteArray) (w : World) : Calls Try.prog 31 #[.string s] w fun e w' => e = .returned (.bool (nameB s)) ∧ w = w' := by
  cases hi : inB s.size 1 8 with
  | false =>
    have HI := Lib.hid hi
    clear hi
    go_enter Try.func31, Try.ntmps31
    go_wp2_with (go_at_call 32; refine (impl_in_any _ _ _ _).mono ?_; rintro e w' ⟨rfl, rfl⟩; rw [HI.out])
    go_ret
    exact ⟨by simp [nameB, HI.out], rfl⟩
  | true =>
    have hs : s.size ≤ 8 := by have := (by simpa [inB] using hi : 1 ≤ (s.size : Int) ∧ (s.size : Int) ≤ 8); omega
    have HI := Lib.hid hi
    clear hi
    go_enter Try.func31, Try.ntmps31
    go_wp2_with (go_at_call 32; refine (impl_in_any _ _ _ _).mono ?_; rintro e w' ⟨rfl, rfl⟩; rw [HI.out])
    go_loop [3] (fun v => ∃ k : Nat, k ≤ s.size ∧ v = .int .i64 k ∧ Hid (nameFrom s k = nameFrom s 0)) (fun v => s.size - (intOf v).toNat)
    case atStart => exact ⟨0, Nat.zero_le _, rfl, rfl⟩
    case round =>
      obtain ⟨k, hk, rfl, hN⟩ := hrel
      by_cases hlt : k < s.size
      · have hst := Lib.hid (nameFrom_step s k hlt)
        have hb := Lib.hid (bt_at s k hlt)
        have bc := byte_cases ((s[k]'hlt).toNat : Int)
        rcases bc with ⟨c1, c2, ho⟩ | ⟨c1, c2, c3, c4, c5, ho⟩ | ⟨c1, c2, c3, ho⟩ | ⟨c1, c2, c3, c4, ho⟩ | ⟨c1, c2, c3, ho⟩ | ⟨c1, c2, c3, ho⟩
        all_goals
          go_wp2
          first
          | (go_ret; exact ⟨ret_bool (by rw [nameB_from HI.out, ← hN.out, hst.out, ← hb.out]; exact (congrArg (· && _) ho.out).symm), rfl⟩)
          | (go_round
             case rel => exact ⟨k + 1, by omega, by go_num, by show _ = _; rw [← hN.out, hst.out, ← hb.out]; exact (congrArg (· && _) ho.out).symm⟩
             case measure => simp [intOf]; omega)
      · go_wp2
        go_ret
        obtain rfl : k = s.size := by omega
        exact ⟨ret_bool (by rw [nameB_from HI.out, ← hN.out, nameFrom_end]), rfl⟩
set_option maxHeartbeats 1000000 in
theorem spec_name_any (s : ByteArray) (w : World) : Calls Try.prog 26 #[.string s] w fun e w' => e = .returned (.bool (nameB s)) ∧ w = w' := by
  cases hi : inB s.size 1 8 with
  | false =>
    have HI := Lib.hid hi
    clear hi
    go_enter Try.func26, Try.ntmps26
    go_wp2_with (go_at_call 27; refine (spec_in_any _ _ _ _).mono ?_; rintro e w' ⟨rfl, rfl⟩; rw [HI.out])
    go_ret
    exact ⟨by simp [nameB, HI.out], rfl⟩
  | true =>
    have hs : s.size ≤ 8 := by have := (by simpa [inB] using hi : 1 ≤ (s.size : Int) ∧ (s.size : Int) ≤ 8); omega
    have HI := Lib.hid hi
    clear hi
    go_enter Try.func26, Try.ntmps26
    go_wp2_with (go_at_call 27; refine (spec_in_any _ _ _ _).mono ?_; rintro e w' ⟨rfl, rfl⟩; rw [HI.out])
    go_loop [3] (fun v => ∃ k : Nat, k ≤ s.size ∧ v = .int .i64 k ∧ Hid (nameFrom s k = nameFrom s 0)) (fun v => s.size - (intOf v).toNat)
    case atStart => exact ⟨0, Nat.zero_le _, rfl, rfl⟩
    case round =>
      obtain ⟨k, hk, rfl, hN⟩ := hrel
      by_cases hlt : k < s.size
      · have hst := Lib.hid (nameFrom_step s k hlt)
        have hb := Lib.hid (bt_at s k hlt)
        have bc := byte_cases ((s[k]'hlt).toNat : Int)
        rcases bc with ⟨c1, c2, ho⟩ | ⟨c1, c2, c3, c4, c5, ho⟩ | ⟨c1, c2, c3, ho⟩ | ⟨c1, c2, c3, c4, ho⟩ | ⟨c1, c2, c3, ho⟩ | ⟨c1, c2, c3, ho⟩
        all_goals
          go_wp2
          first
          | (go_ret; exact ⟨ret_bool (by rw [nameB_from HI.out, ← hN.out, hst.out, ← hb.out]; exact (congrArg (· && _) ho.out).symm), rfl⟩)
          | (go_round
             case rel => exact ⟨k + 1, by omega, by go_num, by show _ = _; rw [← hN.out, hst.out, ← hb.out]; exact (congrArg (· && _) ho.out).symm⟩
             case measure => simp [intOf]; omega)
      · go_wp2
        go_ret
        obtain rfl : k = s.size := by omega
        exact ⟨ret_bool (by rw [nameB_from HI.out, ← hN.out, nameFrom_end]), rfl⟩
end Go.Proofs.Ytgoepnbajpgkhaa.Q
