/- Contracts: slotsOk and FlowDelay, the program's and the reference's. -/
import Derived.Test.YteklmkoahhociaaA5
namespace Go.Proofs.Yteklmkoahhociaa.Q
open Go.RowKit Go.Proofs.YteklmkoahhociaaW.PrintWords Go.Proofs.Yteklmkoahhociaa.Core
set_option linter.unusedVariables false
set_option linter.unusedSimpArgs false

theorem intAt {w : World} {A : Option Addr} {xs : List Int} (h : Kd.C (Kd.int .i64) w A xs.length xs) (k : Nat) (hk : k < xs.length) :
    ∃ ad x, A = some ad ∧ xs[k]? = some x ∧ w.cell? (ad.add k) = some (.int .i64 x) := by
  obtain ⟨ad, c, e, _, hK, hc⟩ := Kd.C_get h 0 (k : Int) (by omega) (by omega)
  have h0 := hc 0 (.int .i64 (xs.getD (k : Int).toNat 0)) (by rw [show c = [Value.int .i64 (xs.getD (k : Int).toNat 0)] from hK]; rfl)
  refine ⟨ad, xs[k], e, List.getElem?_eq_getElem hk, ?_⟩
  have er : xs.getD (k : Int).toNat 0 = xs[k] := by rw [Int.toNat_natCast, List.getD_eq_getElem?_getD, List.getElem?_eq_getElem hk]; rfl
  rw [er] at h0
  have ea : (k : Int).toNat * (Kd.int .i64).sz + 0 = k := by show (k : Int).toNat * 1 + 0 = k; omega
  rw [ea] at h0
  exact h0

/-- The slots from place k on are in range. -/
def slotsFrom (l : List Int) (k : Nat) : Bool := (l.drop k).all fun s => inB s (-1) 10060
theorem slotsFrom_end (l : List Int) (k : Nat) (h : l.length ≤ k) : slotsFrom l k = true := by unfold slotsFrom; rw [List.drop_of_length_le h]; rfl
theorem slotsFrom_step (l : List Int) (k : Nat) (x : Int) (h : l[k]? = some x) : slotsFrom l k = (inB x (-1) 10060 && slotsFrom l (k + 1)) := by
  have hk : k < l.length := by
    rcases Nat.lt_or_ge k l.length with h1 | h1
    · exact h1
    · rw [List.getElem?_eq_none h1] at h; cases h
  unfold slotsFrom
  rw [List.drop_eq_getElem_cons hk, List.all_cons]
  rw [List.getElem?_eq_getElem hk] at h
  rw [Option.some.inj h]

set_option maxHeartbeats 2000000 in
theorem impl_slotsOk_any (A : Option Addr) (c : Nat) (l : List Flight) (A1 : Option Addr) (c1 : Nat) (s : List Int) (w : World) (hr : Kd.C k79 w A l.length l) (hr1 : Kd.C (Kd.int .i64) w A1 s.length s) :
    Calls Try.prog 65 #[.slice A l.length c, .slice A1 s.length c1] w fun e w' => e = .returned (.bool (slotsB l s)) ∧ Below w.heap.size w w' := by
  have hc1 := C_len hr1
  have hc0 := C_len hr
  have QF := Lib.hid (fun W hr => impl_flightsOk_any A c l W hr (C_len hr))
  cases hf : flightsB l with
  | false =>
    go_enter Try.func65, Try.ntmps65
    go_wp2_with (first | (go_at_call 23; refine (QF.out _ hr).mono ?_; rintro e w1 ⟨rfl, hb⟩))
    go_ret
    exact ⟨ret_bool (by simp [slotsB, hf]), hb⟩
  | true =>
  by_cases he : s.length = l.length
  · have hB : Hid (slotsB l s = slotsFrom s 0) := by show _ = _; simp [slotsB, hf, he, slotsFrom]
    have HE := Lib.hid he
    have e1 : (s.length != l.length) = false := by simp [he]
    have e2 : ((s.length : Int) != (l.length : Int)) = false := by simp [he]
    have e3 : (s.length == l.length) = true := by simp [he]
    clear he
    go_enter Try.func65, Try.ntmps65
    go_wp2_with (first | (go_at_call 23; refine (QF.out _ hr).mono ?_; rintro e w1 ⟨rfl, hb1⟩))
    go_loopw [19] (fun v wr => ∃ k : Nat, k ≤ s.length ∧ v = .int .i64 k ∧ Hid (slotsFrom s k = slotsFrom s 0) ∧ Below w.heap.size w wr) (fun v _ => s.length - (intOf v).toNat)
    case atStart => exact ⟨0, Nat.zero_le _, rfl, rfl, hb1⟩
    case round =>
      obtain ⟨k, hk, rfl, hF, hb⟩ := hrel
      by_cases hlt : k < s.length
      · obtain ⟨ad, x, rfl, hx, x0⟩ := intAt (Kd.C_below hr1 hb) k hlt
        have hX := Lib.hid (slotsFrom_step _ _ _ hx)
        clear hx
        cases hi : inB x (-1) 10060 with
        | false =>
          go_wp2_with (first | (go_at_call 57; refine (impl_in_any _ _ _ _).mono ?_; rintro e w' ⟨rfl, rfl⟩; rw [hi]))
          go_ret
          exact ⟨ret_bool (by rw [hB.out, ← hF.out, hX.out, hi]; rfl), hb⟩
        | true =>
          go_wp2_with (first | (go_at_call 57; refine (impl_in_any _ _ _ _).mono ?_; rintro e w' ⟨rfl, rfl⟩; rw [hi]))
          go_roundw
          case rel => exact ⟨k + 1, by omega, by go_num, by show _ = _; rw [← hF.out, hX.out, hi]; rfl, hb⟩
          case measure => simp [intOf]; omega
      · go_wp2
        go_ret
        obtain rfl : k = s.length := by omega
        exact ⟨ret_bool (by rw [hB.out, ← hF.out, slotsFrom_end _ _ (Nat.le_refl _)]), hb⟩
  · have e1 : (s.length != l.length) = true := by simpa using he
    have e2 : ((s.length : Int) != (l.length : Int)) = true := by simp; omega
    have e3 : (s.length == l.length) = false := by simpa using he
    go_enter Try.func65, Try.ntmps65
    go_wp2_with (first | (go_at_call 23; refine (QF.out _ hr).mono ?_; rintro e w1 ⟨rfl, hb⟩))
    go_ret
    exact ⟨ret_bool (by simp [slotsB, he]), hb⟩
set_option maxHeartbeats 2000000 in
theorem spec_slotsOk_any (A : Option Addr) (c : Nat) (l : List Flight) (A1 : Option Addr) (c1 : Nat) (s : List Int) (w : World) (hr : Kd.C k79 w A l.length l) (hr1 : Kd.C (Kd.int .i64) w A1 s.length s) :
    Calls Try.prog 64 #[.slice A l.length c, .slice A1 s.length c1] w fun e w' => e = .returned (.bool (slotsB l s)) ∧ Below w.heap.size w w' := by
  have hc1 := C_len hr1
  have hc0 := C_len hr
  have QF := Lib.hid (fun W hr => spec_flightsOk_any A c l W hr (C_len hr))
  cases hf : flightsB l with
  | false =>
    go_enter Try.func64, Try.ntmps64
    go_wp2_with (first | (go_at_call 21; refine (QF.out _ hr).mono ?_; rintro e w1 ⟨rfl, hb⟩))
    go_ret
    exact ⟨ret_bool (by simp [slotsB, hf]), hb⟩
  | true =>
  by_cases he : s.length = l.length
  · have hB : Hid (slotsB l s = slotsFrom s 0) := by show _ = _; simp [slotsB, hf, he, slotsFrom]
    have HE := Lib.hid he
    have e1 : (s.length != l.length) = false := by simp [he]
    have e2 : ((s.length : Int) != (l.length : Int)) = false := by simp [he]
    have e3 : (s.length == l.length) = true := by simp [he]
    clear he
    go_enter Try.func64, Try.ntmps64
    go_wp2_with (first | (go_at_call 21; refine (QF.out _ hr).mono ?_; rintro e w1 ⟨rfl, hb1⟩))
    go_loopw [5] (fun v wr => ∃ k : Nat, k ≤ s.length ∧ v = .int .i64 k ∧ Hid (slotsFrom s k = slotsFrom s 0) ∧ Below w.heap.size w wr) (fun v _ => s.length - (intOf v).toNat)
    case atStart => exact ⟨0, Nat.zero_le _, rfl, rfl, hb1⟩
    case round =>
      obtain ⟨k, hk, rfl, hF, hb⟩ := hrel
      by_cases hlt : k < s.length
      · obtain ⟨ad, x, rfl, hx, x0⟩ := intAt (Kd.C_below hr1 hb) k hlt
        have j4 : (k : Int) < s.length := by omega
        have hX := Lib.hid (slotsFrom_step _ _ _ hx)
        clear hx
        cases hi : inB x (-1) 10060 with
        | false =>
          go_wp2_with (first | (go_at_call 54; refine (spec_in_any _ _ _ _).mono ?_; rintro e w' ⟨rfl, rfl⟩; rw [hi]))
          go_ret
          exact ⟨ret_bool (by rw [hB.out, ← hF.out, hX.out, hi]; rfl), hb⟩
        | true =>
          go_wp2_with (first | (go_at_call 54; refine (spec_in_any _ _ _ _).mono ?_; rintro e w' ⟨rfl, rfl⟩; rw [hi]))
          go_roundw
          case rel => exact ⟨k + 1, by omega, by go_num, by show _ = _; rw [← hF.out, hX.out, hi]; rfl, hb⟩
          case measure => simp [intOf]; omega
      · go_wp2
        go_ret
        obtain rfl : k = s.length := by omega
        exact ⟨ret_bool (by rw [hB.out, ← hF.out, slotsFrom_end _ _ (Nat.le_refl _)]), hb⟩
  · have e1 : (s.length != l.length) = true := by simpa using he
    have e2 : ((s.length : Int) != (l.length : Int)) = true := by simp; omega
    have e3 : (s.length == l.length) = false := by simpa using he
    go_enter Try.func64, Try.ntmps64
    go_wp2_with (first | (go_at_call 21; refine (QF.out _ hr).mono ?_; rintro e w1 ⟨rfl, hb⟩))
    go_ret
    exact ⟨ret_bool (by simp [slotsB, he]), hb⟩
theorem ret_int {a b : Int} (h : a = b) : Ending.returned (.int .i64 a) = .returned (.int .i64 b) := by rw [h]
theorem delay_same {l : List Flight} {s : List Int} (h : slotsB l s = true) : delayN l s = delayTo l s s.length := by unfold delayN; rw [if_pos h, (slotsB_parts h).2.1]

set_option maxHeartbeats 2000000 in
theorem impl_delay_any (A : Option Addr) (c : Nat) (l : List Flight) (A1 : Option Addr) (c1 : Nat) (s : List Int) (w : World) (hr : Kd.C k79 w A l.length l) (hr1 : Kd.C (Kd.int .i64) w A1 s.length s) :
    Calls Try.prog 27 #[.slice A l.length c, .slice A1 s.length c1] w fun e w' => e = .returned (.int .i64 (delayN l s)) ∧ Below w.heap.size w w' := by
  have hc1 := C_len hr1
  have QS := Lib.hid (impl_slotsOk_any A c l A1 c1 s w hr hr1)
  cases hs : slotsB l s with
  | false =>
    go_enter Try.func27, Try.ntmps27
    go_wp2_with (first | (go_at_call 65; refine QS.out.mono ?_; rintro e w1 ⟨rfl, hb⟩))
    go_ret
    exact ⟨ret_int (by simp [delayN, hs]), hb⟩
  | true =>
    have hlen : s.length = l.length := (slotsB_parts hs).2.1
    have hl8 : l.length ≤ 8 := (flightsB_parts (slotsB_parts hs).1).1
    have HL := Lib.hid hlen
    have hl8' : s.length ≤ 8 := by omega
    clear hlen
    go_enter Try.func27, Try.ntmps27
    go_wp2_with (first | (go_at_call 65; refine QS.out.mono ?_; rintro e w1 ⟨rfl, hb⟩))
    have HS := Lib.hid hs
    clear hs
    go_loopw [5, 14] (fun n v wr => ∃ (k : Nat) (m : Int), k ≤ s.length ∧ v = .int .i64 k ∧ n = .int .i64 m ∧ -(10000 * k) ≤ m ∧ m ≤ 10060 * k ∧ Hid (m = delayTo l s k) ∧ Below w.heap.size w wr) (fun _ v _ => s.length - (intOf v).toNat)
    case atStart => exact ⟨0, 0, Nat.zero_le _, rfl, rfl, by omega, by omega, rfl, hb⟩
    case round =>
      obtain ⟨k, m, hk, rfl, rfl, m1, m2, hF, hb⟩ := hrel
      by_cases hlt : k < s.length
      · obtain ⟨ad, x, rfl, hx, x0⟩ := intAt (Kd.C_below hr1 hb) k hlt
        obtain ⟨ad2, f, A3, c3, rfl, hf, f0, f1, f2, f3, _, _⟩ := flightAt (Kd.C_below hr hb) k (by rw [← HL.out]; exact hlt)
        have hX := Lib.hid (delayTo_step hf hx)
        obtain ⟨b1, b2, b3, b4⟩ := slotsB_at HS.out hf hx
        have j5 : (k : Int) < l.length := by rw [← HL.out]; omega
        clear hx hf f0 f2 f3
        by_cases hi : x = -1
        · have e1 : (x != -1) = false := by simp [hi]
          have HI := Lib.hid hi
          clear hi
          go_wp2
          go_roundw
          case rel => exact ⟨k + 1, m, by omega, by go_num, rfl, by omega, by omega, by show _ = _; rw [hX.out, ← hF.out, HI.out]; simp [delayOf], hb⟩
          case measure => simp [intOf]; omega
        · have e1 : (x != -1) = true := by simp [hi]
          have hx0 : 0 ≤ x := by omega
          clear hi
          go_wp2
          go_roundw
          case rel => exact ⟨k + 1, m + (x - f.f1), by omega, by go_num, by go_num, by omega, by omega, by show _ = _; rw [hX.out, ← hF.out, delayOf, if_pos hx0], hb⟩
          case measure => simp [intOf]; omega
      · go_wp2
        go_ret
        obtain rfl : k = s.length := by omega
        exact ⟨ret_int (by rw [delay_same HS.out, hF.out]), hb⟩

set_option maxHeartbeats 2000000 in
theorem spec_delay_any (A : Option Addr) (c : Nat) (l : List Flight) (A1 : Option Addr) (c1 : Nat) (s : List Int) (w : World) (hr : Kd.C k79 w A l.length l) (hr1 : Kd.C (Kd.int .i64) w A1 s.length s) :
    Calls Try.prog 25 #[.slice A l.length c, .slice A1 s.length c1] w fun e w' => e = .returned (.int .i64 (delayN l s)) ∧ Below w.heap.size w w' := by
  have hc1 := C_len hr1
  have QS := Lib.hid (spec_slotsOk_any A c l A1 c1 s w hr hr1)
  cases hs : slotsB l s with
  | false =>
    go_enter Try.func25, Try.ntmps25
    go_wp2_with (first | (go_at_call 64; refine QS.out.mono ?_; rintro e w1 ⟨rfl, hb⟩))
    go_ret
    exact ⟨ret_int (by simp [delayN, hs]), hb⟩
  | true =>
    have hlen : s.length = l.length := (slotsB_parts hs).2.1
    have hl8 : l.length ≤ 8 := (flightsB_parts (slotsB_parts hs).1).1
    have HL := Lib.hid hlen
    clear hlen
    go_enter Try.func25, Try.ntmps25
    go_wp2_with (first | (go_at_call 64; refine QS.out.mono ?_; rintro e w1 ⟨rfl, hb⟩))
    have HS := Lib.hid hs
    clear hs
    go_loopw [5, 6] (fun n v wr => ∃ (k : Nat) (m : Int), k ≤ l.length ∧ v = .int .i64 k ∧ n = .int .i64 m ∧ -(10000 * k) ≤ m ∧ m ≤ 10060 * k ∧ Hid (m = delayTo l s k) ∧ Below w.heap.size w wr) (fun _ v _ => l.length - (intOf v).toNat)
    case atStart => exact ⟨0, 0, Nat.zero_le _, rfl, rfl, by omega, by omega, rfl, hb⟩
    case round =>
      obtain ⟨k, m, hk, rfl, rfl, m1, m2, hF, hb⟩ := hrel
      by_cases hlt : k < l.length
      · obtain ⟨ad, x, rfl, hx, x0⟩ := intAt (Kd.C_below hr1 hb) k (by rw [HL.out]; exact hlt)
        obtain ⟨ad2, f, A3, c3, rfl, hf, f0, f1, f2, f3, _, _⟩ := flightAt (Kd.C_below hr hb) k hlt
        have hX := Lib.hid (delayTo_step hf hx)
        obtain ⟨b1, b2, b3, b4⟩ := slotsB_at HS.out hf hx
        have j4 : (k : Int) < l.length := by omega
        have j5 : (k : Int) < s.length := by rw [HL.out]; omega
        clear hx hf f0 f2 f3
        by_cases hi : 0 ≤ x
        · have e1 : decide (0 ≤ x) = true := decide_eq_true hi
          have j6 : IntKind.i64.wrap (m + x) = m + x := IntWalk.i64_in _ (by omega)
          have j7 : IntKind.i64.wrap (m + x - f.f1) = m + x - f.f1 := IntWalk.i64_in _ (by omega)
          go_wp2
          go_quiet (fail)
          go_wp2
          go_roundw
          case rel => exact ⟨k + 1, m + x - f.f1, by omega, by go_num, rfl, by omega, by omega, by show _ = _; rw [hX.out, ← hF.out, delayOf, if_pos hi]; omega, pw_below_drewN hb _⟩
          case measure => simp [intOf]; omega
        · have e1 : decide (0 ≤ x) = false := decide_eq_false hi
          go_wp2
          go_roundw
          case rel => exact ⟨k + 1, m, by omega, by go_num, rfl, by omega, by omega, by show _ = _; rw [hX.out, ← hF.out, delayOf, if_neg hi]; omega, hb⟩
          case measure => simp [intOf]; omega
      · go_wp2
        go_ret
        obtain rfl : k = l.length := by omega
        exact ⟨ret_int (by rw [delay_same HS.out, HL.out, hF.out]), hb⟩
end Go.Proofs.Yteklmkoahhociaa.Q
