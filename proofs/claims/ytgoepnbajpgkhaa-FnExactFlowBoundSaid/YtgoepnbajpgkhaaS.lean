/- Contracts: the laws' sizes of what comes in. -/
import Derived.Test.YtgoepnbajpgkhaaA6
namespace Go.Proofs.Ytgoepnbajpgkhaa.Q
open Go.RowKit Go.Proofs.YtgoepnbajpgkhaaW.PrintWords Go.Proofs.Ytgoepnbajpgkhaa.Core
set_option linter.unusedVariables false
set_option linter.unusedSimpArgs false

def maxS : Nat := 9223372036854775807
/-- What is left of a measure, -1 if it is used up. -/
def subN (left : Int) (n : Nat) : Int := if left < n then -1 else left - n
theorem subN_neg {left : Int} {n : Nat} (h : left < n) : subN left n = -1 := if_pos h
theorem subN_pos {left : Int} {n : Nat} (h : ¬ left < n) : subN left n = left - n := if_neg h
def wV (v : Visit) : Nat := v.f0.size
def wC (c : Cap) : Nat := c.f0.size
def wL {α : Type} (w : α → Nat) (l : List α) : Nat := l.length + (l.map w).sum
def wTo {α : Type} (w : α → Nat) (l : List α) (k : Nat) : Nat := l.length + ((l.take k).map w).sum
def wF (f : Flight) : Nat := f.f0.size + wL wV f.f3
theorem wTo_zero {α : Type} (w : α → Nat) (l : List α) : wTo w l 0 = l.length := rfl
theorem wTo_end {α : Type} (w : α → Nat) (l : List α) : wTo w l l.length = wL w l := by unfold wTo wL; rw [List.take_length]
theorem wTo_step {α : Type} (w : α → Nat) (l : List α) (k : Nat) (x : α) (h : l[k]? = some x) : wTo w l (k + 1) = wTo w l k + w x := by
  unfold wTo
  rw [List.take_add_one, h]
  simp; omega
theorem wTo_le {α : Type} (w : α → Nat) (l : List α) (k : Nat) : wTo w l k ≤ wL w l := by
  unfold wTo wL
  have h := List.take_append_drop k l
  have h2 : (l.map w).sum = ((l.take k).map w).sum + ((l.drop k).map w).sum := by rw [← List.sum_append, ← List.map_append, h]
  omega
def smallV (v : Visit) : Prop := v.f0.size ≤ maxS
def smallC (c : Cap) : Prop := c.f0.size ≤ maxS
def smallF (f : Flight) : Prop := f.f0.size ≤ maxS ∧ ∀ v ∈ f.f3, smallV v

theorem lvisitAt {w : World} {A : Option Addr} {xs : List Visit} (h : Kd.C k66 w A xs.length xs) (k : Nat) (hk : k < xs.length) :
    ∃ ad c, A = some ad ∧ xs[k]? = some c ∧ w.cell? (ad.add (k * 3)) = some (.string c.f0) ∧ w.cell? ⟨(ad.add (k * 3)).block, (ad.add (k * 3)).off + 1, none⟩ = some (.int .i64 c.f1) ∧
      w.cell? ⟨(ad.add (k * 3)).block, (ad.add (k * 3)).off + 2, none⟩ = some (.int .i64 c.f2) := by
  obtain ⟨ad, e, h0, h1, h2⟩ := at_T66 h k (by omega) (by omega)
  have er : rd_T66 xs k = xs[k] := by
    unfold rd_T66
    rw [Int.toNat_natCast, List.getD_eq_getElem?_getD, List.getElem?_eq_getElem hk]
    rfl
  rw [er] at h0 h1 h2
  exact ⟨ad, xs[k], e, List.getElem?_eq_getElem hk, h0, h1, h2⟩
theorem lcapAt {w : World} {A : Option Addr} {xs : List Cap} (h : Kd.C k36 w A xs.length xs) (k : Nat) (hk : k < xs.length) :
    ∃ ad c, A = some ad ∧ xs[k]? = some c ∧ w.cell? (ad.add (k * 2)) = some (.string c.f0) ∧ w.cell? ⟨(ad.add (k * 2)).block, (ad.add (k * 2)).off + 1, none⟩ = some (.int .i64 c.f1) := by
  obtain ⟨ad, e, h0, h1⟩ := at_T36 h k (by omega) (by omega)
  have er : rd_T36 xs k = xs[k] := by
    unfold rd_T36
    rw [Int.toNat_natCast, List.getD_eq_getElem?_getD, List.getElem?_eq_getElem hk]
    rfl
  rw [er] at h0 h1
  exact ⟨ad, xs[k], e, List.getElem?_eq_getElem hk, h0, h1⟩
theorem lflightAt {w : World} {A : Option Addr} {xs : List Flight} (h : Kd.C k40 w A xs.length xs) (k : Nat) (hk : k < xs.length) :
    ∃ ad x A3 c3, A = some ad ∧ xs[k]? = some x ∧ w.cell? (ad.add (k * 4)) = some (.string x.f0) ∧ w.cell? ⟨(ad.add (k * 4)).block, (ad.add (k * 4)).off + 1, none⟩ = some (.int .i64 x.f1) ∧
      w.cell? ⟨(ad.add (k * 4)).block, (ad.add (k * 4)).off + 2, none⟩ = some (.int .i64 x.f2) ∧ w.cell? ⟨(ad.add (k * 4)).block, (ad.add (k * 4)).off + 3, none⟩ = some (.slice A3 x.f3.length c3) ∧
      x.f3.length ≤ c3 ∧ Kd.C k66 w A3 x.f3.length x.f3 := by
  obtain ⟨ad, A3, c3, e, h0, h1, h2, h3, h4, h5⟩ := at_T40 h k (by omega) (by omega)
  have er : rd_T40 xs k = xs[k] := by
    unfold rd_T40
    rw [Int.toNat_natCast, List.getD_eq_getElem?_getD, List.getElem?_eq_getElem hk]
    rfl
  rw [er] at h0 h1 h2 h3 h4 h5
  exact ⟨ad, xs[k], A3, c3, e, List.getElem?_eq_getElem hk, h0, h1, h2, h3, h4, h5⟩

theorem sz_visit_any (f0 : ByteArray) (f1 f2 : Int) (left : Int) (w : World) (h0 : 0 ≤ left) (h1 : left ≤ 1048576) (hs : f0.size ≤ 9223372036854775807) :
    Calls Try.prog 36 #[.agg #[.string f0, .int .i64 f1, .int .i64 f2], .int .i64 left] w fun e w' => e = .returned (.int .i64 (subN left (wV ⟨f0, f1, f2⟩))) ∧ Below w.heap.size w w' := by
  by_cases h : left < f0.size
  · have e1 : decide (left - (f0.size : Int) < 0) = true := decide_eq_true (by omega)
    have e2 : decide (left < (f0.size : Int)) = true := decide_eq_true h
    go_enter Try.func36, Try.ntmps36
    go_wp2
    go_ret
    exact ⟨ret_int (subN_neg (n := f0.size) h).symm, (Below.refl _ _).alloc (Nat.le_refl _) _⟩
  · have e1 : decide (left - (f0.size : Int) < 0) = false := decide_eq_false (by omega)
    have e2 : decide (left < (f0.size : Int)) = false := decide_eq_false h
    go_enter Try.func36, Try.ntmps36
    go_wp2
    go_ret
    exact ⟨ret_int (subN_pos (n := f0.size) (by omega)).symm, (Below.refl _ _).alloc (Nat.le_refl _) _⟩

theorem sz_cap_any (f0 : ByteArray) (f1 : Int) (left : Int) (w : World) (h0 : 0 ≤ left) (h1 : left ≤ 1048576) (hs : f0.size ≤ 9223372036854775807) :
    Calls Try.prog 12 #[.agg #[.string f0, .int .i64 f1], .int .i64 left] w fun e w' => e = .returned (.int .i64 (subN left (wC ⟨f0, f1⟩))) ∧ Below w.heap.size w w' := by
  by_cases h : left < f0.size
  · have e1 : decide (left - (f0.size : Int) < 0) = true := decide_eq_true (by omega)
    have e2 : decide (left < (f0.size : Int)) = true := decide_eq_true h
    go_enter Try.func12, Try.ntmps12
    go_wp2
    go_ret
    exact ⟨ret_int (subN_neg (n := f0.size) h).symm, (Below.refl _ _).alloc (Nat.le_refl _) _⟩
  · have e1 : decide (left - (f0.size : Int) < 0) = false := decide_eq_false (by omega)
    have e2 : decide (left < (f0.size : Int)) = false := decide_eq_false h
    go_enter Try.func12, Try.ntmps12
    go_wp2
    go_ret
    exact ⟨ret_int (subN_pos (n := f0.size) (by omega)).symm, (Below.refl _ _).alloc (Nat.le_refl _) _⟩

set_option maxHeartbeats 2000000 in
theorem sz_visits_any (A : Option Addr) (c : Nat) (l : List Visit) (left : Int) (w : World) (hr : Kd.C k66 w A l.length l) (h0 : 0 ≤ left) (h1 : left ≤ 1048576) (hs : ∀ x ∈ l, smallV x) :
    Calls Try.prog 25 #[.slice A l.length c, .int .i64 left] w fun e w' => e = .returned (.int .i64 (subN left (wL wV l))) ∧ Below w.heap.size w w' := by
  have hc := C_len hr
  have hw0 : l.length ≤ wL wV l := by have := wTo_le wV l 0; rwa [wTo_zero] at this
  by_cases h : left < l.length
  · have e1 : decide (left - (l.length : Int) < 0) = true := decide_eq_true (by omega)
    have e2 : decide (left < (l.length : Int)) = true := decide_eq_true h
    go_enter Try.func25, Try.ntmps25
    go_wp2
    go_ret
    exact ⟨ret_int (by rw [subN_neg (by omega)]), Below.refl _ _⟩
  · have e1 : decide (left - (l.length : Int) < 0) = false := decide_eq_false (by omega)
    have e2 : decide (left < (l.length : Int)) = false := decide_eq_false h
    have HW0 := Lib.hid hw0
    clear hw0
    go_enter Try.func25, Try.ntmps25
    go_wp2
    go_loopw [1, 5] (fun a v wr => ∃ (k : Nat) (m : Int), k ≤ l.length ∧ v = .int .i64 k ∧ a = .int .i64 m ∧ 0 ≤ m ∧ m ≤ left ∧ Hid (m = left - wTo wV l k) ∧ Below w.heap.size w wr) (fun _ v _ => l.length - (intOf v).toNat)
    case atStart => exact ⟨0, left - l.length, Nat.zero_le _, rfl, rfl, by omega, by omega, by show _ = _; rw [wTo_zero], Below.refl _ _⟩
    case round =>
      obtain ⟨k, m, hk, rfl, rfl, m0, m1, hM, hb⟩ := hrel
      by_cases hlt : k < l.length
      · obtain ⟨ad, x, rfl, hx, x0, x1, x2⟩ := lvisitAt (Kd.C_below hr hb) k hlt
        have hX := Lib.hid (wTo_step wV _ _ _ hx)
        have hsm := hs x (List.mem_of_getElem? hx)
        have hT := Lib.hid (wTo_le wV l (k + 1))
        have j4 : (k : Int) < l.length := by omega
        have SM := Lib.hid hsm
        clear hx hsm
        have QC := Lib.hid (fun W => sz_visit_any x.f0 x.f1 x.f2 m W m0 (by omega) SM.out)
        by_cases hn : m < wV x
        · have HN := Lib.hid (subN_neg hn)
          go_wp2_with (first | (go_at_call 36; refine (QC.out _).mono ?_; rintro e w' ⟨rfl, hb2⟩; rw [HN.out]))
          go_ret
          exact ⟨ret_int (by rw [subN_neg]; have h1 := hM.out; have h2 := hX.out; have h3 := hT.out; omega), below_next hb hb.size hb2⟩
        · have HN := Lib.hid (subN_pos hn)
          have n1 : decide (m - (wV x : Int) < 0) = false := decide_eq_false (by omega)
          have n2 : decide (m < (wV x : Int)) = false := decide_eq_false hn
          go_wp2_with (first | (go_at_call 36; refine (QC.out _).mono ?_; rintro e w' ⟨rfl, hb2⟩; rw [HN.out]))
          go_roundw
          case rel => exact ⟨k + 1, m - wV x, by omega, by go_num, by go_num, by omega, by omega, by show _ = _; rw [hX.out, hM.out]; omega, below_next hb hb.size hb2⟩
          case measure => simp [intOf]; omega
      · go_wp2
        go_ret
        obtain rfl : k = l.length := by omega
        exact ⟨ret_int (by have h1 := hM.out; rw [wTo_end] at h1; rw [subN_pos (by omega), h1]), hb⟩

set_option maxHeartbeats 2000000 in
theorem sz_caps_any (A : Option Addr) (c : Nat) (l : List Cap) (left : Int) (w : World) (hr : Kd.C k36 w A l.length l) (h0 : 0 ≤ left) (h1 : left ≤ 1048576) (hs : ∀ x ∈ l, smallC x) :
    Calls Try.prog 4 #[.slice A l.length c, .int .i64 left] w fun e w' => e = .returned (.int .i64 (subN left (wL wC l))) ∧ Below w.heap.size w w' := by
  have hc := C_len hr
  have hw0 : l.length ≤ wL wC l := by have := wTo_le wC l 0; rwa [wTo_zero] at this
  by_cases h : left < l.length
  · have e1 : decide (left - (l.length : Int) < 0) = true := decide_eq_true (by omega)
    have e2 : decide (left < (l.length : Int)) = true := decide_eq_true h
    go_enter Try.func4, Try.ntmps4
    go_wp2
    go_ret
    exact ⟨ret_int (by rw [subN_neg (by omega)]), Below.refl _ _⟩
  · have e1 : decide (left - (l.length : Int) < 0) = false := decide_eq_false (by omega)
    have e2 : decide (left < (l.length : Int)) = false := decide_eq_false h
    have HW0 := Lib.hid hw0
    clear hw0
    go_enter Try.func4, Try.ntmps4
    go_wp2
    go_loopw [1, 5] (fun a v wr => ∃ (k : Nat) (m : Int), k ≤ l.length ∧ v = .int .i64 k ∧ a = .int .i64 m ∧ 0 ≤ m ∧ m ≤ left ∧ Hid (m = left - wTo wC l k) ∧ Below w.heap.size w wr) (fun _ v _ => l.length - (intOf v).toNat)
    case atStart => exact ⟨0, left - l.length, Nat.zero_le _, rfl, rfl, by omega, by omega, by show _ = _; rw [wTo_zero], Below.refl _ _⟩
    case round =>
      obtain ⟨k, m, hk, rfl, rfl, m0, m1, hM, hb⟩ := hrel
      by_cases hlt : k < l.length
      · obtain ⟨ad, x, rfl, hx, x0, x1⟩ := lcapAt (Kd.C_below hr hb) k hlt
        have hX := Lib.hid (wTo_step wC _ _ _ hx)
        have hsm := hs x (List.mem_of_getElem? hx)
        have hT := Lib.hid (wTo_le wC l (k + 1))
        have j4 : (k : Int) < l.length := by omega
        have SM := Lib.hid hsm
        clear hx hsm
        have QC := Lib.hid (fun W => sz_cap_any x.f0 x.f1 m W m0 (by omega) SM.out)
        by_cases hn : m < wC x
        · have HN := Lib.hid (subN_neg hn)
          go_wp2_with (first | (go_at_call 12; refine (QC.out _).mono ?_; rintro e w' ⟨rfl, hb2⟩; rw [HN.out]))
          go_ret
          exact ⟨ret_int (by rw [subN_neg]; have h1 := hM.out; have h2 := hX.out; have h3 := hT.out; omega), below_next hb hb.size hb2⟩
        · have HN := Lib.hid (subN_pos hn)
          have n1 : decide (m - (wC x : Int) < 0) = false := decide_eq_false (by omega)
          have n2 : decide (m < (wC x : Int)) = false := decide_eq_false hn
          go_wp2_with (first | (go_at_call 12; refine (QC.out _).mono ?_; rintro e w' ⟨rfl, hb2⟩; rw [HN.out]))
          go_roundw
          case rel => exact ⟨k + 1, m - wC x, by omega, by go_num, by go_num, by omega, by omega, by show _ = _; rw [hX.out, hM.out]; omega, below_next hb hb.size hb2⟩
          case measure => simp [intOf]; omega
      · go_wp2
        go_ret
        obtain rfl : k = l.length := by omega
        exact ⟨ret_int (by have h1 := hM.out; rw [wTo_end] at h1; rw [subN_pos (by omega), h1]), hb⟩

set_option maxHeartbeats 2000000 in
theorem sz_flight_any (A : Option Addr) (c : Nat) (f0 : ByteArray) (f1 f2 : Int) (l : List Visit) (left : Int) (w : World) (hr : Kd.C k66 w A l.length l) (h0 : 0 ≤ left) (h1 : left ≤ 1048576) (hs : f0.size ≤ 9223372036854775807) (hv : ∀ x ∈ l, smallV x) :
    Calls Try.prog 13 #[.agg #[.string f0, .int .i64 f1, .int .i64 f2, .slice A l.length c], .int .i64 left] w fun e w' => e = .returned (.int .i64 (subN left (wF ⟨f0, f1, f2, l⟩))) ∧ Below w.heap.size w w' := by
  have hW : wF ⟨f0, f1, f2, l⟩ = f0.size + wL wV l := rfl
  have HW := Lib.hid hW
  clear hW
  have HV := Lib.hid hv
  clear hv
  by_cases h : left < f0.size
  · have e1 : decide (left - (f0.size : Int) < 0) = true := decide_eq_true (by omega)
    have e2 : decide (left < (f0.size : Int)) = true := decide_eq_true h
    go_enter Try.func13, Try.ntmps13
    go_wp2
    go_ret
    exact ⟨ret_int (by rw [HW.out, subN_neg (by omega)]), (Below.refl _ _).alloc (Nat.le_refl _) _⟩
  · have e1 : decide (left - (f0.size : Int) < 0) = false := decide_eq_false (by omega)
    have e2 : decide (left < (f0.size : Int)) = false := decide_eq_false h
    have QC := Lib.hid (fun W hr => sz_visits_any A c l (left - f0.size) W hr (by omega) (by omega) HV.out)
    have hra := Lib.hid (Kd.C_below hr ((Below.refl _ _).alloc (Nat.le_refl _) (.cells #[.string f0, .int .i64 f1, .int .i64 f2, .slice A l.length c] 40)))
    by_cases hn : left - f0.size < wL wV l
    · have HN := Lib.hid (subN_neg hn)
      go_enter Try.func13, Try.ntmps13
      go_wp2_with (first | (go_at_call 25; refine (QC.out _ hra.out).mono ?_; rintro e w' ⟨rfl, hb2⟩; rw [HN.out]))
      go_ret
      exact ⟨ret_int (by rw [HW.out, subN_neg (by omega)]), below_next ((Below.refl _ _).alloc (Nat.le_refl _) _) (by simp) hb2⟩
    · have HN := Lib.hid (subN_pos hn)
      have n1 : decide (left - (f0.size : Int) - (wL wV l : Int) < 0) = false := decide_eq_false (by omega)
      have n2 : decide (left - (f0.size : Int) < (wL wV l : Int)) = false := decide_eq_false hn
      go_enter Try.func13, Try.ntmps13
      go_wp2_with (first | (go_at_call 25; refine (QC.out _ hra.out).mono ?_; rintro e w' ⟨rfl, hb2⟩; rw [HN.out]))
      go_ret
      exact ⟨ret_int (by rw [HW.out, subN_pos (by omega)]; omega), below_next ((Below.refl _ _).alloc (Nat.le_refl _) _) (by simp) hb2⟩

set_option maxHeartbeats 2000000 in
theorem sz_flights_any (A : Option Addr) (c : Nat) (l : List Flight) (left : Int) (w : World) (hr : Kd.C k40 w A l.length l) (h0 : 0 ≤ left) (h1 : left ≤ 1048576) (hs : ∀ x ∈ l, smallF x) :
    Calls Try.prog 5 #[.slice A l.length c, .int .i64 left] w fun e w' => e = .returned (.int .i64 (subN left (wL wF l))) ∧ Below w.heap.size w w' := by
  have hc := C_len hr
  have hw0 : l.length ≤ wL wF l := by have := wTo_le wF l 0; rwa [wTo_zero] at this
  by_cases h : left < l.length
  · have e1 : decide (left - (l.length : Int) < 0) = true := decide_eq_true (by omega)
    have e2 : decide (left < (l.length : Int)) = true := decide_eq_true h
    go_enter Try.func5, Try.ntmps5
    go_wp2
    go_ret
    exact ⟨ret_int (by rw [subN_neg (by omega)]), Below.refl _ _⟩
  · have e1 : decide (left - (l.length : Int) < 0) = false := decide_eq_false (by omega)
    have e2 : decide (left < (l.length : Int)) = false := decide_eq_false h
    have HW0 := Lib.hid hw0
    clear hw0
    go_enter Try.func5, Try.ntmps5
    go_wp2
    go_loopw [1, 5] (fun a v wr => ∃ (k : Nat) (m : Int), k ≤ l.length ∧ v = .int .i64 k ∧ a = .int .i64 m ∧ 0 ≤ m ∧ m ≤ left ∧ Hid (m = left - wTo wF l k) ∧ Below w.heap.size w wr) (fun _ v _ => l.length - (intOf v).toNat)
    case atStart => exact ⟨0, left - l.length, Nat.zero_le _, rfl, rfl, by omega, by omega, by show _ = _; rw [wTo_zero], Below.refl _ _⟩
    case round =>
      obtain ⟨k, m, hk, rfl, rfl, m0, m1, hM, hb⟩ := hrel
      by_cases hlt : k < l.length
      · obtain ⟨ad, x, A3, c3, rfl, hx, x0, x1, x2, x3, hl3, hr3⟩ := lflightAt (Kd.C_below hr hb) k hlt
        have hX := Lib.hid (wTo_step wF _ _ _ hx)
        have hsm := hs x (List.mem_of_getElem? hx)
        have hT := Lib.hid (wTo_le wF l (k + 1))
        have j4 : (k : Int) < l.length := by omega
        have SM := Lib.hid hsm
        clear hx hsm
        have QC := Lib.hid (fun W hr => sz_flight_any A3 c3 x.f0 x.f1 x.f2 x.f3 m W hr m0 (by omega) SM.out.1 SM.out.2)
        by_cases hn : m < wF x
        · have HN := Lib.hid (subN_neg hn)
          go_wp2_with (first | (go_at_call 13; refine (QC.out _ hr3).mono ?_; rintro e w' ⟨rfl, hb2⟩; rw [HN.out]))
          go_ret
          exact ⟨ret_int (by rw [subN_neg]; have h1 := hM.out; have h2 := hX.out; have h3 := hT.out; omega), below_next hb hb.size hb2⟩
        · have HN := Lib.hid (subN_pos hn)
          have n1 : decide (m - (wF x : Int) < 0) = false := decide_eq_false (by omega)
          have n2 : decide (m < (wF x : Int)) = false := decide_eq_false hn
          go_wp2_with (first | (go_at_call 13; refine (QC.out _ hr3).mono ?_; rintro e w' ⟨rfl, hb2⟩; rw [HN.out]))
          go_roundw
          case rel => exact ⟨k + 1, m - wF x, by omega, by go_num, by go_num, by omega, by omega, by show _ = _; rw [hX.out, hM.out]; omega, below_next hb hb.size hb2⟩
          case measure => simp [intOf]; omega
      · go_wp2
        go_ret
        obtain rfl : k = l.length := by omega
        exact ⟨ret_int (by have h1 := hM.out; rw [wTo_end] at h1; rw [subN_pos (by omega), h1]), hb⟩

end Go.Proofs.Ytgoepnbajpgkhaa.Q
