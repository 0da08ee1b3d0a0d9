/- Merged out of this seat's own texts: S, Open, OpenB. -/
import Derived.Test.YtkfoeplefajkcaaMgA
import Derived.Deep.Slices
import Derived.Deep.Strs
import Derived.Lib.SmallJoins
import Derived.ProofKit
import Derived.DataReads

/- Contracts: the laws' sizes of what comes in. -/
section
namespace Go.Proofs.Ytkfoeplefajkcaa.Q
open Go.RowKit Go.Proofs.YtkfoeplefajkcaaW.PrintWords Go.Proofs.Ytkfoeplefajkcaa.Core
set_option linter.unusedVariables false
set_option linter.unusedSimpArgs false

def maxS : Nat := 9223372036854775807
/-- What is left of a measure, -1 if it is used up. -/
def subN (left : Int) (n : Nat) : Int := if left < n then -1 else left - n
theorem subN_neg {left : Int} {n : Nat} (h : left < n) : subN left n = -1 := if_pos h
theorem subN_pos {left : Int} {n : Nat} (h : ¬ left < n) : subN left n = left - n := if_neg h
def wV (v : Visit) : Nat := v.f0.size
def wC (c : Cap) : Nat := c.f0.size
def wL {α : Type} (w : α → Nat) (l : List α) : Nat := l.length + (l.map w).sum
def wTo {α : Type} (w : α → Nat) (l : List α) (k : Nat) : Nat := l.length + ((l.take k).map w).sum
def wF (f : Flight) : Nat := f.f0.size + wL wV f.f3
theorem wTo_zero {α : Type} (w : α → Nat) (l : List α) : wTo w l 0 = l.length := rfl
theorem wTo_end {α : Type} (w : α → Nat) (l : List α) : wTo w l l.length = wL w l := by unfold wTo wL; rw [List.take_length]
theorem wTo_step {α : Type} (w : α → Nat) (l : List α) (k : Nat) (x : α) (h : l[k]? = some x) : wTo w l (k + 1) = wTo w l k + w x := by
  unfold wTo
  rw [List.take_add_one, h]
  simp; omega
theorem wTo_le {α : Type} (w : α → Nat) (l : List α) (k : Nat) : wTo w l k ≤ wL w l := by
  unfold wTo wL
  have h := List.take_append_drop k l
  have h2 : (l.map w).sum = ((l.take k).map w).sum + ((l.drop k).map w).sum := by rw [← List.sum_append, ← List.map_append, h]
  omega
def smallV (v : Visit) : Prop := v.f0.size ≤ maxS
def smallC (c : Cap) : Prop := c.f0.size ≤ maxS
def smallF (f : Flight) : Prop := f.f0.size ≤ maxS ∧ ∀ v ∈ f.f3, smallV v

theorem lvisitAt {w : World} {A : Option Addr} {xs : List Visit} (h : Kd.C k162 w A xs.length xs) (k : Nat) (hk : k < xs.length) :
    ∃ ad c, A = some ad ∧ xs[k]? = some c ∧ w.cell? (ad.add (k * 3)) = some (.string c.f0) ∧ w.cell? ⟨(ad.add (k * 3)).block, (ad.add (k * 3)).off + 1, none⟩ = some (.int .i64 c.f1) ∧
      w.cell? ⟨(ad.add (k * 3)).block, (ad.add (k * 3)).off + 2, none⟩ = some (.int .i64 c.f2) := by
  obtain ⟨ad, e, h0, h1, h2⟩ := at_T162 h k (by omega) (by omega)
  have er : rd_T162 xs k = xs[k] := by
    unfold rd_T162
    rw [Int.toNat_natCast, List.getD_eq_getElem?_getD, List.getElem?_eq_getElem hk]
    rfl
  rw [er] at h0 h1 h2
  exact ⟨ad, xs[k], e, List.getElem?_eq_getElem hk, h0, h1, h2⟩
theorem lcapAt {w : World} {A : Option Addr} {xs : List Cap} (h : Kd.C k106 w A xs.length xs) (k : Nat) (hk : k < xs.length) :
    ∃ ad c, A = some ad ∧ xs[k]? = some c ∧ w.cell? (ad.add (k * 2)) = some (.string c.f0) ∧ w.cell? ⟨(ad.add (k * 2)).block, (ad.add (k * 2)).off + 1, none⟩ = some (.int .i64 c.f1) := by
  obtain ⟨ad, e, h0, h1⟩ := at_T106 h k (by omega) (by omega)
  have er : rd_T106 xs k = xs[k] := by
    unfold rd_T106
    rw [Int.toNat_natCast, List.getD_eq_getElem?_getD, List.getElem?_eq_getElem hk]
    rfl
  rw [er] at h0 h1
  exact ⟨ad, xs[k], e, List.getElem?_eq_getElem hk, h0, h1⟩
theorem lflightAt {w : World} {A : Option Addr} {xs : List Flight} (h : Kd.C k51 w A xs.length xs) (k : Nat) (hk : k < xs.length) :
    ∃ ad x A3 c3, A = some ad ∧ xs[k]? = some x ∧ w.cell? (ad.add (k * 4)) = some (.string x.f0) ∧ w.cell? ⟨(ad.add (k * 4)).block, (ad.add (k * 4)).off + 1, none⟩ = some (.int .i64 x.f1) ∧
      w.cell? ⟨(ad.add (k * 4)).block, (ad.add (k * 4)).off + 2, none⟩ = some (.int .i64 x.f2) ∧ w.cell? ⟨(ad.add (k * 4)).block, (ad.add (k * 4)).off + 3, none⟩ = some (.slice A3 x.f3.length c3) ∧
      x.f3.length ≤ c3 ∧ Kd.C k162 w A3 x.f3.length x.f3 := by
  obtain ⟨ad, A3, c3, e, h0, h1, h2, h3, h4, h5⟩ := at_T51 h k (by omega) (by omega)
  have er : rd_T51 xs k = xs[k] := by
    unfold rd_T51
    rw [Int.toNat_natCast, List.getD_eq_getElem?_getD, List.getElem?_eq_getElem hk]
    rfl
  rw [er] at h0 h1 h2 h3 h4 h5
  exact ⟨ad, xs[k], A3, c3, e, List.getElem?_eq_getElem hk, h0, h1, h2, h3, h4, h5⟩

theorem sz_visit_any (f0 : ByteArray) (f1 f2 : Int) (left : Int) (w : World) (h0 : 0 ≤ left) (h1 : left ≤ 1048576) (hs : f0.size ≤ 9223372036854775807) :
    Calls Try.prog 145 #[.agg #[.string f0, .int .i64 f1, .int .i64 f2], .int .i64 left] w fun e w' => e = .returned (.int .i64 (subN left (wV ⟨f0, f1, f2⟩))) ∧ Below w.heap.size w w' := by
  by_cases h : left < f0.size
  · have e1 : decide (left - (f0.size : Int) < 0) = true := decide_eq_true (by omega)
    have e2 : decide (left < (f0.size : Int)) = true := decide_eq_true h
    go_enter Try.func145, Try.ntmps145
    go_wp2
    go_ret
    exact ⟨ret_int (subN_neg (n := f0.size) h).symm, (Below.refl _ _).alloc (Nat.le_refl _) _⟩
  · have e1 : decide (left - (f0.size : Int) < 0) = false := decide_eq_false (by omega)
    have e2 : decide (left < (f0.size : Int)) = false := decide_eq_false h
    go_enter Try.func145, Try.ntmps145
    go_wp2
    go_ret
    exact ⟨ret_int (subN_pos (n := f0.size) (by omega)).symm, (Below.refl _ _).alloc (Nat.le_refl _) _⟩

theorem sz_cap_any (f0 : ByteArray) (f1 : Int) (left : Int) (w : World) (h0 : 0 ≤ left) (h1 : left ≤ 1048576) (hs : f0.size ≤ 9223372036854775807) :
    Calls Try.prog 78 #[.agg #[.string f0, .int .i64 f1], .int .i64 left] w fun e w' => e = .returned (.int .i64 (subN left (wC ⟨f0, f1⟩))) ∧ Below w.heap.size w w' := by
  by_cases h : left < f0.size
  · have e1 : decide (left - (f0.size : Int) < 0) = true := decide_eq_true (by omega)
    have e2 : decide (left < (f0.size : Int)) = true := decide_eq_true h
    go_enter Try.func78, Try.ntmps78
    go_wp2
    go_ret
    exact ⟨ret_int (subN_neg (n := f0.size) h).symm, (Below.refl _ _).alloc (Nat.le_refl _) _⟩
  · have e1 : decide (left - (f0.size : Int) < 0) = false := decide_eq_false (by omega)
    have e2 : decide (left < (f0.size : Int)) = false := decide_eq_false h
    go_enter Try.func78, Try.ntmps78
    go_wp2
    go_ret
    exact ⟨ret_int (subN_pos (n := f0.size) (by omega)).symm, (Below.refl _ _).alloc (Nat.le_refl _) _⟩

set_option maxHeartbeats 2000000 in
theorem sz_visits_any (A : Option Addr) (c : Nat) (l : List Visit) (left : Int) (w : World) (hr : Kd.C k162 w A l.length l) (h0 : 0 ≤ left) (h1 : left ≤ 1048576) (hs : ∀ x ∈ l, smallV x) :
    Calls Try.prog 94 #[.slice A l.length c, .int .i64 left] w fun e w' => e = .returned (.int .i64 (subN left (wL wV l))) ∧ Below w.heap.size w w' := by
  have hc := C_len hr
  have hw0 : l.length ≤ wL wV l := by have := wTo_le wV l 0; rwa [wTo_zero] at this
  by_cases h : left < l.length
  · have e1 : decide (left - (l.length : Int) < 0) = true := decide_eq_true (by omega)
    have e2 : decide (left < (l.length : Int)) = true := decide_eq_true h
    go_enter Try.func94, Try.ntmps94
    go_wp2
    go_ret
    exact ⟨ret_int (by rw [subN_neg (by omega)]), Below.refl _ _⟩
  · have e1 : decide (left - (l.length : Int) < 0) = false := decide_eq_false (by omega)
    have e2 : decide (left < (l.length : Int)) = false := decide_eq_false h
    have HW0 := Lib.hid hw0
    clear hw0
    go_enter Try.func94, Try.ntmps94
    go_wp2
    go_loopw [1, 5] (fun a v wr => ∃ (k : Nat) (m : Int), k ≤ l.length ∧ v = .int .i64 k ∧ a = .int .i64 m ∧ 0 ≤ m ∧ m ≤ left ∧ Hid (m = left - wTo wV l k) ∧ Below w.heap.size w wr) (fun _ v _ => l.length - (intOf v).toNat)
    case atStart => exact ⟨0, left - l.length, Nat.zero_le _, rfl, rfl, by omega, by omega, by show _ = _; rw [wTo_zero], Below.refl _ _⟩
    case round =>
      obtain ⟨k, m, hk, rfl, rfl, m0, m1, hM, hb⟩ := hrel
      by_cases hlt : k < l.length
      · obtain ⟨ad, x, rfl, hx, x0, x1, x2⟩ := lvisitAt (Kd.C_below hr hb) k hlt
        have hX := Lib.hid (wTo_step wV _ _ _ hx)
        have hsm := hs x (List.mem_of_getElem? hx)
        have hT := Lib.hid (wTo_le wV l (k + 1))
        have j4 : (k : Int) < l.length := by omega
        have SM := Lib.hid hsm
        clear hx hsm
        have QC := Lib.hid (fun W => sz_visit_any x.f0 x.f1 x.f2 m W m0 (by omega) SM.out)
        by_cases hn : m < wV x
        · have HN := Lib.hid (subN_neg hn)
          go_wp2_with (first | (go_at_call 145; refine (QC.out _).mono ?_; rintro e w' ⟨rfl, hb2⟩; rw [HN.out]))
          go_ret
          exact ⟨ret_int (by rw [subN_neg]; have h1 := hM.out; have h2 := hX.out; have h3 := hT.out; omega), below_next hb hb.size hb2⟩
        · have HN := Lib.hid (subN_pos hn)
          have n1 : decide (m - (wV x : Int) < 0) = false := decide_eq_false (by omega)
          have n2 : decide (m < (wV x : Int)) = false := decide_eq_false hn
          go_wp2_with (first | (go_at_call 145; refine (QC.out _).mono ?_; rintro e w' ⟨rfl, hb2⟩; rw [HN.out]))
          go_roundw
          case rel => exact ⟨k + 1, m - wV x, by omega, by go_num, by go_num, by omega, by omega, by show _ = _; rw [hX.out, hM.out]; omega, below_next hb hb.size hb2⟩
          case measure => simp [intOf]; omega
      · go_wp2
        go_ret
        obtain rfl : k = l.length := by omega
        exact ⟨ret_int (by have h1 := hM.out; rw [wTo_end] at h1; rw [subN_pos (by omega), h1]), hb⟩

set_option maxHeartbeats 2000000 in
theorem sz_caps_any (A : Option Addr) (c : Nat) (l : List Cap) (left : Int) (w : World) (hr : Kd.C k106 w A l.length l) (h0 : 0 ≤ left) (h1 : left ≤ 1048576) (hs : ∀ x ∈ l, smallC x) :
    Calls Try.prog 23 #[.slice A l.length c, .int .i64 left] w fun e w' => e = .returned (.int .i64 (subN left (wL wC l))) ∧ Below w.heap.size w w' := by
  have hc := C_len hr
  have hw0 : l.length ≤ wL wC l := by have := wTo_le wC l 0; rwa [wTo_zero] at this
  by_cases h : left < l.length
  · have e1 : decide (left - (l.length : Int) < 0) = true := decide_eq_true (by omega)
    have e2 : decide (left < (l.length : Int)) = true := decide_eq_true h
    go_enter Try.func23, Try.ntmps23
    go_wp2
    go_ret
    exact ⟨ret_int (by rw [subN_neg (by omega)]), Below.refl _ _⟩
  · have e1 : decide (left - (l.length : Int) < 0) = false := decide_eq_false (by omega)
    have e2 : decide (left < (l.length : Int)) = false := decide_eq_false h
    have HW0 := Lib.hid hw0
    clear hw0
    go_enter Try.func23, Try.ntmps23
    go_wp2
    go_loopw [1, 5] (fun a v wr => ∃ (k : Nat) (m : Int), k ≤ l.length ∧ v = .int .i64 k ∧ a = .int .i64 m ∧ 0 ≤ m ∧ m ≤ left ∧ Hid (m = left - wTo wC l k) ∧ Below w.heap.size w wr) (fun _ v _ => l.length - (intOf v).toNat)
    case atStart => exact ⟨0, left - l.length, Nat.zero_le _, rfl, rfl, by omega, by omega, by show _ = _; rw [wTo_zero], Below.refl _ _⟩
    case round =>
      obtain ⟨k, m, hk, rfl, rfl, m0, m1, hM, hb⟩ := hrel
      by_cases hlt : k < l.length
      · obtain ⟨ad, x, rfl, hx, x0, x1⟩ := lcapAt (Kd.C_below hr hb) k hlt
        have hX := Lib.hid (wTo_step wC _ _ _ hx)
        have hsm := hs x (List.mem_of_getElem? hx)
        have hT := Lib.hid (wTo_le wC l (k + 1))
        have j4 : (k : Int) < l.length := by omega
        have SM := Lib.hid hsm
        clear hx hsm
        have QC := Lib.hid (fun W => sz_cap_any x.f0 x.f1 m W m0 (by omega) SM.out)
        by_cases hn : m < wC x
        · have HN := Lib.hid (subN_neg hn)
          go_wp2_with (first | (go_at_call 78; refine (QC.out _).mono ?_; rintro e w' ⟨rfl, hb2⟩; rw [HN.out]))
          go_ret
          exact ⟨ret_int (by rw [subN_neg]; have h1 := hM.out; have h2 := hX.out; have h3 := hT.out; omega), below_next hb hb.size hb2⟩
        · have HN := Lib.hid (subN_pos hn)
          have n1 : decide (m - (wC x : Int) < 0) = false := decide_eq_false (by omega)
          have n2 : decide (m < (wC x : Int)) = false := decide_eq_false hn
          go_wp2_with (first | (go_at_call 78; refine (QC.out _).mono ?_; rintro e w' ⟨rfl, hb2⟩; rw [HN.out]))
          go_roundw
          case rel => exact ⟨k + 1, m - wC x, by omega, by go_num, by go_num, by omega, by omega, by show _ = _; rw [hX.out, hM.out]; omega, below_next hb hb.size hb2⟩
          case measure => simp [intOf]; omega
      · go_wp2
        go_ret
        obtain rfl : k = l.length := by omega
        exact ⟨ret_int (by have h1 := hM.out; rw [wTo_end] at h1; rw [subN_pos (by omega), h1]), hb⟩

set_option maxHeartbeats 2000000 in
theorem sz_flight_any (A : Option Addr) (c : Nat) (f0 : ByteArray) (f1 f2 : Int) (l : List Visit) (left : Int) (w : World) (hr : Kd.C k162 w A l.length l) (h0 : 0 ≤ left) (h1 : left ≤ 1048576) (hs : f0.size ≤ 9223372036854775807) (hv : ∀ x ∈ l, smallV x) :
    Calls Try.prog 36 #[.agg #[.string f0, .int .i64 f1, .int .i64 f2, .slice A l.length c], .int .i64 left] w fun e w' => e = .returned (.int .i64 (subN left (wF ⟨f0, f1, f2, l⟩))) ∧ Below w.heap.size w w' := by
  have hW : wF ⟨f0, f1, f2, l⟩ = f0.size + wL wV l := rfl
  have HW := Lib.hid hW
  clear hW
  have HV := Lib.hid hv
  clear hv
  by_cases h : left < f0.size
  · have e1 : decide (left - (f0.size : Int) < 0) = true := decide_eq_true (by omega)
    have e2 : decide (left < (f0.size : Int)) = true := decide_eq_true h
    go_enter Try.func36, Try.ntmps36
    go_wp2
    go_ret
    exact ⟨ret_int (by rw [HW.out, subN_neg (by omega)]), (Below.refl _ _).alloc (Nat.le_refl _) _⟩
  · have e1 : decide (left - (f0.size : Int) < 0) = false := decide_eq_false (by omega)
    have e2 : decide (left < (f0.size : Int)) = false := decide_eq_false h
    have QC := Lib.hid (fun W hr => sz_visits_any A c l (left - f0.size) W hr (by omega) (by omega) HV.out)
    have hra := Lib.hid (Kd.C_below hr ((Below.refl _ _).alloc (Nat.le_refl _) (.cells #[.string f0, .int .i64 f1, .int .i64 f2, .slice A l.length c] 51)))
    by_cases hn : left - f0.size < wL wV l
    · have HN := Lib.hid (subN_neg hn)
      go_enter Try.func36, Try.ntmps36
      go_wp2_with (first | (go_at_call 94; refine (QC.out _ hra.out).mono ?_; rintro e w' ⟨rfl, hb2⟩; rw [HN.out]))
      go_ret
      exact ⟨ret_int (by rw [HW.out, subN_neg (by omega)]), below_next ((Below.refl _ _).alloc (Nat.le_refl _) _) (by simp) hb2⟩
    · have HN := Lib.hid (subN_pos hn)
      have n1 : decide (left - (f0.size : Int) - (wL wV l : Int) < 0) = false := decide_eq_false (by omega)
      have n2 : decide (left - (f0.size : Int) < (wL wV l : Int)) = false := decide_eq_false hn
      go_enter Try.func36, Try.ntmps36
      go_wp2_with (first | (go_at_call 94; refine (QC.out _ hra.out).mono ?_; rintro e w' ⟨rfl, hb2⟩; rw [HN.out]))
      go_ret
      exact ⟨ret_int (by rw [HW.out, subN_pos (by omega)]; omega), below_next ((Below.refl _ _).alloc (Nat.le_refl _) _) (by simp) hb2⟩

set_option maxHeartbeats 2000000 in
theorem sz_flights_any (A : Option Addr) (c : Nat) (l : List Flight) (left : Int) (w : World) (hr : Kd.C k51 w A l.length l) (h0 : 0 ≤ left) (h1 : left ≤ 1048576) (hs : ∀ x ∈ l, smallF x) :
    Calls Try.prog 14 #[.slice A l.length c, .int .i64 left] w fun e w' => e = .returned (.int .i64 (subN left (wL wF l))) ∧ Below w.heap.size w w' := by
  have hc := C_len hr
  have hw0 : l.length ≤ wL wF l := by have := wTo_le wF l 0; rwa [wTo_zero] at this
  by_cases h : left < l.length
  · have e1 : decide (left - (l.length : Int) < 0) = true := decide_eq_true (by omega)
    have e2 : decide (left < (l.length : Int)) = true := decide_eq_true h
    go_enter Try.func14, Try.ntmps14
    go_wp2
    go_ret
    exact ⟨ret_int (by rw [subN_neg (by omega)]), Below.refl _ _⟩
  · have e1 : decide (left - (l.length : Int) < 0) = false := decide_eq_false (by omega)
    have e2 : decide (left < (l.length : Int)) = false := decide_eq_false h
    have HW0 := Lib.hid hw0
    clear hw0
    go_enter Try.func14, Try.ntmps14
    go_wp2
    go_loopw [1, 5] (fun a v wr => ∃ (k : Nat) (m : Int), k ≤ l.length ∧ v = .int .i64 k ∧ a = .int .i64 m ∧ 0 ≤ m ∧ m ≤ left ∧ Hid (m = left - wTo wF l k) ∧ Below w.heap.size w wr) (fun _ v _ => l.length - (intOf v).toNat)
    case atStart => exact ⟨0, left - l.length, Nat.zero_le _, rfl, rfl, by omega, by omega, by show _ = _; rw [wTo_zero], Below.refl _ _⟩
    case round =>
      obtain ⟨k, m, hk, rfl, rfl, m0, m1, hM, hb⟩ := hrel
      by_cases hlt : k < l.length
      · obtain ⟨ad, x, A3, c3, rfl, hx, x0, x1, x2, x3, hl3, hr3⟩ := lflightAt (Kd.C_below hr hb) k hlt
        have hX := Lib.hid (wTo_step wF _ _ _ hx)
        have hsm := hs x (List.mem_of_getElem? hx)
        have hT := Lib.hid (wTo_le wF l (k + 1))
        have j4 : (k : Int) < l.length := by omega
        have SM := Lib.hid hsm
        clear hx hsm
        have QC := Lib.hid (fun W hr => sz_flight_any A3 c3 x.f0 x.f1 x.f2 x.f3 m W hr m0 (by omega) SM.out.1 SM.out.2)
        by_cases hn : m < wF x
        · have HN := Lib.hid (subN_neg hn)
          go_wp2_with (first | (go_at_call 36; refine (QC.out _ hr3).mono ?_; rintro e w' ⟨rfl, hb2⟩; rw [HN.out]))
          go_ret
          exact ⟨ret_int (by rw [subN_neg]; have h1 := hM.out; have h2 := hX.out; have h3 := hT.out; omega), below_next hb hb.size hb2⟩
        · have HN := Lib.hid (subN_pos hn)
          have n1 : decide (m - (wF x : Int) < 0) = false := decide_eq_false (by omega)
          have n2 : decide (m < (wF x : Int)) = false := decide_eq_false hn
          go_wp2_with (first | (go_at_call 36; refine (QC.out _ hr3).mono ?_; rintro e w' ⟨rfl, hb2⟩; rw [HN.out]))
          go_roundw
          case rel => exact ⟨k + 1, m - wF x, by omega, by go_num, by go_num, by omega, by omega, by show _ = _; rw [hX.out, hM.out]; omega, below_next hb hb.size hb2⟩
          case measure => simp [intOf]; omega
      · go_wp2
        go_ret
        obtain rfl : k = l.length := by omega
        exact ⟨ret_int (by have h1 := hM.out; rw [wTo_end] at h1; rw [subN_pos (by omega), h1]), hb⟩

end Go.Proofs.Ytkfoeplefajkcaa.Q
end

/- What comes in, as data, reads as lists of the core's structures. -/
section
namespace Go.Proofs.Ytkfoeplefajkcaa.Q
open Go.RowKit Go.Proofs.YtkfoeplefajkcaaW.PrintWords Go.Proofs.Ytkfoeplefajkcaa.Core Go.Deep
set_option linter.unusedVariables false
set_option linter.unusedSimpArgs false

section
variable {H : Type} {enc : TypeId × Value → H} {w : World} {base : Nat} {spare : Nat → Bool} {held : Bool}

theorem open_list {P : Program} {α : Type} [Inhabited α] (d : Kd α) (good : α → Prop) {t e : TypeId} (ht : P.underlying t = some (.slice e)) (hsz : P.cellsOf e = d.sz)
    (helem : ∀ n cs x, DataW.trod enc P w base spare held n e cs = some x → ∃ y, d.K w y cs ∧ good y) {fuel : Nat} {cs : List Value} {x : DataW H × List MemPlace} (h : DataW.trod enc P w base spare held fuel t cs = some x) :
    ∃ (A : Option Addr) (len cap : Nat) (l : List α), cs = [.slice A len cap] ∧ l.length = len ∧ len ≤ cap ∧ d.C w A len l ∧ ∀ y ∈ l, good y := by
  rcases open_slice ht h with ⟨rfl, _⟩ | ⟨a, len, cap, m, n, D, Pl, rfl, _, hl, hm, hm2, _, hel⟩
  · exact ⟨none, 0, 0, [], rfl, rfl, Nat.le_refl _, ⟨rfl, by omega, fun h => absurd h (by omega)⟩, by simp⟩
  · have hlm : len ≤ m := by rw [hm2]; split <;> omega
    obtain ⟨f, hf⟩ := choose_lt (n := len) (p := fun i y => good y ∧ ∃ cs', w.cells? base (a.add (i * P.cellsOf e)) (P.cellsOf e) = some cs' ∧ d.K w y cs') (fun i hi => by
      obtain ⟨cs', hc, htr⟩ := hel i (by omega)
      obtain ⟨y, hy, hg⟩ := helem _ _ _ htr
      exact ⟨y, hg, cs', hc, hy⟩)
    refine ⟨some a, len, cap, (List.range len).map f, rfl, by simp, hl, ⟨by simp, by simp only [maxLen] at hm; omega, fun _ => ⟨a, rfl, fun j p hj => ?_⟩⟩, fun y hy => ?_⟩
    · have hjl : j < len := by have := some_lt hj; simpa using this
      have hp : f j = p := by
        rw [List.getElem?_map, List.getElem?_range hjl] at hj
        exact Option.some.inj hj
      obtain ⟨_, cs', hc, hK⟩ := hf j hjl
      obtain ⟨_, hlen, hcell⟩ := World.cells?_some hc
      refine ⟨cs', by rw [hlen, hsz], by rw [← hp]; exact hK, fun i u hu => ?_⟩
      have := hcell i (by rw [← hlen]; exact some_lt hu)
      rw [Deep.add_add, hsz, hu] at this
      exact this
    · obtain ⟨j, hj, rfl⟩ := List.mem_map.1 hy
      exact (hf j (List.mem_range.1 hj)).1

theorem two_of {α : Type} {cs : List α} {a b : α} (hl : cs.length = 2) (h0 : (cs.drop 0).take 1 = [a]) (h1 : (cs.drop 1).take 1 = [b]) : cs = [a, b] := by
  match cs, hl with
  | [x, y], _ => simp at h0 h1; rw [h0, h1]
theorem three_of {α : Type} {cs : List α} {a b c : α} (hl : cs.length = 3) (h0 : (cs.drop 0).take 1 = [a]) (h1 : (cs.drop 1).take 1 = [b]) (h2 : (cs.drop 2).take 1 = [c]) : cs = [a, b, c] := by
  match cs, hl with
  | [x, y, z], _ => simp at h0 h1 h2; rw [h0, h1, h2]
theorem four_of {α : Type} {cs : List α} {a b c d : α} (hl : cs.length = 4) (h0 : (cs.drop 0).take 1 = [a]) (h1 : (cs.drop 1).take 1 = [b]) (h2 : (cs.drop 2).take 1 = [c]) (h3 : (cs.drop 3).take 1 = [d]) : cs = [a, b, c, d] := by
  match cs, hl with
  | [x, y, z, u], _ => simp at h0 h1 h2 h3; rw [h0, h1, h2, h3]
theorem cells_int : Try.prog.cellsOf 3 = 1 := by kernel_rfl
theorem cells_str : Try.prog.cellsOf 9 = 1 := by kernel_rfl
theorem cells_cap : Try.prog.cellsOf 106 = 2 := by kernel_rfl
theorem cells_visit : Try.prog.cellsOf 162 = 3 := by kernel_rfl
theorem cells_visits : Try.prog.cellsOf 49 = 1 := by kernel_rfl
theorem cells_flight : Try.prog.cellsOf 51 = 4 := by kernel_rfl

theorem open_cap {n : Nat} {cs : List Value} {x : DataW H × List MemPlace} (h : DataW.trod enc Try.prog w base spare held n 106 cs = some x) : ∃ y, (k106).K w y cs ∧ smallC y := by
  obtain ⟨y0, y1, m, _, hl, h0, h1⟩ := Go.ChangeShapes.trod_struct2 Try.underlying106 h
  obtain ⟨s, e0, _, hs⟩ := DataW.trod_string Try.underlying9 h0
  obtain ⟨k, e1, _, _⟩ := DataW.trod_int Try.underlying3 h1
  rw [cells_cap] at hl
  simp only [cells_str, cells_int] at e0 e1
  rw [two_of hl e0 e1]
  exact ⟨⟨s, k⟩, k106_mk w ⟨s, k⟩, hs⟩
theorem open_visit {n : Nat} {cs : List Value} {x : DataW H × List MemPlace} (h : DataW.trod enc Try.prog w base spare held n 162 cs = some x) : ∃ y, (k162).K w y cs ∧ smallV y := by
  obtain ⟨y0, y1, y2, m, _, hl, h0, h1, h2⟩ := trod_struct3 Try.underlying162 h
  obtain ⟨s, e0, _, hs⟩ := DataW.trod_string Try.underlying9 h0
  obtain ⟨k, e1, _, _⟩ := DataW.trod_int Try.underlying3 h1
  obtain ⟨j, e2, _, _⟩ := DataW.trod_int Try.underlying3 h2
  rw [cells_visit] at hl
  simp only [cells_str, cells_int] at e0 e1 e2
  rw [three_of hl e0 e1 e2]
  exact ⟨⟨s, k, j⟩, k162_mk w ⟨s, k, j⟩, hs⟩
theorem open_flight {n : Nat} {cs : List Value} {x : DataW H × List MemPlace} (h : DataW.trod enc Try.prog w base spare held n 51 cs = some x) : ∃ y, (k51).K w y cs ∧ smallF y := by
  obtain ⟨y0, y1, y2, y3, m, _, hl, h0, h1, h2, h3⟩ := Joins.trod_struct4 Try.underlying51 h
  obtain ⟨s, e0, _, hs⟩ := DataW.trod_string Try.underlying9 h0
  obtain ⟨k, e1, _, _⟩ := DataW.trod_int Try.underlying3 h1
  obtain ⟨j, e2, _, _⟩ := DataW.trod_int Try.underlying3 h2
  obtain ⟨A, len, cap, l, e3, rfl, hlc, hr, hg⟩ := open_list k162 smallV Try.underlying49 cells_visit (fun n cs x h => open_visit h) h3
  rw [cells_flight] at hl
  simp only [cells_str, cells_int, cells_visits] at e0 e1 e2 e3
  rw [four_of hl e0 e1 e2 e3]
  exact ⟨⟨s, k, j, l⟩, k51_mk w ⟨s, k, j, l⟩ hlc hr, hs, hg⟩
theorem open_int_cell {n : Nat} {cs : List Value} {x : DataW H × List MemPlace} (h : DataW.trod enc Try.prog w base spare held n 3 cs = some x) : ∃ y, (Kd.int .i64).K w y cs ∧ (Lit.int .i64 y).wf = true := by
  obtain ⟨k, rfl, _, hw⟩ := DataW.trod_int Try.underlying3 h
  exact ⟨k, rfl, hw⟩

/-! Each kind of argument, opened. -/
theorem arg_caps {a : Option Addr} {len cap : Nat} {d : DataW H} {p : List MemPlace} (h : DataW.Trod enc Try.prog w base spare held 33 (.slice a len cap) d p) :
    ∃ l, len = l.length ∧ l.length ≤ cap ∧ Kd.C k106 w a l.length l ∧ ∀ y ∈ l, smallC y := by
  obtain ⟨fuel, hf⟩ := h
  obtain ⟨A, len', cap', l, e, rfl, hlc, hr, hg⟩ := open_list k106 smallC Try.underlying33 cells_cap (fun n cs x h => open_cap h) hf
  simp [Value.cells] at e
  obtain ⟨rfl, rfl, rfl⟩ := e
  exact ⟨l, rfl, hlc, hr, hg⟩
theorem arg_flights {a : Option Addr} {len cap : Nat} {d : DataW H} {p : List MemPlace} (h : DataW.Trod enc Try.prog w base spare held 22 (.slice a len cap) d p) :
    ∃ l, len = l.length ∧ l.length ≤ cap ∧ Kd.C k51 w a l.length l ∧ ∀ y ∈ l, smallF y := by
  obtain ⟨fuel, hf⟩ := h
  obtain ⟨A, len', cap', l, e, rfl, hlc, hr, hg⟩ := open_list k51 smallF Try.underlying22 cells_flight (fun n cs x h => open_flight h) hf
  simp [Value.cells] at e
  obtain ⟨rfl, rfl, rfl⟩ := e
  exact ⟨l, rfl, hlc, hr, hg⟩
theorem arg_visits {a : Option Addr} {len cap : Nat} {d : DataW H} {p : List MemPlace} (h : DataW.Trod enc Try.prog w base spare held 49 (.slice a len cap) d p) :
    ∃ l, len = l.length ∧ l.length ≤ cap ∧ Kd.C k162 w a l.length l ∧ ∀ y ∈ l, smallV y := by
  obtain ⟨fuel, hf⟩ := h
  obtain ⟨A, len', cap', l, e, rfl, hlc, hr, hg⟩ := open_list k162 smallV Try.underlying49 cells_visit (fun n cs x h => open_visit h) hf
  simp [Value.cells] at e
  obtain ⟨rfl, rfl, rfl⟩ := e
  exact ⟨l, rfl, hlc, hr, hg⟩
theorem arg_ints {a : Option Addr} {len cap : Nat} {d : DataW H} {p : List MemPlace} (h : DataW.Trod enc Try.prog w base spare held 24 (.slice a len cap) d p) :
    ∃ l, len = l.length ∧ l.length ≤ cap ∧ Kd.C (Kd.int .i64) w a l.length l ∧ ∀ y ∈ l, (fun y => (Lit.int .i64 y).wf = true) y := by
  obtain ⟨fuel, hf⟩ := h
  obtain ⟨A, len', cap', l, e, rfl, hlc, hr, hg⟩ := open_list (Kd.int .i64) (fun y => (Lit.int .i64 y).wf = true) Try.underlying24 cells_int (fun n cs x h => open_int_cell h) hf
  simp [Value.cells] at e
  obtain ⟨rfl, rfl, rfl⟩ := e
  exact ⟨l, rfl, hlc, hr, hg⟩
end
end Go.Proofs.Ytkfoeplefajkcaa.Q
end

/- What an argument of bytes reads as. -/
section
namespace Go.Proofs.Ytkfoeplefajkcaa.Q
open Go.RowKit Go.Proofs.YtkfoeplefajkcaaW.PrintWords Go.Proofs.Ytkfoeplefajkcaa.Core Go.Deep
set_option linter.unusedVariables false
set_option linter.unusedSimpArgs false


section
variable {H : Type} {enc : TypeId × Value → H} {w : World} {base : Nat} {spare : Nat → Bool} {held : Bool}
theorem cells_byte : Try.prog.cellsOf 5 = 1 := by kernel_rfl
theorem open_byte_cell {n : Nat} {cs : List Value} {x : DataW H × List MemPlace} (h : DataW.trod enc Try.prog w base spare held n 5 cs = some x) : ∃ y, (Kd.int .u8).K w y cs ∧ (0 ≤ y ∧ y ≤ 255) := by
  obtain ⟨k, rfl, _, hw⟩ := DataW.trod_int Try.underlying5 h
  refine ⟨k, rfl, ?_⟩
  have e0 : IntKind.u8.min = 0 := by decide
  have e1 : IntKind.u8.max = 255 := by decide
  simp [Lit.wf, e0, e1] at hw
  omega
theorem arg_bytes {a : Option Addr} {len cap : Nat} {d : DataW H} {p : List MemPlace} (h : DataW.Trod enc Try.prog w base spare held 72 (.slice a len cap) d p) :
    ∃ l, len = l.length ∧ l.length ≤ cap ∧ Kd.C (Kd.int .u8) w a l.length l ∧ ∀ y ∈ l, (fun y : Int => 0 ≤ y ∧ y ≤ 255) y := by
  obtain ⟨fuel, hf⟩ := h
  obtain ⟨A, len', cap', l, e, rfl, hlc, hr, hg⟩ := open_list (Kd.int .u8) (fun y : Int => 0 ≤ y ∧ y ≤ 255) Try.underlying72 cells_byte (fun n cs x h => open_byte_cell h) hf
  simp [Value.cells] at e
  obtain ⟨rfl, rfl, rfl⟩ := e
  exact ⟨l, rfl, hlc, hr, hg⟩
end
end Go.Proofs.Ytkfoeplefajkcaa.Q
end
