/- Merged out of this seat's own texts. -/
import Derived.Test.YtkfoeplefajkcaaMgQ
import Derived.Test.YtkfoeplefajkcaaMgI
import Derived.Test.YtkfoeplefajkcaaMgM
section
namespace Go.Proofs.Ytkfoeplefajkcaa.Q
open Go.RowKit Go.Proofs.YtkfoeplefajkcaaW.PrintWords Go.Proofs.YtkfoeplefajkcaaW.PrintLast Go.Proofs.YtkfoeplefajkcaaW.PrintMore Go.Proofs.Ytkfoeplefajkcaa.Core
set_option linter.unusedVariables false
set_option linter.unusedSimpArgs false
set_option maxRecDepth 100000 in
set_option maxHeartbeats 2000000 in
theorem named_any (f0 : ByteArray) (f1 f2 : Int) (v3 : Value) (A3 : Option Addr) (n3 c3 : Nat) (e3 : v3 = .slice A3 n3 c3) (pn : Addr) (n : ByteArray) (W : World) (hp : W.cell? pn = some (.string n)) :
    Calls Try.prog 150 #[.agg #[.string f0, .int .i64 f1, .int .i64 f2, v3], .pointer (some pn)] W fun e w' => e = .returned (.bool (f0.toList == n.toList)) ∧ Below W.heap.size W w' := by
  subst e3
  have p1 := pw_cell_below (below_alloc (Below.refl W.heap.size W) (.cells #[.string f0, .int .i64 f1, .int .i64 f2, .slice A3 n3 c3] 61)) hp
  have hb := Lib.hid (below_alloc (Below.refl W.heap.size W) (.cells #[.string f0, .int .i64 f1, .int .i64 f2, .slice A3 n3 c3] 61))
  have n1 := World.new_ne W _ hp
  go_enter Try.func150, Try.ntmps150
  go_wp2
  go_ret
  exact ⟨rfl, hb.out⟩
set_option maxRecDepth 100000 in
set_option maxHeartbeats 2000000 in
theorem index_any (A : Option Addr) (c : Nat) (l : List Flight) (pn : Addr) (n : ByteArray) (w : World) (hr : Kd.C k61 w A l.length l) (hp : w.cell? pn = some (.string n)) :
    Calls Try.prog 149 #[.slice A l.length c, .func (.func 150) #[] #[.pointer (some pn)]] w fun e w' => e = .returned (.int .i64 (atB l n)) ∧ Below w.heap.size w w' := by
  have HR := Lib.hid hr
  have hnn : l.length ≤ 9223372036854775807 := hr.2.1
  have HP := Lib.hid hp
  clear hr hp
  go_enter Try.func149, Try.ntmps149
  go_wp2
  go_loopw [5, 8] (fun _ vk wr => ∃ (k : Nat), vk = .int .i64 k ∧ k ≤ l.length ∧ Hid (atB l n = atFrom n (l.drop k) k) ∧ Hid (Below w.heap.size w wr)) (fun _ vk _ => l.length - (intOf vk).toNat)
  case atStart => exact ⟨0, rfl, Nat.zero_le _, rfl, Below.refl _ _⟩
  case round =>
    obtain ⟨k, rfl, hk, HA, HB⟩ := hrel
    by_cases hlt : k < l.length
    · have j1 : (k : Int) < l.length := by omega
      obtain ⟨ad, f, A3, c3, rfl, hf, f0, f1, f2, f3, hl3, hr3⟩ := flightAt (Kd.C_below HR.out HB.out) k hlt
      have hd : l.drop k = f :: l.drop (k + 1) := by
        have := List.drop_eq_getElem_cons hlt
        rw [List.getElem?_eq_getElem hlt] at hf
        rw [this, Option.some.inj hf]
      have HA2 := HA.out
      rw [hd, atFrom_cons] at HA2
      have QN := Lib.hid (named_any f.f0 f.f1 f.f2 _ A3 f.f3.length c3 rfl pn n wr (pw_cell_below HB.out HP.out))
      clear hd hf hr3 hl3
      by_cases hq : f.f0 = n
      · rw [if_pos hq] at HA2
        have QT := QN.out
        rw [str_same hq] at QT
        have QN := Lib.hid QT
        clear QT
        have HA3 := Lib.hid HA2
        clear HA2 HA hq
        go_wp2_with (go_at_call 150; refine QN.out.mono ?_; rintro e w1 ⟨rfl, hb1⟩)
        go_ret
        exact ⟨ret_int HA3.out.symm, below_next HB.out HB.out.size hb1⟩
      · rw [if_neg hq] at HA2
        have QT := QN.out
        rw [str_other hq] at QT
        have QN := Lib.hid QT
        clear QT
        have HA3 := Lib.hid HA2
        clear HA2 HA hq
        go_wp2_with (go_at_call 150; refine QN.out.mono ?_; rintro e w1 ⟨rfl, hb1⟩)
        go_roundw
        case rel => exact ⟨k + 1, by go_num, hlt, HA3.out, below_next HB.out HB.out.size hb1⟩
        case measure => simp [intOf]; omega
    · have HA2 := HA.out
      rw [List.drop_eq_nil_of_le (by omega)] at HA2
      have HA3 := Lib.hid HA2
      clear HA2 HA
      go_wp2
      go_ret
      exact ⟨ret_int HA3.out.symm, HB.out⟩
set_option maxRecDepth 100000 in
set_option maxHeartbeats 2000000 in
theorem impl_at_any (A0 : Option Addr) (n0 c0 : Nat) (A : Option Addr) (c : Nat) (l : List Flight) (A2 : Option Addr) (n2 c2 : Nat) (n : ByteArray) (w : World) (hr : Kd.C k61 w A l.length l) :
    Calls Try.prog 102 #[.agg #[.slice A0 n0 c0, .slice A l.length c, .slice A2 n2 c2], .string n] w fun e w' => e = .returned (.int .i64 (atB l n)) ∧ Below w.heap.size w w' := by
  obtain ⟨W, hW⟩ : ∃ W, W = (w.alloc (.cells #[.slice A0 n0 c0, .slice A l.length c, .slice A2 n2 c2] 55)).alloc (.cells #[.string n] 9) := ⟨_, rfl⟩
  have hb : Below w.heap.size w W := by rw [hW]; exact below_alloc (below_alloc (Below.refl _ _) _) _
  have hp : W.cell? ⟨w.heap.size + 1, 0, none⟩ = some (.string n) := by rw [hW]; simp
  have QI := Lib.hid (index_any A c l ⟨w.heap.size + 1, 0, none⟩ n W (Kd.C_below hr hb) hp)
  have HB := Lib.hid hb
  clear hr hb
  go_enter Try.func102, Try.ntmps102
  go_wp2_with (go_at_call 149; rw [← hW]; refine QI.out.mono ?_; rintro e w1 ⟨rfl, hb1⟩)
  go_ret
  exact ⟨rfl, below_next HB.out HB.out.size hb1⟩
end Go.Proofs.Ytkfoeplefajkcaa.Q
end
