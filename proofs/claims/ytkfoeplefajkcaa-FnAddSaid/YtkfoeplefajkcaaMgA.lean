/- Merged out of this seat's own texts. -/
import Derived.Test.YtkfoeplefajkcaaProg
import Derived.Test.YtkfoeplefajkcaaMgC
import Derived.Below
import Derived.Deep.Draws
import Derived.Deep.AppendLies
import Derived.Maps.AppendAt
import Derived.OwnWalk
import Derived.Laws.BytesArg
import Derived.Laws.MakeOwn
import Derived.Laws.OwnMore
import Derived.Deep.OwnRows
import Derived.Tactics
import Derived.Lib.ConvBytes
import Derived.Laws.Slices
import Derived.WalkKit
import Derived.KernelRfl
import Derived.RowKit3
import Derived.Deep.LoopGhost
import Derived.Deep.QuietTactic
import Derived.BigQuiet
import Derived.WideLaws
import Derived.Deep.DeepCutAuto
import Derived.Deep.CutBlock
import Derived.Deep.RegionHeld3
import Derived.Laws.Rows
import Derived.Lib.AppendStr
import Derived.ArgAppend
import Derived.Laws.IdiomCopy
import Derived.OrdersHeld
import Derived.Laws.BitsLemmas
import Derived.RowKit
import Derived.Test.YtkfoeplefajkcaaMgWa
import Derived.Test.YtkfoeplefajkcaaMgWb
import Derived.IntWalk
import Derived.Lib.Hide
section
namespace Go.Proofs.Ytkfoeplefajkcaa.Q
open Go.RowKit Go.Proofs.YtkfoeplefajkcaaW.PrintWords Go.Proofs.YtkfoeplefajkcaaW.PrintLast Go.Proofs.YtkfoeplefajkcaaW.PrintMore
attribute [local go_sem] max2_int min2_int max_two min_two max_three min_three max_four min_four
set_option linter.unusedVariables false
set_option linter.unusedSimpArgs false
def errW : Option Int → Value
  | none => .nilIface
  | some c => .iface 0 (.int .i64 c)
theorem errW_none : errW none = .nilIface := rfl
theorem errW_some (c : Int) : errW (some c) = .iface 0 (.int .i64 c) := rfl
theorem info5 : (Try.prog.info? 5).map (fun i => (i.zero, i.size, i.bytes)) = some (some (.int .u8 0), 1, 1) := by kernel_rfl
abbrev S162 := Core.Visit
def k162 : Kd S162 := Kd.iso (Kd.pair Kd.string (Kd.pair (Kd.int .i64) (Kd.int .i64))) (fun x : S162 => (x.f0, x.f1, x.f2))
abbrev S51 := Core.Flight
def z51 : S51 := ⟨(⟨#[]⟩ : ByteArray), (0 : Int), (0 : Int), ([] : List S162)⟩
def k51 : Kd S51 := Kd.iso (Kd.pair Kd.string (Kd.pair (Kd.int .i64) (Kd.pair (Kd.int .i64) (Kd.slice 162 k162)))) (fun x : S51 => (x.f0, x.f1, x.f2, x.f3))
abbrev S97 := Core.Visit
def z97 : S97 := ⟨(⟨#[]⟩ : ByteArray), (0 : Int), (0 : Int)⟩
def k97 : Kd S97 := Kd.iso (Kd.pair Kd.string (Kd.pair (Kd.int .i64) (Kd.int .i64))) (fun x : S97 => (x.f0, x.f1, x.f2))
theorem k97_open {w : World} {x : S97} {cs : List Value} (h : k97.K w x cs) : cs = [.string x.f0, .int .i64 x.f1, .int .i64 x.f2] := by
  obtain ⟨_, _, rfl, rfl, ⟨_, _, rfl, rfl, rfl⟩⟩ := h
  exact rfl
theorem k97_openM {w : World} {base : Nat} {ok : Nat → Prop} {x : S97} {cs : List Value} (h : k97.M w base ok x cs) : cs = [.string x.f0, .int .i64 x.f1, .int .i64 x.f2] := by
  obtain ⟨_, _, rfl, rfl, ⟨_, _, rfl, rfl, rfl⟩⟩ := h
  exact rfl
theorem k97_mkM (w : World) (base : Nat) (ok : Nat → Prop) (x : S97)  : k97.M w base ok x [.string x.f0, .int .i64 x.f1, .int .i64 x.f2] := ⟨[.string x.f0], [.int .i64 x.f1, .int .i64 x.f2], rfl, rfl, ⟨[.int .i64 x.f1], [.int .i64 x.f2], rfl, rfl, rfl⟩⟩
def rd_T97 (xs : List S97) (i : Int) : S97 := xs.getD i.toNat z97
theorem at_T97 {w : World} {A : Option Addr} {n : Nat} {xs : List S97} (h : Kd.C k97 w A n xs) (i : Int) (h0 : 0 ≤ i) (h1 : i < n) : ∃ ad , A = some ad ∧ w.cell? (ad.add (i.toNat * 3)) = some (.string (rd_T97 xs i).f0) ∧ w.cell? ⟨(ad.add (i.toNat * 3)).block, (ad.add (i.toNat * 3)).off + 1, none⟩ = some (.int .i64 (rd_T97 xs i).f1) ∧ w.cell? ⟨(ad.add (i.toNat * 3)).block, (ad.add (i.toNat * 3)).off + 2, none⟩ = some (.int .i64 (rd_T97 xs i).f2) := by
  obtain ⟨ad, c, e, _, hK, hc0⟩ := Kd.C_get h z97 i h0 h1
  have hc : ∀ j u, c[j]? = some u → w.cell? (ad.add (i.toNat * 3 + j)) = some u := hc0
  obtain rfl := k97_open hK
  exact ⟨ad, e, hc 0 _ rfl, by rw [← add_field _ _ 1 (by omega)]; exact hc 1 _ rfl, by rw [← add_field _ _ 2 (by omega)]; exact hc 2 _ rfl⟩
abbrev S61 := Core.Flight
def z61 : S61 := ⟨(⟨#[]⟩ : ByteArray), (0 : Int), (0 : Int), ([] : List S97)⟩
def k61 : Kd S61 := Kd.iso (Kd.pair Kd.string (Kd.pair (Kd.int .i64) (Kd.pair (Kd.int .i64) (Kd.slice 97 k97)))) (fun x : S61 => (x.f0, x.f1, x.f2, x.f3))
theorem k61_open {w : World} {x : S61} {cs : List Value} (h : k61.K w x cs) : ∃ A3 c3, cs = [.string x.f0, .int .i64 x.f1, .int .i64 x.f2, .slice A3 x.f3.length c3] ∧ x.f3.length ≤ c3 ∧ k97.C w A3 x.f3.length x.f3 := by
  obtain ⟨_, _, rfl, rfl, ⟨_, _, rfl, rfl, ⟨_, _, rfl, rfl, ⟨A3, c3, rfl, l3, g3⟩⟩⟩⟩ := h
  exact ⟨A3, c3, rfl, l3, g3⟩
theorem k61_openM {w : World} {base : Nat} {ok : Nat → Prop} {x : S61} {cs : List Value} (h : k61.M w base ok x cs) : ∃ v3, cs = [.string x.f0, .int .i64 x.f1, .int .i64 x.f2, v3] ∧ k97.R 97 w base ok v3 x.f3 := by
  obtain ⟨_, _, rfl, rfl, ⟨_, _, rfl, rfl, ⟨_, _, rfl, rfl, ⟨v3, rfl, g3⟩⟩⟩⟩ := h
  exact ⟨v3, rfl, g3⟩
theorem k61_mk (w : World) (x : S61) {A3 : Option Addr} {c3 : Nat} (l3 : x.f3.length ≤ c3) (g3 : k97.C w A3 x.f3.length x.f3) : k61.K w x [.string x.f0, .int .i64 x.f1, .int .i64 x.f2, .slice A3 x.f3.length c3] := ⟨[.string x.f0], [.int .i64 x.f1, .int .i64 x.f2, .slice A3 x.f3.length c3], rfl, rfl, ⟨[.int .i64 x.f1], [.int .i64 x.f2, .slice A3 x.f3.length c3], rfl, rfl, ⟨[.int .i64 x.f2], [.slice A3 x.f3.length c3], rfl, rfl, ⟨A3, c3, rfl, l3, g3⟩⟩⟩⟩
theorem k61_mkM (w : World) (base : Nat) (ok : Nat → Prop) (x : S61) {v3 : Value} (g3 : k97.R 97 w base ok v3 x.f3) : k61.M w base ok x [.string x.f0, .int .i64 x.f1, .int .i64 x.f2, v3] := ⟨[.string x.f0], [.int .i64 x.f1, .int .i64 x.f2, v3], rfl, rfl, ⟨[.int .i64 x.f1], [.int .i64 x.f2, v3], rfl, rfl, ⟨[.int .i64 x.f2], [v3], rfl, rfl, ⟨v3, rfl, g3⟩⟩⟩⟩
def rd_T61 (xs : List S61) (i : Int) : S61 := xs.getD i.toNat z61
theorem at_T61 {w : World} {A : Option Addr} {n : Nat} {xs : List S61} (h : Kd.C k61 w A n xs) (i : Int) (h0 : 0 ≤ i) (h1 : i < n) : ∃ ad A3 c3, A = some ad ∧ w.cell? (ad.add (i.toNat * 4)) = some (.string (rd_T61 xs i).f0) ∧ w.cell? ⟨(ad.add (i.toNat * 4)).block, (ad.add (i.toNat * 4)).off + 1, none⟩ = some (.int .i64 (rd_T61 xs i).f1) ∧ w.cell? ⟨(ad.add (i.toNat * 4)).block, (ad.add (i.toNat * 4)).off + 2, none⟩ = some (.int .i64 (rd_T61 xs i).f2) ∧ w.cell? ⟨(ad.add (i.toNat * 4)).block, (ad.add (i.toNat * 4)).off + 3, none⟩ = some (.slice A3 (rd_T61 xs i).f3.length c3) ∧ (rd_T61 xs i).f3.length ≤ c3 ∧ k97.C w A3 (rd_T61 xs i).f3.length (rd_T61 xs i).f3 := by
  obtain ⟨ad, c, e, _, hK, hc0⟩ := Kd.C_get h z61 i h0 h1
  have hc : ∀ j u, c[j]? = some u → w.cell? (ad.add (i.toNat * 4 + j)) = some u := hc0
  obtain ⟨A3, c3, rfl, l3, g3⟩ := k61_open hK
  exact ⟨ad, A3, c3, e, hc 0 _ rfl, by rw [← add_field _ _ 1 (by omega)]; exact hc 1 _ rfl, by rw [← add_field _ _ 2 (by omega)]; exact hc 2 _ rfl, by rw [← add_field _ _ 3 (by omega)]; exact hc 3 _ rfl, l3, g3⟩
abbrev S99 := Core.Cap
def z99 : S99 := ⟨(⟨#[]⟩ : ByteArray), (0 : Int)⟩
def k99 : Kd S99 := Kd.iso (Kd.pair Kd.string (Kd.int .i64)) (fun x : S99 => (x.f0, x.f1))
theorem k99_open {w : World} {x : S99} {cs : List Value} (h : k99.K w x cs) : cs = [.string x.f0, .int .i64 x.f1] := by
  obtain ⟨_, _, rfl, rfl, rfl⟩ := h
  exact rfl
theorem k99_openM {w : World} {base : Nat} {ok : Nat → Prop} {x : S99} {cs : List Value} (h : k99.M w base ok x cs) : cs = [.string x.f0, .int .i64 x.f1] := by
  obtain ⟨_, _, rfl, rfl, rfl⟩ := h
  exact rfl
theorem k99_mkM (w : World) (base : Nat) (ok : Nat → Prop) (x : S99)  : k99.M w base ok x [.string x.f0, .int .i64 x.f1] := ⟨[.string x.f0], [.int .i64 x.f1], rfl, rfl, rfl⟩
def rd_T99 (xs : List S99) (i : Int) : S99 := xs.getD i.toNat z99
theorem at_T99 {w : World} {A : Option Addr} {n : Nat} {xs : List S99} (h : Kd.C k99 w A n xs) (i : Int) (h0 : 0 ≤ i) (h1 : i < n) : ∃ ad , A = some ad ∧ w.cell? (ad.add (i.toNat * 2)) = some (.string (rd_T99 xs i).f0) ∧ w.cell? ⟨(ad.add (i.toNat * 2)).block, (ad.add (i.toNat * 2)).off + 1, none⟩ = some (.int .i64 (rd_T99 xs i).f1) := by
  obtain ⟨ad, c, e, _, hK, hc0⟩ := Kd.C_get h z99 i h0 h1
  have hc : ∀ j u, c[j]? = some u → w.cell? (ad.add (i.toNat * 2 + j)) = some u := hc0
  obtain rfl := k99_open hK
  exact ⟨ad, e, hc 0 _ rfl, by rw [← add_field _ _ 1 (by omega)]; exact hc 1 _ rfl⟩
abbrev S85 := Core.Run
def z85 : S85 := ⟨(0 : Int), (0 : Int), (0 : Int)⟩
end Go.Proofs.Ytkfoeplefajkcaa.Q
end
section
namespace Go.Proofs.Ytkfoeplefajkcaa.Q
open Go.RowKit Go.Proofs.YtkfoeplefajkcaaW.PrintWords Go.Proofs.YtkfoeplefajkcaaW.PrintLast Go.Proofs.YtkfoeplefajkcaaW.PrintMore Go.Proofs.Ytkfoeplefajkcaa.Core
set_option linter.unusedVariables false
set_option linter.unusedSimpArgs false
theorem wrap_small {x : Int} (h0 : -1000000000000 ≤ x) (h1 : x ≤ 1000000000000) : wrap64 x = x := by unfold wrap64; omega
theorem strOfNums_one (n : Int) : (strOfNums [n]).size = 1 := by simp [strOfNums, ByteArray.size]
section
variable {α : Type} {d : Kd α} {e base lo hi lo' hi' : Nat} {w w1 : World} {v : Value} {xs : List α} {ok : Nat → Prop}
end
end Go.Proofs.Ytkfoeplefajkcaa.Q
end
section
namespace Go.Proofs.Ytkfoeplefajkcaa.Q
open Go.RowKit Go.Proofs.YtkfoeplefajkcaaW.PrintWords
structure After (W : World) where
  w : World
  hb : Below W.heap.size W w
instance (W : World) : Nonempty (After W) := ⟨⟨W, Below.refl _ _⟩⟩
theorem After.cell {W : World} {a : Addr} {v : Value} (h : W.cell? a = some v) (u : After W) : u.w.cell? a = some v := pw_cell_below u.hb h
theorem below_next {B : Nat} {W w1 w2 : World} (h : Below B W w1) (hB : B ≤ w1.heap.size) (k : Below w1.heap.size w1 w2) : Below B W w2 := below_then h hB k
theorem wp_region_after {P : Program} {id : Nat} {Q : Exit → Act → World → Prop} {a : Act} {w : World} {l : List Oper} (hm : P.follows .mixedOrders = true) (hB : Region.lexB .any l.toArray = true)
    (h : wpQuiet P l.toArray (fun w' => ∃ u : After w, w' = u.w) (fun a' => ∀ w', (∃ u : After w, w' = u.w) → Q .normal a' w') l a) : (Code.region id l.toArray true).wp P Q a w :=
  wp_region_quiet (C := fun w' => ∃ u : After w, w' = u.w) hm hB ⟨⟨_, below_drew (Below.refl _ _)⟩, rfl⟩ (by simpa using h)
theorem calls_after {P : Program} {f : FuncId} {args : Array Value} {W : World} {u : After W} {v : Value} (h : Calls P f args u.w fun e w'' => e = .returned v ∧ Below u.w.heap.size u.w w'') :
    Calls P f args u.w fun e w'' => e = .returned v ∧ ∃ u' : After W, w'' = u'.w :=
  h.mono fun _ w'' ⟨he, hk⟩ => ⟨he, ⟨⟨w'', below_next u.hb u.hb.size hk⟩, rfl⟩⟩
theorem calls_after_same {P : Program} {f : FuncId} {args : Array Value} {W : World} {u : After W} {v : Value} (h : Calls P f args u.w fun e w'' => e = .returned v ∧ w'' = u.w) :
    Calls P f args u.w fun e w'' => e = .returned v ∧ ∃ u' : After W, w'' = u'.w :=
  h.mono fun _ _ ⟨he, hk⟩ => ⟨he, u, hk⟩
end Go.Proofs.Ytkfoeplefajkcaa.Q
end
section
namespace Go.Proofs.Ytkfoeplefajkcaa.Q
open Go.RowKit Go.Proofs.YtkfoeplefajkcaaW.PrintWords Go.Proofs.Ytkfoeplefajkcaa.Core
set_option linter.unusedVariables false
set_option linter.unusedSimpArgs false
theorem impl_in_any (a b c : Int) (w : World) : Calls Try.prog 125 #[.int .i64 a, .int .i64 b, .int .i64 c] w fun e w' => e = .returned (.bool (inB a b c)) ∧ w = w' := by
  by_cases h : b ≤ a
  · have h1 : decide (b ≤ a) = true := decide_eq_true h
    go_enter Try.func125, Try.ntmps125
    go_wp2
    go_ret
    exact ⟨by simp [inB, h1], rfl⟩
  · have h1 : decide (b ≤ a) = false := decide_eq_false h
    go_enter Try.func125, Try.ntmps125
    go_wp2
    go_ret
    exact ⟨by simp [inB, h1], rfl⟩
theorem spec_in_any (a b c : Int) (w : World) : Calls Try.prog 127 #[.int .i64 a, .int .i64 b, .int .i64 c] w fun e w' => e = .returned (.bool (inB a b c)) ∧ w = w' := by
  by_cases h : b ≤ a
  · have h1 : decide (b ≤ a) = true := decide_eq_true h
    go_enter Try.func127, Try.ntmps127
    go_wp2
    go_ret
    exact ⟨by simp [inB, h1], rfl⟩
  · have h1 : decide (b ≤ a) = false := decide_eq_false h
    go_enter Try.func127, Try.ntmps127
    go_wp2
    go_ret
    exact ⟨by simp [inB, h1], rfl⟩
theorem ret_bool {a b : Bool} (h : a = b) : Ending.returned (.bool a) = .returned (.bool b) := by rw [h]
def nameFrom (s : ByteArray) (k : Nat) : Bool := (s.data.toList.drop k).all fun c => okByte c.toNat
theorem nameFrom_end (s : ByteArray) : nameFrom s s.size = true := by
  unfold nameFrom
  rw [List.drop_of_length_le (by simp)]
  rfl
theorem nameFrom_step (s : ByteArray) (k : Nat) (h : k < s.size) : nameFrom s k = (okByte (bt s k) && nameFrom s (k + 1)) := by
  unfold nameFrom
  have hl : k < s.data.toList.length := by simpa using h
  rw [List.drop_eq_getElem_cons hl, List.all_cons]
  have e : bt s (k : Int) = ((s.data.toList[k]).toNat : Int) := by
    unfold bt
    rw [dif_pos (show (k : Int).toNat < s.size from h)]
    rfl
  rw [e]
theorem nameB_from {s : ByteArray} (h : inB s.size 1 8 = true) : nameB s = nameFrom s 0 := by unfold nameB nameFrom; rw [h, List.drop_zero, Bool.true_and]
theorem byte_cases (c : Int) : (decide (97 ≤ c) = true ∧ decide (c ≤ 122) = true ∧ Hid (okByte c = true)) ∨
    (decide (97 ≤ c) = true ∧ decide (c ≤ 122) = false ∧ decide (48 ≤ c) = true ∧ decide (c ≤ 57) = false ∧ (c == 45) = false ∧ Hid (okByte c = false)) ∨
    (decide (97 ≤ c) = false ∧ decide (48 ≤ c) = true ∧ decide (c ≤ 57) = true ∧ Hid (okByte c = true)) ∨
    (decide (97 ≤ c) = false ∧ decide (48 ≤ c) = true ∧ decide (c ≤ 57) = false ∧ (c == 45) = false ∧ Hid (okByte c = false)) ∨
    (decide (97 ≤ c) = false ∧ decide (48 ≤ c) = false ∧ (c == 45) = true ∧ Hid (okByte c = true)) ∨
    (decide (97 ≤ c) = false ∧ decide (48 ≤ c) = false ∧ (c == 45) = false ∧ Hid (okByte c = false)) := by
  unfold Hid okByte
  by_cases a : 97 ≤ c <;> by_cases b : c ≤ 122 <;> by_cases d : 48 ≤ c <;> by_cases e : c ≤ 57 <;> by_cases f : c = 45 <;> simp [a, b, d, e, f] <;> omega
set_option maxHeartbeats 1000000 in
theorem impl_name_any (s : ByteArray) (w : World) : Calls Try.prog 124 #[.string s] w fun e w' => e = .returned (.bool (nameB s)) ∧ w = w' := by
  cases hi : inB s.size 1 8 with
  | false =>
    have HI := Lib.hid hi
    clear hi
    go_enter Try.func124, Try.ntmps124
    go_wp2_with (go_at_call 125; refine (impl_in_any _ _ _ _).mono ?_; rintro e w' ⟨rfl, rfl⟩; rw [HI.out])
    go_ret
    exact ⟨by simp [nameB, HI.out], rfl⟩
  | true =>
    have hs : s.size ≤ 8 := by have := (by simpa [inB] using hi : 1 ≤ (s.size : Int) ∧ (s.size : Int) ≤ 8); omega
    have HI := Lib.hid hi
    clear hi
    go_enter Try.func124, Try.ntmps124
    go_wp2_with (go_at_call 125; refine (impl_in_any _ _ _ _).mono ?_; rintro e w' ⟨rfl, rfl⟩; rw [HI.out])
    go_loop [3] (fun v => ∃ k : Nat, k ≤ s.size ∧ v = .int .i64 k ∧ Hid (nameFrom s k = nameFrom s 0)) (fun v => s.size - (intOf v).toNat)
    case atStart => exact ⟨0, Nat.zero_le _, rfl, rfl⟩
    case round =>
      obtain ⟨k, hk, rfl, hN⟩ := hrel
      by_cases hlt : k < s.size
      · have hst := Lib.hid (nameFrom_step s k hlt)
        have hb := Lib.hid (bt_at s k hlt)
        have bc := byte_cases ((s[k]'hlt).toNat : Int)
        rcases bc with ⟨c1, c2, ho⟩ | ⟨c1, c2, c3, c4, c5, ho⟩ | ⟨c1, c2, c3, ho⟩ | ⟨c1, c2, c3, c4, ho⟩ | ⟨c1, c2, c3, ho⟩ | ⟨c1, c2, c3, ho⟩
        all_goals
          go_wp2
          first
          | (go_ret; exact ⟨ret_bool (by rw [nameB_from HI.out, ← hN.out, hst.out, ← hb.out]; exact (congrArg (· && _) ho.out).symm), rfl⟩)
          | (go_round
             case rel => exact ⟨k + 1, by omega, by go_num, by show _ = _; rw [← hN.out, hst.out, ← hb.out]; exact (congrArg (· && _) ho.out).symm⟩
             case measure => simp [intOf]; omega)
      · go_wp2
        go_ret
        obtain rfl : k = s.size := by omega
        exact ⟨ret_bool (by rw [nameB_from HI.out, ← hN.out, nameFrom_end]), rfl⟩
set_option maxHeartbeats 1000000 in
theorem spec_name_any (s : ByteArray) (w : World) : Calls Try.prog 126 #[.string s] w fun e w' => e = .returned (.bool (nameB s)) ∧ w = w' := by
  cases hi : inB s.size 1 8 with
  | false =>
    have HI := Lib.hid hi
    clear hi
    go_enter Try.func126, Try.ntmps126
    go_wp2_with (go_at_call 127; refine (spec_in_any _ _ _ _).mono ?_; rintro e w' ⟨rfl, rfl⟩; rw [HI.out])
    go_ret
    exact ⟨by simp [nameB, HI.out], rfl⟩
  | true =>
    have hs : s.size ≤ 8 := by have := (by simpa [inB] using hi : 1 ≤ (s.size : Int) ∧ (s.size : Int) ≤ 8); omega
    have HI := Lib.hid hi
    clear hi
    go_enter Try.func126, Try.ntmps126
    go_wp2_with (go_at_call 127; refine (spec_in_any _ _ _ _).mono ?_; rintro e w' ⟨rfl, rfl⟩; rw [HI.out])
    go_loop [3] (fun v => ∃ k : Nat, k ≤ s.size ∧ v = .int .i64 k ∧ Hid (nameFrom s k = nameFrom s 0)) (fun v => s.size - (intOf v).toNat)
    case atStart => exact ⟨0, Nat.zero_le _, rfl, rfl⟩
    case round =>
      obtain ⟨k, hk, rfl, hN⟩ := hrel
      by_cases hlt : k < s.size
      · have hst := Lib.hid (nameFrom_step s k hlt)
        have hb := Lib.hid (bt_at s k hlt)
        have bc := byte_cases ((s[k]'hlt).toNat : Int)
        rcases bc with ⟨c1, c2, ho⟩ | ⟨c1, c2, c3, c4, c5, ho⟩ | ⟨c1, c2, c3, ho⟩ | ⟨c1, c2, c3, c4, ho⟩ | ⟨c1, c2, c3, ho⟩ | ⟨c1, c2, c3, ho⟩
        all_goals
          go_wp2
          first
          | (go_ret; exact ⟨ret_bool (by rw [nameB_from HI.out, ← hN.out, hst.out, ← hb.out]; exact (congrArg (· && _) ho.out).symm), rfl⟩)
          | (go_round
             case rel => exact ⟨k + 1, by omega, by go_num, by show _ = _; rw [← hN.out, hst.out, ← hb.out]; exact (congrArg (· && _) ho.out).symm⟩
             case measure => simp [intOf]; omega)
      · go_wp2
        go_ret
        obtain rfl : k = s.size := by omega
        exact ⟨ret_bool (by rw [nameB_from HI.out, ← hN.out, nameFrom_end]), rfl⟩
end Go.Proofs.Ytkfoeplefajkcaa.Q
end
section
namespace Go.Proofs.Ytkfoeplefajkcaa.Q
open Go.RowKit Go.Proofs.YtkfoeplefajkcaaW.PrintWords Go.Proofs.Ytkfoeplefajkcaa.Core
set_option linter.unusedVariables false
set_option linter.unusedSimpArgs false
theorem cell_al {w : World} {a : Addr} {v : Value} (h : w.cell? a = some v) (o : Obj) : (w.alloc o).cell? a = some v := pw_cell_below ((Below.refl _ _).alloc (Nat.le_refl _) o) h
theorem capAt {w : World} {A : Option Addr} {xs : List Cap} (h : Kd.C k99 w A xs.length xs) (k : Nat) (hk : k < xs.length) :
    ∃ ad c, A = some ad ∧ xs[k]? = some c ∧ w.cell? (ad.add (k * 2)) = some (.string c.f0) ∧ w.cell? ⟨(ad.add (k * 2)).block, (ad.add (k * 2)).off + 1, none⟩ = some (.int .i64 c.f1) := by
  obtain ⟨ad, e, h0, h1⟩ := at_T99 h k (by omega) (by omega)
  have er : rd_T99 xs k = xs[k] := by
    unfold rd_T99
    rw [Int.toNat_natCast, List.getD_eq_getElem?_getD, List.getElem?_eq_getElem hk]
    rfl
  rw [er] at h0 h1
  exact ⟨ad, xs[k], e, List.getElem?_eq_getElem hk, h0, h1⟩
set_option maxHeartbeats 1000000 in
theorem impl_capsOk_any (A : Option Addr) (c : Nat) (l : List Cap) (w : World) (hr : Kd.C k99 w A l.length l) (hc : l.length ≤ 9223372036854775807) :
    Calls Try.prog 58 #[.slice A l.length c] w fun e w' => e = .returned (.bool (capsB l)) ∧ Below w.heap.size w w' := by
  by_cases hn : 6 < l.length
  · have h1 : decide ((6 : Int) < l.length) = true := by simp; omega
    have h2 : decide (6 < l.length) = true := by simp; omega
    go_enter Try.func58, Try.ntmps58
    go_wp2
    go_ret
    exact ⟨ret_bool (by simp [capsB]; omega), Below.refl _ _⟩
  · have h1 : decide ((6 : Int) < l.length) = false := by simp; omega
    have h2 : decide (6 < l.length) = false := by simp; omega
    have hB : Hid (capsB l = fromB capB bySector l 0) := by
      show _ = _
      rw [fromB_zero]; unfold capsB
      rw [decide_eq_true (by omega : l.length ≤ 6), Bool.true_and]
    go_enter Try.func58, Try.ntmps58
    go_wp2
    go_loopw [10] (fun v wr => ∃ k : Nat, k ≤ l.length ∧ v = .int .i64 k ∧ Hid (fromB capB bySector l k = fromB capB bySector l 0) ∧ Below w.heap.size w wr) (fun v _ => l.length - (intOf v).toNat)
    case atStart => exact ⟨0, Nat.zero_le _, rfl, rfl, Below.refl _ _⟩
    case round =>
      obtain ⟨k, hk, rfl, hF, hb⟩ := hrel
      by_cases hlt : k < l.length
      · obtain ⟨ad, x, rfl, hx, x0, x1⟩ := capAt (Kd.C_below hr hb) k hlt
        have hX := Lib.hid hx
        clear hx
        have qn : ∀ W : World, Calls Try.prog 124 #[.string x.f0] W fun e w' => e = .returned (.bool (nameB x.f0)) ∧ w' = W := fun W => (impl_name_any _ W).mono fun _ _ h => ⟨h.1, h.2.symm⟩
        have qi : ∀ W : World, Calls Try.prog 125 #[.int .i64 x.f1, .int .i64 0, .int .i64 20] W fun e w' => e = .returned (.bool (inB x.f1 0 20)) ∧ w' = W := fun W => (impl_in_any _ _ _ W).mono fun _ _ h => ⟨h.1, h.2.symm⟩
        have QN := Lib.hid qn
        have QI := Lib.hid qi
        clear qn qi
        cases hn : nameB x.f0 with
        | false =>
          go_wp2
          go_quiet (first | (go_at_call 124; exact Calls.quiet_of_same (QN.out _)))
          go_wp2
          go_ret
          exact ⟨ret_bool (by rw [hB.out, ← hF.out, fromB_bad _ _ _ _ _ hX.out (by simp [capB, hn])]), pw_below_drewN (hb.alloc hb.size _) _⟩
        | true =>
        cases hi : inB x.f1 0 20 with
        | false =>
          go_wp2
          go_quiet (first | (go_at_call 124; exact Calls.quiet_of_same (QN.out _)) | (go_at_call 125; exact Calls.quiet_of_same (QI.out _)))
          go_wp2
          go_ret
          exact ⟨ret_bool (by rw [hB.out, ← hF.out, fromB_bad _ _ _ _ _ hX.out (by simp [capB, hn, hi])]), pw_below_drewN (hb.alloc hb.size _) _⟩
        | true =>
        by_cases hk0 : k = 0
        · have j1 : decide (0 < k) = false := decide_eq_false (by omega)
          have K0 := Lib.hid hk0
          clear hk0
          go_wp2
          go_quiet (first | (go_at_call 124; exact Calls.quiet_of_same (QN.out _)) | (go_at_call 125; exact Calls.quiet_of_same (QI.out _)))
          go_wp2
          go_roundw
          case rel => exact ⟨k + 1, by omega, by go_num, by show _ = _; rw [← hF.out, fromB_good0 _ _ _ _ _ K0.out hX.out (by simp [capB, hn, hi])], pw_below_drewN (hb.alloc hb.size _) _⟩
          case measure => simp [intOf]; omega
        · obtain ⟨k, rfl⟩ : ∃ j, k = j + 1 := ⟨k - 1, by omega⟩
          clear hk0
          obtain ⟨ad2, p, e2, hp, p0, p1⟩ := capAt (Kd.C_below hr hb) k (by omega)
          obtain rfl : ad = ad2 := by injection e2
          have HP := Lib.hid hp
          have p0 := cell_al p0
          clear hp e2
          have j1 : decide (0 < (k : Int) + 1) = true := decide_eq_true (by omega)
          have j2 : (k : Int) < l.length := by omega
          have j3 : IntKind.i64.wrap (k : Int) = k := IntWalk.i64_in _ (by omega)
          cases hle : lessB p.f0 x.f0 with
          | false =>
            have hl : Op.bytesLess p.f0.toList x.f0.toList = false := hle
            go_wp2
            go_quiet (first | (go_at_call 124; exact Calls.quiet_of_same (QN.out _)) | (go_at_call 125; exact Calls.quiet_of_same (QI.out _)))
            go_wp2
            go_ret
            exact ⟨ret_bool (by rw [hB.out, ← hF.out, fromB_bad2 _ _ _ _ _ _ HP.out hX.out hle]), pw_below_drewN (hb.alloc hb.size _) _⟩
          | true =>
            have hl : Op.bytesLess p.f0.toList x.f0.toList = true := hle
            go_wp2
            go_quiet (first | (go_at_call 124; exact Calls.quiet_of_same (QN.out _)) | (go_at_call 125; exact Calls.quiet_of_same (QI.out _)))
            go_wp2
            go_roundw
            case rel => exact ⟨k + 1 + 1, by omega, by go_num, by show _ = _; rw [← hF.out, fromB_good _ _ _ _ _ _ HP.out hX.out (by simp [capB, hn, hi]) hle], pw_below_drewN (hb.alloc hb.size _) _⟩
            case measure => simp [intOf]; omega
      · go_wp2
        go_ret
        obtain rfl : k = l.length := by omega
        exact ⟨ret_bool (by rw [hB.out, ← hF.out, fromB_end _ _ _ _ (Nat.le_refl _)]), hb⟩
end Go.Proofs.Ytkfoeplefajkcaa.Q
end
section
namespace Go.Proofs.Ytkfoeplefajkcaa.Q
open Go.RowKit Go.Proofs.YtkfoeplefajkcaaW.PrintWords Go.Proofs.Ytkfoeplefajkcaa.Core
set_option linter.unusedVariables false
set_option linter.unusedSimpArgs false
theorem visitAt {w : World} {A : Option Addr} {xs : List Visit} (h : Kd.C k97 w A xs.length xs) (k : Nat) (hk : k < xs.length) :
    ∃ ad c, A = some ad ∧ xs[k]? = some c ∧ w.cell? (ad.add (k * 3)) = some (.string c.f0) ∧ w.cell? ⟨(ad.add (k * 3)).block, (ad.add (k * 3)).off + 1, none⟩ = some (.int .i64 c.f1) ∧
      w.cell? ⟨(ad.add (k * 3)).block, (ad.add (k * 3)).off + 2, none⟩ = some (.int .i64 c.f2) := by
  obtain ⟨ad, e, h0, h1, h2⟩ := at_T97 h k (by omega) (by omega)
  have er : rd_T97 xs k = xs[k] := by
    unfold rd_T97
    rw [Int.toNat_natCast, List.getD_eq_getElem?_getD, List.getElem?_eq_getElem hk]
    rfl
  rw [er] at h0 h1 h2
  exact ⟨ad, xs[k], e, List.getElem?_eq_getElem hk, h0, h1, h2⟩
theorem visitB_parts {v : Visit} (h : visitB v = true) : nameB v.f0 = true ∧ 0 ≤ v.f1 ∧ v.f1 ≤ 200 ∧ 1 ≤ v.f2 ∧ v.f2 ≤ 30 := by
  simp only [visitB, inB, Bool.and_eq_true, decide_eq_true_eq] at h
  exact ⟨h.1.1, h.1.2.1, h.1.2.2, h.2.1, h.2.2⟩
set_option maxHeartbeats 2000000 in
theorem impl_flightOk_any (A : Option Addr) (c : Nat) (f : Flight) (w : World) (hr : Kd.C k97 w A f.f3.length f.f3) (hc : f.f3.length ≤ 9223372036854775807) :
    Calls Try.prog 101 #[.agg #[.string f.f0, .int .i64 f.f1, .int .i64 f.f2, .slice A f.f3.length c]] w fun e w' => e = .returned (.bool (flightB f)) ∧ Below w.heap.size w w' := by
  obtain ⟨f0, f1, f2, l⟩ := f
  simp only at hr hc ⊢
  cases hn : nameB f0 with
  | false =>
    go_enter Try.func101, Try.ntmps101
    go_wp2_with (first | (go_at_call 124; refine (impl_name_any _ _).mono ?_; rintro e w' ⟨rfl, rfl⟩; rw [hn]))
    go_ret
    exact ⟨ret_bool (by simp [flightB, hn]), (Below.refl _ _).alloc (Nat.le_refl _) _⟩
  | true =>
  cases hp : inB f1 0 10000 with
  | false =>
    go_enter Try.func101, Try.ntmps101
    go_wp2_with (first | (go_at_call 124; refine (impl_name_any _ _).mono ?_; rintro e w' ⟨rfl, rfl⟩; rw [hn]) | (go_at_call 125; refine (impl_in_any _ _ _ _).mono ?_; rintro e w' ⟨rfl, rfl⟩))
    go_ret
    exact ⟨ret_bool (by simp [flightB, hn, hp]), (Below.refl _ _).alloc (Nat.le_refl _) _⟩
  | true =>
  cases hq : inB f2 0 60 with
  | false =>
    go_enter Try.func101, Try.ntmps101
    go_wp2_with (first | (go_at_call 124; refine (impl_name_any _ _).mono ?_; rintro e w' ⟨rfl, rfl⟩; rw [hn]) | (go_at_call 125; refine (impl_in_any _ _ _ _).mono ?_; rintro e w' ⟨rfl, rfl⟩))
    go_ret
    exact ⟨ret_bool (by simp [flightB, hn, hp, hq]), (Below.refl _ _).alloc (Nat.le_refl _) _⟩
  | true =>
  cases hl : inB l.length 1 5 with
  | false =>
    go_enter Try.func101, Try.ntmps101
    go_wp2_with (first | (go_at_call 124; refine (impl_name_any _ _).mono ?_; rintro e w' ⟨rfl, rfl⟩; rw [hn]) | (go_at_call 125; refine (impl_in_any _ _ _ _).mono ?_; rintro e w' ⟨rfl, rfl⟩))
    go_ret
    exact ⟨ret_bool (by simp [flightB, visitsB, hn, hp, hq, hl]), (Below.refl _ _).alloc (Nat.le_refl _) _⟩
  | true =>
    have hB : Hid (flightB ⟨f0, f1, f2, l⟩ = fromB visitB apartB l 0) := by
      show _ = _
      rw [fromB_zero]; simp [flightB, visitsB, hn, hp, hq, hl]
    go_enter Try.func101, Try.ntmps101
    go_wp2_with (first | (go_at_call 124; refine (impl_name_any _ _).mono ?_; rintro e w' ⟨rfl, rfl⟩; rw [hn]) | (go_at_call 125; refine (impl_in_any _ _ _ _).mono ?_; rintro e w' ⟨rfl, rfl⟩))
    clear hn hp hq hl
    go_loopw [31] (fun v wr => ∃ k : Nat, k ≤ l.length ∧ v = .int .i64 k ∧ Hid (fromB visitB apartB l k = fromB visitB apartB l 0) ∧ Hid (∀ j p, j < k → l[j]? = some p → visitB p = true) ∧ Below (w.heap.size + 1) (w.alloc (.cells #[.string f0, .int .i64 f1, .int .i64 f2, .slice A l.length c] 61)) wr) (fun v _ => l.length - (intOf v).toNat)
    case atStart => exact ⟨0, Nat.zero_le _, rfl, rfl, fun j p h => absurd h (Nat.not_lt_zero _), Below.refl _ _⟩
    case round =>
      obtain ⟨k, hk, rfl, hF, hV, hb⟩ := hrel
      have hsz : w.heap.size + 1 ≤ wr.heap.size := by have := hb.size; simpa using this
      have hbw : Below w.heap.size w wr := ((Below.refl _ _).alloc (Nat.le_refl _) _).trans (hb.mono (by omega))
      have hBW := Lib.hid hbw
      by_cases hlt : k < l.length
      · obtain ⟨ad, x, rfl, hx, x0, x1, x2⟩ := visitAt (Kd.C_below hr hbw) k hlt
        have hX := Lib.hid hx
        have c3 : wr.cell? ⟨w.heap.size, 3, none⟩ = some (.slice (some ad) l.length c) := (hb.cell (p := ⟨w.heap.size, 3, none⟩) (by simp)).trans (by simp)
        clear hx hbw
        have qn : ∀ W : World, Calls Try.prog 124 #[.string x.f0] W fun e w' => e = .returned (.bool (nameB x.f0)) ∧ w' = W := fun W => (impl_name_any _ W).mono fun _ _ h => ⟨h.1, h.2.symm⟩
        have qi : ∀ a b d (W : World), Calls Try.prog 125 #[.int .i64 a, .int .i64 b, .int .i64 d] W fun e w' => e = .returned (.bool (inB a b d)) ∧ w' = W := fun a b d W => (impl_in_any _ _ _ W).mono fun _ _ h => ⟨h.1, h.2.symm⟩
        have QN := Lib.hid qn
        have QI := Lib.hid qi
        clear qn qi
        cases hn : nameB x.f0 with
        | false =>
          go_wp2
          go_quiet (first | (go_at_call 124; exact Calls.quiet_of_same (QN.out _)) | (go_at_call 125; exact Calls.quiet_of_same (QI.out _ _ _ _)))
          go_wp2
          go_ret
          exact ⟨ret_bool (by rw [hB.out, ← hF.out, fromB_bad _ _ _ _ _ hX.out (by simp [visitB, hn])]), pw_below_drewN (hBW.out.alloc hBW.out.size _) _⟩
        | true =>
        cases hi : inB x.f1 0 200 with
        | false =>
          go_wp2
          go_quiet (first | (go_at_call 124; exact Calls.quiet_of_same (QN.out _)) | (go_at_call 125; exact Calls.quiet_of_same (QI.out _ _ _ _)))
          go_wp2
          go_ret
          exact ⟨ret_bool (by rw [hB.out, ← hF.out, fromB_bad _ _ _ _ _ hX.out (by simp [visitB, hn, hi])]), pw_below_drewN (hBW.out.alloc hBW.out.size _) _⟩
        | true =>
        cases hj : inB x.f2 1 30 with
        | false =>
          go_wp2
          go_quiet (first | (go_at_call 124; exact Calls.quiet_of_same (QN.out _)) | (go_at_call 125; exact Calls.quiet_of_same (QI.out _ _ _ _)))
          go_wp2
          go_ret
          exact ⟨ret_bool (by rw [hB.out, ← hF.out, fromB_bad _ _ _ _ _ hX.out (by simp [visitB, hn, hi, hj])]), pw_below_drewN (hBW.out.alloc hBW.out.size _) _⟩
        | true =>
        have hok : visitB x = true := by simp [visitB, hn, hi, hj]
        have hV' : Hid (∀ j p, j < k + 1 → l[j]? = some p → visitB p = true) := fun j p h1 h2 => by
          rcases Nat.lt_or_ge j k with h3 | h3
          · exact hV.out j p h3 h2
          · obtain rfl : j = k := by omega
            rw [hX.out] at h2
            injection h2 with h2
            rw [← h2]; exact hok
        have HOK := Lib.hid hok
        clear hok
        by_cases hk0 : k = 0
        · have j1 : decide (0 < k) = false := decide_eq_false (by omega)
          have K0 := Lib.hid hk0
          clear hk0
          go_wp2
          go_quiet (first | (go_at_call 124; exact Calls.quiet_of_same (QN.out _)) | (go_at_call 125; exact Calls.quiet_of_same (QI.out _ _ _ _)))
          go_wp2
          go_roundw
          case rel => exact ⟨k + 1, by omega, by go_num, by show _ = _; rw [← hF.out, fromB_good0 _ _ _ _ _ K0.out hX.out HOK.out], hV', pw_below_drewN (hb.alloc (by simpa using hsz) _) _⟩
          case measure => simp [intOf]; omega
        · obtain ⟨k, rfl⟩ : ∃ j, k = j + 1 := ⟨k - 1, by omega⟩
          clear hk0
          obtain ⟨ad2, p, e2, hp, p0, p1, p2⟩ := visitAt (Kd.C_below hr hBW.out) k (by omega)
          obtain rfl : ad = ad2 := by injection e2
          have pb := visitB_parts (hV.out k p (by omega) hp)
          obtain ⟨_, pb1, pb2, pb3, pb4⟩ := pb
          have HP := Lib.hid hp
          have p1 := cell_al p1
          have p2 := cell_al p2
          have c3 := cell_al c3
          clear hp e2 p0
          have j1 : decide (0 < (k : Int) + 1) = true := decide_eq_true (by omega)
          have j2 : (k : Int) < l.length := by omega
          have j3 : IntKind.i64.wrap (k : Int) = k := IntWalk.i64_in _ (by omega)
          have j4 : IntKind.i64.wrap (p.f1 + p.f2) = p.f1 + p.f2 := IntWalk.i64_in _ (by omega)
          clear pb1 pb2 pb3 pb4
          cases hle : apartB p x with
          | false =>
            have hl : decide (x.f1 < p.f1 + p.f2) = true := by simp only [apartB, decide_eq_false_iff_not] at hle; exact decide_eq_true (by omega)
            go_wp2
            go_quiet (first | (go_at_call 124; exact Calls.quiet_of_same (QN.out _)) | (go_at_call 125; exact Calls.quiet_of_same (QI.out _ _ _ _)))
            go_wp2
            go_ret
            exact ⟨ret_bool (by rw [hB.out, ← hF.out, fromB_bad2 _ _ _ _ _ _ HP.out hX.out hle]), pw_below_drewN (hBW.out.alloc hBW.out.size _) _⟩
          | true =>
            have hl : decide (x.f1 < p.f1 + p.f2) = false := by simp only [apartB, decide_eq_true_eq] at hle; exact decide_eq_false (by omega)
            go_wp2
            go_quiet (first | (go_at_call 124; exact Calls.quiet_of_same (QN.out _)) | (go_at_call 125; exact Calls.quiet_of_same (QI.out _ _ _ _)))
            go_wp2
            go_roundw
            case rel => exact ⟨k + 1 + 1, by omega, by go_num, by show _ = _; rw [← hF.out, fromB_good _ _ _ _ _ _ HP.out hX.out HOK.out hle], hV', pw_below_drewN (hb.alloc (by simpa using hsz) _) _⟩
            case measure => simp [intOf]; omega
      · go_wp2
        go_ret
        obtain rfl : k = l.length := by omega
        exact ⟨ret_bool (by rw [hB.out, ← hF.out, fromB_end _ _ _ _ (Nat.le_refl _)]), hBW.out⟩
end Go.Proofs.Ytkfoeplefajkcaa.Q
end
section
namespace Go.Proofs.Ytkfoeplefajkcaa.Q
open Go.RowKit Go.Proofs.YtkfoeplefajkcaaW.PrintWords Go.Proofs.Ytkfoeplefajkcaa.Core
set_option linter.unusedVariables false
set_option linter.unusedSimpArgs false
theorem flightAt {w : World} {A : Option Addr} {xs : List Flight} (h : Kd.C k61 w A xs.length xs) (k : Nat) (hk : k < xs.length) :
    ∃ ad x A3 c3, A = some ad ∧ xs[k]? = some x ∧ w.cell? (ad.add (k * 4)) = some (.string x.f0) ∧ w.cell? ⟨(ad.add (k * 4)).block, (ad.add (k * 4)).off + 1, none⟩ = some (.int .i64 x.f1) ∧
      w.cell? ⟨(ad.add (k * 4)).block, (ad.add (k * 4)).off + 2, none⟩ = some (.int .i64 x.f2) ∧ w.cell? ⟨(ad.add (k * 4)).block, (ad.add (k * 4)).off + 3, none⟩ = some (.slice A3 x.f3.length c3) ∧
      x.f3.length ≤ c3 ∧ Kd.C k97 w A3 x.f3.length x.f3 := by
  obtain ⟨ad, A3, c3, e, h0, h1, h2, h3, h4, h5⟩ := at_T61 h k (by omega) (by omega)
  have er : rd_T61 xs k = xs[k] := by
    unfold rd_T61
    rw [Int.toNat_natCast, List.getD_eq_getElem?_getD, List.getElem?_eq_getElem hk]
    rfl
  rw [er] at h0 h1 h2 h3 h4 h5
  exact ⟨ad, xs[k], A3, c3, e, List.getElem?_eq_getElem hk, h0, h1, h2, h3, h4, h5⟩
theorem C_len {α : Type} {d : Kd α} {w : World} {A : Option Addr} {n : Nat} {xs : List α} (h : d.C w A n xs) : n ≤ 9223372036854775807 := h.2.1
set_option maxHeartbeats 2000000 in
theorem impl_flightsOk_any (A : Option Addr) (c : Nat) (l : List Flight) (w : World) (hr : Kd.C k61 w A l.length l) (hc : l.length ≤ 9223372036854775807) :
    Calls Try.prog 82 #[.slice A l.length c] w fun e w' => e = .returned (.bool (flightsB l)) ∧ Below w.heap.size w w' := by
  by_cases hn : 8 < l.length
  · have h1 : decide ((8 : Int) < l.length) = true := by simp; omega
    have h2 : decide (8 < l.length) = true := by simp; omega
    go_enter Try.func82, Try.ntmps82
    go_wp2
    go_ret
    exact ⟨ret_bool (by simp [flightsB]; omega), Below.refl _ _⟩
  · have h1 : decide ((8 : Int) < l.length) = false := by simp; omega
    have h2 : decide (8 < l.length) = false := by simp; omega
    have hB : Hid (flightsB l = fromB flightB byName l 0) := by
      show _ = _
      rw [fromB_zero]; unfold flightsB
      rw [decide_eq_true (by omega : l.length ≤ 8), Bool.true_and]
    go_enter Try.func82, Try.ntmps82
    go_wp2
    go_loopw [10] (fun v wr => ∃ k : Nat, k ≤ l.length ∧ v = .int .i64 k ∧ Hid (fromB flightB byName l k = fromB flightB byName l 0) ∧ Below w.heap.size w wr) (fun v _ => l.length - (intOf v).toNat)
    case atStart => exact ⟨0, Nat.zero_le _, rfl, rfl, Below.refl _ _⟩
    case round =>
      obtain ⟨k, hk, rfl, hF, hb⟩ := hrel
      by_cases hlt : k < l.length
      · obtain ⟨ad, x, A3, c3, rfl, hx, x0, x1, x2, x3, hl3, hr3⟩ := flightAt (Kd.C_below hr hb) k hlt
        have hX := Lib.hid hx
        clear hx
        have HR := Lib.hid hr3
        clear hr3 hl3
        have hs : (wr.alloc (.cells #[.string x.f0, .int .i64 x.f1, .int .i64 x.f2, .slice A3 x.f3.length c3] 61)).heap.size = wr.heap.size + 1 := by simp
        have qf : ∀ u : After (wr.alloc (.cells #[.string x.f0, .int .i64 x.f1, .int .i64 x.f2, .slice A3 x.f3.length c3] 61)), Calls Try.prog 101 #[.agg #[.string x.f0, .int .i64 x.f1, .int .i64 x.f2, .slice A3 x.f3.length c3]] u.w fun e w' => e = .returned (.bool (flightB x)) ∧ Below u.w.heap.size u.w w' :=
          fun u => impl_flightOk_any _ _ x _ (Kd.C_below (Kd.C_below HR.out ((Below.refl _ _).alloc (Nat.le_refl _) _)) u.hb) (C_len HR.out)
        have QF := Lib.hid qf
        have b0 := After.cell (W := wr.alloc (.cells #[.string x.f0, .int .i64 x.f1, .int .i64 x.f2, .slice A3 x.f3.length c3] 61)) (a := ⟨wr.heap.size, 0, none⟩) (v := .string x.f0) (by simp)
        have b1 := After.cell (W := wr.alloc (.cells #[.string x.f0, .int .i64 x.f1, .int .i64 x.f2, .slice A3 x.f3.length c3] 61)) (a := ⟨wr.heap.size, 1, none⟩) (v := .int .i64 x.f1) (by simp)
        have b2 := After.cell (W := wr.alloc (.cells #[.string x.f0, .int .i64 x.f1, .int .i64 x.f2, .slice A3 x.f3.length c3] 61)) (a := ⟨wr.heap.size, 2, none⟩) (v := .int .i64 x.f2) (by simp)
        have b3 := After.cell (W := wr.alloc (.cells #[.string x.f0, .int .i64 x.f1, .int .i64 x.f2, .slice A3 x.f3.length c3] 61)) (a := ⟨wr.heap.size, 3, none⟩) (v := .slice A3 x.f3.length c3) (by simp)
        clear qf hs
        cases hn : flightB x with
        | false =>
          go_wp2
          refine wp_region_after (by kernel_rfl) (by kernel_rfl) ?_
          repeat (go_big_quiet_step (first | (go_at_call 101; exact calls_after (QF.out _))))
          refine wpQuiet_nil ?_
          intro _ hw'
          obtain ⟨u, hw''⟩ := hw'
          subst hw''
          go_wp2
          go_ret
          exact ⟨ret_bool (by rw [hB.out, ← hF.out, fromB_bad _ _ _ _ _ hX.out hn]), below_next (hb.alloc hb.size _) (by have := hb.size; simp; omega) u.hb⟩
        | true =>
        by_cases hk0 : k = 0
        · have j1 : decide (0 < k) = false := decide_eq_false (by omega)
          have K0 := Lib.hid hk0
          clear hk0
          go_wp2
          refine wp_region_after (by kernel_rfl) (by kernel_rfl) ?_
          repeat (go_big_quiet_step (first | (go_at_call 101; exact calls_after (QF.out _))))
          refine wpQuiet_nil ?_
          intro _ hw'
          obtain ⟨u, hw''⟩ := hw'
          subst hw''
          go_wp2
          go_roundw
          case rel => exact ⟨k + 1, by omega, by go_num, by show _ = _; rw [← hF.out, fromB_good0 _ _ _ _ _ K0.out hX.out hn], below_next (hb.alloc hb.size _) (by have := hb.size; simp; omega) u.hb⟩
          case measure => simp [intOf]; omega
        · obtain ⟨k, rfl⟩ : ∃ j, k = j + 1 := ⟨k - 1, by omega⟩
          clear hk0
          obtain ⟨ad2, p, A4, c4, e2, hp, p0, p1, p2, p3, pl, pr⟩ := flightAt (Kd.C_below hr hb) k (by omega)
          obtain rfl : ad = ad2 := by injection e2
          have HP := Lib.hid hp
          have p0 := After.cell (cell_al p0 (.cells #[.string x.f0, .int .i64 x.f1, .int .i64 x.f2, .slice A3 x.f3.length c3] 61))
          clear hp e2 p1 p2 p3 pl pr
          have j1 : decide (0 < (k : Int) + 1) = true := decide_eq_true (by omega)
          have j2 : (k : Int) < l.length := by omega
          have j3 : IntKind.i64.wrap (k : Int) = k := IntWalk.i64_in _ (by omega)
          cases hle : byName p x with
          | false =>
            have hl : Op.bytesLess p.f0.toList x.f0.toList = false := hle
            go_wp2
            refine wp_region_after (by kernel_rfl) (by kernel_rfl) ?_
            repeat (go_big_quiet_step (first | (go_at_call 101; exact calls_after (QF.out _))))
            refine wpQuiet_nil ?_
            intro _ hw'
            obtain ⟨u, hw''⟩ := hw'
            subst hw''
            go_wp2
            go_ret
            exact ⟨ret_bool (by rw [hB.out, ← hF.out, fromB_bad2 _ _ _ _ _ _ HP.out hX.out hle]), below_next (hb.alloc hb.size _) (by have := hb.size; simp; omega) u.hb⟩
          | true =>
            have hl : Op.bytesLess p.f0.toList x.f0.toList = true := hle
            go_wp2
            refine wp_region_after (by kernel_rfl) (by kernel_rfl) ?_
            repeat (go_big_quiet_step (first | (go_at_call 101; exact calls_after (QF.out _))))
            refine wpQuiet_nil ?_
            intro _ hw'
            obtain ⟨u, hw''⟩ := hw'
            subst hw''
            go_wp2
            go_roundw
            case rel => exact ⟨k + 1 + 1, by omega, by go_num, by show _ = _; rw [← hF.out, fromB_good _ _ _ _ _ _ HP.out hX.out hn hle], below_next (hb.alloc hb.size _) (by have := hb.size; simp; omega) u.hb⟩
            case measure => simp [intOf]; omega
      · go_wp2
        go_ret
        obtain rfl : k = l.length := by omega
        exact ⟨ret_bool (by rw [hB.out, ← hF.out, fromB_end _ _ _ _ (Nat.le_refl _)]), hb⟩
end Go.Proofs.Ytkfoeplefajkcaa.Q
end
section
namespace Go.Proofs.Ytkfoeplefajkcaa.Q
open Go.RowKit Go.Proofs.YtkfoeplefajkcaaW.PrintWords Go.Proofs.Ytkfoeplefajkcaa.Core
set_option linter.unusedVariables false
set_option linter.unusedSimpArgs false
theorem quiet_name (s : ByteArray) (W : World) : Calls Try.prog 126 #[.string s] W fun e w' => e = .returned (.bool (nameB s)) ∧ w' = W := (spec_name_any _ W).mono fun _ _ h => ⟨h.1, h.2.symm⟩
theorem quiet_in (a b c : Int) (W : World) : Calls Try.prog 127 #[.int .i64 a, .int .i64 b, .int .i64 c] W fun e w' => e = .returned (.bool (inB a b c)) ∧ w' = W := (spec_in_any _ _ _ W).mono fun _ _ h => ⟨h.1, h.2.symm⟩
set_option maxHeartbeats 2000000 in
theorem spec_capsOk_any (A : Option Addr) (c : Nat) (l : List Cap) (w : World) (hr : Kd.C k99 w A l.length l) (hc : l.length ≤ 9223372036854775807) :
    Calls Try.prog 59 #[.slice A l.length c] w fun e w' => e = .returned (.bool (capsB l)) ∧ Below w.heap.size w w' := by
  by_cases hn : 6 < l.length
  · have h1 : decide ((6 : Int) < l.length) = true := by simp; omega
    have h2 : decide (6 < l.length) = true := by simp; omega
    go_enter Try.func59, Try.ntmps59
    go_wp2
    go_ret
    exact ⟨ret_bool (by simp [capsB]; omega), Below.refl _ _⟩
  · have h1 : decide ((6 : Int) < l.length) = false := by simp; omega
    have h2 : decide (6 < l.length) = false := by simp; omega
    have hB : Hid (capsB l = fromB capB bySector l 0) := by
      show _ = _
      rw [fromB_zero]; unfold capsB
      rw [decide_eq_true (by omega : l.length ≤ 6), Bool.true_and]
    go_enter Try.func59, Try.ntmps59
    go_wp2
    go_loopw [3] (fun v wr => ∃ k : Nat, k ≤ l.length ∧ v = .int .i64 k ∧ Hid (fromB capB bySector l k = fromB capB bySector l 0) ∧ Below w.heap.size w wr) (fun v _ => l.length - (intOf v).toNat)
    case atStart => exact ⟨0, Nat.zero_le _, rfl, rfl, Below.refl _ _⟩
    case round =>
      obtain ⟨k, hk, rfl, hF, hb⟩ := hrel
      by_cases hlt : k < l.length
      · obtain ⟨ad, x, rfl, hx, x0, x1⟩ := capAt (Kd.C_below hr hb) k hlt
        have hX := Lib.hid hx
        clear hx
        have QN := Lib.hid (quiet_name x.f0)
        have QI := Lib.hid (quiet_in x.f1 0 20)
        have j4 : (k : Int) < l.length := by omega
        cases hn : nameB x.f0 with
        | false =>
          go_wp2
          go_quiet (first | (go_at_call 126; exact Calls.quiet_of_same (QN.out _)) | (go_at_call 127; exact Calls.quiet_of_same (QI.out _)))
          go_wp2
          go_ret
          exact ⟨ret_bool (by rw [hB.out, ← hF.out, fromB_bad _ _ _ _ _ hX.out (by simp [capB, hn])]), pw_below_drewN hb _⟩
        | true =>
        by_cases hk0 : k = 0
        · have j1 : decide (0 < k) = false := decide_eq_false (by omega)
          have K0 := Lib.hid hk0
          clear hk0
          cases hi : inB x.f1 0 20 with
          | false =>
            go_wp2
            go_quiet (first | (go_at_call 126; exact Calls.quiet_of_same (QN.out _)) | (go_at_call 127; exact Calls.quiet_of_same (QI.out _)))
            go_wp2
            go_ret
            exact ⟨ret_bool (by rw [hB.out, ← hF.out, fromB_bad _ _ _ _ _ hX.out (by simp [capB, hn, hi])]), pw_below_drewN hb _⟩
          | true =>
            go_wp2
            go_quiet (first | (go_at_call 126; exact Calls.quiet_of_same (QN.out _)) | (go_at_call 127; exact Calls.quiet_of_same (QI.out _)))
            go_wp2
            go_roundw
            case rel => exact ⟨k + 1, by omega, by go_num, by show _ = _; rw [← hF.out, fromB_good0 _ _ _ _ _ K0.out hX.out (by simp [capB, hn, hi])], pw_below_drewN hb _⟩
            case measure => simp [intOf]; omega
        · obtain ⟨k, rfl⟩ : ∃ j, k = j + 1 := ⟨k - 1, by omega⟩
          clear hk0
          obtain ⟨ad2, p, e2, hp, p0, p1⟩ := capAt (Kd.C_below hr hb) k (by omega)
          obtain rfl : ad = ad2 := by injection e2
          have HP := Lib.hid hp
          clear hp e2 p1
          have j1 : decide (0 < (k : Int) + 1) = true := decide_eq_true (by omega)
          have j2 : (k : Int) < l.length := by omega
          have j3 : IntKind.i64.wrap (k : Int) = k := IntWalk.i64_in _ (by omega)
          cases hle : bySector p x with
          | false =>
            have hl : Op.bytesLess p.f0.toList x.f0.toList = false := hle
            go_wp2
            go_quiet (first | (go_at_call 126; exact Calls.quiet_of_same (QN.out _)) | (go_at_call 127; exact Calls.quiet_of_same (QI.out _)))
            go_wp2
            go_ret
            exact ⟨ret_bool (by rw [hB.out, ← hF.out, fromB_bad2 _ _ _ _ _ _ HP.out hX.out hle]), pw_below_drewN hb _⟩
          | true =>
            have hl : Op.bytesLess p.f0.toList x.f0.toList = true := hle
            cases hi : inB x.f1 0 20 with
            | false =>
              go_wp2
              go_quiet (first | (go_at_call 126; exact Calls.quiet_of_same (QN.out _)) | (go_at_call 127; exact Calls.quiet_of_same (QI.out _)))
              go_wp2
              go_ret
              exact ⟨ret_bool (by rw [hB.out, ← hF.out, fromB_bad _ _ _ _ _ hX.out (by simp [capB, hn, hi])]), pw_below_drewN hb _⟩
            | true =>
              go_wp2
              go_quiet (first | (go_at_call 126; exact Calls.quiet_of_same (QN.out _)) | (go_at_call 127; exact Calls.quiet_of_same (QI.out _)))
              go_wp2
              go_roundw
              case rel => exact ⟨k + 1 + 1, by omega, by go_num, by show _ = _; rw [← hF.out, fromB_good _ _ _ _ _ _ HP.out hX.out (by simp [capB, hn, hi]) hle], pw_below_drewN hb _⟩
              case measure => simp [intOf]; omega
      · go_wp2
        go_ret
        obtain rfl : k = l.length := by omega
        exact ⟨ret_bool (by rw [hB.out, ← hF.out, fromB_end _ _ _ _ (Nat.le_refl _)]), hb⟩
set_option maxHeartbeats 2000000 in
theorem spec_visitsOk_any (A : Option Addr) (c : Nat) (l : List Visit) (w : World) (hr : Kd.C k97 w A l.length l) (hc : l.length ≤ 9223372036854775807) :
    Calls Try.prog 128 #[.slice A l.length c] w fun e w' => e = .returned (.bool (visitsB l)) ∧ Below w.heap.size w w' := by
  cases hl : inB l.length 1 5 with
  | false =>
    go_enter Try.func128, Try.ntmps128
    go_wp2_with (first | (go_at_call 127; refine (spec_in_any _ _ _ _).mono ?_; rintro e w' ⟨rfl, rfl⟩; rw [hl]))
    go_ret
    exact ⟨ret_bool (by simp [visitsB, hl]), Below.refl _ _⟩
  | true =>
    have hB : Hid (visitsB l = fromB visitB apartB l 0) := by
      show _ = _
      rw [fromB_zero]; simp [visitsB, hl]
    go_enter Try.func128, Try.ntmps128
    go_wp2_with (first | (go_at_call 127; refine (spec_in_any _ _ _ _).mono ?_; rintro e w' ⟨rfl, rfl⟩; rw [hl]))
    clear hl
    go_loopw [3] (fun v wr => ∃ k : Nat, k ≤ l.length ∧ v = .int .i64 k ∧ Hid (fromB visitB apartB l k = fromB visitB apartB l 0) ∧ Hid (∀ j p, j < k → l[j]? = some p → visitB p = true) ∧ Below w.heap.size w wr) (fun v _ => l.length - (intOf v).toNat)
    case atStart => exact ⟨0, Nat.zero_le _, rfl, rfl, fun j p h => absurd h (Nat.not_lt_zero _), Below.refl _ _⟩
    case round =>
      obtain ⟨k, hk, rfl, hF, hV, hb⟩ := hrel
      by_cases hlt : k < l.length
      · obtain ⟨ad, x, rfl, hx, x0, x1, x2⟩ := visitAt (Kd.C_below hr hb) k hlt
        have hX := Lib.hid hx
        clear hx
        have QN := Lib.hid (quiet_name x.f0)
        have QI := Lib.hid quiet_in
        cases hn : nameB x.f0 with
        | false =>
          go_wp2
          go_quiet (first | (go_at_call 126; exact Calls.quiet_of_same (QN.out _)) | (go_at_call 127; exact Calls.quiet_of_same (QI.out _ _ _ _)))
          go_wp2
          go_ret
          exact ⟨ret_bool (by rw [hB.out, ← hF.out, fromB_bad _ _ _ _ _ hX.out (by simp [visitB, hn])]), pw_below_drewN (hb.alloc hb.size _) _⟩
        | true =>
        cases hi : inB x.f1 0 200 with
        | false =>
          go_wp2
          go_quiet (first | (go_at_call 126; exact Calls.quiet_of_same (QN.out _)) | (go_at_call 127; exact Calls.quiet_of_same (QI.out _ _ _ _)))
          go_wp2
          go_ret
          exact ⟨ret_bool (by rw [hB.out, ← hF.out, fromB_bad _ _ _ _ _ hX.out (by simp [visitB, hn, hi])]), pw_below_drewN (hb.alloc hb.size _) _⟩
        | true =>
        cases hj : inB x.f2 1 30 with
        | false =>
          go_wp2
          go_quiet (first | (go_at_call 126; exact Calls.quiet_of_same (QN.out _)) | (go_at_call 127; exact Calls.quiet_of_same (QI.out _ _ _ _)))
          go_wp2
          go_ret
          exact ⟨ret_bool (by rw [hB.out, ← hF.out, fromB_bad _ _ _ _ _ hX.out (by simp [visitB, hn, hi, hj])]), pw_below_drewN (hb.alloc hb.size _) _⟩
        | true =>
        have hok : visitB x = true := by simp [visitB, hn, hi, hj]
        have hV' : Hid (∀ j p, j < k + 1 → l[j]? = some p → visitB p = true) := fun j p h1 h2 => by
          rcases Nat.lt_or_ge j k with h3 | h3
          · exact hV.out j p h3 h2
          · obtain rfl : j = k := by omega
            rw [hX.out] at h2
            injection h2 with h2
            rw [← h2]; exact hok
        have HOK := Lib.hid hok
        clear hok
        by_cases hk0 : k = 0
        · have j1 : decide (0 < k) = false := decide_eq_false (by omega)
          have K0 := Lib.hid hk0
          clear hk0
          go_wp2
          go_quiet (first | (go_at_call 126; exact Calls.quiet_of_same (QN.out _)) | (go_at_call 127; exact Calls.quiet_of_same (QI.out _ _ _ _)))
          go_wp2
          go_roundw
          case rel => exact ⟨k + 1, by omega, by go_num, by show _ = _; rw [← hF.out, fromB_good0 _ _ _ _ _ K0.out hX.out HOK.out], hV', pw_below_drewN (hb.alloc hb.size _) _⟩
          case measure => simp [intOf]; omega
        · obtain ⟨k, rfl⟩ : ∃ j, k = j + 1 := ⟨k - 1, by omega⟩
          clear hk0
          obtain ⟨ad2, p, e2, hp, p0, p1, p2⟩ := visitAt (Kd.C_below hr hb) k (by omega)
          obtain rfl : ad = ad2 := by injection e2
          have pb := visitB_parts (hV.out k p (by omega) hp)
          obtain ⟨_, pb1, pb2, pb3, pb4⟩ := pb
          have HP := Lib.hid hp
          have p1 := cell_al p1
          have p2 := cell_al p2
          clear hp e2 p0
          have j1 : decide (0 < (k : Int) + 1) = true := decide_eq_true (by omega)
          have j2 : (k : Int) < l.length := by omega
          have j3 : IntKind.i64.wrap (k : Int) = k := IntWalk.i64_in _ (by omega)
          have j4 : IntKind.i64.wrap (p.f1 + p.f2) = p.f1 + p.f2 := IntWalk.i64_in _ (by omega)
          clear pb1 pb2 pb3 pb4
          cases hle : apartB p x with
          | false =>
            have hl : decide (x.f1 < p.f1 + p.f2) = true := by simp only [apartB, decide_eq_false_iff_not] at hle; exact decide_eq_true (by omega)
            go_wp2
            go_quiet (first | (go_at_call 126; exact Calls.quiet_of_same (QN.out _)) | (go_at_call 127; exact Calls.quiet_of_same (QI.out _ _ _ _)))
            go_wp2
            go_ret
            exact ⟨ret_bool (by rw [hB.out, ← hF.out, fromB_bad2 _ _ _ _ _ _ HP.out hX.out hle]), pw_below_drewN (hb.alloc hb.size _) _⟩
          | true =>
            have hl : decide (x.f1 < p.f1 + p.f2) = false := by simp only [apartB, decide_eq_true_eq] at hle; exact decide_eq_false (by omega)
            go_wp2
            go_quiet (first | (go_at_call 126; exact Calls.quiet_of_same (QN.out _)) | (go_at_call 127; exact Calls.quiet_of_same (QI.out _ _ _ _)))
            go_wp2
            go_roundw
            case rel => exact ⟨k + 1 + 1, by omega, by go_num, by show _ = _; rw [← hF.out, fromB_good _ _ _ _ _ _ HP.out hX.out HOK.out hle], hV', pw_below_drewN (hb.alloc hb.size _) _⟩
            case measure => simp [intOf]; omega
      · go_wp2
        go_ret
        obtain rfl : k = l.length := by omega
        exact ⟨ret_bool (by rw [hB.out, ← hF.out, fromB_end _ _ _ _ (Nat.le_refl _)]), hb⟩
set_option maxHeartbeats 4000000 in
theorem spec_flightsOk_any (A : Option Addr) (c : Nat) (l : List Flight) (w : World) (hr : Kd.C k61 w A l.length l) (hc : l.length ≤ 9223372036854775807) :
    Calls Try.prog 60 #[.slice A l.length c] w fun e w' => e = .returned (.bool (flightsB l)) ∧ Below w.heap.size w w' := by
  by_cases hn : 8 < l.length
  · have h1 : decide ((8 : Int) < l.length) = true := by simp; omega
    have h2 : decide (8 < l.length) = true := by simp; omega
    go_enter Try.func60, Try.ntmps60
    go_wp2
    go_ret
    exact ⟨ret_bool (by simp [flightsB]; omega), Below.refl _ _⟩
  · have h1 : decide ((8 : Int) < l.length) = false := by simp; omega
    have h2 : decide (8 < l.length) = false := by simp; omega
    have hB : Hid (flightsB l = fromB flightB byName l 0) := by
      show _ = _
      rw [fromB_zero]; unfold flightsB
      rw [decide_eq_true (by omega : l.length ≤ 8), Bool.true_and]
    go_enter Try.func60, Try.ntmps60
    go_wp2
    go_loopw [3] (fun v wr => ∃ k : Nat, k ≤ l.length ∧ v = .int .i64 k ∧ Hid (fromB flightB byName l k = fromB flightB byName l 0) ∧ Below w.heap.size w wr) (fun v _ => l.length - (intOf v).toNat)
    case atStart => exact ⟨0, Nat.zero_le _, rfl, rfl, Below.refl _ _⟩
    case round =>
      obtain ⟨k, hk, rfl, hF, hb⟩ := hrel
      by_cases hlt : k < l.length
      · obtain ⟨ad, x, A3, c3, rfl, hx, x0, x1, x2, x3, hl3, hr3⟩ := flightAt (Kd.C_below hr hb) k hlt
        have hX := Lib.hid hx
        clear hx
        have HR := Lib.hid hr3
        clear hr3 hl3
        have qf : ∀ u : After (wr.alloc (.cells #[.string x.f0, .int .i64 x.f1, .int .i64 x.f2, .slice A3 x.f3.length c3] 61)), Calls Try.prog 128 #[.slice A3 x.f3.length c3] u.w fun e w' => e = .returned (.bool (visitsB x.f3)) ∧ Below u.w.heap.size u.w w' :=
          fun u => spec_visitsOk_any _ _ x.f3 _ (Kd.C_below (Kd.C_below HR.out ((Below.refl _ _).alloc (Nat.le_refl _) _)) u.hb) (C_len HR.out)
        have QF := Lib.hid qf
        have QN := Lib.hid (quiet_name x.f0)
        have QI := Lib.hid quiet_in
        have b0 := After.cell (W := wr.alloc (.cells #[.string x.f0, .int .i64 x.f1, .int .i64 x.f2, .slice A3 x.f3.length c3] 61)) (a := ⟨wr.heap.size, 0, none⟩) (v := .string x.f0) (by simp)
        have b1 := After.cell (W := wr.alloc (.cells #[.string x.f0, .int .i64 x.f1, .int .i64 x.f2, .slice A3 x.f3.length c3] 61)) (a := ⟨wr.heap.size, 1, none⟩) (v := .int .i64 x.f1) (by simp)
        have b2 := After.cell (W := wr.alloc (.cells #[.string x.f0, .int .i64 x.f1, .int .i64 x.f2, .slice A3 x.f3.length c3] 61)) (a := ⟨wr.heap.size, 2, none⟩) (v := .int .i64 x.f2) (by simp)
        have b3 := After.cell (W := wr.alloc (.cells #[.string x.f0, .int .i64 x.f1, .int .i64 x.f2, .slice A3 x.f3.length c3] 61)) (a := ⟨wr.heap.size, 3, none⟩) (v := .slice A3 x.f3.length c3) (by simp)
        clear qf
        cases hn : nameB x.f0 with
        | false =>
          go_wp2
          refine wp_region_after (by kernel_rfl) (by kernel_rfl) ?_
          repeat (go_big_quiet_step (first | (go_at_call 126; exact calls_after_same (QN.out _)) | (go_at_call 127; exact calls_after_same (QI.out _ _ _ _)) | (go_at_call 128; exact calls_after (QF.out _))))
          refine wpQuiet_nil ?_
          intro _ hw'
          obtain ⟨u, hw''⟩ := hw'
          subst hw''
          go_wp2
          go_ret
          exact ⟨ret_bool (by rw [hB.out, ← hF.out, fromB_bad _ _ _ _ _ hX.out (by simp [flightB, hn])]), below_next (hb.alloc hb.size _) (by have := hb.size; simp; omega) u.hb⟩
        | true =>
        by_cases hk0 : k = 0
        · have j1 : decide (0 < k) = false := decide_eq_false (by omega)
          have K0 := Lib.hid hk0
          clear hk0
          cases hi : inB x.f1 0 10000 with
          | false =>
            go_wp2
            refine wp_region_after (by kernel_rfl) (by kernel_rfl) ?_
            repeat (go_big_quiet_step (first | (go_at_call 126; exact calls_after_same (QN.out _)) | (go_at_call 127; exact calls_after_same (QI.out _ _ _ _)) | (go_at_call 128; exact calls_after (QF.out _))))
            refine wpQuiet_nil ?_
            intro _ hw'
            obtain ⟨u, hw''⟩ := hw'
            subst hw''
            go_wp2
            go_ret
            exact ⟨ret_bool (by rw [hB.out, ← hF.out, fromB_bad _ _ _ _ _ hX.out (by simp [flightB, hn, hi])]), below_next (hb.alloc hb.size _) (by have := hb.size; simp; omega) u.hb⟩
          | true =>
          cases hj : inB x.f2 0 60 with
          | false =>
            go_wp2
            refine wp_region_after (by kernel_rfl) (by kernel_rfl) ?_
            repeat (go_big_quiet_step (first | (go_at_call 126; exact calls_after_same (QN.out _)) | (go_at_call 127; exact calls_after_same (QI.out _ _ _ _)) | (go_at_call 128; exact calls_after (QF.out _))))
            refine wpQuiet_nil ?_
            intro _ hw'
            obtain ⟨u, hw''⟩ := hw'
            subst hw''
            go_wp2
            go_ret
            exact ⟨ret_bool (by rw [hB.out, ← hF.out, fromB_bad _ _ _ _ _ hX.out (by simp [flightB, hn, hi, hj])]), below_next (hb.alloc hb.size _) (by have := hb.size; simp; omega) u.hb⟩
          | true =>
          cases hv : visitsB x.f3 with
          | false =>
            go_wp2
            refine wp_region_after (by kernel_rfl) (by kernel_rfl) ?_
            repeat (go_big_quiet_step (first | (go_at_call 126; exact calls_after_same (QN.out _)) | (go_at_call 127; exact calls_after_same (QI.out _ _ _ _)) | (go_at_call 128; exact calls_after (QF.out _))))
            refine wpQuiet_nil ?_
            intro _ hw'
            obtain ⟨u, hw''⟩ := hw'
            subst hw''
            go_wp2
            go_ret
            exact ⟨ret_bool (by rw [hB.out, ← hF.out, fromB_bad _ _ _ _ _ hX.out (by simp [flightB, hn, hi, hj, hv])]), below_next (hb.alloc hb.size _) (by have := hb.size; simp; omega) u.hb⟩
          | true =>
            go_wp2
            refine wp_region_after (by kernel_rfl) (by kernel_rfl) ?_
            repeat (go_big_quiet_step (first | (go_at_call 126; exact calls_after_same (QN.out _)) | (go_at_call 127; exact calls_after_same (QI.out _ _ _ _)) | (go_at_call 128; exact calls_after (QF.out _))))
            refine wpQuiet_nil ?_
            intro _ hw'
            obtain ⟨u, hw''⟩ := hw'
            subst hw''
            go_wp2
            go_roundw
            case rel => exact ⟨k + 1, by omega, by go_num, by show _ = _; rw [← hF.out, fromB_good0 _ _ _ _ _ K0.out hX.out (by simp [flightB, hn, hi, hj, hv])], below_next (hb.alloc hb.size _) (by have := hb.size; simp; omega) u.hb⟩
            case measure => simp [intOf]; omega
        · obtain ⟨k, rfl⟩ : ∃ j, k = j + 1 := ⟨k - 1, by omega⟩
          clear hk0
          obtain ⟨ad2, p, A4, c4, e2, hp, p0, p1, p2, p3, pl, pr⟩ := flightAt (Kd.C_below hr hb) k (by omega)
          obtain rfl : ad = ad2 := by injection e2
          have HP := Lib.hid hp
          have p0 := After.cell (cell_al p0 (.cells #[.string x.f0, .int .i64 x.f1, .int .i64 x.f2, .slice A3 x.f3.length c3] 61))
          clear hp e2 p1 p2 p3 pl pr
          have j1 : decide (0 < (k : Int) + 1) = true := decide_eq_true (by omega)
          have j2 : (k : Int) < l.length := by omega
          have j3 : IntKind.i64.wrap (k : Int) = k := IntWalk.i64_in _ (by omega)
          cases hle : byName p x with
          | false =>
            have hl : Op.bytesLess p.f0.toList x.f0.toList = false := hle
            go_wp2
            refine wp_region_after (by kernel_rfl) (by kernel_rfl) ?_
            repeat (go_big_quiet_step (first | (go_at_call 126; exact calls_after_same (QN.out _)) | (go_at_call 127; exact calls_after_same (QI.out _ _ _ _)) | (go_at_call 128; exact calls_after (QF.out _))))
            refine wpQuiet_nil ?_
            intro _ hw'
            obtain ⟨u, hw''⟩ := hw'
            subst hw''
            go_wp2
            go_ret
            exact ⟨ret_bool (by rw [hB.out, ← hF.out, fromB_bad2 _ _ _ _ _ _ HP.out hX.out hle]), below_next (hb.alloc hb.size _) (by have := hb.size; simp; omega) u.hb⟩
          | true =>
            have hl : Op.bytesLess p.f0.toList x.f0.toList = true := hle
            cases hi : inB x.f1 0 10000 with
            | false =>
              go_wp2
              refine wp_region_after (by kernel_rfl) (by kernel_rfl) ?_
              repeat (go_big_quiet_step (first | (go_at_call 126; exact calls_after_same (QN.out _)) | (go_at_call 127; exact calls_after_same (QI.out _ _ _ _)) | (go_at_call 128; exact calls_after (QF.out _))))
              refine wpQuiet_nil ?_
              intro _ hw'
              obtain ⟨u, hw''⟩ := hw'
              subst hw''
              go_wp2
              go_ret
              exact ⟨ret_bool (by rw [hB.out, ← hF.out, fromB_bad _ _ _ _ _ hX.out (by simp [flightB, hn, hi])]), below_next (hb.alloc hb.size _) (by have := hb.size; simp; omega) u.hb⟩
            | true =>
            cases hj : inB x.f2 0 60 with
            | false =>
              go_wp2
              refine wp_region_after (by kernel_rfl) (by kernel_rfl) ?_
              repeat (go_big_quiet_step (first | (go_at_call 126; exact calls_after_same (QN.out _)) | (go_at_call 127; exact calls_after_same (QI.out _ _ _ _)) | (go_at_call 128; exact calls_after (QF.out _))))
              refine wpQuiet_nil ?_
              intro _ hw'
              obtain ⟨u, hw''⟩ := hw'
              subst hw''
              go_wp2
              go_ret
              exact ⟨ret_bool (by rw [hB.out, ← hF.out, fromB_bad _ _ _ _ _ hX.out (by simp [flightB, hn, hi, hj])]), below_next (hb.alloc hb.size _) (by have := hb.size; simp; omega) u.hb⟩
            | true =>
            cases hv : visitsB x.f3 with
            | false =>
              go_wp2
              refine wp_region_after (by kernel_rfl) (by kernel_rfl) ?_
              repeat (go_big_quiet_step (first | (go_at_call 126; exact calls_after_same (QN.out _)) | (go_at_call 127; exact calls_after_same (QI.out _ _ _ _)) | (go_at_call 128; exact calls_after (QF.out _))))
              refine wpQuiet_nil ?_
              intro _ hw'
              obtain ⟨u, hw''⟩ := hw'
              subst hw''
              go_wp2
              go_ret
              exact ⟨ret_bool (by rw [hB.out, ← hF.out, fromB_bad _ _ _ _ _ hX.out (by simp [flightB, hn, hi, hj, hv])]), below_next (hb.alloc hb.size _) (by have := hb.size; simp; omega) u.hb⟩
            | true =>
              go_wp2
              refine wp_region_after (by kernel_rfl) (by kernel_rfl) ?_
              repeat (go_big_quiet_step (first | (go_at_call 126; exact calls_after_same (QN.out _)) | (go_at_call 127; exact calls_after_same (QI.out _ _ _ _)) | (go_at_call 128; exact calls_after (QF.out _))))
              refine wpQuiet_nil ?_
              intro _ hw'
              obtain ⟨u, hw''⟩ := hw'
              subst hw''
              go_wp2
              go_roundw
              case rel => exact ⟨k + 1 + 1, by omega, by go_num, by show _ = _; rw [← hF.out, fromB_good _ _ _ _ _ _ HP.out hX.out (by simp [flightB, hn, hi, hj, hv]) hle], below_next (hb.alloc hb.size _) (by have := hb.size; simp; omega) u.hb⟩
              case measure => simp [intOf]; omega
      · go_wp2
        go_ret
        obtain rfl : k = l.length := by omega
        exact ⟨ret_bool (by rw [hB.out, ← hF.out, fromB_end _ _ _ _ (Nat.le_refl _)]), hb⟩
end Go.Proofs.Ytkfoeplefajkcaa.Q
end
section
namespace Go.Proofs.Ytkfoeplefajkcaa.Q
open Go.RowKit Go.Proofs.YtkfoeplefajkcaaW.PrintWords Go.Proofs.Ytkfoeplefajkcaa.Core
set_option linter.unusedVariables false
set_option linter.unusedSimpArgs false
theorem intAt {w : World} {A : Option Addr} {xs : List Int} (h : Kd.C (Kd.int .i64) w A xs.length xs) (k : Nat) (hk : k < xs.length) :
    ∃ ad x, A = some ad ∧ xs[k]? = some x ∧ w.cell? (ad.add k) = some (.int .i64 x) := by
  obtain ⟨ad, c, e, _, hK, hc⟩ := Kd.C_get h 0 (k : Int) (by omega) (by omega)
  have h0 := hc 0 (.int .i64 (xs.getD (k : Int).toNat 0)) (by rw [show c = [Value.int .i64 (xs.getD (k : Int).toNat 0)] from hK]; rfl)
  refine ⟨ad, xs[k], e, List.getElem?_eq_getElem hk, ?_⟩
  have er : xs.getD (k : Int).toNat 0 = xs[k] := by rw [Int.toNat_natCast, List.getD_eq_getElem?_getD, List.getElem?_eq_getElem hk]; rfl
  rw [er] at h0
  have ea : (k : Int).toNat * (Kd.int .i64).sz + 0 = k := by show (k : Int).toNat * 1 + 0 = k; omega
  rw [ea] at h0
  exact h0
def slotsFrom (l : List Int) (k : Nat) : Bool := (l.drop k).all fun s => inB s (-1) 10060
theorem slotsFrom_end (l : List Int) (k : Nat) (h : l.length ≤ k) : slotsFrom l k = true := by unfold slotsFrom; rw [List.drop_of_length_le h]; rfl
theorem slotsFrom_step (l : List Int) (k : Nat) (x : Int) (h : l[k]? = some x) : slotsFrom l k = (inB x (-1) 10060 && slotsFrom l (k + 1)) := by
  have hk : k < l.length := by
    rcases Nat.lt_or_ge k l.length with h1 | h1
    · exact h1
    · rw [List.getElem?_eq_none h1] at h; cases h
  unfold slotsFrom
  rw [List.drop_eq_getElem_cons hk, List.all_cons]
  rw [List.getElem?_eq_getElem hk] at h
  rw [Option.some.inj h]
set_option maxHeartbeats 2000000 in
theorem impl_slotsOk_any (A : Option Addr) (c : Nat) (l : List Flight) (A1 : Option Addr) (c1 : Nat) (s : List Int) (w : World) (hr : Kd.C k61 w A l.length l) (hr1 : Kd.C (Kd.int .i64) w A1 s.length s) :
    Calls Try.prog 89 #[.slice A l.length c, .slice A1 s.length c1] w fun e w' => e = .returned (.bool (slotsB l s)) ∧ Below w.heap.size w w' := by
  have hc1 := C_len hr1
  have hc0 := C_len hr
  have QF := Lib.hid (fun W hr => impl_flightsOk_any A c l W hr (C_len hr))
  cases hf : flightsB l with
  | false =>
    go_enter Try.func89, Try.ntmps89
    go_wp2_with (first | (go_at_call 82; refine (QF.out _ hr).mono ?_; rintro e w1 ⟨rfl, hb⟩))
    go_ret
    exact ⟨ret_bool (by simp [slotsB, hf]), hb⟩
  | true =>
  by_cases he : s.length = l.length
  · have hB : Hid (slotsB l s = slotsFrom s 0) := by show _ = _; simp [slotsB, hf, he, slotsFrom]
    have HE := Lib.hid he
    have e1 : (s.length != l.length) = false := by simp [he]
    have e2 : ((s.length : Int) != (l.length : Int)) = false := by simp [he]
    have e3 : (s.length == l.length) = true := by simp [he]
    clear he
    go_enter Try.func89, Try.ntmps89
    go_wp2_with (first | (go_at_call 82; refine (QF.out _ hr).mono ?_; rintro e w1 ⟨rfl, hb1⟩))
    go_loopw [19] (fun v wr => ∃ k : Nat, k ≤ s.length ∧ v = .int .i64 k ∧ Hid (slotsFrom s k = slotsFrom s 0) ∧ Below w.heap.size w wr) (fun v _ => s.length - (intOf v).toNat)
    case atStart => exact ⟨0, Nat.zero_le _, rfl, rfl, hb1⟩
    case round =>
      obtain ⟨k, hk, rfl, hF, hb⟩ := hrel
      by_cases hlt : k < s.length
      · obtain ⟨ad, x, rfl, hx, x0⟩ := intAt (Kd.C_below hr1 hb) k hlt
        have hX := Lib.hid (slotsFrom_step _ _ _ hx)
        clear hx
        cases hi : inB x (-1) 10060 with
        | false =>
          go_wp2_with (first | (go_at_call 125; refine (impl_in_any _ _ _ _).mono ?_; rintro e w' ⟨rfl, rfl⟩; rw [hi]))
          go_ret
          exact ⟨ret_bool (by rw [hB.out, ← hF.out, hX.out, hi]; rfl), hb⟩
        | true =>
          go_wp2_with (first | (go_at_call 125; refine (impl_in_any _ _ _ _).mono ?_; rintro e w' ⟨rfl, rfl⟩; rw [hi]))
          go_roundw
          case rel => exact ⟨k + 1, by omega, by go_num, by show _ = _; rw [← hF.out, hX.out, hi]; rfl, hb⟩
          case measure => simp [intOf]; omega
      · go_wp2
        go_ret
        obtain rfl : k = s.length := by omega
        exact ⟨ret_bool (by rw [hB.out, ← hF.out, slotsFrom_end _ _ (Nat.le_refl _)]), hb⟩
  · have e1 : (s.length != l.length) = true := by simpa using he
    have e2 : ((s.length : Int) != (l.length : Int)) = true := by simp; omega
    have e3 : (s.length == l.length) = false := by simpa using he
    go_enter Try.func89, Try.ntmps89
    go_wp2_with (first | (go_at_call 82; refine (QF.out _ hr).mono ?_; rintro e w1 ⟨rfl, hb⟩))
    go_ret
    exact ⟨ret_bool (by simp [slotsB, he]), hb⟩
set_option maxHeartbeats 2000000 in
theorem spec_slotsOk_any (A : Option Addr) (c : Nat) (l : List Flight) (A1 : Option Addr) (c1 : Nat) (s : List Int) (w : World) (hr : Kd.C k61 w A l.length l) (hr1 : Kd.C (Kd.int .i64) w A1 s.length s) :
    Calls Try.prog 86 #[.slice A l.length c, .slice A1 s.length c1] w fun e w' => e = .returned (.bool (slotsB l s)) ∧ Below w.heap.size w w' := by
  have hc1 := C_len hr1
  have hc0 := C_len hr
  have QF := Lib.hid (fun W hr => spec_flightsOk_any A c l W hr (C_len hr))
  cases hf : flightsB l with
  | false =>
    go_enter Try.func86, Try.ntmps86
    go_wp2_with (first | (go_at_call 60; refine (QF.out _ hr).mono ?_; rintro e w1 ⟨rfl, hb⟩))
    go_ret
    exact ⟨ret_bool (by simp [slotsB, hf]), hb⟩
  | true =>
  by_cases he : s.length = l.length
  · have hB : Hid (slotsB l s = slotsFrom s 0) := by show _ = _; simp [slotsB, hf, he, slotsFrom]
    have HE := Lib.hid he
    have e1 : (s.length != l.length) = false := by simp [he]
    have e2 : ((s.length : Int) != (l.length : Int)) = false := by simp [he]
    have e3 : (s.length == l.length) = true := by simp [he]
    clear he
    go_enter Try.func86, Try.ntmps86
    go_wp2_with (first | (go_at_call 60; refine (QF.out _ hr).mono ?_; rintro e w1 ⟨rfl, hb1⟩))
    go_loopw [5] (fun v wr => ∃ k : Nat, k ≤ s.length ∧ v = .int .i64 k ∧ Hid (slotsFrom s k = slotsFrom s 0) ∧ Below w.heap.size w wr) (fun v _ => s.length - (intOf v).toNat)
    case atStart => exact ⟨0, Nat.zero_le _, rfl, rfl, hb1⟩
    case round =>
      obtain ⟨k, hk, rfl, hF, hb⟩ := hrel
      by_cases hlt : k < s.length
      · obtain ⟨ad, x, rfl, hx, x0⟩ := intAt (Kd.C_below hr1 hb) k hlt
        have j4 : (k : Int) < s.length := by omega
        have hX := Lib.hid (slotsFrom_step _ _ _ hx)
        clear hx
        cases hi : inB x (-1) 10060 with
        | false =>
          go_wp2_with (first | (go_at_call 127; refine (spec_in_any _ _ _ _).mono ?_; rintro e w' ⟨rfl, rfl⟩; rw [hi]))
          go_ret
          exact ⟨ret_bool (by rw [hB.out, ← hF.out, hX.out, hi]; rfl), hb⟩
        | true =>
          go_wp2_with (first | (go_at_call 127; refine (spec_in_any _ _ _ _).mono ?_; rintro e w' ⟨rfl, rfl⟩; rw [hi]))
          go_roundw
          case rel => exact ⟨k + 1, by omega, by go_num, by show _ = _; rw [← hF.out, hX.out, hi]; rfl, hb⟩
          case measure => simp [intOf]; omega
      · go_wp2
        go_ret
        obtain rfl : k = s.length := by omega
        exact ⟨ret_bool (by rw [hB.out, ← hF.out, slotsFrom_end _ _ (Nat.le_refl _)]), hb⟩
  · have e1 : (s.length != l.length) = true := by simpa using he
    have e2 : ((s.length : Int) != (l.length : Int)) = true := by simp; omega
    have e3 : (s.length == l.length) = false := by simpa using he
    go_enter Try.func86, Try.ntmps86
    go_wp2_with (first | (go_at_call 60; refine (QF.out _ hr).mono ?_; rintro e w1 ⟨rfl, hb⟩))
    go_ret
    exact ⟨ret_bool (by simp [slotsB, he]), hb⟩
theorem ret_int {a b : Int} (h : a = b) : Ending.returned (.int .i64 a) = .returned (.int .i64 b) := by rw [h]
end Go.Proofs.Ytkfoeplefajkcaa.Q
end
