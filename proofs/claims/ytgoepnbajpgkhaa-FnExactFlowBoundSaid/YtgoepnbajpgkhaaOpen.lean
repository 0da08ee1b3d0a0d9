/- What comes in, as data, reads as lists of the core's structures. -/
import Derived.Test.YtgoepnbajpgkhaaS
import Derived.Deep.Slices
import Derived.Deep.Strs
import Derived.Lib.SmallJoins
import Derived.ProofKit
import Derived.DataReads
namespace Go.Proofs.Ytgoepnbajpgkhaa.Q
open Go.RowKit Go.Proofs.YtgoepnbajpgkhaaW.PrintWords Go.Proofs.Ytgoepnbajpgkhaa.Core Go.Deep
set_option linter.unusedVariables false
set_option linter.unusedSimpArgs false

section
variable {H : Type} {enc : TypeId × Value → H} {w : World} {base : Nat} {spare : Nat → Bool} {held : Bool}

theorem open_list {P : Program} {α : Type} [Inhabited α] (d : Kd α) (good : α → Prop) {t e : TypeId} (ht : P.underlying t = some (.slice e)) (hsz : P.cellsOf e = d.sz)
    (helem : ∀ n cs x, DataW.trod enc P w base spare held n e cs = some x → ∃ y, d.K w y cs ∧ good y) {fuel : Nat} {cs : List Value} {x : DataW H × List MemPlace} (h : DataW.trod enc P w base spare held fuel t cs = some x) :
    ∃ (A : Option Addr) (len cap : Nat) (l : List α), cs = [.slice A len cap] ∧ l.length = len ∧ len ≤ cap ∧ d.C w A len l ∧ ∀ y ∈ l, good y := by
  rcases open_slice ht h with ⟨rfl, _⟩ | ⟨a, len, cap, m, n, D, Pl, rfl, _, hl, hm, hm2, _, hel⟩
  · exact ⟨none, 0, 0, [], rfl, rfl, Nat.le_refl _, ⟨rfl, by omega, fun h => absurd h (by omega)⟩, by simp⟩
  · have hlm : len ≤ m := by rw [hm2]; split <;> omega
    obtain ⟨f, hf⟩ := choose_lt (n := len) (p := fun i y => good y ∧ ∃ cs', w.cells? base (a.add (i * P.cellsOf e)) (P.cellsOf e) = some cs' ∧ d.K w y cs') (fun i hi => by
      obtain ⟨cs', hc, htr⟩ := hel i (by omega)
      obtain ⟨y, hy, hg⟩ := helem _ _ _ htr
      exact ⟨y, hg, cs', hc, hy⟩)
    refine ⟨some a, len, cap, (List.range len).map f, rfl, by simp, hl, ⟨by simp, by simp only [maxLen] at hm; omega, fun _ => ⟨a, rfl, fun j p hj => ?_⟩⟩, fun y hy => ?_⟩
    · have hjl : j < len := by have := some_lt hj; simpa using this
      have hp : f j = p := by
        rw [List.getElem?_map, List.getElem?_range hjl] at hj
        exact Option.some.inj hj
      obtain ⟨_, cs', hc, hK⟩ := hf j hjl
      obtain ⟨_, hlen, hcell⟩ := World.cells?_some hc
      refine ⟨cs', by rw [hlen, hsz], by rw [← hp]; exact hK, fun i u hu => ?_⟩
      have := hcell i (by rw [← hlen]; exact some_lt hu)
      rw [Deep.add_add, hsz, hu] at this
      exact this
    · obtain ⟨j, hj, rfl⟩ := List.mem_map.1 hy
      exact (hf j (List.mem_range.1 hj)).1

theorem two_of {α : Type} {cs : List α} {a b : α} (hl : cs.length = 2) (h0 : (cs.drop 0).take 1 = [a]) (h1 : (cs.drop 1).take 1 = [b]) : cs = [a, b] := by
  match cs, hl with
  | [x, y], _ => simp at h0 h1; rw [h0, h1]
theorem three_of {α : Type} {cs : List α} {a b c : α} (hl : cs.length = 3) (h0 : (cs.drop 0).take 1 = [a]) (h1 : (cs.drop 1).take 1 = [b]) (h2 : (cs.drop 2).take 1 = [c]) : cs = [a, b, c] := by
  match cs, hl with
  | [x, y, z], _ => simp at h0 h1 h2; rw [h0, h1, h2]
theorem four_of {α : Type} {cs : List α} {a b c d : α} (hl : cs.length = 4) (h0 : (cs.drop 0).take 1 = [a]) (h1 : (cs.drop 1).take 1 = [b]) (h2 : (cs.drop 2).take 1 = [c]) (h3 : (cs.drop 3).take 1 = [d]) : cs = [a, b, c, d] := by
  match cs, hl with
  | [x, y, z, u], _ => simp at h0 h1 h2 h3; rw [h0, h1, h2, h3]
theorem cells_int : Try.prog.cellsOf 3 = 1 := by kernel_rfl
theorem cells_str : Try.prog.cellsOf 9 = 1 := by kernel_rfl
theorem cells_cap : Try.prog.cellsOf 36 = 2 := by kernel_rfl
theorem cells_visit : Try.prog.cellsOf 66 = 3 := by kernel_rfl
theorem cells_visits : Try.prog.cellsOf 38 = 1 := by kernel_rfl
theorem cells_flight : Try.prog.cellsOf 40 = 4 := by kernel_rfl

theorem open_cap {n : Nat} {cs : List Value} {x : DataW H × List MemPlace} (h : DataW.trod enc Try.prog w base spare held n 36 cs = some x) : ∃ y, (k36).K w y cs ∧ smallC y := by
  obtain ⟨y0, y1, m, _, hl, h0, h1⟩ := Go.ChangeShapes.trod_struct2 Try.underlying36 h
  obtain ⟨s, e0, _, hs⟩ := DataW.trod_string Try.underlying9 h0
  obtain ⟨k, e1, _, _⟩ := DataW.trod_int Try.underlying3 h1
  rw [cells_cap] at hl
  simp only [cells_str, cells_int] at e0 e1
  rw [two_of hl e0 e1]
  exact ⟨⟨s, k⟩, k36_mk w ⟨s, k⟩, hs⟩
theorem open_visit {n : Nat} {cs : List Value} {x : DataW H × List MemPlace} (h : DataW.trod enc Try.prog w base spare held n 66 cs = some x) : ∃ y, (k66).K w y cs ∧ smallV y := by
  obtain ⟨y0, y1, y2, m, _, hl, h0, h1, h2⟩ := trod_struct3 Try.underlying66 h
  obtain ⟨s, e0, _, hs⟩ := DataW.trod_string Try.underlying9 h0
  obtain ⟨k, e1, _, _⟩ := DataW.trod_int Try.underlying3 h1
  obtain ⟨j, e2, _, _⟩ := DataW.trod_int Try.underlying3 h2
  rw [cells_visit] at hl
  simp only [cells_str, cells_int] at e0 e1 e2
  rw [three_of hl e0 e1 e2]
  exact ⟨⟨s, k, j⟩, k66_mk w ⟨s, k, j⟩, hs⟩
theorem open_flight {n : Nat} {cs : List Value} {x : DataW H × List MemPlace} (h : DataW.trod enc Try.prog w base spare held n 40 cs = some x) : ∃ y, (k40).K w y cs ∧ smallF y := by
  obtain ⟨y0, y1, y2, y3, m, _, hl, h0, h1, h2, h3⟩ := Joins.trod_struct4 Try.underlying40 h
  obtain ⟨s, e0, _, hs⟩ := DataW.trod_string Try.underlying9 h0
  obtain ⟨k, e1, _, _⟩ := DataW.trod_int Try.underlying3 h1
  obtain ⟨j, e2, _, _⟩ := DataW.trod_int Try.underlying3 h2
  obtain ⟨A, len, cap, l, e3, rfl, hlc, hr, hg⟩ := open_list k66 smallV Try.underlying38 cells_visit (fun n cs x h => open_visit h) h3
  rw [cells_flight] at hl
  simp only [cells_str, cells_int, cells_visits] at e0 e1 e2 e3
  rw [four_of hl e0 e1 e2 e3]
  exact ⟨⟨s, k, j, l⟩, k40_mk w ⟨s, k, j, l⟩ hlc hr, hs, hg⟩
theorem open_int_cell {n : Nat} {cs : List Value} {x : DataW H × List MemPlace} (h : DataW.trod enc Try.prog w base spare held n 3 cs = some x) : ∃ y, (Kd.int .i64).K w y cs ∧ (Lit.int .i64 y).wf = true := by
  obtain ⟨k, rfl, _, hw⟩ := DataW.trod_int Try.underlying3 h
  exact ⟨k, rfl, hw⟩

/-! Each kind of argument, opened. -/
theorem arg_caps {a : Option Addr} {len cap : Nat} {d : DataW H} {p : List MemPlace} (h : DataW.Trod enc Try.prog w base spare held 22 (.slice a len cap) d p) :
    ∃ l, len = l.length ∧ l.length ≤ cap ∧ Kd.C k36 w a l.length l ∧ ∀ y ∈ l, smallC y := by
  obtain ⟨fuel, hf⟩ := h
  obtain ⟨A, len', cap', l, e, rfl, hlc, hr, hg⟩ := open_list k36 smallC Try.underlying22 cells_cap (fun n cs x h => open_cap h) hf
  simp [Value.cells] at e
  obtain ⟨rfl, rfl, rfl⟩ := e
  exact ⟨l, rfl, hlc, hr, hg⟩
theorem arg_flights {a : Option Addr} {len cap : Nat} {d : DataW H} {p : List MemPlace} (h : DataW.Trod enc Try.prog w base spare held 23 (.slice a len cap) d p) :
    ∃ l, len = l.length ∧ l.length ≤ cap ∧ Kd.C k40 w a l.length l ∧ ∀ y ∈ l, smallF y := by
  obtain ⟨fuel, hf⟩ := h
  obtain ⟨A, len', cap', l, e, rfl, hlc, hr, hg⟩ := open_list k40 smallF Try.underlying23 cells_flight (fun n cs x h => open_flight h) hf
  simp [Value.cells] at e
  obtain ⟨rfl, rfl, rfl⟩ := e
  exact ⟨l, rfl, hlc, hr, hg⟩
theorem arg_visits {a : Option Addr} {len cap : Nat} {d : DataW H} {p : List MemPlace} (h : DataW.Trod enc Try.prog w base spare held 38 (.slice a len cap) d p) :
    ∃ l, len = l.length ∧ l.length ≤ cap ∧ Kd.C k66 w a l.length l ∧ ∀ y ∈ l, smallV y := by
  obtain ⟨fuel, hf⟩ := h
  obtain ⟨A, len', cap', l, e, rfl, hlc, hr, hg⟩ := open_list k66 smallV Try.underlying38 cells_visit (fun n cs x h => open_visit h) hf
  simp [Value.cells] at e
  obtain ⟨rfl, rfl, rfl⟩ := e
  exact ⟨l, rfl, hlc, hr, hg⟩
theorem arg_ints {a : Option Addr} {len cap : Nat} {d : DataW H} {p : List MemPlace} (h : DataW.Trod enc Try.prog w base spare held 44 (.slice a len cap) d p) :
    ∃ l, len = l.length ∧ l.length ≤ cap ∧ Kd.C (Kd.int .i64) w a l.length l ∧ ∀ y ∈ l, (fun y => (Lit.int .i64 y).wf = true) y := by
  obtain ⟨fuel, hf⟩ := h
  obtain ⟨A, len', cap', l, e, rfl, hlc, hr, hg⟩ := open_list (Kd.int .i64) (fun y => (Lit.int .i64 y).wf = true) Try.underlying44 cells_int (fun n cs x h => open_int_cell h) hf
  simp [Value.cells] at e
  obtain ⟨rfl, rfl, rfl⟩ := e
  exact ⟨l, rfl, hlc, hr, hg⟩
end
end Go.Proofs.Ytgoepnbajpgkhaa.Q
