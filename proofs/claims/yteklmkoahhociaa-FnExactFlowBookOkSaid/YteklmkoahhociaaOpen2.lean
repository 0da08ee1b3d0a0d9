/- A book, a flight that comes in, opened. -/
import Derived.Test.YteklmkoahhociaaOpen
namespace Go.Proofs.Yteklmkoahhociaa.Q
open Go.RowKit Go.Proofs.YteklmkoahhociaaW.PrintWords Go.Proofs.Yteklmkoahhociaa.Core Go.Deep Go.WideShapes
set_option linter.unusedVariables false
set_option linter.unusedSimpArgs false
set_option linter.constructorNameAsVariable false
section
variable {H : Type} {enc : TypeId × Value → H} {w : World} {base : Nat} {spare : Nat → Bool} {held : Bool}
theorem cells_caps : Try.prog.cellsOf 23 = 1 := by kernel_rfl
theorem cells_flights : Try.prog.cellsOf 30 = 1 := by kernel_rfl
theorem cells_ints : Try.prog.cellsOf 37 = 1 := by kernel_rfl
theorem cells_book : Try.prog.cellsOf 52 = 3 := by kernel_rfl
theorem agg3 {cs : Array Value} {a b c : Value} (h : cs.toList = [a, b, c]) : Value.agg cs = .agg #[a, b, c] := by
  cases cs with
  | mk l => simp at h; rw [h]
theorem agg4 {cs : Array Value} {a b c d : Value} (h : cs.toList = [a, b, c, d]) : Value.agg cs = .agg #[a, b, c, d] := by
  cases cs with
  | mk l => simp at h; rw [h]
set_option maxRecDepth 100000 in
theorem arg_book {W0 : World} {r : Reach} {b0 : Nat} {v : Value} {d : DataW H} {p : List MemPlace} (hv : Value.okWide Try.prog W0 r b0 52 v) (h : DataW.Trod enc Try.prog w base spare held 52 v d p) :
    ∃ (A0 : Option Addr) (c0 : Nat) (l0 : List Cap) (A1 : Option Addr) (c1 : Nat) (l1 : List Flight) (A2 : Option Addr) (c2 : Nat) (l2 : List Int), v = .agg #[.slice A0 l0.length c0, .slice A1 l1.length c1, .slice A2 l2.length c2] ∧
      l0.length ≤ c0 ∧ Kd.C k67 w A0 l0.length l0 ∧ (∀ y ∈ l0, smallC y) ∧ l1.length ≤ c1 ∧ Kd.C k76 w A1 l1.length l1 ∧ (∀ y ∈ l1, smallF y) ∧ l2.length ≤ c2 ∧ Kd.C (Kd.int .i64) w A2 l2.length l2 ∧ (∀ y ∈ l2, (Lit.int .i64 y).wf = true) := by
  obtain ⟨cs, rfl, hcs⟩ := okWide_struct Try.underlying52 hv
  obtain ⟨fuel, hf⟩ := h
  obtain ⟨y0, y1, y2, m, _, hl, h0, h1, h2⟩ := trod_struct3 Try.underlying52 hf
  obtain ⟨A0, n0, c0, l0, e0, rfl, hc0, hr0, hg0⟩ := open_list k67 smallC Try.underlying23 cells_cap (fun n cs x h => open_cap h) h0
  obtain ⟨A1, n1, c1, l1, e1, rfl, hc1, hr1, hg1⟩ := open_list k76 smallF Try.underlying30 cells_flight (fun n cs x h => open_flight h) h1
  obtain ⟨A2, n2, c2, l2, e2, rfl, hc2, hr2, hg2⟩ := open_list (Kd.int .i64) (fun y => (Lit.int .i64 y).wf = true) Try.underlying37 cells_int (fun n cs x h => open_int_cell h) h2
  rw [cells_book] at hl
  simp only [cells_caps, cells_flights, cells_ints] at e0 e1 e2
  exact ⟨A0, c0, l0, A1, c1, l1, A2, c2, l2, agg3 (three_of hl e0 e1 e2), hc0, hr0, hg0, hc1, hr1, hg1, hc2, hr2, hg2⟩
set_option maxRecDepth 100000 in
theorem arg_flight {W0 : World} {r : Reach} {b0 : Nat} {v : Value} {d : DataW H} {p : List MemPlace} (hv : Value.okWide Try.prog W0 r b0 76 v) (h : DataW.Trod enc Try.prog w base spare held 76 v d p) :
    ∃ (f0 : ByteArray) (f1 f2 : Int) (A : Option Addr) (c : Nat) (l : List Visit), v = .agg #[.string f0, .int .i64 f1, .int .i64 f2, .slice A l.length c] ∧ f0.size ≤ maxS ∧ l.length ≤ c ∧ Kd.C k116 w A l.length l ∧ (∀ y ∈ l, smallV y) := by
  obtain ⟨cs, rfl, hcs⟩ := okWide_struct Try.underlying76 hv
  obtain ⟨fuel, hf⟩ := h
  obtain ⟨y0, y1, y2, y3, m, _, hl, h0, h1, h2, h3⟩ := Joins.trod_struct4 Try.underlying76 hf
  obtain ⟨s, e0, _, hs⟩ := DataW.trod_string Try.underlying9 h0
  obtain ⟨k, e1, _, _⟩ := DataW.trod_int Try.underlying3 h1
  obtain ⟨j, e2, _, _⟩ := DataW.trod_int Try.underlying3 h2
  obtain ⟨A, len, cap, l, e3, rfl, hlc, hr, hg⟩ := open_list k116 smallV Try.underlying74 cells_visit (fun n cs x h => open_visit h) h3
  rw [cells_flight] at hl
  simp only [cells_str, cells_int, cells_visits] at e0 e1 e2 e3
  exact ⟨s, k, j, A, cap, l, agg4 (four_of hl e0 e1 e2 e3), hs, hlc, hr, hg⟩
end
end Go.Proofs.Yteklmkoahhociaa.Q
