/- Contracts: slotsOk and FlowDelay, the program's and the reference's. -/
import Derived.Test.YtgoepnbajpgkhaaA5
namespace Go.Proofs.Ytgoepnbajpgkhaa.Q
open Go.RowKit Go.Proofs.YtgoepnbajpgkhaaW.PrintWords Go.Proofs.Ytgoepnbajpgkhaa.Core
set_option linter.unusedVariables false
set_option linter.unusedSimpArgs false

theorem intAt {w : World} {A : Option Addr} {xs : List Int} (h : Kd.C (Kd.int .i64) w A xs.length xs) (k : Nat) (hk : k < xs.length) :
    ∃ ad x, A = some ad ∧ xs[k]? = some x ∧ w.cell? (ad.add k) = some (.int .i64 x) := by
  obtain ⟨ad, c, e, _, hK, hc⟩ := Kd.C_get h 0 (k : Int) (by omega) (by omega)
  have h0 := hc 0 (.int .i64 (xs.getD (k : Int).toNat 0)) (by rw [show c = [Value.int .i64 (xs.getD (k : Int).toNat 0)] from hK]; rfl)
  refine ⟨ad, xs[k], e, List.getElem?_eq_getElem hk, ?_⟩
  have er : xs.getD (k : Int).toNat 0 = xs[k] := by rw [Int.toNat_natCast, List.getD_eq_getElem?_getD, List.getElem?_eq_getElem hk]; rfl
  rw [er] at h0
  have ea : (k : Int).toNat * (Kd.int .i64).sz + 0 = k := by show (k : Int).toNat * 1 + 0 = k; omega
  rw [ea] at h0
  exact h0

/-- The slots from place k on are in range. -/
def slotsFrom (l : List Int) (k : Nat) : Bool := (l.drop k).all fun s => inB s (-1) 10060
theorem slotsFrom_end (l : List Int) (k : Nat) (h : l.length ≤ k) : slotsFrom l k = true := by unfold slotsFrom; rw [List.drop_of_length_le h]; rfl
theorem slotsFrom_step (l : List Int) (k : Nat) (x : Int) (h : l[k]? = some x) : slotsFrom l k = (inB x (-1) 10060 && slotsFrom l (k + 1)) := by
  have hk : k < l.length := by
    rcases Nat.lt_or_ge k l.length with h1 | h1
    · exact h1
    · rw [List.getElem?_eq_none h1] at h; cases h
  unfold slotsFrom
  rw [List.drop_eq_getElem_cons hk, List.all_cons]
  rw [List.getElem?_eq_getElem hk] at h
  rw [Option.some.inj h]

theorem ret_int {a b : Int} (h : a = b) : Ending.returned (.int .i64 a) = .returned (.int .i64 b) := by rw [h]
theorem delay_same {l : List Flight} {s : List Int} (h : slotsB l s = true) : delayN l s = delayTo l s s.length := by unfold delayN; rw [if_pos h, (slotsB_parts h).2.1]

end Go.Proofs.Ytgoepnbajpgkhaa.Q
