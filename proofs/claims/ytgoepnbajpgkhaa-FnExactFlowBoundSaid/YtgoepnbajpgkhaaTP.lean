/- Plain: what the laws' copies compute is what they were given; and their contracts, said so. -/
import Derived.Test.YtgoepnbajpgkhaaT1
import Derived.Test.YtgoepnbajpgkhaaS
namespace Go.Proofs.Ytgoepnbajpgkhaa.Q
open Go.RowKit Go.Proofs.YtgoepnbajpgkhaaW.PrintWords Go.Proofs.YtgoepnbajpgkhaaW.PrintLast Go.Proofs.YtgoepnbajpgkhaaW.PrintMore Go.Proofs.Ytgoepnbajpgkhaa.Core
set_option linter.unusedVariables false
set_option linter.unusedSimpArgs false

theorem take_set_next {α : Type} (l xs : List α) (i : Nat) (v : α) (hl : xs.length = l.length) (ht : xs.take i = l.take i) (hv : l[i]? = some v) : (xs.set i v).length = l.length ∧ (xs.set i v).take (i + 1) = l.take (i + 1) := by
  have hi := some_lt hv
  refine ⟨by simp [hl], ?_⟩
  rw [List.take_add_one, List.take_add_one, List.take_set_of_le (Nat.le_refl i), ht, hv]
  simp [List.getElem?_set, hl, hi]
theorem take_all_eq {α : Type} (l xs : List α) (hl : xs.length = l.length) (ht : xs.take l.length = l.take l.length) : xs = l := by
  rw [List.take_length] at ht
  rw [List.take_of_length_le (by omega)] at ht
  exact ht
theorem wrap_next {i : Nat} {n : Nat} (h : i < n) (hn : n ≤ 1048576) : wrap64 ((i : Int) + 1) = ((i + 1 : Nat) : Int) := by
  unfold wrap64
  omega

theorem toCapS_loop (l : List Cap) (hn : l.length ≤ 1048576) : ∀ (d k i : Nat) (xs : List Cap), l.length - i = d → d < k → i ≤ l.length → xs.length = l.length → xs.take i = l.take i → laws_toFlowCapS.l0 k l xs i = some l := by
  intro d
  induction d with
  | zero =>
    intro k i xs hd hk hi hl ht
    obtain ⟨k, rfl⟩ : ∃ m, k = m + 1 := ⟨k - 1, by omega⟩
    obtain rfl : i = l.length := by omega
    simp only [laws_toFlowCapS.l0]
    rw [if_neg (by omega), take_all_eq l xs hl ht]
  | succ d ih =>
    intro k i xs hd hk hi hl ht
    obtain ⟨k, rfl⟩ : ∃ m, k = m + 1 := ⟨k - 1, by omega⟩
    have hlt : i < l.length := by omega
    have hg : l[i]? = some l[i] := List.getElem?_eq_getElem hlt
    have er : rd_T36 l i = l[i] := by
      unfold rd_T36
      rw [Int.toNat_natCast, List.getD_eq_getElem?_getD, hg]
      rfl
    obtain ⟨h1, h2⟩ := take_set_next l xs i l[i] hl ht hg
    simp only [laws_toFlowCapS.l0, laws_toFlowCap.f, Option.bind_some]
    rw [if_pos (by omega), if_pos (by omega), if_pos (by omega), wrap_next hlt hn, er, Int.toNat_natCast]
    exact ih k (i + 1) _ (by omega) (by omega) (by omega) h1 h2
theorem toCapS_some (l : List Cap) (hn : l.length ≤ 1048576) (k : Nat) (hk : l.length < k) : laws_toFlowCapS.f k l = some l := by
  unfold laws_toFlowCapS.f
  rw [if_pos (by omega), if_pos (by omega), Int.toNat_natCast]
  exact toCapS_loop l hn l.length k 0 _ (by omega) hk (by omega) (by simp) (by simp)

theorem toVisitS_loop (l : List Visit) (hn : l.length ≤ 1048576) : ∀ (d k i : Nat) (xs : List Visit), l.length - i = d → d < k → i ≤ l.length → xs.length = l.length → xs.take i = l.take i → laws_toFlowVisitS.l0 k l xs i = some l := by
  intro d
  induction d with
  | zero =>
    intro k i xs hd hk hi hl ht
    obtain ⟨k, rfl⟩ : ∃ m, k = m + 1 := ⟨k - 1, by omega⟩
    obtain rfl : i = l.length := by omega
    simp only [laws_toFlowVisitS.l0]
    rw [if_neg (by omega), take_all_eq l xs hl ht]
  | succ d ih =>
    intro k i xs hd hk hi hl ht
    obtain ⟨k, rfl⟩ : ∃ m, k = m + 1 := ⟨k - 1, by omega⟩
    have hlt : i < l.length := by omega
    have hg : l[i]? = some l[i] := List.getElem?_eq_getElem hlt
    have er : rd_T66 l i = l[i] := by
      unfold rd_T66
      rw [Int.toNat_natCast, List.getD_eq_getElem?_getD, hg]
      rfl
    obtain ⟨h1, h2⟩ := take_set_next l xs i l[i] hl ht hg
    simp only [laws_toFlowVisitS.l0, laws_toFlowVisit.f, Option.bind_some]
    rw [if_pos (by omega), if_pos (by omega), if_pos (by omega), wrap_next hlt hn, er, Int.toNat_natCast]
    exact ih k (i + 1) _ (by omega) (by omega) (by omega) h1 h2
theorem toVisitS_some (l : List Visit) (hn : l.length ≤ 1048576) (k : Nat) (hk : l.length < k) : laws_toFlowVisitS.f k l = some l := by
  unfold laws_toFlowVisitS.f
  rw [if_pos (by omega), if_pos (by omega), Int.toNat_natCast]
  exact toVisitS_loop l hn l.length k 0 _ (by omega) hk (by omega) (by simp) (by simp)

theorem toFlightS_loop (l : List Flight) (M : Nat) (hM : ∀ f ∈ l, f.f3.length ≤ M) (hM2 : M ≤ 1048576) (hn : l.length ≤ 1048576) : ∀ (d k i : Nat) (xs : List Flight), l.length - i = d → d + M < k → i ≤ l.length → xs.length = l.length → xs.take i = l.take i → laws_toFlowFlightS.l0 k l xs i = some l := by
  intro d
  induction d with
  | zero =>
    intro k i xs hd hk hi hl ht
    obtain ⟨k, rfl⟩ : ∃ m, k = m + 1 := ⟨k - 1, by omega⟩
    obtain rfl : i = l.length := by omega
    simp only [laws_toFlowFlightS.l0]
    rw [if_neg (by omega), take_all_eq l xs hl ht]
  | succ d ih =>
    intro k i xs hd hk hi hl ht
    obtain ⟨k, rfl⟩ : ∃ m, k = m + 1 := ⟨k - 1, by omega⟩
    have hlt : i < l.length := by omega
    have hg : l[i]? = some l[i] := List.getElem?_eq_getElem hlt
    have er : rd_T40 l i = l[i] := by
      unfold rd_T40
      rw [Int.toNat_natCast, List.getD_eq_getElem?_getD, hg]
      rfl
    have hv := hM l[i] (List.getElem_mem hlt)
    obtain ⟨h1, h2⟩ := take_set_next l xs i l[i] hl ht hg
    simp only [laws_toFlowFlightS.l0, laws_toFlowFlight.f, er]
    rw [if_pos (by omega), if_pos (by omega), toVisitS_some _ (by omega) k (by omega)]
    simp only [Option.bind_some]
    rw [if_pos (by omega), wrap_next hlt hn, Int.toNat_natCast]
    exact ih k (i + 1) _ (by omega) (by omega) (by omega) h1 h2
theorem toFlightS_some (l : List Flight) (M : Nat) (hM : ∀ f ∈ l, f.f3.length ≤ M) (hM2 : M ≤ 1048576) (hn : l.length ≤ 1048576) (k : Nat) (hk : l.length + M < k) : laws_toFlowFlightS.f k l = some l := by
  unfold laws_toFlowFlightS.f
  rw [if_pos (by omega), if_pos (by omega), Int.toNat_natCast]
  exact toFlightS_loop l M hM hM2 hn l.length k 0 _ (by omega) hk (by omega) (by simp) (by simp)

/-- What is measured bounds its lengths. -/
theorem len_le_wL {α : Type} (w : α → Nat) (l : List α) : l.length ≤ wL w l := by have := wTo_le w l 0; rwa [wTo_zero] at this
theorem mem_le_wL {α : Type} (w : α → Nat) (l : List α) (x : α) (h : x ∈ l) : w x ≤ wL w l := by
  obtain ⟨k, hk, rfl⟩ := List.mem_iff_getElem.1 h
  have h1 := wTo_step w l k _ (List.getElem?_eq_getElem hk)
  have h2 := wTo_le w l (k + 1)
  omega
theorem visits_le_wL (l : List Flight) (f : Flight) (h : f ∈ l) : f.f3.length ≤ wL wF l := by
  have h1 := mem_le_wL wF l f h
  have h2 := len_le_wL wV f.f3
  unfold wF at h1
  unfold wF
  omega

theorem toCapS_any (A : Option Addr) (c : Nat) (l : List Cap) (w : World) (hr : Kd.C k36 w A l.length l) (hc : l.length ≤ c) (hn : wL wC l ≤ 1048576) :
    Calls Try.prog 7 #[.slice A l.length c] w fun e w' => ∃ v : Value, e = .returned v ∧ Kd.R k46 46 w' w.heap.size (fun _ => True) v l ∧ Below w.heap.size w w' :=
  laws_toFlowCapS.calls (l.length + 1) A c l l w hr hc (toCapS_some l (by have := len_le_wL wC l; omega) _ (by omega))
theorem toFlightS_any (A : Option Addr) (c : Nat) (l : List Flight) (w : World) (hr : Kd.C k40 w A l.length l) (hc : l.length ≤ c) (hn : wL wF l ≤ 1048576) :
    Calls Try.prog 8 #[.slice A l.length c] w fun e w' => ∃ v : Value, e = .returned v ∧ Kd.S k50 50 w' w.heap.size (fun _ => True) v l ∧ Below w.heap.size w w' :=
  laws_toFlowFlightS.calls (l.length + wL wF l + 1) A c l l w hr hc (toFlightS_some l (wL wF l) (visits_le_wL l) hn (by have := len_le_wL wF l; omega) _ (by omega))
end Go.Proofs.Ytgoepnbajpgkhaa.Q
