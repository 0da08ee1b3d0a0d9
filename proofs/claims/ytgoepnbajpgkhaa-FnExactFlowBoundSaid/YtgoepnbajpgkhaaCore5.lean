/- Plain laws on the least slot that fits. -/
import Derived.Test.YtgoepnbajpgkhaaCore4
namespace Go.Proofs.Ytgoepnbajpgkhaa
namespace Core

/-- The first of n numbers from t on of which p holds; -1 if it holds of none. -/
def searchN (p : Int → Bool) (t : Int) : Nat → Int
  | 0 => -1
  | n + 1 => if p t = true then t else searchN p (t + 1) n
def leastN (caps : List Cap) (l : List Flight) (s : List Int) (k : Nat) (f : Flight) : Int := searchN (fun t => noneFull caps l (s.set k t)) f.f1 (f.f2.toNat + 1)
def leastAt (caps : List Cap) (l : List Flight) (s : List Int) (k : Nat) : Int := leastN caps l s k (l.getD k default)
theorem search_hit {p : Int → Bool} {t : Int} (h : p t = true) (n : Nat) : searchN p t (n + 1) = t := by simp [searchN, h]
theorem search_miss {p : Int → Bool} {t : Int} (h : p t = false) (n : Nat) : searchN p t (n + 1) = searchN p (t + 1) n := by simp [searchN, h]
theorem slots_set {l : List Flight} {s : List Int} (h : slotsB l s = true) (k : Nat) {t : Int} (h0 : -1 ≤ t) (h1 : t ≤ 10060) : slotsB l (s.set k t) = true := by
  obtain ⟨a, b, c⟩ := slotsB_parts h
  simp only [slotsB, inB, Bool.and_eq_true, decide_eq_true_eq, List.all_eq_true]
  refine ⟨⟨a, by simpa using b⟩, fun x hx => ?_⟩
  rcases List.mem_or_eq_of_mem_set hx with h2 | rfl
  · exact c x h2
  · exact ⟨h0, h1⟩
theorem time_set {l : List Flight} {s : List Int} (h : timeB l s = true) (k : Nat) {f : Flight} (hf : l[k]? = some f) {t : Int} (h0 : inB t f.f1 (f.f1 + f.f2) = true) : timeB l (s.set k t) = true := by
  unfold timeB at h ⊢
  rw [List.all_eq_true] at h ⊢
  intro p hp
  obtain ⟨i, hi⟩ := List.getElem?_of_mem hp
  obtain ⟨g, x⟩ := p
  obtain ⟨h1, h2⟩ := List.getElem?_zip_eq_some.1 hi
  by_cases hik : k = i
  · subst hik
    simp only at h1 h2
    rw [hf] at h1
    obtain rfl := Option.some.inj h1
    have hk : k < s.length := by
      have := some_lt h2
      simpa using this
    rw [List.getElem?_set_self hk] at h2
    obtain rfl := Option.some.inj h2
    simp [timeP, h0]
  · simp only at h1 h2
    rw [List.getElem?_set_ne hik] at h2
    exact h (g, x) (List.mem_of_getElem? (zip_at h1 h2))
theorem fits_set {caps : List Cap} {l : List Flight} {s : List Int} (hc : capsB caps = true) (hs : slotsB l s = true) (ht : timeB l s = true) (k : Nat) {f : Flight} (hf : l[k]? = some f) {t : Int} (h0 : f.f1 ≤ t) (h1 : t ≤ f.f1 + f.f2) : fitsB caps l (s.set k t) = noneFull caps l (s.set k t) := by
  obtain ⟨a, _, _⟩ := slotsB_parts hs
  have b := flightB_parts ((flightsB_parts a).2.1 f (List.mem_of_getElem? hf))
  unfold fitsB
  rw [hc, slots_set hs k (by omega) (by omega), time_set ht k hf (by simp [inB]; omega)]
  rfl
theorem fitsB_parts {caps : List Cap} {l : List Flight} {s : List Int} (h : fitsB caps l s = true) : capsB caps = true ∧ slotsB l s = true ∧ timeB l s = true ∧ noneFull caps l s = true := by
  simp only [fitsB, Bool.and_eq_true] at h
  exact ⟨h.1.1.1, h.1.1.2, h.1.2, h.2⟩
/-- FlowLeast: the place may be outside. -/
def leastB (caps : List Cap) (l : List Flight) (s : List Int) (k : Int) : Int := if fitsB caps l s = true ∧ 0 ≤ k ∧ k < l.length then leastAt caps l s k.toNat else -1
theorem leastAt_some {caps : List Cap} {l : List Flight} {s : List Int} {k : Nat} {f : Flight} (h : l[k]? = some f) : leastAt caps l s k = leastN caps l s k f := by
  unfold leastAt
  rw [List.getD_eq_getElem?_getD, h]
  rfl
end Core
end Go.Proofs.Ytgoepnbajpgkhaa
