/- Plain laws on the lists of the core: what is checked place by place. -/
import Derived.Test.YtgoepnbajpgkhaaCore
namespace Go.Proofs.Ytgoepnbajpgkhaa
namespace Core

/-- From some place on: each is ok and stands to the one before it as it should. -/
def goB {α : Type} (ok : α → Bool) (rel : α → α → Bool) : Option α → List α → Bool
  | _, [] => true
  | none, x :: r => ok x && goB ok rel (some x) r
  | some p, x :: r => (ok x && rel p x) && goB ok rel (some x) r
def fromB {α : Type} (ok : α → Bool) (rel : α → α → Bool) (l : List α) (k : Nat) : Bool := goB ok rel (if k = 0 then none else l[k - 1]?) (l.drop k)
theorem goB_some {α : Type} (ok : α → Bool) (rel : α → α → Bool) : ∀ (l : List α) (p : α), goB ok rel (some p) l = (l.all ok && linkB rel (p :: l))
  | [], p => rfl
  | x :: r, p => by
    have ih := goB_some ok rel r x
    simp only [goB, ih, List.all_cons, linkB]
    cases ok x <;> cases rel p x <;> simp
theorem goB_none {α : Type} (ok : α → Bool) (rel : α → α → Bool) (l : List α) : goB ok rel none l = (l.all ok && linkB rel l) := by
  cases l with
  | nil => rfl
  | cons x r => simp only [goB, goB_some, List.all_cons, Bool.and_assoc]
theorem fromB_zero {α : Type} (ok : α → Bool) (rel : α → α → Bool) (l : List α) : fromB ok rel l 0 = (l.all ok && linkB rel l) := by
  simp [fromB, goB_none]
theorem fromB_end {α : Type} (ok : α → Bool) (rel : α → α → Bool) (l : List α) (k : Nat) (h : l.length ≤ k) : fromB ok rel l k = true := by
  unfold fromB
  rw [List.drop_of_length_le h]
  cases (if k = 0 then none else l[k - 1]?) <;> rfl
theorem fromB_first {α : Type} (ok : α → Bool) (rel : α → α → Bool) (l : List α) (x : α) (h : l[0]? = some x) : fromB ok rel l 0 = (ok x && fromB ok rel l 1) := by
  cases l with
  | nil => simp at h
  | cons y r =>
    obtain rfl : y = x := by simpa using h
    simp [fromB, goB]
theorem fromB_next {α : Type} (ok : α → Bool) (rel : α → α → Bool) (l : List α) (k : Nat) (p x : α) (hp : l[k]? = some p) (h : l[k + 1]? = some x) : fromB ok rel l (k + 1) = ((ok x && rel p x) && fromB ok rel l (k + 2)) := by
  have hk : k + 1 < l.length := by
    rcases Nat.lt_or_ge (k + 1) l.length with h1 | h1
    · exact h1
    · rw [List.getElem?_eq_none h1] at h; cases h
  have e : l.drop (k + 1) = x :: l.drop (k + 2) := by
    rw [List.drop_eq_getElem_cons hk]
    rw [List.getElem?_eq_getElem hk] at h
    rw [Option.some.inj h]
  unfold fromB
  rw [if_neg (by omega), if_neg (by omega), e]
  simp only [Nat.add_sub_cancel, hp, goB, show k + 2 - 1 = k + 1 from rfl, h]
theorem fromB_bad {α : Type} (ok : α → Bool) (rel : α → α → Bool) (l : List α) (k : Nat) (x : α) (h : l[k]? = some x) (hx : ok x = false) : fromB ok rel l k = false := by
  cases k with
  | zero => rw [fromB_first _ _ _ _ h, hx]; rfl
  | succ k =>
    have hk : k + 1 < l.length := by
      rcases Nat.lt_or_ge (k + 1) l.length with h1 | h1
      · exact h1
      · rw [List.getElem?_eq_none h1] at h; cases h
    rw [fromB_next _ _ _ _ _ _ (List.getElem?_eq_getElem (by omega : k < l.length)) h, hx]; rfl
theorem fromB_bad2 {α : Type} (ok : α → Bool) (rel : α → α → Bool) (l : List α) (k : Nat) (p x : α) (hp : l[k]? = some p) (h : l[k + 1]? = some x) (hx : rel p x = false) : fromB ok rel l (k + 1) = false := by
  rw [fromB_next _ _ _ _ _ _ hp h, hx, Bool.and_false]; rfl
theorem fromB_good0 {α : Type} (ok : α → Bool) (rel : α → α → Bool) (l : List α) (k : Nat) (x : α) (hk : k = 0) (h : l[k]? = some x) (hx : ok x = true) : fromB ok rel l (k + 1) = fromB ok rel l k := by
  subst hk
  rw [fromB_first _ _ _ _ h, hx]; rfl
theorem fromB_good {α : Type} (ok : α → Bool) (rel : α → α → Bool) (l : List α) (k : Nat) (p x : α) (hp : l[k]? = some p) (h : l[k + 1]? = some x) (hx : ok x = true) (hl : rel p x = true) : fromB ok rel l (k + 1 + 1) = fromB ok rel l (k + 1) := by
  rw [fromB_next _ _ _ _ _ _ hp h, hx, hl]; rfl
theorem some_lt {α : Type} {l : List α} {k : Nat} {x : α} (h : l[k]? = some x) : k < l.length := by
  rcases Nat.lt_or_ge k l.length with h1 | h1
  · exact h1
  · rw [List.getElem?_eq_none h1] at h; cases h
theorem flightB_parts {f : Flight} (h : flightB f = true) : nameB f.f0 = true ∧ 0 ≤ f.f1 ∧ f.f1 ≤ 10000 ∧ 0 ≤ f.f2 ∧ f.f2 ≤ 60 ∧ visitsB f.f3 = true := by
  simp only [flightB, inB, Bool.and_eq_true, decide_eq_true_eq] at h
  exact ⟨h.1.1.1, h.1.1.2.1, h.1.1.2.2, h.1.2.1, h.1.2.2, h.2⟩
theorem flightsB_parts {l : List Flight} (h : flightsB l = true) : l.length ≤ 8 ∧ (∀ f ∈ l, flightB f = true) ∧ linkB byName l = true := by
  simp only [flightsB, Bool.and_eq_true, decide_eq_true_eq, List.all_eq_true] at h
  exact ⟨h.1.1, h.1.2, h.2⟩
theorem slotsB_parts {l : List Flight} {s : List Int} (h : slotsB l s = true) : flightsB l = true ∧ s.length = l.length ∧ ∀ x ∈ s, -1 ≤ x ∧ x ≤ 10060 := by
  simp only [slotsB, inB, Bool.and_eq_true, decide_eq_true_eq, List.all_eq_true] at h
  exact ⟨h.1.1, h.1.2, h.2⟩
theorem slotsB_at {l : List Flight} {s : List Int} (h : slotsB l s = true) {k : Nat} {f : Flight} {x : Int} (hf : l[k]? = some f) (hx : s[k]? = some x) : -1 ≤ x ∧ x ≤ 10060 ∧ 0 ≤ f.f1 ∧ f.f1 ≤ 10000 := by
  obtain ⟨h1, h2, h3⟩ := slotsB_parts h
  have h4 := h3 x (List.mem_of_getElem? hx)
  have h5 := flightB_parts ((flightsB_parts h1).2.1 f (List.mem_of_getElem? hf))
  exact ⟨h4.1, h4.2, h5.2.1, h5.2.2.1⟩
theorem delayTo_zero (l : List Flight) (s : List Int) : delayTo l s 0 = 0 := rfl
theorem delayTo_step {l : List Flight} {s : List Int} {k : Nat} {f : Flight} {x : Int} (hf : l[k]? = some f) (hx : s[k]? = some x) : delayTo l s (k + 1) = delayTo l s k + delayOf f x := by
  have hz : (l.zip s)[k]? = some (f, x) := by rw [List.getElem?_zip_eq_some]; exact ⟨hf, hx⟩
  unfold delayTo
  rw [List.take_add_one, hz]
  simp [List.foldl_append]
end Core
end Go.Proofs.Ytgoepnbajpgkhaa
