/- Merged out of this seat's own texts. -/
import Derived.WalkKit
import Derived.WalkLawsBesides
import Derived.Laws.Strings
import Derived.Sort.LotA
section
namespace Go.Proofs.Ytkfoeplefajkcaa
namespace Core
structure Visit where
  f0 : ByteArray
  f1 : Int
  f2 : Int
structure Flight where
  f0 : ByteArray
  f1 : Int
  f2 : Int
  f3 : List Visit
structure Cap where
  f0 : ByteArray
  f1 : Int
structure Run where
  f0 : Int
  f1 : Int
  f2 : Int
structure Book where
  f0 : List Cap
  f1 : List Flight
  f2 : List Int
instance : Inhabited Visit := ⟨⟨ByteArray.empty, 0, 0⟩⟩
instance : Inhabited Flight := ⟨⟨ByteArray.empty, 0, 0, []⟩⟩
instance : Inhabited Cap := ⟨⟨ByteArray.empty, 0⟩⟩
def inB (n lo hi : Int) : Bool := decide (lo ≤ n) && decide (n ≤ hi)
def okByte (c : Int) : Bool := (decide (97 ≤ c) && decide (c ≤ 122)) || (decide (48 ≤ c) && decide (c ≤ 57)) || (c == 45)
def nameB (s : ByteArray) : Bool := inB s.size 1 8 && s.data.toList.all fun c => okByte c.toNat
def lessB (a b : ByteArray) : Bool := Op.bytesLess a.toList b.toList
def visitB (v : Visit) : Bool := nameB v.f0 && inB v.f1 0 200 && inB v.f2 1 30
def linkB {α : Type} (rel : α → α → Bool) : List α → Bool
  | [] => true
  | [_] => true
  | u :: v :: r => rel u v && linkB rel (v :: r)
def apartB (u v : Visit) : Bool := decide (u.f1 + u.f2 ≤ v.f1)
def byName (a b : Flight) : Bool := lessB a.f0 b.f0
def bySector (a b : Cap) : Bool := lessB a.f0 b.f0
def visitsB (l : List Visit) : Bool := inB l.length 1 5 && l.all visitB && linkB apartB l
def flightB (f : Flight) : Bool := nameB f.f0 && inB f.f1 0 10000 && inB f.f2 0 60 && visitsB f.f3
def flightsB (l : List Flight) : Bool := decide (l.length ≤ 8) && l.all flightB && linkB byName l
def capB (c : Cap) : Bool := nameB c.f0 && inB c.f1 0 20
def capsB (l : List Cap) : Bool := decide (l.length ≤ 6) && l.all capB && linkB bySector l
def slotsB (list : List Flight) (slots : List Int) : Bool := flightsB list && decide (slots.length = list.length) && slots.all fun s => inB s (-1) 10060
end Core
end Go.Proofs.Ytkfoeplefajkcaa
end
section
namespace Go.Proofs.Ytkfoeplefajkcaa
namespace Core
def goB {α : Type} (ok : α → Bool) (rel : α → α → Bool) : Option α → List α → Bool
  | _, [] => true
  | none, x :: r => ok x && goB ok rel (some x) r
  | some p, x :: r => (ok x && rel p x) && goB ok rel (some x) r
def fromB {α : Type} (ok : α → Bool) (rel : α → α → Bool) (l : List α) (k : Nat) : Bool := goB ok rel (if k = 0 then none else l[k - 1]?) (l.drop k)
theorem goB_some {α : Type} (ok : α → Bool) (rel : α → α → Bool) : ∀ (l : List α) (p : α), goB ok rel (some p) l = (l.all ok && linkB rel (p :: l))
  | [], p => rfl
  | x :: r, p => by
    have ih := goB_some ok rel r x
    simp only [goB, ih, List.all_cons, linkB]
    cases ok x <;> cases rel p x <;> simp
theorem goB_none {α : Type} (ok : α → Bool) (rel : α → α → Bool) (l : List α) : goB ok rel none l = (l.all ok && linkB rel l) := by
  cases l with
  | nil => rfl
  | cons x r => simp only [goB, goB_some, List.all_cons, Bool.and_assoc]
theorem fromB_zero {α : Type} (ok : α → Bool) (rel : α → α → Bool) (l : List α) : fromB ok rel l 0 = (l.all ok && linkB rel l) := by
  simp [fromB, goB_none]
theorem fromB_end {α : Type} (ok : α → Bool) (rel : α → α → Bool) (l : List α) (k : Nat) (h : l.length ≤ k) : fromB ok rel l k = true := by
  unfold fromB
  rw [List.drop_of_length_le h]
  cases (if k = 0 then none else l[k - 1]?) <;> rfl
theorem fromB_first {α : Type} (ok : α → Bool) (rel : α → α → Bool) (l : List α) (x : α) (h : l[0]? = some x) : fromB ok rel l 0 = (ok x && fromB ok rel l 1) := by
  cases l with
  | nil => simp at h
  | cons y r =>
    obtain rfl : y = x := by simpa using h
    simp [fromB, goB]
theorem fromB_next {α : Type} (ok : α → Bool) (rel : α → α → Bool) (l : List α) (k : Nat) (p x : α) (hp : l[k]? = some p) (h : l[k + 1]? = some x) : fromB ok rel l (k + 1) = ((ok x && rel p x) && fromB ok rel l (k + 2)) := by
  have hk : k + 1 < l.length := by
    rcases Nat.lt_or_ge (k + 1) l.length with h1 | h1
    · exact h1
    · rw [List.getElem?_eq_none h1] at h; cases h
  have e : l.drop (k + 1) = x :: l.drop (k + 2) := by
    rw [List.drop_eq_getElem_cons hk]
    rw [List.getElem?_eq_getElem hk] at h
    rw [Option.some.inj h]
  unfold fromB
  rw [if_neg (by omega), if_neg (by omega), e]
  simp only [Nat.add_sub_cancel, hp, goB, show k + 2 - 1 = k + 1 from rfl, h]
theorem fromB_bad {α : Type} (ok : α → Bool) (rel : α → α → Bool) (l : List α) (k : Nat) (x : α) (h : l[k]? = some x) (hx : ok x = false) : fromB ok rel l k = false := by
  cases k with
  | zero => rw [fromB_first _ _ _ _ h, hx]; rfl
  | succ k =>
    have hk : k + 1 < l.length := by
      rcases Nat.lt_or_ge (k + 1) l.length with h1 | h1
      · exact h1
      · rw [List.getElem?_eq_none h1] at h; cases h
    rw [fromB_next _ _ _ _ _ _ (List.getElem?_eq_getElem (by omega : k < l.length)) h, hx]; rfl
theorem fromB_bad2 {α : Type} (ok : α → Bool) (rel : α → α → Bool) (l : List α) (k : Nat) (p x : α) (hp : l[k]? = some p) (h : l[k + 1]? = some x) (hx : rel p x = false) : fromB ok rel l (k + 1) = false := by
  rw [fromB_next _ _ _ _ _ _ hp h, hx, Bool.and_false]; rfl
theorem fromB_good0 {α : Type} (ok : α → Bool) (rel : α → α → Bool) (l : List α) (k : Nat) (x : α) (hk : k = 0) (h : l[k]? = some x) (hx : ok x = true) : fromB ok rel l (k + 1) = fromB ok rel l k := by
  subst hk
  rw [fromB_first _ _ _ _ h, hx]; rfl
theorem fromB_good {α : Type} (ok : α → Bool) (rel : α → α → Bool) (l : List α) (k : Nat) (p x : α) (hp : l[k]? = some p) (h : l[k + 1]? = some x) (hx : ok x = true) (hl : rel p x = true) : fromB ok rel l (k + 1 + 1) = fromB ok rel l (k + 1) := by
  rw [fromB_next _ _ _ _ _ _ hp h, hx, hl]; rfl
theorem some_lt {α : Type} {l : List α} {k : Nat} {x : α} (h : l[k]? = some x) : k < l.length := by
  rcases Nat.lt_or_ge k l.length with h1 | h1
  · exact h1
  · rw [List.getElem?_eq_none h1] at h; cases h
theorem flightB_parts {f : Flight} (h : flightB f = true) : nameB f.f0 = true ∧ 0 ≤ f.f1 ∧ f.f1 ≤ 10000 ∧ 0 ≤ f.f2 ∧ f.f2 ≤ 60 ∧ visitsB f.f3 = true := by
  simp only [flightB, inB, Bool.and_eq_true, decide_eq_true_eq] at h
  exact ⟨h.1.1.1, h.1.1.2.1, h.1.1.2.2, h.1.2.1, h.1.2.2, h.2⟩
theorem flightsB_parts {l : List Flight} (h : flightsB l = true) : l.length ≤ 8 ∧ (∀ f ∈ l, flightB f = true) ∧ linkB byName l = true := by
  simp only [flightsB, Bool.and_eq_true, decide_eq_true_eq, List.all_eq_true] at h
  exact ⟨h.1.1, h.1.2, h.2⟩
theorem slotsB_parts {l : List Flight} {s : List Int} (h : slotsB l s = true) : flightsB l = true ∧ s.length = l.length ∧ ∀ x ∈ s, -1 ≤ x ∧ x ≤ 10060 := by
  simp only [slotsB, inB, Bool.and_eq_true, decide_eq_true_eq, List.all_eq_true] at h
  exact ⟨h.1.1, h.1.2, h.2⟩
theorem slotsB_at {l : List Flight} {s : List Int} (h : slotsB l s = true) {k : Nat} {f : Flight} {x : Int} (hf : l[k]? = some f) (hx : s[k]? = some x) : -1 ≤ x ∧ x ≤ 10060 ∧ 0 ≤ f.f1 ∧ f.f1 ≤ 10000 := by
  obtain ⟨h1, h2, h3⟩ := slotsB_parts h
  have h4 := h3 x (List.mem_of_getElem? hx)
  have h5 := flightB_parts ((flightsB_parts h1).2.1 f (List.mem_of_getElem? hf))
  exact ⟨h4.1, h4.2, h5.2.1, h5.2.2.1⟩
end Core
end Go.Proofs.Ytkfoeplefajkcaa
end
section
namespace Go.Proofs.Ytkfoeplefajkcaa
namespace Core
def coversB (slot : Int) (sec : ByteArray) (t : Int) (v : Visit) : Bool := decide (v.f0 = sec) && inB t (slot + v.f1) (slot + v.f1 + v.f2 - 1)
def hasB (slot : Int) (sec : ByteArray) (t : Int) (vs : List Visit) : Bool := vs.any (coversB slot sec t)
def cntV (slot : Int) (sec : ByteArray) (t : Int) (vs : List Visit) : Nat := vs.countP (coversB slot sec t)
def cntP (sec : ByteArray) (t : Int) (p : Flight × Int) : Nat := if 0 ≤ p.2 then cntV p.2 sec t p.1.f3 else 0
def onP (sec : ByteArray) (t : Int) (p : Flight × Int) : Bool := decide (0 ≤ p.2) && hasB p.2 sec t p.1.f3
def cntTo (l : List Flight) (s : List Int) (sec : ByteArray) (t : Int) (k : Nat) : Nat := (((l.zip s).take k).map (cntP sec t)).sum
def loadTo (l : List Flight) (s : List Int) (sec : ByteArray) (t : Int) (k : Nat) : Nat := ((l.zip s).take k).countP (onP sec t)
theorem zip_at {l : List Flight} {s : List Int} {k : Nat} {f : Flight} {x : Int} (hf : l[k]? = some f) (hx : s[k]? = some x) : (l.zip s)[k]? = some (f, x) := by
  rw [List.getElem?_zip_eq_some]; exact ⟨hf, hx⟩
theorem cntTo_zero (l : List Flight) (s : List Int) (sec : ByteArray) (t : Int) : cntTo l s sec t 0 = 0 := by simp [cntTo]
theorem loadTo_zero (l : List Flight) (s : List Int) (sec : ByteArray) (t : Int) : loadTo l s sec t 0 = 0 := by simp [loadTo]
theorem cntTo_step {l : List Flight} {s : List Int} {k : Nat} {f : Flight} {x : Int} (hf : l[k]? = some f) (hx : s[k]? = some x) (sec : ByteArray) (t : Int) : cntTo l s sec t (k + 1) = cntTo l s sec t k + cntP sec t (f, x) := by
  unfold cntTo
  rw [List.take_add_one, zip_at hf hx]
  simp
theorem loadTo_step {l : List Flight} {s : List Int} {k : Nat} {f : Flight} {x : Int} (hf : l[k]? = some f) (hx : s[k]? = some x) (sec : ByteArray) (t : Int) : loadTo l s sec t (k + 1) = loadTo l s sec t k + (if onP sec t (f, x) then 1 else 0) := by
  unfold loadTo
  rw [List.take_add_one, zip_at hf hx]
  simp [List.countP_append, List.countP_cons]
theorem cntV_zero (x : Int) (sec : ByteArray) (t : Int) (vs : List Visit) : cntV x sec t (vs.take 0) = 0 := by simp [cntV]
theorem cntV_step {vs : List Visit} {k : Nat} {v : Visit} (h : vs[k]? = some v) (x : Int) (sec : ByteArray) (t : Int) : cntV x sec t (vs.take (k + 1)) = cntV x sec t (vs.take k) + (if coversB x sec t v then 1 else 0) := by
  unfold cntV
  rw [List.take_add_one, h]
  simp [List.countP_append, List.countP_cons]
theorem apart_all : ∀ (r : List Visit) (v : Visit), linkB apartB (v :: r) = true → (∀ u ∈ r, 1 ≤ u.f2) → ∀ u ∈ r, v.f1 + v.f2 ≤ u.f1
  | [], _, _, _, _, hu => by cases hu
  | y :: r, v, h, hp, u, hu => by
    simp only [linkB, Bool.and_eq_true] at h
    have h1 : v.f1 + v.f2 ≤ y.f1 := by simpa [apartB] using h.1
    rcases List.mem_cons.1 hu with rfl | hu'
    · exact h1
    · have h2 := apart_all r y h.2 (fun u hu => hp u (List.mem_cons_of_mem _ hu)) u hu'
      have h3 := hp y (List.mem_cons_self ..)
      omega
theorem visitB_stay {v : Visit} (h : visitB v = true) : 0 ≤ v.f1 ∧ v.f1 ≤ 200 ∧ 1 ≤ v.f2 ∧ v.f2 ≤ 30 := by
  simp only [visitB, inB, Bool.and_eq_true, decide_eq_true_eq] at h
  exact ⟨h.1.2.1, h.1.2.2, h.2.1, h.2.2⟩
theorem cnt_one : ∀ (vs : List Visit) (x : Int) (sec : ByteArray) (t : Int), linkB apartB vs = true → (∀ v ∈ vs, visitB v = true) → cntV x sec t vs = if hasB x sec t vs then 1 else 0
  | [], _, _, _, _, _ => rfl
  | v :: r, x, sec, t, h, hv => by
    have hl : linkB apartB r = true := by
      cases r with
      | nil => rfl
      | cons y r => simp only [linkB, Bool.and_eq_true] at h; exact h.2
    have ih := cnt_one r x sec t hl (fun u hu => hv u (List.mem_cons_of_mem _ hu))
    unfold cntV hasB at ih ⊢
    rw [List.countP_cons, List.any_cons]
    cases hc : coversB x sec t v with
    | false => simpa using ih
    | true =>
      have hap := apart_all r v h (fun u hu => (visitB_stay (hv u (List.mem_cons_of_mem _ hu))).2.2.1)
      have hz : r.countP (coversB x sec t) = 0 := by
        rw [List.countP_eq_zero]
        intro u hu hcu
        have h1 := hap u hu
        simp only [coversB, inB, Bool.and_eq_true, decide_eq_true_eq] at hc hcu
        omega
      rw [hz]
      simp
theorem visitsB_parts {l : List Visit} (h : visitsB l = true) : 1 ≤ l.length ∧ l.length ≤ 5 ∧ (∀ v ∈ l, visitB v = true) ∧ linkB apartB l = true := by
  simp only [visitsB, inB, Bool.and_eq_true, decide_eq_true_eq, List.all_eq_true] at h
  exact ⟨by omega, by omega, h.1.2, h.2⟩
theorem cntP_on {f : Flight} (h : flightB f = true) (x : Int) (sec : ByteArray) (t : Int) : cntP sec t (f, x) = if onP sec t (f, x) then 1 else 0 := by
  have hv := visitsB_parts (flightB_parts h).2.2.2.2.2
  unfold cntP onP
  by_cases hx : 0 ≤ x
  · simp only [hx, if_true, decide_true, Bool.true_and]
    exact cnt_one _ _ _ _ hv.2.2.2 hv.2.2.1
  · simp [hx]
theorem cnt_load {l : List Flight} (h : ∀ f ∈ l, flightB f = true) (s : List Int) (sec : ByteArray) (t : Int) : ∀ k, cntTo l s sec t k = loadTo l s sec t k
  | 0 => by rw [cntTo_zero, loadTo_zero]
  | k + 1 => by
    have ih := cnt_load h s sec t k
    cases hz : (l.zip s)[k]? with
    | none =>
      unfold cntTo loadTo at ih ⊢
      rw [List.take_add_one, hz]
      simpa using ih
    | some p =>
      obtain ⟨f, x⟩ := p
      obtain ⟨hf, hx⟩ := List.getElem?_zip_eq_some.1 hz
      rw [cntTo_step hf hx, loadTo_step hf hx, ih, cntP_on (h f (List.mem_of_getElem? hf))]
end Core
end Go.Proofs.Ytkfoeplefajkcaa
end
section
namespace Go.Proofs.Ytkfoeplefajkcaa
namespace Core
def fullV (c : Cap) (l : List Flight) (s : List Int) (x : Int) (v : Visit) : Bool := decide (v.f0 = c.f0) && decide (c.f1 < (loadTo l s c.f0 (x + v.f1) l.length : Int))
def fullP (c : Cap) (l : List Flight) (s : List Int) (p : Flight × Int) : Bool := decide (0 ≤ p.2) && p.1.f3.any (fullV c l s p.2)
def fullB (c : Cap) (l : List Flight) (s : List Int) : Bool := (l.zip s).any (fullP c l s)
def noneFull (caps : List Cap) (l : List Flight) (s : List Int) : Bool := caps.all fun c => !fullB c l s
def timeP (p : Flight × Int) : Bool := !decide (0 ≤ p.2) || inB p.2 p.1.f1 (p.1.f1 + p.1.f2)
def timeB (l : List Flight) (s : List Int) : Bool := (l.zip s).all timeP
def fitsB (caps : List Cap) (l : List Flight) (s : List Int) : Bool := capsB caps && slotsB l s && timeB l s && noneFull caps l s
theorem covers_back {x t : Int} {sec : ByteArray} {v : Visit} (h : coversB x sec t v = true) (hn : x + v.f1 ≠ t) : coversB x sec (t - 1) v = true := by
  simp only [coversB, inB, Bool.and_eq_true, decide_eq_true_eq] at h ⊢
  exact ⟨h.1, by omega, by omega⟩
theorem countP_mono' {α : Type} {p q : α → Bool} : ∀ (l : List α), (∀ x ∈ l, p x = true → q x = true) → l.countP p ≤ l.countP q
  | [], _ => Nat.le_refl _
  | a :: r, h => by
    have ih := countP_mono' r (fun x hx => h x (List.mem_cons_of_mem _ hx))
    rw [List.countP_cons, List.countP_cons]
    cases hp : p a with
    | false => simp; omega
    | true => rw [h a (List.mem_cons_self ..) hp]; simp; omega
theorem loadTo_all (l : List Flight) (s : List Int) (sec : ByteArray) (t : Int) : loadTo l s sec t l.length = (l.zip s).countP (onP sec t) := by
  unfold loadTo
  rw [List.take_of_length_le (by simp; omega)]
theorem full_down {l : List Flight} {s : List Int} (hs : slotsB l s = true) (c : Cap) (hc : 0 ≤ c.f1) : ∀ (n : Nat) (t : Int), t < n → c.f1 < (loadTo l s c.f0 t l.length : Int) → fullB c l s = true := by
  have hfs := (flightsB_parts (slotsB_parts hs).1).2.1
  have hpos : ∀ p ∈ l.zip s, ∀ t, onP c.f0 t p = true → 0 ≤ t := by
    rintro ⟨f, x⟩ hp t h
    have hv := (visitsB_parts (flightB_parts (hfs f (List.of_mem_zip hp).1)).2.2.2.2.2).2.2.1
    simp only [onP, hasB, Bool.and_eq_true, decide_eq_true_eq, List.any_eq_true] at h
    obtain ⟨h0, v, hvm, hcov⟩ := h
    have h1 := visitB_stay (hv v hvm)
    simp only [coversB, inB, Bool.and_eq_true, decide_eq_true_eq] at hcov
    omega
  intro n
  induction n with
  | zero =>
    intro t ht h
    rw [loadTo_all] at h
    have h1 : 0 < (l.zip s).countP (onP c.f0 t) := by omega
    obtain ⟨p, hp, hon⟩ := List.countP_pos_iff.1 h1
    have := hpos p hp t hon
    omega
  | succ n ih =>
    intro t ht h
    by_cases hstart : ∃ p ∈ l.zip s, 0 ≤ p.2 ∧ ∃ v ∈ p.1.f3, v.f0 = c.f0 ∧ p.2 + v.f1 = t
    · obtain ⟨p, hp, h0, v, hv, hsec, rfl⟩ := hstart
      unfold fullB
      refine List.any_eq_true.2 ⟨p, hp, ?_⟩
      simp only [fullP, Bool.and_eq_true, decide_eq_true_eq, List.any_eq_true]
      exact ⟨h0, v, hv, by simp only [fullV, Bool.and_eq_true, decide_eq_true_eq]; exact ⟨hsec, h⟩⟩
    · refine ih (t - 1) (by omega) ?_
      have hm : loadTo l s c.f0 t l.length ≤ loadTo l s c.f0 (t - 1) l.length := by
        rw [loadTo_all, loadTo_all]
        refine countP_mono' _ fun p hp hon => ?_
        simp only [onP, hasB, Bool.and_eq_true, decide_eq_true_eq, List.any_eq_true] at hon ⊢
        obtain ⟨h0, v, hv, hcov⟩ := hon
        refine ⟨h0, v, hv, covers_back hcov fun e => hstart ⟨p, hp, h0, v, hv, ?_, e⟩⟩
        simp only [coversB, Bool.and_eq_true, decide_eq_true_eq] at hcov
        exact hcov.1
      omega
theorem full_of_over {l : List Flight} {s : List Int} (hs : slotsB l s = true) (c : Cap) (hc : 0 ≤ c.f1) (t : Int) (h : c.f1 < (cntTo l s c.f0 t l.length : Int)) : fullB c l s = true := by
  rw [cnt_load (flightsB_parts (slotsB_parts hs).1).2.1] at h
  exact full_down hs c hc (t.toNat + 1) t (by omega) h
theorem not_full {l : List Flight} {s : List Int} (hs : slotsB l s = true) (c : Cap) (h : ∀ t : Int, (cntTo l s c.f0 t l.length : Int) ≤ c.f1) : fullB c l s = false := by
  rw [Bool.eq_false_iff]
  intro hf
  obtain ⟨p, hp, h1⟩ := List.any_eq_true.1 hf
  simp only [fullP, Bool.and_eq_true, decide_eq_true_eq, List.any_eq_true] at h1
  obtain ⟨_, v, _, h2⟩ := h1
  simp only [fullV, Bool.and_eq_true, decide_eq_true_eq] at h2
  have := h (p.2 + v.f1)
  rw [cnt_load (flightsB_parts (slotsB_parts hs).1).2.1] at this
  omega
theorem noneFull_step {caps : List Cap} {k : Nat} {c : Cap} (h : caps[k]? = some c) (l : List Flight) (s : List Int) : noneFull (caps.drop k) l s = (!fullB c l s && noneFull (caps.drop (k + 1)) l s) := by
  have hk := some_lt h
  unfold noneFull
  rw [List.drop_eq_getElem_cons hk, List.all_cons]
  rw [List.getElem?_eq_getElem hk] at h
  rw [Option.some.inj h]
theorem timeB_step {l : List Flight} {s : List Int} {k : Nat} {f : Flight} {x : Int} (hf : l[k]? = some f) (hx : s[k]? = some x) : ((l.zip s).drop k).all timeP = (timeP (f, x) && ((l.zip s).drop (k + 1)).all timeP) := by
  have h := zip_at hf hx
  have hk := some_lt h
  rw [List.drop_eq_getElem_cons hk, List.all_cons]
  rw [List.getElem?_eq_getElem hk] at h
  rw [Option.some.inj h]
theorem fullB_step {c : Cap} {l : List Flight} {s : List Int} {k : Nat} {f : Flight} {x : Int} (hf : l[k]? = some f) (hx : s[k]? = some x) : ((l.zip s).drop k).any (fullP c l s) = (fullP c l s (f, x) || ((l.zip s).drop (k + 1)).any (fullP c l s)) := by
  have h := zip_at hf hx
  have hk := some_lt h
  rw [List.drop_eq_getElem_cons hk, List.any_cons]
  rw [List.getElem?_eq_getElem hk] at h
  rw [Option.some.inj h]
theorem fullV_step {c : Cap} {l : List Flight} {s : List Int} {x : Int} {vs : List Visit} {k : Nat} {v : Visit} (h : vs[k]? = some v) : (vs.drop k).any (fullV c l s x) = (fullV c l s x v || (vs.drop (k + 1)).any (fullV c l s x)) := by
  have hk := some_lt h
  rw [List.drop_eq_getElem_cons hk, List.any_cons]
  rw [List.getElem?_eq_getElem hk] at h
  rw [Option.some.inj h]
theorem capsB_parts {l : List Cap} (h : capsB l = true) : l.length ≤ 6 ∧ (∀ c ∈ l, capB c = true) ∧ linkB bySector l = true := by
  simp only [capsB, Bool.and_eq_true, decide_eq_true_eq, List.all_eq_true] at h
  exact ⟨h.1.1, h.1.2, h.2⟩
theorem capB_parts {c : Cap} (h : capB c = true) : nameB c.f0 = true ∧ 0 ≤ c.f1 ∧ c.f1 ≤ 20 := by
  simp only [capB, inB, Bool.and_eq_true, decide_eq_true_eq] at h
  exact ⟨h.1, h.2.1, h.2.2⟩
end Core
end Go.Proofs.Ytkfoeplefajkcaa
end
section
namespace Go.Proofs.Ytkfoeplefajkcaa
namespace Core
def searchN (p : Int → Bool) (t : Int) : Nat → Int
  | 0 => -1
  | n + 1 => if p t = true then t else searchN p (t + 1) n
def leastN (caps : List Cap) (l : List Flight) (s : List Int) (k : Nat) (f : Flight) : Int := searchN (fun t => noneFull caps l (s.set k t)) f.f1 (f.f2.toNat + 1)
def leastAt (caps : List Cap) (l : List Flight) (s : List Int) (k : Nat) : Int := leastN caps l s k (l.getD k default)
theorem search_hit {p : Int → Bool} {t : Int} (h : p t = true) (n : Nat) : searchN p t (n + 1) = t := by simp [searchN, h]
theorem search_miss {p : Int → Bool} {t : Int} (h : p t = false) (n : Nat) : searchN p t (n + 1) = searchN p (t + 1) n := by simp [searchN, h]
theorem slots_set {l : List Flight} {s : List Int} (h : slotsB l s = true) (k : Nat) {t : Int} (h0 : -1 ≤ t) (h1 : t ≤ 10060) : slotsB l (s.set k t) = true := by
  obtain ⟨a, b, c⟩ := slotsB_parts h
  simp only [slotsB, inB, Bool.and_eq_true, decide_eq_true_eq, List.all_eq_true]
  refine ⟨⟨a, by simpa using b⟩, fun x hx => ?_⟩
  rcases List.mem_or_eq_of_mem_set hx with h2 | rfl
  · exact c x h2
  · exact ⟨h0, h1⟩
theorem time_set {l : List Flight} {s : List Int} (h : timeB l s = true) (k : Nat) {f : Flight} (hf : l[k]? = some f) {t : Int} (h0 : inB t f.f1 (f.f1 + f.f2) = true) : timeB l (s.set k t) = true := by
  unfold timeB at h ⊢
  rw [List.all_eq_true] at h ⊢
  intro p hp
  obtain ⟨i, hi⟩ := List.getElem?_of_mem hp
  obtain ⟨g, x⟩ := p
  obtain ⟨h1, h2⟩ := List.getElem?_zip_eq_some.1 hi
  by_cases hik : k = i
  · subst hik
    simp only at h1 h2
    rw [hf] at h1
    obtain rfl := Option.some.inj h1
    have hk : k < s.length := by
      have := some_lt h2
      simpa using this
    rw [List.getElem?_set_self hk] at h2
    obtain rfl := Option.some.inj h2
    simp [timeP, h0]
  · simp only at h1 h2
    rw [List.getElem?_set_ne hik] at h2
    exact h (g, x) (List.mem_of_getElem? (zip_at h1 h2))
theorem fits_set {caps : List Cap} {l : List Flight} {s : List Int} (hc : capsB caps = true) (hs : slotsB l s = true) (ht : timeB l s = true) (k : Nat) {f : Flight} (hf : l[k]? = some f) {t : Int} (h0 : f.f1 ≤ t) (h1 : t ≤ f.f1 + f.f2) : fitsB caps l (s.set k t) = noneFull caps l (s.set k t) := by
  obtain ⟨a, _, _⟩ := slotsB_parts hs
  have b := flightB_parts ((flightsB_parts a).2.1 f (List.mem_of_getElem? hf))
  unfold fitsB
  rw [hc, slots_set hs k (by omega) (by omega), time_set ht k hf (by simp [inB]; omega)]
  rfl
theorem fitsB_parts {caps : List Cap} {l : List Flight} {s : List Int} (h : fitsB caps l s = true) : capsB caps = true ∧ slotsB l s = true ∧ timeB l s = true ∧ noneFull caps l s = true := by
  simp only [fitsB, Bool.and_eq_true] at h
  exact ⟨h.1.1.1, h.1.1.2, h.1.2, h.2⟩
theorem leastAt_some {caps : List Cap} {l : List Flight} {s : List Int} {k : Nat} {f : Flight} (h : l[k]? = some f) : leastAt caps l s k = leastN caps l s k f := by
  unfold leastAt
  rw [List.getD_eq_getElem?_getD, h]
  rfl
end Core
end Go.Proofs.Ytkfoeplefajkcaa
end
section
namespace Go.Proofs.Ytkfoeplefajkcaa
namespace Core
structure Same (c : Nat) (g : List Int) (now : Int) (n : Nat) (last : Int) : Prop where
  n1 : 1 ≤ n
  nc : n ≤ c
  ng : n ≤ g.length
  here : ∀ i, g.length - n ≤ i → i < g.length → g.getD i 0 = now
  less : ∀ i, i < g.length - n → g.getD i 0 < now
  why : now ≤ last ∨ (n + c ≤ g.length ∧ ∀ i, g.length - n - c ≤ i → i < g.length - n → g.getD i 0 = now - 1)
end Core
end Go.Proofs.Ytkfoeplefajkcaa
end
section
namespace Go.Proofs.Ytkfoeplefajkcaa
namespace Core
theorem bl_trans : ∀ x y z : List UInt8, Op.bytesLess x y = true → Op.bytesLess y z = true → Op.bytesLess x z = true
  | _, [], _, h, _ => by cases ‹List UInt8› <;> simp [Op.bytesLess] at h
  | _, _ :: _, [], _, h => by simp [Op.bytesLess] at h
  | [], _ :: _, _ :: _, _, _ => rfl
  | a :: x, b :: y, c :: z, h1, h2 => by
    have ih := bl_trans x y z
    simp only [Op.bytesLess, Bool.or_eq_true, Bool.and_eq_true, decide_eq_true_eq, beq_iff_eq, UInt8.lt_iff_toNat_lt] at h1 h2 ⊢
    rcases h1 with h1 | ⟨rfl, h1⟩
    · rcases h2 with h2 | ⟨rfl, h2⟩
      · exact .inl (by omega)
      · exact .inl h1
    · rcases h2 with h2 | ⟨rfl, h2⟩
      · exact .inl h2
      · exact .inr ⟨rfl, ih h1 h2⟩
theorem bl_total : ∀ x y : List UInt8, Op.bytesLess x y = false → Op.bytesLess y x = false → x = y
  | [], [], _, _ => rfl
  | [], _ :: _, h, _ => by simp [Op.bytesLess] at h
  | _ :: _, [], _, h => by simp [Op.bytesLess] at h
  | a :: x, b :: y, h1, h2 => by
    have ih := bl_total x y
    simp only [Op.bytesLess, Bool.or_eq_false_iff, Bool.and_eq_false_iff, decide_eq_false_iff_not, beq_eq_false_iff_ne, UInt8.lt_iff_toNat_lt] at h1 h2
    have hab : a = b := UInt8.toNat_inj.1 (by omega)
    subst hab
    rw [ih (by simpa using h1.2) (by simpa using h2.2)]
theorem less_trans {a b c : ByteArray} (h1 : lessB a b = true) (h2 : lessB b c = true) : lessB a c = true := bl_trans _ _ _ h1 h2
theorem link_pairwise {α : Type} (rel : α → α → Bool) (htr : ∀ a b c, rel a b = true → rel b c = true → rel a c = true) : ∀ l : List α, linkB rel l = true → l.Pairwise (fun a b => rel a b = true)
  | [], _ => List.Pairwise.nil
  | [x], _ => List.pairwise_singleton _ _
  | x :: y :: r, h => by
    simp only [linkB, Bool.and_eq_true] at h
    have ih := link_pairwise rel htr (y :: r) h.2
    refine List.pairwise_cons.2 ⟨fun z hz => ?_, ih⟩
    rcases List.mem_cons.1 hz with rfl | hz
    · exact h.1
    · exact htr _ _ _ h.1 ((List.pairwise_cons.1 ih).1 z hz)
theorem names_rise {l : List Flight} (h : flightsB l = true) : l.Pairwise (fun a b => lessB a.f0 b.f0 = true) := by
  simp only [flightsB, Bool.and_eq_true] at h
  exact link_pairwise byName (fun a b c => less_trans) l h.2
end Core
end Go.Proofs.Ytkfoeplefajkcaa
end
section
namespace Go.Proofs.Ytkfoeplefajkcaa
namespace Core
def aheadB (a b : Flight) : Bool := if a.f1 = b.f1 then lessB a.f0 b.f0 else decide (a.f1 < b.f1)
def insP {α : Type} (p : α → Bool) (t : α) : List α → List α
  | [] => [t]
  | x :: r => if p x = true then x :: insP p t r else t :: x :: r
def cntQ {α : Type} (p : α → Bool) : List α → Nat
  | [] => 0
  | x :: r => if p x = true then cntQ p r + 1 else 0
theorem cntQ_le {α : Type} (p : α → Bool) : ∀ l, cntQ p l ≤ l.length
  | [] => Nat.le_refl _
  | x :: r => by
    have := cntQ_le p r
    unfold cntQ
    split <;> simp <;> omega
theorem insP_eq {α : Type} (p : α → Bool) (t : α) : ∀ l, insP p t l = l.take (cntQ p l) ++ [t] ++ l.drop (cntQ p l)
  | [] => rfl
  | x :: r => by
    have ih := insP_eq p t r
    unfold insP cntQ
    split
    · rw [ih]; simp
    · simp
theorem insP_length {α : Type} (p : α → Bool) (t : α) (l : List α) : (insP p t l).length = l.length + 1 := by
  rw [insP_eq]
  have := cntQ_le p l
  simp
  omega
def flAt (l : List Flight) (x : Int) : Flight := l.getD x.toNat default
def noLater (l : List Flight) (i x : Int) : Bool := !aheadB (flAt l i) (flAt l x)
def ordTo (l : List Flight) : Nat → List Int
  | 0 => []
  | k + 1 => insP (noLater l k) k (ordTo l k)
theorem ordTo_length (l : List Flight) : ∀ k, (ordTo l k).length = k
  | 0 => rfl
  | k + 1 => by unfold ordTo; rw [insP_length, ordTo_length l k]
theorem insP_mem {α : Type} {p : α → Bool} {t x : α} {l : List α} : x ∈ insP p t l ↔ x = t ∨ x ∈ l := by
  rw [insP_eq]
  have h := List.take_append_drop (cntQ p l) l
  constructor
  · intro hx
    simp only [List.append_assoc, List.mem_append, List.mem_singleton] at hx
    rcases hx with hx | hx | hx
    · exact .inr (List.mem_of_mem_take hx)
    · exact .inl hx
    · exact .inr (List.mem_of_mem_drop hx)
  · rintro (rfl | hx)
    · simp
    · rw [← h] at hx
      rcases List.mem_append.1 hx with hx | hx <;> simp [hx]
theorem ordTo_range (l : List Flight) : ∀ k, ∀ x ∈ ordTo l k, 0 ≤ x ∧ x < k
  | 0, x, h => by cases h
  | k + 1, x, h => by
    unfold ordTo at h
    rcases insP_mem.1 h with rfl | h
    · omega
    · have := ordTo_range l k x h; omega
end Core
end Go.Proofs.Ytkfoeplefajkcaa
end
section
namespace Go.Proofs.Ytkfoeplefajkcaa
namespace Core
set_option linter.unusedVariables false
set_option linter.unusedSimpArgs false
theorem search_spec (p : Int → Bool) : ∀ (n : Nat) (t : Int), (searchN p t n = -1 ∧ ∀ u, t ≤ u → u < t + n → p u = false) ∨ (t ≤ searchN p t n ∧ searchN p t n < t + n ∧ p (searchN p t n) = true ∧ ∀ u, t ≤ u → u < searchN p t n → p u = false)
  | 0, t => .inl ⟨rfl, fun u h1 h2 => by omega⟩
  | n + 1, t => by
    cases h : p t with
    | true =>
      right
      rw [search_hit h]
      exact ⟨Int.le_refl _, by omega, h, fun u h1 h2 => by omega⟩
    | false =>
      rw [search_miss h]
      rcases search_spec p n (t + 1) with ⟨h1, h2⟩ | ⟨h1, h2, h3, h4⟩
      · exact .inl ⟨h1, fun u hu hu2 => by
          by_cases e : u = t
          · rw [e]; exact h
          · exact h2 u (by omega) (by omega)⟩
      · exact .inr ⟨by omega, by omega, h3, fun u hu hu2 => by
          by_cases e : u = t
          · rw [e]; exact h
          · exact h4 u (by omega) hu2⟩
theorem set_same {α : Type} {s : List α} {k : Nat} {x : α} (h : s[k]? = some x) : s.set k x = s := by
  apply List.ext_getElem?
  intro i
  rw [List.getElem?_set]
  split
  · rename_i e; subst e; rw [if_pos (some_lt h), h]
  · rfl
theorem timeB_at {l : List Flight} {s : List Int} (h : timeB l s = true) {k : Nat} {f : Flight} {x : Int} (hf : l[k]? = some f) (hx : s[k]? = some x) (h0 : 0 ≤ x) : f.f1 ≤ x ∧ x ≤ f.f1 + f.f2 := by
  unfold timeB at h
  rw [List.all_eq_true] at h
  have := h (f, x) (List.mem_of_getElem? (zip_at hf hx))
  simp only [timeP, inB, h0, decide_true, Bool.not_true, Bool.false_or, Bool.and_eq_true, decide_eq_true_eq] at this
  exact this
theorem least_spec {caps : List Cap} {l : List Flight} {s : List Int} (h : fitsB caps l s = true) {k : Nat} {f : Flight} {x : Int} (hf : l[k]? = some f) (hx : s[k]? = some x) :
    (leastN caps l s k f = -1 ∧ x = -1) ∨ (0 ≤ leastN caps l s k f ∧ f.f1 ≤ leastN caps l s k f ∧ leastN caps l s k f ≤ f.f1 + f.f2 ∧ (x = -1 ∨ leastN caps l s k f ≤ x) ∧ noneFull caps l (s.set k (leastN caps l s k f)) = true) := by
  obtain ⟨hc, hs, ht, hn⟩ := fitsB_parts h
  have hsx := slotsB_at hs hf hx
  have hff := flightB_parts ((flightsB_parts (slotsB_parts hs).1).2.1 f (List.mem_of_getElem? hf))
  have e : s.set k x = s := set_same hx
  rcases search_spec (fun t => noneFull caps l (s.set k t)) (f.f2.toNat + 1) f.f1 with ⟨h1, h2⟩ | ⟨h1, h2, h3, h4⟩
  · left
    refine ⟨h1, ?_⟩
    by_cases h0 : 0 ≤ x
    · have := timeB_at ht hf hx h0
      have := h2 x (by omega) (by omega)
      rw [e, hn] at this; cases this
    · omega
  · right
    refine ⟨by unfold leastN; omega, h1, by unfold leastN; omega, ?_, h3⟩
    by_cases h0 : 0 ≤ x
    · right
      have ht2 := timeB_at ht hf hx h0
      by_cases hlt : x < leastN caps l s k f
      · have := h4 x (by omega) hlt
        rw [e, hn] at this; cases this
      · omega
    · left; omega
theorem least_fits {caps : List Cap} {l : List Flight} {s : List Int} (h : fitsB caps l s = true) {k : Nat} {f : Flight} {x : Int} (hf : l[k]? = some f) (hx : s[k]? = some x) : fitsB caps l (s.set k (leastN caps l s k f)) = true := by
  obtain ⟨hc, hs, ht, hn⟩ := fitsB_parts h
  rcases least_spec h hf hx with ⟨h1, h2⟩ | ⟨h0, h1, h2, h3, h4⟩
  · rw [h1, ← h2, set_same hx]; exact h
  · rw [fits_set hc hs ht k hf h1 h2]; exact h4
def lateP (p : Flight × Int) : Nat := if p.2 < 0 then 100 else (p.2 - p.1.f1).toNat
def lateS (l : List Flight) (s : List Int) : Nat := ((l.zip s).map lateP).sum
theorem zip_set {l : List Flight} : ∀ {s : List Int} {k : Nat} {f : Flight} (t : Int), l[k]? = some f → l.zip (s.set k t) = (l.zip s).set k (f, t) := by
  induction l with
  | nil => intro s k f t h; simp at h
  | cons g r ih =>
    intro s k f t h
    cases s with
    | nil => simp
    | cons y q =>
      cases k with
      | zero => simp at h; subst h; simp
      | succ k =>
        simp only [List.getElem?_cons_succ] at h
        simp only [List.set_cons_succ, List.zip_cons_cons, ih t h]
theorem sum_set {α : Type} (f : α → Nat) : ∀ {l : List α} {k : Nat} {x : α} (y : α), l[k]? = some x → ((l.set k y).map f).sum + f x = (l.map f).sum + f y
  | [], k, x, y, h => by simp at h
  | z :: r, 0, x, y, h => by simp at h; subst h; simp; omega
  | z :: r, k + 1, x, y, h => by
    simp only [List.getElem?_cons_succ] at h
    have := sum_set f y h
    simp only [List.set_cons_succ, List.map_cons, List.sum_cons]
    omega
theorem least_late {caps : List Cap} {l : List Flight} {s : List Int} (h : fitsB caps l s = true) {k : Nat} {f : Flight} {x : Int} (hf : l[k]? = some f) (hx : s[k]? = some x) (hne : leastN caps l s k f ≠ x) :
    lateS l (s.set k (leastN caps l s k f)) < lateS l s := by
  have hs := (fitsB_parts h).2.1
  have hsx := slotsB_at hs hf hx
  have hff := flightB_parts ((flightsB_parts (slotsB_parts hs).1).2.1 f (List.mem_of_getElem? hf))
  have h2 := sum_set lateP (f, leastN caps l s k f) (zip_at hf hx)
  unfold lateS
  rw [zip_set _ hf]
  rcases least_spec h hf hx with ⟨h1, h3⟩ | ⟨h0, h1, h3, h4, _⟩
  · omega
  · have e1 : lateP (f, leastN caps l s k f) = (leastN caps l s k f - f.f1).toNat := by unfold lateP; exact if_neg (by simp only; omega)
    have e2 : lateP (f, leastN caps l s k f) < lateP (f, x) := by
      rw [e1]
      unfold lateP
      simp only
      split <;> omega
    omega
def stepR (caps : List Cap) (l : List Flight) (p : List Int × Bool) (i : Int) : List Int × Bool :=
  (p.1.set i.toNat (leastAt caps l p.1 i.toNat), p.2 || !(leastAt caps l p.1 i.toNat == p.1.getD i.toNat 0))
def roundR (caps : List Cap) (l : List Flight) (ord : List Int) (s : List Int) : List Int × Bool := ord.foldl (stepR caps l) (s, false)
def noLaterS (s t : List Int) : Prop := s.length = t.length ∧ ∀ (k : Nat) (x y : Int), s[k]? = some x → t[k]? = some y → x = -1 ∨ (0 ≤ y ∧ y ≤ x) ∨ y = x
theorem noLaterS_refl (s : List Int) : noLaterS s s := ⟨rfl, fun k x y h1 h2 => .inr (.inr (by rw [h1] at h2; exact (Option.some.inj h2).symm))⟩
theorem noLaterS_trans {s t u : List Int} (h1 : noLaterS s t) (h2 : noLaterS t u) : noLaterS s u := by
  refine ⟨h1.1.trans h2.1, fun k x z hx hz => ?_⟩
  have hk : k < t.length := by rw [← h1.1]; exact some_lt hx
  have a := h1.2 k x t[k] hx (List.getElem?_eq_getElem hk)
  have b := h2.2 k t[k] z (List.getElem?_eq_getElem hk) hz
  omega
theorem steps_spec {caps : List Cap} {l : List Flight} : ∀ (ord : List Int) (s : List Int) (b : Bool), fitsB caps l s = true → (∀ x ∈ ord, 0 ≤ x ∧ x < l.length) →
    fitsB caps l (ord.foldl (stepR caps l) (s, b)).1 = true ∧ noLaterS s (ord.foldl (stepR caps l) (s, b)).1 ∧
    ((ord.foldl (stepR caps l) (s, b)).2 = false → b = false ∧ (ord.foldl (stepR caps l) (s, b)).1 = s ∧ ∀ x ∈ ord, leastAt caps l s x.toNat = s.getD x.toNat 0) ∧
    lateS l (ord.foldl (stepR caps l) (s, b)).1 ≤ lateS l s ∧ ((ord.foldl (stepR caps l) (s, b)).2 = true → b = true ∨ lateS l (ord.foldl (stepR caps l) (s, b)).1 < lateS l s)
  | [], s, b, h, _ => ⟨h, noLaterS_refl s, fun hb => ⟨hb, rfl, by simp⟩, Nat.le_refl _, fun hb => .inl hb⟩
  | i :: r, s, b, h, hr => by
    obtain ⟨h0, h1⟩ := hr i (List.mem_cons_self ..)
    have hlen := (slotsB_parts (fitsB_parts h).2.1).2.1
    have hf : l[i.toNat]? = some l[i.toNat] := List.getElem?_eq_getElem (by omega)
    have hx : s[i.toNat]? = some s[i.toNat] := List.getElem?_eq_getElem (by omega)
    have hg : s.getD i.toNat 0 = s[i.toNat] := by rw [List.getD_eq_getElem?_getD, hx]; rfl
    have hfit := least_fits h hf hx
    have hsp := least_spec h hf hx
    have hla := fun e => least_late h hf hx e
    rw [← leastAt_some hf (caps := caps) (s := s)] at hfit hsp hla
    obtain ⟨a1, a2, a3, a4, a5⟩ := steps_spec r (s.set i.toNat (leastAt caps l s i.toNat)) (b || !(leastAt caps l s i.toNat == s.getD i.toNat 0)) hfit (fun x hx => hr x (List.mem_cons_of_mem _ hx))
    rw [List.foldl_cons]
    unfold stepR
    simp only
    rw [show (fun (p : List Int × Bool) (i : Int) => (p.1.set i.toNat (leastAt caps l p.1 i.toNat), p.2 || !(leastAt caps l p.1 i.toNat == p.1.getD i.toNat 0))) = stepR caps l from rfl]
    have hnl : noLaterS s (s.set i.toNat (leastAt caps l s i.toNat)) := by
      refine ⟨by simp, fun k x y hk hy => ?_⟩
      by_cases e : i.toNat = k
      · subst e
        rw [List.getElem?_set_self (some_lt hk)] at hy
        obtain rfl := Option.some.inj hy
        rw [hx] at hk
        obtain rfl := Option.some.inj hk
        omega
      · rw [List.getElem?_set_ne e, hk] at hy
        exact .inr (.inr (Option.some.inj hy).symm)
    refine ⟨a1, noLaterS_trans hnl a2, fun hb => ?_, ?_, fun hb => ?_⟩
    · obtain ⟨b1, b2, b3⟩ := a3 hb
      rw [Bool.or_eq_false_iff, Bool.not_eq_false', beq_iff_eq] at b1
      have e : s.set i.toNat (leastAt caps l s i.toNat) = s := by rw [b1.2, hg]; exact set_same hx
      rw [e] at b2 b3
      rw [e]
      exact ⟨b1.1, b2, fun x hx => by rcases List.mem_cons.1 hx with rfl | hx; exact b1.2; exact b3 x hx⟩
    · by_cases e : leastAt caps l s i.toNat = s[i.toNat]
      · rw [e, set_same hx] at a4 ⊢; exact a4
      · have := hla e; omega
    · rcases a5 hb with h2 | h2
      · by_cases hbt : b = true
        · exact .inl hbt
        · right
          have hbf : b = false := by simpa using hbt
          rw [hbf, Bool.false_or, Bool.not_eq_true', beq_eq_false_iff_ne, hg] at h2
          have := hla h2
          omega
      · by_cases e : leastAt caps l s i.toNat = s[i.toNat]
        · rw [e, set_same hx] at h2 ⊢; exact .inr h2
        · have := hla e; exact .inr (by omega)
def compN (caps : List Cap) (l : List Flight) (ord : List Int) : Nat → List Int → List Int
  | 0, s => s
  | n + 1, s => if (roundR caps l ord s).2 = true then compN caps l ord n (roundR caps l ord s).1 else (roundR caps l ord s).1
def compR (caps : List Cap) (l : List Flight) (ord : List Int) (s : List Int) : List Int := compN caps l ord (lateS l s + 1) s
theorem compN_more {caps : List Cap} {l : List Flight} {ord : List Int} (hr : ∀ x ∈ ord, 0 ≤ x ∧ x < l.length) : ∀ (n m : Nat) (s : List Int), fitsB caps l s = true → lateS l s < n → lateS l s < m → compN caps l ord n s = compN caps l ord m s
  | 0, m, s, _, h, _ => by omega
  | n + 1, 0, s, _, _, h => by omega
  | n + 1, m + 1, s, hf, h1, h2 => by
    unfold compN
    obtain ⟨a1, _, _, a4, a5⟩ := steps_spec ord s false hf hr
    split
    · rename_i hb
      rcases a5 hb with h3 | h3
      · cases h3
      · exact compN_more hr n m _ a1 (by unfold roundR; omega) (by unfold roundR; omega)
    · rfl
theorem compR_go {caps : List Cap} {l : List Flight} {ord : List Int} {s : List Int} (hr : ∀ x ∈ ord, 0 ≤ x ∧ x < l.length) (hf : fitsB caps l s = true) (hb : (roundR caps l ord s).2 = true) : compR caps l ord s = compR caps l ord (roundR caps l ord s).1 := by
  obtain ⟨a1, _, _, a4, a5⟩ := steps_spec ord s false hf hr
  have h3 : lateS l (roundR caps l ord s).1 < lateS l s := by
    rcases a5 hb with h3 | h3
    · cases h3
    · exact h3
  have e : compR caps l ord s = compN caps l ord (lateS l s) (roundR caps l ord s).1 := by unfold compR; rw [compN, if_pos hb]
  rw [e]
  exact compN_more hr _ _ _ a1 h3 (Nat.lt_succ_self _)
theorem compR_stop {caps : List Cap} {l : List Flight} {ord : List Int} {s : List Int} (hr : ∀ x ∈ ord, 0 ≤ x ∧ x < l.length) (hf : fitsB caps l s = true) (hb : (roundR caps l ord s).2 = false) : compR caps l ord s = s ∧ (roundR caps l ord s).1 = s := by
  obtain ⟨_, _, a3, _, _⟩ := steps_spec ord s false hf hr
  have e : compR caps l ord s = (roundR caps l ord s).1 := by unfold compR; rw [compN, if_neg (by rw [hb]; decide)]
  rw [e]
  exact ⟨(a3 hb).2.1, (a3 hb).2.1⟩
end Core
end Go.Proofs.Ytkfoeplefajkcaa
end
section
namespace Go.Proofs.Ytkfoeplefajkcaa
namespace Core
set_option linter.unusedVariables false
set_option linter.unusedSimpArgs false
theorem ord_in (l : List Flight) : ∀ x ∈ ordTo l l.length, 0 ≤ x ∧ x < l.length := ordTo_range l l.length
def insAt {α : Type} (k : Nat) (x : α) (l : List α) : List α := l.take k ++ [x] ++ l.drop k
theorem insAt_len {α : Type} {k : Nat} (x : α) {l : List α} (h : k ≤ l.length) : (insAt k x l).length = l.length + 1 := by simp [insAt]; omega
theorem insAt_mem {α : Type} {k : Nat} {x y : α} {l : List α} : y ∈ insAt k x l ↔ y = x ∨ y ∈ l := by
  unfold insAt
  have h := List.take_append_drop k l
  constructor
  · intro hy
    simp only [List.append_assoc, List.mem_append, List.mem_singleton] at hy
    rcases hy with hy | hy | hy
    · exact .inr (List.mem_of_mem_take hy)
    · exact .inl hy
    · exact .inr (List.mem_of_mem_drop hy)
  · rintro (rfl | hy)
    · simp
    · rw [← h] at hy
      rcases List.mem_append.1 hy with hy | hy <;> simp [hy]
theorem zip_take' {α β : Type} (k : Nat) (l : List α) (s : List β) : (l.take k).zip (s.take k) = (l.zip s).take k := by
  rw [List.zip_eq_zipWith, List.zip_eq_zipWith, List.take_zipWith]
theorem zip_drop' {α β : Type} (k : Nat) (l : List α) (s : List β) : (l.drop k).zip (s.drop k) = (l.zip s).drop k := by
  rw [List.zip_eq_zipWith, List.zip_eq_zipWith, List.drop_zipWith]
theorem zip_insAt {α β : Type} (k : Nat) (x : α) (y : β) (l : List α) (s : List β) (h : l.length = s.length) : (insAt k x l).zip (insAt k y s) = insAt k (x, y) (l.zip s) := by
  unfold insAt
  rw [List.zip_append (by simp [h]), List.zip_append (by simp [h]), zip_take', zip_drop']
  rfl
theorem link_of_pairwise {α : Type} (rel : α → α → Bool) : ∀ l : List α, l.Pairwise (fun a b => rel a b = true) → linkB rel l = true
  | [], _ => rfl
  | [_], _ => rfl
  | u :: v :: r, h => by
    rw [List.pairwise_cons] at h
    simp only [linkB, Bool.and_eq_true]
    exact ⟨h.1 v (List.mem_cons_self ..), link_of_pairwise rel _ h.2⟩
def fullZ (c : Cap) (z : List (Flight × Int)) : Bool := z.any fun p => decide (0 ≤ p.2) && p.1.f3.any fun v => decide (v.f0 = c.f0) && decide (c.f1 < ((z.countP (onP c.f0 (p.2 + v.f1)) : Nat) : Int))
theorem fullB_Z (c : Cap) (l : List Flight) (s : List Int) : fullB c l s = fullZ c (l.zip s) := by
  unfold fullB fullZ fullP fullV
  simp only [loadTo_all]
theorem noneFull_Z (caps : List Cap) (l : List Flight) (s : List Int) : noneFull caps l s = caps.all fun c => !fullZ c (l.zip s) := by
  unfold noneFull; simp only [fullB_Z]
theorem fullZ_ins {c : Cap} {z : List (Flight × Int)} {k : Nat} {f : Flight} : fullZ c (insAt k (f, -1) z) = fullZ c z := by
  have hcnt : ∀ t, (insAt k (f, -1) z).countP (onP c.f0 t) = z.countP (onP c.f0 t) := fun t => by
    unfold insAt
    rw [List.countP_append, List.countP_append]
    have e : ([(f, (-1 : Int))] : List (Flight × Int)).countP (onP c.f0 t) = 0 := by simp [onP]
    rw [e, Nat.add_zero, ← List.countP_append, List.take_append_drop]
  unfold fullZ
  simp only [hcnt]
  unfold insAt
  rw [List.any_append, List.any_append]
  have e : ([(f, (-1 : Int))] : List (Flight × Int)).any (fun p => decide (0 ≤ p.2) && p.1.f3.any fun v => decide (v.f0 = c.f0) && decide (c.f1 < ((z.countP (onP c.f0 (p.2 + v.f1)) : Nat) : Int))) = false := by simp
  rw [e, Bool.or_false, ← List.any_append, List.take_append_drop]
theorem timeB_Z (l : List Flight) (s : List Int) : timeB l s = (l.zip s).all timeP := rfl
theorem fits_ins {caps : List Cap} {l : List Flight} {s : List Int} (h : fitsB caps l s = true) {f : Flight} (hf : flightB f = true) (hl : l.length ≤ 7) {k : Nat} (hk : k ≤ l.length) (hlo : ∀ g ∈ l.take k, lessB g.f0 f.f0 = true) (hhi : ∀ g ∈ l.drop k, lessB f.f0 g.f0 = true) :
    fitsB caps (insAt k f l) (insAt k (-1) s) = true := by
  obtain ⟨hc, hs, ht, hn⟩ := fitsB_parts h
  obtain ⟨hfl, hlen, hsv⟩ := slotsB_parts hs
  obtain ⟨h8, hfs, hlink⟩ := flightsB_parts hfl
  have hpw := names_rise hfl
  have hz := zip_insAt k f (-1 : Int) l s hlen.symm
  unfold fitsB
  rw [hc, noneFull_Z, timeB_Z, hz]
  have e1 : (caps.all fun c => !fullZ c (insAt k (f, -1) (l.zip s))) = true := by
    rw [noneFull_Z] at hn
    simp only [fullZ_ins]
    exact hn
  have e2 : (insAt k (f, -1) (l.zip s)).all timeP = true := by
    rw [List.all_eq_true]
    intro p hp
    rcases insAt_mem.1 hp with rfl | hp
    · rfl
    · exact List.all_eq_true.1 ht p hp
  have e3 : slotsB (insAt k f l) (insAt k (-1) s) = true := by
    have e4 : flightsB (insAt k f l) = true := by
      unfold flightsB
      rw [insAt_len f hk, decide_eq_true (by omega : l.length + 1 ≤ 8), Bool.true_and, Bool.and_eq_true]
      refine ⟨?_, link_of_pairwise byName _ ?_⟩
      · rw [List.all_eq_true]
        intro g hg
        rcases insAt_mem.1 hg with rfl | hg
        · exact hf
        · exact hfs g hg
      · unfold insAt
        rw [List.append_assoc, List.pairwise_append]
        have hps := hpw
        rw [← List.take_append_drop k l, List.pairwise_append] at hps
        refine ⟨hps.1, ?_, fun a ha b hb => ?_⟩
        · rw [List.singleton_append, List.pairwise_cons]
          exact ⟨fun g hg => hhi g hg, hps.2.1⟩
        · rcases List.mem_append.1 hb with hb | hb
          · rw [List.mem_singleton.1 hb]; exact hlo a ha
          · exact hps.2.2 a ha b hb
    unfold slotsB
    rw [e4, insAt_len f hk, insAt_len (-1 : Int) (by omega), hlen, decide_eq_true rfl]
    simp only [Bool.true_and, List.all_eq_true]
    intro x hx
    rcases insAt_mem.1 hx with rfl | hx
    · rfl
    · have := hsv x hx
      simp [inB]; omega
  rw [e1, e2, e3]
  rfl
def emptyB : Book := ⟨[], [], []⟩
def okB (b : Book) : Bool := fitsB b.f0 b.f1 b.f2
def atFrom (n : ByteArray) : List Flight → Int → Int
  | [], _ => -1
  | f :: r, i => if f.f0 = n then i else atFrom n r (i + 1)
def atB (l : List Flight) (n : ByteArray) : Int := atFrom n l 0
theorem atFrom_spec (n : ByteArray) : ∀ (l : List Flight) (i : Int), 0 ≤ i → (atFrom n l i = -1 ∧ ∀ f ∈ l, f.f0 ≠ n) ∨ ∃ (k : Nat) (f : Flight), l[k]? = some f ∧ f.f0 = n ∧ atFrom n l i = i + (k : Nat) ∧ ∀ j, j < k → ∀ g, l[j]? = some g → g.f0 ≠ n
  | [], i, _ => .inl ⟨rfl, by simp⟩
  | f :: r, i, hi => by
    unfold atFrom
    by_cases h : f.f0 = n
    · rw [if_pos h]
      exact .inr ⟨0, f, rfl, h, by simp, fun j hj => by omega⟩
    · rw [if_neg h]
      rcases atFrom_spec n r (i + 1) (by omega) with ⟨h1, h2⟩ | ⟨k, g, h1, h2, h3, h4⟩
      · exact .inl ⟨h1, fun g hg => by rcases List.mem_cons.1 hg with rfl | hg; exact h; exact h2 g hg⟩
      · refine .inr ⟨k + 1, g, by simpa using h1, h2, by rw [h3]; omega, fun j hj g' hg' => ?_⟩
        cases j with
        | zero => simp at hg'; subst hg'; exact h
        | succ j => exact h4 j (by omega) g' (by simpa using hg')
theorem atB_spec (l : List Flight) (n : ByteArray) : (atB l n = -1 ∧ ∀ f ∈ l, f.f0 ≠ n) ∨ ∃ (k : Nat) (f : Flight), l[k]? = some f ∧ f.f0 = n ∧ atB l n = (k : Int) ∧ ∀ j, j < k → ∀ g, l[j]? = some g → g.f0 ≠ n := by
  rcases atFrom_spec n l 0 (Int.le_refl _) with h | ⟨k, f, h1, h2, h3, h4⟩
  · exact .inl h
  · exact .inr ⟨k, f, h1, h2, by unfold atB; rw [h3]; omega, h4⟩
def placeB (l : List Flight) (n : ByteArray) : Nat := cntQ (fun g => lessB g.f0 n) l
theorem placeB_le (l : List Flight) (n : ByteArray) : placeB l n ≤ l.length := cntQ_le _ _
theorem cntQ_take {α : Type} (p : α → Bool) : ∀ l : List α, ∀ x ∈ l.take (cntQ p l), p x = true
  | [], x, h => by simp at h
  | y :: r, x, h => by
    unfold cntQ at h
    split at h
    · rename_i hy
      rw [List.take_succ_cons] at h
      rcases List.mem_cons.1 h with rfl | h
      · exact hy
      · exact cntQ_take p r x h
    · simp at h
theorem cntQ_drop {α : Type} (p : α → Bool) : ∀ l : List α, ∀ x r, l.drop (cntQ p l) = x :: r → p x = false
  | [], x, r, h => by simp at h
  | y :: q, x, r, h => by
    unfold cntQ at h
    split at h
    · rw [List.drop_succ_cons] at h
      exact cntQ_drop p q x r h
    · rename_i hy
      simp at h
      rw [← h.1]
      simpa using hy
theorem place_lo {l : List Flight} {n : ByteArray} : ∀ g ∈ l.take (placeB l n), lessB g.f0 n = true := cntQ_take _ l
theorem bytes_ext {a b : ByteArray} (h : a.toList = b.toList) : a = b := by
  rw [ByteArray.toList_eq, ByteArray.toList_eq] at h
  cases a; cases b
  congr 1
  exact Array.toList_inj.1 h
theorem place_hi {l : List Flight} (hf : l.Pairwise (fun a b => lessB a.f0 b.f0 = true)) {n : ByteArray} (hn : ∀ f ∈ l, f.f0 ≠ n) : ∀ g ∈ l.drop (placeB l n), lessB n g.f0 = true := by
  intro g hg
  cases hd : l.drop (placeB l n) with
  | nil => rw [hd] at hg; cases hg
  | cons x r =>
    have hx : lessB x.f0 n = false := cntQ_drop (fun g : Flight => lessB g.f0 n) l x r hd
    have hxm : x ∈ l := List.mem_of_mem_drop (by rw [hd]; exact List.mem_cons_self ..)
    have h1 : lessB n x.f0 = true := by
      cases e : lessB n x.f0 with
      | true => rfl
      | false => exact absurd (bytes_ext (bl_total _ _ hx e)) (hn x hxm)
    rw [hd] at hg
    rcases List.mem_cons.1 hg with rfl | hg
    · exact h1
    · have := hf.sublist (List.drop_sublist (placeB l n) l)
      rw [hd, List.pairwise_cons] at this
      exact less_trans h1 (this.1 g hg)
def addN (b : Book) (f : Flight) : Book :=
  ⟨b.f0, insAt (placeB b.f1 f.f0) f b.f1, (insAt (placeB b.f1 f.f0) (-1) b.f2).set (placeB b.f1 f.f0) (leastAt b.f0 (insAt (placeB b.f1 f.f0) f b.f1) (insAt (placeB b.f1 f.f0) (-1) b.f2) (placeB b.f1 f.f0))⟩
def addR (b : Book) (f : Flight) : Book × Int :=
  if okB b = false then (emptyB, 1) else if flightB f = false then (b, 2) else if 0 ≤ atB b.f1 f.f0 then (b, 3) else if 8 ≤ b.f1.length then (b, 4) else (addN b f, 0)
theorem ins_fits {b : Book} (h : okB b = true) {f : Flight} (hf : flightB f = true) (ha : ¬ 0 ≤ atB b.f1 f.f0) (hl : ¬ 8 ≤ b.f1.length) : fitsB b.f0 (insAt (placeB b.f1 f.f0) f b.f1) (insAt (placeB b.f1 f.f0) (-1) b.f2) = true := by
  have hn : ∀ g ∈ b.f1, g.f0 ≠ f.f0 := by
    rcases atB_spec b.f1 f.f0 with ⟨_, h2⟩ | ⟨k, g, _, _, h3, _⟩
    · exact h2
    · omega
  exact fits_ins h hf (by omega) (placeB_le _ _) place_lo (place_hi (names_rise (slotsB_parts (fitsB_parts h).2.1).1) hn)
theorem addN_ok {b : Book} (h : okB b = true) {f : Flight} (hf : flightB f = true) (ha : ¬ 0 ≤ atB b.f1 f.f0) (hl : ¬ 8 ≤ b.f1.length) : okB (addN b f) = true := by
  have h1 := ins_fits h hf ha hl
  have hlen := (slotsB_parts (fitsB_parts h1).2.1).2.1
  have hk : placeB b.f1 f.f0 < (insAt (placeB b.f1 f.f0) f b.f1).length := by rw [insAt_len f (placeB_le _ _)]; have := placeB_le b.f1 f.f0; omega
  have hg : (insAt (placeB b.f1 f.f0) f b.f1)[placeB b.f1 f.f0]? = some (insAt (placeB b.f1 f.f0) f b.f1)[placeB b.f1 f.f0] := List.getElem?_eq_getElem hk
  have hx : (insAt (placeB b.f1 f.f0) (-1 : Int) b.f2)[placeB b.f1 f.f0]? = some (insAt (placeB b.f1 f.f0) (-1 : Int) b.f2)[placeB b.f1 f.f0] := List.getElem?_eq_getElem (by omega)
  have := least_fits h1 hg hx
  rwa [← leastAt_some hg (caps := b.f0) (s := insAt (placeB b.f1 f.f0) (-1) b.f2)] at this
end Core
end Go.Proofs.Ytkfoeplefajkcaa
end
section
namespace Go.Proofs.Ytkfoeplefajkcaa
namespace Core
open Go.Sort
set_option linter.unusedVariables false
set_option linter.unusedSimpArgs false
def lB (l : List Flight) (x y : Int) : Bool := aheadB (flAt l x) (flAt l y)
def tB (l : List Flight) (x y : Int) : Bool := lB l x y || (!lB l y x && decide (x < y))
end Core
end Go.Proofs.Ytkfoeplefajkcaa
end
section
namespace Go.Proofs.Ytkfoeplefajkcaa
namespace Core
open Go.Sort
set_option linter.unusedVariables false
set_option linter.unusedSimpArgs false
section
variable {lt : Int → Int → Bool}
end
section
variable {lt : Int → Int → Bool}
end
def SB (l : List Flight) (bs a n : Nat) (d : Array Int) : Prop := ∀ t, SortedIn (tB l) (a + t * bs) (min n (a + t * bs + bs)) d ∧ ∀ k, a + t * bs ≤ k → k < min n (a + t * bs + bs) → ((a + t * bs : Nat) : Int) ≤ d[k]! ∧ d[k]! < ((a + t * bs + bs : Nat) : Int)
end Core
end Go.Proofs.Ytkfoeplefajkcaa
end
