/- Merged out of this seat's own texts: Core, Core2, Core3, Core4, Core15, Core5, Core6, Core7. -/
import Derived.WalkKit
import Derived.WalkLawsBesides

/- The plain functions that the contracts of this seat speak of: flights, caps, slots, loads. No program in sight. -/
section
namespace Go.Proofs.Ytkfoeplefajkcaa
namespace Core

structure Visit where
  f0 : ByteArray
  f1 : Int
  f2 : Int
structure Flight where
  f0 : ByteArray
  f1 : Int
  f2 : Int
  f3 : List Visit
structure Cap where
  f0 : ByteArray
  f1 : Int
structure Run where
  f0 : Int
  f1 : Int
  f2 : Int
structure Book where
  f0 : List Cap
  f1 : List Flight
  f2 : List Int

instance : Inhabited Visit := ⟨⟨ByteArray.empty, 0, 0⟩⟩
instance : Inhabited Flight := ⟨⟨ByteArray.empty, 0, 0, []⟩⟩
instance : Inhabited Cap := ⟨⟨ByteArray.empty, 0⟩⟩

def inB (n lo hi : Int) : Bool := decide (lo ≤ n) && decide (n ≤ hi)
def okByte (c : Int) : Bool := (decide (97 ≤ c) && decide (c ≤ 122)) || (decide (48 ≤ c) && decide (c ≤ 57)) || (c == 45)
def nameB (s : ByteArray) : Bool := inB s.size 1 8 && s.data.toList.all fun c => okByte c.toNat
def lessB (a b : ByteArray) : Bool := Op.bytesLess a.toList b.toList
def visitB (v : Visit) : Bool := nameB v.f0 && inB v.f1 0 200 && inB v.f2 1 30
/-- Each two that follow each other are so related. -/
def linkB {α : Type} (rel : α → α → Bool) : List α → Bool
  | [] => true
  | [_] => true
  | u :: v :: r => rel u v && linkB rel (v :: r)
/-- No visit begins ahead of the end of the one before it. -/
def apartB (u v : Visit) : Bool := decide (u.f1 + u.f2 ≤ v.f1)
def byName (a b : Flight) : Bool := lessB a.f0 b.f0
def bySector (a b : Cap) : Bool := lessB a.f0 b.f0
def visitsB (l : List Visit) : Bool := inB l.length 1 5 && l.all visitB && linkB apartB l
def flightB (f : Flight) : Bool := nameB f.f0 && inB f.f1 0 10000 && inB f.f2 0 60 && visitsB f.f3
def flightsB (l : List Flight) : Bool := decide (l.length ≤ 8) && l.all flightB && linkB byName l
def capB (c : Cap) : Bool := nameB c.f0 && inB c.f1 0 20
def capsB (l : List Cap) : Bool := decide (l.length ≤ 6) && l.all capB && linkB bySector l
def slotsB (list : List Flight) (slots : List Int) : Bool := flightsB list && decide (slots.length = list.length) && slots.all fun s => inB s (-1) 10060
/-- By how much somebody is late; nobody without a slot is. -/
def delayOf (f : Flight) (s : Int) : Int := if 0 ≤ s then s - f.f1 else 0
def delayTo (l : List Flight) (s : List Int) (k : Nat) : Int := ((l.zip s).take k).foldl (fun n p => n + delayOf p.1 p.2) 0
def delayN (l : List Flight) (s : List Int) : Int := if slotsB l s = true then delayTo l s l.length else 0
end Core
end Go.Proofs.Ytkfoeplefajkcaa
end

/- Plain laws on the lists of the core: what is checked place by place. -/
section
namespace Go.Proofs.Ytkfoeplefajkcaa
namespace Core

/-- From some place on: each is ok and stands to the one before it as it should. -/
def goB {α : Type} (ok : α → Bool) (rel : α → α → Bool) : Option α → List α → Bool
  | _, [] => true
  | none, x :: r => ok x && goB ok rel (some x) r
  | some p, x :: r => (ok x && rel p x) && goB ok rel (some x) r
def fromB {α : Type} (ok : α → Bool) (rel : α → α → Bool) (l : List α) (k : Nat) : Bool := goB ok rel (if k = 0 then none else l[k - 1]?) (l.drop k)
theorem goB_some {α : Type} (ok : α → Bool) (rel : α → α → Bool) : ∀ (l : List α) (p : α), goB ok rel (some p) l = (l.all ok && linkB rel (p :: l))
  | [], p => rfl
  | x :: r, p => by
    have ih := goB_some ok rel r x
    simp only [goB, ih, List.all_cons, linkB]
    cases ok x <;> cases rel p x <;> simp
theorem goB_none {α : Type} (ok : α → Bool) (rel : α → α → Bool) (l : List α) : goB ok rel none l = (l.all ok && linkB rel l) := by
  cases l with
  | nil => rfl
  | cons x r => simp only [goB, goB_some, List.all_cons, Bool.and_assoc]
theorem fromB_zero {α : Type} (ok : α → Bool) (rel : α → α → Bool) (l : List α) : fromB ok rel l 0 = (l.all ok && linkB rel l) := by
  simp [fromB, goB_none]
theorem fromB_end {α : Type} (ok : α → Bool) (rel : α → α → Bool) (l : List α) (k : Nat) (h : l.length ≤ k) : fromB ok rel l k = true := by
  unfold fromB
  rw [List.drop_of_length_le h]
  cases (if k = 0 then none else l[k - 1]?) <;> rfl
theorem fromB_first {α : Type} (ok : α → Bool) (rel : α → α → Bool) (l : List α) (x : α) (h : l[0]? = some x) : fromB ok rel l 0 = (ok x && fromB ok rel l 1) := by
  cases l with
  | nil => simp at h
  | cons y r =>
    obtain rfl : y = x := by simpa using h
    simp [fromB, goB]
theorem fromB_next {α : Type} (ok : α → Bool) (rel : α → α → Bool) (l : List α) (k : Nat) (p x : α) (hp : l[k]? = some p) (h : l[k + 1]? = some x) : fromB ok rel l (k + 1) = ((ok x && rel p x) && fromB ok rel l (k + 2)) := by
  have hk : k + 1 < l.length := by
    rcases Nat.lt_or_ge (k + 1) l.length with h1 | h1
    · exact h1
    · rw [List.getElem?_eq_none h1] at h; cases h
  have e : l.drop (k + 1) = x :: l.drop (k + 2) := by
    rw [List.drop_eq_getElem_cons hk]
    rw [List.getElem?_eq_getElem hk] at h
    rw [Option.some.inj h]
  unfold fromB
  rw [if_neg (by omega), if_neg (by omega), e]
  simp only [Nat.add_sub_cancel, hp, goB, show k + 2 - 1 = k + 1 from rfl, h]
theorem fromB_bad {α : Type} (ok : α → Bool) (rel : α → α → Bool) (l : List α) (k : Nat) (x : α) (h : l[k]? = some x) (hx : ok x = false) : fromB ok rel l k = false := by
  cases k with
  | zero => rw [fromB_first _ _ _ _ h, hx]; rfl
  | succ k =>
    have hk : k + 1 < l.length := by
      rcases Nat.lt_or_ge (k + 1) l.length with h1 | h1
      · exact h1
      · rw [List.getElem?_eq_none h1] at h; cases h
    rw [fromB_next _ _ _ _ _ _ (List.getElem?_eq_getElem (by omega : k < l.length)) h, hx]; rfl
theorem fromB_bad2 {α : Type} (ok : α → Bool) (rel : α → α → Bool) (l : List α) (k : Nat) (p x : α) (hp : l[k]? = some p) (h : l[k + 1]? = some x) (hx : rel p x = false) : fromB ok rel l (k + 1) = false := by
  rw [fromB_next _ _ _ _ _ _ hp h, hx, Bool.and_false]; rfl
theorem fromB_good0 {α : Type} (ok : α → Bool) (rel : α → α → Bool) (l : List α) (k : Nat) (x : α) (hk : k = 0) (h : l[k]? = some x) (hx : ok x = true) : fromB ok rel l (k + 1) = fromB ok rel l k := by
  subst hk
  rw [fromB_first _ _ _ _ h, hx]; rfl
theorem fromB_good {α : Type} (ok : α → Bool) (rel : α → α → Bool) (l : List α) (k : Nat) (p x : α) (hp : l[k]? = some p) (h : l[k + 1]? = some x) (hx : ok x = true) (hl : rel p x = true) : fromB ok rel l (k + 1 + 1) = fromB ok rel l (k + 1) := by
  rw [fromB_next _ _ _ _ _ _ hp h, hx, hl]; rfl
theorem some_lt {α : Type} {l : List α} {k : Nat} {x : α} (h : l[k]? = some x) : k < l.length := by
  rcases Nat.lt_or_ge k l.length with h1 | h1
  · exact h1
  · rw [List.getElem?_eq_none h1] at h; cases h
theorem flightB_parts {f : Flight} (h : flightB f = true) : nameB f.f0 = true ∧ 0 ≤ f.f1 ∧ f.f1 ≤ 10000 ∧ 0 ≤ f.f2 ∧ f.f2 ≤ 60 ∧ visitsB f.f3 = true := by
  simp only [flightB, inB, Bool.and_eq_true, decide_eq_true_eq] at h
  exact ⟨h.1.1.1, h.1.1.2.1, h.1.1.2.2, h.1.2.1, h.1.2.2, h.2⟩
theorem flightsB_parts {l : List Flight} (h : flightsB l = true) : l.length ≤ 8 ∧ (∀ f ∈ l, flightB f = true) ∧ linkB byName l = true := by
  simp only [flightsB, Bool.and_eq_true, decide_eq_true_eq, List.all_eq_true] at h
  exact ⟨h.1.1, h.1.2, h.2⟩
theorem slotsB_parts {l : List Flight} {s : List Int} (h : slotsB l s = true) : flightsB l = true ∧ s.length = l.length ∧ ∀ x ∈ s, -1 ≤ x ∧ x ≤ 10060 := by
  simp only [slotsB, inB, Bool.and_eq_true, decide_eq_true_eq, List.all_eq_true] at h
  exact ⟨h.1.1, h.1.2, h.2⟩
theorem slotsB_at {l : List Flight} {s : List Int} (h : slotsB l s = true) {k : Nat} {f : Flight} {x : Int} (hf : l[k]? = some f) (hx : s[k]? = some x) : -1 ≤ x ∧ x ≤ 10060 ∧ 0 ≤ f.f1 ∧ f.f1 ≤ 10000 := by
  obtain ⟨h1, h2, h3⟩ := slotsB_parts h
  have h4 := h3 x (List.mem_of_getElem? hx)
  have h5 := flightB_parts ((flightsB_parts h1).2.1 f (List.mem_of_getElem? hf))
  exact ⟨h4.1, h4.2, h5.2.1, h5.2.2.1⟩
theorem delayTo_zero (l : List Flight) (s : List Int) : delayTo l s 0 = 0 := rfl
theorem delayTo_step {l : List Flight} {s : List Int} {k : Nat} {f : Flight} {x : Int} (hf : l[k]? = some f) (hx : s[k]? = some x) : delayTo l s (k + 1) = delayTo l s k + delayOf f x := by
  have hz : (l.zip s)[k]? = some (f, x) := by rw [List.getElem?_zip_eq_some]; exact ⟨hf, hx⟩
  unfold delayTo
  rw [List.take_add_one, hz]
  simp [List.foldl_append]
end Core
end Go.Proofs.Ytkfoeplefajkcaa
end

/- Plain laws on loads: who is in a sector at a tick, counted by visits and by flights. -/
section
namespace Go.Proofs.Ytkfoeplefajkcaa
namespace Core

def coversB (slot : Int) (sec : ByteArray) (t : Int) (v : Visit) : Bool := decide (v.f0 = sec) && inB t (slot + v.f1) (slot + v.f1 + v.f2 - 1)
def hasB (slot : Int) (sec : ByteArray) (t : Int) (vs : List Visit) : Bool := vs.any (coversB slot sec t)
def cntV (slot : Int) (sec : ByteArray) (t : Int) (vs : List Visit) : Nat := vs.countP (coversB slot sec t)
def cntP (sec : ByteArray) (t : Int) (p : Flight × Int) : Nat := if 0 ≤ p.2 then cntV p.2 sec t p.1.f3 else 0
def onP (sec : ByteArray) (t : Int) (p : Flight × Int) : Bool := decide (0 ≤ p.2) && hasB p.2 sec t p.1.f3
/-- The visits of a sector at a tick. -/
def cntTo (l : List Flight) (s : List Int) (sec : ByteArray) (t : Int) (k : Nat) : Nat := (((l.zip s).take k).map (cntP sec t)).sum
/-- The flights in a sector at a tick. -/
def loadTo (l : List Flight) (s : List Int) (sec : ByteArray) (t : Int) (k : Nat) : Nat := ((l.zip s).take k).countP (onP sec t)
def loadN (l : List Flight) (s : List Int) (sec : ByteArray) (t : Int) : Int := if slotsB l s = true then (loadTo l s sec t l.length : Int) else 0

theorem zip_at {l : List Flight} {s : List Int} {k : Nat} {f : Flight} {x : Int} (hf : l[k]? = some f) (hx : s[k]? = some x) : (l.zip s)[k]? = some (f, x) := by
  rw [List.getElem?_zip_eq_some]; exact ⟨hf, hx⟩
theorem cntTo_zero (l : List Flight) (s : List Int) (sec : ByteArray) (t : Int) : cntTo l s sec t 0 = 0 := by simp [cntTo]
theorem loadTo_zero (l : List Flight) (s : List Int) (sec : ByteArray) (t : Int) : loadTo l s sec t 0 = 0 := by simp [loadTo]
theorem cntTo_step {l : List Flight} {s : List Int} {k : Nat} {f : Flight} {x : Int} (hf : l[k]? = some f) (hx : s[k]? = some x) (sec : ByteArray) (t : Int) : cntTo l s sec t (k + 1) = cntTo l s sec t k + cntP sec t (f, x) := by
  unfold cntTo
  rw [List.take_add_one, zip_at hf hx]
  simp
theorem loadTo_step {l : List Flight} {s : List Int} {k : Nat} {f : Flight} {x : Int} (hf : l[k]? = some f) (hx : s[k]? = some x) (sec : ByteArray) (t : Int) : loadTo l s sec t (k + 1) = loadTo l s sec t k + (if onP sec t (f, x) then 1 else 0) := by
  unfold loadTo
  rw [List.take_add_one, zip_at hf hx]
  simp [List.countP_append, List.countP_cons]
theorem loadTo_le (l : List Flight) (s : List Int) (sec : ByteArray) (t : Int) (k : Nat) : loadTo l s sec t k ≤ k := by
  have h1 : ((l.zip s).take k).countP (onP sec t) ≤ ((l.zip s).take k).length := List.countP_le_length
  have h2 : ((l.zip s).take k).length ≤ k := by simp; omega
  unfold loadTo
  omega
theorem cntV_zero (x : Int) (sec : ByteArray) (t : Int) (vs : List Visit) : cntV x sec t (vs.take 0) = 0 := by simp [cntV]
theorem cntV_step {vs : List Visit} {k : Nat} {v : Visit} (h : vs[k]? = some v) (x : Int) (sec : ByteArray) (t : Int) : cntV x sec t (vs.take (k + 1)) = cntV x sec t (vs.take k) + (if coversB x sec t v then 1 else 0) := by
  unfold cntV
  rw [List.take_add_one, h]
  simp [List.countP_append, List.countP_cons]

/-- In a row of visits that do not overlap, each that comes later begins behind the end of the first. -/
theorem apart_all : ∀ (r : List Visit) (v : Visit), linkB apartB (v :: r) = true → (∀ u ∈ r, 1 ≤ u.f2) → ∀ u ∈ r, v.f1 + v.f2 ≤ u.f1
  | [], _, _, _, _, hu => by cases hu
  | y :: r, v, h, hp, u, hu => by
    simp only [linkB, Bool.and_eq_true] at h
    have h1 : v.f1 + v.f2 ≤ y.f1 := by simpa [apartB] using h.1
    rcases List.mem_cons.1 hu with rfl | hu'
    · exact h1
    · have h2 := apart_all r y h.2 (fun u hu => hp u (List.mem_cons_of_mem _ hu)) u hu'
      have h3 := hp y (List.mem_cons_self ..)
      omega
theorem visitB_stay {v : Visit} (h : visitB v = true) : 0 ≤ v.f1 ∧ v.f1 ≤ 200 ∧ 1 ≤ v.f2 ∧ v.f2 ≤ 30 := by
  simp only [visitB, inB, Bool.and_eq_true, decide_eq_true_eq] at h
  exact ⟨h.1.2.1, h.1.2.2, h.2.1, h.2.2⟩
theorem cnt_one : ∀ (vs : List Visit) (x : Int) (sec : ByteArray) (t : Int), linkB apartB vs = true → (∀ v ∈ vs, visitB v = true) → cntV x sec t vs = if hasB x sec t vs then 1 else 0
  | [], _, _, _, _, _ => rfl
  | v :: r, x, sec, t, h, hv => by
    have hl : linkB apartB r = true := by
      cases r with
      | nil => rfl
      | cons y r => simp only [linkB, Bool.and_eq_true] at h; exact h.2
    have ih := cnt_one r x sec t hl (fun u hu => hv u (List.mem_cons_of_mem _ hu))
    unfold cntV hasB at ih ⊢
    rw [List.countP_cons, List.any_cons]
    cases hc : coversB x sec t v with
    | false => simpa using ih
    | true =>
      have hap := apart_all r v h (fun u hu => (visitB_stay (hv u (List.mem_cons_of_mem _ hu))).2.2.1)
      have hz : r.countP (coversB x sec t) = 0 := by
        rw [List.countP_eq_zero]
        intro u hu hcu
        have h1 := hap u hu
        simp only [coversB, inB, Bool.and_eq_true, decide_eq_true_eq] at hc hcu
        omega
      rw [hz]
      simp
theorem visitsB_parts {l : List Visit} (h : visitsB l = true) : 1 ≤ l.length ∧ l.length ≤ 5 ∧ (∀ v ∈ l, visitB v = true) ∧ linkB apartB l = true := by
  simp only [visitsB, inB, Bool.and_eq_true, decide_eq_true_eq, List.all_eq_true] at h
  exact ⟨by omega, by omega, h.1.2, h.2⟩
theorem cntP_on {f : Flight} (h : flightB f = true) (x : Int) (sec : ByteArray) (t : Int) : cntP sec t (f, x) = if onP sec t (f, x) then 1 else 0 := by
  have hv := visitsB_parts (flightB_parts h).2.2.2.2.2
  unfold cntP onP
  by_cases hx : 0 ≤ x
  · simp only [hx, if_true, decide_true, Bool.true_and]
    exact cnt_one _ _ _ _ hv.2.2.2 hv.2.2.1
  · simp [hx]
theorem cnt_load {l : List Flight} (h : ∀ f ∈ l, flightB f = true) (s : List Int) (sec : ByteArray) (t : Int) : ∀ k, cntTo l s sec t k = loadTo l s sec t k
  | 0 => by rw [cntTo_zero, loadTo_zero]
  | k + 1 => by
    have ih := cnt_load h s sec t k
    cases hz : (l.zip s)[k]? with
    | none =>
      unfold cntTo loadTo at ih ⊢
      rw [List.take_add_one, hz]
      simpa using ih
    | some p =>
      obtain ⟨f, x⟩ := p
      obtain ⟨hf, hx⟩ := List.getElem?_zip_eq_some.1 hz
      rw [cntTo_step hf hx, loadTo_step hf hx, ih, cntP_on (h f (List.mem_of_getElem? hf))]
end Core
end Go.Proofs.Ytkfoeplefajkcaa
end

/- Plain laws on what fits: a load above a cap is met where some visit begins. -/
section
namespace Go.Proofs.Ytkfoeplefajkcaa
namespace Core

def fullV (c : Cap) (l : List Flight) (s : List Int) (x : Int) (v : Visit) : Bool := decide (v.f0 = c.f0) && decide (c.f1 < (loadTo l s c.f0 (x + v.f1) l.length : Int))
def fullP (c : Cap) (l : List Flight) (s : List Int) (p : Flight × Int) : Bool := decide (0 ≤ p.2) && p.1.f3.any (fullV c l s p.2)
/-- A sector has more than it can guide where some visit begins. -/
def fullB (c : Cap) (l : List Flight) (s : List Int) : Bool := (l.zip s).any (fullP c l s)
def noneFull (caps : List Cap) (l : List Flight) (s : List Int) : Bool := caps.all fun c => !fullB c l s
def timeP (p : Flight × Int) : Bool := !decide (0 ≤ p.2) || inB p.2 p.1.f1 (p.1.f1 + p.1.f2)
def timeB (l : List Flight) (s : List Int) : Bool := (l.zip s).all timeP
def fitsB (caps : List Cap) (l : List Flight) (s : List Int) : Bool := capsB caps && slotsB l s && timeB l s && noneFull caps l s

theorem covers_back {x t : Int} {sec : ByteArray} {v : Visit} (h : coversB x sec t v = true) (hn : x + v.f1 ≠ t) : coversB x sec (t - 1) v = true := by
  simp only [coversB, inB, Bool.and_eq_true, decide_eq_true_eq] at h ⊢
  exact ⟨h.1, by omega, by omega⟩
theorem countP_mono' {α : Type} {p q : α → Bool} : ∀ (l : List α), (∀ x ∈ l, p x = true → q x = true) → l.countP p ≤ l.countP q
  | [], _ => Nat.le_refl _
  | a :: r, h => by
    have ih := countP_mono' r (fun x hx => h x (List.mem_cons_of_mem _ hx))
    rw [List.countP_cons, List.countP_cons]
    cases hp : p a with
    | false => simp; omega
    | true => rw [h a (List.mem_cons_self ..) hp]; simp; omega
theorem loadTo_all (l : List Flight) (s : List Int) (sec : ByteArray) (t : Int) : loadTo l s sec t l.length = (l.zip s).countP (onP sec t) := by
  unfold loadTo
  rw [List.take_of_length_le (by simp; omega)]
/-- From a tick with too many one comes down to one where somebody comes in. -/
theorem full_down {l : List Flight} {s : List Int} (hs : slotsB l s = true) (c : Cap) (hc : 0 ≤ c.f1) : ∀ (n : Nat) (t : Int), t < n → c.f1 < (loadTo l s c.f0 t l.length : Int) → fullB c l s = true := by
  have hfs := (flightsB_parts (slotsB_parts hs).1).2.1
  have hpos : ∀ p ∈ l.zip s, ∀ t, onP c.f0 t p = true → 0 ≤ t := by
    rintro ⟨f, x⟩ hp t h
    have hv := (visitsB_parts (flightB_parts (hfs f (List.of_mem_zip hp).1)).2.2.2.2.2).2.2.1
    simp only [onP, hasB, Bool.and_eq_true, decide_eq_true_eq, List.any_eq_true] at h
    obtain ⟨h0, v, hvm, hcov⟩ := h
    have h1 := visitB_stay (hv v hvm)
    simp only [coversB, inB, Bool.and_eq_true, decide_eq_true_eq] at hcov
    omega
  intro n
  induction n with
  | zero =>
    intro t ht h
    rw [loadTo_all] at h
    have h1 : 0 < (l.zip s).countP (onP c.f0 t) := by omega
    obtain ⟨p, hp, hon⟩ := List.countP_pos_iff.1 h1
    have := hpos p hp t hon
    omega
  | succ n ih =>
    intro t ht h
    by_cases hstart : ∃ p ∈ l.zip s, 0 ≤ p.2 ∧ ∃ v ∈ p.1.f3, v.f0 = c.f0 ∧ p.2 + v.f1 = t
    · obtain ⟨p, hp, h0, v, hv, hsec, rfl⟩ := hstart
      unfold fullB
      refine List.any_eq_true.2 ⟨p, hp, ?_⟩
      simp only [fullP, Bool.and_eq_true, decide_eq_true_eq, List.any_eq_true]
      exact ⟨h0, v, hv, by simp only [fullV, Bool.and_eq_true, decide_eq_true_eq]; exact ⟨hsec, h⟩⟩
    · refine ih (t - 1) (by omega) ?_
      have hm : loadTo l s c.f0 t l.length ≤ loadTo l s c.f0 (t - 1) l.length := by
        rw [loadTo_all, loadTo_all]
        refine countP_mono' _ fun p hp hon => ?_
        simp only [onP, hasB, Bool.and_eq_true, decide_eq_true_eq, List.any_eq_true] at hon ⊢
        obtain ⟨h0, v, hv, hcov⟩ := hon
        refine ⟨h0, v, hv, covers_back hcov fun e => hstart ⟨p, hp, h0, v, hv, ?_, e⟩⟩
        simp only [coversB, Bool.and_eq_true, decide_eq_true_eq] at hcov
        exact hcov.1
      omega
theorem full_of_over {l : List Flight} {s : List Int} (hs : slotsB l s = true) (c : Cap) (hc : 0 ≤ c.f1) (t : Int) (h : c.f1 < (cntTo l s c.f0 t l.length : Int)) : fullB c l s = true := by
  rw [cnt_load (flightsB_parts (slotsB_parts hs).1).2.1] at h
  exact full_down hs c hc (t.toNat + 1) t (by omega) h
theorem not_full {l : List Flight} {s : List Int} (hs : slotsB l s = true) (c : Cap) (h : ∀ t : Int, (cntTo l s c.f0 t l.length : Int) ≤ c.f1) : fullB c l s = false := by
  rw [Bool.eq_false_iff]
  intro hf
  obtain ⟨p, hp, h1⟩ := List.any_eq_true.1 hf
  simp only [fullP, Bool.and_eq_true, decide_eq_true_eq, List.any_eq_true] at h1
  obtain ⟨_, v, _, h2⟩ := h1
  simp only [fullV, Bool.and_eq_true, decide_eq_true_eq] at h2
  have := h (p.2 + v.f1)
  rw [cnt_load (flightsB_parts (slotsB_parts hs).1).2.1] at this
  omega

theorem noneFull_step {caps : List Cap} {k : Nat} {c : Cap} (h : caps[k]? = some c) (l : List Flight) (s : List Int) : noneFull (caps.drop k) l s = (!fullB c l s && noneFull (caps.drop (k + 1)) l s) := by
  have hk := some_lt h
  unfold noneFull
  rw [List.drop_eq_getElem_cons hk, List.all_cons]
  rw [List.getElem?_eq_getElem hk] at h
  rw [Option.some.inj h]
theorem timeB_step {l : List Flight} {s : List Int} {k : Nat} {f : Flight} {x : Int} (hf : l[k]? = some f) (hx : s[k]? = some x) : ((l.zip s).drop k).all timeP = (timeP (f, x) && ((l.zip s).drop (k + 1)).all timeP) := by
  have h := zip_at hf hx
  have hk := some_lt h
  rw [List.drop_eq_getElem_cons hk, List.all_cons]
  rw [List.getElem?_eq_getElem hk] at h
  rw [Option.some.inj h]
theorem fullB_step {c : Cap} {l : List Flight} {s : List Int} {k : Nat} {f : Flight} {x : Int} (hf : l[k]? = some f) (hx : s[k]? = some x) : ((l.zip s).drop k).any (fullP c l s) = (fullP c l s (f, x) || ((l.zip s).drop (k + 1)).any (fullP c l s)) := by
  have h := zip_at hf hx
  have hk := some_lt h
  rw [List.drop_eq_getElem_cons hk, List.any_cons]
  rw [List.getElem?_eq_getElem hk] at h
  rw [Option.some.inj h]
theorem fullV_step {c : Cap} {l : List Flight} {s : List Int} {x : Int} {vs : List Visit} {k : Nat} {v : Visit} (h : vs[k]? = some v) : (vs.drop k).any (fullV c l s x) = (fullV c l s x v || (vs.drop (k + 1)).any (fullV c l s x)) := by
  have hk := some_lt h
  rw [List.drop_eq_getElem_cons hk, List.any_cons]
  rw [List.getElem?_eq_getElem hk] at h
  rw [Option.some.inj h]
theorem capsB_parts {l : List Cap} (h : capsB l = true) : l.length ≤ 6 ∧ (∀ c ∈ l, capB c = true) ∧ linkB bySector l = true := by
  simp only [capsB, Bool.and_eq_true, decide_eq_true_eq, List.all_eq_true] at h
  exact ⟨h.1.1, h.1.2, h.2⟩
theorem capB_parts {c : Cap} (h : capB c = true) : nameB c.f0 = true ∧ 0 ≤ c.f1 ∧ c.f1 ≤ 20 := by
  simp only [capB, inB, Bool.and_eq_true, decide_eq_true_eq] at h
  exact ⟨h.1, h.2.1, h.2.2⟩
theorem drop_all_end {α : Type} (l : List α) (p : α → Bool) (k : Nat) (h : l.length ≤ k) : (l.drop k).all p = true := by rw [List.drop_of_length_le h]; rfl
end Core
end Go.Proofs.Ytkfoeplefajkcaa
end

/- Plain laws on runs of loads. -/
section
namespace Go.Proofs.Ytkfoeplefajkcaa
namespace Core
set_option linter.unusedVariables false
set_option linter.unusedSimpArgs false

def lastR (o : List Run) : Run := o.getD (o.length - 1) ⟨0, 0, 0⟩
def joinB (o : List Run) (t n : Int) : Bool := decide (0 < o.length) && decide ((lastR o).f1 = t - 1) && decide ((lastR o).f2 = n)
def stepRun (o : List Run) (t n : Int) : List Run := if joinB o t n = true then o.set (o.length - 1) ⟨(lastR o).f0, t, (lastR o).f2⟩ else o ++ [⟨t, t, n⟩]
def runsOf (cnt : Int → Int) (ts : List Int) : List Run := ts.foldl (fun o t => stepRun o t (cnt t)) []
theorem stepRun_len (o : List Run) (t n : Int) : (stepRun o t n).length ≤ o.length + 1 := by
  unfold stepRun
  split <;> simp
theorem runsOf_snoc (cnt : Int → Int) (ts : List Int) (t : Int) : runsOf cnt (ts ++ [t]) = stepRun (runsOf cnt ts) t (cnt t) := by unfold runsOf; rw [List.foldl_append]; rfl
theorem runsOf_len (cnt : Int → Int) (ts : List Int) : (runsOf cnt ts).length ≤ ts.length := by
  have : ∀ (ts : List Int) (o : List Run), (ts.foldl (fun o t => stepRun o t (cnt t)) o).length ≤ o.length + ts.length := by
    intro ts
    induction ts with
    | nil => intro o; simp
    | cons t r ih =>
      intro o
      rw [List.foldl_cons]
      have h1 := ih (stepRun o t (cnt t))
      have h2 := stepRun_len o t (cnt t)
      rw [List.length_cons]; omega
  have := this ts []
  unfold runsOf
  simpa using this
/-- The ticks below n that p holds of. -/
def ticksTo (p : Int → Bool) : Nat → List Int
  | 0 => []
  | n + 1 => if p n = true then ticksTo p n ++ [(n : Int)] else ticksTo p n
theorem ticks_mem (p : Int → Bool) : ∀ (n : Nat) (t : Int), t ∈ ticksTo p n ↔ 0 ≤ t ∧ t < n ∧ p t = true
  | 0, t => by simp [ticksTo]; omega
  | n + 1, t => by
    unfold ticksTo
    have ih := ticks_mem p n t
    split
    · rename_i hp
      rw [List.mem_append, ih, List.mem_singleton]
      constructor
      · rintro (h | rfl)
        · exact ⟨h.1, by omega, h.2.2⟩
        · exact ⟨by omega, by omega, hp⟩
      · rintro ⟨h0, h1, h2⟩
        by_cases e : t = n
        · exact .inr e
        · exact .inl ⟨h0, by omega, h2⟩
    · rename_i hp
      rw [ih]
      constructor
      · rintro ⟨h0, h1, h2⟩; exact ⟨h0, by omega, h2⟩
      · rintro ⟨h0, h1, h2⟩
        refine ⟨h0, ?_, h2⟩
        by_cases e : t = n
        · subst e; exact absurd h2 hp
        · omega
theorem ticks_sorted (p : Int → Bool) : ∀ n, (ticksTo p n).Pairwise (· < ·)
  | 0 => List.Pairwise.nil
  | n + 1 => by
    unfold ticksTo
    split
    · rw [List.pairwise_append]
      refine ⟨ticks_sorted p n, List.pairwise_singleton _ _, fun a ha b hb => ?_⟩
      rw [List.mem_singleton] at hb
      rw [hb]
      exact ((ticks_mem p n a).1 ha).2.1
    · exact ticks_sorted p n
theorem ticks_len (p : Int → Bool) : ∀ n, (ticksTo p n).length ≤ n
  | 0 => Nat.le_refl _
  | n + 1 => by
    unfold ticksTo
    have := ticks_len p n
    split
    · rw [List.length_append, List.length_singleton]; omega
    · omega
theorem sorted_ext : ∀ a b : List Int, a.Pairwise (· < ·) → b.Pairwise (· < ·) → (∀ x, x ∈ a ↔ x ∈ b) → a = b
  | [], [], _, _, _ => rfl
  | [], y :: b, _, _, h => by have := (h y).2 (List.mem_cons_self ..); simp at this
  | x :: a, [], _, _, h => by have := (h x).1 (List.mem_cons_self ..); simp at this
  | x :: a, y :: b, ha, hb, h => by
    rw [List.pairwise_cons] at ha hb
    have e : x = y := by
      rcases List.mem_cons.1 ((h x).1 (List.mem_cons_self ..)) with h1 | h1
      · exact h1
      · rcases List.mem_cons.1 ((h y).2 (List.mem_cons_self ..)) with h2 | h2
        · exact h2.symm
        · have := ha.1 y h2; have := hb.1 x h1; omega
    subst e
    rw [sorted_ext a b ha.2 hb.2 (fun z => ⟨fun hz => ?_, fun hz => ?_⟩)]
    · rcases List.mem_cons.1 ((h z).1 (List.mem_cons_of_mem _ hz)) with h1 | h1
      · have := ha.1 z hz; omega
      · exact h1
    · rcases List.mem_cons.1 ((h z).2 (List.mem_cons_of_mem _ hz)) with h1 | h1
      · have := hb.1 z hz; omega
      · exact h1
theorem ticks_empty {p : Int → Bool} {n : Nat} (h : ∀ t : Int, t < n → p t = false) : ticksTo p n = [] := by
  cases e : ticksTo p n with
  | nil => rfl
  | cons a r =>
    have : a ∈ ticksTo p n := by rw [e]; exact List.mem_cons_self ..
    obtain ⟨_, h1, h2⟩ := (ticks_mem p n a).1 this
    rw [h a h1] at h2; cases h2
theorem ticks_stay {p : Int → Bool} {n m : Nat} (h : ∀ t : Int, n ≤ t → p t = false) (hm : ∀ t : Int, m ≤ t → p t = false) : ticksTo p n = ticksTo p m := by
  refine sorted_ext _ _ (ticks_sorted p n) (ticks_sorted p m) (fun x => ?_)
  rw [ticks_mem, ticks_mem]
  constructor
  · rintro ⟨h0, h1, h2⟩
    refine ⟨h0, ?_, h2⟩
    rcases Int.lt_or_le x m with h3 | h3
    · exact h3
    · rw [hm x h3] at h2; cases h2
  · rintro ⟨h0, h1, h2⟩
    refine ⟨h0, ?_, h2⟩
    rcases Int.lt_or_le x n with h3 | h3
    · exact h3
    · rw [h x h3] at h2; cases h2
/-- How many are there. -/
def ldN (l : List Flight) (s : List Int) (sec : ByteArray) (t : Int) : Int := (loadTo l s sec t l.length : Int)
def someB (l : List Flight) (s : List Int) (sec : ByteArray) (t : Int) : Bool := decide (ldN l s sec t ≠ 0)
def runsN (l : List Flight) (s : List Int) (sec : ByteArray) (n : Nat) : List Run := runsOf (ldN l s sec) (ticksTo (someB l s sec) n)
def runsB (l : List Flight) (s : List Int) (sec : ByteArray) : List Run := if slotsB l s = true then runsN l s sec 10300 else []
theorem runsN_step (l : List Flight) (s : List Int) (sec : ByteArray) (n : Nat) : runsN l s sec (n + 1) = if ldN l s sec n = 0 then runsN l s sec n else stepRun (runsN l s sec n) n (ldN l s sec n) := by
  unfold runsN
  rw [ticksTo]
  by_cases h : ldN l s sec n = 0
  · rw [if_pos h, if_neg (by simp [someB, h])]
  · rw [if_neg h, if_pos (by simp [someB, h]), runsOf_snoc]
theorem runsN_len (l : List Flight) (s : List Int) (sec : ByteArray) (n : Nat) : (runsN l s sec n).length ≤ n := Nat.le_trans (runsOf_len _ _) (ticks_len _ _)
theorem runsB_len (l : List Flight) (s : List Int) (sec : ByteArray) : (runsB l s sec).length ≤ 10000000 := by
  unfold runsB
  split
  · have := runsN_len l s sec 10300; omega
  · simp
/-- The ends that the reference goes by. -/
def EndsOk (l : List Flight) (s : List Int) (lo hi : Int) : Prop := 0 ≤ lo ∧ lo ≤ 10290 ∧ -1 ≤ hi ∧ hi ≤ 10290 ∧ ∀ p ∈ l.zip s, 0 ≤ p.2 → lo ≤ p.2 ∧ ∀ v ∈ p.1.f3, p.2 + v.f1 + v.f2 ≤ hi
theorem last_max : ∀ vs : List Visit, linkB apartB vs = true → (∀ v ∈ vs, 0 ≤ v.f1 ∧ 1 ≤ v.f2) → ∀ u, vs[vs.length - 1]? = some u → ∀ v ∈ vs, v.f1 + v.f2 ≤ u.f1 + u.f2
  | [], _, _, _, _, _, hv => by cases hv
  | [a], _, _, u, hu, v, hv => by
    rw [List.mem_singleton] at hv
    simp at hu
    rw [hv, hu]; exact Int.le_refl _
  | a :: b :: r, hl, h0, u, hu, v, hv => by
    have hu' : (b :: r)[(b :: r).length - 1]? = some u := by
      simp only [List.length_cons] at hu ⊢
      rw [show r.length + 1 + 1 - 1 = (r.length + 1 - 1) + 1 by omega, List.getElem?_cons_succ] at hu
      exact hu
    have hl' : linkB apartB (b :: r) = true := by
      simp only [linkB, Bool.and_eq_true] at hl; exact hl.2
    rcases List.mem_cons.1 hv with rfl | hv
    · have hm : u ∈ b :: r := List.mem_of_getElem? hu'
      have := apart_all (b :: r) v hl (fun w hw => (h0 w (List.mem_cons_of_mem _ hw)).2) u hm
      have := (h0 u (List.mem_cons_of_mem _ hm)).2
      omega
    · exact last_max (b :: r) hl' (fun w hw => h0 w (List.mem_cons_of_mem _ hw)) u hu' v hv
theorem someB_in {l : List Flight} {s : List Int} {sec : ByteArray} {t lo hi : Int} (hs : slotsB l s = true) (he : EndsOk l s lo hi) (h : someB l s sec t = true) : lo ≤ t ∧ t < hi := by
  unfold someB ldN at h
  rw [decide_eq_true_eq, loadTo_all] at h
  have hpos : 0 < (l.zip s).countP (onP sec t) := by omega
  rw [List.countP_pos_iff] at hpos
  obtain ⟨p, hp, hon⟩ := hpos
  unfold onP hasB at hon
  rw [Bool.and_eq_true, decide_eq_true_eq, List.any_eq_true] at hon
  obtain ⟨h0, v, hv, hc⟩ := hon
  obtain ⟨e1, e2⟩ := he.2.2.2.2 p hp h0
  have e3 := e2 v hv
  unfold coversB inB at hc
  simp only [Bool.and_eq_true, decide_eq_true_eq] at hc
  obtain ⟨hfl, hlen, _⟩ := slotsB_parts hs
  have hf := (flightsB_parts hfl).2.1 p.1 (List.of_mem_zip hp).1
  have hb := visitB_stay ((visitsB_parts (flightB_parts hf).2.2.2.2.2).2.2.1 v hv)
  omega
theorem someB_out {l : List Flight} {s : List Int} {sec : ByteArray} {t lo hi : Int} (hs : slotsB l s = true) (he : EndsOk l s lo hi) (h : t < lo ∨ hi ≤ t) : someB l s sec t = false := by
  cases e : someB l s sec t with
  | false => rfl
  | true => have := someB_in hs he e; omega
theorem runsN_first {l : List Flight} {s : List Int} {sec : ByteArray} {lo hi : Int} (hs : slotsB l s = true) (he : EndsOk l s lo hi) : runsN l s sec lo.toNat = [] := by
  unfold runsN
  rw [ticks_empty (fun t ht => someB_out hs he (.inl (by have := he.1; omega)))]
  rfl
theorem runsN_last {l : List Flight} {s : List Int} {sec : ByteArray} {lo hi : Int} (hs : slotsB l s = true) (he : EndsOk l s lo hi) (n : Nat) (hn : hi < n) : runsN l s sec n = runsB l s sec := by
  unfold runsB
  rw [if_pos hs]
  unfold runsN
  rw [ticks_stay (n := n) (m := 10300) (fun t ht => someB_out hs he (.inr (by omega))) (fun t ht => someB_out hs he (.inr (by have := he.2.2.2.1; omega)))]
end Core
end Go.Proofs.Ytkfoeplefajkcaa
end

/- Plain laws on the least slot that fits. -/
section
namespace Go.Proofs.Ytkfoeplefajkcaa
namespace Core

/-- The first of n numbers from t on of which p holds; -1 if it holds of none. -/
def searchN (p : Int → Bool) (t : Int) : Nat → Int
  | 0 => -1
  | n + 1 => if p t = true then t else searchN p (t + 1) n
def leastN (caps : List Cap) (l : List Flight) (s : List Int) (k : Nat) (f : Flight) : Int := searchN (fun t => noneFull caps l (s.set k t)) f.f1 (f.f2.toNat + 1)
def leastAt (caps : List Cap) (l : List Flight) (s : List Int) (k : Nat) : Int := leastN caps l s k (l.getD k default)
theorem search_hit {p : Int → Bool} {t : Int} (h : p t = true) (n : Nat) : searchN p t (n + 1) = t := by simp [searchN, h]
theorem search_miss {p : Int → Bool} {t : Int} (h : p t = false) (n : Nat) : searchN p t (n + 1) = searchN p (t + 1) n := by simp [searchN, h]
theorem slots_set {l : List Flight} {s : List Int} (h : slotsB l s = true) (k : Nat) {t : Int} (h0 : -1 ≤ t) (h1 : t ≤ 10060) : slotsB l (s.set k t) = true := by
  obtain ⟨a, b, c⟩ := slotsB_parts h
  simp only [slotsB, inB, Bool.and_eq_true, decide_eq_true_eq, List.all_eq_true]
  refine ⟨⟨a, by simpa using b⟩, fun x hx => ?_⟩
  rcases List.mem_or_eq_of_mem_set hx with h2 | rfl
  · exact c x h2
  · exact ⟨h0, h1⟩
theorem time_set {l : List Flight} {s : List Int} (h : timeB l s = true) (k : Nat) {f : Flight} (hf : l[k]? = some f) {t : Int} (h0 : inB t f.f1 (f.f1 + f.f2) = true) : timeB l (s.set k t) = true := by
  unfold timeB at h ⊢
  rw [List.all_eq_true] at h ⊢
  intro p hp
  obtain ⟨i, hi⟩ := List.getElem?_of_mem hp
  obtain ⟨g, x⟩ := p
  obtain ⟨h1, h2⟩ := List.getElem?_zip_eq_some.1 hi
  by_cases hik : k = i
  · subst hik
    simp only at h1 h2
    rw [hf] at h1
    obtain rfl := Option.some.inj h1
    have hk : k < s.length := by
      have := some_lt h2
      simpa using this
    rw [List.getElem?_set_self hk] at h2
    obtain rfl := Option.some.inj h2
    simp [timeP, h0]
  · simp only at h1 h2
    rw [List.getElem?_set_ne hik] at h2
    exact h (g, x) (List.mem_of_getElem? (zip_at h1 h2))
theorem fits_set {caps : List Cap} {l : List Flight} {s : List Int} (hc : capsB caps = true) (hs : slotsB l s = true) (ht : timeB l s = true) (k : Nat) {f : Flight} (hf : l[k]? = some f) {t : Int} (h0 : f.f1 ≤ t) (h1 : t ≤ f.f1 + f.f2) : fitsB caps l (s.set k t) = noneFull caps l (s.set k t) := by
  obtain ⟨a, _, _⟩ := slotsB_parts hs
  have b := flightB_parts ((flightsB_parts a).2.1 f (List.mem_of_getElem? hf))
  unfold fitsB
  rw [hc, slots_set hs k (by omega) (by omega), time_set ht k hf (by simp [inB]; omega)]
  rfl
theorem fitsB_parts {caps : List Cap} {l : List Flight} {s : List Int} (h : fitsB caps l s = true) : capsB caps = true ∧ slotsB l s = true ∧ timeB l s = true ∧ noneFull caps l s = true := by
  simp only [fitsB, Bool.and_eq_true] at h
  exact ⟨h.1.1.1, h.1.1.2, h.1.2, h.2⟩
/-- FlowLeast: the place may be outside. -/
def leastB (caps : List Cap) (l : List Flight) (s : List Int) (k : Int) : Int := if fitsB caps l s = true ∧ 0 ≤ k ∧ k < l.length then leastAt caps l s k.toNat else -1
theorem leastAt_some {caps : List Cap} {l : List Flight} {s : List Int} {k : Nat} {f : Flight} (h : l[k]? = some f) : leastAt caps l s k = leastN caps l s k f := by
  unfold leastAt
  rw [List.getD_eq_getElem?_getD, h]
  rfl
end Core
end Go.Proofs.Ytkfoeplefajkcaa
end

/- Plain laws on the bound: first entries into a sector, sorted; two ways to let them in. -/
section
namespace Go.Proofs.Ytkfoeplefajkcaa
namespace Core

/-- When a flight is first in a sector, by when it is planned; -1 if it never is. -/
def firstOf (p : Int) (sec : ByteArray) : List Visit → Int
  | [] => -1
  | v :: r => if v.f0 = sec then p + v.f1 else firstOf p sec r
/-- Laid behind all that are no greater. -/
def insI (t : Int) : List Int → List Int
  | [] => [t]
  | x :: r => if x ≤ t then x :: insI t r else t :: x :: r
/-- How many from the head on are no greater. -/
def cntI (t : Int) : List Int → Nat
  | [] => 0
  | x :: r => if x ≤ t then cntI t r + 1 else 0
theorem cntI_le (t : Int) : ∀ l, cntI t l ≤ l.length
  | [] => Nat.le_refl _
  | x :: r => by
    have := cntI_le t r
    unfold cntI
    split <;> simp <;> omega
theorem insI_eq (t : Int) : ∀ l, insI t l = l.take (cntI t l) ++ [t] ++ l.drop (cntI t l)
  | [] => rfl
  | x :: r => by
    have ih := insI_eq t r
    unfold insI cntI
    split
    · rw [ih]; simp
    · simp
theorem insI_length (t : Int) (l : List Int) : (insI t l).length = l.length + 1 := by
  rw [insI_eq]
  have := cntI_le t l
  simp
  omega
theorem insI_perm (t : Int) (l : List Int) : (insI t l).Perm (t :: l) := by
  rw [insI_eq, List.append_assoc]
  have h := List.perm_middle (l₁ := l.take (cntI t l)) (l₂ := l.drop (cntI t l)) (a := t)
  rwa [List.take_append_drop] at h
theorem insI_sorted (t : Int) : ∀ l : List Int, l.Pairwise (· ≤ ·) → (insI t l).Pairwise (· ≤ ·)
  | [], _ => by simp [insI]
  | x :: r, h => by
    obtain ⟨h1, h2⟩ := List.pairwise_cons.1 h
    unfold insI
    split
    · rename_i hx
      refine List.pairwise_cons.2 ⟨fun y hy => ?_, insI_sorted t r h2⟩
      rcases List.mem_cons.1 ((insI_perm t r).mem_iff.1 hy) with rfl | hy
      · exact hx
      · exact h1 y hy
    · rename_i hx
      refine List.pairwise_cons.2 ⟨fun y hy => ?_, h⟩
      rcases List.mem_cons.1 hy with rfl | hy
      · omega
      · have := h1 y hy; omega
theorem cnt_while {t : Int} {l : List Int} {k : Nat} (h : k ≤ cntI t l) (hk : k < l.length) : (l[k]'hk ≤ t) ↔ k < cntI t l := by
  induction l generalizing k with
  | nil => simp at hk
  | cons x r ih =>
    unfold cntI at h ⊢
    cases k with
    | zero =>
      simp only [List.getElem_cons_zero]
      split <;> simp_all
    | succ k =>
      by_cases hx : x ≤ t
      · simp only [hx, if_true] at h ⊢
        simp only [List.getElem_cons_succ]
        rw [ih (by omega) (by simpa using hk)]
        omega
      · simp [hx] at h

/-- The first entries of the flights of a sector, in the flights' order. -/
def comesOf (sec : ByteArray) (l : List Flight) : List Int := (l.map fun f => firstOf f.f1 sec f.f3).filter fun t => decide (0 ≤ t)
def sortedTo (sec : ByteArray) (l : List Flight) (k : Nat) : List Int := (comesOf sec (l.take k)).foldl (fun a t => insI t a) []
theorem comes_step {l : List Flight} {k : Nat} {f : Flight} (h : l[k]? = some f) (sec : ByteArray) : comesOf sec (l.take (k + 1)) = comesOf sec (l.take k) ++ (if 0 ≤ firstOf f.f1 sec f.f3 then [firstOf f.f1 sec f.f3] else []) := by
  unfold comesOf
  rw [List.take_add_one, h]
  simp only [Option.toList_some, List.map_append, List.map_cons, List.map_nil, List.filter_append]
  congr 1
  by_cases hx : 0 ≤ firstOf f.f1 sec f.f3 <;> simp [hx]
theorem sorted_step {l : List Flight} {k : Nat} {f : Flight} (h : l[k]? = some f) (sec : ByteArray) : sortedTo sec l (k + 1) = if 0 ≤ firstOf f.f1 sec f.f3 then insI (firstOf f.f1 sec f.f3) (sortedTo sec l k) else sortedTo sec l k := by
  unfold sortedTo
  rw [comes_step h]
  by_cases hx : 0 ≤ firstOf f.f1 sec f.f3
  · simp [hx, List.foldl_append]
  · simp [hx]
theorem foldl_ins (xs : List Int) : ∀ acc : List Int, acc.Pairwise (· ≤ ·) → (xs.foldl (fun a t => insI t a) acc).Pairwise (· ≤ ·) ∧ (xs.foldl (fun a t => insI t a) acc).Perm (xs ++ acc) := by
  induction xs with
  | nil => intro acc h; exact ⟨h, List.Perm.refl _⟩
  | cons x r ih =>
    intro acc h
    have h1 := ih (insI x acc) (insI_sorted x acc h)
    refine ⟨h1.1, h1.2.trans ?_⟩
    have h2 := (insI_perm x acc).append_left r
    refine h2.trans ?_
    exact List.perm_middle
theorem sortedTo_spec (sec : ByteArray) (l : List Flight) : (sortedTo sec l l.length).Pairwise (· ≤ ·) ∧ (sortedTo sec l l.length).Perm (comesOf sec l) := by
  have h := foldl_ins (comesOf sec l) [] List.Pairwise.nil
  unfold sortedTo
  rw [List.take_length]
  exact ⟨h.1, by simpa using h.2⟩
theorem sorted_unique : ∀ (a b : List Int), a.Pairwise (· ≤ ·) → b.Pairwise (· ≤ ·) → a.Perm b → a = b := fun _ _ ha hb h => h.eq_of_pairwise (fun _ _ _ _ h1 h2 => Int.le_antisymm h1 h2) ha hb

/-! Each comes in at a tick of its own, or as many at one as can be guided: two ways to reckon it. -/
def giveT (c : Nat) (g : List Int) (t : Int) : Int := if c ≤ g.length ∧ t ≤ g.getD (g.length - c) 0 then g.getD (g.length - c) 0 + 1 else t
def runS (c : Nat) : List Int → List Int → Int → Int
  | [], _, s => s
  | t :: r, g, s => runS c r (g ++ [giveT c g t]) (s + giveT c g t - t)
def nowT (c now let_ t : Int) : Int × Int :=
  let p := if now < t then (t, 0) else (now, let_)
  if p.2 = c then (p.1 + 1, 1) else (p.1, p.2 + 1)
def runI (c : Int) : List Int → Int → Int → Int → Int
  | [], _, _, s => s
  | t :: r, now, let_, s => runI c r (nowT c now let_ t).1 (nowT c now let_ t).2 (s + ((nowT c now let_ t).1 - t))
/-- What both ways know of each other: the last 'n' given are 'now'; all ahead of them are less; and either nobody who comes is ahead of 'now', or c were given the tick ahead of it. -/
structure Same (c : Nat) (g : List Int) (now : Int) (n : Nat) (last : Int) : Prop where
  n1 : 1 ≤ n
  nc : n ≤ c
  ng : n ≤ g.length
  here : ∀ i, g.length - n ≤ i → i < g.length → g.getD i 0 = now
  less : ∀ i, i < g.length - n → g.getD i 0 < now
  why : now ≤ last ∨ (n + c ≤ g.length ∧ ∀ i, g.length - n - c ≤ i → i < g.length - n → g.getD i 0 = now - 1)
theorem getD_app_lt {g : List Int} {u : Int} {i : Nat} (h : i < g.length) : (g ++ [u]).getD i 0 = g.getD i 0 := by
  simp [List.getD, List.getElem?_append_left h]
theorem getD_app_eq {g : List Int} {u : Int} : (g ++ [u]).getD g.length 0 = u := by simp [List.getD]
theorem same_step {c : Nat} {g : List Int} {now last t : Int} {n : Nat} (hc : 1 ≤ c) (h : Same c g now n last) (ht : last ≤ t) :
    giveT c g t = (nowT c now n t).1 ∧ ∃ m : Nat, (nowT c now n t).2 = m ∧ Same c (g ++ [giveT c g t]) (nowT c now n t).1 m t := by
  obtain ⟨n1, nc, ng, here, less, why⟩ := h
  have hle : ∀ i, i < g.length → g.getD i 0 ≤ now := fun i hi => by
    rcases Nat.lt_or_ge i (g.length - n) with h1 | h1
    · exact Int.le_of_lt (less i h1)
    · exact Int.le_of_eq (here i h1 hi)
  have hL : (g ++ [giveT c g t]).length = g.length + 1 := by simp
  by_cases h1 : now < t
  · have hg : giveT c g t = t := by
      unfold giveT
      rw [if_neg]
      rintro ⟨h2, h3⟩
      have := hle (g.length - c) (by omega)
      omega
    have hn : nowT c now n t = (t, 1) := by
      unfold nowT
      simp only [h1, if_true]
      rw [if_neg (by omega)]
      rfl
    rw [hn]
    refine ⟨hg, 1, rfl, ⟨Nat.le_refl _, hc, by rw [hL]; omega, fun i h2 h3 => ?_, fun i h2 => ?_, .inl (Int.le_refl _)⟩⟩
    · rw [hL] at h2 h3
      obtain rfl : i = g.length := by omega
      rw [getD_app_eq, hg]
    · rw [hL] at h2
      rw [getD_app_lt (by omega)]
      have := hle i (by omega)
      show _ < t
      omega
  · by_cases h2 : n = c
    · have hlast : g.getD (g.length - c) 0 = now := here _ (by omega) (by omega)
      have hg : giveT c g t = now + 1 := by
        unfold giveT
        rw [if_pos ⟨by omega, by omega⟩, hlast]
      have hn : nowT c now n t = (now + 1, 1) := by
        unfold nowT
        simp only [h1, if_false]
        rw [if_pos (by omega)]
      rw [hn]
      refine ⟨hg, 1, rfl, ⟨Nat.le_refl _, hc, by rw [hL]; omega, fun i h3 h4 => ?_, fun i h3 => ?_, .inr ⟨by rw [hL]; omega, fun i h3 h4 => ?_⟩⟩⟩
      · rw [hL] at h3 h4
        obtain rfl : i = g.length := by omega
        rw [getD_app_eq, hg]
      · rw [hL] at h3
        rw [getD_app_lt (by omega)]
        have := hle i (by omega)
        show _ < now + 1
        omega
      · rw [hL] at h3 h4
        rw [getD_app_lt (by omega), here i (by omega) (by omega)]
        show now = now + 1 - 1
        omega
    · have hn : nowT c now n t = (now, (n : Int) + 1) := by
        unfold nowT
        simp only [h1, if_false]
        rw [if_neg (by omega)]
      have hg : giveT c g t = now := by
        unfold giveT
        rcases why with h3 | ⟨h3, h4⟩
        · have htn : t = now := by omega
          rw [if_neg]
          · exact htn
          · rintro ⟨h5, h6⟩
            have := less (g.length - c) (by omega)
            omega
        · have h5 := h4 (g.length - c) (by omega) (by omega)
          by_cases h6 : t ≤ now - 1
          · rw [if_pos ⟨by omega, by omega⟩, h5]; omega
          · rw [if_neg (by rintro ⟨_, h7⟩; omega)]; omega
      rw [hn]
      refine ⟨hg, n + 1, by simp, ⟨by omega, by omega, by rw [hL]; omega, fun i h3 h4 => ?_, fun i h3 => ?_, ?_⟩⟩
      · rw [hL] at h3 h4
        rcases Nat.lt_or_ge i g.length with h5 | h5
        · rw [getD_app_lt h5]; exact here i (by omega) h5
        · obtain rfl : i = g.length := by omega
          rw [getD_app_eq, hg]
      · rw [hL] at h3
        rw [getD_app_lt (by omega)]
        exact less i (by omega)
      · rcases why with h3 | ⟨h3, h4⟩
        · exact .inl (by show now ≤ t; omega)
        · refine .inr ⟨by rw [hL]; omega, fun i h5 h6 => ?_⟩
          rw [hL] at h5 h6
          rw [getD_app_lt (by omega)]
          exact h4 i (by omega) (by omega)
theorem run_same {c : Nat} (hc : 1 ≤ c) : ∀ (r : List Int) (g : List Int) (now : Int) (n : Nat) (last s : Int), Same c g now n last → (∀ t ∈ r, last ≤ t) → r.Pairwise (· ≤ ·) → runS c r g s = runI c r now n s
  | [], _, _, _, _, _, _, _, _ => rfl
  | t :: r, g, now, n, last, s, h, hl, hp => by
    obtain ⟨h1, h2⟩ := List.pairwise_cons.1 hp
    obtain ⟨e1, m, e2, h3⟩ := same_step hc h (hl t (List.mem_cons_self ..))
    unfold runS runI
    rw [e2, ← e1] at *
    rw [show s + giveT c g t - t = s + (giveT c g t - t) by omega]
    exact run_same hc r _ _ m t _ h3 h1 h2
theorem run_all {c : Nat} (hc : 1 ≤ c) (l : List Int) (h0 : ∀ t ∈ l, 0 ≤ t) (hp : l.Pairwise (· ≤ ·)) : runS c l [] 0 = runI c l (-1) 0 0 := by
  cases l with
  | nil => rfl
  | cons t r =>
    obtain ⟨h1, h2⟩ := List.pairwise_cons.1 hp
    have ht := h0 t (List.mem_cons_self ..)
    have hg : giveT c [] t = t := by unfold giveT; rw [if_neg]; rintro ⟨h, _⟩; simp at h; omega
    have hn : nowT c (-1) 0 t = (t, 1) := by
      unfold nowT
      simp only [show (-1 : Int) < t by omega, if_true]
      rw [if_neg (by omega)]
      rfl
    unfold runS runI
    rw [hg, hn]
    show runS c r [t] (0 + t - t) = runI c r t 1 (0 + (t - t))
    rw [show (0 : Int) + t - t = 0 + (t - t) by omega]
    refine run_same hc r [t] t 1 t _ ⟨Nat.le_refl _, hc, by simp, fun i h3 h4 => ?_, fun i h3 => ?_, .inl (Int.le_refl _)⟩ h1 h2
    · obtain rfl : i = 0 := by simp at h4; exact h4
      rfl
    · simp at h3
end Core
end Go.Proofs.Ytkfoeplefajkcaa
end

/- Plain laws on the order of names, and on caps found by name. -/
section
namespace Go.Proofs.Ytkfoeplefajkcaa
namespace Core

theorem bl_irrefl : ∀ x : List UInt8, Op.bytesLess x x = false
  | [] => rfl
  | a :: x => by
    have ih := bl_irrefl x
    simp only [Op.bytesLess, ih, Bool.and_false, Bool.or_false, decide_eq_false_iff_not]
    exact UInt8.lt_irrefl a
theorem bl_trans : ∀ x y z : List UInt8, Op.bytesLess x y = true → Op.bytesLess y z = true → Op.bytesLess x z = true
  | _, [], _, h, _ => by cases ‹List UInt8› <;> simp [Op.bytesLess] at h
  | _, _ :: _, [], _, h => by simp [Op.bytesLess] at h
  | [], _ :: _, _ :: _, _, _ => rfl
  | a :: x, b :: y, c :: z, h1, h2 => by
    have ih := bl_trans x y z
    simp only [Op.bytesLess, Bool.or_eq_true, Bool.and_eq_true, decide_eq_true_eq, beq_iff_eq, UInt8.lt_iff_toNat_lt] at h1 h2 ⊢
    rcases h1 with h1 | ⟨rfl, h1⟩
    · rcases h2 with h2 | ⟨rfl, h2⟩
      · exact .inl (by omega)
      · exact .inl h1
    · rcases h2 with h2 | ⟨rfl, h2⟩
      · exact .inl h2
      · exact .inr ⟨rfl, ih h1 h2⟩
theorem bl_total : ∀ x y : List UInt8, Op.bytesLess x y = false → Op.bytesLess y x = false → x = y
  | [], [], _, _ => rfl
  | [], _ :: _, h, _ => by simp [Op.bytesLess] at h
  | _ :: _, [], _, h => by simp [Op.bytesLess] at h
  | a :: x, b :: y, h1, h2 => by
    have ih := bl_total x y
    simp only [Op.bytesLess, Bool.or_eq_false_iff, Bool.and_eq_false_iff, decide_eq_false_iff_not, beq_eq_false_iff_ne, UInt8.lt_iff_toNat_lt] at h1 h2
    have hab : a = b := UInt8.toNat_inj.1 (by omega)
    subst hab
    rw [ih (by simpa using h1.2) (by simpa using h2.2)]
theorem less_irrefl (a : ByteArray) : lessB a a = false := bl_irrefl _
theorem less_trans {a b c : ByteArray} (h1 : lessB a b = true) (h2 : lessB b c = true) : lessB a c = true := bl_trans _ _ _ h1 h2
theorem less_ne {a b : ByteArray} (h : lessB a b = true) : a ≠ b := fun e => by rw [e, less_irrefl] at h; cases h
/-- Each that follows another in a row that rises is behind all that are ahead of it. -/
theorem link_pairwise {α : Type} (rel : α → α → Bool) (htr : ∀ a b c, rel a b = true → rel b c = true → rel a c = true) : ∀ l : List α, linkB rel l = true → l.Pairwise (fun a b => rel a b = true)
  | [], _ => List.Pairwise.nil
  | [x], _ => List.pairwise_singleton _ _
  | x :: y :: r, h => by
    simp only [linkB, Bool.and_eq_true] at h
    have ih := link_pairwise rel htr (y :: r) h.2
    refine List.pairwise_cons.2 ⟨fun z hz => ?_, ih⟩
    rcases List.mem_cons.1 hz with rfl | hz
    · exact h.1
    · exact htr _ _ _ h.1 ((List.pairwise_cons.1 ih).1 z hz)
theorem sectors_rise {l : List Cap} (h : capsB l = true) : l.Pairwise (fun a b => lessB a.f0 b.f0 = true) := by
  simp only [capsB, Bool.and_eq_true] at h
  exact link_pairwise bySector (fun a b c => less_trans) l h.2
theorem names_rise {l : List Flight} (h : flightsB l = true) : l.Pairwise (fun a b => lessB a.f0 b.f0 = true) := by
  simp only [flightsB, Bool.and_eq_true] at h
  exact link_pairwise byName (fun a b c => less_trans) l h.2

def capOf (sec : ByteArray) : List Cap → Int
  | [] => -1
  | c :: r => if c.f0 = sec then c.f1 else capOf sec r
/-- The last cap of that name; n if there is none. -/
def lastCap (sec : ByteArray) : List Cap → Int → Int
  | [], n => n
  | c :: r, n => lastCap sec r (if c.f0 = sec then c.f1 else n)
theorem lastCap_none {sec : ByteArray} : ∀ (l : List Cap) (n : Int), (∀ c ∈ l, c.f0 ≠ sec) → lastCap sec l n = n
  | [], _, _ => rfl
  | c :: r, n, h => by
    unfold lastCap
    rw [if_neg (h c (List.mem_cons_self ..))]
    exact lastCap_none r n (fun d hd => h d (List.mem_cons_of_mem _ hd))
theorem capOf_none {sec : ByteArray} : ∀ (l : List Cap), (∀ c ∈ l, c.f0 ≠ sec) → capOf sec l = -1
  | [], _ => rfl
  | c :: r, h => by
    unfold capOf
    rw [if_neg (h c (List.mem_cons_self ..))]
    exact capOf_none r (fun d hd => h d (List.mem_cons_of_mem _ hd))
theorem last_first {sec : ByteArray} : ∀ (l : List Cap) (n : Int), l.Pairwise (fun a b => lessB a.f0 b.f0 = true) → lastCap sec l n = capOf sec l ∨ (lastCap sec l n = n ∧ capOf sec l = -1)
  | [], n, _ => .inr ⟨rfl, rfl⟩
  | c :: r, n, h => by
    obtain ⟨h1, h2⟩ := List.pairwise_cons.1 h
    unfold lastCap capOf
    by_cases hc : c.f0 = sec
    · rw [if_pos hc, if_pos hc]
      exact .inl (lastCap_none r c.f1 (fun d hd e => less_ne (h1 d hd) (by rw [hc, e])))
    · rw [if_neg hc, if_neg hc]
      exact last_first r n h2
theorem last_cap {l : List Cap} (h : capsB l = true) (sec : ByteArray) : (lastCap sec l 0 < 1 ↔ capOf sec l < 1) ∧ (1 ≤ capOf sec l → lastCap sec l 0 = capOf sec l) := by
  rcases last_first (sec := sec) l 0 (sectors_rise h) with e | ⟨e1, e2⟩
  · rw [e]; exact ⟨Iff.rfl, fun _ => rfl⟩
  · rw [e1, e2]; exact ⟨by omega, by omega⟩
theorem lastCap_range {sec : ByteArray} : ∀ (l : List Cap) (n : Int), (∀ c ∈ l, capB c = true) → 0 ≤ n → n ≤ 20 → 0 ≤ lastCap sec l n ∧ lastCap sec l n ≤ 20
  | [], n, _, h0, h1 => ⟨h0, h1⟩
  | c :: r, n, h, h0, h1 => by
    unfold lastCap
    have hc := capB_parts (h c (List.mem_cons_self ..))
    exact lastCap_range r _ (fun d hd => h d (List.mem_cons_of_mem _ hd)) (by split <;> omega) (by split <;> omega)
theorem lastCap_step {l : List Cap} {k : Nat} {c : Cap} (h : l[k]? = some c) (sec : ByteArray) (n : Int) : lastCap sec (l.drop k) n = lastCap sec (l.drop (k + 1)) (if c.f0 = sec then c.f1 else n) := by
  have hk := some_lt h
  rw [List.drop_eq_getElem_cons hk]
  rw [List.getElem?_eq_getElem hk] at h
  rw [Option.some.inj h]
  rfl
theorem runI_step {ts : List Int} {k : Nat} {t : Int} (h : ts[k]? = some t) (c now n s : Int) : runI c (ts.drop k) now n s = runI c (ts.drop (k + 1)) (nowT c now n t).1 (nowT c now n t).2 (s + ((nowT c now n t).1 - t)) := by
  have hk := some_lt h
  rw [List.drop_eq_getElem_cons hk]
  rw [List.getElem?_eq_getElem hk] at h
  rw [Option.some.inj h]
  rfl
end Core
end Go.Proofs.Ytkfoeplefajkcaa
end
