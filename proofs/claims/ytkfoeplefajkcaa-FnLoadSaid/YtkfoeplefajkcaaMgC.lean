/- Merged out of this seat's own texts: Core, Core2, Core3, Core4, Core5, Core6, Core7, Core8, Core11, Core12, Core13, Core15, Core17. -/
import Derived.WalkKit
import Derived.WalkLawsBesides
import Derived.Laws.Strings

/- The plain functions that the contracts of this seat speak of: flights, caps, slots, loads. No program in sight. -/
section
namespace Go.Proofs.Ytkfoeplefajkcaa
namespace Core

structure Visit where
  f0 : ByteArray
  f1 : Int
  f2 : Int
structure Flight where
  f0 : ByteArray
  f1 : Int
  f2 : Int
  f3 : List Visit
structure Cap where
  f0 : ByteArray
  f1 : Int
structure Run where
  f0 : Int
  f1 : Int
  f2 : Int
structure Book where
  f0 : List Cap
  f1 : List Flight
  f2 : List Int

instance : Inhabited Visit := ⟨⟨ByteArray.empty, 0, 0⟩⟩
instance : Inhabited Flight := ⟨⟨ByteArray.empty, 0, 0, []⟩⟩
instance : Inhabited Cap := ⟨⟨ByteArray.empty, 0⟩⟩

def inB (n lo hi : Int) : Bool := decide (lo ≤ n) && decide (n ≤ hi)
def okByte (c : Int) : Bool := (decide (97 ≤ c) && decide (c ≤ 122)) || (decide (48 ≤ c) && decide (c ≤ 57)) || (c == 45)
def nameB (s : ByteArray) : Bool := inB s.size 1 8 && s.data.toList.all fun c => okByte c.toNat
def lessB (a b : ByteArray) : Bool := Op.bytesLess a.toList b.toList
def visitB (v : Visit) : Bool := nameB v.f0 && inB v.f1 0 200 && inB v.f2 1 30
/-- Each two that follow each other are so related. -/
def linkB {α : Type} (rel : α → α → Bool) : List α → Bool
  | [] => true
  | [_] => true
  | u :: v :: r => rel u v && linkB rel (v :: r)
/-- No visit begins ahead of the end of the one before it. -/
def apartB (u v : Visit) : Bool := decide (u.f1 + u.f2 ≤ v.f1)
def byName (a b : Flight) : Bool := lessB a.f0 b.f0
def bySector (a b : Cap) : Bool := lessB a.f0 b.f0
def visitsB (l : List Visit) : Bool := inB l.length 1 5 && l.all visitB && linkB apartB l
def flightB (f : Flight) : Bool := nameB f.f0 && inB f.f1 0 10000 && inB f.f2 0 60 && visitsB f.f3
def flightsB (l : List Flight) : Bool := decide (l.length ≤ 8) && l.all flightB && linkB byName l
def capB (c : Cap) : Bool := nameB c.f0 && inB c.f1 0 20
def capsB (l : List Cap) : Bool := decide (l.length ≤ 6) && l.all capB && linkB bySector l
def slotsB (list : List Flight) (slots : List Int) : Bool := flightsB list && decide (slots.length = list.length) && slots.all fun s => inB s (-1) 10060
/-- By how much somebody is late; nobody without a slot is. -/
def delayOf (f : Flight) (s : Int) : Int := if 0 ≤ s then s - f.f1 else 0
def delayTo (l : List Flight) (s : List Int) (k : Nat) : Int := ((l.zip s).take k).foldl (fun n p => n + delayOf p.1 p.2) 0
def delayN (l : List Flight) (s : List Int) : Int := if slotsB l s = true then delayTo l s l.length else 0
end Core
end Go.Proofs.Ytkfoeplefajkcaa
end

/- Plain laws on the lists of the core: what is checked place by place. -/
section
namespace Go.Proofs.Ytkfoeplefajkcaa
namespace Core

/-- From some place on: each is ok and stands to the one before it as it should. -/
def goB {α : Type} (ok : α → Bool) (rel : α → α → Bool) : Option α → List α → Bool
  | _, [] => true
  | none, x :: r => ok x && goB ok rel (some x) r
  | some p, x :: r => (ok x && rel p x) && goB ok rel (some x) r
def fromB {α : Type} (ok : α → Bool) (rel : α → α → Bool) (l : List α) (k : Nat) : Bool := goB ok rel (if k = 0 then none else l[k - 1]?) (l.drop k)
theorem goB_some {α : Type} (ok : α → Bool) (rel : α → α → Bool) : ∀ (l : List α) (p : α), goB ok rel (some p) l = (l.all ok && linkB rel (p :: l))
  | [], p => rfl
  | x :: r, p => by
    have ih := goB_some ok rel r x
    simp only [goB, ih, List.all_cons, linkB]
    cases ok x <;> cases rel p x <;> simp
theorem goB_none {α : Type} (ok : α → Bool) (rel : α → α → Bool) (l : List α) : goB ok rel none l = (l.all ok && linkB rel l) := by
  cases l with
  | nil => rfl
  | cons x r => simp only [goB, goB_some, List.all_cons, Bool.and_assoc]
theorem fromB_zero {α : Type} (ok : α → Bool) (rel : α → α → Bool) (l : List α) : fromB ok rel l 0 = (l.all ok && linkB rel l) := by
  simp [fromB, goB_none]
theorem fromB_end {α : Type} (ok : α → Bool) (rel : α → α → Bool) (l : List α) (k : Nat) (h : l.length ≤ k) : fromB ok rel l k = true := by
  unfold fromB
  rw [List.drop_of_length_le h]
  cases (if k = 0 then none else l[k - 1]?) <;> rfl
theorem fromB_first {α : Type} (ok : α → Bool) (rel : α → α → Bool) (l : List α) (x : α) (h : l[0]? = some x) : fromB ok rel l 0 = (ok x && fromB ok rel l 1) := by
  cases l with
  | nil => simp at h
  | cons y r =>
    obtain rfl : y = x := by simpa using h
    simp [fromB, goB]
theorem fromB_next {α : Type} (ok : α → Bool) (rel : α → α → Bool) (l : List α) (k : Nat) (p x : α) (hp : l[k]? = some p) (h : l[k + 1]? = some x) : fromB ok rel l (k + 1) = ((ok x && rel p x) && fromB ok rel l (k + 2)) := by
  have hk : k + 1 < l.length := by
    rcases Nat.lt_or_ge (k + 1) l.length with h1 | h1
    · exact h1
    · rw [List.getElem?_eq_none h1] at h; cases h
  have e : l.drop (k + 1) = x :: l.drop (k + 2) := by
    rw [List.drop_eq_getElem_cons hk]
    rw [List.getElem?_eq_getElem hk] at h
    rw [Option.some.inj h]
  unfold fromB
  rw [if_neg (by omega), if_neg (by omega), e]
  simp only [Nat.add_sub_cancel, hp, goB, show k + 2 - 1 = k + 1 from rfl, h]
theorem fromB_bad {α : Type} (ok : α → Bool) (rel : α → α → Bool) (l : List α) (k : Nat) (x : α) (h : l[k]? = some x) (hx : ok x = false) : fromB ok rel l k = false := by
  cases k with
  | zero => rw [fromB_first _ _ _ _ h, hx]; rfl
  | succ k =>
    have hk : k + 1 < l.length := by
      rcases Nat.lt_or_ge (k + 1) l.length with h1 | h1
      · exact h1
      · rw [List.getElem?_eq_none h1] at h; cases h
    rw [fromB_next _ _ _ _ _ _ (List.getElem?_eq_getElem (by omega : k < l.length)) h, hx]; rfl
theorem fromB_bad2 {α : Type} (ok : α → Bool) (rel : α → α → Bool) (l : List α) (k : Nat) (p x : α) (hp : l[k]? = some p) (h : l[k + 1]? = some x) (hx : rel p x = false) : fromB ok rel l (k + 1) = false := by
  rw [fromB_next _ _ _ _ _ _ hp h, hx, Bool.and_false]; rfl
theorem fromB_good0 {α : Type} (ok : α → Bool) (rel : α → α → Bool) (l : List α) (k : Nat) (x : α) (hk : k = 0) (h : l[k]? = some x) (hx : ok x = true) : fromB ok rel l (k + 1) = fromB ok rel l k := by
  subst hk
  rw [fromB_first _ _ _ _ h, hx]; rfl
theorem fromB_good {α : Type} (ok : α → Bool) (rel : α → α → Bool) (l : List α) (k : Nat) (p x : α) (hp : l[k]? = some p) (h : l[k + 1]? = some x) (hx : ok x = true) (hl : rel p x = true) : fromB ok rel l (k + 1 + 1) = fromB ok rel l (k + 1) := by
  rw [fromB_next _ _ _ _ _ _ hp h, hx, hl]; rfl
theorem some_lt {α : Type} {l : List α} {k : Nat} {x : α} (h : l[k]? = some x) : k < l.length := by
  rcases Nat.lt_or_ge k l.length with h1 | h1
  · exact h1
  · rw [List.getElem?_eq_none h1] at h; cases h
theorem flightB_parts {f : Flight} (h : flightB f = true) : nameB f.f0 = true ∧ 0 ≤ f.f1 ∧ f.f1 ≤ 10000 ∧ 0 ≤ f.f2 ∧ f.f2 ≤ 60 ∧ visitsB f.f3 = true := by
  simp only [flightB, inB, Bool.and_eq_true, decide_eq_true_eq] at h
  exact ⟨h.1.1.1, h.1.1.2.1, h.1.1.2.2, h.1.2.1, h.1.2.2, h.2⟩
theorem flightsB_parts {l : List Flight} (h : flightsB l = true) : l.length ≤ 8 ∧ (∀ f ∈ l, flightB f = true) ∧ linkB byName l = true := by
  simp only [flightsB, Bool.and_eq_true, decide_eq_true_eq, List.all_eq_true] at h
  exact ⟨h.1.1, h.1.2, h.2⟩
theorem slotsB_parts {l : List Flight} {s : List Int} (h : slotsB l s = true) : flightsB l = true ∧ s.length = l.length ∧ ∀ x ∈ s, -1 ≤ x ∧ x ≤ 10060 := by
  simp only [slotsB, inB, Bool.and_eq_true, decide_eq_true_eq, List.all_eq_true] at h
  exact ⟨h.1.1, h.1.2, h.2⟩
theorem slotsB_at {l : List Flight} {s : List Int} (h : slotsB l s = true) {k : Nat} {f : Flight} {x : Int} (hf : l[k]? = some f) (hx : s[k]? = some x) : -1 ≤ x ∧ x ≤ 10060 ∧ 0 ≤ f.f1 ∧ f.f1 ≤ 10000 := by
  obtain ⟨h1, h2, h3⟩ := slotsB_parts h
  have h4 := h3 x (List.mem_of_getElem? hx)
  have h5 := flightB_parts ((flightsB_parts h1).2.1 f (List.mem_of_getElem? hf))
  exact ⟨h4.1, h4.2, h5.2.1, h5.2.2.1⟩
theorem delayTo_zero (l : List Flight) (s : List Int) : delayTo l s 0 = 0 := rfl
theorem delayTo_step {l : List Flight} {s : List Int} {k : Nat} {f : Flight} {x : Int} (hf : l[k]? = some f) (hx : s[k]? = some x) : delayTo l s (k + 1) = delayTo l s k + delayOf f x := by
  have hz : (l.zip s)[k]? = some (f, x) := by rw [List.getElem?_zip_eq_some]; exact ⟨hf, hx⟩
  unfold delayTo
  rw [List.take_add_one, hz]
  simp [List.foldl_append]
end Core
end Go.Proofs.Ytkfoeplefajkcaa
end

/- Plain laws on loads: who is in a sector at a tick, counted by visits and by flights. -/
section
namespace Go.Proofs.Ytkfoeplefajkcaa
namespace Core

def coversB (slot : Int) (sec : ByteArray) (t : Int) (v : Visit) : Bool := decide (v.f0 = sec) && inB t (slot + v.f1) (slot + v.f1 + v.f2 - 1)
def hasB (slot : Int) (sec : ByteArray) (t : Int) (vs : List Visit) : Bool := vs.any (coversB slot sec t)
def cntV (slot : Int) (sec : ByteArray) (t : Int) (vs : List Visit) : Nat := vs.countP (coversB slot sec t)
def cntP (sec : ByteArray) (t : Int) (p : Flight × Int) : Nat := if 0 ≤ p.2 then cntV p.2 sec t p.1.f3 else 0
def onP (sec : ByteArray) (t : Int) (p : Flight × Int) : Bool := decide (0 ≤ p.2) && hasB p.2 sec t p.1.f3
/-- The visits of a sector at a tick. -/
def cntTo (l : List Flight) (s : List Int) (sec : ByteArray) (t : Int) (k : Nat) : Nat := (((l.zip s).take k).map (cntP sec t)).sum
/-- The flights in a sector at a tick. -/
def loadTo (l : List Flight) (s : List Int) (sec : ByteArray) (t : Int) (k : Nat) : Nat := ((l.zip s).take k).countP (onP sec t)
def loadN (l : List Flight) (s : List Int) (sec : ByteArray) (t : Int) : Int := if slotsB l s = true then (loadTo l s sec t l.length : Int) else 0

theorem zip_at {l : List Flight} {s : List Int} {k : Nat} {f : Flight} {x : Int} (hf : l[k]? = some f) (hx : s[k]? = some x) : (l.zip s)[k]? = some (f, x) := by
  rw [List.getElem?_zip_eq_some]; exact ⟨hf, hx⟩
theorem cntTo_zero (l : List Flight) (s : List Int) (sec : ByteArray) (t : Int) : cntTo l s sec t 0 = 0 := by simp [cntTo]
theorem loadTo_zero (l : List Flight) (s : List Int) (sec : ByteArray) (t : Int) : loadTo l s sec t 0 = 0 := by simp [loadTo]
theorem cntTo_step {l : List Flight} {s : List Int} {k : Nat} {f : Flight} {x : Int} (hf : l[k]? = some f) (hx : s[k]? = some x) (sec : ByteArray) (t : Int) : cntTo l s sec t (k + 1) = cntTo l s sec t k + cntP sec t (f, x) := by
  unfold cntTo
  rw [List.take_add_one, zip_at hf hx]
  simp
theorem loadTo_step {l : List Flight} {s : List Int} {k : Nat} {f : Flight} {x : Int} (hf : l[k]? = some f) (hx : s[k]? = some x) (sec : ByteArray) (t : Int) : loadTo l s sec t (k + 1) = loadTo l s sec t k + (if onP sec t (f, x) then 1 else 0) := by
  unfold loadTo
  rw [List.take_add_one, zip_at hf hx]
  simp [List.countP_append, List.countP_cons]
theorem loadTo_le (l : List Flight) (s : List Int) (sec : ByteArray) (t : Int) (k : Nat) : loadTo l s sec t k ≤ k := by
  have h1 : ((l.zip s).take k).countP (onP sec t) ≤ ((l.zip s).take k).length := List.countP_le_length
  have h2 : ((l.zip s).take k).length ≤ k := by simp; omega
  unfold loadTo
  omega
theorem cntV_zero (x : Int) (sec : ByteArray) (t : Int) (vs : List Visit) : cntV x sec t (vs.take 0) = 0 := by simp [cntV]
theorem cntV_step {vs : List Visit} {k : Nat} {v : Visit} (h : vs[k]? = some v) (x : Int) (sec : ByteArray) (t : Int) : cntV x sec t (vs.take (k + 1)) = cntV x sec t (vs.take k) + (if coversB x sec t v then 1 else 0) := by
  unfold cntV
  rw [List.take_add_one, h]
  simp [List.countP_append, List.countP_cons]

/-- In a row of visits that do not overlap, each that comes later begins behind the end of the first. -/
theorem apart_all : ∀ (r : List Visit) (v : Visit), linkB apartB (v :: r) = true → (∀ u ∈ r, 1 ≤ u.f2) → ∀ u ∈ r, v.f1 + v.f2 ≤ u.f1
  | [], _, _, _, _, hu => by cases hu
  | y :: r, v, h, hp, u, hu => by
    simp only [linkB, Bool.and_eq_true] at h
    have h1 : v.f1 + v.f2 ≤ y.f1 := by simpa [apartB] using h.1
    rcases List.mem_cons.1 hu with rfl | hu'
    · exact h1
    · have h2 := apart_all r y h.2 (fun u hu => hp u (List.mem_cons_of_mem _ hu)) u hu'
      have h3 := hp y (List.mem_cons_self ..)
      omega
theorem visitB_stay {v : Visit} (h : visitB v = true) : 0 ≤ v.f1 ∧ v.f1 ≤ 200 ∧ 1 ≤ v.f2 ∧ v.f2 ≤ 30 := by
  simp only [visitB, inB, Bool.and_eq_true, decide_eq_true_eq] at h
  exact ⟨h.1.2.1, h.1.2.2, h.2.1, h.2.2⟩
theorem cnt_one : ∀ (vs : List Visit) (x : Int) (sec : ByteArray) (t : Int), linkB apartB vs = true → (∀ v ∈ vs, visitB v = true) → cntV x sec t vs = if hasB x sec t vs then 1 else 0
  | [], _, _, _, _, _ => rfl
  | v :: r, x, sec, t, h, hv => by
    have hl : linkB apartB r = true := by
      cases r with
      | nil => rfl
      | cons y r => simp only [linkB, Bool.and_eq_true] at h; exact h.2
    have ih := cnt_one r x sec t hl (fun u hu => hv u (List.mem_cons_of_mem _ hu))
    unfold cntV hasB at ih ⊢
    rw [List.countP_cons, List.any_cons]
    cases hc : coversB x sec t v with
    | false => simpa using ih
    | true =>
      have hap := apart_all r v h (fun u hu => (visitB_stay (hv u (List.mem_cons_of_mem _ hu))).2.2.1)
      have hz : r.countP (coversB x sec t) = 0 := by
        rw [List.countP_eq_zero]
        intro u hu hcu
        have h1 := hap u hu
        simp only [coversB, inB, Bool.and_eq_true, decide_eq_true_eq] at hc hcu
        omega
      rw [hz]
      simp
theorem visitsB_parts {l : List Visit} (h : visitsB l = true) : 1 ≤ l.length ∧ l.length ≤ 5 ∧ (∀ v ∈ l, visitB v = true) ∧ linkB apartB l = true := by
  simp only [visitsB, inB, Bool.and_eq_true, decide_eq_true_eq, List.all_eq_true] at h
  exact ⟨by omega, by omega, h.1.2, h.2⟩
theorem cntP_on {f : Flight} (h : flightB f = true) (x : Int) (sec : ByteArray) (t : Int) : cntP sec t (f, x) = if onP sec t (f, x) then 1 else 0 := by
  have hv := visitsB_parts (flightB_parts h).2.2.2.2.2
  unfold cntP onP
  by_cases hx : 0 ≤ x
  · simp only [hx, if_true, decide_true, Bool.true_and]
    exact cnt_one _ _ _ _ hv.2.2.2 hv.2.2.1
  · simp [hx]
theorem cnt_load {l : List Flight} (h : ∀ f ∈ l, flightB f = true) (s : List Int) (sec : ByteArray) (t : Int) : ∀ k, cntTo l s sec t k = loadTo l s sec t k
  | 0 => by rw [cntTo_zero, loadTo_zero]
  | k + 1 => by
    have ih := cnt_load h s sec t k
    cases hz : (l.zip s)[k]? with
    | none =>
      unfold cntTo loadTo at ih ⊢
      rw [List.take_add_one, hz]
      simpa using ih
    | some p =>
      obtain ⟨f, x⟩ := p
      obtain ⟨hf, hx⟩ := List.getElem?_zip_eq_some.1 hz
      rw [cntTo_step hf hx, loadTo_step hf hx, ih, cntP_on (h f (List.mem_of_getElem? hf))]
end Core
end Go.Proofs.Ytkfoeplefajkcaa
end

/- Plain laws on what fits: a load above a cap is met where some visit begins. -/
section
namespace Go.Proofs.Ytkfoeplefajkcaa
namespace Core

def fullV (c : Cap) (l : List Flight) (s : List Int) (x : Int) (v : Visit) : Bool := decide (v.f0 = c.f0) && decide (c.f1 < (loadTo l s c.f0 (x + v.f1) l.length : Int))
def fullP (c : Cap) (l : List Flight) (s : List Int) (p : Flight × Int) : Bool := decide (0 ≤ p.2) && p.1.f3.any (fullV c l s p.2)
/-- A sector has more than it can guide where some visit begins. -/
def fullB (c : Cap) (l : List Flight) (s : List Int) : Bool := (l.zip s).any (fullP c l s)
def noneFull (caps : List Cap) (l : List Flight) (s : List Int) : Bool := caps.all fun c => !fullB c l s
def timeP (p : Flight × Int) : Bool := !decide (0 ≤ p.2) || inB p.2 p.1.f1 (p.1.f1 + p.1.f2)
def timeB (l : List Flight) (s : List Int) : Bool := (l.zip s).all timeP
def fitsB (caps : List Cap) (l : List Flight) (s : List Int) : Bool := capsB caps && slotsB l s && timeB l s && noneFull caps l s

theorem covers_back {x t : Int} {sec : ByteArray} {v : Visit} (h : coversB x sec t v = true) (hn : x + v.f1 ≠ t) : coversB x sec (t - 1) v = true := by
  simp only [coversB, inB, Bool.and_eq_true, decide_eq_true_eq] at h ⊢
  exact ⟨h.1, by omega, by omega⟩
theorem countP_mono' {α : Type} {p q : α → Bool} : ∀ (l : List α), (∀ x ∈ l, p x = true → q x = true) → l.countP p ≤ l.countP q
  | [], _ => Nat.le_refl _
  | a :: r, h => by
    have ih := countP_mono' r (fun x hx => h x (List.mem_cons_of_mem _ hx))
    rw [List.countP_cons, List.countP_cons]
    cases hp : p a with
    | false => simp; omega
    | true => rw [h a (List.mem_cons_self ..) hp]; simp; omega
theorem loadTo_all (l : List Flight) (s : List Int) (sec : ByteArray) (t : Int) : loadTo l s sec t l.length = (l.zip s).countP (onP sec t) := by
  unfold loadTo
  rw [List.take_of_length_le (by simp; omega)]
/-- From a tick with too many one comes down to one where somebody comes in. -/
theorem full_down {l : List Flight} {s : List Int} (hs : slotsB l s = true) (c : Cap) (hc : 0 ≤ c.f1) : ∀ (n : Nat) (t : Int), t < n → c.f1 < (loadTo l s c.f0 t l.length : Int) → fullB c l s = true := by
  have hfs := (flightsB_parts (slotsB_parts hs).1).2.1
  have hpos : ∀ p ∈ l.zip s, ∀ t, onP c.f0 t p = true → 0 ≤ t := by
    rintro ⟨f, x⟩ hp t h
    have hv := (visitsB_parts (flightB_parts (hfs f (List.of_mem_zip hp).1)).2.2.2.2.2).2.2.1
    simp only [onP, hasB, Bool.and_eq_true, decide_eq_true_eq, List.any_eq_true] at h
    obtain ⟨h0, v, hvm, hcov⟩ := h
    have h1 := visitB_stay (hv v hvm)
    simp only [coversB, inB, Bool.and_eq_true, decide_eq_true_eq] at hcov
    omega
  intro n
  induction n with
  | zero =>
    intro t ht h
    rw [loadTo_all] at h
    have h1 : 0 < (l.zip s).countP (onP c.f0 t) := by omega
    obtain ⟨p, hp, hon⟩ := List.countP_pos_iff.1 h1
    have := hpos p hp t hon
    omega
  | succ n ih =>
    intro t ht h
    by_cases hstart : ∃ p ∈ l.zip s, 0 ≤ p.2 ∧ ∃ v ∈ p.1.f3, v.f0 = c.f0 ∧ p.2 + v.f1 = t
    · obtain ⟨p, hp, h0, v, hv, hsec, rfl⟩ := hstart
      unfold fullB
      refine List.any_eq_true.2 ⟨p, hp, ?_⟩
      simp only [fullP, Bool.and_eq_true, decide_eq_true_eq, List.any_eq_true]
      exact ⟨h0, v, hv, by simp only [fullV, Bool.and_eq_true, decide_eq_true_eq]; exact ⟨hsec, h⟩⟩
    · refine ih (t - 1) (by omega) ?_
      have hm : loadTo l s c.f0 t l.length ≤ loadTo l s c.f0 (t - 1) l.length := by
        rw [loadTo_all, loadTo_all]
        refine countP_mono' _ fun p hp hon => ?_
        simp only [onP, hasB, Bool.and_eq_true, decide_eq_true_eq, List.any_eq_true] at hon ⊢
        obtain ⟨h0, v, hv, hcov⟩ := hon
        refine ⟨h0, v, hv, covers_back hcov fun e => hstart ⟨p, hp, h0, v, hv, ?_, e⟩⟩
        simp only [coversB, Bool.and_eq_true, decide_eq_true_eq] at hcov
        exact hcov.1
      omega
theorem full_of_over {l : List Flight} {s : List Int} (hs : slotsB l s = true) (c : Cap) (hc : 0 ≤ c.f1) (t : Int) (h : c.f1 < (cntTo l s c.f0 t l.length : Int)) : fullB c l s = true := by
  rw [cnt_load (flightsB_parts (slotsB_parts hs).1).2.1] at h
  exact full_down hs c hc (t.toNat + 1) t (by omega) h
theorem not_full {l : List Flight} {s : List Int} (hs : slotsB l s = true) (c : Cap) (h : ∀ t : Int, (cntTo l s c.f0 t l.length : Int) ≤ c.f1) : fullB c l s = false := by
  rw [Bool.eq_false_iff]
  intro hf
  obtain ⟨p, hp, h1⟩ := List.any_eq_true.1 hf
  simp only [fullP, Bool.and_eq_true, decide_eq_true_eq, List.any_eq_true] at h1
  obtain ⟨_, v, _, h2⟩ := h1
  simp only [fullV, Bool.and_eq_true, decide_eq_true_eq] at h2
  have := h (p.2 + v.f1)
  rw [cnt_load (flightsB_parts (slotsB_parts hs).1).2.1] at this
  omega

theorem noneFull_step {caps : List Cap} {k : Nat} {c : Cap} (h : caps[k]? = some c) (l : List Flight) (s : List Int) : noneFull (caps.drop k) l s = (!fullB c l s && noneFull (caps.drop (k + 1)) l s) := by
  have hk := some_lt h
  unfold noneFull
  rw [List.drop_eq_getElem_cons hk, List.all_cons]
  rw [List.getElem?_eq_getElem hk] at h
  rw [Option.some.inj h]
theorem timeB_step {l : List Flight} {s : List Int} {k : Nat} {f : Flight} {x : Int} (hf : l[k]? = some f) (hx : s[k]? = some x) : ((l.zip s).drop k).all timeP = (timeP (f, x) && ((l.zip s).drop (k + 1)).all timeP) := by
  have h := zip_at hf hx
  have hk := some_lt h
  rw [List.drop_eq_getElem_cons hk, List.all_cons]
  rw [List.getElem?_eq_getElem hk] at h
  rw [Option.some.inj h]
theorem fullB_step {c : Cap} {l : List Flight} {s : List Int} {k : Nat} {f : Flight} {x : Int} (hf : l[k]? = some f) (hx : s[k]? = some x) : ((l.zip s).drop k).any (fullP c l s) = (fullP c l s (f, x) || ((l.zip s).drop (k + 1)).any (fullP c l s)) := by
  have h := zip_at hf hx
  have hk := some_lt h
  rw [List.drop_eq_getElem_cons hk, List.any_cons]
  rw [List.getElem?_eq_getElem hk] at h
  rw [Option.some.inj h]
theorem fullV_step {c : Cap} {l : List Flight} {s : List Int} {x : Int} {vs : List Visit} {k : Nat} {v : Visit} (h : vs[k]? = some v) : (vs.drop k).any (fullV c l s x) = (fullV c l s x v || (vs.drop (k + 1)).any (fullV c l s x)) := by
  have hk := some_lt h
  rw [List.drop_eq_getElem_cons hk, List.any_cons]
  rw [List.getElem?_eq_getElem hk] at h
  rw [Option.some.inj h]
theorem capsB_parts {l : List Cap} (h : capsB l = true) : l.length ≤ 6 ∧ (∀ c ∈ l, capB c = true) ∧ linkB bySector l = true := by
  simp only [capsB, Bool.and_eq_true, decide_eq_true_eq, List.all_eq_true] at h
  exact ⟨h.1.1, h.1.2, h.2⟩
theorem capB_parts {c : Cap} (h : capB c = true) : nameB c.f0 = true ∧ 0 ≤ c.f1 ∧ c.f1 ≤ 20 := by
  simp only [capB, inB, Bool.and_eq_true, decide_eq_true_eq] at h
  exact ⟨h.1, h.2.1, h.2.2⟩
theorem drop_all_end {α : Type} (l : List α) (p : α → Bool) (k : Nat) (h : l.length ≤ k) : (l.drop k).all p = true := by rw [List.drop_of_length_le h]; rfl
end Core
end Go.Proofs.Ytkfoeplefajkcaa
end

/- Plain laws on the least slot that fits. -/
section
namespace Go.Proofs.Ytkfoeplefajkcaa
namespace Core

/-- The first of n numbers from t on of which p holds; -1 if it holds of none. -/
def searchN (p : Int → Bool) (t : Int) : Nat → Int
  | 0 => -1
  | n + 1 => if p t = true then t else searchN p (t + 1) n
def leastN (caps : List Cap) (l : List Flight) (s : List Int) (k : Nat) (f : Flight) : Int := searchN (fun t => noneFull caps l (s.set k t)) f.f1 (f.f2.toNat + 1)
def leastAt (caps : List Cap) (l : List Flight) (s : List Int) (k : Nat) : Int := leastN caps l s k (l.getD k default)
theorem search_hit {p : Int → Bool} {t : Int} (h : p t = true) (n : Nat) : searchN p t (n + 1) = t := by simp [searchN, h]
theorem search_miss {p : Int → Bool} {t : Int} (h : p t = false) (n : Nat) : searchN p t (n + 1) = searchN p (t + 1) n := by simp [searchN, h]
theorem slots_set {l : List Flight} {s : List Int} (h : slotsB l s = true) (k : Nat) {t : Int} (h0 : -1 ≤ t) (h1 : t ≤ 10060) : slotsB l (s.set k t) = true := by
  obtain ⟨a, b, c⟩ := slotsB_parts h
  simp only [slotsB, inB, Bool.and_eq_true, decide_eq_true_eq, List.all_eq_true]
  refine ⟨⟨a, by simpa using b⟩, fun x hx => ?_⟩
  rcases List.mem_or_eq_of_mem_set hx with h2 | rfl
  · exact c x h2
  · exact ⟨h0, h1⟩
theorem time_set {l : List Flight} {s : List Int} (h : timeB l s = true) (k : Nat) {f : Flight} (hf : l[k]? = some f) {t : Int} (h0 : inB t f.f1 (f.f1 + f.f2) = true) : timeB l (s.set k t) = true := by
  unfold timeB at h ⊢
  rw [List.all_eq_true] at h ⊢
  intro p hp
  obtain ⟨i, hi⟩ := List.getElem?_of_mem hp
  obtain ⟨g, x⟩ := p
  obtain ⟨h1, h2⟩ := List.getElem?_zip_eq_some.1 hi
  by_cases hik : k = i
  · subst hik
    simp only at h1 h2
    rw [hf] at h1
    obtain rfl := Option.some.inj h1
    have hk : k < s.length := by
      have := some_lt h2
      simpa using this
    rw [List.getElem?_set_self hk] at h2
    obtain rfl := Option.some.inj h2
    simp [timeP, h0]
  · simp only at h1 h2
    rw [List.getElem?_set_ne hik] at h2
    exact h (g, x) (List.mem_of_getElem? (zip_at h1 h2))
theorem fits_set {caps : List Cap} {l : List Flight} {s : List Int} (hc : capsB caps = true) (hs : slotsB l s = true) (ht : timeB l s = true) (k : Nat) {f : Flight} (hf : l[k]? = some f) {t : Int} (h0 : f.f1 ≤ t) (h1 : t ≤ f.f1 + f.f2) : fitsB caps l (s.set k t) = noneFull caps l (s.set k t) := by
  obtain ⟨a, _, _⟩ := slotsB_parts hs
  have b := flightB_parts ((flightsB_parts a).2.1 f (List.mem_of_getElem? hf))
  unfold fitsB
  rw [hc, slots_set hs k (by omega) (by omega), time_set ht k hf (by simp [inB]; omega)]
  rfl
theorem fitsB_parts {caps : List Cap} {l : List Flight} {s : List Int} (h : fitsB caps l s = true) : capsB caps = true ∧ slotsB l s = true ∧ timeB l s = true ∧ noneFull caps l s = true := by
  simp only [fitsB, Bool.and_eq_true] at h
  exact ⟨h.1.1.1, h.1.1.2, h.1.2, h.2⟩
/-- FlowLeast: the place may be outside. -/
def leastB (caps : List Cap) (l : List Flight) (s : List Int) (k : Int) : Int := if fitsB caps l s = true ∧ 0 ≤ k ∧ k < l.length then leastAt caps l s k.toNat else -1
theorem leastAt_some {caps : List Cap} {l : List Flight} {s : List Int} {k : Nat} {f : Flight} (h : l[k]? = some f) : leastAt caps l s k = leastN caps l s k f := by
  unfold leastAt
  rw [List.getD_eq_getElem?_getD, h]
  rfl
end Core
end Go.Proofs.Ytkfoeplefajkcaa
end

/- Plain laws on the bound: first entries into a sector, sorted; two ways to let them in. -/
section
namespace Go.Proofs.Ytkfoeplefajkcaa
namespace Core

/-- When a flight is first in a sector, by when it is planned; -1 if it never is. -/
def firstOf (p : Int) (sec : ByteArray) : List Visit → Int
  | [] => -1
  | v :: r => if v.f0 = sec then p + v.f1 else firstOf p sec r
/-- Laid behind all that are no greater. -/
def insI (t : Int) : List Int → List Int
  | [] => [t]
  | x :: r => if x ≤ t then x :: insI t r else t :: x :: r
/-- How many from the head on are no greater. -/
def cntI (t : Int) : List Int → Nat
  | [] => 0
  | x :: r => if x ≤ t then cntI t r + 1 else 0
theorem cntI_le (t : Int) : ∀ l, cntI t l ≤ l.length
  | [] => Nat.le_refl _
  | x :: r => by
    have := cntI_le t r
    unfold cntI
    split <;> simp <;> omega
theorem insI_eq (t : Int) : ∀ l, insI t l = l.take (cntI t l) ++ [t] ++ l.drop (cntI t l)
  | [] => rfl
  | x :: r => by
    have ih := insI_eq t r
    unfold insI cntI
    split
    · rw [ih]; simp
    · simp
theorem insI_length (t : Int) (l : List Int) : (insI t l).length = l.length + 1 := by
  rw [insI_eq]
  have := cntI_le t l
  simp
  omega
theorem insI_perm (t : Int) (l : List Int) : (insI t l).Perm (t :: l) := by
  rw [insI_eq, List.append_assoc]
  have h := List.perm_middle (l₁ := l.take (cntI t l)) (l₂ := l.drop (cntI t l)) (a := t)
  rwa [List.take_append_drop] at h
theorem insI_sorted (t : Int) : ∀ l : List Int, l.Pairwise (· ≤ ·) → (insI t l).Pairwise (· ≤ ·)
  | [], _ => by simp [insI]
  | x :: r, h => by
    obtain ⟨h1, h2⟩ := List.pairwise_cons.1 h
    unfold insI
    split
    · rename_i hx
      refine List.pairwise_cons.2 ⟨fun y hy => ?_, insI_sorted t r h2⟩
      rcases List.mem_cons.1 ((insI_perm t r).mem_iff.1 hy) with rfl | hy
      · exact hx
      · exact h1 y hy
    · rename_i hx
      refine List.pairwise_cons.2 ⟨fun y hy => ?_, h⟩
      rcases List.mem_cons.1 hy with rfl | hy
      · omega
      · have := h1 y hy; omega
theorem cnt_while {t : Int} {l : List Int} {k : Nat} (h : k ≤ cntI t l) (hk : k < l.length) : (l[k]'hk ≤ t) ↔ k < cntI t l := by
  induction l generalizing k with
  | nil => simp at hk
  | cons x r ih =>
    unfold cntI at h ⊢
    cases k with
    | zero =>
      simp only [List.getElem_cons_zero]
      split <;> simp_all
    | succ k =>
      by_cases hx : x ≤ t
      · simp only [hx, if_true] at h ⊢
        simp only [List.getElem_cons_succ]
        rw [ih (by omega) (by simpa using hk)]
        omega
      · simp [hx] at h

/-- The first entries of the flights of a sector, in the flights' order. -/
def comesOf (sec : ByteArray) (l : List Flight) : List Int := (l.map fun f => firstOf f.f1 sec f.f3).filter fun t => decide (0 ≤ t)
def sortedTo (sec : ByteArray) (l : List Flight) (k : Nat) : List Int := (comesOf sec (l.take k)).foldl (fun a t => insI t a) []
theorem comes_step {l : List Flight} {k : Nat} {f : Flight} (h : l[k]? = some f) (sec : ByteArray) : comesOf sec (l.take (k + 1)) = comesOf sec (l.take k) ++ (if 0 ≤ firstOf f.f1 sec f.f3 then [firstOf f.f1 sec f.f3] else []) := by
  unfold comesOf
  rw [List.take_add_one, h]
  simp only [Option.toList_some, List.map_append, List.map_cons, List.map_nil, List.filter_append]
  congr 1
  by_cases hx : 0 ≤ firstOf f.f1 sec f.f3 <;> simp [hx]
theorem sorted_step {l : List Flight} {k : Nat} {f : Flight} (h : l[k]? = some f) (sec : ByteArray) : sortedTo sec l (k + 1) = if 0 ≤ firstOf f.f1 sec f.f3 then insI (firstOf f.f1 sec f.f3) (sortedTo sec l k) else sortedTo sec l k := by
  unfold sortedTo
  rw [comes_step h]
  by_cases hx : 0 ≤ firstOf f.f1 sec f.f3
  · simp [hx, List.foldl_append]
  · simp [hx]
theorem foldl_ins (xs : List Int) : ∀ acc : List Int, acc.Pairwise (· ≤ ·) → (xs.foldl (fun a t => insI t a) acc).Pairwise (· ≤ ·) ∧ (xs.foldl (fun a t => insI t a) acc).Perm (xs ++ acc) := by
  induction xs with
  | nil => intro acc h; exact ⟨h, List.Perm.refl _⟩
  | cons x r ih =>
    intro acc h
    have h1 := ih (insI x acc) (insI_sorted x acc h)
    refine ⟨h1.1, h1.2.trans ?_⟩
    have h2 := (insI_perm x acc).append_left r
    refine h2.trans ?_
    exact List.perm_middle
theorem sortedTo_spec (sec : ByteArray) (l : List Flight) : (sortedTo sec l l.length).Pairwise (· ≤ ·) ∧ (sortedTo sec l l.length).Perm (comesOf sec l) := by
  have h := foldl_ins (comesOf sec l) [] List.Pairwise.nil
  unfold sortedTo
  rw [List.take_length]
  exact ⟨h.1, by simpa using h.2⟩
theorem sorted_unique : ∀ (a b : List Int), a.Pairwise (· ≤ ·) → b.Pairwise (· ≤ ·) → a.Perm b → a = b := fun _ _ ha hb h => h.eq_of_pairwise (fun _ _ _ _ h1 h2 => Int.le_antisymm h1 h2) ha hb

/-! Each comes in at a tick of its own, or as many at one as can be guided: two ways to reckon it. -/
def giveT (c : Nat) (g : List Int) (t : Int) : Int := if c ≤ g.length ∧ t ≤ g.getD (g.length - c) 0 then g.getD (g.length - c) 0 + 1 else t
def runS (c : Nat) : List Int → List Int → Int → Int
  | [], _, s => s
  | t :: r, g, s => runS c r (g ++ [giveT c g t]) (s + giveT c g t - t)
def nowT (c now let_ t : Int) : Int × Int :=
  let p := if now < t then (t, 0) else (now, let_)
  if p.2 = c then (p.1 + 1, 1) else (p.1, p.2 + 1)
def runI (c : Int) : List Int → Int → Int → Int → Int
  | [], _, _, s => s
  | t :: r, now, let_, s => runI c r (nowT c now let_ t).1 (nowT c now let_ t).2 (s + ((nowT c now let_ t).1 - t))
/-- What both ways know of each other: the last 'n' given are 'now'; all ahead of them are less; and either nobody who comes is ahead of 'now', or c were given the tick ahead of it. -/
structure Same (c : Nat) (g : List Int) (now : Int) (n : Nat) (last : Int) : Prop where
  n1 : 1 ≤ n
  nc : n ≤ c
  ng : n ≤ g.length
  here : ∀ i, g.length - n ≤ i → i < g.length → g.getD i 0 = now
  less : ∀ i, i < g.length - n → g.getD i 0 < now
  why : now ≤ last ∨ (n + c ≤ g.length ∧ ∀ i, g.length - n - c ≤ i → i < g.length - n → g.getD i 0 = now - 1)
theorem getD_app_lt {g : List Int} {u : Int} {i : Nat} (h : i < g.length) : (g ++ [u]).getD i 0 = g.getD i 0 := by
  simp [List.getD, List.getElem?_append_left h]
theorem getD_app_eq {g : List Int} {u : Int} : (g ++ [u]).getD g.length 0 = u := by simp [List.getD]
theorem same_step {c : Nat} {g : List Int} {now last t : Int} {n : Nat} (hc : 1 ≤ c) (h : Same c g now n last) (ht : last ≤ t) :
    giveT c g t = (nowT c now n t).1 ∧ ∃ m : Nat, (nowT c now n t).2 = m ∧ Same c (g ++ [giveT c g t]) (nowT c now n t).1 m t := by
  obtain ⟨n1, nc, ng, here, less, why⟩ := h
  have hle : ∀ i, i < g.length → g.getD i 0 ≤ now := fun i hi => by
    rcases Nat.lt_or_ge i (g.length - n) with h1 | h1
    · exact Int.le_of_lt (less i h1)
    · exact Int.le_of_eq (here i h1 hi)
  have hL : (g ++ [giveT c g t]).length = g.length + 1 := by simp
  by_cases h1 : now < t
  · have hg : giveT c g t = t := by
      unfold giveT
      rw [if_neg]
      rintro ⟨h2, h3⟩
      have := hle (g.length - c) (by omega)
      omega
    have hn : nowT c now n t = (t, 1) := by
      unfold nowT
      simp only [h1, if_true]
      rw [if_neg (by omega)]
      rfl
    rw [hn]
    refine ⟨hg, 1, rfl, ⟨Nat.le_refl _, hc, by rw [hL]; omega, fun i h2 h3 => ?_, fun i h2 => ?_, .inl (Int.le_refl _)⟩⟩
    · rw [hL] at h2 h3
      obtain rfl : i = g.length := by omega
      rw [getD_app_eq, hg]
    · rw [hL] at h2
      rw [getD_app_lt (by omega)]
      have := hle i (by omega)
      show _ < t
      omega
  · by_cases h2 : n = c
    · have hlast : g.getD (g.length - c) 0 = now := here _ (by omega) (by omega)
      have hg : giveT c g t = now + 1 := by
        unfold giveT
        rw [if_pos ⟨by omega, by omega⟩, hlast]
      have hn : nowT c now n t = (now + 1, 1) := by
        unfold nowT
        simp only [h1, if_false]
        rw [if_pos (by omega)]
      rw [hn]
      refine ⟨hg, 1, rfl, ⟨Nat.le_refl _, hc, by rw [hL]; omega, fun i h3 h4 => ?_, fun i h3 => ?_, .inr ⟨by rw [hL]; omega, fun i h3 h4 => ?_⟩⟩⟩
      · rw [hL] at h3 h4
        obtain rfl : i = g.length := by omega
        rw [getD_app_eq, hg]
      · rw [hL] at h3
        rw [getD_app_lt (by omega)]
        have := hle i (by omega)
        show _ < now + 1
        omega
      · rw [hL] at h3 h4
        rw [getD_app_lt (by omega), here i (by omega) (by omega)]
        show now = now + 1 - 1
        omega
    · have hn : nowT c now n t = (now, (n : Int) + 1) := by
        unfold nowT
        simp only [h1, if_false]
        rw [if_neg (by omega)]
      have hg : giveT c g t = now := by
        unfold giveT
        rcases why with h3 | ⟨h3, h4⟩
        · have htn : t = now := by omega
          rw [if_neg]
          · exact htn
          · rintro ⟨h5, h6⟩
            have := less (g.length - c) (by omega)
            omega
        · have h5 := h4 (g.length - c) (by omega) (by omega)
          by_cases h6 : t ≤ now - 1
          · rw [if_pos ⟨by omega, by omega⟩, h5]; omega
          · rw [if_neg (by rintro ⟨_, h7⟩; omega)]; omega
      rw [hn]
      refine ⟨hg, n + 1, by simp, ⟨by omega, by omega, by rw [hL]; omega, fun i h3 h4 => ?_, fun i h3 => ?_, ?_⟩⟩
      · rw [hL] at h3 h4
        rcases Nat.lt_or_ge i g.length with h5 | h5
        · rw [getD_app_lt h5]; exact here i (by omega) h5
        · obtain rfl : i = g.length := by omega
          rw [getD_app_eq, hg]
      · rw [hL] at h3
        rw [getD_app_lt (by omega)]
        exact less i (by omega)
      · rcases why with h3 | ⟨h3, h4⟩
        · exact .inl (by show now ≤ t; omega)
        · refine .inr ⟨by rw [hL]; omega, fun i h5 h6 => ?_⟩
          rw [hL] at h5 h6
          rw [getD_app_lt (by omega)]
          exact h4 i (by omega) (by omega)
theorem run_same {c : Nat} (hc : 1 ≤ c) : ∀ (r : List Int) (g : List Int) (now : Int) (n : Nat) (last s : Int), Same c g now n last → (∀ t ∈ r, last ≤ t) → r.Pairwise (· ≤ ·) → runS c r g s = runI c r now n s
  | [], _, _, _, _, _, _, _, _ => rfl
  | t :: r, g, now, n, last, s, h, hl, hp => by
    obtain ⟨h1, h2⟩ := List.pairwise_cons.1 hp
    obtain ⟨e1, m, e2, h3⟩ := same_step hc h (hl t (List.mem_cons_self ..))
    unfold runS runI
    rw [e2, ← e1] at *
    rw [show s + giveT c g t - t = s + (giveT c g t - t) by omega]
    exact run_same hc r _ _ m t _ h3 h1 h2
theorem run_all {c : Nat} (hc : 1 ≤ c) (l : List Int) (h0 : ∀ t ∈ l, 0 ≤ t) (hp : l.Pairwise (· ≤ ·)) : runS c l [] 0 = runI c l (-1) 0 0 := by
  cases l with
  | nil => rfl
  | cons t r =>
    obtain ⟨h1, h2⟩ := List.pairwise_cons.1 hp
    have ht := h0 t (List.mem_cons_self ..)
    have hg : giveT c [] t = t := by unfold giveT; rw [if_neg]; rintro ⟨h, _⟩; simp at h; omega
    have hn : nowT c (-1) 0 t = (t, 1) := by
      unfold nowT
      simp only [show (-1 : Int) < t by omega, if_true]
      rw [if_neg (by omega)]
      rfl
    unfold runS runI
    rw [hg, hn]
    show runS c r [t] (0 + t - t) = runI c r t 1 (0 + (t - t))
    rw [show (0 : Int) + t - t = 0 + (t - t) by omega]
    refine run_same hc r [t] t 1 t _ ⟨Nat.le_refl _, hc, by simp, fun i h3 h4 => ?_, fun i h3 => ?_, .inl (Int.le_refl _)⟩ h1 h2
    · obtain rfl : i = 0 := by simp at h4; exact h4
      rfl
    · simp at h3
end Core
end Go.Proofs.Ytkfoeplefajkcaa
end

/- Plain laws on the order of names, and on caps found by name. -/
section
namespace Go.Proofs.Ytkfoeplefajkcaa
namespace Core

theorem bl_irrefl : ∀ x : List UInt8, Op.bytesLess x x = false
  | [] => rfl
  | a :: x => by
    have ih := bl_irrefl x
    simp only [Op.bytesLess, ih, Bool.and_false, Bool.or_false, decide_eq_false_iff_not]
    exact UInt8.lt_irrefl a
theorem bl_trans : ∀ x y z : List UInt8, Op.bytesLess x y = true → Op.bytesLess y z = true → Op.bytesLess x z = true
  | _, [], _, h, _ => by cases ‹List UInt8› <;> simp [Op.bytesLess] at h
  | _, _ :: _, [], _, h => by simp [Op.bytesLess] at h
  | [], _ :: _, _ :: _, _, _ => rfl
  | a :: x, b :: y, c :: z, h1, h2 => by
    have ih := bl_trans x y z
    simp only [Op.bytesLess, Bool.or_eq_true, Bool.and_eq_true, decide_eq_true_eq, beq_iff_eq, UInt8.lt_iff_toNat_lt] at h1 h2 ⊢
    rcases h1 with h1 | ⟨rfl, h1⟩
    · rcases h2 with h2 | ⟨rfl, h2⟩
      · exact .inl (by omega)
      · exact .inl h1
    · rcases h2 with h2 | ⟨rfl, h2⟩
      · exact .inl h2
      · exact .inr ⟨rfl, ih h1 h2⟩
theorem bl_total : ∀ x y : List UInt8, Op.bytesLess x y = false → Op.bytesLess y x = false → x = y
  | [], [], _, _ => rfl
  | [], _ :: _, h, _ => by simp [Op.bytesLess] at h
  | _ :: _, [], _, h => by simp [Op.bytesLess] at h
  | a :: x, b :: y, h1, h2 => by
    have ih := bl_total x y
    simp only [Op.bytesLess, Bool.or_eq_false_iff, Bool.and_eq_false_iff, decide_eq_false_iff_not, beq_eq_false_iff_ne, UInt8.lt_iff_toNat_lt] at h1 h2
    have hab : a = b := UInt8.toNat_inj.1 (by omega)
    subst hab
    rw [ih (by simpa using h1.2) (by simpa using h2.2)]
theorem less_irrefl (a : ByteArray) : lessB a a = false := bl_irrefl _
theorem less_trans {a b c : ByteArray} (h1 : lessB a b = true) (h2 : lessB b c = true) : lessB a c = true := bl_trans _ _ _ h1 h2
theorem less_ne {a b : ByteArray} (h : lessB a b = true) : a ≠ b := fun e => by rw [e, less_irrefl] at h; cases h
/-- Each that follows another in a row that rises is behind all that are ahead of it. -/
theorem link_pairwise {α : Type} (rel : α → α → Bool) (htr : ∀ a b c, rel a b = true → rel b c = true → rel a c = true) : ∀ l : List α, linkB rel l = true → l.Pairwise (fun a b => rel a b = true)
  | [], _ => List.Pairwise.nil
  | [x], _ => List.pairwise_singleton _ _
  | x :: y :: r, h => by
    simp only [linkB, Bool.and_eq_true] at h
    have ih := link_pairwise rel htr (y :: r) h.2
    refine List.pairwise_cons.2 ⟨fun z hz => ?_, ih⟩
    rcases List.mem_cons.1 hz with rfl | hz
    · exact h.1
    · exact htr _ _ _ h.1 ((List.pairwise_cons.1 ih).1 z hz)
theorem sectors_rise {l : List Cap} (h : capsB l = true) : l.Pairwise (fun a b => lessB a.f0 b.f0 = true) := by
  simp only [capsB, Bool.and_eq_true] at h
  exact link_pairwise bySector (fun a b c => less_trans) l h.2
theorem names_rise {l : List Flight} (h : flightsB l = true) : l.Pairwise (fun a b => lessB a.f0 b.f0 = true) := by
  simp only [flightsB, Bool.and_eq_true] at h
  exact link_pairwise byName (fun a b c => less_trans) l h.2

def capOf (sec : ByteArray) : List Cap → Int
  | [] => -1
  | c :: r => if c.f0 = sec then c.f1 else capOf sec r
/-- The last cap of that name; n if there is none. -/
def lastCap (sec : ByteArray) : List Cap → Int → Int
  | [], n => n
  | c :: r, n => lastCap sec r (if c.f0 = sec then c.f1 else n)
theorem lastCap_none {sec : ByteArray} : ∀ (l : List Cap) (n : Int), (∀ c ∈ l, c.f0 ≠ sec) → lastCap sec l n = n
  | [], _, _ => rfl
  | c :: r, n, h => by
    unfold lastCap
    rw [if_neg (h c (List.mem_cons_self ..))]
    exact lastCap_none r n (fun d hd => h d (List.mem_cons_of_mem _ hd))
theorem capOf_none {sec : ByteArray} : ∀ (l : List Cap), (∀ c ∈ l, c.f0 ≠ sec) → capOf sec l = -1
  | [], _ => rfl
  | c :: r, h => by
    unfold capOf
    rw [if_neg (h c (List.mem_cons_self ..))]
    exact capOf_none r (fun d hd => h d (List.mem_cons_of_mem _ hd))
theorem last_first {sec : ByteArray} : ∀ (l : List Cap) (n : Int), l.Pairwise (fun a b => lessB a.f0 b.f0 = true) → lastCap sec l n = capOf sec l ∨ (lastCap sec l n = n ∧ capOf sec l = -1)
  | [], n, _ => .inr ⟨rfl, rfl⟩
  | c :: r, n, h => by
    obtain ⟨h1, h2⟩ := List.pairwise_cons.1 h
    unfold lastCap capOf
    by_cases hc : c.f0 = sec
    · rw [if_pos hc, if_pos hc]
      exact .inl (lastCap_none r c.f1 (fun d hd e => less_ne (h1 d hd) (by rw [hc, e])))
    · rw [if_neg hc, if_neg hc]
      exact last_first r n h2
theorem last_cap {l : List Cap} (h : capsB l = true) (sec : ByteArray) : (lastCap sec l 0 < 1 ↔ capOf sec l < 1) ∧ (1 ≤ capOf sec l → lastCap sec l 0 = capOf sec l) := by
  rcases last_first (sec := sec) l 0 (sectors_rise h) with e | ⟨e1, e2⟩
  · rw [e]; exact ⟨Iff.rfl, fun _ => rfl⟩
  · rw [e1, e2]; exact ⟨by omega, by omega⟩
theorem lastCap_range {sec : ByteArray} : ∀ (l : List Cap) (n : Int), (∀ c ∈ l, capB c = true) → 0 ≤ n → n ≤ 20 → 0 ≤ lastCap sec l n ∧ lastCap sec l n ≤ 20
  | [], n, _, h0, h1 => ⟨h0, h1⟩
  | c :: r, n, h, h0, h1 => by
    unfold lastCap
    have hc := capB_parts (h c (List.mem_cons_self ..))
    exact lastCap_range r _ (fun d hd => h d (List.mem_cons_of_mem _ hd)) (by split <;> omega) (by split <;> omega)
theorem lastCap_step {l : List Cap} {k : Nat} {c : Cap} (h : l[k]? = some c) (sec : ByteArray) (n : Int) : lastCap sec (l.drop k) n = lastCap sec (l.drop (k + 1)) (if c.f0 = sec then c.f1 else n) := by
  have hk := some_lt h
  rw [List.drop_eq_getElem_cons hk]
  rw [List.getElem?_eq_getElem hk] at h
  rw [Option.some.inj h]
  rfl
theorem runI_step {ts : List Int} {k : Nat} {t : Int} (h : ts[k]? = some t) (c now n s : Int) : runI c (ts.drop k) now n s = runI c (ts.drop (k + 1)) (nowT c now n t).1 (nowT c now n t).2 (s + ((nowT c now n t).1 - t)) := by
  have hk := some_lt h
  rw [List.drop_eq_getElem_cons hk]
  rw [List.getElem?_eq_getElem hk] at h
  rw [Option.some.inj h]
  rfl
end Core
end Go.Proofs.Ytkfoeplefajkcaa
end

/- Plain laws on the order of flights: by when, then by name; inserting one behind all that are no later. -/
section
namespace Go.Proofs.Ytkfoeplefajkcaa
namespace Core

/-- Strictly ahead: by when, then by name. -/
def aheadB (a b : Flight) : Bool := if a.f1 = b.f1 then lessB a.f0 b.f0 else decide (a.f1 < b.f1)
theorem ahead_irrefl (a : Flight) : aheadB a a = false := by simp [aheadB, less_irrefl]
theorem ahead_trans {a b c : Flight} (h1 : aheadB a b = true) (h2 : aheadB b c = true) : aheadB a c = true := by
  unfold aheadB at h1 h2 ⊢
  by_cases e1 : a.f1 = b.f1 <;> by_cases e2 : b.f1 = c.f1
  · rw [if_pos e1] at h1; rw [if_pos e2] at h2; rw [if_pos (e1.trans e2)]; exact less_trans h1 h2
  · rw [if_neg e2, decide_eq_true_eq] at h2; rw [if_neg (by omega), decide_eq_true_eq]; omega
  · rw [if_neg e1, decide_eq_true_eq] at h1; rw [if_neg (by omega), decide_eq_true_eq]; omega
  · rw [if_neg e1, decide_eq_true_eq] at h1; rw [if_neg e2, decide_eq_true_eq] at h2; rw [if_neg (by omega), decide_eq_true_eq]; omega
/-- Not behind is a whole order: if b is not ahead of a and c not ahead of b then c is not ahead of a. -/
theorem notBehind_trans {a b c : Flight} (h1 : aheadB b a = false) (h2 : aheadB c b = false) : aheadB c a = false := by
  rw [Bool.eq_false_iff] at h1 h2 ⊢
  intro h
  unfold aheadB at h h1 h2
  by_cases e1 : a.f1 = b.f1 <;> by_cases e2 : b.f1 = c.f1
  · rw [if_pos (by omega)] at h h1 h2
    have t1 : lessB b.f0 a.f0 = false := by simpa using h1
    have t2 : lessB c.f0 b.f0 = false := by simpa using h2
    by_cases e3 : lessB a.f0 b.f0 = true
    · have := less_trans h e3; rw [t2] at this; cases this
    · have e4 : a.f0.toList = b.f0.toList := bl_total _ _ (by simpa [lessB] using e3) t1
      unfold lessB at h t2
      rw [e4, t2] at h; cases h
  · rw [if_neg (by omega), decide_eq_true_eq] at h; rw [if_neg (by omega), Ne, decide_eq_true_eq] at h2; omega
  · rw [if_neg (by omega), decide_eq_true_eq] at h; rw [if_neg (by omega), Ne, decide_eq_true_eq] at h1; omega
  · rw [if_neg (by omega), Ne, decide_eq_true_eq] at h1 h2
    by_cases e3 : c.f1 = a.f1
    · omega
    · rw [if_neg e3, decide_eq_true_eq] at h; omega

/-- Laid behind all from the head on of which p holds. -/
def insP {α : Type} (p : α → Bool) (t : α) : List α → List α
  | [] => [t]
  | x :: r => if p x = true then x :: insP p t r else t :: x :: r
def cntQ {α : Type} (p : α → Bool) : List α → Nat
  | [] => 0
  | x :: r => if p x = true then cntQ p r + 1 else 0
theorem cntQ_le {α : Type} (p : α → Bool) : ∀ l, cntQ p l ≤ l.length
  | [] => Nat.le_refl _
  | x :: r => by
    have := cntQ_le p r
    unfold cntQ
    split <;> simp <;> omega
theorem insP_eq {α : Type} (p : α → Bool) (t : α) : ∀ l, insP p t l = l.take (cntQ p l) ++ [t] ++ l.drop (cntQ p l)
  | [] => rfl
  | x :: r => by
    have ih := insP_eq p t r
    unfold insP cntQ
    split
    · rw [ih]; simp
    · simp
theorem insP_length {α : Type} (p : α → Bool) (t : α) (l : List α) : (insP p t l).length = l.length + 1 := by
  rw [insP_eq]
  have := cntQ_le p l
  simp
  omega
theorem cntQ_while {α : Type} {p : α → Bool} {l : List α} {k : Nat} (h : k ≤ cntQ p l) (hk : k < l.length) : (p (l[k]'hk) = true) ↔ k < cntQ p l := by
  induction l generalizing k with
  | nil => simp at hk
  | cons x r ih =>
    unfold cntQ at h ⊢
    cases k with
    | zero =>
      simp only [List.getElem_cons_zero]
      split <;> simp_all
    | succ k =>
      by_cases hx : p x = true
      · simp only [hx, if_true] at h ⊢
        simp only [List.getElem_cons_succ]
        rw [ih (by omega) (by simpa using hk)]
        omega
      · simp [hx] at h
def flAt (l : List Flight) (x : Int) : Flight := l.getD x.toNat default
/-- x is not behind i. -/
def noLater (l : List Flight) (i x : Int) : Bool := !aheadB (flAt l i) (flAt l x)
def ordTo (l : List Flight) : Nat → List Int
  | 0 => []
  | k + 1 => insP (noLater l k) k (ordTo l k)
theorem ordTo_length (l : List Flight) : ∀ k, (ordTo l k).length = k
  | 0 => rfl
  | k + 1 => by unfold ordTo; rw [insP_length, ordTo_length l k]
theorem insP_mem {α : Type} {p : α → Bool} {t x : α} {l : List α} : x ∈ insP p t l ↔ x = t ∨ x ∈ l := by
  rw [insP_eq]
  have h := List.take_append_drop (cntQ p l) l
  constructor
  · intro hx
    simp only [List.append_assoc, List.mem_append, List.mem_singleton] at hx
    rcases hx with hx | hx | hx
    · exact .inr (List.mem_of_mem_take hx)
    · exact .inl hx
    · exact .inr (List.mem_of_mem_drop hx)
  · rintro (rfl | hx)
    · simp
    · rw [← h] at hx
      rcases List.mem_append.1 hx with hx | hx <;> simp [hx]
theorem ordTo_range (l : List Flight) : ∀ k, ∀ x ∈ ordTo l k, 0 ≤ x ∧ x < k
  | 0, x, h => by cases h
  | k + 1, x, h => by
    unfold ordTo at h
    rcases insP_mem.1 h with rfl | h
    · omega
    · have := ordTo_range l k x h; omega
end Core
end Go.Proofs.Ytkfoeplefajkcaa
end

/- Plain laws on coming ahead: one by one, round by round, till nobody can. -/
section
namespace Go.Proofs.Ytkfoeplefajkcaa
namespace Core
set_option linter.unusedVariables false
set_option linter.unusedSimpArgs false

theorem search_spec (p : Int → Bool) : ∀ (n : Nat) (t : Int), (searchN p t n = -1 ∧ ∀ u, t ≤ u → u < t + n → p u = false) ∨ (t ≤ searchN p t n ∧ searchN p t n < t + n ∧ p (searchN p t n) = true ∧ ∀ u, t ≤ u → u < searchN p t n → p u = false)
  | 0, t => .inl ⟨rfl, fun u h1 h2 => by omega⟩
  | n + 1, t => by
    cases h : p t with
    | true =>
      right
      rw [search_hit h]
      exact ⟨Int.le_refl _, by omega, h, fun u h1 h2 => by omega⟩
    | false =>
      rw [search_miss h]
      rcases search_spec p n (t + 1) with ⟨h1, h2⟩ | ⟨h1, h2, h3, h4⟩
      · exact .inl ⟨h1, fun u hu hu2 => by
          by_cases e : u = t
          · rw [e]; exact h
          · exact h2 u (by omega) (by omega)⟩
      · exact .inr ⟨by omega, by omega, h3, fun u hu hu2 => by
          by_cases e : u = t
          · rw [e]; exact h
          · exact h4 u (by omega) hu2⟩
theorem set_same {α : Type} {s : List α} {k : Nat} {x : α} (h : s[k]? = some x) : s.set k x = s := by
  apply List.ext_getElem?
  intro i
  rw [List.getElem?_set]
  split
  · rename_i e; subst e; rw [if_pos (some_lt h), h]
  · rfl
theorem timeB_at {l : List Flight} {s : List Int} (h : timeB l s = true) {k : Nat} {f : Flight} {x : Int} (hf : l[k]? = some f) (hx : s[k]? = some x) (h0 : 0 ≤ x) : f.f1 ≤ x ∧ x ≤ f.f1 + f.f2 := by
  unfold timeB at h
  rw [List.all_eq_true] at h
  have := h (f, x) (List.mem_of_getElem? (zip_at hf hx))
  simp only [timeP, inB, h0, decide_true, Bool.not_true, Bool.false_or, Bool.and_eq_true, decide_eq_true_eq] at this
  exact this
/-- The least slot of one, where the slots fit: none at all, and then it had none; or one in time that fits, no later than what it had. -/
theorem least_spec {caps : List Cap} {l : List Flight} {s : List Int} (h : fitsB caps l s = true) {k : Nat} {f : Flight} {x : Int} (hf : l[k]? = some f) (hx : s[k]? = some x) :
    (leastN caps l s k f = -1 ∧ x = -1) ∨ (0 ≤ leastN caps l s k f ∧ f.f1 ≤ leastN caps l s k f ∧ leastN caps l s k f ≤ f.f1 + f.f2 ∧ (x = -1 ∨ leastN caps l s k f ≤ x) ∧ noneFull caps l (s.set k (leastN caps l s k f)) = true) := by
  obtain ⟨hc, hs, ht, hn⟩ := fitsB_parts h
  have hsx := slotsB_at hs hf hx
  have hff := flightB_parts ((flightsB_parts (slotsB_parts hs).1).2.1 f (List.mem_of_getElem? hf))
  have e : s.set k x = s := set_same hx
  rcases search_spec (fun t => noneFull caps l (s.set k t)) (f.f2.toNat + 1) f.f1 with ⟨h1, h2⟩ | ⟨h1, h2, h3, h4⟩
  · left
    refine ⟨h1, ?_⟩
    by_cases h0 : 0 ≤ x
    · have := timeB_at ht hf hx h0
      have := h2 x (by omega) (by omega)
      rw [e, hn] at this; cases this
    · omega
  · right
    refine ⟨by unfold leastN; omega, h1, by unfold leastN; omega, ?_, h3⟩
    by_cases h0 : 0 ≤ x
    · right
      have ht2 := timeB_at ht hf hx h0
      by_cases hlt : x < leastN caps l s k f
      · have := h4 x (by omega) hlt
        rw [e, hn] at this; cases this
      · omega
    · left; omega
theorem least_fits {caps : List Cap} {l : List Flight} {s : List Int} (h : fitsB caps l s = true) {k : Nat} {f : Flight} {x : Int} (hf : l[k]? = some f) (hx : s[k]? = some x) : fitsB caps l (s.set k (leastN caps l s k f)) = true := by
  obtain ⟨hc, hs, ht, hn⟩ := fitsB_parts h
  rcases least_spec h hf hx with ⟨h1, h2⟩ | ⟨h0, h1, h2, h3, h4⟩
  · rw [h1, ← h2, set_same hx]; exact h
  · rw [fits_set hc hs ht k hf h1 h2]; exact h4

/-! A round. -/
/-- How far a slot is from the best one, one hundred where there is none. -/
def lateP (p : Flight × Int) : Nat := if p.2 < 0 then 100 else (p.2 - p.1.f1).toNat
def lateS (l : List Flight) (s : List Int) : Nat := ((l.zip s).map lateP).sum
theorem zip_set {l : List Flight} : ∀ {s : List Int} {k : Nat} {f : Flight} (t : Int), l[k]? = some f → l.zip (s.set k t) = (l.zip s).set k (f, t) := by
  induction l with
  | nil => intro s k f t h; simp at h
  | cons g r ih =>
    intro s k f t h
    cases s with
    | nil => simp
    | cons y q =>
      cases k with
      | zero => simp at h; subst h; simp
      | succ k =>
        simp only [List.getElem?_cons_succ] at h
        simp only [List.set_cons_succ, List.zip_cons_cons, ih t h]
theorem sum_set {α : Type} (f : α → Nat) : ∀ {l : List α} {k : Nat} {x : α} (y : α), l[k]? = some x → ((l.set k y).map f).sum + f x = (l.map f).sum + f y
  | [], k, x, y, h => by simp at h
  | z :: r, 0, x, y, h => by simp at h; subst h; simp; omega
  | z :: r, k + 1, x, y, h => by
    simp only [List.getElem?_cons_succ] at h
    have := sum_set f y h
    simp only [List.set_cons_succ, List.map_cons, List.sum_cons]
    omega
theorem least_late {caps : List Cap} {l : List Flight} {s : List Int} (h : fitsB caps l s = true) {k : Nat} {f : Flight} {x : Int} (hf : l[k]? = some f) (hx : s[k]? = some x) (hne : leastN caps l s k f ≠ x) :
    lateS l (s.set k (leastN caps l s k f)) < lateS l s := by
  have hs := (fitsB_parts h).2.1
  have hsx := slotsB_at hs hf hx
  have hff := flightB_parts ((flightsB_parts (slotsB_parts hs).1).2.1 f (List.mem_of_getElem? hf))
  have h2 := sum_set lateP (f, leastN caps l s k f) (zip_at hf hx)
  unfold lateS
  rw [zip_set _ hf]
  rcases least_spec h hf hx with ⟨h1, h3⟩ | ⟨h0, h1, h3, h4, _⟩
  · omega
  · have e1 : lateP (f, leastN caps l s k f) = (leastN caps l s k f - f.f1).toNat := by unfold lateP; exact if_neg (by simp only; omega)
    have e2 : lateP (f, leastN caps l s k f) < lateP (f, x) := by
      rw [e1]
      unfold lateP
      simp only
      split <;> omega
    omega
theorem lateS_le {l : List Flight} {s : List Int} (hs : slotsB l s = true) : lateS l s ≤ 8 * 10100 := by
  have h : ∀ q : List (Flight × Int), (∀ p ∈ q, lateP p ≤ 10100) → (q.map lateP).sum ≤ q.length * 10100 := by
    intro q
    induction q with
    | nil => intro _; simp
    | cons p r ih =>
      intro h
      have h1 := h p (List.mem_cons_self ..)
      have h2 := ih (fun x hx => h x (List.mem_cons_of_mem _ hx))
      simp only [List.map_cons, List.sum_cons, List.length_cons]
      omega
  obtain ⟨h1, h2, h3⟩ := slotsB_parts hs
  have h4 := h (l.zip s) (fun p hp => by
    obtain ⟨f, x⟩ := p
    obtain ⟨i, hi⟩ := List.getElem?_of_mem hp
    obtain ⟨hf, hx⟩ := List.getElem?_zip_eq_some.1 hi
    have := slotsB_at hs hf hx
    unfold lateP
    simp only at this ⊢
    split <;> omega)
  have := (flightsB_parts h1).1
  have h5 : (l.zip s).length ≤ 8 := by simp; omega
  exact Nat.le_trans h4 (Nat.mul_le_mul_right _ h5)

/-- Some come ahead, one behind the other; whether anybody did. -/
def stepR (caps : List Cap) (l : List Flight) (p : List Int × Bool) (i : Int) : List Int × Bool :=
  (p.1.set i.toNat (leastAt caps l p.1 i.toNat), p.2 || !(leastAt caps l p.1 i.toNat == p.1.getD i.toNat 0))
def roundR (caps : List Cap) (l : List Flight) (ord : List Int) (s : List Int) : List Int × Bool := ord.foldl (stepR caps l) (s, false)
theorem step_len (caps : List Cap) (l : List Flight) (p : List Int × Bool) (i : Int) : (stepR caps l p i).1.length = p.1.length := by simp [stepR]
theorem rounds_len (caps : List Cap) (l : List Flight) : ∀ (ord : List Int) (p : List Int × Bool), (ord.foldl (stepR caps l) p).1.length = p.1.length
  | [], p => rfl
  | i :: r, p => by rw [List.foldl_cons, rounds_len caps l r, step_len]
/-- Each entry is no later than it was, and nobody has lost theirs. -/
def noLaterS (s t : List Int) : Prop := s.length = t.length ∧ ∀ (k : Nat) (x y : Int), s[k]? = some x → t[k]? = some y → x = -1 ∨ (0 ≤ y ∧ y ≤ x) ∨ y = x
theorem noLaterS_refl (s : List Int) : noLaterS s s := ⟨rfl, fun k x y h1 h2 => .inr (.inr (by rw [h1] at h2; exact (Option.some.inj h2).symm))⟩
theorem noLaterS_trans {s t u : List Int} (h1 : noLaterS s t) (h2 : noLaterS t u) : noLaterS s u := by
  refine ⟨h1.1.trans h2.1, fun k x z hx hz => ?_⟩
  have hk : k < t.length := by rw [← h1.1]; exact some_lt hx
  have a := h1.2 k x t[k] hx (List.getElem?_eq_getElem hk)
  have b := h2.2 k t[k] z (List.getElem?_eq_getElem hk) hz
  omega
/-- One behind the other: all fits, nobody is later, and who moves comes ahead. -/
theorem steps_spec {caps : List Cap} {l : List Flight} : ∀ (ord : List Int) (s : List Int) (b : Bool), fitsB caps l s = true → (∀ x ∈ ord, 0 ≤ x ∧ x < l.length) →
    fitsB caps l (ord.foldl (stepR caps l) (s, b)).1 = true ∧ noLaterS s (ord.foldl (stepR caps l) (s, b)).1 ∧
    ((ord.foldl (stepR caps l) (s, b)).2 = false → b = false ∧ (ord.foldl (stepR caps l) (s, b)).1 = s ∧ ∀ x ∈ ord, leastAt caps l s x.toNat = s.getD x.toNat 0) ∧
    lateS l (ord.foldl (stepR caps l) (s, b)).1 ≤ lateS l s ∧ ((ord.foldl (stepR caps l) (s, b)).2 = true → b = true ∨ lateS l (ord.foldl (stepR caps l) (s, b)).1 < lateS l s)
  | [], s, b, h, _ => ⟨h, noLaterS_refl s, fun hb => ⟨hb, rfl, by simp⟩, Nat.le_refl _, fun hb => .inl hb⟩
  | i :: r, s, b, h, hr => by
    obtain ⟨h0, h1⟩ := hr i (List.mem_cons_self ..)
    have hlen := (slotsB_parts (fitsB_parts h).2.1).2.1
    have hf : l[i.toNat]? = some l[i.toNat] := List.getElem?_eq_getElem (by omega)
    have hx : s[i.toNat]? = some s[i.toNat] := List.getElem?_eq_getElem (by omega)
    have hg : s.getD i.toNat 0 = s[i.toNat] := by rw [List.getD_eq_getElem?_getD, hx]; rfl
    have hfit := least_fits h hf hx
    have hsp := least_spec h hf hx
    have hla := fun e => least_late h hf hx e
    rw [← leastAt_some hf (caps := caps) (s := s)] at hfit hsp hla
    obtain ⟨a1, a2, a3, a4, a5⟩ := steps_spec r (s.set i.toNat (leastAt caps l s i.toNat)) (b || !(leastAt caps l s i.toNat == s.getD i.toNat 0)) hfit (fun x hx => hr x (List.mem_cons_of_mem _ hx))
    rw [List.foldl_cons]
    unfold stepR
    simp only
    rw [show (fun (p : List Int × Bool) (i : Int) => (p.1.set i.toNat (leastAt caps l p.1 i.toNat), p.2 || !(leastAt caps l p.1 i.toNat == p.1.getD i.toNat 0))) = stepR caps l from rfl]
    have hnl : noLaterS s (s.set i.toNat (leastAt caps l s i.toNat)) := by
      refine ⟨by simp, fun k x y hk hy => ?_⟩
      by_cases e : i.toNat = k
      · subst e
        rw [List.getElem?_set_self (some_lt hk)] at hy
        obtain rfl := Option.some.inj hy
        rw [hx] at hk
        obtain rfl := Option.some.inj hk
        omega
      · rw [List.getElem?_set_ne e, hk] at hy
        exact .inr (.inr (Option.some.inj hy).symm)
    refine ⟨a1, noLaterS_trans hnl a2, fun hb => ?_, ?_, fun hb => ?_⟩
    · obtain ⟨b1, b2, b3⟩ := a3 hb
      rw [Bool.or_eq_false_iff, Bool.not_eq_false', beq_iff_eq] at b1
      have e : s.set i.toNat (leastAt caps l s i.toNat) = s := by rw [b1.2, hg]; exact set_same hx
      rw [e] at b2 b3
      rw [e]
      exact ⟨b1.1, b2, fun x hx => by rcases List.mem_cons.1 hx with rfl | hx; exact b1.2; exact b3 x hx⟩
    · by_cases e : leastAt caps l s i.toNat = s[i.toNat]
      · rw [e, set_same hx] at a4 ⊢; exact a4
      · have := hla e; omega
    · rcases a5 hb with h2 | h2
      · by_cases hbt : b = true
        · exact .inl hbt
        · right
          have hbf : b = false := by simpa using hbt
          rw [hbf, Bool.false_or, Bool.not_eq_true', beq_eq_false_iff_ne, hg] at h2
          have := hla h2
          omega
      · by_cases e : leastAt caps l s i.toNat = s[i.toNat]
        · rw [e, set_same hx] at h2 ⊢; exact .inr h2
        · have := hla e; exact .inr (by omega)
/-- Round by round, till nobody comes ahead. -/
def compN (caps : List Cap) (l : List Flight) (ord : List Int) : Nat → List Int → List Int
  | 0, s => s
  | n + 1, s => if (roundR caps l ord s).2 = true then compN caps l ord n (roundR caps l ord s).1 else (roundR caps l ord s).1
def compR (caps : List Cap) (l : List Flight) (ord : List Int) (s : List Int) : List Int := compN caps l ord (lateS l s + 1) s
theorem compN_more {caps : List Cap} {l : List Flight} {ord : List Int} (hr : ∀ x ∈ ord, 0 ≤ x ∧ x < l.length) : ∀ (n m : Nat) (s : List Int), fitsB caps l s = true → lateS l s < n → lateS l s < m → compN caps l ord n s = compN caps l ord m s
  | 0, m, s, _, h, _ => by omega
  | n + 1, 0, s, _, _, h => by omega
  | n + 1, m + 1, s, hf, h1, h2 => by
    unfold compN
    obtain ⟨a1, _, _, a4, a5⟩ := steps_spec ord s false hf hr
    split
    · rename_i hb
      rcases a5 hb with h3 | h3
      · cases h3
      · exact compN_more hr n m _ a1 (by unfold roundR; omega) (by unfold roundR; omega)
    · rfl
theorem compR_go {caps : List Cap} {l : List Flight} {ord : List Int} {s : List Int} (hr : ∀ x ∈ ord, 0 ≤ x ∧ x < l.length) (hf : fitsB caps l s = true) (hb : (roundR caps l ord s).2 = true) : compR caps l ord s = compR caps l ord (roundR caps l ord s).1 := by
  obtain ⟨a1, _, _, a4, a5⟩ := steps_spec ord s false hf hr
  have h3 : lateS l (roundR caps l ord s).1 < lateS l s := by
    rcases a5 hb with h3 | h3
    · cases h3
    · exact h3
  have e : compR caps l ord s = compN caps l ord (lateS l s) (roundR caps l ord s).1 := by unfold compR; rw [compN, if_pos hb]
  rw [e]
  exact compN_more hr _ _ _ a1 h3 (Nat.lt_succ_self _)
theorem compR_stop {caps : List Cap} {l : List Flight} {ord : List Int} {s : List Int} (hr : ∀ x ∈ ord, 0 ≤ x ∧ x < l.length) (hf : fitsB caps l s = true) (hb : (roundR caps l ord s).2 = false) : compR caps l ord s = s ∧ (roundR caps l ord s).1 = s := by
  obtain ⟨_, _, a3, _, _⟩ := steps_spec ord s false hf hr
  have e : compR caps l ord s = (roundR caps l ord s).1 := by unfold compR; rw [compN, if_neg (by rw [hb]; decide)]
  rw [e]
  exact ⟨(a3 hb).2.1, (a3 hb).2.1⟩
theorem compN_spec {caps : List Cap} {l : List Flight} {ord : List Int} (hr : ∀ x ∈ ord, 0 ≤ x ∧ x < l.length) : ∀ (n : Nat) (s : List Int), fitsB caps l s = true → lateS l s < n →
    fitsB caps l (compN caps l ord n s) = true ∧ noLaterS s (compN caps l ord n s) ∧ (roundR caps l ord (compN caps l ord n s)).2 = false
  | 0, s, _, h => by omega
  | n + 1, s, hf, h => by
    obtain ⟨a1, a2, a3, a4, a5⟩ := steps_spec ord s false hf hr
    unfold compN
    cases hb : (roundR caps l ord s).2 with
    | true =>
      rw [if_pos rfl]
      have h3 : lateS l (roundR caps l ord s).1 < n := by
        rcases a5 hb with h3 | h3
        · cases h3
        · unfold roundR; omega
      obtain ⟨b1, b2, b3⟩ := compN_spec hr n _ a1 h3
      exact ⟨b1, noLaterS_trans a2 b2, b3⟩
    | false =>
      rw [if_neg (by decide)]
      have e : (roundR caps l ord s).1 = s := (a3 hb).2.1
      rw [e]
      exact ⟨hf, noLaterS_refl s, hb⟩
theorem compR_spec {caps : List Cap} {l : List Flight} {ord : List Int} {s : List Int} (hr : ∀ x ∈ ord, 0 ≤ x ∧ x < l.length) (hf : fitsB caps l s = true) :
    fitsB caps l (compR caps l ord s) = true ∧ noLaterS s (compR caps l ord s) ∧ (roundR caps l ord (compR caps l ord s)).2 = false := compN_spec hr _ s hf (Nat.lt_succ_self _)
theorem stable_of_round {caps : List Cap} {l : List Flight} {ord : List Int} {s : List Int} (hr : ∀ x ∈ ord, 0 ≤ x ∧ x < l.length) (hf : fitsB caps l s = true) (hb : (roundR caps l ord s).2 = false) : ∀ x ∈ ord, leastAt caps l s x.toNat = s.getD x.toNat 0 :=
  ((steps_spec ord s false hf hr).2.2.1 hb).2.2
end Core
end Go.Proofs.Ytkfoeplefajkcaa
end

/- Plain laws on slots given one behind the other, on flights that come in and go. -/
section
namespace Go.Proofs.Ytkfoeplefajkcaa
namespace Core
set_option linter.unusedVariables false
set_option linter.unusedSimpArgs false

/-! Slots by who is planned first. -/
def giveS (caps : List Cap) (l : List Flight) (ord : List Int) (s : List Int) : List Int := ord.foldl (fun s i => s.set i.toNat (leastAt caps l s i.toNat)) s
theorem giveS_steps (caps : List Cap) (l : List Flight) : ∀ (ord : List Int) (s : List Int) (b : Bool), (ord.foldl (stepR caps l) (s, b)).1 = giveS caps l ord s
  | [], s, b => rfl
  | i :: r, s, b => by
    rw [List.foldl_cons]
    unfold giveS
    rw [List.foldl_cons]
    exact giveS_steps caps l r _ _
def noneS (n : Nat) : List Int := List.replicate n (-1)
theorem zip_none {l : List Flight} {p : Flight × Int} (h : p ∈ l.zip (noneS l.length)) : p.2 = -1 := by
  have := (List.of_mem_zip h).2
  exact List.eq_of_mem_replicate this
theorem fits_none {caps : List Cap} {l : List Flight} (hc : capsB caps = true) (hf : flightsB l = true) : fitsB caps l (noneS l.length) = true := by
  unfold fitsB
  rw [hc]
  have h1 : slotsB l (noneS l.length) = true := by
    unfold slotsB
    rw [hf]
    simp [noneS, inB]
  have h2 : timeB l (noneS l.length) = true := by
    unfold timeB
    rw [List.all_eq_true]
    intro p hp
    unfold timeP
    rw [zip_none hp]
    rfl
  have h3 : noneFull caps l (noneS l.length) = true := by
    unfold noneFull
    rw [List.all_eq_true]
    intro c _
    rw [Bool.not_eq_true']
    unfold fullB
    rw [List.any_eq_false]
    intro p hp
    unfold fullP
    rw [zip_none hp]
    simp
  rw [h1, h2, h3]
  rfl
def giveB (caps : List Cap) (l : List Flight) : List Int := if (capsB caps && flightsB l) = true then giveS caps l (ordTo l l.length) (noneS l.length) else []
theorem giveS_len (caps : List Cap) (l : List Flight) : ∀ (ord s : List Int), (giveS caps l ord s).length = s.length
  | [], s => rfl
  | i :: r, s => by
    unfold giveS
    rw [List.foldl_cons]
    have := giveS_len caps l r (s.set i.toNat (leastAt caps l s i.toNat))
    unfold giveS at this
    rw [this]; simp
theorem giveB_len (caps : List Cap) (l : List Flight) : (giveB caps l).length ≤ 10000000 := by
  unfold giveB
  split
  · rename_i h
    rw [Bool.and_eq_true] at h
    rw [giveS_len]
    have := (flightsB_parts h.2).1
    simp [noneS]; omega
  · simp
theorem ord_in (l : List Flight) : ∀ x ∈ ordTo l l.length, 0 ≤ x ∧ x < l.length := ordTo_range l l.length
theorem giveS_fits {caps : List Cap} {l : List Flight} (hc : capsB caps = true) (hf : flightsB l = true) (ord : List Int) (ho : ∀ x ∈ ord, 0 ≤ x ∧ x < l.length) : fitsB caps l (giveS caps l ord (noneS l.length)) = true := by
  have := (steps_spec ord (noneS l.length) false (fits_none hc hf) ho).1
  rwa [giveS_steps] at this
theorem giveB_fits {caps : List Cap} {l : List Flight} (hc : capsB caps = true) (hf : flightsB l = true) : fitsB caps l (giveB caps l) = true := by
  unfold giveB
  rw [hc, hf, if_pos (by rfl)]
  exact giveS_fits hc hf _ (ord_in l)
theorem giveS_step (caps : List Cap) (l : List Flight) (ord s : List Int) (k : Nat) (x : Int) (h : ord[k]? = some x) : giveS caps l (ord.take (k + 1)) s = (giveS caps l (ord.take k) s).set x.toNat (leastAt caps l (giveS caps l (ord.take k) s) x.toNat) := by
  unfold giveS
  rw [List.take_add_one, h, Option.toList_some, List.foldl_append]
  rfl

/-! Coming in at a place, going from a place. -/
def insAt {α : Type} (k : Nat) (x : α) (l : List α) : List α := l.take k ++ [x] ++ l.drop k
def delAt {α : Type} (k : Nat) (l : List α) : List α := l.take k ++ l.drop (k + 1)
theorem insAt_len {α : Type} {k : Nat} (x : α) {l : List α} (h : k ≤ l.length) : (insAt k x l).length = l.length + 1 := by simp [insAt]; omega
theorem delAt_len {α : Type} {k : Nat} {l : List α} (h : k < l.length) : (delAt k l).length + 1 = l.length := by simp [delAt]; omega
theorem insAt_mem {α : Type} {k : Nat} {x y : α} {l : List α} : y ∈ insAt k x l ↔ y = x ∨ y ∈ l := by
  unfold insAt
  have h := List.take_append_drop k l
  constructor
  · intro hy
    simp only [List.append_assoc, List.mem_append, List.mem_singleton] at hy
    rcases hy with hy | hy | hy
    · exact .inr (List.mem_of_mem_take hy)
    · exact .inl hy
    · exact .inr (List.mem_of_mem_drop hy)
  · rintro (rfl | hy)
    · simp
    · rw [← h] at hy
      rcases List.mem_append.1 hy with hy | hy <;> simp [hy]
theorem delAt_sub {α : Type} (k : Nat) (l : List α) : (delAt k l).Sublist l := by
  unfold delAt
  have h := List.take_append_drop k l
  conv => rhs; rw [← h]
  refine List.Sublist.append (List.Sublist.refl _) ?_
  rw [show k + 1 = k + 1 from rfl, ← List.drop_drop]
  exact List.drop_sublist 1 _
theorem zip_take' {α β : Type} (k : Nat) (l : List α) (s : List β) : (l.take k).zip (s.take k) = (l.zip s).take k := by
  rw [List.zip_eq_zipWith, List.zip_eq_zipWith, List.take_zipWith]
theorem zip_drop' {α β : Type} (k : Nat) (l : List α) (s : List β) : (l.drop k).zip (s.drop k) = (l.zip s).drop k := by
  rw [List.zip_eq_zipWith, List.zip_eq_zipWith, List.drop_zipWith]
theorem zip_insAt {α β : Type} (k : Nat) (x : α) (y : β) (l : List α) (s : List β) (h : l.length = s.length) : (insAt k x l).zip (insAt k y s) = insAt k (x, y) (l.zip s) := by
  unfold insAt
  rw [List.zip_append (by simp [h]), List.zip_append (by simp [h]), zip_take', zip_drop']
  rfl
theorem zip_delAt {α β : Type} (k : Nat) (l : List α) (s : List β) (h : l.length = s.length) : (delAt k l).zip (delAt k s) = delAt k (l.zip s) := by
  unfold delAt
  rw [List.zip_append (by simp [h]), zip_take', zip_drop']
theorem link_of_pairwise {α : Type} (rel : α → α → Bool) : ∀ l : List α, l.Pairwise (fun a b => rel a b = true) → linkB rel l = true
  | [], _ => rfl
  | [_], _ => rfl
  | u :: v :: r, h => by
    rw [List.pairwise_cons] at h
    simp only [linkB, Bool.and_eq_true]
    exact ⟨h.1 v (List.mem_cons_self ..), link_of_pairwise rel _ h.2⟩
/-- Loads are counted in the pairs alone. -/
def fullZ (c : Cap) (z : List (Flight × Int)) : Bool := z.any fun p => decide (0 ≤ p.2) && p.1.f3.any fun v => decide (v.f0 = c.f0) && decide (c.f1 < ((z.countP (onP c.f0 (p.2 + v.f1)) : Nat) : Int))
theorem fullB_Z (c : Cap) (l : List Flight) (s : List Int) : fullB c l s = fullZ c (l.zip s) := by
  unfold fullB fullZ fullP fullV
  simp only [loadTo_all]
theorem noneFull_Z (caps : List Cap) (l : List Flight) (s : List Int) : noneFull caps l s = caps.all fun c => !fullZ c (l.zip s) := by
  unfold noneFull; simp only [fullB_Z]
theorem fullZ_sub {c : Cap} {z z' : List (Flight × Int)} (h : z'.Sublist z) (hz : fullZ c z = false) : fullZ c z' = false := by
  unfold fullZ at hz ⊢
  rw [List.any_eq_false] at hz ⊢
  intro p hp hc
  refine hz p (h.subset hp) ?_
  rw [Bool.and_eq_true, List.any_eq_true] at hc ⊢
  refine ⟨hc.1, ?_⟩
  obtain ⟨v, hv, h2⟩ := hc.2
  refine ⟨v, hv, ?_⟩
  rw [Bool.and_eq_true, decide_eq_true_eq, decide_eq_true_eq] at h2 ⊢
  have := h.countP_le (p := onP c.f0 (p.2 + v.f1))
  exact ⟨h2.1, by omega⟩
theorem fullZ_ins {c : Cap} {z : List (Flight × Int)} {k : Nat} {f : Flight} : fullZ c (insAt k (f, -1) z) = fullZ c z := by
  have hcnt : ∀ t, (insAt k (f, -1) z).countP (onP c.f0 t) = z.countP (onP c.f0 t) := fun t => by
    unfold insAt
    rw [List.countP_append, List.countP_append]
    have e : ([(f, (-1 : Int))] : List (Flight × Int)).countP (onP c.f0 t) = 0 := by simp [onP]
    rw [e, Nat.add_zero, ← List.countP_append, List.take_append_drop]
  unfold fullZ
  simp only [hcnt]
  unfold insAt
  rw [List.any_append, List.any_append]
  have e : ([(f, (-1 : Int))] : List (Flight × Int)).any (fun p => decide (0 ≤ p.2) && p.1.f3.any fun v => decide (v.f0 = c.f0) && decide (c.f1 < ((z.countP (onP c.f0 (p.2 + v.f1)) : Nat) : Int))) = false := by simp
  rw [e, Bool.or_false, ← List.any_append, List.take_append_drop]
theorem timeB_Z (l : List Flight) (s : List Int) : timeB l s = (l.zip s).all timeP := rfl
/-- A flight without a slot comes in: all fits. -/
theorem fits_ins {caps : List Cap} {l : List Flight} {s : List Int} (h : fitsB caps l s = true) {f : Flight} (hf : flightB f = true) (hl : l.length ≤ 7) {k : Nat} (hk : k ≤ l.length) (hlo : ∀ g ∈ l.take k, lessB g.f0 f.f0 = true) (hhi : ∀ g ∈ l.drop k, lessB f.f0 g.f0 = true) :
    fitsB caps (insAt k f l) (insAt k (-1) s) = true := by
  obtain ⟨hc, hs, ht, hn⟩ := fitsB_parts h
  obtain ⟨hfl, hlen, hsv⟩ := slotsB_parts hs
  obtain ⟨h8, hfs, hlink⟩ := flightsB_parts hfl
  have hpw := names_rise hfl
  have hz := zip_insAt k f (-1 : Int) l s hlen.symm
  unfold fitsB
  rw [hc, noneFull_Z, timeB_Z, hz]
  have e1 : (caps.all fun c => !fullZ c (insAt k (f, -1) (l.zip s))) = true := by
    rw [noneFull_Z] at hn
    simp only [fullZ_ins]
    exact hn
  have e2 : (insAt k (f, -1) (l.zip s)).all timeP = true := by
    rw [List.all_eq_true]
    intro p hp
    rcases insAt_mem.1 hp with rfl | hp
    · rfl
    · exact List.all_eq_true.1 ht p hp
  have e3 : slotsB (insAt k f l) (insAt k (-1) s) = true := by
    have e4 : flightsB (insAt k f l) = true := by
      unfold flightsB
      rw [insAt_len f hk, decide_eq_true (by omega : l.length + 1 ≤ 8), Bool.true_and, Bool.and_eq_true]
      refine ⟨?_, link_of_pairwise byName _ ?_⟩
      · rw [List.all_eq_true]
        intro g hg
        rcases insAt_mem.1 hg with rfl | hg
        · exact hf
        · exact hfs g hg
      · unfold insAt
        rw [List.append_assoc, List.pairwise_append]
        have hps := hpw
        rw [← List.take_append_drop k l, List.pairwise_append] at hps
        refine ⟨hps.1, ?_, fun a ha b hb => ?_⟩
        · rw [List.singleton_append, List.pairwise_cons]
          exact ⟨fun g hg => hhi g hg, hps.2.1⟩
        · rcases List.mem_append.1 hb with hb | hb
          · rw [List.mem_singleton.1 hb]; exact hlo a ha
          · exact hps.2.2 a ha b hb
    unfold slotsB
    rw [e4, insAt_len f hk, insAt_len (-1 : Int) (by omega), hlen, decide_eq_true rfl]
    simp only [Bool.true_and, List.all_eq_true]
    intro x hx
    rcases insAt_mem.1 hx with rfl | hx
    · rfl
    · have := hsv x hx
      simp [inB]; omega
  rw [e1, e2, e3]
  rfl
/-- A flight goes: all fits. -/
theorem fits_del {caps : List Cap} {l : List Flight} {s : List Int} (h : fitsB caps l s = true) (k : Nat) : fitsB caps (delAt k l) (delAt k s) = true := by
  obtain ⟨hc, hs, ht, hn⟩ := fitsB_parts h
  obtain ⟨hfl, hlen, hsv⟩ := slotsB_parts hs
  obtain ⟨h8, hfs, hlink⟩ := flightsB_parts hfl
  have hpw := names_rise hfl
  have hz := zip_delAt k l s hlen.symm
  have hsub := delAt_sub k (l.zip s)
  unfold fitsB
  rw [hc, noneFull_Z, timeB_Z, hz]
  have e1 : (caps.all fun c => !fullZ c (delAt k (l.zip s))) = true := by
    rw [noneFull_Z, List.all_eq_true] at hn
    rw [List.all_eq_true]
    intro c hc
    have := hn c hc
    rw [Bool.not_eq_true'] at this ⊢
    exact fullZ_sub hsub this
  have e2 : (delAt k (l.zip s)).all timeP = true := by
    rw [List.all_eq_true]
    intro p hp
    exact List.all_eq_true.1 ht p (hsub.subset hp)
  have hls : (delAt k l).length ≤ l.length := (delAt_sub k l).length_le
  have e3 : slotsB (delAt k l) (delAt k s) = true := by
    have e4 : flightsB (delAt k l) = true := by
      unfold flightsB
      rw [decide_eq_true (by omega : (delAt k l).length ≤ 8), Bool.true_and, Bool.and_eq_true]
      refine ⟨?_, link_of_pairwise byName _ (hpw.sublist (delAt_sub k l))⟩
      rw [List.all_eq_true]
      intro g hg
      exact hfs g ((delAt_sub k l).subset hg)
    unfold slotsB
    rw [e4, decide_eq_true (by simp [delAt, hlen] : (delAt k s).length = (delAt k l).length)]
    simp only [Bool.true_and, List.all_eq_true]
    intro x hx
    have := hsv x ((delAt_sub k s).subset hx)
    simp [inB]; omega
  rw [e1, e2, e3]
  rfl

/-! Books. -/
def emptyB : Book := ⟨[], [], []⟩
def okB (b : Book) : Bool := fitsB b.f0 b.f1 b.f2
/-- The place of a name, -1 if it is not there. -/
def atFrom (n : ByteArray) : List Flight → Int → Int
  | [], _ => -1
  | f :: r, i => if f.f0 = n then i else atFrom n r (i + 1)
def atB (l : List Flight) (n : ByteArray) : Int := atFrom n l 0
theorem atFrom_spec (n : ByteArray) : ∀ (l : List Flight) (i : Int), 0 ≤ i → (atFrom n l i = -1 ∧ ∀ f ∈ l, f.f0 ≠ n) ∨ ∃ (k : Nat) (f : Flight), l[k]? = some f ∧ f.f0 = n ∧ atFrom n l i = i + (k : Nat) ∧ ∀ j, j < k → ∀ g, l[j]? = some g → g.f0 ≠ n
  | [], i, _ => .inl ⟨rfl, by simp⟩
  | f :: r, i, hi => by
    unfold atFrom
    by_cases h : f.f0 = n
    · rw [if_pos h]
      exact .inr ⟨0, f, rfl, h, by simp, fun j hj => by omega⟩
    · rw [if_neg h]
      rcases atFrom_spec n r (i + 1) (by omega) with ⟨h1, h2⟩ | ⟨k, g, h1, h2, h3, h4⟩
      · exact .inl ⟨h1, fun g hg => by rcases List.mem_cons.1 hg with rfl | hg; exact h; exact h2 g hg⟩
      · refine .inr ⟨k + 1, g, by simpa using h1, h2, by rw [h3]; omega, fun j hj g' hg' => ?_⟩
        cases j with
        | zero => simp at hg'; subst hg'; exact h
        | succ j => exact h4 j (by omega) g' (by simpa using hg')
theorem atB_spec (l : List Flight) (n : ByteArray) : (atB l n = -1 ∧ ∀ f ∈ l, f.f0 ≠ n) ∨ ∃ (k : Nat) (f : Flight), l[k]? = some f ∧ f.f0 = n ∧ atB l n = (k : Int) ∧ ∀ j, j < k → ∀ g, l[j]? = some g → g.f0 ≠ n := by
  rcases atFrom_spec n l 0 (Int.le_refl _) with h | ⟨k, f, h1, h2, h3, h4⟩
  · exact .inl h
  · exact .inr ⟨k, f, h1, h2, by unfold atB; rw [h3]; omega, h4⟩
/-- The place at which a name comes in. -/
def placeB (l : List Flight) (n : ByteArray) : Nat := cntQ (fun g => lessB g.f0 n) l
theorem placeB_le (l : List Flight) (n : ByteArray) : placeB l n ≤ l.length := cntQ_le _ _
theorem cntQ_take {α : Type} (p : α → Bool) : ∀ l : List α, ∀ x ∈ l.take (cntQ p l), p x = true
  | [], x, h => by simp at h
  | y :: r, x, h => by
    unfold cntQ at h
    split at h
    · rename_i hy
      rw [List.take_succ_cons] at h
      rcases List.mem_cons.1 h with rfl | h
      · exact hy
      · exact cntQ_take p r x h
    · simp at h
theorem cntQ_drop {α : Type} (p : α → Bool) : ∀ l : List α, ∀ x r, l.drop (cntQ p l) = x :: r → p x = false
  | [], x, r, h => by simp at h
  | y :: q, x, r, h => by
    unfold cntQ at h
    split at h
    · rw [List.drop_succ_cons] at h
      exact cntQ_drop p q x r h
    · rename_i hy
      simp at h
      rw [← h.1]
      simpa using hy
theorem place_lo {l : List Flight} {n : ByteArray} : ∀ g ∈ l.take (placeB l n), lessB g.f0 n = true := cntQ_take _ l
theorem bytes_ext {a b : ByteArray} (h : a.toList = b.toList) : a = b := by
  rw [ByteArray.toList_eq, ByteArray.toList_eq] at h
  cases a; cases b
  congr 1
  exact Array.toList_inj.1 h
theorem place_hi {l : List Flight} (hf : l.Pairwise (fun a b => lessB a.f0 b.f0 = true)) {n : ByteArray} (hn : ∀ f ∈ l, f.f0 ≠ n) : ∀ g ∈ l.drop (placeB l n), lessB n g.f0 = true := by
  intro g hg
  cases hd : l.drop (placeB l n) with
  | nil => rw [hd] at hg; cases hg
  | cons x r =>
    have hx : lessB x.f0 n = false := cntQ_drop (fun g : Flight => lessB g.f0 n) l x r hd
    have hxm : x ∈ l := List.mem_of_mem_drop (by rw [hd]; exact List.mem_cons_self ..)
    have h1 : lessB n x.f0 = true := by
      cases e : lessB n x.f0 with
      | true => rfl
      | false => exact absurd (bytes_ext (bl_total _ _ hx e)) (hn x hxm)
    rw [hd] at hg
    rcases List.mem_cons.1 hg with rfl | hg
    · exact h1
    · have := hf.sublist (List.drop_sublist (placeB l n) l)
      rw [hd, List.pairwise_cons] at this
      exact less_trans h1 (this.1 g hg)
/-- Comes in, with the least slot that is left. -/
def addN (b : Book) (f : Flight) : Book :=
  ⟨b.f0, insAt (placeB b.f1 f.f0) f b.f1, (insAt (placeB b.f1 f.f0) (-1) b.f2).set (placeB b.f1 f.f0) (leastAt b.f0 (insAt (placeB b.f1 f.f0) f b.f1) (insAt (placeB b.f1 f.f0) (-1) b.f2) (placeB b.f1 f.f0))⟩
def addR (b : Book) (f : Flight) : Book × Int :=
  if okB b = false then (emptyB, 1) else if flightB f = false then (b, 2) else if 0 ≤ atB b.f1 f.f0 then (b, 3) else if 8 ≤ b.f1.length then (b, 4) else (addN b f, 0)
def compB (b : Book) : Book := ⟨b.f0, b.f1, compR b.f0 b.f1 (ordTo b.f1 b.f1.length) b.f2⟩
def dropN (b : Book) (k : Nat) : Book := compB ⟨b.f0, delAt k b.f1, delAt k b.f2⟩
def dropR (b : Book) (n : ByteArray) : Book × Int :=
  if okB b = false then (emptyB, 1) else if atB b.f1 n < 0 then (b, 3) else (dropN b (atB b.f1 n).toNat, 0)
def compressR (b : Book) : Book := if okB b = false then emptyB else compB b
theorem ins_fits {b : Book} (h : okB b = true) {f : Flight} (hf : flightB f = true) (ha : ¬ 0 ≤ atB b.f1 f.f0) (hl : ¬ 8 ≤ b.f1.length) : fitsB b.f0 (insAt (placeB b.f1 f.f0) f b.f1) (insAt (placeB b.f1 f.f0) (-1) b.f2) = true := by
  have hn : ∀ g ∈ b.f1, g.f0 ≠ f.f0 := by
    rcases atB_spec b.f1 f.f0 with ⟨_, h2⟩ | ⟨k, g, _, _, h3, _⟩
    · exact h2
    · omega
  exact fits_ins h hf (by omega) (placeB_le _ _) place_lo (place_hi (names_rise (slotsB_parts (fitsB_parts h).2.1).1) hn)
theorem addN_ok {b : Book} (h : okB b = true) {f : Flight} (hf : flightB f = true) (ha : ¬ 0 ≤ atB b.f1 f.f0) (hl : ¬ 8 ≤ b.f1.length) : okB (addN b f) = true := by
  have h1 := ins_fits h hf ha hl
  have hlen := (slotsB_parts (fitsB_parts h1).2.1).2.1
  have hk : placeB b.f1 f.f0 < (insAt (placeB b.f1 f.f0) f b.f1).length := by rw [insAt_len f (placeB_le _ _)]; have := placeB_le b.f1 f.f0; omega
  have hg : (insAt (placeB b.f1 f.f0) f b.f1)[placeB b.f1 f.f0]? = some (insAt (placeB b.f1 f.f0) f b.f1)[placeB b.f1 f.f0] := List.getElem?_eq_getElem hk
  have hx : (insAt (placeB b.f1 f.f0) (-1 : Int) b.f2)[placeB b.f1 f.f0]? = some (insAt (placeB b.f1 f.f0) (-1 : Int) b.f2)[placeB b.f1 f.f0] := List.getElem?_eq_getElem (by omega)
  have := least_fits h1 hg hx
  rwa [← leastAt_some hg (caps := b.f0) (s := insAt (placeB b.f1 f.f0) (-1) b.f2)] at this
theorem compB_ok {b : Book} (h : okB b = true) : okB (compB b) = true := (compR_spec (ord_in b.f1) h).1
theorem dropN_ok {b : Book} (h : okB b = true) (k : Nat) : okB (dropN b k) = true := compB_ok (b := ⟨b.f0, delAt k b.f1, delAt k b.f2⟩) (fits_del h k)
end Core
end Go.Proofs.Ytkfoeplefajkcaa
end

/- Plain laws on the bound: whoever has which slot, all together are no less late. -/
section
namespace Go.Proofs.Ytkfoeplefajkcaa
namespace Core
set_option linter.unusedVariables false
set_option linter.unusedSimpArgs false

/-- Place by place no greater. -/
def leL : List Int → List Int → Prop
  | [], [] => True
  | a :: r, b :: q => a ≤ b ∧ leL r q
  | _, _ => False
theorem leL_len : ∀ {a b : List Int}, leL a b → a.length = b.length
  | [], [], _ => rfl
  | _ :: _, _ :: _, h => by simp [leL_len h.2]
  | [], _ :: _, h => h.elim
  | _ :: _, [], h => h.elim
theorem leL_refl : ∀ a : List Int, leL a a
  | [] => trivial
  | x :: r => ⟨Int.le_refl _, leL_refl r⟩
theorem leL_get : ∀ {a b : List Int}, leL a b → ∀ {j : Nat} {x y : Int}, a[j]? = some x → b[j]? = some y → x ≤ y
  | [], [], _, j, x, y, h1, _ => by simp at h1
  | a :: r, b :: q, h, 0, x, y, h1, h2 => by simp at h1 h2; rw [← h1, ← h2]; exact h.1
  | a :: r, b :: q, h, j + 1, x, y, h1, h2 => leL_get h.2 (by simpa using h1) (by simpa using h2)
theorem ins_left {t y : Int} : ∀ {r q : List Int}, leL r q → (y :: q).Pairwise (· ≤ ·) → t ≤ y → leL (insI t r) (y :: q)
  | [], [], _, _, h => ⟨h, trivial⟩
  | x :: r, z :: q, h, hp, ht => by
    rw [List.pairwise_cons] at hp
    have hyz := hp.1 z (List.mem_cons_self ..)
    unfold insI
    split
    · rename_i hx
      exact ⟨by omega, ins_left h.2 hp.2 (by omega)⟩
    · exact ⟨ht, h.1, h.2⟩
  | [], _ :: _, h, _, _ => h.elim
  | _ :: _, [], h, _, _ => h.elim
theorem ins_right {u x : Int} : ∀ {r q : List Int}, leL r q → (x :: r).Pairwise (· ≤ ·) → x ≤ u → leL (x :: r) (insI u q)
  | [], [], _, _, h => ⟨h, trivial⟩
  | y :: r, z :: q, h, hp, hx => by
    rw [List.pairwise_cons] at hp
    have hxy := hp.1 y (List.mem_cons_self ..)
    have h1 := h.1
    unfold insI
    split
    · rename_i hz
      exact ⟨by omega, ins_right h.2 hp.2 (by omega)⟩
    · exact ⟨hx, h.1, h.2⟩
  | [], _ :: _, h, _, _ => h.elim
  | _ :: _, [], h, _, _ => h.elim
theorem ins_both {t u : Int} (htu : t ≤ u) : ∀ {xs ys : List Int}, leL xs ys → xs.Pairwise (· ≤ ·) → ys.Pairwise (· ≤ ·) → leL (insI t xs) (insI u ys)
  | [], [], _, _, _ => ⟨htu, trivial⟩
  | x :: r, y :: q, h, hp, hq => by
    have h1 := h.1
    unfold insI
    split <;> split
    · rw [List.pairwise_cons] at hp hq
      exact ⟨h.1, ins_both htu h.2 hp.2 hq.2⟩
    · rename_i hx hy
      exact ⟨by omega, ins_left h.2 hq (by omega)⟩
    · rename_i hx hy
      exact ⟨by omega, ins_right h.2 hp (by omega)⟩
    · exact ⟨htu, h.1, h.2⟩
  | [], _ :: _, h, _, _ => h.elim
  | _ :: _, [], h, _, _ => h.elim
theorem fold_both : ∀ {xs ys a b : List Int}, leL xs ys → leL a b → a.Pairwise (· ≤ ·) → b.Pairwise (· ≤ ·) → leL (xs.foldl (fun a t => insI t a) a) (ys.foldl (fun a t => insI t a) b)
  | [], [], a, b, _, h, _, _ => h
  | x :: r, y :: q, a, b, h, hab, ha, hb => by
    rw [List.foldl_cons, List.foldl_cons]
    exact fold_both h.2 (ins_both h.1 hab ha hb) (insI_sorted x a ha) (insI_sorted y b hb)
  | [], _ :: _, _, _, h, _, _, _ => h.elim
  | _ :: _, [], _, _, h, _, _, _ => h.elim

/-- No more than c at one tick: each is behind the one c places ahead. -/
theorem spread {ys : List Int} (hp : ys.Pairwise (· ≤ ·)) {c : Nat} (hc : ∀ v, ys.count v ≤ c) {i : Nat} {a b : Int} (ha : ys[i]? = some a) (hb : ys[i + c]? = some b) : a + 1 ≤ b ∨ c = 0 := by
  by_cases h0 : c = 0
  · exact .inr h0
  · left
    have hib := some_lt hb
    have hab : a ≤ b := by
      rw [List.pairwise_iff_getElem] at hp
      have := hp i (i + c) (some_lt ha) hib (by omega)
      rw [List.getElem?_eq_getElem (some_lt ha)] at ha
      rw [List.getElem?_eq_getElem hib] at hb
      rwa [Option.some.inj ha, Option.some.inj hb] at this
    by_cases h : a < b
    · omega
    · exfalso
      have heq : a = b := by omega
      subst heq
      have hall : ∀ x ∈ (ys.drop i).take (c + 1), x = a := by
        intro x hx
        obtain ⟨j, hj⟩ := List.getElem?_of_mem hx
        rw [List.getElem?_take] at hj
        split at hj
        · rename_i hjc
          rw [List.getElem?_drop] at hj
          have hlt := some_lt hj
          rw [List.pairwise_iff_getElem] at hp
          rw [List.getElem?_eq_getElem hlt] at hj
          rw [List.getElem?_eq_getElem (some_lt ha)] at ha
          rw [List.getElem?_eq_getElem hib] at hb
          have e1 : a ≤ x := by
            rcases Nat.eq_zero_or_pos j with h1 | h1
            · subst h1; have := Option.some.inj ha; have := Option.some.inj hj; simp only [Nat.add_zero] at *; omega
            · have := hp i (i + j) (some_lt (List.getElem?_eq_getElem (some_lt (by rw [List.getElem?_eq_getElem (by omega)])))) hlt (by omega)
              rwa [Option.some.inj ha, Option.some.inj hj] at this
          have e2 : x ≤ a := by
            by_cases h1 : j = c
            · subst h1; have := Option.some.inj hb; have := Option.some.inj hj; omega
            · have := hp (i + j) (i + c) hlt hib (by omega)
              rwa [Option.some.inj hb, Option.some.inj hj] at this
          omega
        · cases hj
      have h1 : ((ys.drop i).take (c + 1)).count a = ((ys.drop i).take (c + 1)).length := by
        rw [List.count_eq_length]
        exact fun x hx => (hall x hx).symm
      have h2 : ((ys.drop i).take (c + 1)).length = c + 1 := by rw [List.length_take, List.length_drop]; omega
      have h3 : ((ys.drop i).take (c + 1)).Sublist ys := (List.take_sublist _ _).trans (List.drop_sublist _ _)
      have := h3.count_le a
      have := hc a
      omega
theorem runS_acc (c : Nat) : ∀ (r g : List Int) (s d : Int), runS c r g (s + d) = runS c r g s + d
  | [], g, s, d => rfl
  | t :: r, g, s, d => by
    unfold runS
    rw [← runS_acc c r (g ++ [giveT c g t]) (s + giveT c g t - t) d]
    congr 1; omega
theorem greedy_le {c : Nat} (hc : 1 ≤ c) {ys : List Int} (hs : ∀ (i : Nat) (a b : Int), ys[i]? = some a → ys[i + c]? = some b → a + 1 ≤ b) : ∀ (r g : List Int) (q : List Int), ys.drop g.length = q → leL r q → (∀ (i : Nat) (x y : Int), g[i]? = some x → ys[i]? = some y → x ≤ y) → runS c r g 0 ≤ q.sum - r.sum
  | [], g, q, _, h, _ => by
    have := leL_len h
    rw [List.length_nil] at this
    have : q = [] := List.length_eq_zero_iff.1 this.symm
    subst this
    simp [runS]
  | t :: r, g, q, hq, h, hg => by
    cases q with
    | nil => exact h.elim
    | cons y q =>
      have hy : ys[g.length]? = some y := by
        have : (ys.drop g.length)[0]? = some y := by rw [hq]; rfl
        rwa [List.getElem?_drop, Nat.add_zero] at this
      have hyl := some_lt hy
      have hgy : giveT c g t ≤ y := by
        unfold giveT
        split
        · rename_i hcond
          have hx : g[g.length - c]? = some (g.getD (g.length - c) 0) := by
            rw [List.getD_eq_getElem?_getD, List.getElem?_eq_getElem (by omega)]; rfl
          have hz : ys[g.length - c]? = some ys[g.length - c] := List.getElem?_eq_getElem (by omega)
          have h1 := hg _ _ _ hx hz
          have h2 := hs _ _ y hz (by rw [show g.length - c + c = g.length by omega]; exact hy)
          omega
        · exact h.1
      unfold runS
      have e := runS_acc c r (g ++ [giveT c g t]) 0 (giveT c g t - t)
      rw [show (0 : Int) + giveT c g t - t = 0 + (giveT c g t - t) by omega, e]
      have ih := greedy_le hc hs r (g ++ [giveT c g t]) q (by
        rw [List.length_append, List.length_singleton, ← List.drop_drop, hq]; rfl) h.2 (fun i x z hx hz => by
          rcases Nat.lt_trichotomy i g.length with hi | hi | hi
          · rw [List.getElem?_append_left hi] at hx; exact hg i x z hx hz
          · subst hi
            rw [List.getElem?_append_right (Nat.le_refl _), Nat.sub_self] at hx
            simp at hx
            rw [hy] at hz
            rw [← hx, ← Option.some.inj hz]; exact hgy
          · rw [List.getElem?_eq_none (by simp; omega)] at hx; cases hx)
      simp only [List.sum_cons]
      omega

/-! Flights in a sector. -/
def visP (sec : ByteArray) (p : Flight × Int) : Bool := decide (0 ≤ firstOf p.1.f1 sec p.1.f3)
theorem firstOf_shift (sec : ByteArray) : ∀ (vs : List Visit) (p q : Int), (∀ v ∈ vs, 0 ≤ v.f1) → 0 ≤ p → 0 ≤ q → (0 ≤ firstOf p sec vs → firstOf q sec vs = firstOf p sec vs - p + q ∧ 0 ≤ firstOf q sec vs ∧ ∃ v ∈ vs, v.f0 = sec ∧ firstOf q sec vs = q + v.f1)
  | [], p, q, _, _, _, h => by simp [firstOf] at h
  | v :: r, p, q, hv, hp, hq, h => by
    have h1 := hv v (List.mem_cons_self ..)
    unfold firstOf at h ⊢
    by_cases e : v.f0 = sec
    · rw [if_pos e] at h ⊢
      rw [if_pos e]
      exact ⟨by omega, by omega, v, List.mem_cons_self .., e, rfl⟩
    · rw [if_neg e] at h ⊢
      rw [if_neg e]
      obtain ⟨a, b, u, hu, h2, h3⟩ := firstOf_shift sec r p q (fun u hu => hv u (List.mem_cons_of_mem _ hu)) hp hq h
      exact ⟨a, b, u, List.mem_cons_of_mem _ hu, h2, h3⟩
theorem comes_pairs (sec : ByteArray) : ∀ (l : List Flight) (s : List Int), s.length = l.length → comesOf sec l = ((l.zip s).filter (visP sec)).map fun p => firstOf p.1.f1 sec p.1.f3
  | [], [], _ => rfl
  | f :: r, x :: q, h => by
    have ih := comes_pairs sec r q (by simpa using h)
    unfold comesOf at ih ⊢
    rw [List.map_cons, List.zip_cons_cons]
    by_cases hv : 0 ≤ firstOf f.f1 sec f.f3
    · rw [List.filter_cons_of_pos (by simpa using hv), List.filter_cons_of_pos (by simpa [visP] using hv), List.map_cons, ih]
    · rw [List.filter_cons_of_neg (by simpa using hv), List.filter_cons_of_neg (by simpa [visP] using hv), ih]
  | [], _ :: _, h => by simp at h
  | _ :: _, [], h => by simp at h
theorem delay_sum : ∀ (z : List (Flight × Int)) (n : Int), z.foldl (fun n p => n + delayOf p.1 p.2) n = n + (z.map fun p => delayOf p.1 p.2).sum
  | [], n => by simp
  | p :: r, n => by
    rw [List.foldl_cons, delay_sum r, List.map_cons, List.sum_cons]; omega
theorem delay_all (l : List Flight) (s : List Int) : delayTo l s l.length = ((l.zip s).map fun p => delayOf p.1 p.2).sum := by
  unfold delayTo
  rw [List.take_of_length_le (by simp; omega), delay_sum]; simp
theorem sum_perm {a b : List Int} (h : a.Perm b) : a.sum = b.sum := by
  induction h with
  | nil => rfl
  | cons x _ ih => simp only [List.sum_cons, ih]
  | swap x y l => simp only [List.sum_cons]; omega
  | trans _ _ h1 h2 => exact h1.trans h2
theorem load_le {caps : List Cap} {l : List Flight} {s : List Int} (h : fitsB caps l s = true) {c : Cap} (hc : c ∈ caps) (t : Int) : ((l.zip s).countP (onP c.f0 t) : Int) ≤ c.f1 := by
  obtain ⟨hcs, hs, _, hn⟩ := fitsB_parts h
  have h0 := (capB_parts ((capsB_parts hcs).2.1 c hc)).2.1
  have hf : fullB c l s = false := by
    unfold noneFull at hn
    rw [List.all_eq_true] at hn
    have := hn c hc
    rwa [Bool.not_eq_true'] at this
  rw [← loadTo_all]
  by_cases h1 : c.f1 < (loadTo l s c.f0 t l.length : Int)
  · have := full_down hs c h0 (t.toNat + 1) t (by omega) h1
    rw [hf] at this; cases this
  · omega
theorem capOf_mem {sec : ByteArray} : ∀ {caps : List Cap}, 0 ≤ capOf sec caps → ∃ c ∈ caps, c.f0 = sec ∧ c.f1 = capOf sec caps
  | [], h => by simp [capOf] at h
  | c :: r, h => by
    unfold capOf at h ⊢
    by_cases e : c.f0 = sec
    · rw [if_pos e]; exact ⟨c, List.mem_cons_self .., e, rfl⟩
    · rw [if_neg e] at h ⊢
      obtain ⟨d, hd, h1, h2⟩ := capOf_mem h
      exact ⟨d, List.mem_cons_of_mem _ hd, h1, h2⟩
/-- Whoever has which slot, all together are no less late than the bound. -/
theorem bound_delay {caps : List Cap} {l : List Flight} {s : List Int} (h : fitsB caps l s = true) (hall : ∀ x ∈ s, 0 ≤ x) (sec : ByteArray) (hc : 1 ≤ capOf sec caps) : runS (capOf sec caps).toNat (sortedTo sec l l.length) [] 0 ≤ delayTo l s l.length := by
  obtain ⟨hcs, hs, ht, hn⟩ := fitsB_parts h
  obtain ⟨hfl, hlen, _⟩ := slotsB_parts hs
  obtain ⟨c, hcm, hcn, hcv⟩ := capOf_mem (sec := sec) (caps := caps) (by omega)
  have hvis : ∀ p ∈ l.zip s, 0 ≤ p.2 ∧ 0 ≤ p.1.f1 ∧ p.1.f1 ≤ p.2 ∧ (∀ v ∈ p.1.f3, 0 ≤ v.f1 ∧ 1 ≤ v.f2) := by
    rintro ⟨f, x⟩ hp
    obtain ⟨i, hi⟩ := List.getElem?_of_mem hp
    obtain ⟨hf, hx⟩ := List.getElem?_zip_eq_some.1 hi
    simp only at hf hx
    have h0 := hall x (List.mem_of_getElem? hx)
    have h1 := flightB_parts ((flightsB_parts hfl).2.1 f (List.mem_of_getElem? hf))
    have h2 := timeB_at ht hf hx h0
    refine ⟨h0, h1.2.1, h2.1, fun v hv => ?_⟩
    have := visitB_stay ((visitsB_parts h1.2.2.2.2.2).2.2.1 v hv)
    exact ⟨this.1, this.2.2.1⟩
  obtain ⟨z, hz⟩ : ∃ z, z = (l.zip s).filter (visP sec) := ⟨_, rfl⟩
  have hzs : ∀ p ∈ z, p ∈ l.zip s ∧ 0 ≤ firstOf p.1.f1 sec p.1.f3 := fun p hp => by
    rw [hz] at hp
    have := List.mem_filter.1 hp
    exact ⟨this.1, by simpa [visP] using this.2⟩
  have hT : comesOf sec l = z.map fun p => firstOf p.1.f1 sec p.1.f3 := by rw [hz]; exact comes_pairs sec l s hlen
  obtain ⟨X, hX⟩ : ∃ X, X = z.map fun p => firstOf p.2 sec p.1.f3 := ⟨_, rfl⟩
  have hle : leL (comesOf sec l) X := by
    rw [hT, hX]
    clear hz hT hX
    induction z with
    | nil => exact trivial
    | cons p r ih =>
      have h1 := hzs p (List.mem_cons_self ..)
      have h2 := hvis p h1.1
      have h3 := firstOf_shift sec p.1.f3 p.1.f1 p.2 (fun v hv => (h2.2.2.2 v hv).1) h2.2.1 h2.1 h1.2
      exact ⟨by show firstOf p.1.f1 sec p.1.f3 ≤ firstOf p.2 sec p.1.f3; rw [h3.1]; have := h2.2.2.1; omega, ih (fun q hq => hzs q (List.mem_cons_of_mem _ hq))⟩
  -- the sorted ones
  obtain ⟨Y, hY⟩ : ∃ Y, Y = X.foldl (fun a t => insI t a) [] := ⟨_, rfl⟩
  have hYs := foldl_ins X [] List.Pairwise.nil
  rw [← hY, List.append_nil] at hYs
  have hso : sortedTo sec l l.length = (comesOf sec l).foldl (fun a t => insI t a) [] := by unfold sortedTo; rw [List.take_length]
  have hlY : leL (sortedTo sec l l.length) Y := by rw [hso, hY]; exact fold_both hle (show leL [] [] from trivial) List.Pairwise.nil List.Pairwise.nil
  have hcnt : ∀ v, Y.count v ≤ (capOf sec caps).toNat := fun v => by
    rw [hYs.2.count_eq v, hX]
    have h1 : (z.map fun p => firstOf p.2 sec p.1.f3).count v = z.countP (fun p => firstOf p.2 sec p.1.f3 == v) := by
      rw [List.count, List.countP_map]; rfl
    have h2 : z.countP (fun p => firstOf p.2 sec p.1.f3 == v) ≤ z.countP (onP sec v) := by
      refine countP_mono' z (fun p hp hv => ?_)
      have h3 := hzs p hp
      have h4 := hvis p h3.1
      obtain ⟨_, _, u, hu, hun, hue⟩ := firstOf_shift sec p.1.f3 p.1.f1 p.2 (fun v hv => (h4.2.2.2 v hv).1) h4.2.1 h4.1 h3.2
      have hv : firstOf p.2 sec p.1.f3 = v := by simpa using hv
      unfold onP hasB
      rw [decide_eq_true h4.1, Bool.true_and, List.any_eq_true]
      refine ⟨u, hu, ?_⟩
      have := (h4.2.2.2 u hu).2
      unfold coversB inB
      rw [decide_eq_true hun, Bool.true_and, decide_eq_true (by omega), decide_eq_true (by omega)]
      rfl
    have h5 : z.countP (onP sec v) ≤ (l.zip s).countP (onP sec v) := by rw [hz]; exact (List.filter_sublist).countP_le
    have h6 := load_le h hcm v
    rw [hcn, hcv] at h6
    omega
  have hsp : ∀ (i : Nat) (a b : Int), Y[i]? = some a → Y[i + (capOf sec caps).toNat]? = some b → a + 1 ≤ b := fun i a b h1 h2 => by
    rcases spread hYs.1 hcnt h1 h2 with h3 | h3
    · exact h3
    · omega
  have hg := greedy_le (by omega) hsp (sortedTo sec l l.length) [] Y (by simp) hlY (fun i x y hx _ => by simp at hx)
  have hsum1 : Y.sum = X.sum := sum_perm hYs.2
  have hsum2 : (sortedTo sec l l.length).sum = (comesOf sec l).sum := by
    have := foldl_ins (comesOf sec l) [] List.Pairwise.nil
    rw [← hso, List.append_nil] at this
    exact sum_perm this.2
  have hd : X.sum - (comesOf sec l).sum ≤ delayTo l s l.length := by
    rw [delay_all, hT, hX, hz]
    clear hg hsum1 hsum2 hsp hcnt hlY hYs hY hso hle hX hT hzs hz Y X z
    have key : ∀ w : List (Flight × Int), (∀ p ∈ w, 0 ≤ p.2 ∧ 0 ≤ p.1.f1 ∧ p.1.f1 ≤ p.2 ∧ (∀ v ∈ p.1.f3, 0 ≤ v.f1 ∧ 1 ≤ v.f2)) → ((w.filter (visP sec)).map fun p => firstOf p.2 sec p.1.f3).sum - ((w.filter (visP sec)).map fun p => firstOf p.1.f1 sec p.1.f3).sum ≤ (w.map fun p => delayOf p.1 p.2).sum := by
      intro w
      induction w with
      | nil => intro _; simp
      | cons p r ih =>
        intro hw
        have h1 := hw p (List.mem_cons_self ..)
        have h2 := ih (fun q hq => hw q (List.mem_cons_of_mem _ hq))
        have hdel : delayOf p.1 p.2 = p.2 - p.1.f1 := by unfold delayOf; rw [if_pos h1.1]
        by_cases hv : 0 ≤ firstOf p.1.f1 sec p.1.f3
        · rw [List.filter_cons_of_pos (by simpa [visP] using hv)]
          simp only [List.map_cons, List.sum_cons]
          have := (firstOf_shift sec p.1.f3 p.1.f1 p.2 (fun v hv => (h1.2.2.2 v hv).1) h1.2.1 h1.1 hv).1
          omega
        · rw [List.filter_cons_of_neg (by simpa [visP] using hv)]
          simp only [List.map_cons, List.sum_cons]
          have := h1.2.2.1
          omega
    exact key _ hvis
  omega
end Core
end Go.Proofs.Ytkfoeplefajkcaa
end

/- Plain laws on runs of loads. -/
section
namespace Go.Proofs.Ytkfoeplefajkcaa
namespace Core
set_option linter.unusedVariables false
set_option linter.unusedSimpArgs false

def lastR (o : List Run) : Run := o.getD (o.length - 1) ⟨0, 0, 0⟩
def joinB (o : List Run) (t n : Int) : Bool := decide (0 < o.length) && decide ((lastR o).f1 = t - 1) && decide ((lastR o).f2 = n)
def stepRun (o : List Run) (t n : Int) : List Run := if joinB o t n = true then o.set (o.length - 1) ⟨(lastR o).f0, t, (lastR o).f2⟩ else o ++ [⟨t, t, n⟩]
def runsOf (cnt : Int → Int) (ts : List Int) : List Run := ts.foldl (fun o t => stepRun o t (cnt t)) []
theorem stepRun_len (o : List Run) (t n : Int) : (stepRun o t n).length ≤ o.length + 1 := by
  unfold stepRun
  split <;> simp
theorem runsOf_snoc (cnt : Int → Int) (ts : List Int) (t : Int) : runsOf cnt (ts ++ [t]) = stepRun (runsOf cnt ts) t (cnt t) := by unfold runsOf; rw [List.foldl_append]; rfl
theorem runsOf_len (cnt : Int → Int) (ts : List Int) : (runsOf cnt ts).length ≤ ts.length := by
  have : ∀ (ts : List Int) (o : List Run), (ts.foldl (fun o t => stepRun o t (cnt t)) o).length ≤ o.length + ts.length := by
    intro ts
    induction ts with
    | nil => intro o; simp
    | cons t r ih =>
      intro o
      rw [List.foldl_cons]
      have h1 := ih (stepRun o t (cnt t))
      have h2 := stepRun_len o t (cnt t)
      rw [List.length_cons]; omega
  have := this ts []
  unfold runsOf
  simpa using this
/-- The ticks below n that p holds of. -/
def ticksTo (p : Int → Bool) : Nat → List Int
  | 0 => []
  | n + 1 => if p n = true then ticksTo p n ++ [(n : Int)] else ticksTo p n
theorem ticks_mem (p : Int → Bool) : ∀ (n : Nat) (t : Int), t ∈ ticksTo p n ↔ 0 ≤ t ∧ t < n ∧ p t = true
  | 0, t => by simp [ticksTo]; omega
  | n + 1, t => by
    unfold ticksTo
    have ih := ticks_mem p n t
    split
    · rename_i hp
      rw [List.mem_append, ih, List.mem_singleton]
      constructor
      · rintro (h | rfl)
        · exact ⟨h.1, by omega, h.2.2⟩
        · exact ⟨by omega, by omega, hp⟩
      · rintro ⟨h0, h1, h2⟩
        by_cases e : t = n
        · exact .inr e
        · exact .inl ⟨h0, by omega, h2⟩
    · rename_i hp
      rw [ih]
      constructor
      · rintro ⟨h0, h1, h2⟩; exact ⟨h0, by omega, h2⟩
      · rintro ⟨h0, h1, h2⟩
        refine ⟨h0, ?_, h2⟩
        by_cases e : t = n
        · subst e; exact absurd h2 hp
        · omega
theorem ticks_sorted (p : Int → Bool) : ∀ n, (ticksTo p n).Pairwise (· < ·)
  | 0 => List.Pairwise.nil
  | n + 1 => by
    unfold ticksTo
    split
    · rw [List.pairwise_append]
      refine ⟨ticks_sorted p n, List.pairwise_singleton _ _, fun a ha b hb => ?_⟩
      rw [List.mem_singleton] at hb
      rw [hb]
      exact ((ticks_mem p n a).1 ha).2.1
    · exact ticks_sorted p n
theorem ticks_len (p : Int → Bool) : ∀ n, (ticksTo p n).length ≤ n
  | 0 => Nat.le_refl _
  | n + 1 => by
    unfold ticksTo
    have := ticks_len p n
    split
    · rw [List.length_append, List.length_singleton]; omega
    · omega
theorem sorted_ext : ∀ a b : List Int, a.Pairwise (· < ·) → b.Pairwise (· < ·) → (∀ x, x ∈ a ↔ x ∈ b) → a = b
  | [], [], _, _, _ => rfl
  | [], y :: b, _, _, h => by have := (h y).2 (List.mem_cons_self ..); simp at this
  | x :: a, [], _, _, h => by have := (h x).1 (List.mem_cons_self ..); simp at this
  | x :: a, y :: b, ha, hb, h => by
    rw [List.pairwise_cons] at ha hb
    have e : x = y := by
      rcases List.mem_cons.1 ((h x).1 (List.mem_cons_self ..)) with h1 | h1
      · exact h1
      · rcases List.mem_cons.1 ((h y).2 (List.mem_cons_self ..)) with h2 | h2
        · exact h2.symm
        · have := ha.1 y h2; have := hb.1 x h1; omega
    subst e
    rw [sorted_ext a b ha.2 hb.2 (fun z => ⟨fun hz => ?_, fun hz => ?_⟩)]
    · rcases List.mem_cons.1 ((h z).1 (List.mem_cons_of_mem _ hz)) with h1 | h1
      · have := ha.1 z hz; omega
      · exact h1
    · rcases List.mem_cons.1 ((h z).2 (List.mem_cons_of_mem _ hz)) with h1 | h1
      · have := hb.1 z hz; omega
      · exact h1
theorem ticks_empty {p : Int → Bool} {n : Nat} (h : ∀ t : Int, t < n → p t = false) : ticksTo p n = [] := by
  cases e : ticksTo p n with
  | nil => rfl
  | cons a r =>
    have : a ∈ ticksTo p n := by rw [e]; exact List.mem_cons_self ..
    obtain ⟨_, h1, h2⟩ := (ticks_mem p n a).1 this
    rw [h a h1] at h2; cases h2
theorem ticks_stay {p : Int → Bool} {n m : Nat} (h : ∀ t : Int, n ≤ t → p t = false) (hm : ∀ t : Int, m ≤ t → p t = false) : ticksTo p n = ticksTo p m := by
  refine sorted_ext _ _ (ticks_sorted p n) (ticks_sorted p m) (fun x => ?_)
  rw [ticks_mem, ticks_mem]
  constructor
  · rintro ⟨h0, h1, h2⟩
    refine ⟨h0, ?_, h2⟩
    rcases Int.lt_or_le x m with h3 | h3
    · exact h3
    · rw [hm x h3] at h2; cases h2
  · rintro ⟨h0, h1, h2⟩
    refine ⟨h0, ?_, h2⟩
    rcases Int.lt_or_le x n with h3 | h3
    · exact h3
    · rw [h x h3] at h2; cases h2
/-- How many are there. -/
def ldN (l : List Flight) (s : List Int) (sec : ByteArray) (t : Int) : Int := (loadTo l s sec t l.length : Int)
def someB (l : List Flight) (s : List Int) (sec : ByteArray) (t : Int) : Bool := decide (ldN l s sec t ≠ 0)
def runsN (l : List Flight) (s : List Int) (sec : ByteArray) (n : Nat) : List Run := runsOf (ldN l s sec) (ticksTo (someB l s sec) n)
def runsB (l : List Flight) (s : List Int) (sec : ByteArray) : List Run := if slotsB l s = true then runsN l s sec 10300 else []
theorem runsN_step (l : List Flight) (s : List Int) (sec : ByteArray) (n : Nat) : runsN l s sec (n + 1) = if ldN l s sec n = 0 then runsN l s sec n else stepRun (runsN l s sec n) n (ldN l s sec n) := by
  unfold runsN
  rw [ticksTo]
  by_cases h : ldN l s sec n = 0
  · rw [if_pos h, if_neg (by simp [someB, h])]
  · rw [if_neg h, if_pos (by simp [someB, h]), runsOf_snoc]
theorem runsN_len (l : List Flight) (s : List Int) (sec : ByteArray) (n : Nat) : (runsN l s sec n).length ≤ n := Nat.le_trans (runsOf_len _ _) (ticks_len _ _)
theorem runsB_len (l : List Flight) (s : List Int) (sec : ByteArray) : (runsB l s sec).length ≤ 10000000 := by
  unfold runsB
  split
  · have := runsN_len l s sec 10300; omega
  · simp
/-- The ends that the reference goes by. -/
def EndsOk (l : List Flight) (s : List Int) (lo hi : Int) : Prop := 0 ≤ lo ∧ lo ≤ 10290 ∧ -1 ≤ hi ∧ hi ≤ 10290 ∧ ∀ p ∈ l.zip s, 0 ≤ p.2 → lo ≤ p.2 ∧ ∀ v ∈ p.1.f3, p.2 + v.f1 + v.f2 ≤ hi
theorem last_max : ∀ vs : List Visit, linkB apartB vs = true → (∀ v ∈ vs, 0 ≤ v.f1 ∧ 1 ≤ v.f2) → ∀ u, vs[vs.length - 1]? = some u → ∀ v ∈ vs, v.f1 + v.f2 ≤ u.f1 + u.f2
  | [], _, _, _, _, _, hv => by cases hv
  | [a], _, _, u, hu, v, hv => by
    rw [List.mem_singleton] at hv
    simp at hu
    rw [hv, hu]; exact Int.le_refl _
  | a :: b :: r, hl, h0, u, hu, v, hv => by
    have hu' : (b :: r)[(b :: r).length - 1]? = some u := by
      simp only [List.length_cons] at hu ⊢
      rw [show r.length + 1 + 1 - 1 = (r.length + 1 - 1) + 1 by omega, List.getElem?_cons_succ] at hu
      exact hu
    have hl' : linkB apartB (b :: r) = true := by
      simp only [linkB, Bool.and_eq_true] at hl; exact hl.2
    rcases List.mem_cons.1 hv with rfl | hv
    · have hm : u ∈ b :: r := List.mem_of_getElem? hu'
      have := apart_all (b :: r) v hl (fun w hw => (h0 w (List.mem_cons_of_mem _ hw)).2) u hm
      have := (h0 u (List.mem_cons_of_mem _ hm)).2
      omega
    · exact last_max (b :: r) hl' (fun w hw => h0 w (List.mem_cons_of_mem _ hw)) u hu' v hv
theorem someB_in {l : List Flight} {s : List Int} {sec : ByteArray} {t lo hi : Int} (hs : slotsB l s = true) (he : EndsOk l s lo hi) (h : someB l s sec t = true) : lo ≤ t ∧ t < hi := by
  unfold someB ldN at h
  rw [decide_eq_true_eq, loadTo_all] at h
  have hpos : 0 < (l.zip s).countP (onP sec t) := by omega
  rw [List.countP_pos_iff] at hpos
  obtain ⟨p, hp, hon⟩ := hpos
  unfold onP hasB at hon
  rw [Bool.and_eq_true, decide_eq_true_eq, List.any_eq_true] at hon
  obtain ⟨h0, v, hv, hc⟩ := hon
  obtain ⟨e1, e2⟩ := he.2.2.2.2 p hp h0
  have e3 := e2 v hv
  unfold coversB inB at hc
  simp only [Bool.and_eq_true, decide_eq_true_eq] at hc
  obtain ⟨hfl, hlen, _⟩ := slotsB_parts hs
  have hf := (flightsB_parts hfl).2.1 p.1 (List.of_mem_zip hp).1
  have hb := visitB_stay ((visitsB_parts (flightB_parts hf).2.2.2.2.2).2.2.1 v hv)
  omega
theorem someB_out {l : List Flight} {s : List Int} {sec : ByteArray} {t lo hi : Int} (hs : slotsB l s = true) (he : EndsOk l s lo hi) (h : t < lo ∨ hi ≤ t) : someB l s sec t = false := by
  cases e : someB l s sec t with
  | false => rfl
  | true => have := someB_in hs he e; omega
theorem runsN_first {l : List Flight} {s : List Int} {sec : ByteArray} {lo hi : Int} (hs : slotsB l s = true) (he : EndsOk l s lo hi) : runsN l s sec lo.toNat = [] := by
  unfold runsN
  rw [ticks_empty (fun t ht => someB_out hs he (.inl (by have := he.1; omega)))]
  rfl
theorem runsN_last {l : List Flight} {s : List Int} {sec : ByteArray} {lo hi : Int} (hs : slotsB l s = true) (he : EndsOk l s lo hi) (n : Nat) (hn : hi < n) : runsN l s sec n = runsB l s sec := by
  unfold runsB
  rw [if_pos hs]
  unfold runsN
  rw [ticks_stay (n := n) (m := 10300) (fun t ht => someB_out hs he (.inr (by omega))) (fun t ht => someB_out hs he (.inr (by have := he.2.2.2.1; omega)))]
end Core
end Go.Proofs.Ytkfoeplefajkcaa
end

/- Plain: the runs of a sector are its loads, tick by tick. -/
section
namespace Go.Proofs.Ytkfoeplefajkcaa
namespace Core
set_option linter.unusedVariables false
set_option linter.unusedSimpArgs false

structure RunsOk (f : Int → Int) (n : Int) (rs : List Run) : Prop where
  good : ∀ (i : Nat) (r : Run), rs[i]? = some r → 0 ≤ r.f0 ∧ r.f0 ≤ r.f1 ∧ r.f1 < n ∧ 1 ≤ r.f2 ∧ ∀ t, r.f0 ≤ t → t ≤ r.f1 → f t = r.f2
  apart : ∀ (i : Nat) (a b : Run), rs[i]? = some a → rs[i + 1]? = some b → a.f1 < b.f0 ∧ ¬ (b.f0 = a.f1 + 1 ∧ b.f2 = a.f2)
  all : ∀ t, 0 ≤ t → t < n → f t ≠ 0 → ∃ (i : Nat) (r : Run), rs[i]? = some r ∧ r.f0 ≤ t ∧ t ≤ r.f1
theorem RunsOk.nil (f : Int → Int) : RunsOk f 0 [] := ⟨fun i r h => by simp at h, fun i a b h => by simp at h, fun t h0 h1 => by omega⟩
theorem RunsOk.zero {f : Int → Int} (h : ∀ t, f t = 0) (n : Int) : RunsOk f n [] := ⟨fun i r h => by simp at h, fun i a b h => by simp at h, fun t _ _ h2 => absurd (h t) h2⟩
theorem RunsOk.skip {f : Int → Int} {n : Int} {rs : List Run} (h : RunsOk f n rs) (h0 : f n = 0) : RunsOk f (n + 1) rs :=
  ⟨fun i r hr => by obtain ⟨a, b, c, d, e⟩ := h.good i r hr; exact ⟨a, b, by omega, d, e⟩, h.apart, fun t ht0 ht1 hne => by
    by_cases e : t = n
    · subst e; exact absurd h0 hne
    · exact h.all t ht0 (by omega) hne⟩
theorem lastR_at {o : List Run} (h : 0 < o.length) : o[o.length - 1]? = some (lastR o) := by
  unfold lastR
  rw [List.getD_eq_getElem?_getD, List.getElem?_eq_getElem (by omega)]
  rfl
theorem RunsOk.step {f : Int → Int} {n : Int} {rs : List Run} (h : RunsOk f n rs) (hn : 0 ≤ n) (h1 : 1 ≤ f n) : RunsOk f (n + 1) (stepRun rs n (f n)) := by
  unfold stepRun
  by_cases hj : joinB rs n (f n) = true
  · rw [if_pos hj]
    unfold joinB at hj
    simp only [Bool.and_eq_true, decide_eq_true_eq] at hj
    obtain ⟨⟨hl, ht⟩, hv⟩ := hj
    have hlast := lastR_at hl
    obtain ⟨g0, g1, g2, g3, g4⟩ := h.good _ _ hlast
    obtain ⟨L, hL⟩ : ∃ L, L = lastR rs := ⟨_, rfl⟩
    rw [← hL] at hlast ht hv g0 g1 g2 g3 g4 ⊢
    have hget : ∀ i, (rs.set (rs.length - 1) ⟨L.f0, n, L.f2⟩)[i]? = if i = rs.length - 1 then some ⟨L.f0, n, L.f2⟩ else rs[i]? := fun i => by
      by_cases e : i = rs.length - 1
      · subst e; rw [if_pos rfl, List.getElem?_set_self (by omega)]
      · rw [if_neg e, List.getElem?_set_ne (fun e2 => e e2.symm)]
    refine ⟨fun i r hr => ?_, fun i a b ha hb => ?_, fun t ht0 ht1 hne => ?_⟩
    · rw [hget] at hr
      split at hr
      · rw [← Option.some.inj hr]
        refine ⟨g0, by show L.f0 ≤ n; omega, by show n < n + 1; omega, g3, fun t h0 h2 => ?_⟩
        have h2 : t ≤ n := h2
        show f t = L.f2
        by_cases e : t = n
        · rw [e, ← hv]
        · exact g4 t h0 (by omega)
      · obtain ⟨a, b, c, d, e⟩ := h.good i r hr
        exact ⟨a, b, by omega, d, e⟩
    · rw [hget] at ha hb
      split at ha
      · rename_i e
        rw [if_neg (by omega)] at hb
        have := (List.getElem?_eq_some_iff.1 hb).1
        omega
      · split at hb
        · rename_i e1 e2
          rw [← Option.some.inj hb]
          have := h.apart i a L ha (by rw [e2]; exact hlast)
          exact this
        · exact h.apart i a b ha hb
    · by_cases e : t = n
      · refine ⟨rs.length - 1, ⟨L.f0, n, L.f2⟩, by rw [hget, if_pos rfl], by show L.f0 ≤ t; omega, by show t ≤ n; omega⟩
      · obtain ⟨i, r, hr, h0, h2⟩ := h.all t ht0 (by omega) hne
        by_cases ei : i = rs.length - 1
        · subst ei
          rw [hlast] at hr
          rw [← Option.some.inj hr] at h0 h2
          exact ⟨rs.length - 1, ⟨L.f0, n, L.f2⟩, by rw [hget, if_pos rfl], h0, by show t ≤ n; omega⟩
        · exact ⟨i, r, by rw [hget, if_neg ei]; exact hr, h0, h2⟩
  · rw [if_neg hj]
    have hget : ∀ i, (rs ++ [⟨n, n, f n⟩])[i]? = if i = rs.length then some ⟨n, n, f n⟩ else rs[i]? := fun i => by
      by_cases e : i = rs.length
      · subst e; rw [if_pos rfl, List.getElem?_append_right (Nat.le_refl _)]; simp
      · rw [if_neg e]
        by_cases e2 : i < rs.length
        · rw [List.getElem?_append_left e2]
        · rw [List.getElem?_append_right (by omega), List.getElem?_eq_none (by omega : rs.length ≤ i)]
          rw [List.getElem?_eq_none (by simp; omega)]
    refine ⟨fun i r hr => ?_, fun i a b ha hb => ?_, fun t ht0 ht1 hne => ?_⟩
    · rw [hget] at hr
      split at hr
      · rw [← Option.some.inj hr]
        exact ⟨hn, Int.le_refl _, by show n < n + 1; omega, h1, fun t h0 h2 => by
          have h0 : n ≤ t := h0
          have h2 : t ≤ n := h2
          show f t = f n
          rw [show t = n by omega]⟩
      · obtain ⟨a, b, c, d, e⟩ := h.good i r hr
        exact ⟨a, b, by omega, d, e⟩
    · rw [hget] at ha hb
      split at ha
      · rename_i e
        rw [if_neg (by omega)] at hb
        have := (List.getElem?_eq_some_iff.1 hb).1
        omega
      · split at hb
        · rename_i e1 e2
          rw [← Option.some.inj hb]
          have ea : a = lastR rs := by
            have hl : 0 < rs.length := by omega
            have h3 := lastR_at hl
            rw [show rs.length - 1 = i by omega, ha] at h3
            exact Option.some.inj h3
          have hg := (h.good i a ha)
          refine ⟨by show a.f1 < n; omega, fun he => hj ?_⟩
          have he1 : n = a.f1 + 1 := he.1
          have he2 : f n = a.f2 := he.2
          unfold joinB
          rw [← ea, decide_eq_true (by omega : 0 < rs.length), decide_eq_true (by omega : a.f1 = n - 1), decide_eq_true he2.symm]
          rfl
        · exact h.apart i a b ha hb
    · by_cases e : t = n
      · exact ⟨rs.length, ⟨n, n, f n⟩, by rw [hget, if_pos rfl], by show n ≤ t; omega, by show t ≤ n; omega⟩
      · obtain ⟨i, r, hr, h0, h2⟩ := h.all t ht0 (by omega) hne
        have := (List.getElem?_eq_some_iff.1 hr).1
        exact ⟨i, r, by rw [hget, if_neg (by omega)]; exact hr, h0, h2⟩
theorem runsN_ok (l : List Flight) (s : List Int) (sec : ByteArray) : ∀ n : Nat, RunsOk (ldN l s sec) n (runsN l s sec n)
  | 0 => RunsOk.nil _
  | n + 1 => by
    have ih := runsN_ok l s sec n
    rw [runsN_step]
    by_cases h : ldN l s sec n = 0
    · rw [if_pos h]; exact ih.skip h
    · rw [if_neg h]
      have h0 : 0 ≤ ldN l s sec n := by unfold ldN; omega
      exact ih.step (by omega) (by omega)
theorem runsB_ok (l : List Flight) (s : List Int) (sec : ByteArray) : RunsOk (loadN l s sec) 10300 (runsB l s sec) := by
  unfold runsB
  by_cases h : slotsB l s = true
  · rw [if_pos h]
    have := runsN_ok l s sec 10300
    have e : loadN l s sec = ldN l s sec := by funext t; unfold loadN; rw [if_pos h]; rfl
    rw [e]; exact this
  · rw [if_neg h]
    exact RunsOk.zero (fun t => by unfold loadN; rw [if_neg h]) _
theorem runs_rise {f : Int → Int} {n : Int} {rs : List Run} (h : RunsOk f n rs) : ∀ (d i : Nat) (a b : Run), rs[i]? = some a → rs[i + 1 + d]? = some b → a.f1 < b.f0
  | 0, i, a, b, ha, hb => (h.apart i a b ha hb).1
  | d + 1, i, a, b, ha, hb => by
    have hl := (List.getElem?_eq_some_iff.1 hb).1
    have hc : rs[i + 1 + d]? = some rs[i + 1 + d] := List.getElem?_eq_getElem (by omega)
    have h1 := runs_rise h d i a _ ha hc
    have h2 := (h.apart (i + 1 + d) _ b hc (by rw [show i + 1 + d + 1 = i + 1 + (d + 1) by omega]; exact hb)).1
    have h3 := (h.good _ _ hc).2.1
    omega
/-- What the law reckons at a tick. -/
theorem runs_at {f : Int → Int} {rs : List Run} (h : RunsOk f 10300 rs) {t : Int} (h0 : 0 ≤ t) (h1 : t < 10300) {k : Nat} (hk : k ≤ rs.length) (hlo : ∀ (i : Nat) (r : Run), i < k → rs[i]? = some r → r.f1 < t) (hhi : ∀ r, rs[k]? = some r → t ≤ r.f1) :
    (∀ r, rs[k]? = some r → r.f0 ≤ t → f t = r.f2) ∧ ((∀ r, rs[k]? = some r → ¬ r.f0 ≤ t) → f t = 0) := by
  refine ⟨fun r hr hle => (h.good k r hr).2.2.2.2 t hle (hhi r hr), fun hno => ?_⟩
  by_cases hz : f t = 0
  · exact hz
  · exfalso
    obtain ⟨i, r, hr, g0, g1⟩ := h.all t h0 h1 hz
    rcases Nat.lt_trichotomy i k with hik | hik | hik
    · have := hlo i r hik hr; omega
    · subst hik; exact hno r hr g0
    · have hkl : k < rs.length := by have := (List.getElem?_eq_some_iff.1 hr).1; omega
      have hc : rs[k]? = some rs[k] := List.getElem?_eq_getElem hkl
      have h2 := runs_rise h (i - k - 1) k _ r hc (by rw [show k + 1 + (i - k - 1) = i by omega]; exact hr)
      have h3 := hhi _ hc
      omega
end Core
end Go.Proofs.Ytkfoeplefajkcaa
end
