/- Plain laws on loads: who is in a sector at a tick, counted by visits and by flights. -/
import Derived.Test.YtgoepnbajpgkhaaCore2
namespace Go.Proofs.Ytgoepnbajpgkhaa
namespace Core

def coversB (slot : Int) (sec : ByteArray) (t : Int) (v : Visit) : Bool := decide (v.f0 = sec) && inB t (slot + v.f1) (slot + v.f1 + v.f2 - 1)
def hasB (slot : Int) (sec : ByteArray) (t : Int) (vs : List Visit) : Bool := vs.any (coversB slot sec t)
def cntV (slot : Int) (sec : ByteArray) (t : Int) (vs : List Visit) : Nat := vs.countP (coversB slot sec t)
def cntP (sec : ByteArray) (t : Int) (p : Flight × Int) : Nat := if 0 ≤ p.2 then cntV p.2 sec t p.1.f3 else 0
def onP (sec : ByteArray) (t : Int) (p : Flight × Int) : Bool := decide (0 ≤ p.2) && hasB p.2 sec t p.1.f3
/-- The visits of a sector at a tick. -/
def cntTo (l : List Flight) (s : List Int) (sec : ByteArray) (t : Int) (k : Nat) : Nat := (((l.zip s).take k).map (cntP sec t)).sum
/-- The flights in a sector at a tick. -/
def loadTo (l : List Flight) (s : List Int) (sec : ByteArray) (t : Int) (k : Nat) : Nat := ((l.zip s).take k).countP (onP sec t)
def loadN (l : List Flight) (s : List Int) (sec : ByteArray) (t : Int) : Int := if slotsB l s = true then (loadTo l s sec t l.length : Int) else 0

theorem zip_at {l : List Flight} {s : List Int} {k : Nat} {f : Flight} {x : Int} (hf : l[k]? = some f) (hx : s[k]? = some x) : (l.zip s)[k]? = some (f, x) := by
  rw [List.getElem?_zip_eq_some]; exact ⟨hf, hx⟩
theorem cntTo_zero (l : List Flight) (s : List Int) (sec : ByteArray) (t : Int) : cntTo l s sec t 0 = 0 := by simp [cntTo]
theorem loadTo_zero (l : List Flight) (s : List Int) (sec : ByteArray) (t : Int) : loadTo l s sec t 0 = 0 := by simp [loadTo]
theorem cntTo_step {l : List Flight} {s : List Int} {k : Nat} {f : Flight} {x : Int} (hf : l[k]? = some f) (hx : s[k]? = some x) (sec : ByteArray) (t : Int) : cntTo l s sec t (k + 1) = cntTo l s sec t k + cntP sec t (f, x) := by
  unfold cntTo
  rw [List.take_add_one, zip_at hf hx]
  simp
theorem loadTo_step {l : List Flight} {s : List Int} {k : Nat} {f : Flight} {x : Int} (hf : l[k]? = some f) (hx : s[k]? = some x) (sec : ByteArray) (t : Int) : loadTo l s sec t (k + 1) = loadTo l s sec t k + (if onP sec t (f, x) then 1 else 0) := by
  unfold loadTo
  rw [List.take_add_one, zip_at hf hx]
  simp [List.countP_append, List.countP_cons]
theorem loadTo_le (l : List Flight) (s : List Int) (sec : ByteArray) (t : Int) (k : Nat) : loadTo l s sec t k ≤ k := by
  have h1 : ((l.zip s).take k).countP (onP sec t) ≤ ((l.zip s).take k).length := List.countP_le_length
  have h2 : ((l.zip s).take k).length ≤ k := by simp; omega
  unfold loadTo
  omega
theorem cntV_zero (x : Int) (sec : ByteArray) (t : Int) (vs : List Visit) : cntV x sec t (vs.take 0) = 0 := by simp [cntV]
theorem cntV_step {vs : List Visit} {k : Nat} {v : Visit} (h : vs[k]? = some v) (x : Int) (sec : ByteArray) (t : Int) : cntV x sec t (vs.take (k + 1)) = cntV x sec t (vs.take k) + (if coversB x sec t v then 1 else 0) := by
  unfold cntV
  rw [List.take_add_one, h]
  simp [List.countP_append, List.countP_cons]

/-- In a row of visits that do not overlap, each that comes later begins behind the end of the first. -/
theorem apart_all : ∀ (r : List Visit) (v : Visit), linkB apartB (v :: r) = true → (∀ u ∈ r, 1 ≤ u.f2) → ∀ u ∈ r, v.f1 + v.f2 ≤ u.f1
  | [], _, _, _, _, hu => by cases hu
  | y :: r, v, h, hp, u, hu => by
    simp only [linkB, Bool.and_eq_true] at h
    have h1 : v.f1 + v.f2 ≤ y.f1 := by simpa [apartB] using h.1
    rcases List.mem_cons.1 hu with rfl | hu'
    · exact h1
    · have h2 := apart_all r y h.2 (fun u hu => hp u (List.mem_cons_of_mem _ hu)) u hu'
      have h3 := hp y (List.mem_cons_self ..)
      omega
theorem visitB_stay {v : Visit} (h : visitB v = true) : 0 ≤ v.f1 ∧ v.f1 ≤ 200 ∧ 1 ≤ v.f2 ∧ v.f2 ≤ 30 := by
  simp only [visitB, inB, Bool.and_eq_true, decide_eq_true_eq] at h
  exact ⟨h.1.2.1, h.1.2.2, h.2.1, h.2.2⟩
theorem cnt_one : ∀ (vs : List Visit) (x : Int) (sec : ByteArray) (t : Int), linkB apartB vs = true → (∀ v ∈ vs, visitB v = true) → cntV x sec t vs = if hasB x sec t vs then 1 else 0
  | [], _, _, _, _, _ => rfl
  | v :: r, x, sec, t, h, hv => by
    have hl : linkB apartB r = true := by
      cases r with
      | nil => rfl
      | cons y r => simp only [linkB, Bool.and_eq_true] at h; exact h.2
    have ih := cnt_one r x sec t hl (fun u hu => hv u (List.mem_cons_of_mem _ hu))
    unfold cntV hasB at ih ⊢
    rw [List.countP_cons, List.any_cons]
    cases hc : coversB x sec t v with
    | false => simpa using ih
    | true =>
      have hap := apart_all r v h (fun u hu => (visitB_stay (hv u (List.mem_cons_of_mem _ hu))).2.2.1)
      have hz : r.countP (coversB x sec t) = 0 := by
        rw [List.countP_eq_zero]
        intro u hu hcu
        have h1 := hap u hu
        simp only [coversB, inB, Bool.and_eq_true, decide_eq_true_eq] at hc hcu
        omega
      rw [hz]
      simp
theorem visitsB_parts {l : List Visit} (h : visitsB l = true) : 1 ≤ l.length ∧ l.length ≤ 5 ∧ (∀ v ∈ l, visitB v = true) ∧ linkB apartB l = true := by
  simp only [visitsB, inB, Bool.and_eq_true, decide_eq_true_eq, List.all_eq_true] at h
  exact ⟨by omega, by omega, h.1.2, h.2⟩
theorem cntP_on {f : Flight} (h : flightB f = true) (x : Int) (sec : ByteArray) (t : Int) : cntP sec t (f, x) = if onP sec t (f, x) then 1 else 0 := by
  have hv := visitsB_parts (flightB_parts h).2.2.2.2.2
  unfold cntP onP
  by_cases hx : 0 ≤ x
  · simp only [hx, if_true, decide_true, Bool.true_and]
    exact cnt_one _ _ _ _ hv.2.2.2 hv.2.2.1
  · simp [hx]
theorem cnt_load {l : List Flight} (h : ∀ f ∈ l, flightB f = true) (s : List Int) (sec : ByteArray) (t : Int) : ∀ k, cntTo l s sec t k = loadTo l s sec t k
  | 0 => by rw [cntTo_zero, loadTo_zero]
  | k + 1 => by
    have ih := cnt_load h s sec t k
    cases hz : (l.zip s)[k]? with
    | none =>
      unfold cntTo loadTo at ih ⊢
      rw [List.take_add_one, hz]
      simpa using ih
    | some p =>
      obtain ⟨f, x⟩ := p
      obtain ⟨hf, hx⟩ := List.getElem?_zip_eq_some.1 hz
      rw [cntTo_step hf hx, loadTo_step hf hx, ih, cntP_on (h f (List.mem_of_getElem? hf))]
end Core
end Go.Proofs.Ytgoepnbajpgkhaa
