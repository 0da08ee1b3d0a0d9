/- Plain laws on what fits: a load above a cap is met where some visit begins. -/
import Derived.Test.YtgoepnbajpgkhaaCore3
namespace Go.Proofs.Ytgoepnbajpgkhaa
namespace Core

def fullV (c : Cap) (l : List Flight) (s : List Int) (x : Int) (v : Visit) : Bool := decide (v.f0 = c.f0) && decide (c.f1 < (loadTo l s c.f0 (x + v.f1) l.length : Int))
def fullP (c : Cap) (l : List Flight) (s : List Int) (p : Flight × Int) : Bool := decide (0 ≤ p.2) && p.1.f3.any (fullV c l s p.2)
/-- A sector has more than it can guide where some visit begins. -/
def fullB (c : Cap) (l : List Flight) (s : List Int) : Bool := (l.zip s).any (fullP c l s)
def noneFull (caps : List Cap) (l : List Flight) (s : List Int) : Bool := caps.all fun c => !fullB c l s
def timeP (p : Flight × Int) : Bool := !decide (0 ≤ p.2) || inB p.2 p.1.f1 (p.1.f1 + p.1.f2)
def timeB (l : List Flight) (s : List Int) : Bool := (l.zip s).all timeP
def fitsB (caps : List Cap) (l : List Flight) (s : List Int) : Bool := capsB caps && slotsB l s && timeB l s && noneFull caps l s

theorem covers_back {x t : Int} {sec : ByteArray} {v : Visit} (h : coversB x sec t v = true) (hn : x + v.f1 ≠ t) : coversB x sec (t - 1) v = true := by
  simp only [coversB, inB, Bool.and_eq_true, decide_eq_true_eq] at h ⊢
  exact ⟨h.1, by omega, by omega⟩
theorem countP_mono' {α : Type} {p q : α → Bool} : ∀ (l : List α), (∀ x ∈ l, p x = true → q x = true) → l.countP p ≤ l.countP q
  | [], _ => Nat.le_refl _
  | a :: r, h => by
    have ih := countP_mono' r (fun x hx => h x (List.mem_cons_of_mem _ hx))
    rw [List.countP_cons, List.countP_cons]
    cases hp : p a with
    | false => simp; omega
    | true => rw [h a (List.mem_cons_self ..) hp]; simp; omega
theorem loadTo_all (l : List Flight) (s : List Int) (sec : ByteArray) (t : Int) : loadTo l s sec t l.length = (l.zip s).countP (onP sec t) := by
  unfold loadTo
  rw [List.take_of_length_le (by simp; omega)]
/-- From a tick with too many one comes down to one where somebody comes in. -/
theorem full_down {l : List Flight} {s : List Int} (hs : slotsB l s = true) (c : Cap) (hc : 0 ≤ c.f1) : ∀ (n : Nat) (t : Int), t < n → c.f1 < (loadTo l s c.f0 t l.length : Int) → fullB c l s = true := by
  have hfs := (flightsB_parts (slotsB_parts hs).1).2.1
  have hpos : ∀ p ∈ l.zip s, ∀ t, onP c.f0 t p = true → 0 ≤ t := by
    rintro ⟨f, x⟩ hp t h
    have hv := (visitsB_parts (flightB_parts (hfs f (List.of_mem_zip hp).1)).2.2.2.2.2).2.2.1
    simp only [onP, hasB, Bool.and_eq_true, decide_eq_true_eq, List.any_eq_true] at h
    obtain ⟨h0, v, hvm, hcov⟩ := h
    have h1 := visitB_stay (hv v hvm)
    simp only [coversB, inB, Bool.and_eq_true, decide_eq_true_eq] at hcov
    omega
  intro n
  induction n with
  | zero =>
    intro t ht h
    rw [loadTo_all] at h
    have h1 : 0 < (l.zip s).countP (onP c.f0 t) := by omega
    obtain ⟨p, hp, hon⟩ := List.countP_pos_iff.1 h1
    have := hpos p hp t hon
    omega
  | succ n ih =>
    intro t ht h
    by_cases hstart : ∃ p ∈ l.zip s, 0 ≤ p.2 ∧ ∃ v ∈ p.1.f3, v.f0 = c.f0 ∧ p.2 + v.f1 = t
    · obtain ⟨p, hp, h0, v, hv, hsec, rfl⟩ := hstart
      unfold fullB
      refine List.any_eq_true.2 ⟨p, hp, ?_⟩
      simp only [fullP, Bool.and_eq_true, decide_eq_true_eq, List.any_eq_true]
      exact ⟨h0, v, hv, by simp only [fullV, Bool.and_eq_true, decide_eq_true_eq]; exact ⟨hsec, h⟩⟩
    · refine ih (t - 1) (by omega) ?_
      have hm : loadTo l s c.f0 t l.length ≤ loadTo l s c.f0 (t - 1) l.length := by
        rw [loadTo_all, loadTo_all]
        refine countP_mono' _ fun p hp hon => ?_
        simp only [onP, hasB, Bool.and_eq_true, decide_eq_true_eq, List.any_eq_true] at hon ⊢
        obtain ⟨h0, v, hv, hcov⟩ := hon
        refine ⟨h0, v, hv, covers_back hcov fun e => hstart ⟨p, hp, h0, v, hv, ?_, e⟩⟩
        simp only [coversB, Bool.and_eq_true, decide_eq_true_eq] at hcov
        exact hcov.1
      omega
theorem full_of_over {l : List Flight} {s : List Int} (hs : slotsB l s = true) (c : Cap) (hc : 0 ≤ c.f1) (t : Int) (h : c.f1 < (cntTo l s c.f0 t l.length : Int)) : fullB c l s = true := by
  rw [cnt_load (flightsB_parts (slotsB_parts hs).1).2.1] at h
  exact full_down hs c hc (t.toNat + 1) t (by omega) h
theorem not_full {l : List Flight} {s : List Int} (hs : slotsB l s = true) (c : Cap) (h : ∀ t : Int, (cntTo l s c.f0 t l.length : Int) ≤ c.f1) : fullB c l s = false := by
  rw [Bool.eq_false_iff]
  intro hf
  obtain ⟨p, hp, h1⟩ := List.any_eq_true.1 hf
  simp only [fullP, Bool.and_eq_true, decide_eq_true_eq, List.any_eq_true] at h1
  obtain ⟨_, v, _, h2⟩ := h1
  simp only [fullV, Bool.and_eq_true, decide_eq_true_eq] at h2
  have := h (p.2 + v.f1)
  rw [cnt_load (flightsB_parts (slotsB_parts hs).1).2.1] at this
  omega

theorem noneFull_step {caps : List Cap} {k : Nat} {c : Cap} (h : caps[k]? = some c) (l : List Flight) (s : List Int) : noneFull (caps.drop k) l s = (!fullB c l s && noneFull (caps.drop (k + 1)) l s) := by
  have hk := some_lt h
  unfold noneFull
  rw [List.drop_eq_getElem_cons hk, List.all_cons]
  rw [List.getElem?_eq_getElem hk] at h
  rw [Option.some.inj h]
theorem timeB_step {l : List Flight} {s : List Int} {k : Nat} {f : Flight} {x : Int} (hf : l[k]? = some f) (hx : s[k]? = some x) : ((l.zip s).drop k).all timeP = (timeP (f, x) && ((l.zip s).drop (k + 1)).all timeP) := by
  have h := zip_at hf hx
  have hk := some_lt h
  rw [List.drop_eq_getElem_cons hk, List.all_cons]
  rw [List.getElem?_eq_getElem hk] at h
  rw [Option.some.inj h]
theorem fullB_step {c : Cap} {l : List Flight} {s : List Int} {k : Nat} {f : Flight} {x : Int} (hf : l[k]? = some f) (hx : s[k]? = some x) : ((l.zip s).drop k).any (fullP c l s) = (fullP c l s (f, x) || ((l.zip s).drop (k + 1)).any (fullP c l s)) := by
  have h := zip_at hf hx
  have hk := some_lt h
  rw [List.drop_eq_getElem_cons hk, List.any_cons]
  rw [List.getElem?_eq_getElem hk] at h
  rw [Option.some.inj h]
theorem fullV_step {c : Cap} {l : List Flight} {s : List Int} {x : Int} {vs : List Visit} {k : Nat} {v : Visit} (h : vs[k]? = some v) : (vs.drop k).any (fullV c l s x) = (fullV c l s x v || (vs.drop (k + 1)).any (fullV c l s x)) := by
  have hk := some_lt h
  rw [List.drop_eq_getElem_cons hk, List.any_cons]
  rw [List.getElem?_eq_getElem hk] at h
  rw [Option.some.inj h]
theorem capsB_parts {l : List Cap} (h : capsB l = true) : l.length ≤ 6 ∧ (∀ c ∈ l, capB c = true) ∧ linkB bySector l = true := by
  simp only [capsB, Bool.and_eq_true, decide_eq_true_eq, List.all_eq_true] at h
  exact ⟨h.1.1, h.1.2, h.2⟩
theorem capB_parts {c : Cap} (h : capB c = true) : nameB c.f0 = true ∧ 0 ≤ c.f1 ∧ c.f1 ≤ 20 := by
  simp only [capB, inB, Bool.and_eq_true, decide_eq_true_eq] at h
  exact ⟨h.1, h.2.1, h.2.2⟩
theorem drop_all_end {α : Type} (l : List α) (p : α → Bool) (k : Nat) (h : l.length ≤ k) : (l.drop k).all p = true := by rw [List.drop_of_length_le h]; rfl
end Core
end Go.Proofs.Ytgoepnbajpgkhaa
