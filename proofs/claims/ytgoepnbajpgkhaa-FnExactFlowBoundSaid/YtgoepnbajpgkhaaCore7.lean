/- Plain laws on the order of names, and on caps found by name. -/
import Derived.Test.YtgoepnbajpgkhaaCore6
namespace Go.Proofs.Ytgoepnbajpgkhaa
namespace Core

theorem bl_irrefl : ∀ x : List UInt8, Op.bytesLess x x = false
  | [] => rfl
  | a :: x => by
    have ih := bl_irrefl x
    simp only [Op.bytesLess, ih, Bool.and_false, Bool.or_false, decide_eq_false_iff_not]
    exact UInt8.lt_irrefl a
theorem bl_trans : ∀ x y z : List UInt8, Op.bytesLess x y = true → Op.bytesLess y z = true → Op.bytesLess x z = true
  | _, [], _, h, _ => by cases ‹List UInt8› <;> simp [Op.bytesLess] at h
  | _, _ :: _, [], _, h => by simp [Op.bytesLess] at h
  | [], _ :: _, _ :: _, _, _ => rfl
  | a :: x, b :: y, c :: z, h1, h2 => by
    have ih := bl_trans x y z
    simp only [Op.bytesLess, Bool.or_eq_true, Bool.and_eq_true, decide_eq_true_eq, beq_iff_eq, UInt8.lt_iff_toNat_lt] at h1 h2 ⊢
    rcases h1 with h1 | ⟨rfl, h1⟩
    · rcases h2 with h2 | ⟨rfl, h2⟩
      · exact .inl (by omega)
      · exact .inl h1
    · rcases h2 with h2 | ⟨rfl, h2⟩
      · exact .inl h2
      · exact .inr ⟨rfl, ih h1 h2⟩
theorem bl_total : ∀ x y : List UInt8, Op.bytesLess x y = false → Op.bytesLess y x = false → x = y
  | [], [], _, _ => rfl
  | [], _ :: _, h, _ => by simp [Op.bytesLess] at h
  | _ :: _, [], _, h => by simp [Op.bytesLess] at h
  | a :: x, b :: y, h1, h2 => by
    have ih := bl_total x y
    simp only [Op.bytesLess, Bool.or_eq_false_iff, Bool.and_eq_false_iff, decide_eq_false_iff_not, beq_eq_false_iff_ne, UInt8.lt_iff_toNat_lt] at h1 h2
    have hab : a = b := UInt8.toNat_inj.1 (by omega)
    subst hab
    rw [ih (by simpa using h1.2) (by simpa using h2.2)]
theorem less_irrefl (a : ByteArray) : lessB a a = false := bl_irrefl _
theorem less_trans {a b c : ByteArray} (h1 : lessB a b = true) (h2 : lessB b c = true) : lessB a c = true := bl_trans _ _ _ h1 h2
theorem less_ne {a b : ByteArray} (h : lessB a b = true) : a ≠ b := fun e => by rw [e, less_irrefl] at h; cases h
/-- Each that follows another in a row that rises is behind all that are ahead of it. -/
theorem link_pairwise {α : Type} (rel : α → α → Bool) (htr : ∀ a b c, rel a b = true → rel b c = true → rel a c = true) : ∀ l : List α, linkB rel l = true → l.Pairwise (fun a b => rel a b = true)
  | [], _ => List.Pairwise.nil
  | [x], _ => List.pairwise_singleton _ _
  | x :: y :: r, h => by
    simp only [linkB, Bool.and_eq_true] at h
    have ih := link_pairwise rel htr (y :: r) h.2
    refine List.pairwise_cons.2 ⟨fun z hz => ?_, ih⟩
    rcases List.mem_cons.1 hz with rfl | hz
    · exact h.1
    · exact htr _ _ _ h.1 ((List.pairwise_cons.1 ih).1 z hz)
theorem sectors_rise {l : List Cap} (h : capsB l = true) : l.Pairwise (fun a b => lessB a.f0 b.f0 = true) := by
  simp only [capsB, Bool.and_eq_true] at h
  exact link_pairwise bySector (fun a b c => less_trans) l h.2
theorem names_rise {l : List Flight} (h : flightsB l = true) : l.Pairwise (fun a b => lessB a.f0 b.f0 = true) := by
  simp only [flightsB, Bool.and_eq_true] at h
  exact link_pairwise byName (fun a b c => less_trans) l h.2

def capOf (sec : ByteArray) : List Cap → Int
  | [] => -1
  | c :: r => if c.f0 = sec then c.f1 else capOf sec r
/-- The last cap of that name; n if there is none. -/
def lastCap (sec : ByteArray) : List Cap → Int → Int
  | [], n => n
  | c :: r, n => lastCap sec r (if c.f0 = sec then c.f1 else n)
theorem lastCap_none {sec : ByteArray} : ∀ (l : List Cap) (n : Int), (∀ c ∈ l, c.f0 ≠ sec) → lastCap sec l n = n
  | [], _, _ => rfl
  | c :: r, n, h => by
    unfold lastCap
    rw [if_neg (h c (List.mem_cons_self ..))]
    exact lastCap_none r n (fun d hd => h d (List.mem_cons_of_mem _ hd))
theorem capOf_none {sec : ByteArray} : ∀ (l : List Cap), (∀ c ∈ l, c.f0 ≠ sec) → capOf sec l = -1
  | [], _ => rfl
  | c :: r, h => by
    unfold capOf
    rw [if_neg (h c (List.mem_cons_self ..))]
    exact capOf_none r (fun d hd => h d (List.mem_cons_of_mem _ hd))
theorem last_first {sec : ByteArray} : ∀ (l : List Cap) (n : Int), l.Pairwise (fun a b => lessB a.f0 b.f0 = true) → lastCap sec l n = capOf sec l ∨ (lastCap sec l n = n ∧ capOf sec l = -1)
  | [], n, _ => .inr ⟨rfl, rfl⟩
  | c :: r, n, h => by
    obtain ⟨h1, h2⟩ := List.pairwise_cons.1 h
    unfold lastCap capOf
    by_cases hc : c.f0 = sec
    · rw [if_pos hc, if_pos hc]
      exact .inl (lastCap_none r c.f1 (fun d hd e => less_ne (h1 d hd) (by rw [hc, e])))
    · rw [if_neg hc, if_neg hc]
      exact last_first r n h2
theorem last_cap {l : List Cap} (h : capsB l = true) (sec : ByteArray) : (lastCap sec l 0 < 1 ↔ capOf sec l < 1) ∧ (1 ≤ capOf sec l → lastCap sec l 0 = capOf sec l) := by
  rcases last_first (sec := sec) l 0 (sectors_rise h) with e | ⟨e1, e2⟩
  · rw [e]; exact ⟨Iff.rfl, fun _ => rfl⟩
  · rw [e1, e2]; exact ⟨by omega, by omega⟩
theorem lastCap_range {sec : ByteArray} : ∀ (l : List Cap) (n : Int), (∀ c ∈ l, capB c = true) → 0 ≤ n → n ≤ 20 → 0 ≤ lastCap sec l n ∧ lastCap sec l n ≤ 20
  | [], n, _, h0, h1 => ⟨h0, h1⟩
  | c :: r, n, h, h0, h1 => by
    unfold lastCap
    have hc := capB_parts (h c (List.mem_cons_self ..))
    exact lastCap_range r _ (fun d hd => h d (List.mem_cons_of_mem _ hd)) (by split <;> omega) (by split <;> omega)
theorem lastCap_step {l : List Cap} {k : Nat} {c : Cap} (h : l[k]? = some c) (sec : ByteArray) (n : Int) : lastCap sec (l.drop k) n = lastCap sec (l.drop (k + 1)) (if c.f0 = sec then c.f1 else n) := by
  have hk := some_lt h
  rw [List.drop_eq_getElem_cons hk]
  rw [List.getElem?_eq_getElem hk] at h
  rw [Option.some.inj h]
  rfl
theorem runI_step {ts : List Int} {k : Nat} {t : Int} (h : ts[k]? = some t) (c now n s : Int) : runI c (ts.drop k) now n s = runI c (ts.drop (k + 1)) (nowT c now n t).1 (nowT c now n t).2 (s + ((nowT c now n t).1 - t)) := by
  have hk := some_lt h
  rw [List.drop_eq_getElem_cons hk]
  rw [List.getElem?_eq_getElem hk] at h
  rw [Option.some.inj h]
  rfl
end Core
end Go.Proofs.Ytgoepnbajpgkhaa
