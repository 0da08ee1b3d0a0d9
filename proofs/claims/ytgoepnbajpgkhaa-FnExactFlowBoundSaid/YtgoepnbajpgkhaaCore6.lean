/- Plain laws on the bound: first entries into a sector, sorted; two ways to let them in. -/
import Derived.Test.YtgoepnbajpgkhaaCore5
namespace Go.Proofs.Ytgoepnbajpgkhaa
namespace Core

/-- When a flight is first in a sector, by when it is planned; -1 if it never is. -/
def firstOf (p : Int) (sec : ByteArray) : List Visit → Int
  | [] => -1
  | v :: r => if v.f0 = sec then p + v.f1 else firstOf p sec r
/-- Laid behind all that are no greater. -/
def insI (t : Int) : List Int → List Int
  | [] => [t]
  | x :: r => if x ≤ t then x :: insI t r else t :: x :: r
/-- How many from the head on are no greater. -/
def cntI (t : Int) : List Int → Nat
  | [] => 0
  | x :: r => if x ≤ t then cntI t r + 1 else 0
theorem cntI_le (t : Int) : ∀ l, cntI t l ≤ l.length
  | [] => Nat.le_refl _
  | x :: r => by
    have := cntI_le t r
    unfold cntI
    split <;> simp <;> omega
theorem insI_eq (t : Int) : ∀ l, insI t l = l.take (cntI t l) ++ [t] ++ l.drop (cntI t l)
  | [] => rfl
  | x :: r => by
    have ih := insI_eq t r
    unfold insI cntI
    split
    · rw [ih]; simp
    · simp
theorem insI_length (t : Int) (l : List Int) : (insI t l).length = l.length + 1 := by
  rw [insI_eq]
  have := cntI_le t l
  simp
  omega
theorem insI_perm (t : Int) (l : List Int) : (insI t l).Perm (t :: l) := by
  rw [insI_eq, List.append_assoc]
  have h := List.perm_middle (l₁ := l.take (cntI t l)) (l₂ := l.drop (cntI t l)) (a := t)
  rwa [List.take_append_drop] at h
theorem insI_sorted (t : Int) : ∀ l : List Int, l.Pairwise (· ≤ ·) → (insI t l).Pairwise (· ≤ ·)
  | [], _ => by simp [insI]
  | x :: r, h => by
    obtain ⟨h1, h2⟩ := List.pairwise_cons.1 h
    unfold insI
    split
    · rename_i hx
      refine List.pairwise_cons.2 ⟨fun y hy => ?_, insI_sorted t r h2⟩
      rcases List.mem_cons.1 ((insI_perm t r).mem_iff.1 hy) with rfl | hy
      · exact hx
      · exact h1 y hy
    · rename_i hx
      refine List.pairwise_cons.2 ⟨fun y hy => ?_, h⟩
      rcases List.mem_cons.1 hy with rfl | hy
      · omega
      · have := h1 y hy; omega
theorem cnt_while {t : Int} {l : List Int} {k : Nat} (h : k ≤ cntI t l) (hk : k < l.length) : (l[k]'hk ≤ t) ↔ k < cntI t l := by
  induction l generalizing k with
  | nil => simp at hk
  | cons x r ih =>
    unfold cntI at h ⊢
    cases k with
    | zero =>
      simp only [List.getElem_cons_zero]
      split <;> simp_all
    | succ k =>
      by_cases hx : x ≤ t
      · simp only [hx, if_true] at h ⊢
        simp only [List.getElem_cons_succ]
        rw [ih (by omega) (by simpa using hk)]
        omega
      · simp [hx] at h

/-- The first entries of the flights of a sector, in the flights' order. -/
def comesOf (sec : ByteArray) (l : List Flight) : List Int := (l.map fun f => firstOf f.f1 sec f.f3).filter fun t => decide (0 ≤ t)
def sortedTo (sec : ByteArray) (l : List Flight) (k : Nat) : List Int := (comesOf sec (l.take k)).foldl (fun a t => insI t a) []
theorem comes_step {l : List Flight} {k : Nat} {f : Flight} (h : l[k]? = some f) (sec : ByteArray) : comesOf sec (l.take (k + 1)) = comesOf sec (l.take k) ++ (if 0 ≤ firstOf f.f1 sec f.f3 then [firstOf f.f1 sec f.f3] else []) := by
  unfold comesOf
  rw [List.take_add_one, h]
  simp only [Option.toList_some, List.map_append, List.map_cons, List.map_nil, List.filter_append]
  congr 1
  by_cases hx : 0 ≤ firstOf f.f1 sec f.f3 <;> simp [hx]
theorem sorted_step {l : List Flight} {k : Nat} {f : Flight} (h : l[k]? = some f) (sec : ByteArray) : sortedTo sec l (k + 1) = if 0 ≤ firstOf f.f1 sec f.f3 then insI (firstOf f.f1 sec f.f3) (sortedTo sec l k) else sortedTo sec l k := by
  unfold sortedTo
  rw [comes_step h]
  by_cases hx : 0 ≤ firstOf f.f1 sec f.f3
  · simp [hx, List.foldl_append]
  · simp [hx]
theorem foldl_ins (xs : List Int) : ∀ acc : List Int, acc.Pairwise (· ≤ ·) → (xs.foldl (fun a t => insI t a) acc).Pairwise (· ≤ ·) ∧ (xs.foldl (fun a t => insI t a) acc).Perm (xs ++ acc) := by
  induction xs with
  | nil => intro acc h; exact ⟨h, List.Perm.refl _⟩
  | cons x r ih =>
    intro acc h
    have h1 := ih (insI x acc) (insI_sorted x acc h)
    refine ⟨h1.1, h1.2.trans ?_⟩
    have h2 := (insI_perm x acc).append_left r
    refine h2.trans ?_
    exact List.perm_middle
theorem sortedTo_spec (sec : ByteArray) (l : List Flight) : (sortedTo sec l l.length).Pairwise (· ≤ ·) ∧ (sortedTo sec l l.length).Perm (comesOf sec l) := by
  have h := foldl_ins (comesOf sec l) [] List.Pairwise.nil
  unfold sortedTo
  rw [List.take_length]
  exact ⟨h.1, by simpa using h.2⟩
theorem sorted_unique : ∀ (a b : List Int), a.Pairwise (· ≤ ·) → b.Pairwise (· ≤ ·) → a.Perm b → a = b := fun _ _ ha hb h => h.eq_of_pairwise (fun _ _ _ _ h1 h2 => Int.le_antisymm h1 h2) ha hb

/-! Each comes in at a tick of its own, or as many at one as can be guided: two ways to reckon it. -/
def giveT (c : Nat) (g : List Int) (t : Int) : Int := if c ≤ g.length ∧ t ≤ g.getD (g.length - c) 0 then g.getD (g.length - c) 0 + 1 else t
def runS (c : Nat) : List Int → List Int → Int → Int
  | [], _, s => s
  | t :: r, g, s => runS c r (g ++ [giveT c g t]) (s + giveT c g t - t)
def nowT (c now let_ t : Int) : Int × Int :=
  let p := if now < t then (t, 0) else (now, let_)
  if p.2 = c then (p.1 + 1, 1) else (p.1, p.2 + 1)
def runI (c : Int) : List Int → Int → Int → Int → Int
  | [], _, _, s => s
  | t :: r, now, let_, s => runI c r (nowT c now let_ t).1 (nowT c now let_ t).2 (s + ((nowT c now let_ t).1 - t))
/-- What both ways know of each other: the last 'n' given are 'now'; all ahead of them are less; and either nobody who comes is ahead of 'now', or c were given the tick ahead of it. -/
structure Same (c : Nat) (g : List Int) (now : Int) (n : Nat) (last : Int) : Prop where
  n1 : 1 ≤ n
  nc : n ≤ c
  ng : n ≤ g.length
  here : ∀ i, g.length - n ≤ i → i < g.length → g.getD i 0 = now
  less : ∀ i, i < g.length - n → g.getD i 0 < now
  why : now ≤ last ∨ (n + c ≤ g.length ∧ ∀ i, g.length - n - c ≤ i → i < g.length - n → g.getD i 0 = now - 1)
theorem getD_app_lt {g : List Int} {u : Int} {i : Nat} (h : i < g.length) : (g ++ [u]).getD i 0 = g.getD i 0 := by
  simp [List.getD, List.getElem?_append_left h]
theorem getD_app_eq {g : List Int} {u : Int} : (g ++ [u]).getD g.length 0 = u := by simp [List.getD]
theorem same_step {c : Nat} {g : List Int} {now last t : Int} {n : Nat} (hc : 1 ≤ c) (h : Same c g now n last) (ht : last ≤ t) :
    giveT c g t = (nowT c now n t).1 ∧ ∃ m : Nat, (nowT c now n t).2 = m ∧ Same c (g ++ [giveT c g t]) (nowT c now n t).1 m t := by
  obtain ⟨n1, nc, ng, here, less, why⟩ := h
  have hle : ∀ i, i < g.length → g.getD i 0 ≤ now := fun i hi => by
    rcases Nat.lt_or_ge i (g.length - n) with h1 | h1
    · exact Int.le_of_lt (less i h1)
    · exact Int.le_of_eq (here i h1 hi)
  have hL : (g ++ [giveT c g t]).length = g.length + 1 := by simp
  by_cases h1 : now < t
  · have hg : giveT c g t = t := by
      unfold giveT
      rw [if_neg]
      rintro ⟨h2, h3⟩
      have := hle (g.length - c) (by omega)
      omega
    have hn : nowT c now n t = (t, 1) := by
      unfold nowT
      simp only [h1, if_true]
      rw [if_neg (by omega)]
      rfl
    rw [hn]
    refine ⟨hg, 1, rfl, ⟨Nat.le_refl _, hc, by rw [hL]; omega, fun i h2 h3 => ?_, fun i h2 => ?_, .inl (Int.le_refl _)⟩⟩
    · rw [hL] at h2 h3
      obtain rfl : i = g.length := by omega
      rw [getD_app_eq, hg]
    · rw [hL] at h2
      rw [getD_app_lt (by omega)]
      have := hle i (by omega)
      show _ < t
      omega
  · by_cases h2 : n = c
    · have hlast : g.getD (g.length - c) 0 = now := here _ (by omega) (by omega)
      have hg : giveT c g t = now + 1 := by
        unfold giveT
        rw [if_pos ⟨by omega, by omega⟩, hlast]
      have hn : nowT c now n t = (now + 1, 1) := by
        unfold nowT
        simp only [h1, if_false]
        rw [if_pos (by omega)]
      rw [hn]
      refine ⟨hg, 1, rfl, ⟨Nat.le_refl _, hc, by rw [hL]; omega, fun i h3 h4 => ?_, fun i h3 => ?_, .inr ⟨by rw [hL]; omega, fun i h3 h4 => ?_⟩⟩⟩
      · rw [hL] at h3 h4
        obtain rfl : i = g.length := by omega
        rw [getD_app_eq, hg]
      · rw [hL] at h3
        rw [getD_app_lt (by omega)]
        have := hle i (by omega)
        show _ < now + 1
        omega
      · rw [hL] at h3 h4
        rw [getD_app_lt (by omega), here i (by omega) (by omega)]
        show now = now + 1 - 1
        omega
    · have hn : nowT c now n t = (now, (n : Int) + 1) := by
        unfold nowT
        simp only [h1, if_false]
        rw [if_neg (by omega)]
      have hg : giveT c g t = now := by
        unfold giveT
        rcases why with h3 | ⟨h3, h4⟩
        · have htn : t = now := by omega
          rw [if_neg]
          · exact htn
          · rintro ⟨h5, h6⟩
            have := less (g.length - c) (by omega)
            omega
        · have h5 := h4 (g.length - c) (by omega) (by omega)
          by_cases h6 : t ≤ now - 1
          · rw [if_pos ⟨by omega, by omega⟩, h5]; omega
          · rw [if_neg (by rintro ⟨_, h7⟩; omega)]; omega
      rw [hn]
      refine ⟨hg, n + 1, by simp, ⟨by omega, by omega, by rw [hL]; omega, fun i h3 h4 => ?_, fun i h3 => ?_, ?_⟩⟩
      · rw [hL] at h3 h4
        rcases Nat.lt_or_ge i g.length with h5 | h5
        · rw [getD_app_lt h5]; exact here i (by omega) h5
        · obtain rfl : i = g.length := by omega
          rw [getD_app_eq, hg]
      · rw [hL] at h3
        rw [getD_app_lt (by omega)]
        exact less i (by omega)
      · rcases why with h3 | ⟨h3, h4⟩
        · exact .inl (by show now ≤ t; omega)
        · refine .inr ⟨by rw [hL]; omega, fun i h5 h6 => ?_⟩
          rw [hL] at h5 h6
          rw [getD_app_lt (by omega)]
          exact h4 i (by omega) (by omega)
theorem run_same {c : Nat} (hc : 1 ≤ c) : ∀ (r : List Int) (g : List Int) (now : Int) (n : Nat) (last s : Int), Same c g now n last → (∀ t ∈ r, last ≤ t) → r.Pairwise (· ≤ ·) → runS c r g s = runI c r now n s
  | [], _, _, _, _, _, _, _, _ => rfl
  | t :: r, g, now, n, last, s, h, hl, hp => by
    obtain ⟨h1, h2⟩ := List.pairwise_cons.1 hp
    obtain ⟨e1, m, e2, h3⟩ := same_step hc h (hl t (List.mem_cons_self ..))
    unfold runS runI
    rw [e2, ← e1] at *
    rw [show s + giveT c g t - t = s + (giveT c g t - t) by omega]
    exact run_same hc r _ _ m t _ h3 h1 h2
theorem run_all {c : Nat} (hc : 1 ≤ c) (l : List Int) (h0 : ∀ t ∈ l, 0 ≤ t) (hp : l.Pairwise (· ≤ ·)) : runS c l [] 0 = runI c l (-1) 0 0 := by
  cases l with
  | nil => rfl
  | cons t r =>
    obtain ⟨h1, h2⟩ := List.pairwise_cons.1 hp
    have ht := h0 t (List.mem_cons_self ..)
    have hg : giveT c [] t = t := by unfold giveT; rw [if_neg]; rintro ⟨h, _⟩; simp at h; omega
    have hn : nowT c (-1) 0 t = (t, 1) := by
      unfold nowT
      simp only [show (-1 : Int) < t by omega, if_true]
      rw [if_neg (by omega)]
      rfl
    unfold runS runI
    rw [hg, hn]
    show runS c r [t] (0 + t - t) = runI c r t 1 (0 + (t - t))
    rw [show (0 : Int) + t - t = 0 + (t - t) by omega]
    refine run_same hc r [t] t 1 t _ ⟨Nat.le_refl _, hc, by simp, fun i h3 h4 => ?_, fun i h3 => ?_, .inl (Int.le_refl _)⟩ h1 h2
    · obtain rfl : i = 0 := by simp at h4; exact h4
      rfl
    · simp at h3
end Core
end Go.Proofs.Ytgoepnbajpgkhaa
