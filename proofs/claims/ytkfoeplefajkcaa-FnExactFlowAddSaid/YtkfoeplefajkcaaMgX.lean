/- Merged out of this seat's own texts. -/
import Derived.Test.YtkfoeplefajkcaaMgQ
import Derived.Test.YtkfoeplefajkcaaMgK
import Derived.Test.YtkfoeplefajkcaaMgB
section
namespace Go.Proofs.Ytkfoeplefajkcaa.Q
open Go.RowKit Go.Proofs.YtkfoeplefajkcaaW.PrintWords Go.Proofs.YtkfoeplefajkcaaW.PrintLast Go.Proofs.YtkfoeplefajkcaaW.PrintMore Go.Proofs.Ytkfoeplefajkcaa.Core
set_option linter.unusedVariables false
set_option linter.unusedSimpArgs false
structure OwnO (w : World) (base : Nat) (ok : Nat → Prop) (v0 v1 v2 : Value) (b : Book) : Prop where
  caps : Kd.R k99 99 w base ok v0 b.f0
  flights : Kd.S k61 61 w base ok v1 b.f1
  slots : Kd.R (Kd.int .i64) 3 w base ok v2 b.f2
section
variable {w w1 : World} {base base' lo hi lo' hi' : Nat} {ok ok' : Nat → Prop} {v0 v1 v2 u0 u1 u2 : Value} {b : Book}
theorem OwnB.toO (h : OwnB w1 w.heap.size v0 v1 v2 b) : OwnO w1 w.heap.size (iv w.heap.size w1.heap.size) v0 v1 v2 b := ⟨R_iv h.caps, S_iv h.flights, R_iv h.slots⟩
theorem OwnO.toB (h : OwnO w base ok v0 v1 v2 b) : OwnB w base v0 v1 v2 b := ⟨Kd.R_mono h.caps (fun _ _ => trivial), Kd.S_mono h.flights (fun _ _ => trivial), Kd.R_mono h.slots (fun _ _ => trivial)⟩
theorem OwnO.lower (h : OwnO w base ok v0 v1 v2 b) (hb : base' ≤ base) : OwnO w base' ok v0 v1 v2 b := ⟨Kd.R_lower h.caps hb, Kd.S_lower h.flights hb, Kd.R_lower h.slots hb⟩
theorem OwnO.below (h : OwnO w base ok v0 v1 v2 b) (hb : Below w.heap.size w w1) : OwnO w1 base ok v0 v1 v2 b := ⟨Kd.R_below h.caps hb, Kd.S_below h.flights hb, Kd.R_below h.slots hb⟩
theorem OwnO.apart (h : OwnO w base (iv lo hi) v0 v1 v2 b) (hk : Kept w w1 (iv lo' hi')) (ha : hi ≤ lo' ∨ hi' ≤ lo) : OwnO w1 base (iv lo hi) v0 v1 v2 b := ⟨R_apart h.caps hk ha, S_apart h.flights hk ha, R_apart h.slots hk ha⟩
theorem eq_books_any (h : OwnO w base ok v0 v1 v2 b) (h' : OwnO w base' ok' u0 u1 u2 b) :
    Calls Try.prog 41 #[.agg #[v0, v1, v2], .agg #[u0, u1, u2]] w fun e w' => e = .returned (.bool true) ∧ Below w.heap.size w w' := by
  obtain ⟨A0, c0, A1, c1, A2, c2, rfl, rfl, rfl, r0, r1, r2⟩ := h.toB.form
  obtain ⟨B0, d0, B1, d1, B2, d2, rfl, rfl, rfl, q0, q1, q2⟩ := h'.toB.form
  exact eq_book_any A0 B0 c0 d0 b.f0 A1 B1 c1 d1 b.f1 A2 B2 c2 d2 b.f2 w r0 q0 r1 q1 r2 q2
end
theorem toBookO_any (A0 : Option Addr) (c0 : Nat) (A1 : Option Addr) (c1 : Nat) (A2 : Option Addr) (c2 : Nat) (b : Book) (w : World)
    (hr0 : Kd.C k106 w A0 b.f0.length b.f0) (hc0 : b.f0.length ≤ c0) (hr1 : Kd.C k51 w A1 b.f1.length b.f1) (hc1 : b.f1.length ≤ c1) (hr2 : Kd.C (Kd.int .i64) w A2 b.f2.length b.f2) (hc2 : b.f2.length ≤ c2)
    (hn0 : wL wC b.f0 ≤ 1048576) (hn1 : wL wF b.f1 ≤ 1048576) (hn2 : b.f2.length ≤ 1048576) :
    Calls Try.prog 38 #[.agg #[.slice A0 b.f0.length c0, .slice A1 b.f1.length c1, .slice A2 b.f2.length c2]] w fun e w' => ∃ v0 v1 v2, e = .returned (.agg #[v0, v1, v2]) ∧ OwnO w' w.heap.size (iv w.heap.size w'.heap.size) v0 v1 v2 b ∧ Below w.heap.size w w' := by
  refine (laws_toFlowBook.calls (b.f0.length + b.f1.length + b.f2.length + wL wF b.f1 + 1) A0 c0 b.f0 A1 c1 b.f1 A2 c2 b.f2 b.f0 b.f1 b.f2 w hr0 hc0 hr1 hc1 hr2 hc2 ?_).mono ?_
  · unfold laws_toFlowBook.f
    rw [toCapS_some b.f0 (by have := len_le_wL wC b.f0; omega) _ (by omega), toFlightS_some b.f1 (wL wF b.f1) (visits_le_wL b.f1) hn1 (by have := len_le_wL wF b.f1; omega) _ (by omega), toIntS_some b.f2 hn2 _ (by omega)]
    rfl
  · rintro e w' ⟨v0, v1, v2, rfl, o0, o1, o2, hb⟩
    exact ⟨v0, v1, v2, rfl, OwnB.toO ⟨o0, o1, o2⟩, hb⟩
def cntB (b : Book) : Int := 2 * (b.f0.length : Int) + cntF b.f1 + (b.f2.length : Int)
def markB (k : Int) (b : Book) : Book := ⟨markC k b.f0, markF (k + 2 * (b.f0.length : Int)) b.f1, markI (k + 2 * (b.f0.length : Int) + cntF b.f1) b.f2⟩
structure SmallB (b : Book) : Prop where
  n0 : b.f0.length ≤ 10000000
  n1 : b.f1.length ≤ 10000000
  n2 : b.f2.length ≤ 10000000
  nv : ∀ f ∈ b.f1, f.f3.length ≤ 10000000
  cn : cntF b.f1 ≤ 900000000
def tyOk (w : World) (Q : List Nat) (ok : Nat → Prop) : Nat → Prop := fun k => ok k ∧ ∃ q, q ∈ Q ∧ ∃ cells, w.heap[k]? = some (.cells cells q (0, 0))
section
variable {α : Type} {d : Kd α} {e base : Nat} {ok P : Nat → Prop} {Q : List Nat} {w w1 : World} {v : Value} {xs : List α}
theorem R_ty (h : d.R e w base ok v xs) : d.R e w base (tyOk w (e :: d.E) ok) v xs := Kd.R_mono (Kd.R_bound h) (fun _ hk => ⟨hk.1, hk.2.2.2⟩)
theorem S_ty (h : Kd.S d e w base ok v xs) : Kd.S d e w base (tyOk w (e :: d.E) ok) v xs := Kd.S_mono (Kd.S_bound h) (fun _ hk => ⟨hk.1, hk.2.2.2⟩)
theorem ty_apart {Q' : List Nat} (ht : ∀ q, q ∈ Q → ∀ q', q' ∈ Q' → q ≠ q') : ∀ k, tyOk w Q ok k → ¬ tyOk w Q' P k := fun k a b => by
  obtain ⟨_, q, hq, cs, hc⟩ := a
  obtain ⟨_, q', hq', cs', hc'⟩ := b
  rw [hc] at hc'
  exact ht q hq q' hq' (by cases hc'; rfl)
theorem R_kept_ty (h : d.R e w base ok v xs) (hk : Kept w w1 (tyOk w Q P)) (ht : ∀ q, q ∈ e :: d.E → ∀ q', q' ∈ Q → q ≠ q') : d.R e w1 base ok v xs := Kd.R_mono (Kd.R_kept (R_ty h) hk (ty_apart ht)) (fun _ a => a.1)
theorem S_kept_ty (h : Kd.S d e w base ok v xs) (hk : Kept w w1 (tyOk w Q P)) (ht : ∀ q, q ∈ e :: d.E → ∀ q', q' ∈ Q → q ≠ q') : Kd.S d e w1 base ok v xs := Kd.S_mono (Kd.S_kept (S_ty h) hk (ty_apart ht)) (fun _ a => a.1)
end
theorem caps_flights : ∀ q, q ∈ 61 :: k61.E → ∀ q', q' ∈ 99 :: k99.E → q ≠ q' := by decide
theorem flights_caps : ∀ q, q ∈ 99 :: k99.E → ∀ q', q' ∈ 61 :: k61.E → q ≠ q' := by decide
theorem caps_ints : ∀ q, q ∈ 3 :: (Kd.int .i64).E → ∀ q', q' ∈ 99 :: k99.E → q ≠ q' := by decide
theorem ints_caps : ∀ q, q ∈ 99 :: k99.E → ∀ q', q' ∈ 3 :: (Kd.int .i64).E → q ≠ q' := by decide
theorem flights_ints : ∀ q, q ∈ 3 :: (Kd.int .i64).E → ∀ q', q' ∈ 61 :: k61.E → q ≠ q' := by decide
theorem ints_flights : ∀ q, q ∈ 61 :: k61.E → ∀ q', q' ∈ 3 :: (Kd.int .i64).E → q ≠ q' := by decide
set_option maxRecDepth 100000 in
set_option maxHeartbeats 2000000 in
theorem mark_book_any {lo hi : Nat} (v0 v1 v2 : Value) (b : Book) (k : Int) (w0 w : World) (hB : Below w0.heap.size w0 w) (h : OwnO w w0.heap.size (iv lo hi) v0 v1 v2 b) (hhi : hi ≤ w.heap.size) (h0 : 0 ≤ k) (hk : k ≤ 1000000) (hs : SmallB b) :
    Calls Try.prog 43 #[.agg #[v0, v1, v2], .int .i64 k] w fun e w' => e = .returned (.int .i64 (k + cntB b)) ∧ OwnO w' w0.heap.size (iv lo hi) v0 v1 v2 (markB k b) ∧ Below w0.heap.size w0 w' ∧ Kept w w' (iv lo hi) := by
  obtain ⟨A0, c0, A1, c1, A2, c2, rfl, rfl, rfl, _, _, _⟩ := h.toB.form
  obtain ⟨W, hW⟩ : ∃ W, W = w.alloc (.cells #[.slice A0 b.f0.length c0, .slice A1 b.f1.length c1, .slice A2 b.f2.length c2] 55) := ⟨_, rfl⟩
  have hba : Below w.heap.size w W := by rw [hW]; exact (Below.refl _ _).alloc (Nat.le_refl _) _
  have g1 : W.cell? ⟨w.heap.size, 1, none⟩ = some (.slice A1 b.f1.length c1) := by rw [hW]; simp
  have g2 : W.cell? ⟨w.heap.size, 2, none⟩ = some (.slice A2 b.f2.length c2) := by rw [hW]; simp
  have HO := Lib.hid (h.below hba)
  have HBW := Lib.hid (below_next hB hB.size hba)
  have HK := Lib.hid (Kept.of_below hba (iv lo hi))
  have HN := Lib.hid hs
  have cn := hs.cn
  have n0 := hs.n0
  have HNI : Hid (∀ (W : World) (Q : List Nat), ¬ tyOk W Q (iv lo hi) w.heap.size) := fun W Q a => by have t : w.heap.size < hi := a.1.2; omega
  clear h hB hs hba
  go_enter Try.func43, Try.ntmps43
  go_wp2_with (fail)
  rw [← hW]
  refine (markC_any _ _ b.f0 k w0 W HBW.out (R_ty HO.out.caps) h0 (by omega) n0).mono ?_
  rintro e w1 ⟨rfl, hR, hB1, hK1⟩
  have S1 := Lib.hid (S_kept_ty HO.out.flights hK1 caps_flights)
  have R1 := Lib.hid (R_kept_ty HO.out.slots hK1 caps_ints)
  have C1 := Lib.hid (Kd.R_mono hR (fun _ a => a.1))
  have g1 := cell_kept g1 hK1 (HNI.out W _)
  have g2 := cell_kept g2 hK1 (HNI.out W _)
  have K1 := Lib.hid (HK.out.then_ hK1 (fun j a => .inl a.1))
  have B1 := Lib.hid hB1
  clear hR hB1 hK1
  go_wp2_with (fail)
  refine (markF_any _ _ b.f1 (k + 2 * (b.f0.length : Int)) w0 w1 B1.out (S_ty S1.out) (by omega) (by omega) HN.out.n1 HN.out.nv).mono ?_
  rintro e w2 ⟨rfl, hS, hB2, hK2⟩
  have C2 := Lib.hid (R_kept_ty C1.out hK2 flights_caps)
  have R2 := Lib.hid (R_kept_ty R1.out hK2 flights_ints)
  have S2 := Lib.hid (Kd.S_mono hS (fun _ a => a.1))
  have g2 := cell_kept g2 hK2 (HNI.out w1 _)
  have K2 := Lib.hid (K1.out.then_ hK2 (fun j a => .inl a.1))
  have B2 := Lib.hid hB2
  clear hS hB2 hK2
  have cf := cntF_nonneg b.f1
  go_wp2_with (fail)
  refine (markI_any _ _ b.f2 (k + 2 * (b.f0.length : Int) + cntF b.f1) w0 w2 B2.out (R_ty R2.out) (by omega) (by omega) HN.out.n2).mono ?_
  rintro e w3 ⟨rfl, hR, hB3, hK3⟩
  have C3 := Lib.hid (R_kept_ty C2.out hK3 ints_caps)
  have S3 := Lib.hid (S_kept_ty S2.out hK3 ints_flights)
  have R3 := Lib.hid (Kd.R_mono hR (fun _ a => a.1))
  have K3 := Lib.hid (K2.out.then_ hK3 (fun j a => .inl a.1))
  have B3 := Lib.hid hB3
  clear hR hB3 hK3
  go_wp2
  go_ret
  exact ⟨ret_int (by unfold cntB; omega), ⟨C3.out, S3.out, R3.out⟩, B3.out, K3.out⟩
end Go.Proofs.Ytkfoeplefajkcaa.Q
end
section
namespace Go.Proofs.Ytkfoeplefajkcaa.Q
open Go.RowKit Go.Proofs.YtkfoeplefajkcaaW.PrintWords Go.Proofs.YtkfoeplefajkcaaW.PrintLast Go.Proofs.YtkfoeplefajkcaaW.PrintMore Go.Proofs.Ytkfoeplefajkcaa.Core
set_option linter.unusedVariables false
set_option linter.unusedSimpArgs false
theorem rdC_at {xs : List Cap} {i : Nat} (h : i < xs.length) : rd_T99 xs (i : Int) = xs[i] := by
  unfold rd_T99; rw [Int.toNat_natCast, List.getD_eq_getElem?_getD, List.getElem?_eq_getElem h]; rfl
theorem rdV_at {xs : List Visit} {i : Nat} (h : i < xs.length) : rd_T97 xs (i : Int) = xs[i] := by
  unfold rd_T97; rw [Int.toNat_natCast, List.getD_eq_getElem?_getD, List.getElem?_eq_getElem h]; rfl
theorem heldC_loop : ∀ (d K : Nat) (xs : List Cap) (k : Int) (i : Nat), xs.length - i = d → i ≤ xs.length → xs.drop i = markC k (xs.drop i) → d + (k.toNat + 3 * d) + 5 < K → 0 ≤ k → k + 3 * (d : Int) ≤ 100000000000 → xs.length ≤ 10000000 →
    laws_heldFlowCapS.l0 K xs k i = some (k + 2 * (d : Int)) := by
  intro d
  induction d with
  | zero =>
    intro K xs k i hd hi hm hK h0 hb hl
    obtain ⟨K, rfl⟩ : ∃ m, K = m + 1 := ⟨K - 1, by omega⟩
    simp only [laws_heldFlowCapS.l0]
    rw [if_neg (by omega)]
    simp
  | succ d ih =>
    intro K xs k i hd hi hm hK h0 hb hl
    obtain ⟨K, rfl⟩ : ∃ m, K = m + 1 := ⟨K - 1, by omega⟩
    have hlt : i < xs.length := by omega
    have c1 : (i : Int) < (xs.length : Int) := by omega
    have c2 : (0 : Int) ≤ (i : Int) := by omega
    have c3 : laws_markText.f K k = some (mtext k) := mtext_some h0 (by omega) (by omega)
    have e1 : wrap64 (k + 1) = k + 1 := wrap_small (by omega) (by omega)
    have e2 : wrap64 (k + 1 + 1) = k + 2 := by rw [wrap_small (by omega) (by omega)]; omega
    have e4 : wrap64 ((i : Int) + 1) = ((i + 1 : Nat) : Int) := by rw [wrap_small (by omega) (by omega)]; omega
    rw [drop_cons_at hlt] at hm
    simp only [markC, List.cons.injEq] at hm
    obtain ⟨hx, hm⟩ := hm
    simp only [laws_heldFlowCapS.l0, c1, c2, c3, if_true, Option.bind_some, rdC_at hlt, hx, e1, e2, e4]
    clear e1 e2 e4 hx
    rw [ih K xs (k + 2) (i + 1) (by omega) (by omega) hm (by omega) (by omega) (by omega) hl]
    congr 1; omega
theorem heldC_some (xs : List Cap) (k : Int) (h0 : 0 ≤ k) (hk : k ≤ 10000000000) (hl : xs.length ≤ 10000000) (hm : xs = markC k xs) (K : Nat) (hK : k.toNat + 4 * xs.length + 6 ≤ K) : laws_heldFlowCapS.f K xs k = some (k + 2 * (xs.length : Int)) := by
  have := heldC_loop xs.length K xs k 0 (by omega) (by omega) (by simpa using hm) (by omega) h0 (by omega) hl
  simpa [laws_heldFlowCapS.f] using this
theorem heldV_loop : ∀ (d K : Nat) (xs : List Visit) (k : Int) (i : Nat), xs.length - i = d → i ≤ xs.length → xs.drop i = markV k (xs.drop i) → d + (k.toNat + 3 * d) + 5 < K → 0 ≤ k → k + 3 * (d : Int) ≤ 100000000000 → xs.length ≤ 10000000 →
    laws_heldFlowVisitS.l0 K xs k i = some (k + 3 * (d : Int)) := by
  intro d
  induction d with
  | zero =>
    intro K xs k i hd hi hm hK h0 hb hl
    obtain ⟨K, rfl⟩ : ∃ m, K = m + 1 := ⟨K - 1, by omega⟩
    simp only [laws_heldFlowVisitS.l0]
    rw [if_neg (by omega)]
    simp
  | succ d ih =>
    intro K xs k i hd hi hm hK h0 hb hl
    obtain ⟨K, rfl⟩ : ∃ m, K = m + 1 := ⟨K - 1, by omega⟩
    have hlt : i < xs.length := by omega
    have c1 : (i : Int) < (xs.length : Int) := by omega
    have c2 : (0 : Int) ≤ (i : Int) := by omega
    have c3 : laws_markText.f K k = some (mtext k) := mtext_some h0 (by omega) (by omega)
    have e1 : wrap64 (k + 1) = k + 1 := wrap_small (by omega) (by omega)
    have e2 : wrap64 (k + 1 + 1) = k + 2 := by rw [wrap_small (by omega) (by omega)]; omega
    have e3 : wrap64 (k + 2 + 1) = k + 3 := by rw [wrap_small (by omega) (by omega)]; omega
    have e4 : wrap64 ((i : Int) + 1) = ((i + 1 : Nat) : Int) := by rw [wrap_small (by omega) (by omega)]; omega
    rw [drop_cons_at hlt] at hm
    simp only [markV, List.cons.injEq] at hm
    obtain ⟨hx, hm⟩ := hm
    simp only [laws_heldFlowVisitS.l0, c1, c2, c3, if_true, Option.bind_some, rdV_at hlt, hx, e1, e2, e3, e4]
    clear e1 e2 e3 e4 hx
    rw [ih K xs (k + 3) (i + 1) (by omega) (by omega) hm (by omega) (by omega) (by omega) hl]
    congr 1; omega
theorem heldV_some (xs : List Visit) (k : Int) (h0 : 0 ≤ k) (hk : k ≤ 10000000000) (hl : xs.length ≤ 10000000) (hm : xs = markV k xs) (K : Nat) (hK : k.toNat + 4 * xs.length + 6 ≤ K) : laws_heldFlowVisitS.f K xs k = some (k + 3 * (xs.length : Int)) := by
  have := heldV_loop xs.length K xs k 0 (by omega) (by omega) (by simpa using hm) (by omega) h0 (by omega) hl
  simpa [laws_heldFlowVisitS.f] using this
theorem heldC_any (A : Option Addr) (c : Nat) (rs : List Cap) (k : Int) (w : World) (hr : Kd.C k99 w A rs.length (markC k rs)) (hc : rs.length ≤ c) (h0 : 0 ≤ k) (hk : k ≤ 10000000000) (hl : rs.length ≤ 10000000) :
    Calls Try.prog 107 #[.slice A rs.length c, .int .i64 k] w fun e w' => e = .returned (.int .i64 (k + 2 * (rs.length : Int))) ∧ Below w.heap.size w w' := by
  have e := markC_len k rs
  have := laws_heldFlowCapS.calls _ A c (markC k rs) k _ w (by rw [e]; exact hr) (by rw [e]; exact hc) (heldC_some (markC k rs) k h0 hk (by rw [e]; exact hl) (markC_twice k rs).symm _ (Nat.le_refl _))
  rwa [e] at this
theorem heldV_any (A : Option Addr) (c : Nat) (rs : List Visit) (k : Int) (w : World) (hr : Kd.C k97 w A rs.length (markV k rs)) (hc : rs.length ≤ c) (h0 : 0 ≤ k) (hk : k ≤ 10000000000) (hl : rs.length ≤ 10000000) :
    Calls Try.prog 156 #[.slice A rs.length c, .int .i64 k] w fun e w' => e = .returned (.int .i64 (k + 3 * (rs.length : Int))) ∧ Below w.heap.size w w' := by
  have e := markV_len k rs
  have := laws_heldFlowVisitS.calls _ A c (markV k rs) k _ w (by rw [e]; exact hr) (by rw [e]; exact hc) (heldV_some (markV k rs) k h0 hk (by rw [e]; exact hl) (markV_twice k rs).symm _ (Nat.le_refl _))
  rwa [e] at this
theorem markF_at (k : Int) (rs : List Flight) (i : Nat) (h : i < rs.length) : (markF k rs)[i]? = some ⟨mtext (k + cntF (rs.take i)), k + cntF (rs.take i) + 1, k + cntF (rs.take i) + 2, markV (k + cntF (rs.take i) + 3) rs[i].f3⟩ := by
  have e := markF_app k (rs.take i) (rs.drop i)
  rw [List.take_append_drop, drop_cons_at h] at e
  rw [e, List.getElem?_append_right (by rw [markF_len, List.length_take]; omega), markF_len, List.length_take, Nat.min_eq_left (by omega), Nat.sub_self]
  rfl
set_option maxRecDepth 100000 in
set_option maxHeartbeats 4000000 in
theorem heldF_any (A : Option Addr) (c : Nat) (rs : List Flight) (k : Int) (w : World) (hr : Kd.C k61 w A rs.length (markF k rs)) (h0 : 0 ≤ k) (hk : k + cntF rs ≤ 1000000000) (hl : rs.length ≤ 10000000) (hv : ∀ f ∈ rs, f.f3.length ≤ 10000000) :
    Calls Try.prog 108 #[.slice A rs.length c, .int .i64 k] w fun e w' => e = .returned (.int .i64 (k + cntF rs)) ∧ Below w.heap.size w w' := by
  have e := markF_len k rs
  have HR : Hid (Kd.C k61 w A (markF k rs).length (markF k rs)) := by show Kd.C _ _ _ _ _; rw [e]; exact hr
  have HV := Lib.hid hv
  have HE := Lib.hid e
  clear hr hv e
  go_enter Try.func108, Try.ntmps108
  go_wp2
  go_loopw [1, 5] (fun vk vi wr => ∃ i : Nat, vi = .int .i64 i ∧ i ≤ rs.length ∧ vk = .int .i64 (k + cntF (rs.take i)) ∧ Hid (Below w.heap.size w wr)) (fun _ vi _ => rs.length - (intOf vi).toNat)
  case atStart => exact ⟨0, rfl, Nat.zero_le _, by simp [cntF], Below.refl _ _⟩
  case round =>
    obtain ⟨i, rfl, hi, rfl, HB⟩ := hrel
    have hc0 := cntF_nonneg (rs.take i)
    by_cases hlt : i < rs.length
    · have hc2 := cntF_take rs (i + 1)
      have htk : rs.take (i + 1) = rs.take i ++ [rs[i]] := by rw [List.take_add_one, List.getElem?_eq_getElem hlt]; rfl
      rw [htk, cntF_app] at hc2
      simp only [cntF] at hc2
      have hm := markF_at k rs i hlt
      have hxv := HV.out rs[i] (List.getElem_mem hlt)
      obtain ⟨ad, x, A3, c3, rfl, hx, p0, p1, p2, p3, hl3, hr3⟩ := flightAt (Kd.C_below HR.out HB.out) i (by rw [HE.out]; exact hlt)
      obtain ⟨q, hq⟩ : ∃ q, q = k + cntF (rs.take i) := ⟨_, rfl⟩
      obtain ⟨g, hg⟩ : ∃ g, g = rs[i] := ⟨_, rfl⟩
      rw [← hq, ← hg] at hm
      rw [← hg] at htk hxv hc2
      rw [← hq]
      have hxe := Option.some.inj (hx.symm.trans hm)
      rw [hxe] at p0 p1 p2 p3 hr3 hl3
      simp only [markV_len] at p3 hr3 hl3
      have HT := Lib.hid htk
      have HQ := Lib.hid hq
      have hq0 : 0 ≤ q := by omega
      have hq1 : q + 3 + 3 * (g.f3.length : Int) ≤ 1000000000 := by omega
      have HR3 := Lib.hid hr3
      have QT := Lib.hid (mtext_any q (by omega) (by omega))
      have es := str_same (rfl : mtext q = mtext q)
      have j0 : (i : Int) < rs.length := by omega
      have j1 : IntKind.i64.wrap (q + 1) = q + 1 := IntWalk.i64_in _ (by omega)
      have j2 : IntKind.i64.wrap (q + 1 + 1) = q + 2 := by rw [IntWalk.i64_in _ (by omega)]; omega
      have j3 : IntKind.i64.wrap (q + 2 + 1) = q + 3 := by rw [IntWalk.i64_in _ (by omega)]; omega
      have bd : Below wr.heap.size wr wr.drew := pw_below_drewN (Below.refl _ _) 1
      clear hq htk hx hxe hm hg hr3 hc0 hc2
      go_wp2
      go_region_held3 (fun W' => W'.cell? (ad.add (i * 4)) = some (.string (mtext q))) (go_keep) (first
        | (go_at_call 76; refine (QT.out _).mono ?_; rintro e w1 ⟨rfl, hb1⟩; have b1 := bd.trans hb1; have p0 := pw_cell_below b1 p0; have p1 := pw_cell_below b1 p1; have p2 := pw_cell_below b1 p2; have p3 := pw_cell_below b1 p3))
      have b1 := Lib.hid (below_next HB.out HB.out.size b1)
      have QV := Lib.hid (heldV_any A3 c3 g.f3 (q + 3) w1 (Kd.C_below HR3.out (bd.trans hb1)) hl3 (by omega) (by omega) hxv)
      clear bd hb1 p0 es QT
      have e5 : (q + 1 != q + 1) = false := by simp
      have e6 : (q + 2 != q + 2) = false := by simp
      have e7 : decide (q + 3 + 3 * (g.f3.length : Int) < 0) = false := decide_eq_false (by omega)
      go_wp2_with (first
        | (go_at_call 156; refine QV.out.mono ?_; rintro e w2 ⟨rfl, hb2⟩; have b2 := Lib.hid (below_next b1.out b1.out.size hb2); clear hb2)
        | go_in)
      go_roundw
      case rel =>
        refine ⟨i + 1, by go_num, hlt, ?_, b2⟩
        rw [HT.out, cntF_app, ← Int.add_assoc, ← HQ.out]
        simp only [cntF]
        congr 1; omega
      case measure => simp [intOf]; omega
    · obtain rfl : i = rs.length := by omega
      go_wp2
      go_ret
      exact ⟨ret_int (by rw [List.take_length]), HB.out⟩
end Go.Proofs.Ytkfoeplefajkcaa.Q
end
section
namespace Go.Proofs.Ytkfoeplefajkcaa.Q
open Go.RowKit Go.Proofs.YtkfoeplefajkcaaW.PrintWords Go.Proofs.YtkfoeplefajkcaaW.PrintLast Go.Proofs.YtkfoeplefajkcaaW.PrintMore Go.Proofs.Ytkfoeplefajkcaa.Core
set_option linter.unusedVariables false
set_option linter.unusedSimpArgs false
set_option maxRecDepth 100000 in
set_option maxHeartbeats 2000000 in
theorem held_book_any {w : World} {base : Nat} {ok : Nat → Prop} {v0 v1 v2 : Value} (b : Book) (k : Int) (h : OwnO w base ok v0 v1 v2 (markB k b)) (h0 : 0 ≤ k) (hk : k ≤ 1000000) (hs : SmallB b) :
    Calls Try.prog 45 #[.agg #[v0, v1, v2], .int .i64 k] w fun e w' => e = .returned (.int .i64 (k + cntB b)) ∧ Below w.heap.size w w' := by
  obtain ⟨A0, c0, e0, hc0, r0⟩ := Kd.R_reads h.caps
  obtain ⟨A1, c1, e1, hc1, r1⟩ := Kd.R_reads (Kd.S_R h.flights)
  obtain ⟨A2, c2, e2, hc2, r2⟩ := Kd.R_reads h.slots
  unfold markB at e0 e1 e2 hc0 hc1 hc2 r0 r1 r2
  simp only at e0 e1 e2 hc0 hc1 hc2 r0 r1 r2
  rw [markC_len] at e0 hc0 r0
  rw [markF_len] at e1 hc1 r1
  rw [markI_len] at e2 hc2
  subst e0
  subst e1
  subst e2
  obtain ⟨W, hW⟩ : ∃ W, W = w.alloc (.cells #[.slice A0 b.f0.length c0, .slice A1 b.f1.length c1, .slice A2 b.f2.length c2] 55) := ⟨_, rfl⟩
  have hba : Below w.heap.size w W := by rw [hW]; exact (Below.refl _ _).alloc (Nat.le_refl _) _
  have g1 : W.cell? ⟨w.heap.size, 1, none⟩ = some (.slice A1 b.f1.length c1) := by rw [hW]; simp
  have g2 : W.cell? ⟨w.heap.size, 2, none⟩ = some (.slice A2 b.f2.length c2) := by rw [hW]; simp
  have HBA := Lib.hid hba
  have HN := Lib.hid hs
  have cn := hs.cn
  have n0 := hs.n0
  have cf := cntF_nonneg b.f1
  have q0 : decide (k + 2 * (b.f0.length : Int) < 0) = false := decide_eq_false (by omega)
  have q1 : decide (k + 2 * (b.f0.length : Int) + cntF b.f1 < 0) = false := decide_eq_false (by omega)
  have q2 : decide (k + 2 * (b.f0.length : Int) + cntF b.f1 + (b.f2.length : Int) < 0) = false := decide_eq_false (by omega)
  have R0 := Lib.hid r0
  have R1 := Lib.hid r1
  have R2 := Lib.hid r2
  clear h hs hba r0 r1 r2
  go_enter Try.func45, Try.ntmps45
  go_wp2_with (fail)
  rw [← hW]
  refine (heldC_any A0 c0 b.f0 k W (Kd.C_below R0.out HBA.out) hc0 h0 (by omega) n0).mono ?_
  rintro e w1 ⟨rfl, hb1⟩
  have B1 := Lib.hid (below_next HBA.out HBA.out.size hb1)
  have g1 := pw_cell_below hb1 g1
  have g2 := pw_cell_below hb1 g2
  clear hb1
  go_wp2_with (fail)
  refine (heldF_any A1 c1 b.f1 (k + 2 * (b.f0.length : Int)) w1 (Kd.C_below R1.out B1.out) (by omega) (by omega) HN.out.n1 HN.out.nv).mono ?_
  rintro e w2 ⟨rfl, hb2⟩
  have B2 := Lib.hid (below_next B1.out B1.out.size hb2)
  have g2 := pw_cell_below hb2 g2
  clear hb2
  go_wp2_with (fail)
  have t := heldI_any A2 c2 (markI (k + 2 * (b.f0.length : Int) + cntF b.f1) b.f2) (k + 2 * (b.f0.length : Int) + cntF b.f1) w2 (Kd.C_below R2.out B2.out) (by rw [markI_len]; exact hc2) (by omega) (by omega) (by rw [markI_len]; exact HN.out.n2) (markI_twice _ _).symm
  rw [markI_len] at t
  refine t.mono ?_
  rintro e w3 ⟨rfl, hb3⟩
  have B3 := Lib.hid (below_next B2.out B2.out.size hb3)
  clear hb3 t
  go_wp2
  go_ret
  exact ⟨ret_int (by unfold cntB; omega), B3.out⟩
theorem smallB_of {b : Book} (h0 : wL wC b.f0 ≤ 1048576) (h1 : wL wF b.f1 ≤ 1048576) (h2 : b.f2.length ≤ 1048576) : SmallB b :=
  ⟨by have := len_le_wL wC b.f0; omega, by have := len_le_wL wF b.f1; omega, by omega, fun f hf => Nat.le_trans (visits_le_wL b.f1 f hf) (by omega), cntF_small b.f1 (by omega)⟩
theorem cntB_nonneg (b : Book) : 0 ≤ cntB b := by have := cntF_nonneg b.f1; unfold cntB; omega
theorem cntB_le {b : Book} (h : SmallB b) : cntB b ≤ 1000000000 := by have := h.n0; have := h.n2; have := h.cn; unfold cntB; omega
theorem OwnB.form_C {w : World} {base n0 n1 n2 c0 c1 c2 : Nat} {A0 A1 A2 : Option Addr} {b : Book} (h : OwnB w base (.slice A0 n0 c0) (.slice A1 n1 c1) (.slice A2 n2 c2) b) : Kd.C k99 w A0 b.f0.length b.f0 ∧ Kd.C k61 w A1 b.f1.length b.f1 ∧ Kd.C (Kd.int .i64) w A2 b.f2.length b.f2 :=
  ⟨(Kd.R_reads' h.caps).2.2, (Kd.R_reads' (Kd.S_R h.flights)).2.2, (Kd.R_reads' h.slots).2.2⟩
theorem smallB_empty : SmallB emptyB := ⟨by simp [emptyB], by simp [emptyB], by simp [emptyB], by simp [emptyB], by simp [emptyB, cntF]⟩
theorem smallB_fits {b : Book} (h : fitsB b.f0 b.f1 b.f2 = true) : SmallB b := by
  obtain ⟨h1, h2, _⟩ := fitsB_parts h
  obtain ⟨h3, h4, _⟩ := slotsB_parts h2
  obtain ⟨h5, h6, _⟩ := flightsB_parts h3
  have hc := (capsB_parts h1).1
  have hv : ∀ f ∈ b.f1, f.f3.length ≤ 5 := fun f hf => (visitsB_parts (flightB_parts (h6 f hf)).2.2.2.2.2).2.1
  have := cntF_le b.f1 5 hv
  have hm : (b.f1.length : Int) * (3 + 3 * ((5 : Nat) : Int)) ≤ 8 * 18 := by
    have h8 : (b.f1.length : Int) ≤ 8 := by omega
    have e : (3 + 3 * ((5 : Nat) : Int)) = 18 := by decide
    rw [e]
    omega
  exact ⟨by omega, by omega, by omega, fun f hf => by have := hv f hf; omega, by omega⟩
end Go.Proofs.Ytkfoeplefajkcaa.Q
end
