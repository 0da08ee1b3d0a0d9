/- Merged out of this seat's own texts. -/
import Derived.Test.YthcpbojmalgdbaaGreatMgF
import Derived.Test.YthcpbojmalgdbaaGreatMgD
import Derived.Test.YthcpbojmalgdbaaGreatMgAd
import Derived.Test.YthcpbojmalgdbaaGreatMgDp
import Derived.Test.YthcpbojmalgdbaaGreatMgQ
section
namespace Go.Proofs.YthcpbojmalgdbaaGreat.Q
open Go.RowKit Go.Proofs.YthcpbojmalgdbaaGreatW.PrintWords Go.Proofs.YthcpbojmalgdbaaGreatW.PrintLast Go.Proofs.YthcpbojmalgdbaaGreatW.PrintMore Go.Proofs.YthcpbojmalgdbaaGreat.Core
set_option linter.unusedVariables false
set_option linter.unusedSimpArgs false
structure RdB (w : World) (base : Nat) (v0 v1 v2 : Value) (b : Book) : Prop where
  caps : Kd.R k42 42 w base (fun _ => True) v0 b.f0
  flights : Kd.R k47 47 w base (fun _ => True) v1 b.f1
  slots : Kd.R (Kd.int .i64) 3 w base (fun _ => True) v2 b.f2
structure BoxR (w : World) (base B : Nat) (v0 v1 v2 : Value) (b : Book) : Prop where
  box : w.heap[B]? = some (.cells #[v0, v1, v2] 27 (0, 0))
  book : RdB w base v0 v1 v2 b
section
variable {w w1 : World} {base base' B : Nat} {v0 v1 v2 : Value} {b : Book}
theorem OwnB.rd (h : OwnB w base v0 v1 v2 b) : RdB w base v0 v1 v2 b := ⟨h.caps, Kd.S_R h.flights, h.slots⟩
theorem BoxB.rd (h : BoxB w base B v0 v1 v2 b) : BoxR w base B v0 v1 v2 b := ⟨h.box, h.book.rd⟩
theorem RdB.lower (h : RdB w base v0 v1 v2 b) (hb : base' ≤ base) : RdB w base' v0 v1 v2 b := ⟨Kd.R_lower h.caps hb, Kd.R_lower h.flights hb, Kd.R_lower h.slots hb⟩
theorem RdB.below (h : RdB w base v0 v1 v2 b) (hb : Below w.heap.size w w1) : RdB w1 base v0 v1 v2 b := ⟨Kd.R_below h.caps hb, Kd.R_below h.flights hb, Kd.R_below h.slots hb⟩
theorem R_keepB {α : Type} {d : Kd α} {e g : Nat} {v : Value} {xs : List α} (h : d.R e w base (fun _ => True) v xs) (hk : KeepBut w w1 g none) (hg : g < base) : d.R e w1 base (fun _ => True) v xs :=
  Kd.R_mono (R_keep (Kd.R_mono (Kd.R_bound h) (fun k a => (by have := a.2.1; omega : k ≠ g))) hk (fun _ e => e)) (fun _ _ => trivial)
theorem RdB.keepBut {g : Nat} (h : RdB w base v0 v1 v2 b) (hk : KeepBut w w1 g none) (hg : g < base) : RdB w1 base v0 v1 v2 b := ⟨R_keepB h.caps hk hg, R_keepB h.flights hk hg, R_keepB h.slots hk hg⟩
theorem RdB.form (h : RdB w base v0 v1 v2 b) : ∃ A0 c0 A1 c1 A2 c2, v0 = .slice A0 b.f0.length c0 ∧ v1 = .slice A1 b.f1.length c1 ∧ v2 = .slice A2 b.f2.length c2 := by
  obtain ⟨A0, c0, e0⟩ := Kd.R_slice h.caps
  obtain ⟨A1, c1, e1⟩ := Kd.R_slice h.flights
  obtain ⟨A2, c2, e2⟩ := Kd.R_slice h.slots
  exact ⟨A0, c0, A1, c1, A2, c2, e0, e1, e2⟩
theorem RdB.form_D {n0 n1 n2 c0 c1 c2 : Nat} {A0 A1 A2 : Option Addr} (h : RdB w base (.slice A0 n0 c0) (.slice A1 n1 c1) (.slice A2 n2 c2) b) : Kd.C k42 w A0 b.f0.length b.f0 ∧ Kd.C k47 w A1 b.f1.length b.f1 ∧ Kd.C (Kd.int .i64) w A2 b.f2.length b.f2 :=
  ⟨(Kd.R_reads' h.caps).2.2, (Kd.R_reads' h.flights).2.2, (Kd.R_reads' h.slots).2.2⟩
theorem RdB.cell {cs : Array Value} {r : Nat} (h : RdB w base v0 v1 v2 b) (hr : w.heap[r]? = some (.cells cs 27 (0, 0))) (j : Nat) (u : Value) : RdB (w.setCell ⟨r, j, none⟩ u) base v0 v1 v2 b :=
  ⟨Kd.R_set h.caps hr caps_book _ _, Kd.R_set h.flights hr flights_book _ _, Kd.R_set h.slots hr ints_book _ _⟩
theorem RdB.cell3 {cs : Array Value} {r : Nat} (h : RdB w base v0 v1 v2 b) (hr : w.heap[r]? = some (.cells cs 27 (0, 0))) (u0 u1 u2 : Value) : RdB (((w.setCell ⟨r, 0, none⟩ u0).setCell ⟨r, 1, none⟩ u1).setCell ⟨r, 2, none⟩ u2) base v0 v1 v2 b :=
  ((h.cell hr 0 u0).cell (blk_set hr 0 u0) 1 u1).cell (blk_set (blk_set hr 0 u0) 1 u1) 2 u2
theorem RdB.slot {g n c : Nat} (h : RdB w base v0 v1 (.slice (some ⟨g, 0, none⟩) n c) b) (k : Nat) (y : Int) : RdB (w.setCell ⟨g, k, none⟩ (.int .i64 y)) base v0 v1 (.slice (some ⟨g, 0, none⟩) n c) ⟨b.f0, b.f1, b.f2.set k y⟩ := by
  obtain ⟨cs, hc⟩ := Kd.R_typed h.slots g rfl
  exact ⟨Kd.R_set h.caps hc caps_int _ _, Kd.R_set h.flights hc flights_int _ _, R_setN h.slots k y⟩
theorem RdB.flight {gL n c k lo c5 : Nat} {A5 : Option Addr} {f' : Flight} (h : RdB w base v0 (.slice (some ⟨gL, 0, none⟩) n c) v2 b) (hk : k < b.f1.length) (hlo : base ≤ lo) (hg : gL < lo) (hR : Kd.R k58 58 w lo (fun _ => True) (.slice A5 f'.f3.length c5) f'.f3) :
    RdB ((((w.setCell ⟨gL, k * 4, none⟩ (.string f'.f0)).setCell ⟨gL, k * 4 + 1, none⟩ (.int .i64 f'.f1)).setCell ⟨gL, k * 4 + 2, none⟩ (.int .i64 f'.f2)).setCell ⟨gL, k * 4 + 3, none⟩ (.slice A5 f'.f3.length c5)) base v0 (.slice (some ⟨gL, 0, none⟩) n c) v2 ⟨b.f0, b.f1.set k f', b.f2⟩ := by
  obtain ⟨cs, b0⟩ := Kd.R_typed h.flights gL rfl
  have hn := (Kd.R_reads' h.flights).1
  have b1 := blk_set b0 (k * 4) (.string f'.f0)
  have b2 := blk_set b1 (k * 4 + 1) (.int .i64 f'.f1)
  have b3 := blk_set b2 (k * 4 + 2) (.int .i64 f'.f2)
  refine ⟨Kd.R_set (Kd.R_set (Kd.R_set (Kd.R_set h.caps b0 caps_flight _ _) b1 caps_flight _ _) b2 caps_flight _ _) b3 caps_flight _ _, ?_, Kd.R_set (Kd.R_set (Kd.R_set (Kd.R_set h.slots b0 ints_flight _ _) b1 ints_flight _ _) b2 ints_flight _ _) b3 ints_flight _ _⟩
  obtain ⟨cc, hcl, hM, hcc, hfr⟩ := Kd.R_elem h.flights default (k : Int) (by omega) (by omega)
  obtain ⟨v5, rfl, _⟩ := k47_openM hM
  have hI : Kd.R k58 58 w base (fun j => lo ≤ j) (.slice A5 f'.f3.length c5) f'.f3 := Kd.R_lower (Kd.R_mono (Kd.R_bound hR) (fun j hj => hj.2.1)) hlo
  exact (Kd.R_seg h.flights (k : Int) (by omega) (by omega) (seg := [.string f'.f0, .int .i64 f'.f1, .int .i64 f'.f2, .slice A5 f'.f3.length c5]) (j := 0) hcl hcc (show 0 + 4 ≤ 4 from by decide) (x' := f') (okp := fun j => lo ≤ j) (k47_mkM _ _ _ f' hI) (fun j hj => ⟨trivial, by omega⟩)).1
theorem BoxR.below (h : BoxR w base B v0 v1 v2 b) (hb : Below w.heap.size w w1) : BoxR w1 base B v0 v1 v2 b := ⟨blk_below h.box hb, h.book.below hb⟩
theorem BoxR.keepBut {g : Nat} (h : BoxR w base B v0 v1 v2 b) (hk : KeepBut w w1 g none) (hg : g < base) (hne : B ≠ g) : BoxR w1 base B v0 v1 v2 b := ⟨keep_blk hk h.box hne, h.book.keepBut hk hg⟩
theorem BoxR.cells (h : BoxR w base B v0 v1 v2 b) : w.cell? ⟨B, 0, none⟩ = some v0 ∧ w.cell? ⟨B, 1, none⟩ = some v1 ∧ w.cell? ⟨B, 2, none⟩ = some v2 := ⟨(blk_cell h.box 0).trans rfl, (blk_cell h.box 1).trans rfl, (blk_cell h.box 2).trans rfl⟩
theorem BoxR.made (h : RdB w base v0 v1 v2 b) : BoxR (w.alloc (.cells #[v0, v1, v2] 27)) base w.heap.size v0 v1 v2 b := ⟨blk_new _ _, h.below (below_alloc (Below.refl _ _) _)⟩
theorem BoxR.put {u0 u1 u2 : Value} {c : Book} (h : BoxR w base B v0 v1 v2 b) (h' : RdB w base u0 u1 u2 c) : BoxR (((w.setCell ⟨B, 0, none⟩ u0).setCell ⟨B, 1, none⟩ u1).setCell ⟨B, 2, none⟩ u2) base B u0 u1 u2 c :=
  ⟨blk_set (blk_set (blk_set h.box 0 u0) 1 u1) 2 u2, h'.cell3 h.box u0 u1 u2⟩
theorem BoxR.setCaps {u : Value} {l : List Cap} (h : BoxR w base B v0 v1 v2 b) (hR : Kd.R k42 42 w base (fun _ => True) u l) : BoxR (w.setCell ⟨B, 0, none⟩ u) base B u v1 v2 ⟨l, b.f1, b.f2⟩ :=
  ⟨blk_set h.box 0 u, RdB.cell (b := ⟨l, b.f1, b.f2⟩) ⟨hR, h.book.flights, h.book.slots⟩ h.box 0 u⟩
theorem BoxR.setSlots {u : Value} {l : List Int} (h : BoxR w base B v0 v1 v2 b) (hR : Kd.R (Kd.int .i64) 3 w base (fun _ => True) u l) : BoxR (w.setCell ⟨B, 2, none⟩ u) base B v0 v1 u ⟨b.f0, b.f1, l⟩ :=
  ⟨blk_set h.box 2 u, RdB.cell (b := ⟨b.f0, b.f1, l⟩) ⟨h.book.caps, h.book.flights, hR⟩ h.box 2 u⟩
theorem flightOwn {ok : Nat → Prop} {gL n c : Nat} {xs : List Flight} (h : Kd.R k47 47 w base ok (.slice (some ⟨gL, 0, none⟩) n c) xs) (k : Nat) (hk : k < xs.length) :
    ∃ f A3 c3, xs[k]? = some f ∧ w.cell? ⟨gL, k * 4, none⟩ = some (.string f.f0) ∧ w.cell? ⟨gL, k * 4 + 1, none⟩ = some (.int .i64 f.f1) ∧ w.cell? ⟨gL, k * 4 + 2, none⟩ = some (.int .i64 f.f2) ∧ w.cell? ⟨gL, k * 4 + 3, none⟩ = some (.slice A3 f.f3.length c3) ∧
      f.f3.length ≤ c3 ∧ Kd.C k58 w A3 f.f3.length f.f3 ∧ ∀ j, w.frozen? ⟨gL, k * 4 + j, none⟩ = false := by
  have hn := (Kd.R_reads' h).1
  obtain ⟨cc, hcl, hM, hcc, hfr⟩ := Kd.R_elem h default (k : Int) (by omega) (by omega)
  have hgd : xs.getD (k : Int).toNat default = xs[k] := by rw [Int.toNat_natCast, List.getD_eq_getElem?_getD, List.getElem?_eq_getElem hk]; rfl
  rw [hgd] at hM
  obtain ⟨f, hf⟩ : ∃ f, f = xs[k] := ⟨_, rfl⟩
  rw [← hf] at hM
  obtain ⟨v3, rfl, hR3⟩ := k47_openM hM
  obtain ⟨A3, c3, rfl⟩ := Kd.R_slice hR3
  exact ⟨f, A3, c3, by rw [hf]; exact List.getElem?_eq_getElem hk, hcc 0 _ rfl, hcc 1 _ rfl, hcc 2 _ rfl, hcc 3 _ rfl, (Kd.R_reads' hR3).2.1, (Kd.R_reads' hR3).2.2, hfr⟩
end
structure RdO (w : World) (base hi : Nat) (v0 v1 v2 : Value) (b : Book) : Prop where
  caps : Kd.R k42 42 w base (fun k => k < hi) v0 b.f0
  flights : Kd.R k47 47 w base (fun k => k < hi) v1 b.f1
  slots : Kd.R (Kd.int .i64) 3 w base (fun k => k < hi) v2 b.f2
section
variable {w w1 : World} {base hi : Nat} {v0 v1 v2 : Value} {b : Book}
theorem RdO.below (h : RdO w base hi v0 v1 v2 b) (hb : Below w.heap.size w w1) : RdO w1 base hi v0 v1 v2 b := ⟨Kd.R_below h.caps hb, Kd.R_below h.flights hb, Kd.R_below h.slots hb⟩
theorem R_keepO {α : Type} {d : Kd α} {e g : Nat} {v : Value} {xs : List α} (h : d.R e w base (fun k => k < hi) v xs) (hk : KeepBut w w1 g none) (hg : g < base) : d.R e w1 base (fun k => k < hi) v xs :=
  Kd.R_mono (R_keep (Kd.R_mono (Kd.R_bound h) (fun k a => (⟨a.1, by have := a.2.1; omega⟩ : k < hi ∧ k ≠ g))) hk (fun _ e => e.2)) (fun _ e => e.1)
theorem RdO.keepBut {g : Nat} (h : RdO w base hi v0 v1 v2 b) (hk : KeepBut w w1 g none) (hg : g < base) : RdO w1 base hi v0 v1 v2 b := ⟨R_keepO h.caps hk hg, R_keepO h.flights hk hg, R_keepO h.slots hk hg⟩
theorem RdO.far (h : RdO w base hi v0 v1 v2 b) {p : Addr} (hp : hi ≤ p.block) (u : Value) : RdO (w.setCell p u) base hi v0 v1 v2 b := ⟨Kd.R_far h.caps (fun k hk => by omega) u, Kd.R_far h.flights (fun k hk => by omega) u, Kd.R_far h.slots (fun k hk => by omega) u⟩
theorem R_old {α : Type} {d : Kd α} {e : Nat} {v : Value} {xs : List α} (h : d.R e w base (fun _ => True) v xs) {p : Addr} (hp : p.block < base) (u : Value) : d.R e (w.setCell p u) base (fun _ => True) v xs :=
  Kd.R_mono (Kd.R_far (Kd.R_mono (Kd.R_bound h) (fun k a => (by have := a.2.1; omega : k ≠ p.block))) (fun _ e => e) u) (fun _ _ => trivial)
theorem RdB.setOld (h : RdB w base v0 v1 v2 b) {p : Addr} (hp : p.block < base) (u : Value) : RdB (w.setCell p u) base v0 v1 v2 b := ⟨R_old h.caps hp u, R_old h.flights hp u, R_old h.slots hp u⟩
end
end Go.Proofs.YthcpbojmalgdbaaGreat.Q
end
section
namespace Go.Proofs.YthcpbojmalgdbaaGreat.Q
open Go.RowKit Go.Proofs.YthcpbojmalgdbaaGreatW.PrintWords Go.Proofs.YthcpbojmalgdbaaGreatW.PrintLast Go.Proofs.YthcpbojmalgdbaaGreatW.PrintMore Go.Proofs.YthcpbojmalgdbaaGreat.Core
set_option linter.unusedVariables false
set_option linter.unusedSimpArgs false
def lightL (l : List Flight) : Prop := ∀ f ∈ l, 1 ≤ f.f3.length ∧ f.f3.length ≤ 3 ∧ smallL f
theorem light_add {b : Book} (h : lightL b.f1) {f : Flight} (hf : 1 ≤ f.f3.length ∧ f.f3.length ≤ 3 ∧ smallL f) : lightL (addR b f).1.f1 := by
  unfold addR
  split
  · intro f hf; cases hf
  split
  · exact h
  split
  · exact h
  split
  · exact h
  · intro g hg
    rcases insAt_mem.1 hg with h1 | h1
    · rw [h1]; exact hf
    · exact h g h1
theorem light_drop {b : Book} (h : lightL b.f1) (n : ByteArray) : lightL (dropR b n).1.f1 := by
  unfold dropR
  split
  · intro f hf; cases hf
  split
  · exact h
  · intro g hg
    exact h g ((delAt_sub _ _).subset hg)
set_option maxRecDepth 100000 in
set_option maxHeartbeats 8000000 in
theorem l6Book_any {w0 w : World} {g : Nat} {bs : List Int} {p : Int} (h : Rdr w0 w g bs p) (hp : p ≤ 500000) :
    Calls Tryz.prog 37 #[.pointer (some ⟨g, 0, none⟩)] w fun e w' => ∃ (v0 v1 v2 : Value) (b : Book) (p' : Int), p ≤ p' ∧ p' ≤ p + 800 ∧ okB b = true ∧ b.f0.length ≤ 3 ∧ lightL b.f1 ∧
      e = .returned (.agg #[v0, v1, v2]) ∧ OwnB w' w.heap.size v0 v1 v2 b ∧ Rdr w0 w' g bs p' ∧ KeepBut w w' g none := by
  have hgl := h.lt
  have h0w := h.hb.size
  have H0 := Lib.hid (h.alloc (.cells #[.slice none 0 0, .slice none 0 0, .slice none 0 0] 27))
  have Z0 := Lib.hid (blk_new w (.cells #[.slice none 0 0, .slice none 0 0, .slice none 0 0] 27))
  have K0 := Lib.hid (keep_al (KeepBut.refl w g none) (.cells #[.slice none 0 0, .slice none 0 0, .slice none 0 0] 27))
  clear h
  go_enter Tryz.func37, Tryz.ntmps37
  go_wp2_with (fail)
  refine (capsOk_any H0.out (by omega)).mono ?_
  rintro e w1 ⟨vc, caps, p1, hp1, hp1', hok, hn3, rfl, hR1, h1, k1⟩
  have z1 : w.heap.size + 1 ≤ w1.heap.size := by have := k1.1; simpa using this
  have HR1 := Lib.hid (Kd.R_lower (base' := w.heap.size) hR1 (by simp))
  have Z1 := Lib.hid (keep_blk k1 Z0.out (by omega))
  have K1 := Lib.hid (K0.out.trans k1 (.inl rfl))
  have H1 := Lib.hid h1
  have HOK0 : Hid (okB ⟨caps, [], []⟩ = true) := okB_empty hok
  obtain ⟨Ac, cc, rfl⟩ := Kd.R_slice HR1.out
  clear hR1 k1 h1 hok Z0 K0 H0
  have T1 : Hid (BoxB (w1.alloc (.cells #[.slice Ac caps.length cc, .slice none 0 0, .slice none 0 0] 27)) w.heap.size w1.heap.size (.slice Ac caps.length cc) (.slice none 0 0) (.slice none 0 0) ⟨caps, [], []⟩) := BoxB.made ⟨HR1.out, Kd.S_nil _ _ _ _ _, Kd.R_nil _ _ _ _ _⟩
  have hne : w1.heap.size ≠ g := by omega
  go_wp2_with (fail)
  refine (pick_any (H1.out.alloc _) 12 (by omega) (by omega) (by omega)).mono ?_
  rintro e w2 ⟨r, a2, b2, rfl, h2, k2⟩
  obtain ⟨n0, rfl⟩ : ∃ m : Nat, r = (m : Int) := ⟨r.toNat, by omega⟩
  have z2 : w1.heap.size + 1 ≤ w2.heap.size := by have := k2.1; simpa using this
  have T2 := Lib.hid (T1.out.keepBut k2 hgl hne)
  have Z2 := Lib.hid (keep_blk k2 (blk_alloc Z1.out _) (by omega))
  have K2 := Lib.hid ((keep_al K1.out _).trans k2 (.inl rfl))
  have H2 := Lib.hid h2
  have HLI : Hid (lightL ([] : List Flight)) := fun f hf => by cases hf
  clear h2 k2 T1 Z1 K1 H1 HR1
  go_wp2
  go_loopw [4] (fun vn wr => ∃ (n : Nat) (v0 v1 v2 : Value) (b : Book) (q : Int), vn = .int .i64 n ∧ p ≤ q ∧ q + 60 * (n : Int) ≤ p + 800 ∧ b.f0.length ≤ 3 ∧ Hid (okB b = true) ∧ Hid (lightL b.f1) ∧ Hid (BoxB wr w.heap.size w1.heap.size v0 v1 v2 b) ∧ Hid (Rdr w0 wr g bs q) ∧ Hid (KeepBut w wr g none) ∧
    Hid (wr.heap[w.heap.size]? = some (.cells #[.slice none 0 0, .slice none 0 0, .slice none 0 0] 27 (0, 0)))) (fun vn _ => (intOf vn).toNat)
  case atStart => exact ⟨n0, _, _, _, _, p1 + 1, rfl, by omega, by omega, hn3, HOK0, HLI, T2, H2, K2, Z2⟩
  case round =>
    clear HOK0 HLI T2 H2 K2 Z2
    obtain ⟨n, v0, v1, v2, b, q, rfl, hq0, hq1, hb3, HOK, HLI, T3, H3, K3, Z3⟩ := hrel
    obtain ⟨wa, rfl⟩ : ∃ wo : World, wo = wr := ⟨_, rfl⟩
    have z3 : w.heap.size ≤ wa.heap.size := K3.out.1
    have hl3 := blk_lt T3.out.box
    obtain ⟨AB, cB, CB, dB, DB, eB, rfl, rfl, rfl, _, _, _⟩ := T3.out.book.form
    by_cases hlt : 0 < n
    · obtain ⟨m, rfl⟩ : ∃ m, n = m + 1 := ⟨n - 1, by omega⟩
      have e0 : decide ((0 : Int) < ((m + 1 : Nat) : Int)) = true := decide_eq_true (by omega)
      have e0' : decide ((0 : Int) < (m : Int) + 1) = true := decide_eq_true (by omega)
      have jw : IntKind.i64.wrap ((m : Int) + 1 - 1) = (m : Int) := by rw [show (m : Int) + 1 - 1 = m by omega]; exact IntWalk.i64_in _ (by omega)
      go_wp2_with (fail)
      refine (pick_any H3.out 5 (by omega) (by omega) (by omega)).mono ?_
      rintro e w4 ⟨r, a4, b4, rfl, h4, k4⟩
      have z4 := k4.1
      have T4 := Lib.hid (T3.out.keepBut k4 hgl hne)
      have Z4 := Lib.hid (keep_blk k4 Z3.out (by omega))
      have K4 := Lib.hid (K3.out.trans k4 (.inl rfl))
      have H4 := Lib.hid h4
      clear h4 k4 T3 Z3 K3 H3
      have cs4 := T4.out.cells
      by_cases hr : r = 0
      · subst hr
        go_wp2
        refine start_ (n := 9) (S := fun w' => w'.cell? ⟨w1.heap.size, 0, none⟩ = some (.slice AB b.f0.length cB) ∧ w'.cell? ⟨w1.heap.size, 1, none⟩ = some (.slice CB b.f1.length dB) ∧ w'.cell? ⟨w1.heap.size, 2, none⟩ = some (.slice DB b.f2.length eB)) (ds := [8]) #[false, false, false, false, false, false, false, false, false] (by kernel_rfl) rfl rfl (cs4) (fun hHeld => ?_)
        refine pure_ (i := 1) (N := some 19) (v := ?_) (a' := ?_) #[false, true, false, false, false, false, false, false, false] rfl rfl (by kernel_rfl) (fun _ _ _ h => h) (Or.inl ⟨by rfl, ?_⟩) ?_ ?_
        rotate_left
        · intro w'
          go_simp
          try with_reducible rfl
        rotate_left
        · (try simp only [Act.put, List.setIfInBounds_toArray, List.set_cons_zero, List.set_cons_succ])
          rfl
        refine take_ (i := 0) (N := some 18) (v := ?_) (a' := ?_) #[true, true, false, false, false, false, false, false, false] rfl rfl (by kernel_rfl) (fun _ _ _ h => h) (Or.inl ⟨by rfl, ?_⟩) hHeld ?_ ?_
        rotate_left
        · rintro w' ⟨s0, s1, s2⟩
          go_simp
          try with_reducible rfl
        rotate_left
        · (try simp only [Act.put, List.setIfInBounds_toArray, List.set_cons_zero, List.set_cons_succ])
          rfl
        refine one_ (i := 2) (N := some 20) #[true, true, true, false, false, false, false, false, false] rfl rfl (by kernel_rfl) (by simp) (fun K hK => ?_)
        go_simp
        refine (names_any _).mono ?_
        rintro e w5 ⟨vN, names, hl8, rfl, hN, hb5⟩
        go_simp
        have z5 : w4.heap.size ≤ w5.heap.size := hb5.size
        have hb5 : Below w4.heap.size w4 w5 := below_next (pw_below_drewN (Below.refl w4.heap.size w4) 1) (Nat.le_refl _) hb5
        have T5 := Lib.hid (T4.out.below hb5)
        have Z5 := Lib.hid (blk_below Z4.out hb5)
        have K5 := Lib.hid (K4.out.trans (KeepBut.of_below hb5 g none) (.inl rfl))
        have H5 := Lib.hid (H4.out.below hb5)
        have HN := Lib.hid hN
        clear hN hb5
        refine hK.out _ _ (T5.out.cells) (fun hHeld => ?_)
        clear hK K
        try simp only [Act.put, List.setIfInBounds_toArray, List.set_cons_zero, List.set_cons_succ]
        refine one_ (i := 3) (N := some 21) #[true, true, true, true, false, false, false, false, false] rfl rfl (by kernel_rfl) (by simp) (fun K hK => ?_)
        go_simp
        refine (nameOf_any H5.out (by omega) hl8 HN.out (by show g < w4.heap.size; omega)).mono ?_
        rintro e w6 ⟨s, rfl, h6, k6⟩
        go_simp
        have z6 := k6.1
        have T6 := Lib.hid (T5.out.keepBut k6 hgl hne)
        have Z6 := Lib.hid (keep_blk k6 Z5.out (by omega))
        have K6 := Lib.hid (K5.out.trans k6 (.inl rfl))
        have H6 := Lib.hid h6
        clear h6 k6
        refine hK.out _ _ (T6.out.cells) (fun hHeld => ?_)
        clear hK K
        try simp only [Act.put, List.setIfInBounds_toArray, List.set_cons_zero, List.set_cons_succ]
        refine one_ (i := 4) (N := some 22) #[true, true, true, true, true, false, false, false, false] rfl rfl (by kernel_rfl) (by simp) (fun K hK => ?_)
        go_simp
        refine (spec_flowDrop_any _ _ _ _ _ _ b s _ T6.out.book.form_D.1 T6.out.book.form_D.2.1 T6.out.book.form_D.2.2).mono ?_
        rintro e w8 ⟨u0, u1, u2, rfl, ho, hb8⟩
        go_simp
        have z8 : w6.heap.size ≤ w8.heap.size := hb8.size
        obtain ⟨AX, cX, CX, dX, DX, eX, rfl, rfl, rfl, _, _, _⟩ := ho.form
        have T8 := Lib.hid (T6.out.below hb8)
        have Z8 := Lib.hid (blk_below Z6.out hb8)
        have K8 := Lib.hid (K6.out.trans (KeepBut.of_below hb8 g none) (.inl rfl))
        have H8 := Lib.hid (H6.out.below hb8)
        have O8 := Lib.hid (ho.lower (base' := w.heap.size) (by omega))
        clear ho hb8
        have fr0 := blk_frozen T8.out.box 0
        have fr1 := blk_frozen T8.out.box 1
        have fr2 := blk_frozen T8.out.box 2
        obtain ⟨ta, tb, tc⟩ := T8.out.cells
        refine hK.out _ _ (T8.out.cells) (fun hHeld => ?_)
        clear hK K
        try simp only [Act.put, List.setIfInBounds_toArray, List.set_cons_zero, List.set_cons_succ]
        refine pure_ (i := 5) (N := some 17) (v := ?_) (a' := ?_) #[true, true, true, true, true, true, false, false, false] rfl rfl (by kernel_rfl) (fun _ _ _ h => h) (Or.inl ⟨by rfl, ?_⟩) ?_ ?_
        rotate_left
        · intro w'
          go_simp
          try with_reducible rfl
        rotate_left
        · (try simp only [Act.put, List.setIfInBounds_toArray, List.set_cons_zero, List.set_cons_succ])
          rfl
        refine pure_ (i := 6) (N := some 23) (v := ?_) (a' := ?_) #[true, true, true, true, true, true, true, false, false] rfl rfl (by kernel_rfl) (fun _ _ _ h => h) (Or.inl ⟨by rfl, ?_⟩) ?_ ?_
        rotate_left
        · intro w'
          go_simp
          try with_reducible rfl
        rotate_left
        · (try simp only [Act.put, List.setIfInBounds_toArray, List.set_cons_zero, List.set_cons_succ])
          rfl
        refine pure_ (i := 7) (N := some 24) (v := ?_) (a' := ?_) #[true, true, true, true, true, true, true, true, false] rfl rfl (by kernel_rfl) (fun _ _ _ h => h) (Or.inl ⟨by rfl, ?_⟩) ?_ ?_
        rotate_left
        · intro w'
          go_simp
          try with_reducible rfl
        rotate_left
        · (try simp only [Act.put, List.setIfInBounds_toArray, List.set_cons_zero, List.set_cons_succ])
          rfl
        refine last_ (i := 8) (N := none) #[true, true, true, true, true, true, true, true, true] rfl rfl (by kernel_rfl) (by simp) (fun K hK => ?_)
        go_simp
        refine hK.out _ _ ?_
        clear hK K
        try simp only [Act.put, List.setIfInBounds_toArray, List.set_cons_zero, List.set_cons_succ]
        refine done_ (by kernel_rfl) ?_
        go_wp2
        go_roundw
        case rel => exact ⟨m, _, _, _, (dropR b s).1, q + 1 + 1, by go_num, by omega, by omega, (by rw [(dropR_ok HOK.out _).2]; exact hb3), (dropR_ok HOK.out _).1, (light_drop HLI.out _), T8.out.put O8.out, H8.out.put (by omega) (by omega) _ _ _, keep_put K8.out (by omega) _ _ _, blk_put3 Z8.out (by omega) _ _ _⟩
        case measure => simp [intOf]
      · have er : (r == 0) = false := by simp [hr]
        go_wp2
        refine start_ (n := 11) (S := fun w' => w'.cell? ⟨w1.heap.size, 0, none⟩ = some (.slice AB b.f0.length cB) ∧ w'.cell? ⟨w1.heap.size, 1, none⟩ = some (.slice CB b.f1.length dB) ∧ w'.cell? ⟨w1.heap.size, 2, none⟩ = some (.slice DB b.f2.length eB)) (ds := [10]) #[false, false, false, false, false, false, false, false, false, false, false] (by kernel_rfl) rfl rfl (cs4) (fun hHeld => ?_)
        refine pure_ (i := 1) (N := some 27) (v := ?_) (a' := ?_) #[false, true, false, false, false, false, false, false, false, false, false] rfl rfl (by kernel_rfl) (fun _ _ _ h => h) (Or.inl ⟨by rfl, ?_⟩) ?_ ?_
        rotate_left
        · intro w'
          go_simp
          try with_reducible rfl
        rotate_left
        · (try simp only [Act.put, List.setIfInBounds_toArray, List.set_cons_zero, List.set_cons_succ])
          rfl
        refine pure_ (i := 2) (N := some 28) (v := ?_) (a' := ?_) #[false, true, true, false, false, false, false, false, false, false, false] rfl rfl (by kernel_rfl) (fun _ _ _ h => h) (Or.inl ⟨by rfl, ?_⟩) ?_ ?_
        rotate_left
        · intro w'
          go_simp
          try with_reducible rfl
        rotate_left
        · (try simp only [Act.put, List.setIfInBounds_toArray, List.set_cons_zero, List.set_cons_succ])
          rfl
        refine take_ (i := 0) (N := some 26) (v := ?_) (a' := ?_) #[true, true, true, false, false, false, false, false, false, false, false] rfl rfl (by kernel_rfl) (fun _ _ _ h => h) (Or.inl ⟨by rfl, ?_⟩) hHeld ?_ ?_
        rotate_left
        · rintro w' ⟨s0, s1, s2⟩
          go_simp
          try with_reducible rfl
        rotate_left
        · (try simp only [Act.put, List.setIfInBounds_toArray, List.set_cons_zero, List.set_cons_succ])
          rfl
        refine one_ (i := 3) (N := some 29) #[true, true, true, true, false, false, false, false, false, false, false] rfl rfl (by kernel_rfl) (by simp) (fun K hK => ?_)
        go_simp
        refine (names_any _).mono ?_
        rintro e w5 ⟨vN, names, hl8, rfl, hN, hb5⟩
        go_simp
        have z5 : w4.heap.size ≤ w5.heap.size := hb5.size
        have hb5 : Below w4.heap.size w4 w5 := below_next (pw_below_drewN (Below.refl w4.heap.size w4) 1) (Nat.le_refl _) hb5
        have T5 := Lib.hid (T4.out.below hb5)
        have Z5 := Lib.hid (blk_below Z4.out hb5)
        have K5 := Lib.hid (K4.out.trans (KeepBut.of_below hb5 g none) (.inl rfl))
        have H5 := Lib.hid (H4.out.below hb5)
        have HN := Lib.hid hN
        clear hN hb5
        refine hK.out _ _ (T5.out.cells) (fun hHeld => ?_)
        clear hK K
        try simp only [Act.put, List.setIfInBounds_toArray, List.set_cons_zero, List.set_cons_succ]
        refine one_ (i := 4) (N := some 30) #[true, true, true, true, true, false, false, false, false, false, false] rfl rfl (by kernel_rfl) (by simp) (fun K hK => ?_)
        go_simp
        refine (nameOf_any H5.out (by omega) hl8 HN.out (by show g < w4.heap.size; omega)).mono ?_
        rintro e w6 ⟨s, rfl, h6, k6⟩
        go_simp
        have z6 := k6.1
        have T6 := Lib.hid (T5.out.keepBut k6 hgl hne)
        have Z6 := Lib.hid (keep_blk k6 Z5.out (by omega))
        have K6 := Lib.hid (K5.out.trans k6 (.inl rfl))
        have H6 := Lib.hid h6
        clear h6 k6
        refine hK.out _ _ (T6.out.cells) (fun hHeld => ?_)
        clear hK K
        try simp only [Act.put, List.setIfInBounds_toArray, List.set_cons_zero, List.set_cons_succ]
        refine one_ (i := 5) (N := some 31) #[true, true, true, true, true, true, false, false, false, false, false] rfl rfl (by kernel_rfl) (by simp) (fun K hK => ?_)
        go_simp
        refine (flight_any H6.out (by omega) s).mono ?_
        rintro e w7 ⟨f, A3, c3, p7, hp7, hp7', hf1, hf3, hfs, rfl, hf, h7, k7⟩
        go_simp
        have z7 := k7.1
        have T7 := Lib.hid (T6.out.keepBut k7 hgl hne)
        have Z7 := Lib.hid (keep_blk k7 Z6.out (by omega))
        have K7 := Lib.hid (K6.out.trans k7 (.inl rfl))
        have H7 := Lib.hid h7
        have HF := Lib.hid hf
        clear h7 k7 hf
        refine hK.out _ _ (T7.out.cells) (fun hHeld => ?_)
        clear hK K
        try simp only [Act.put, List.setIfInBounds_toArray, List.set_cons_zero, List.set_cons_succ]
        refine one_ (i := 6) (N := some 32) #[true, true, true, true, true, true, true, false, false, false, false] rfl rfl (by kernel_rfl) (by simp) (fun K hK => ?_)
        go_simp
        refine (spec_flowAdd_any _ _ _ _ _ _ b f A3 c3 _ T7.out.book.form_D.1 T7.out.book.form_D.2.1 T7.out.book.form_D.2.2 (Kd.R_reads' HF.out).2.2 (Kd.R_reads' HF.out).2.1).mono ?_
        rintro e w8 ⟨u0, u1, u2, rfl, ho, hb8⟩
        go_simp
        have z8 : w7.heap.size ≤ w8.heap.size := hb8.size
        obtain ⟨AX, cX, CX, dX, DX, eX, rfl, rfl, rfl, _, _, _⟩ := ho.form
        have T8 := Lib.hid (T7.out.below hb8)
        have Z8 := Lib.hid (blk_below Z7.out hb8)
        have K8 := Lib.hid (K7.out.trans (KeepBut.of_below hb8 g none) (.inl rfl))
        have H8 := Lib.hid (H7.out.below hb8)
        have O8 := Lib.hid (ho.lower (base' := w.heap.size) (by omega))
        clear ho hb8
        have fr0 := blk_frozen T8.out.box 0
        have fr1 := blk_frozen T8.out.box 1
        have fr2 := blk_frozen T8.out.box 2
        obtain ⟨ta, tb, tc⟩ := T8.out.cells
        refine hK.out _ _ (T8.out.cells) (fun hHeld => ?_)
        clear hK K
        try simp only [Act.put, List.setIfInBounds_toArray, List.set_cons_zero, List.set_cons_succ]
        refine pure_ (i := 7) (N := some 25) (v := ?_) (a' := ?_) #[true, true, true, true, true, true, true, true, false, false, false] rfl rfl (by kernel_rfl) (fun _ _ _ h => h) (Or.inl ⟨by rfl, ?_⟩) ?_ ?_
        rotate_left
        · intro w'
          go_simp
          try with_reducible rfl
        rotate_left
        · (try simp only [Act.put, List.setIfInBounds_toArray, List.set_cons_zero, List.set_cons_succ])
          rfl
        refine pure_ (i := 8) (N := some 33) (v := ?_) (a' := ?_) #[true, true, true, true, true, true, true, true, true, false, false] rfl rfl (by kernel_rfl) (fun _ _ _ h => h) (Or.inl ⟨by rfl, ?_⟩) ?_ ?_
        rotate_left
        · intro w'
          go_simp
          try with_reducible rfl
        rotate_left
        · (try simp only [Act.put, List.setIfInBounds_toArray, List.set_cons_zero, List.set_cons_succ])
          rfl
        refine pure_ (i := 9) (N := some 34) (v := ?_) (a' := ?_) #[true, true, true, true, true, true, true, true, true, true, false] rfl rfl (by kernel_rfl) (fun _ _ _ h => h) (Or.inl ⟨by rfl, ?_⟩) ?_ ?_
        rotate_left
        · intro w'
          go_simp
          try with_reducible rfl
        rotate_left
        · (try simp only [Act.put, List.setIfInBounds_toArray, List.set_cons_zero, List.set_cons_succ])
          rfl
        refine last_ (i := 10) (N := none) #[true, true, true, true, true, true, true, true, true, true, true] rfl rfl (by kernel_rfl) (by simp) (fun K hK => ?_)
        go_simp
        refine hK.out _ _ ?_
        clear hK K
        try simp only [Act.put, List.setIfInBounds_toArray, List.set_cons_zero, List.set_cons_succ]
        refine done_ (by kernel_rfl) ?_
        go_wp2
        go_roundw
        case rel => exact ⟨m, _, _, _, (addR b f).1, p7, by go_num, by omega, by omega, (by rw [(addR_ok HOK.out _).2]; exact hb3), (addR_ok HOK.out _).1, (light_add HLI.out ⟨hf1, hf3, hfs⟩), T8.out.put O8.out, H8.out.put (by omega) (by omega) _ _ _, keep_put K8.out (by omega) _ _ _, blk_put3 Z8.out (by omega) _ _ _⟩
        case measure => simp [intOf]
    · have e0 : decide ((0 : Int) < (n : Int)) = false := decide_eq_false (by omega)
      obtain ⟨ta, tb, tc⟩ := T3.out.cells
      have fr0 := blk_frozen Z3.out 0
      have fr1 := blk_frozen Z3.out 1
      have fr2 := blk_frozen Z3.out 2
      have s0 := blk_set Z3.out 0 (.slice AB b.f0.length cB)
      have s1 := blk_set s0 1 (.slice CB b.f1.length dB)
      have s2 := Lib.hid (blk_set s1 2 (.slice DB b.f2.length eB))
      clear s0 s1
      have cr0 := (blk_cell Z3.out 0).trans rfl
      have cr1 := (blk_cell Z3.out 1).trans rfl
      have cr2 := (blk_cell Z3.out 2).trans rfl
      go_wp2
      refine bodyPost_ret (results_cell_row rfl _ _ w.heap.size 27 #[.slice AB b.f0.length cB, .slice CB b.f1.length dB, .slice DB b.f2.length eB] (0, 0) _ rfl s2.out Tryz.underlying27 rfl (by kernel_rfl)) rfl ?_
      have O := T3.out.book
      exact ⟨_, _, _, b, q, hq0, by omega, HOK.out, hb3, HLI.out, rfl, ((O.cell Z3.out 0 _).cell (blk_set Z3.out 0 _) 1 _).cell (blk_set (blk_set Z3.out 0 _) 1 _) 2 _, H3.out.put (by omega) (by omega) _ _ _, keep_put K3.out (Nat.le_refl _) _ _ _⟩
end Go.Proofs.YthcpbojmalgdbaaGreat.Q
end
section
namespace Go.Proofs.YthcpbojmalgdbaaGreat.Q
open Go.RowKit Go.Proofs.YthcpbojmalgdbaaGreatW.PrintWords Go.Proofs.YthcpbojmalgdbaaGreatW.PrintLast Go.Proofs.YthcpbojmalgdbaaGreatW.PrintMore Go.Proofs.YthcpbojmalgdbaaGreat.Core
set_option linter.unusedVariables false
set_option linter.unusedSimpArgs false
set_option maxRecDepth 100000 in
set_option maxHeartbeats 8000000 in
theorem l6Spoil_any {w0 w : World} {g : Nat} {bs : List Int} {p : Int} (h : Rdr w0 w g bs p) (hp : p ≤ 600000) (A0 : Option Addr) (c0 : Nat) (A1 : Option Addr) (c1 : Nat) (A2 : Option Addr) (c2 : Nat) (b : Book) (hr0 : Kd.C k42 w A0 b.f0.length b.f0) (hr1 : Kd.C k47 w A1 b.f1.length b.f1) (hr2 : Kd.C (Kd.int .i64) w A2 b.f2.length b.f2)
    (hok : okB b = true) (hb3 : b.f0.length ≤ 3) (hli : lightL b.f1) :
    Calls Tryz.prog 38 #[.pointer (some ⟨g, 0, none⟩), .agg #[.slice A0 b.f0.length c0, .slice A1 b.f1.length c1, .slice A2 b.f2.length c2]] w fun e w' => ∃ (u0 u1 u2 : Value) (c : Book) (p' : Int), p ≤ p' ∧ p' ≤ p + 30 ∧ c.f2.length ≤ 100 ∧ c.f1.length ≤ 100 ∧
      e = .returned (.agg #[u0, u1, u2]) ∧ RdB w' w.heap.size u0 u1 u2 c ∧ Rdr w0 w' g bs p' ∧ KeepBut w w' g none := by
  have hgl := h.lt
  have h0w := h.hb.size
  have hl1 := okB_len hok
  have hl8 := (flightsB_parts (slotsB_parts (fitsB_parts hok).2.1).1).1
  have HLI := Lib.hid hli
  have HL1 := Lib.hid hl1
  have W0 : Below w.heap.size w ((w.alloc (.cells #[.slice A0 b.f0.length c0, .slice A1 b.f1.length c1, .slice A2 b.f2.length c2] 27)).alloc (.cells #[.slice none 0 0, .slice none 0 0, .slice none 0 0] 27)) := below_alloc (below_alloc (Below.refl _ _) _) _
  have H0 := Lib.hid ((h.alloc (.cells #[.slice A0 b.f0.length c0, .slice A1 b.f1.length c1, .slice A2 b.f2.length c2] 27)).alloc (.cells #[.slice none 0 0, .slice none 0 0, .slice none 0 0] 27))
  have K0 := Lib.hid (KeepBut.of_below W0 g none)
  have P0 := Lib.hid (blk_alloc (blk_new w (.cells #[.slice A0 b.f0.length c0, .slice A1 b.f1.length c1, .slice A2 b.f2.length c2] 27)) (.cells #[.slice none 0 0, .slice none 0 0, .slice none 0 0] 27))
  have Z0 : Hid (((w.alloc (.cells #[.slice A0 b.f0.length c0, .slice A1 b.f1.length c1, .slice A2 b.f2.length c2] 27)).alloc (.cells #[.slice none 0 0, .slice none 0 0, .slice none 0 0] 27)).heap[w.heap.size + 1]? = some (.cells #[.slice none 0 0, .slice none 0 0, .slice none 0 0] 27 (0, 0))) := by
    have t := blk_new (w.alloc (.cells #[.slice A0 b.f0.length c0, .slice A1 b.f1.length c1, .slice A2 b.f2.length c2] 27)) (.cells #[.slice none 0 0, .slice none 0 0, .slice none 0 0] 27)
    rw [World.size_alloc] at t
    exact t
  have QC := Lib.hid (spec_copy_any A0 c0 A1 c1 A2 c2 b _ (Kd.C_below hr0 W0) (Kd.C_below hr1 W0) (Kd.C_below hr2 W0) (by omega) (by omega) (by omega) (fun f hf => by have := hli f hf; omega))
  clear h hr0 hr1 hr2 W0 hl1 hli
  have xa := (blk_cell P0.out 0).trans rfl
  have xb := (blk_cell P0.out 1).trans rfl
  have xc := (blk_cell P0.out 2).trans rfl
  go_enter Tryz.func38, Tryz.ntmps38
  go_wp2_with (fail)
  refine QC.out.mono ?_
  rintro e w2 ⟨u0, u1, u2, rfl, ho, hb⟩
  have z2 : w.heap.size + 2 ≤ w2.heap.size := by have := hb.size; simpa using this
  obtain ⟨AX, cX, CX, dX, DX, eX, rfl, rfl, rfl, _, _, _⟩ := ho.form
  have hor := Lib.hid (ho.rd.lower (base' := w.heap.size) (by simp; omega))
  have H2 := Lib.hid ((H0.out.below hb).alloc (.cells #[.slice AX b.f0.length cX, .slice CX b.f1.length dX, .slice DX b.f2.length eX] 27))
  have K2 := Lib.hid (keep_al (K0.out.trans (KeepBut.of_below hb g none) (.inl rfl)) (.cells #[.slice AX b.f0.length cX, .slice CX b.f1.length dX, .slice DX b.f2.length eX] 27))
  have Z2 := Lib.hid (blk_alloc (blk_below Z0.out hb) (.cells #[.slice AX b.f0.length cX, .slice CX b.f1.length dX, .slice DX b.f2.length eX] 27))
  have T2 : Hid (BoxR (w2.alloc (.cells #[.slice AX b.f0.length cX, .slice CX b.f1.length dX, .slice DX b.f2.length eX] 27)) w.heap.size w2.heap.size (.slice AX b.f0.length cX) (.slice CX b.f1.length dX) (.slice DX b.f2.length eX) b) := BoxR.made hor.out
  have hs2 : (w2.alloc (.cells #[.slice AX b.f0.length cX, .slice CX b.f1.length dX, .slice DX b.f2.length eX] 27)).heap.size = w2.heap.size + 1 := by simp
  have hne : w2.heap.size ≠ g := by omega
  have hnz : w.heap.size + 1 ≠ g := by omega
  have hzB : w.heap.size + 1 ≠ w2.heap.size := by omega
  have hL2 : Hid (w.heap.size ≤ (w2.alloc (.cells #[.slice AX b.f0.length cX, .slice CX b.f1.length dX, .slice DX b.f2.length eX] 27)).heap.size) := by show _ ≤ _; omega
  clear ho hb QC P0 Z0 H0 K0 xa xb xc hs2
  obtain ⟨ta, tb, tc⟩ := T2.out.cells
  by_cases hv : b.f1.length = 0
  · have ev0 : (((b.f1.length : Nat) : Int) == 0) = true := by rw [hv]; rfl
    clear hv
    go_wp2_with (fail)
    refine (spoilCaps_any H2.out (by omega) _ _ b.f0 T2.out.book.form_D.1 (Kd.R_reads' T2.out.book.caps).2.1 hb3).mono ?_
    rintro e w7 ⟨v7, l7, p7, hp7, hp7', hl7, rfl, hR, h7, k7⟩
    have z7 := k7.1
    obtain ⟨AV, cV, rfl⟩ := Kd.R_slice hR
    have HR7 := Lib.hid (Kd.R_lower (base' := w.heap.size) (Kd.R_mono hR (fun _ _ => trivial)) hL2.out)
    have T7 := Lib.hid (T2.out.keepBut k7 hgl hne)
    have Z7 := Lib.hid (keep_blk k7 Z2.out hnz)
    have K7 := Lib.hid (K2.out.trans k7 (.inl rfl))
    have H7 := Lib.hid h7
    have T8 := Lib.hid (T7.out.setCaps HR7.out)
    have Z8 : Hid ((w7.setCell ⟨w2.heap.size, 0, none⟩ (.slice AV l7.length cV)).heap[w.heap.size + 1]? = some (.cells #[.slice none 0 0, .slice none 0 0, .slice none 0 0] 27 (0, 0))) := (Below.heap_setCell _ ⟨w2.heap.size, 0, none⟩ _ (w.heap.size + 1) hzB).trans Z7.out
    have K8 := Lib.hid (keep_set K7.out (q := ⟨w2.heap.size, 0, none⟩) (show w.heap.size ≤ w2.heap.size by omega) (.slice AV l7.length cV))
    have H8 := Lib.hid (H7.out.far (q := ⟨w2.heap.size, 0, none⟩) hne.symm (show w0.heap.size ≤ w2.heap.size by omega) (.slice AV l7.length cV))
    clear ta tb tc hR h7 k7
    obtain ⟨sa, sb, sc⟩ := T7.out.cells
    have gr := blk_frozen T7.out.box 0
    obtain ⟨ta, tb, tc⟩ := T8.out.cells
    have cr0 := (blk_cell Z8.out 0).trans rfl
    have fr0 := blk_frozen Z8.out 0
    have cr1 := (blk_cell Z8.out 1).trans rfl
    have fr1 := blk_frozen Z8.out 1
    have cr2 := (blk_cell Z8.out 2).trans rfl
    have fr2 := blk_frozen Z8.out 2
    have s2 := Lib.hid (blk_set (blk_set (blk_set Z8.out 0 ((.slice AV l7.length cV))) 1 ((.slice CX b.f1.length dX))) 2 ((.slice DX b.f2.length eX)))
    go_wp2
    refine bodyPost_ret (results_cell_row rfl _ _ (w.heap.size + 1) 27 #[(.slice AV l7.length cV), (.slice CX b.f1.length dX), (.slice DX b.f2.length eX)] (0, 0) _ rfl s2.out Tryz.underlying27 rfl (by kernel_rfl)) rfl ?_
    exact ⟨_, _, _, ⟨l7, b.f1, b.f2⟩, p7, by omega, by omega, (by show b.f2.length ≤ 100; have := HL1.out; omega), (by first | (show b.f1.length ≤ 100; omega) | (show (b.f1.set k _).length ≤ 100; rw [List.length_set]; omega)), rfl, T8.out.book.cell3 Z8.out _ _ _, H8.out.put (by omega) (by omega) _ _ _, keep_put K8.out (by omega) _ _ _⟩
  have ev0 : (((b.f1.length : Nat) : Int) == 0) = false := by rw [beq_eq_false_iff_ne]; omega
  have hpos : 0 < b.f1.length := by omega
  obtain ⟨gL, cL, hform, hg0, _, csL, hcsL⟩ := Kd.R_form hor.out.flights hpos
  have hg1 : gL < w2.heap.size := blk_lt hcsL
  injection hform with ea en ec
  subst ea ec
  clear en hcsL
  obtain ⟨gS, cS, hform, hs0, _, csS, hcsS⟩ := Kd.R_form hor.out.slots (by have := HL1.out; omega)
  have hs1 : gS < w2.heap.size := blk_lt hcsS
  injection hform with ea en ec
  subst ea ec
  clear en hcsS hv
  go_wp2_with (fail)
  refine (pick_any H2.out 4 (by omega) (by omega) (by omega)).mono ?_
  rintro e w3 ⟨r, a3, b3, rfl, h3, k3⟩
  have T3 := Lib.hid (T2.out.keepBut k3 hgl hne)
  have Z3 := Lib.hid (keep_blk k3 Z2.out hnz)
  have K3 := Lib.hid (K2.out.trans k3 (.inl rfl))
  have H3 := Lib.hid h3
  have hL3 : Hid (w.heap.size ≤ w3.heap.size) := K3.out.1
  clear h3 k3 T2 Z2 K2 H2 ta tb tc
  obtain ⟨ta, tb, tc⟩ := T3.out.cells
  by_cases hr : r = 0
  · subst hr
    go_wp2_with (fail)
    refine (spoilCaps_any H3.out (by omega) _ _ b.f0 T3.out.book.form_D.1 (Kd.R_reads' T3.out.book.caps).2.1 hb3).mono ?_
    rintro e w7 ⟨v7, l7, p7, hp7, hp7', hl7, rfl, hR, h7, k7⟩
    have z7 := k7.1
    obtain ⟨AV, cV, rfl⟩ := Kd.R_slice hR
    have HR7 := Lib.hid (Kd.R_lower (base' := w.heap.size) (Kd.R_mono hR (fun _ _ => trivial)) hL3.out)
    have T7 := Lib.hid (T3.out.keepBut k7 hgl hne)
    have Z7 := Lib.hid (keep_blk k7 Z3.out hnz)
    have K7 := Lib.hid (K3.out.trans k7 (.inl rfl))
    have H7 := Lib.hid h7
    have T8 := Lib.hid (T7.out.setCaps HR7.out)
    have Z8 : Hid ((w7.setCell ⟨w2.heap.size, 0, none⟩ (.slice AV l7.length cV)).heap[w.heap.size + 1]? = some (.cells #[.slice none 0 0, .slice none 0 0, .slice none 0 0] 27 (0, 0))) := (Below.heap_setCell _ ⟨w2.heap.size, 0, none⟩ _ (w.heap.size + 1) hzB).trans Z7.out
    have K8 := Lib.hid (keep_set K7.out (q := ⟨w2.heap.size, 0, none⟩) (show w.heap.size ≤ w2.heap.size by omega) (.slice AV l7.length cV))
    have H8 := Lib.hid (H7.out.far (q := ⟨w2.heap.size, 0, none⟩) hne.symm (show w0.heap.size ≤ w2.heap.size by omega) (.slice AV l7.length cV))
    clear ta tb tc hR h7 k7
    obtain ⟨sa, sb, sc⟩ := T7.out.cells
    have gr := blk_frozen T7.out.box 0
    obtain ⟨ta, tb, tc⟩ := T8.out.cells
    have cr0 := (blk_cell Z8.out 0).trans rfl
    have fr0 := blk_frozen Z8.out 0
    have cr1 := (blk_cell Z8.out 1).trans rfl
    have fr1 := blk_frozen Z8.out 1
    have cr2 := (blk_cell Z8.out 2).trans rfl
    have fr2 := blk_frozen Z8.out 2
    have s2 := Lib.hid (blk_set (blk_set (blk_set Z8.out 0 ((.slice AV l7.length cV))) 1 ((.slice (some ⟨gL, 0, none⟩) b.f1.length dX))) 2 ((.slice (some ⟨gS, 0, none⟩) b.f2.length eX)))
    go_wp2
    refine bodyPost_ret (results_cell_row rfl _ _ (w.heap.size + 1) 27 #[(.slice AV l7.length cV), (.slice (some ⟨gL, 0, none⟩) b.f1.length dX), (.slice (some ⟨gS, 0, none⟩) b.f2.length eX)] (0, 0) _ rfl s2.out Tryz.underlying27 rfl (by kernel_rfl)) rfl ?_
    exact ⟨_, _, _, ⟨l7, b.f1, b.f2⟩, p7, by omega, by omega, (by show b.f2.length ≤ 100; have := HL1.out; omega), (by first | (show b.f1.length ≤ 100; omega) | (show (b.f1.set k _).length ≤ 100; rw [List.length_set]; omega)), rfl, T8.out.book.cell3 Z8.out _ _ _, H8.out.put (by omega) (by omega) _ _ _, keep_put K8.out (by omega) _ _ _⟩
  have er : (r == 0) = false := by simp [hr]
  go_wp2_with (fail)
  refine (pick_any H3.out b.f1.length (by omega) (by omega) (by omega)).mono ?_
  rintro e w4 ⟨k, a4, b4, rfl, h4, k4⟩
  obtain ⟨k, rfl⟩ := Int.eq_ofNat_of_zero_le a4
  have hkl : k < b.f1.length := by omega
  have hks : k < b.f2.length := by rw [HL1.out]; exact hkl
  have j1 : (k : Int) < b.f1.length := by omega
  have j2 : (k : Int) < b.f2.length := by omega
  have T4 := Lib.hid (T3.out.keepBut k4 hgl hne)
  have Z4 := Lib.hid (keep_blk k4 Z3.out hnz)
  have K4 := Lib.hid (K3.out.trans k4 (.inl rfl))
  have H4 := Lib.hid h4
  clear h4 k4 T3 Z3 K3 H3 ta tb tc
  obtain ⟨ta, tb, tc⟩ := T4.out.cells
  go_wp2_with (fail)
  refine (pick_any H4.out 3 (by omega) (by omega) (by omega)).mono ?_
  rintro e w5 ⟨s, a5, b5, rfl, h5, k5⟩
  have T5 := Lib.hid (T4.out.keepBut k5 hgl hne)
  have Z5 := Lib.hid (keep_blk k5 Z4.out hnz)
  have K5 := Lib.hid (K4.out.trans k5 (.inl rfl))
  have H5 := Lib.hid h5
  have hL5 : Hid (w.heap.size ≤ w5.heap.size) := K5.out.1
  have hB5 := blk_lt T5.out.box
  clear h5 k5 T4 Z4 K4 H4 ta tb tc
  have hgLg : gL ≠ g := by omega
  have hgSg : gS ≠ g := by omega
  have hBL : w2.heap.size ≠ gL := by omega
  have hBS : w2.heap.size ≠ gS := by omega
  have hzL : Hid (w.heap.size ≤ gL) := hg0
  have hZL : w.heap.size + 1 ≠ gL := fun e => by have t := Z5.out; rw [e] at t; obtain ⟨q_, t'⟩ := Kd.R_typed T5.out.book.flights gL rfl; rw [t] at t'; injection t' with t'; injection t' with _ t''; exact absurd t'' (by decide)
  have hZS : w.heap.size + 1 ≠ gS := fun e => by have t := Z5.out; rw [e] at t; obtain ⟨q_, t'⟩ := Kd.R_typed T5.out.book.slots gS rfl; rw [t] at t'; injection t' with t'; injection t' with _ t''; exact absurd t'' (by decide)
  have cs5 := T5.out.cells
  by_cases hs : s = 0
  · subst hs
    obtain ⟨f, A3, c3, hf, p0, p1, p2, p3, hl3, hC3, _⟩ := flightOwn T5.out.book.flights k hkl
    have hfl := HLI.out f (List.mem_of_getElem? hf)
    have HC3 := Lib.hid hC3
    clear hf hC3
    have hS := And.intro cs5.2.1 (And.intro p0 (And.intro p1 (And.intro p2 p3)))
    clear p0 p1 p2 p3
    go_wp2
    refine start_ (n := 12) (S := fun w' => w'.cell? ⟨w2.heap.size, 1, none⟩ = some (.slice (some ⟨gL, 0, none⟩) b.f1.length dX) ∧ w'.cell? ⟨gL, k * 4, none⟩ = some (.string f.f0) ∧ w'.cell? ⟨gL, k * 4 + 1, none⟩ = some (.int .i64 f.f1) ∧ w'.cell? ⟨gL, k * 4 + 2, none⟩ = some (.int .i64 f.f2) ∧ w'.cell? ⟨gL, k * 4 + 3, none⟩ = some (.slice A3 f.f3.length c3)) (ds := [11]) #[false, false, false, false, false, false, false, false, false, false, false, false] (by kernel_rfl) rfl rfl (hS) (fun hHeld => ?_)
    refine pure_ (i := 0) (N := some 38) (v := ?_) (a' := ?_) #[true, false, false, false, false, false, false, false, false, false, false, false] rfl rfl (by kernel_rfl) (fun _ _ _ h => h) (Or.inl ⟨by rfl, ?_⟩) ?_ ?_
    rotate_left
    · intro w'
      go_simp
      try with_reducible rfl
    rotate_left
    · (try simp only [Act.put, List.setIfInBounds_toArray, List.set_cons_zero, List.set_cons_succ])
      rfl
    refine take_ (i := 1) (N := some 39) (v := ?_) (a' := ?_) #[true, true, false, false, false, false, false, false, false, false, false, false] rfl rfl (by kernel_rfl) (fun _ _ _ h => h) (Or.inl ⟨by rfl, ?_⟩) hHeld ?_ ?_
    rotate_left
    · rintro w' ⟨s0, s1, s2, s3, s4⟩
      go_simp
      try with_reducible rfl
    rotate_left
    · (try simp only [Act.put, List.setIfInBounds_toArray, List.set_cons_zero, List.set_cons_succ])
      rfl
    refine pure_ (i := 2) (N := some 40) (v := ?_) (a' := ?_) #[true, true, true, false, false, false, false, false, false, false, false, false] rfl rfl (by kernel_rfl) (fun _ _ _ h => h) (Or.inl ⟨by rfl, ?_⟩) ?_ ?_
    rotate_left
    · intro w'
      go_simp
      try with_reducible rfl
    rotate_left
    · (try simp only [Act.put, List.setIfInBounds_toArray, List.set_cons_zero, List.set_cons_succ])
      rfl
    refine pure_ (i := 3) (N := some 41) (v := ?_) (a' := ?_) #[true, true, true, true, false, false, false, false, false, false, false, false] rfl rfl (by kernel_rfl) (fun _ _ _ h => h) (Or.inl ⟨by rfl, ?_⟩) ?_ ?_
    rotate_left
    · intro w'
      go_simp
      try with_reducible rfl
    rotate_left
    · (try simp only [Act.put, List.setIfInBounds_toArray, List.set_cons_zero, List.set_cons_succ])
      rfl
    refine pure_ (i := 4) (N := some 42) (v := ?_) (a' := ?_) #[true, true, true, true, true, false, false, false, false, false, false, false] rfl rfl (by kernel_rfl) (fun _ _ _ h => h) (Or.inl ⟨by rfl, ?_⟩) ?_ ?_
    rotate_left
    · intro w'
      go_simp
      try with_reducible rfl
    rotate_left
    · (try simp only [Act.put, List.setIfInBounds_toArray, List.set_cons_zero, List.set_cons_succ])
      rfl
    refine take_ (i := 5) (N := some 43) (v := ?_) (a' := ?_) #[true, true, true, true, true, true, false, false, false, false, false, false] rfl rfl (by kernel_rfl) (fun _ _ _ h => h) (Or.inl ⟨by rfl, ?_⟩) hHeld ?_ ?_
    rotate_left
    · rintro w' ⟨s0, s1, s2, s3, s4⟩
      go_simp
      try with_reducible rfl
    rotate_left
    · (try simp only [Act.put, List.setIfInBounds_toArray, List.set_cons_zero, List.set_cons_succ])
      rfl
    refine pure_ (i := 6) (N := some 44) (v := ?_) (a' := ?_) #[true, true, true, true, true, true, true, false, false, false, false, false] rfl rfl (by kernel_rfl) (fun _ _ _ h => h) (Or.inl ⟨by rfl, ?_⟩) ?_ ?_
    rotate_left
    · intro w'
      go_simp
      try with_reducible rfl
    rotate_left
    · (try simp only [Act.put, List.setIfInBounds_toArray, List.set_cons_zero, List.set_cons_succ])
      rfl
    refine pure_ (i := 7) (N := some 45) (v := ?_) (a' := ?_) #[true, true, true, true, true, true, true, true, false, false, false, false] rfl rfl (by kernel_rfl) (fun _ _ _ h => h) (Or.inl ⟨by rfl, ?_⟩) ?_ ?_
    rotate_left
    · intro w'
      go_simp
      try with_reducible rfl
    rotate_left
    · (try simp only [Act.put, List.setIfInBounds_toArray, List.set_cons_zero, List.set_cons_succ])
      rfl
    refine take_ (i := 8) (N := some 46) (v := ?_) (a' := ?_) #[true, true, true, true, true, true, true, true, true, false, false, false] rfl rfl (by kernel_rfl) (fun _ _ _ h => h) (Or.inl ⟨by rfl, ?_⟩) hHeld ?_ ?_
    rotate_left
    · rintro w' ⟨s0, s1, s2, s3, s4⟩
      go_simp
      try with_reducible rfl
    rotate_left
    · (try simp only [Act.put, List.setIfInBounds_toArray, List.set_cons_zero, List.set_cons_succ])
      rfl
    refine one_ (i := 9) (N := some 47) #[true, true, true, true, true, true, true, true, true, true, false, false] rfl rfl (by kernel_rfl) (by simp) (fun K hK => ?_)
    go_simp
    refine (spoil_any (H5.out.drewN 1) (by omega) f A3 c3 (Kd.C_below HC3.out (pw_below_drewN (Below.refl _ _) 1)) hl3 hfl.1 hfl.2.1 hfl.2.2).mono ?_
    rintro e w6 ⟨f', A6, c6, p6, hp6, hp6', hf6, hs6, rfl, hR6, h6, k6⟩
    go_simp
    have k6 : KeepBut w5 w6 g none := k6
    have z6 := k6.1
    have T6 := Lib.hid (T5.out.keepBut k6 hgl hne)
    have Z6 := Lib.hid (keep_blk k6 Z5.out hnz)
    have K6 := Lib.hid (K5.out.trans k6 (.inl rfl))
    have H6 := Lib.hid h6
    have q0 := pw_keep_cell k6 hgLg hS.2.1
    have q1 := pw_keep_cell k6 hgLg hS.2.2.1
    have q2 := pw_keep_cell k6 hgLg hS.2.2.2.1
    have q3 := pw_keep_cell k6 hgLg hS.2.2.2.2
    obtain ⟨_, _, _, _, _, _, _, _, _, _, hfr⟩ := flightOwn T6.out.book.flights k hkl
    have y0 : w6.frozen? ⟨gL, k * 4, none⟩ = false := hfr 0
    have y1 : w6.frozen? ⟨gL, k * 4 + 1, none⟩ = false := hfr 1
    have y2 : w6.frozen? ⟨gL, k * 4 + 2, none⟩ = false := hfr 2
    have y3 : w6.frozen? ⟨gL, k * 4 + 3, none⟩ = false := hfr 3
    clear hfr
    have hR6' : Kd.R k58 58 w6 w5.heap.size (fun _ => True) (.slice A6 f'.f3.length c6) f'.f3 := Kd.R_mono hR6 (fun _ _ => trivial)
    have F6 := Lib.hid (T6.out.book.flight hkl hL5.out (show gL < w5.heap.size by omega) hR6')
    clear hR6 hR6' h6 k6
    refine hK.out _ _ (⟨T6.out.cells.2.1, q0, q1, q2, q3⟩) (fun hHeld => ?_)
    clear hK K
    try simp only [Act.put, List.setIfInBounds_toArray, List.set_cons_zero, List.set_cons_succ]
    refine pure_ (i := 10) (N := some 48) (v := ?_) (a' := ?_) #[true, true, true, true, true, true, true, true, true, true, true, false] rfl rfl (by kernel_rfl) (fun _ _ _ h => h) (Or.inl ⟨by rfl, ?_⟩) ?_ ?_
    rotate_left
    · intro w'
      go_simp
      try with_reducible rfl
    rotate_left
    · (try simp only [Act.put, List.setIfInBounds_toArray, List.set_cons_zero, List.set_cons_succ])
      rfl
    refine last_ (i := 11) (N := none) #[true, true, true, true, true, true, true, true, true, true, true, true] rfl rfl (by kernel_rfl) (by simp) (fun K hK => ?_)
    go_simp
    refine hK.out _ _ ?_
    clear hK K
    try simp only [Act.put, List.setIfInBounds_toArray, List.set_cons_zero, List.set_cons_succ]
    refine done_ (by kernel_rfl) ?_
    clear q0 q1 q2 q3 y0 y1 y2 y3
    have T8 : Hid (BoxR ((((w6.setCell ⟨gL, k * 4, none⟩ (.string f'.f0)).setCell ⟨gL, k * 4 + 1, none⟩ (.int .i64 f'.f1)).setCell ⟨gL, k * 4 + 2, none⟩ (.int .i64 f'.f2)).setCell ⟨gL, k * 4 + 3, none⟩ (.slice A6 f'.f3.length c6)) w.heap.size w2.heap.size (.slice AX b.f0.length cX) (.slice (some ⟨gL, 0, none⟩) b.f1.length dX) (.slice (some ⟨gS, 0, none⟩) b.f2.length eX) ⟨b.f0, b.f1.set k f', b.f2⟩) := ⟨(Below.heap_setCell _ ⟨gL, k * 4 + 3, none⟩ _ _ hBL).trans ((Below.heap_setCell _ ⟨gL, k * 4 + 2, none⟩ _ _ hBL).trans ((Below.heap_setCell _ ⟨gL, k * 4 + 1, none⟩ _ _ hBL).trans ((Below.heap_setCell _ ⟨gL, k * 4, none⟩ _ _ hBL).trans T6.out.box))), F6.out⟩
    have Z8 : Hid (((((w6.setCell ⟨gL, k * 4, none⟩ (.string f'.f0)).setCell ⟨gL, k * 4 + 1, none⟩ (.int .i64 f'.f1)).setCell ⟨gL, k * 4 + 2, none⟩ (.int .i64 f'.f2)).setCell ⟨gL, k * 4 + 3, none⟩ (.slice A6 f'.f3.length c6)).heap[w.heap.size + 1]? = some (.cells #[.slice none 0 0, .slice none 0 0, .slice none 0 0] 27 (0, 0))) := (Below.heap_setCell _ ⟨gL, k * 4 + 3, none⟩ _ _ hZL).trans ((Below.heap_setCell _ ⟨gL, k * 4 + 2, none⟩ _ _ hZL).trans ((Below.heap_setCell _ ⟨gL, k * 4 + 1, none⟩ _ _ hZL).trans ((Below.heap_setCell _ ⟨gL, k * 4, none⟩ _ _ hZL).trans Z6.out)))
    have K8 := Lib.hid (keep_set (keep_set (keep_set (keep_set K6.out (q := ⟨gL, k * 4, none⟩) hzL.out (.string f'.f0)) (q := ⟨gL, k * 4 + 1, none⟩) hzL.out (.int .i64 f'.f1)) (q := ⟨gL, k * 4 + 2, none⟩) hzL.out (.int .i64 f'.f2)) (q := ⟨gL, k * 4 + 3, none⟩) hzL.out (.slice A6 f'.f3.length c6))
    have H8 := Lib.hid ((((H6.out.far (q := ⟨gL, k * 4, none⟩) hgLg.symm (show w0.heap.size ≤ gL by have := hzL.out; omega) (.string f'.f0)).far (q := ⟨gL, k * 4 + 1, none⟩) hgLg.symm (show w0.heap.size ≤ gL by have := hzL.out; omega) (.int .i64 f'.f1)).far (q := ⟨gL, k * 4 + 2, none⟩) hgLg.symm (show w0.heap.size ≤ gL by have := hzL.out; omega) (.int .i64 f'.f2)).far (q := ⟨gL, k * 4 + 3, none⟩) hgLg.symm (show w0.heap.size ≤ gL by have := hzL.out; omega) (.slice A6 f'.f3.length c6))
    obtain ⟨ta, tb, tc⟩ := T8.out.cells
    have cr0 := (blk_cell Z8.out 0).trans rfl
    have fr0 := blk_frozen Z8.out 0
    have cr1 := (blk_cell Z8.out 1).trans rfl
    have fr1 := blk_frozen Z8.out 1
    have cr2 := (blk_cell Z8.out 2).trans rfl
    have fr2 := blk_frozen Z8.out 2
    have s2 := Lib.hid (blk_set (blk_set (blk_set Z8.out 0 ((.slice AX b.f0.length cX))) 1 ((.slice (some ⟨gL, 0, none⟩) b.f1.length dX))) 2 ((.slice (some ⟨gS, 0, none⟩) b.f2.length eX)))
    go_wp2
    refine bodyPost_ret (results_cell_row rfl _ _ (w.heap.size + 1) 27 #[(.slice AX b.f0.length cX), (.slice (some ⟨gL, 0, none⟩) b.f1.length dX), (.slice (some ⟨gS, 0, none⟩) b.f2.length eX)] (0, 0) _ rfl s2.out Tryz.underlying27 rfl (by kernel_rfl)) rfl ?_
    exact ⟨_, _, _, ⟨b.f0, b.f1.set k f', b.f2⟩, p6, by omega, by omega, (by show b.f2.length ≤ 100; have := HL1.out; omega), (by first | (show b.f1.length ≤ 100; omega) | (show (b.f1.set k _).length ≤ 100; rw [List.length_set]; omega)), rfl, T8.out.book.cell3 Z8.out _ _ _, H8.out.put (by omega) (by omega) _ _ _, keep_put K8.out (by omega) _ _ _⟩
  have es0 : (s == 0) = false := by simp [hs]
  obtain ⟨x, hx⟩ : ∃ x, b.f2[k]? = some x := ⟨_, List.getElem?_eq_getElem hks⟩
  have cx := R_cellV T5.out.book.slots k hx
  clear hx
  by_cases hs1' : s = 1
  · subst hs1'
    have hS := And.intro cs5.2.2 cx.1
    go_wp2
    refine start_ (n := 14) (S := fun w' => w'.cell? ⟨w2.heap.size, 2, none⟩ = some (.slice (some ⟨gS, 0, none⟩) b.f2.length eX) ∧ w'.cell? ⟨gS, k, none⟩ = some (.int .i64 x)) (ds := [13]) #[false, false, false, false, false, false, false, false, false, false, false, false, false, false] (by kernel_rfl) rfl rfl (hS) (fun hHeld => ?_)
    refine pure_ (i := 0) (N := some 51) (v := ?_) (a' := ?_) #[true, false, false, false, false, false, false, false, false, false, false, false, false, false] rfl rfl (by kernel_rfl) (fun _ _ _ h => h) (Or.inl ⟨by rfl, ?_⟩) ?_ ?_
    rotate_left
    · intro w'
      go_simp
      try with_reducible rfl
    rotate_left
    · (try simp only [Act.put, List.setIfInBounds_toArray, List.set_cons_zero, List.set_cons_succ])
      rfl
    refine take_ (i := 1) (N := some 52) (v := ?_) (a' := ?_) #[true, true, false, false, false, false, false, false, false, false, false, false, false, false] rfl rfl (by kernel_rfl) (fun _ _ _ h => h) (Or.inl ⟨by rfl, ?_⟩) hHeld ?_ ?_
    rotate_left
    · rintro w' ⟨s0, s1⟩
      go_simp
      try with_reducible rfl
    rotate_left
    · (try simp only [Act.put, List.setIfInBounds_toArray, List.set_cons_zero, List.set_cons_succ])
      rfl
    refine pure_ (i := 2) (N := some 53) (v := ?_) (a' := ?_) #[true, true, true, false, false, false, false, false, false, false, false, false, false, false] rfl rfl (by kernel_rfl) (fun _ _ _ h => h) (Or.inl ⟨by rfl, ?_⟩) ?_ ?_
    rotate_left
    · intro w'
      go_simp
      try with_reducible rfl
    rotate_left
    · (try simp only [Act.put, List.setIfInBounds_toArray, List.set_cons_zero, List.set_cons_succ])
      rfl
    refine pure_ (i := 3) (N := some 54) (v := ?_) (a' := ?_) #[true, true, true, true, false, false, false, false, false, false, false, false, false, false] rfl rfl (by kernel_rfl) (fun _ _ _ h => h) (Or.inl ⟨by rfl, ?_⟩) ?_ ?_
    rotate_left
    · intro w'
      go_simp
      try with_reducible rfl
    rotate_left
    · (try simp only [Act.put, List.setIfInBounds_toArray, List.set_cons_zero, List.set_cons_succ])
      rfl
    refine take_ (i := 4) (N := some 55) (v := ?_) (a' := ?_) #[true, true, true, true, true, false, false, false, false, false, false, false, false, false] rfl rfl (by kernel_rfl) (fun _ _ _ h => h) (Or.inl ⟨by rfl, ?_⟩) hHeld ?_ ?_
    rotate_left
    · rintro w' ⟨s0, s1⟩
      go_simp
      try with_reducible rfl
    rotate_left
    · (try simp only [Act.put, List.setIfInBounds_toArray, List.set_cons_zero, List.set_cons_succ])
      rfl
    refine pure_ (i := 5) (N := some 56) (v := ?_) (a' := ?_) #[true, true, true, true, true, true, false, false, false, false, false, false, false, false] rfl rfl (by kernel_rfl) (fun _ _ _ h => h) (Or.inl ⟨by rfl, ?_⟩) ?_ ?_
    rotate_left
    · intro w'
      go_simp
      try with_reducible rfl
    rotate_left
    · (try simp only [Act.put, List.setIfInBounds_toArray, List.set_cons_zero, List.set_cons_succ])
      rfl
    refine pure_ (i := 6) (N := some 57) (v := ?_) (a' := ?_) #[true, true, true, true, true, true, true, false, false, false, false, false, false, false] rfl rfl (by kernel_rfl) (fun _ _ _ h => h) (Or.inl ⟨by rfl, ?_⟩) ?_ ?_
    rotate_left
    · intro w'
      go_simp
      try with_reducible rfl
    rotate_left
    · (try simp only [Act.put, List.setIfInBounds_toArray, List.set_cons_zero, List.set_cons_succ])
      rfl
    refine take_ (i := 7) (N := some 58) (v := ?_) (a' := ?_) #[true, true, true, true, true, true, true, true, false, false, false, false, false, false] rfl rfl (by kernel_rfl) (fun _ _ _ h => h) (Or.inl ⟨by rfl, ?_⟩) hHeld ?_ ?_
    rotate_left
    · rintro w' ⟨s0, s1⟩
      go_simp
      try with_reducible rfl
    rotate_left
    · (try simp only [Act.put, List.setIfInBounds_toArray, List.set_cons_zero, List.set_cons_succ])
      rfl
    refine pure_ (i := 8) (N := some 59) (v := ?_) (a' := ?_) #[true, true, true, true, true, true, true, true, true, false, false, false, false, false] rfl rfl (by kernel_rfl) (fun _ _ _ h => h) (Or.inl ⟨by rfl, ?_⟩) ?_ ?_
    rotate_left
    · intro w'
      go_simp
      try with_reducible rfl
    rotate_left
    · (try simp only [Act.put, List.setIfInBounds_toArray, List.set_cons_zero, List.set_cons_succ])
      rfl
    refine one_ (i := 9) (N := some 60) #[true, true, true, true, true, true, true, true, true, true, false, false, false, false] rfl rfl (by kernel_rfl) (by simp) (fun K hK => ?_)
    go_simp
    refine (pick_any (H5.out.drewN 1) 5 (by omega) (by omega) (by omega)).mono ?_
    rintro e w6 ⟨r6, a6, b6, rfl, h6, k6⟩
    go_simp
    have k6 : KeepBut w5 w6 g none := k6
    have z6 := k6.1
    have T6 := Lib.hid (T5.out.keepBut k6 hgl hne)
    have Z6 := Lib.hid (keep_blk k6 Z5.out hnz)
    have K6 := Lib.hid (K5.out.trans k6 (.inl rfl))
    have H6 := Lib.hid h6
    have q0 := pw_keep_cell k6 hgSg hS.2
    obtain ⟨x6, hx6⟩ : ∃ x, b.f2[k]? = some x := ⟨_, List.getElem?_eq_getElem hks⟩
    have y0 := (R_cellV T6.out.book.slots k hx6).2
    clear hx6 h6 k6
    refine hK.out _ _ (⟨T6.out.cells.2.2, q0⟩) (fun hHeld => ?_)
    clear hK K
    try simp only [Act.put, List.setIfInBounds_toArray, List.set_cons_zero, List.set_cons_succ]
    refine pure_ (i := 10) (N := some 61) (v := ?_) (a' := ?_) #[true, true, true, true, true, true, true, true, true, true, true, false, false, false] rfl rfl (by kernel_rfl) (fun _ _ _ h => h) (Or.inl ⟨by rfl, ?_⟩) ?_ ?_
    rotate_left
    · intro w'
      go_simp
      try with_reducible rfl
    rotate_left
    · (try simp only [Act.put, List.setIfInBounds_toArray, List.set_cons_zero, List.set_cons_succ])
      rfl
    refine pure_ (i := 11) (N := some 62) (v := ?_) (a' := ?_) #[true, true, true, true, true, true, true, true, true, true, true, true, false, false] rfl rfl (by kernel_rfl) (fun _ _ _ h => h) (Or.inl ⟨by rfl, ?_⟩) ?_ ?_
    rotate_left
    · intro w'
      go_simp
      try with_reducible rfl
    rotate_left
    · (try simp only [Act.put, List.setIfInBounds_toArray, List.set_cons_zero, List.set_cons_succ])
      rfl
    refine pure_ (i := 12) (N := some 63) (v := ?_) (a' := ?_) #[true, true, true, true, true, true, true, true, true, true, true, true, true, false] rfl rfl (by kernel_rfl) (fun _ _ _ h => h) (Or.inl ⟨by rfl, ?_⟩) ?_ ?_
    rotate_left
    · intro w'
      go_simp
      try with_reducible rfl
    rotate_left
    · (try simp only [Act.put, List.setIfInBounds_toArray, List.set_cons_zero, List.set_cons_succ])
      rfl
    refine last_ (i := 13) (N := none) #[true, true, true, true, true, true, true, true, true, true, true, true, true, true] rfl rfl (by kernel_rfl) (by simp) (fun K hK => ?_)
    go_simp
    refine hK.out _ _ ?_
    clear hK K
    try simp only [Act.put, List.setIfInBounds_toArray, List.set_cons_zero, List.set_cons_succ]
    refine done_ (by kernel_rfl) ?_
    clear q0 y0
    generalize IntKind.i64.wrap (x + r6) = y1
    generalize IntKind.i64.wrap (y1 - 2) = y2
    have T8 : Hid (BoxR (w6.setCell ⟨gS, k, none⟩ (.int .i64 y2)) w.heap.size w2.heap.size (.slice AX b.f0.length cX) (.slice (some ⟨gL, 0, none⟩) b.f1.length dX) (.slice (some ⟨gS, 0, none⟩) b.f2.length eX) ⟨b.f0, b.f1, b.f2.set k y2⟩) := ⟨(Below.heap_setCell _ ⟨gS, k, none⟩ _ _ hBS).trans T6.out.box, T6.out.book.slot k _⟩
    have Z8 : Hid ((w6.setCell ⟨gS, k, none⟩ (.int .i64 y2)).heap[w.heap.size + 1]? = some (.cells #[.slice none 0 0, .slice none 0 0, .slice none 0 0] 27 (0, 0))) := (Below.heap_setCell _ ⟨gS, k, none⟩ _ _ hZS).trans Z6.out
    have K8 := Lib.hid (keep_set K6.out (q := ⟨gS, k, none⟩) hs0 (.int .i64 y2))
    have H8 := Lib.hid (H6.out.far (q := ⟨gS, k, none⟩) hgSg.symm (show w0.heap.size ≤ gS by omega) (.int .i64 y2))
    obtain ⟨ta, tb, tc⟩ := T8.out.cells
    have cr0 := (blk_cell Z8.out 0).trans rfl
    have fr0 := blk_frozen Z8.out 0
    have cr1 := (blk_cell Z8.out 1).trans rfl
    have fr1 := blk_frozen Z8.out 1
    have cr2 := (blk_cell Z8.out 2).trans rfl
    have fr2 := blk_frozen Z8.out 2
    have s2 := Lib.hid (blk_set (blk_set (blk_set Z8.out 0 ((.slice AX b.f0.length cX))) 1 ((.slice (some ⟨gL, 0, none⟩) b.f1.length dX))) 2 ((.slice (some ⟨gS, 0, none⟩) b.f2.length eX)))
    go_wp2
    refine bodyPost_ret (results_cell_row rfl _ _ (w.heap.size + 1) 27 #[(.slice AX b.f0.length cX), (.slice (some ⟨gL, 0, none⟩) b.f1.length dX), (.slice (some ⟨gS, 0, none⟩) b.f2.length eX)] (0, 0) _ rfl s2.out Tryz.underlying27 rfl (by kernel_rfl)) rfl ?_
    exact ⟨_, _, _, ⟨b.f0, b.f1, b.f2.set k y2⟩, _, by omega, by omega, (by show (b.f2.set k _).length ≤ 100; rw [List.length_set]; have := HL1.out; omega), (by first | (show b.f1.length ≤ 100; omega) | (show (b.f1.set k _).length ≤ 100; rw [List.length_set]; omega)), rfl, T8.out.book.cell3 Z8.out _ _ _, H8.out.put (by omega) (by omega) _ _ _, keep_put K8.out (by omega) _ _ _⟩
  have es1 : (s == 1) = false := by simp [hs1']
  have cS := (Kd.R_reads' T5.out.book.slots).2.1
  have j3 : (k : Int) ≤ eX := by omega
  have T8 := Lib.hid (T5.out.setSlots (Kd.R_take T5.out.book.slots (m := k) (Nat.le_of_lt hks)))
  have Z8 : Hid ((w5.setCell ⟨w2.heap.size, 2, none⟩ (.slice (some ⟨gS, 0, none⟩) k eX)).heap[w.heap.size + 1]? = some (.cells #[.slice none 0 0, .slice none 0 0, .slice none 0 0] 27 (0, 0))) := (Below.heap_setCell _ ⟨w2.heap.size, 2, none⟩ _ (w.heap.size + 1) hzB).trans Z5.out
  have K8 := Lib.hid (keep_set K5.out (q := ⟨w2.heap.size, 2, none⟩) (show w.heap.size ≤ w2.heap.size by omega) (.slice (some ⟨gS, 0, none⟩) k eX))
  have H8 := Lib.hid (H5.out.far (q := ⟨w2.heap.size, 2, none⟩) hne.symm (show w0.heap.size ≤ w2.heap.size by omega) (.slice (some ⟨gS, 0, none⟩) k eX))
  obtain ⟨sa, sb, sc⟩ := cs5
  have gr := blk_frozen T5.out.box 2
  obtain ⟨ta, tb, tc⟩ := T8.out.cells
  have cr0 := (blk_cell Z8.out 0).trans rfl
  have fr0 := blk_frozen Z8.out 0
  have cr1 := (blk_cell Z8.out 1).trans rfl
  have fr1 := blk_frozen Z8.out 1
  have cr2 := (blk_cell Z8.out 2).trans rfl
  have fr2 := blk_frozen Z8.out 2
  have s2 := Lib.hid (blk_set (blk_set (blk_set Z8.out 0 ((.slice AX b.f0.length cX))) 1 ((.slice (some ⟨gL, 0, none⟩) b.f1.length dX))) 2 ((.slice (some ⟨gS, 0, none⟩) k eX)))
  go_wp2
  refine bodyPost_ret (results_cell_row rfl _ _ (w.heap.size + 1) 27 #[(.slice AX b.f0.length cX), (.slice (some ⟨gL, 0, none⟩) b.f1.length dX), (.slice (some ⟨gS, 0, none⟩) k eX)] (0, 0) _ rfl s2.out Tryz.underlying27 rfl (by kernel_rfl)) rfl ?_
  exact ⟨_, _, _, ⟨b.f0, b.f1, b.f2.take k⟩, _, by omega, by omega, (by show (b.f2.take k).length ≤ 100; rw [List.length_take]; have := HL1.out; omega), (by first | (show b.f1.length ≤ 100; omega) | (show (b.f1.set k _).length ≤ 100; rw [List.length_set]; omega)), rfl, T8.out.book.cell3 Z8.out _ _ _, H8.out.put (by omega) (by omega) _ _ _, keep_put K8.out (by omega) _ _ _⟩
set_option maxRecDepth 100000 in
set_option maxHeartbeats 4000000 in
theorem l6Any_any {w0 w : World} {g : Nat} {bs : List Int} {p : Int} (h : Rdr w0 w g bs p) (hp : p ≤ 400000) :
    Calls Tryz.prog 18 #[.pointer (some ⟨g, 0, none⟩)] w fun e w' => ∃ (u0 u1 u2 : Value) (c : Book) (p' : Int), p ≤ p' ∧ p' ≤ p + 900 ∧ c.f2.length ≤ 100 ∧ c.f1.length ≤ 100 ∧
      e = .returned (.agg #[u0, u1, u2]) ∧ RdB w' w.heap.size u0 u1 u2 c ∧ Rdr w0 w' g bs p' ∧ KeepBut w w' g none := by
  have hgl := h.lt
  have h0w := h.hb.size
  have H0 := Lib.hid (h.alloc (.cells #[.slice none 0 0, .slice none 0 0, .slice none 0 0] 27))
  have K0 := Lib.hid (keep_al (KeepBut.refl w g none) (.cells #[.slice none 0 0, .slice none 0 0, .slice none 0 0] 27))
  have Z0 := Lib.hid (blk_new w (.cells #[.slice none 0 0, .slice none 0 0, .slice none 0 0] 27))
  clear h
  go_enter Tryz.func18, Tryz.ntmps18
  go_wp2_with (fail)
  refine (l6Book_any H0.out (by omega)).mono ?_
  rintro e w1 ⟨v0, v1, v2, b, p1, hp1, hp1', hok, hb3, hli, rfl, ho, h1, k1⟩
  have z1 : w.heap.size + 1 ≤ w1.heap.size := by have := k1.1; simpa using this
  obtain ⟨AX, cX, CX, dX, DX, eX, rfl, rfl, rfl, _, _, _⟩ := ho.form
  have hl1 := okB_len hok
  have hl8 := (flightsB_parts (slotsB_parts (fitsB_parts hok).2.1).1).1
  have HL1 := Lib.hid hl1
  have HLI := Lib.hid hli
  have HOK := Lib.hid hok
  have hor := Lib.hid (ho.rd.lower (base' := w.heap.size) (by simp))
  have T1 : Hid (BoxR (w1.alloc (.cells #[.slice AX b.f0.length cX, .slice CX b.f1.length dX, .slice DX b.f2.length eX] 27)) w.heap.size w1.heap.size (.slice AX b.f0.length cX) (.slice CX b.f1.length dX) (.slice DX b.f2.length eX) b) := BoxR.made hor.out
  have H1 := Lib.hid (h1.alloc (.cells #[.slice AX b.f0.length cX, .slice CX b.f1.length dX, .slice DX b.f2.length eX] 27))
  have K1 := Lib.hid (keep_al (K0.out.trans k1 (.inl rfl)) (.cells #[.slice AX b.f0.length cX, .slice CX b.f1.length dX, .slice DX b.f2.length eX] 27))
  have Z1 := Lib.hid (blk_alloc (keep_blk k1 Z0.out (by omega)) (.cells #[.slice AX b.f0.length cX, .slice CX b.f1.length dX, .slice DX b.f2.length eX] 27))
  have hne : w1.heap.size ≠ g := by omega
  have hzB : w.heap.size ≠ w1.heap.size := by omega
  clear ho h1 k1 hok hli hl1 hor H0 K0 Z0
  go_wp2_with (fail)
  refine (pick_any H1.out 16 (by omega) (by omega) (by omega)).mono ?_
  rintro e w2 ⟨r, a2, b2, rfl, h2, k2⟩
  have T2 := Lib.hid (T1.out.keepBut k2 hgl hne)
  have Z2 := Lib.hid (keep_blk k2 Z1.out (by omega))
  have K2 := Lib.hid (K1.out.trans k2 (.inl rfl))
  have H2 := Lib.hid h2
  have hL2 : Hid (w.heap.size ≤ w2.heap.size) := K2.out.1
  clear h2 k2 T1 Z1 K1 H1
  obtain ⟨ta, tb, tc⟩ := T2.out.cells
  by_cases hr : r = 0
  · subst hr
    go_wp2_with (fail)
    refine (l6Spoil_any H2.out (by omega) _ _ _ _ _ _ b T2.out.book.form_D.1 T2.out.book.form_D.2.1 T2.out.book.form_D.2.2 HOK.out hb3 HLI.out).mono ?_
    rintro e w3 ⟨u0, u1, u2, c, p3, hp3, hp3', hc2, hc1, rfl, hR, h3, k3⟩
    obtain ⟨AY, cY, CY, dY, DY, eY, rfl, rfl, rfl⟩ := hR.form
    have HR3 := Lib.hid (hR.lower (base' := w.heap.size) hL2.out)
    have Z3 := Lib.hid (keep_blk k3 Z2.out (by omega))
    have K3 := Lib.hid (K2.out.trans k3 (.inl rfl))
    have H3 := Lib.hid h3
    clear ta tb tc hR h3 k3 T2 Z2 K2 H2
    have cr0 := (blk_cell Z3.out 0).trans rfl
    have fr0 := blk_frozen Z3.out 0
    have cr1 := (blk_cell Z3.out 1).trans rfl
    have fr1 := blk_frozen Z3.out 1
    have cr2 := (blk_cell Z3.out 2).trans rfl
    have fr2 := blk_frozen Z3.out 2
    have s2 := Lib.hid (blk_set (blk_set (blk_set Z3.out 0 (.slice AY c.f0.length cY)) 1 (.slice CY c.f1.length dY)) 2 (.slice DY c.f2.length eY))
    go_wp2
    refine bodyPost_ret (results_cell_row rfl _ _ w.heap.size 27 #[.slice AY c.f0.length cY, .slice CY c.f1.length dY, .slice DY c.f2.length eY] (0, 0) _ rfl s2.out Tryz.underlying27 rfl (by kernel_rfl)) rfl ?_
    exact ⟨_, _, _, c, p3, by omega, by omega, hc2, hc1, rfl, HR3.out.cell3 Z3.out _ _ _, H3.out.put (by omega) (by omega) _ _ _, keep_put K3.out (Nat.le_refl _) _ _ _⟩
  · have er : (r == 0) = false := by simp [hr]
    have cr0 := (blk_cell Z2.out 0).trans rfl
    have fr0 := blk_frozen Z2.out 0
    have cr1 := (blk_cell Z2.out 1).trans rfl
    have fr1 := blk_frozen Z2.out 1
    have cr2 := (blk_cell Z2.out 2).trans rfl
    have fr2 := blk_frozen Z2.out 2
    have s2 := Lib.hid (blk_set (blk_set (blk_set Z2.out 0 (.slice AX b.f0.length cX)) 1 (.slice CX b.f1.length dX)) 2 (.slice DX b.f2.length eX))
    go_wp2
    refine bodyPost_ret (results_cell_row rfl _ _ w.heap.size 27 #[.slice AX b.f0.length cX, .slice CX b.f1.length dX, .slice DX b.f2.length eX] (0, 0) _ rfl s2.out Tryz.underlying27 rfl (by kernel_rfl)) rfl ?_
    exact ⟨_, _, _, b, _, by omega, by omega, (by have := HL1.out; omega), (by omega), rfl, T2.out.book.cell3 Z2.out _ _ _, H2.out.put (by omega) (by omega) _ _ _, keep_put K2.out (Nat.le_refl _) _ _ _⟩
end Go.Proofs.YthcpbojmalgdbaaGreat.Q
end
section
namespace Go.Proofs.YthcpbojmalgdbaaGreat.Q
open Go.RowKit Go.Proofs.YthcpbojmalgdbaaGreatW.PrintWords Go.Proofs.YthcpbojmalgdbaaGreatW.PrintLast Go.Proofs.YthcpbojmalgdbaaGreatW.PrintMore Go.Proofs.YthcpbojmalgdbaaGreat.Core
set_option linter.unusedVariables false
set_option linter.unusedSimpArgs false
structure DAt (W0 wk : World) (base g : Nat) (bs : List Int) (q : Int) (B : Nat) (v0 v1 v2 : Value) (b : Book) : Prop where
  t : BoxR wk base B v0 v1 v2 b
  r : Rdr W0 wk g bs q
  hg : g < base
  hB : base ≤ B
  hW : W0.heap.size ≤ g
section
variable {W0 wk w1 : World} {base g B : Nat} {bs : List Int} {q q' : Int} {v0 v1 v2 u0 u1 u2 : Value} {b c : Book}
theorem DAt.below (h : DAt W0 wk base g bs q B v0 v1 v2 b) (hb : Below wk.heap.size wk w1) : DAt W0 w1 base g bs q B v0 v1 v2 b := ⟨h.t.below hb, h.r.below hb, h.hg, h.hB, h.hW⟩
theorem DAt.keep (h : DAt W0 wk base g bs q B v0 v1 v2 b) (hk : KeepBut wk w1 g none) (hr : Rdr W0 w1 g bs q') : DAt W0 w1 base g bs q' B v0 v1 v2 b := ⟨h.t.keepBut hk h.hg (by have := h.hg; have := h.hB; omega), hr, h.hg, h.hB, h.hW⟩
theorem DAt.put (h : DAt W0 wk base g bs q B v0 v1 v2 b) (h' : RdB wk base u0 u1 u2 c) : DAt W0 (((wk.setCell ⟨B, 0, none⟩ u0).setCell ⟨B, 1, none⟩ u1).setCell ⟨B, 2, none⟩ u2) base g bs q B u0 u1 u2 c :=
  ⟨h.t.put h', h.r.put (by have := h.hg; have := h.hB; omega) (by have := h.hg; have := h.hB; have := h.hW; omega) _ _ _, h.hg, h.hB, h.hW⟩
end
end Go.Proofs.YthcpbojmalgdbaaGreat.Q
end
section
namespace Go.Proofs.YthcpbojmalgdbaaGreat.Q
open Go.RowKit Go.Proofs.YthcpbojmalgdbaaGreatW.PrintWords Go.Proofs.YthcpbojmalgdbaaGreatW.PrintLast Go.Proofs.YthcpbojmalgdbaaGreatW.PrintMore Go.Proofs.YthcpbojmalgdbaaGreat.Core
set_option linter.unusedVariables false
set_option linter.unusedSimpArgs false
set_option maxRecDepth 100000 in
set_option maxHeartbeats 16000000 in
theorem drawComp_any (A : Option Addr) (c : Nat) (l : List Int) (w : World) (hr : Kd.C (Kd.int .u8) w A l.length l) (hc : l.length ≤ c) (hb : byteL l) :
    Calls Tryz.prog 4 #[.slice A l.length c] w fun e w' => ∃ (v0 v1 v2 : Value) (b : Book), b.f1.length ≤ 200 ∧ b.f2.length ≤ 200 ∧
      e = .returned (.agg #[v0, v1, v2]) ∧ RdB w' w.heap.size v0 v1 v2 b ∧ Below w.heap.size w w' := by
  have W0b : Below w.heap.size w (w.alloc (.cells #[.slice none 0 0, .slice none 0 0, .slice none 0 0] 27)) := below_alloc (Below.refl _ _) _
  have HR := Lib.hid (Kd.C_below hr W0b)
  have HBy := Lib.hid hb
  have Z0 : Hid ((w.alloc (.cells #[.slice none 0 0, .slice none 0 0, .slice none 0 0] 27)).heap[w.heap.size]? = some (.cells #[.slice none 0 0, .slice none 0 0, .slice none 0 0] 27 (0, 0))) := blk_new w (.cells #[.slice none 0 0, .slice none 0 0, .slice none 0 0] 27)
  have zW0 : (w.alloc (.cells #[.slice none 0 0, .slice none 0 0, .slice none 0 0] 27)).heap.size = w.heap.size + 1 := by simp
  have HW0 := Lib.hid W0b
  obtain ⟨W0, hW0⟩ : ∃ W, W = w.alloc (.cells #[.slice none 0 0, .slice none 0 0, .slice none 0 0] 27) := ⟨_, rfl⟩
  rw [← hW0] at HR Z0 zW0 HW0
  clear hr hb W0b
  go_enter Tryz.func4, Tryz.ntmps4
  go_wp2_with (fail)
  rw [← hW0]
  clear hW0
  refine (open_any A c l _ HR.out hc HBy.out).mono ?_
  rintro e w1 ⟨g, bs, rfl, h1, hb1, hg⟩
  have hgl := h1.lt
  have H1 := Lib.hid h1
  clear h1 hb1
  obtain ⟨base, hbase⟩ : ∃ n, n = w1.heap.size := ⟨_, rfl⟩
  go_wp2_with (fail)
  refine (l6Any_any H1.out (by omega)).mono ?_
  rintro e w2 ⟨v0, v1, v2, b, p2, hp2, hp2', hb2, hb1, rfl, hR, h2, k2⟩
  obtain ⟨AX, cX, CX, dX, DX, eX, rfl, rfl, rfl⟩ := hR.form
  rw [← hbase] at hR
  have z2 := k2.1
  have HRx := Lib.hid hR
  obtain ⟨B, hB⟩ : ∃ n, n = w2.heap.size := ⟨_, rfl⟩
  have D2 : Hid (DAt W0 (w2.alloc (.cells #[.slice AX b.f0.length cX, .slice CX b.f1.length dX, .slice DX b.f2.length eX] 27)) base g bs p2 B (.slice AX b.f0.length cX) (.slice CX b.f1.length dX) (.slice DX b.f2.length eX) b) := by rw [hB]; exact ⟨BoxR.made hR, h2.alloc _, by omega, by omega, hg⟩
  have hgb : g < base := by omega
  have hbB : base ≤ B := by omega
  have hpt : (w2.alloc (.cells #[.slice AX b.f0.length cX, .slice CX b.f1.length dX, .slice DX b.f2.length eX] 27)).cell? ⟨w2.heap.size, 1, none⟩ = some (.slice CX b.f1.length dX) := by have t := D2.out.t.cells.2.1; rwa [hB] at t
  clear hR h2 k2 H1
  by_cases hv : 1 < b.f1.length
  case neg =>
    have ev0 : decide ((1 : Int) < ((b.f1.length : Nat) : Int)) = false := decide_eq_false (by omega)
    clear hv
    subst hB
    clear hbase
    have T9 : Hid ((w2.alloc (.cells #[(.slice AX b.f0.length cX), (.slice CX b.f1.length dX), (.slice DX b.f2.length eX)] 27)).heap[w2.heap.size]? = some (.cells #[(.slice AX b.f0.length cX), (.slice CX b.f1.length dX), (.slice DX b.f2.length eX)] 27 (0, 0))) := D2.out.t.box
    have Z9 : Hid ((w2.alloc (.cells #[(.slice AX b.f0.length cX), (.slice CX b.f1.length dX), (.slice DX b.f2.length eX)] 27)).heap[w.heap.size]? = some (.cells #[.slice none 0 0, .slice none 0 0, .slice none 0 0] 27 (0, 0))) := blk_below Z0.out D2.out.r.hb
    have RO9 : Hid (RdB (w2.alloc (.cells #[(.slice AX b.f0.length cX), (.slice CX b.f1.length dX), (.slice DX b.f2.length eX)] 27)) base (.slice AX b.f0.length cX) (.slice CX b.f1.length dX) (.slice DX b.f2.length eX) b) := D2.out.t.book
    have L9 : Hid (Below w.heap.size w (w2.alloc (.cells #[(.slice AX b.f0.length cX), (.slice CX b.f1.length dX), (.slice DX b.f2.length eX)] 27))) := below_next HW0.out HW0.out.size D2.out.r.hb
    have cb0 := (blk_cell T9.out 0).trans rfl
    have cb1 := (blk_cell T9.out 1).trans rfl
    have cb2 := (blk_cell T9.out 2).trans rfl
    have cz0 := (blk_cell Z9.out 0).trans rfl
    have fz0 := blk_frozen Z9.out 0
    have cz1 := (blk_cell Z9.out 1).trans rfl
    have fz1 := blk_frozen Z9.out 1
    have cz2 := (blk_cell Z9.out 2).trans rfl
    have fz2 := blk_frozen Z9.out 2
    have ZW := Lib.hid (blk_set (blk_set (blk_set Z9.out 0 (.slice AX b.f0.length cX)) 1 (.slice CX b.f1.length dX)) 2 (.slice DX b.f2.length eX))
    have RW := Lib.hid (((RO9.out.setOld (p := ⟨w.heap.size, 0, none⟩) (show w.heap.size < base by omega) (.slice AX b.f0.length cX)).setOld (p := ⟨w.heap.size, 1, none⟩) (show w.heap.size < base by omega) (.slice CX b.f1.length dX)).setOld (p := ⟨w.heap.size, 2, none⟩) (show w.heap.size < base by omega) (.slice DX b.f2.length eX))
    have LW := Lib.hid (((L9.out.setCell (p := ⟨w.heap.size, 0, none⟩) (Nat.le_refl _) (.slice AX b.f0.length cX)).setCell (p := ⟨w.heap.size, 1, none⟩) (Nat.le_refl _) (.slice CX b.f1.length dX)).setCell (p := ⟨w.heap.size, 2, none⟩) (Nat.le_refl _) (.slice DX b.f2.length eX))
    go_wp2
    refine bodyPost_ret (results_cell_row rfl _ _ w.heap.size 27 #[(.slice AX b.f0.length cX), (.slice CX b.f1.length dX), (.slice DX b.f2.length eX)] (0, 0) _ rfl ZW.out Tryz.underlying27 rfl (by kernel_rfl)) rfl ?_
    exact ⟨_, _, _, b, by omega, by omega, rfl, RW.out.lower (by omega), LW.out⟩
  have ev0 : decide ((1 : Int) < ((b.f1.length : Nat) : Int)) = true := decide_eq_true (by omega)
  have hpt2 : (w2.alloc (.cells #[(.slice AX b.f0.length cX), (.slice CX b.f1.length dX), (.slice DX b.f2.length eX)] 27)).cell? ⟨w2.heap.size, 2, none⟩ = some (.slice DX b.f2.length eX) := by have t := D2.out.t.cells.2.2; rwa [hB] at t
  by_cases hq : b.f2.length = b.f1.length
  case neg =>
    have eq0 : (((b.f2.length : Nat) : Int) == ((b.f1.length : Nat) : Int)) = false := by rw [beq_eq_false_iff_ne]; omega
    clear hv hq
    subst hB
    clear hbase
    have T9 : Hid ((w2.alloc (.cells #[(.slice AX b.f0.length cX), (.slice CX b.f1.length dX), (.slice DX b.f2.length eX)] 27)).heap[w2.heap.size]? = some (.cells #[(.slice AX b.f0.length cX), (.slice CX b.f1.length dX), (.slice DX b.f2.length eX)] 27 (0, 0))) := D2.out.t.box
    have Z9 : Hid ((w2.alloc (.cells #[(.slice AX b.f0.length cX), (.slice CX b.f1.length dX), (.slice DX b.f2.length eX)] 27)).heap[w.heap.size]? = some (.cells #[.slice none 0 0, .slice none 0 0, .slice none 0 0] 27 (0, 0))) := blk_below Z0.out D2.out.r.hb
    have RO9 : Hid (RdB (w2.alloc (.cells #[(.slice AX b.f0.length cX), (.slice CX b.f1.length dX), (.slice DX b.f2.length eX)] 27)) base (.slice AX b.f0.length cX) (.slice CX b.f1.length dX) (.slice DX b.f2.length eX) b) := D2.out.t.book
    have L9 : Hid (Below w.heap.size w (w2.alloc (.cells #[(.slice AX b.f0.length cX), (.slice CX b.f1.length dX), (.slice DX b.f2.length eX)] 27))) := below_next HW0.out HW0.out.size D2.out.r.hb
    have cb0 := (blk_cell T9.out 0).trans rfl
    have cb1 := (blk_cell T9.out 1).trans rfl
    have cb2 := (blk_cell T9.out 2).trans rfl
    have cz0 := (blk_cell Z9.out 0).trans rfl
    have fz0 := blk_frozen Z9.out 0
    have cz1 := (blk_cell Z9.out 1).trans rfl
    have fz1 := blk_frozen Z9.out 1
    have cz2 := (blk_cell Z9.out 2).trans rfl
    have fz2 := blk_frozen Z9.out 2
    have ZW := Lib.hid (blk_set (blk_set (blk_set Z9.out 0 (.slice AX b.f0.length cX)) 1 (.slice CX b.f1.length dX)) 2 (.slice DX b.f2.length eX))
    have RW := Lib.hid (((RO9.out.setOld (p := ⟨w.heap.size, 0, none⟩) (show w.heap.size < base by omega) (.slice AX b.f0.length cX)).setOld (p := ⟨w.heap.size, 1, none⟩) (show w.heap.size < base by omega) (.slice CX b.f1.length dX)).setOld (p := ⟨w.heap.size, 2, none⟩) (show w.heap.size < base by omega) (.slice DX b.f2.length eX))
    have LW := Lib.hid (((L9.out.setCell (p := ⟨w.heap.size, 0, none⟩) (Nat.le_refl _) (.slice AX b.f0.length cX)).setCell (p := ⟨w.heap.size, 1, none⟩) (Nat.le_refl _) (.slice CX b.f1.length dX)).setCell (p := ⟨w.heap.size, 2, none⟩) (Nat.le_refl _) (.slice DX b.f2.length eX))
    go_wp2
    refine bodyPost_ret (results_cell_row rfl _ _ w.heap.size 27 #[(.slice AX b.f0.length cX), (.slice CX b.f1.length dX), (.slice DX b.f2.length eX)] (0, 0) _ rfl ZW.out Tryz.underlying27 rfl (by kernel_rfl)) rfl ?_
    exact ⟨_, _, _, b, by omega, by omega, rfl, RW.out.lower (by omega), LW.out⟩
  have eq0 : (((b.f2.length : Nat) : Int) == ((b.f1.length : Nat) : Int)) = true := by rw [hq]; exact beq_self_eq_true _
  have hpos : 0 < b.f2.length := by omega
  have HQ := Lib.hid hq
  obtain ⟨gS, cS, hform, hs0, hsx, csS, hcsS⟩ := Kd.R_form HRx.out.slots hpos
  have hs1 : gS < w2.heap.size := blk_lt hcsS
  injection hform with ea en ec
  subst ea ec
  clear en hcsS HRx hv hq
  go_wp2_with (fail)
  refine (pick_any D2.out.r 3 (by omega) (by omega) (by omega)).mono ?_
  rintro e w3 ⟨r, a3, b3, rfl, h3, k3⟩
  have D3 := Lib.hid (D2.out.keep k3 h3)
  clear hpt hpt2
  rw [← hB]
  have hgB : gS < B := by omega
  clear h3 k3 D2 hB hbase z2 hs1
  by_cases hr : 0 < r
  case neg =>
    have er : decide (0 < r) = false := decide_eq_false hr
    have T9 : Hid (w3.heap[B]? = some (.cells #[(.slice AX b.f0.length cX), (.slice CX b.f1.length dX), (.slice (some ⟨gS, 0, none⟩) b.f2.length eX)] 27 (0, 0))) := D3.out.t.box
    have Z9 : Hid (w3.heap[w.heap.size]? = some (.cells #[.slice none 0 0, .slice none 0 0, .slice none 0 0] 27 (0, 0))) := blk_below Z0.out D3.out.r.hb
    have RO9 : Hid (RdB w3 base (.slice AX b.f0.length cX) (.slice CX b.f1.length dX) (.slice (some ⟨gS, 0, none⟩) b.f2.length eX) b) := D3.out.t.book
    have L9 : Hid (Below w.heap.size w w3) := below_next HW0.out HW0.out.size D3.out.r.hb
    have cb0 := (blk_cell T9.out 0).trans rfl
    have cb1 := (blk_cell T9.out 1).trans rfl
    have cb2 := (blk_cell T9.out 2).trans rfl
    have cz0 := (blk_cell Z9.out 0).trans rfl
    have fz0 := blk_frozen Z9.out 0
    have cz1 := (blk_cell Z9.out 1).trans rfl
    have fz1 := blk_frozen Z9.out 1
    have cz2 := (blk_cell Z9.out 2).trans rfl
    have fz2 := blk_frozen Z9.out 2
    have ZW := Lib.hid (blk_set (blk_set (blk_set Z9.out 0 (.slice AX b.f0.length cX)) 1 (.slice CX b.f1.length dX)) 2 (.slice (some ⟨gS, 0, none⟩) b.f2.length eX))
    have RW := Lib.hid (((RO9.out.setOld (p := ⟨w.heap.size, 0, none⟩) (show w.heap.size < base by omega) (.slice AX b.f0.length cX)).setOld (p := ⟨w.heap.size, 1, none⟩) (show w.heap.size < base by omega) (.slice CX b.f1.length dX)).setOld (p := ⟨w.heap.size, 2, none⟩) (show w.heap.size < base by omega) (.slice (some ⟨gS, 0, none⟩) b.f2.length eX))
    have LW := Lib.hid (((L9.out.setCell (p := ⟨w.heap.size, 0, none⟩) (Nat.le_refl _) (.slice AX b.f0.length cX)).setCell (p := ⟨w.heap.size, 1, none⟩) (Nat.le_refl _) (.slice CX b.f1.length dX)).setCell (p := ⟨w.heap.size, 2, none⟩) (Nat.le_refl _) (.slice (some ⟨gS, 0, none⟩) b.f2.length eX))
    go_wp2
    refine bodyPost_ret (results_cell_row rfl _ _ w.heap.size 27 #[(.slice AX b.f0.length cX), (.slice CX b.f1.length dX), (.slice (some ⟨gS, 0, none⟩) b.f2.length eX)] (0, 0) _ rfl ZW.out Tryz.underlying27 rfl (by kernel_rfl)) rfl ?_
    exact ⟨_, _, _, b, by omega, by omega, rfl, RW.out.lower (by omega), LW.out⟩
  have er : decide (0 < r) = true := decide_eq_true hr
  have T5 : Hid (w3.drew.heap[B]? = some (.cells #[(.slice AX b.f0.length cX), (.slice CX b.f1.length dX), (.slice (some ⟨gS, 0, none⟩) b.f2.length eX)] 27 (0, 0))) := D3.out.t.box
  have Z5 : Hid (w3.drew.heap[w.heap.size]? = some (.cells #[.slice none 0 0, .slice none 0 0, .slice none 0 0] 27 (0, 0))) := blk_below (blk_below Z0.out D3.out.r.hb) (pw_below_drewN (Below.refl _ _) 1)
  have R5 : Hid (Rdr W0 w3.drew g bs _) := D3.out.r.drewN 1
  have RO5 : Hid (RdB w3.drew base (.slice AX b.f0.length cX) (.slice CX b.f1.length dX) (.slice (some ⟨gS, 0, none⟩) b.f2.length eX) b) := D3.out.t.book.below (pw_below_drewN (Below.refl _ _) 1)
  have hBw : B ≠ w.heap.size := by omega
  have hgSg : gS ≠ g := by omega
  have hBS : B ≠ gS := by omega
  have hwS : w.heap.size ≠ gS := by omega
  have hgx := D3.out.r.lt
  have hS : w3.drew.cell? ⟨B, 2, none⟩ = some (.slice (some ⟨gS, 0, none⟩) b.f2.length eX) := (blk_cell T5.out 2).trans rfl
  obtain ⟨tb, tc⟩ : w3.cell? ⟨B, 1, none⟩ = some (.slice CX b.f1.length dX) ∧ w3.cell? ⟨B, 2, none⟩ = some (.slice (some ⟨gS, 0, none⟩) b.f2.length eX) := ⟨D3.out.t.cells.2.1, D3.out.t.cells.2.2⟩
  go_upto_region 4 with (fail)
  clear tb tc
  refine start_ (n := 9) (S := fun w' => w'.cell? ⟨B, 2, none⟩ = some (.slice (some ⟨gS, 0, none⟩) b.f2.length eX)) (ds := [8]) #[false, false, false, false, false, false, false, false, false] (by kernel_rfl) rfl rfl (hS) (fun hHeld => ?_)
  refine pure_ (i := 0) (N := some 27) (v := ?_) (a' := ?_) #[true, false, false, false, false, false, false, false, false] rfl rfl (by kernel_rfl) (fun _ _ _ h => h) (Or.inl ⟨by rfl, ?_⟩) ?_ ?_
  rotate_left
  · intro w'
    go_simp
    try with_reducible rfl
  rotate_left
  · (try simp only [Act.put, List.setIfInBounds_toArray, List.set_cons_zero, List.set_cons_succ])
    rfl
  refine take_ (i := 1) (N := some 28) (v := ?_) (a' := ?_) #[true, true, false, false, false, false, false, false, false] rfl rfl (by kernel_rfl) (fun _ _ _ h => h) (Or.inl ⟨by rfl, ?_⟩) hHeld ?_ ?_
  rotate_left
  · rintro w' s0
    go_simp
    try with_reducible rfl
  rotate_left
  · (try simp only [Act.put, List.setIfInBounds_toArray, List.set_cons_zero, List.set_cons_succ])
    rfl
  refine pure_ (i := 2) (N := some 29) (v := ?_) (a' := ?_) #[true, true, true, false, false, false, false, false, false] rfl rfl (by kernel_rfl) (fun _ _ _ h => h) (Or.inl ⟨by rfl, ?_⟩) ?_ ?_
  rotate_left
  · intro w'
    go_simp
    try with_reducible rfl
  rotate_left
  · (try simp only [Act.put, List.setIfInBounds_toArray, List.set_cons_zero, List.set_cons_succ])
    rfl
  refine pure_ (i := 3) (N := some 30) (v := ?_) (a' := ?_) #[true, true, true, true, false, false, false, false, false] rfl rfl (by kernel_rfl) (fun _ _ _ h => h) (Or.inl ⟨by rfl, ?_⟩) ?_ ?_
  rotate_left
  · intro w'
    go_simp
    try with_reducible rfl
  rotate_left
  · (try simp only [Act.put, List.setIfInBounds_toArray, List.set_cons_zero, List.set_cons_succ])
    rfl
  refine take_ (i := 4) (N := some 31) (v := ?_) (a' := ?_) #[true, true, true, true, true, false, false, false, false] rfl rfl (by kernel_rfl) (fun _ _ _ h => h) (Or.inl ⟨by rfl, ?_⟩) hHeld ?_ ?_
  rotate_left
  · rintro w' s0
    go_simp
    try with_reducible rfl
  rotate_left
  · (try simp only [Act.put, List.setIfInBounds_toArray, List.set_cons_zero, List.set_cons_succ])
    rfl
  refine pure_ (i := 5) (N := some 32) (v := ?_) (a' := ?_) #[true, true, true, true, true, true, false, false, false] rfl rfl (by kernel_rfl) (fun _ _ _ h => h) (Or.inl ⟨by rfl, ?_⟩) ?_ ?_
  rotate_left
  · intro w'
    go_simp
    try with_reducible rfl
  rotate_left
  · (try simp only [Act.put, List.setIfInBounds_toArray, List.set_cons_zero, List.set_cons_succ])
    rfl
  clear hS
  generalize w3.drew = VD at hHeld T5 Z5 R5 RO5 ⊢
  refine one_ (i := 6) (N := some 33) #[true, true, true, true, true, true, true, false, false] rfl rfl (by kernel_rfl) (by simp) (fun K hK => ?_)
  go_simp
  refine (pick_any R5.out b.f2.length (by omega) (by omega) (by omega)).mono ?_
  rintro e V6 ⟨k, a6, b6, rfl, h6, k6⟩
  obtain ⟨k, rfl⟩ := Int.eq_ofNat_of_zero_le a6
  have hkl : k < b.f2.length := by omega
  have j1 : (k : Int) < b.f2.length := by omega
  go_simp
  have hBg : B ≠ g := by omega
  have T6 := Lib.hid (keep_blk k6 T5.out hBg)
  have Z6 := Lib.hid (keep_blk k6 Z5.out (show w.heap.size ≠ g by omega))
  have L6 := Lib.hid (below_next HW0.out HW0.out.size h6.hb)
  have RO6 := Lib.hid (RO5.out.keepBut k6 hgb)
  obtain ⟨x6, hx6⟩ : ∃ x, b.f2[k]? = some x := ⟨_, List.getElem?_eq_getElem hkl⟩
  have cx6 := R_cellV RO6.out.slots k hx6
  obtain ⟨cx, fx⟩ := cx6
  clear h6 k6 hx6
  refine hK.out _ _ ((blk_cell T6.out 2).trans rfl) (fun hHeld => ?_)
  clear hK K
  try simp only [Act.put, List.setIfInBounds_toArray, List.set_cons_zero, List.set_cons_succ]
  refine pure_ (i := 7) (N := some 34) (v := ?_) (a' := ?_) #[true, true, true, true, true, true, true, true, false] rfl rfl (by kernel_rfl) (fun _ _ _ h => h) (Or.inl ⟨by rfl, ?_⟩) ?_ ?_
  rotate_left
  · intro w'
    go_simp
    try with_reducible rfl
  rotate_left
  · (try simp only [Act.put, List.setIfInBounds_toArray, List.set_cons_zero, List.set_cons_succ])
    rfl
  refine last_ (i := 8) (N := none) #[true, true, true, true, true, true, true, true, true] rfl rfl (by kernel_rfl) (by simp) (fun K hK => ?_)
  go_simp
  refine hK.out _ _ ?_
  clear hK K
  try simp only [Act.put, List.setIfInBounds_toArray, List.set_cons_zero, List.set_cons_succ]
  refine done_ (by kernel_rfl) ?_
  clear cx fx
  have T9 : Hid ((V6.setCell ⟨gS, k, none⟩ (.int .i64 (-1))).heap[B]? = some (.cells #[(.slice AX b.f0.length cX), (.slice CX b.f1.length dX), (.slice (some ⟨gS, 0, none⟩) b.f2.length eX)] 27 (0, 0))) := (Below.heap_setCell _ ⟨gS, k, none⟩ _ _ hBS).trans T6.out
  have Z9 : Hid ((V6.setCell ⟨gS, k, none⟩ (.int .i64 (-1))).heap[w.heap.size]? = some (.cells #[.slice none 0 0, .slice none 0 0, .slice none 0 0] 27 (0, 0))) := (Below.heap_setCell _ ⟨gS, k, none⟩ _ _ hwS).trans Z6.out
  have RO9 : Hid (RdB (V6.setCell ⟨gS, k, none⟩ (.int .i64 (-1))) base (.slice AX b.f0.length cX) (.slice CX b.f1.length dX) (.slice (some ⟨gS, 0, none⟩) b.f2.length eX) ⟨b.f0, b.f1, b.f2.set k (-1)⟩) := RO6.out.slot k _
  have L9 : Hid (Below w.heap.size w (V6.setCell ⟨gS, k, none⟩ (.int .i64 (-1)))) := L6.out.setCell (p := ⟨gS, k, none⟩) (show w.heap.size ≤ gS by omega) (.int .i64 (-1))
  have cb0 := (blk_cell T9.out 0).trans rfl
  have cb1 := (blk_cell T9.out 1).trans rfl
  have cb2 := (blk_cell T9.out 2).trans rfl
  have cz0 := (blk_cell Z9.out 0).trans rfl
  have fz0 := blk_frozen Z9.out 0
  have cz1 := (blk_cell Z9.out 1).trans rfl
  have fz1 := blk_frozen Z9.out 1
  have cz2 := (blk_cell Z9.out 2).trans rfl
  have fz2 := blk_frozen Z9.out 2
  have ZW := Lib.hid (blk_set (blk_set (blk_set Z9.out 0 (.slice AX b.f0.length cX)) 1 (.slice CX b.f1.length dX)) 2 (.slice (some ⟨gS, 0, none⟩) b.f2.length eX))
  have RW := Lib.hid (((RO9.out.setOld (p := ⟨w.heap.size, 0, none⟩) (show w.heap.size < base by omega) (.slice AX b.f0.length cX)).setOld (p := ⟨w.heap.size, 1, none⟩) (show w.heap.size < base by omega) (.slice CX b.f1.length dX)).setOld (p := ⟨w.heap.size, 2, none⟩) (show w.heap.size < base by omega) (.slice (some ⟨gS, 0, none⟩) b.f2.length eX))
  have LW := Lib.hid (((L9.out.setCell (p := ⟨w.heap.size, 0, none⟩) (Nat.le_refl _) (.slice AX b.f0.length cX)).setCell (p := ⟨w.heap.size, 1, none⟩) (Nat.le_refl _) (.slice CX b.f1.length dX)).setCell (p := ⟨w.heap.size, 2, none⟩) (Nat.le_refl _) (.slice (some ⟨gS, 0, none⟩) b.f2.length eX))
  go_wp2
  refine bodyPost_ret (results_cell_row rfl _ _ w.heap.size 27 #[(.slice AX b.f0.length cX), (.slice CX b.f1.length dX), (.slice (some ⟨gS, 0, none⟩) b.f2.length eX)] (0, 0) _ rfl ZW.out Tryz.underlying27 rfl (by kernel_rfl)) rfl ?_
  exact ⟨_, _, _, ⟨b.f0, b.f1, b.f2.set k (-1)⟩, (by show b.f1.length ≤ 200; omega), (by show (b.f2.set k _).length ≤ 200; rw [List.length_set]; omega), rfl, RW.out.lower (by omega), LW.out⟩
end Go.Proofs.YthcpbojmalgdbaaGreat.Q
end
