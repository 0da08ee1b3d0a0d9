/- Merged out of this seat's own texts. -/
import Derived.Test.YthcpbojmalgdbaaGreatMgW
import Derived.Test.YthcpbojmalgdbaaGreatMgQ
import Derived.BigQuiet
import Derived.Test.YthcpbojmalgdbaaGreatMgD
import Derived.Test.YthcpbojmalgdbaaGreatMgC
import Derived.Deep.RegionHeld3
import Derived.Test.YthcpbojmalgdbaaGreatMgA
section
namespace Go.Proofs.YthcpbojmalgdbaaGreat.Q
open Go.RowKit Go.Proofs.YthcpbojmalgdbaaGreatW.PrintWords Go.Proofs.YthcpbojmalgdbaaGreatW.PrintLast Go.Proofs.YthcpbojmalgdbaaGreatW.PrintMore Go.Proofs.YthcpbojmalgdbaaGreat.Core
set_option linter.unusedVariables false
set_option linter.unusedSimpArgs false
set_option maxRecDepth 100000 in
set_option maxHeartbeats 4000000 in
theorem wFlights_any (A B : Option Addr) (c d : Nat) (l : List Flight) (w : World) (hr : Kd.C k47 w A l.length l) (hr' : Kd.C k47 w B l.length l) :
    Calls Tryz.prog 23 #[.slice A l.length c, .slice B l.length d] w fun e w' => e = .returned (.bool true) ∧ Below w.heap.size w w' := by
  have HR := Lib.hid hr
  have HR' := Lib.hid hr'
  have hnn : l.length ≤ 9223372036854775807 := hr.2.1
  clear hr hr'
  go_enter Tryz.func23, Tryz.ntmps23
  go_wp2
  go_loopw [5] (fun vk wr => ∃ (k : Nat), vk = .int .i64 k ∧ k ≤ l.length ∧ Hid (Below w.heap.size w wr)) (fun vk _ => l.length - (intOf vk).toNat)
  case atStart => exact ⟨0, rfl, Nat.zero_le _, Below.refl _ _⟩
  case round =>
    obtain ⟨i, rfl, hi, HB⟩ := hrel
    obtain ⟨wa, rfl⟩ : ∃ wo : World, wo = wr := ⟨_, rfl⟩
    by_cases hlt : i < l.length
    · have j1 : (i : Int) < l.length := by omega
      obtain ⟨ad, f, A3, c3, rfl, hf, p0, p1, p2, p3, hl3, hr3⟩ := flightAt (Kd.C_below HR.out HB.out) i hlt
      obtain ⟨ad', f', A4, c4, rfl, hf', q0, q1, q2, q3, hl4, hr4⟩ := flightAt (Kd.C_below HR'.out HB.out) i hlt
      obtain rfl : f = f' := Option.some.inj (hf.symm.trans hf')
      have hvn : f.f3.length ≤ 9223372036854775807 := hr3.2.1
      have R3 := Lib.hid hr3
      have R4 := Lib.hid hr4
      have HF := Lib.hid hf
      clear hf hf' hl3 hl4 hr3 hr4
      go_wp2
      go_quiet (fail)
      go_wp2
      go_loopw [6] (fun vk wr => ∃ (k : Nat), vk = .int .i64 k ∧ k ≤ f.f3.length ∧ Hid (Below wa.heap.size wa wr)) (fun vk _ => f.f3.length - (intOf vk).toNat)
      case atStart => exact ⟨0, rfl, Nat.zero_le _, pw_below_drewN (Below.refl _ _) _⟩
      case round =>
        obtain ⟨k, rfl, hk, HB2⟩ := hrel
        obtain ⟨wb, rfl⟩ : ∃ wo : World, wo = wr := ⟨_, rfl⟩
        have p3' := pw_cell_below HB2.out p3
        have q3' := pw_cell_below HB2.out q3
        clear p0 p1 p2 p3 q0 q1 q2 q3
        by_cases hkl : k < f.f3.length
        · have j2 : (k : Int) < f.f3.length := by omega
          obtain ⟨ad3, v, rfl, hx, v0, v1, v2⟩ := visitAt (Kd.C_below R3.out HB2.out) k hkl
          obtain ⟨ad4, v', rfl, hx', u0, u1, u2⟩ := visitAt (Kd.C_below R4.out HB2.out) k hkl
          obtain rfl : v = v' := Option.some.inj (hx.symm.trans hx')
          clear hx hx'
          go_wp2
          go_quiet (fail)
          go_wp2
          go_roundw
          case rel => exact ⟨k + 1, by go_num, hkl, pw_below_drewN HB2.out _⟩
          case measure => simp [intOf]; omega
        · go_wp2
          go_roundw
          case rel => exact ⟨i + 1, by go_num, hlt, below_next HB.out HB.out.size HB2.out⟩
          case measure => simp [intOf]; omega
    · go_wp2
      go_ret
      exact ⟨rfl, HB.out⟩
theorem wIntsC_any {A B : Option Addr} {c d : Nat} {l : List Int} {w : World} (hC : Kd.C (Kd.int .i64) w A l.length l) (hc : l.length ≤ c) (hC' : Kd.C (Kd.int .i64) w B l.length l) (hc' : l.length ≤ d) (hl : l.length ≤ 10000000) :
    Calls Tryz.prog 24 #[.slice A l.length c, .slice B l.length d] w fun e w' => e = .returned (.bool true) ∧ Below w.heap.size w w' := by
  refine (laws_wInts.calls (l.length + 1) A c l B d l true w hC hc hC' hc' ?_).mono fun _ _ h => ⟨h.1, h.2.below⟩
  unfold laws_wInts.f
  rw [if_pos rfl]
  exact wInts_loop l.length (l.length + 1) l 0 (by omega) (by omega) (by omega) hl
set_option maxRecDepth 100000 in
set_option maxHeartbeats 4000000 in
theorem wBookC_any (A0 : Option Addr) (c0 : Nat) (A1 : Option Addr) (c1 : Nat) (A2 : Option Addr) (c2 : Nat) (B0 : Option Addr) (d0 : Nat) (B1 : Option Addr) (d1 : Nat) (B2 : Option Addr) (d2 : Nat) (b : Book) (w : World) (r0 : Kd.C k42 w A0 b.f0.length b.f0) (r1 : Kd.C k47 w A1 b.f1.length b.f1) (r2 : Kd.C (Kd.int .i64) w A2 b.f2.length b.f2)
    (s0 : Kd.C k42 w B0 b.f0.length b.f0) (s1 : Kd.C k47 w B1 b.f1.length b.f1) (s2 : Kd.C (Kd.int .i64) w B2 b.f2.length b.f2) (t2 : b.f2.length ≤ c2) (t2' : b.f2.length ≤ d2) (hl : b.f2.length ≤ 10000000) :
    Calls Tryz.prog 6 #[.agg #[.slice A0 b.f0.length c0, .slice A1 b.f1.length c1, .slice A2 b.f2.length c2], .agg #[.slice B0 b.f0.length d0, .slice B1 b.f1.length d1, .slice B2 b.f2.length d2]] w fun e w' => e = .returned (.bool true) ∧ Below w.heap.size w w' := by
  have QF := Lib.hid (fun V (hb : Below w.heap.size w V) => wFlights_any A1 B1 c1 d1 b.f1 V (Kd.C_below r1 hb) (Kd.C_below s1 hb))
  have QI := Lib.hid (fun V (hb : Below w.heap.size w V) => wIntsC_any (Kd.C_below r2 hb) t2 (Kd.C_below s2 hb) t2' hl)
  have H0 := Lib.hid r0
  have H0' := Lib.hid s0
  have hnn : b.f0.length ≤ 9223372036854775807 := r0.2.1
  obtain ⟨W, hW⟩ : ∃ W, W = (w.alloc (.cells #[.slice A0 b.f0.length c0, .slice A1 b.f1.length c1, .slice A2 b.f2.length c2] 27)).alloc (.cells #[.slice B0 b.f0.length d0, .slice B1 b.f1.length d1, .slice B2 b.f2.length d2] 27) := ⟨_, rfl⟩
  have BB : Hid (Below w.heap.size w W) := by rw [hW]; exact below_alloc (below_alloc (Below.refl _ _) _) _
  have X0 : Hid (W.heap[w.heap.size]? = some (.cells #[.slice A0 b.f0.length c0, .slice A1 b.f1.length c1, .slice A2 b.f2.length c2] 27 (0, 0))) := by rw [hW]; exact blk_alloc (blk_new w _) _
  have X1 : Hid (W.heap[w.heap.size + 1]? = some (.cells #[.slice B0 b.f0.length d0, .slice B1 b.f1.length d1, .slice B2 b.f2.length d2] 27 (0, 0))) := by
    have t := blk_new (w.alloc (.cells #[.slice A0 b.f0.length c0, .slice A1 b.f1.length c1, .slice A2 b.f2.length c2] 27)) (.cells #[.slice B0 b.f0.length d0, .slice B1 b.f1.length d1, .slice B2 b.f2.length d2] 27)
    rw [World.size_alloc] at t
    rw [hW]
    exact t
  clear r0 r1 r2 s0 s1 s2 t2 t2'
  have a0 := (blk_cell X0.out 0).trans rfl
  have a1 := (blk_cell X0.out 1).trans rfl
  have a2 := (blk_cell X0.out 2).trans rfl
  have b0 := (blk_cell X1.out 0).trans rfl
  have b1 := (blk_cell X1.out 1).trans rfl
  have b2 := (blk_cell X1.out 2).trans rfl
  go_enter Tryz.func6, Tryz.ntmps6
  go_wp2_with (fail)
  rw [← hW]
  refine (QF.out _ BB.out).mono ?_
  rintro e w1 ⟨rfl, hb⟩
  have X2 := Lib.hid (blk_below X0.out hb)
  have X3 := Lib.hid (blk_below X1.out hb)
  have BC := Lib.hid (below_next BB.out BB.out.size hb)
  clear hb a0 a1 a2 b0 b1 b2 X0 X1 BB hW QF
  have a2 := (blk_cell X2.out 2).trans rfl
  have b2 := (blk_cell X3.out 2).trans rfl
  go_wp2_with (fail)
  refine (QI.out _ BC.out).mono ?_
  rintro e w2 ⟨rfl, hb⟩
  have X4 := Lib.hid (blk_below X2.out hb)
  have X5 := Lib.hid (blk_below X3.out hb)
  have BD := Lib.hid (below_next BC.out BC.out.size hb)
  clear hb a2 b2 X2 X3 BC QI
  go_wp2
  go_loopw [5] (fun vk wr => ∃ (k : Nat), vk = .int .i64 k ∧ k ≤ b.f0.length ∧ Hid (Below w2.heap.size w2 wr)) (fun vk _ => b.f0.length - (intOf vk).toNat)
  case atStart => exact ⟨0, rfl, Nat.zero_le _, Below.refl _ _⟩
  case round =>
    obtain ⟨k, rfl, hk, HB⟩ := hrel
    obtain ⟨wa, rfl⟩ : ∃ wo : World, wo = wr := ⟨_, rfl⟩
    have a0 := (blk_cell (blk_below X4.out HB.out) 0).trans rfl
    have b0 := (blk_cell (blk_below X5.out HB.out) 0).trans rfl
    have HE := Lib.hid (below_next BD.out BD.out.size HB.out)
    by_cases hlt : k < b.f0.length
    · have j1 : (k : Int) < b.f0.length := by omega
      obtain ⟨ad, x, rfl, hx, x0, x1⟩ := capAt (Kd.C_below H0.out HE.out) k hlt
      obtain ⟨ad', x', rfl, hx', y0, y1⟩ := capAt (Kd.C_below H0'.out HE.out) k hlt
      obtain rfl : x = x' := Option.some.inj (hx.symm.trans hx')
      clear hx hx'
      go_wp2
      go_quiet (fail)
      go_wp2
      go_roundw
      case rel => exact ⟨k + 1, by go_num, hlt, pw_below_drewN HB.out _⟩
      case measure => simp [intOf]; omega
    · go_wp2
      go_ret
      exact ⟨rfl, HE.out⟩
end Go.Proofs.YthcpbojmalgdbaaGreat.Q
end
section
namespace Go.Proofs.YthcpbojmalgdbaaGreat.Q
open Go.RowKit Go.Proofs.YthcpbojmalgdbaaGreatW.PrintWords Go.Proofs.YthcpbojmalgdbaaGreatW.PrintLast Go.Proofs.YthcpbojmalgdbaaGreatW.PrintMore Go.Proofs.YthcpbojmalgdbaaGreat.Core
set_option linter.unusedVariables false
set_option linter.unusedSimpArgs false
theorem OwnB.form_D {w : World} {base n0 n1 n2 c0 c1 c2 : Nat} {A0 A1 A2 : Option Addr} {b : Book} (h : OwnB w base (.slice A0 n0 c0) (.slice A1 n1 c1) (.slice A2 n2 c2) b) : Kd.C k42 w A0 b.f0.length b.f0 ∧ Kd.C k47 w A1 b.f1.length b.f1 ∧ Kd.C (Kd.int .i64) w A2 b.f2.length b.f2 :=
  ⟨(Kd.R_reads' h.caps).2.2, (Kd.R_reads' (Kd.S_R h.flights)).2.2, (Kd.R_reads' h.slots).2.2⟩
structure BoxB (w : World) (base B : Nat) (v0 v1 v2 : Value) (b : Book) : Prop where
  box : w.heap[B]? = some (.cells #[v0, v1, v2] 27 (0, 0))
  book : OwnB w base v0 v1 v2 b
structure BoxF (w : World) (B : Nat) (f : Flight) (A : Option Addr) (c : Nat) : Prop where
  box : w.heap[B]? = some (.cells #[.string f.f0, .int .i64 f.f1, .int .i64 f.f2, .slice A f.f3.length c] 47 (0, 0))
  vis : Kd.C k58 w A f.f3.length f.f3
section
variable {w w1 : World} {base B : Nat} {v0 v1 v2 : Value} {b : Book} {f : Flight} {A : Option Addr} {c : Nat}
theorem BoxB.below (h : BoxB w base B v0 v1 v2 b) (hb : Below w.heap.size w w1) : BoxB w1 base B v0 v1 v2 b := ⟨blk_below h.box hb, h.book.below hb⟩
theorem BoxB.cells (h : BoxB w base B v0 v1 v2 b) : w.cell? ⟨B, 0, none⟩ = some v0 ∧ w.cell? ⟨B, 1, none⟩ = some v1 ∧ w.cell? ⟨B, 2, none⟩ = some v2 := ⟨(blk_cell h.box 0).trans rfl, (blk_cell h.box 1).trans rfl, (blk_cell h.box 2).trans rfl⟩
theorem BoxF.below (h : BoxF w B f A c) (hb : Below w.heap.size w w1) : BoxF w1 B f A c := ⟨blk_below h.box hb, Kd.C_below h.vis hb⟩
theorem BoxF.cells (h : BoxF w B f A c) : w.cell? ⟨B, 0, none⟩ = some (.string f.f0) ∧ w.cell? ⟨B, 1, none⟩ = some (.int .i64 f.f1) ∧ w.cell? ⟨B, 2, none⟩ = some (.int .i64 f.f2) ∧ w.cell? ⟨B, 3, none⟩ = some (.slice A f.f3.length c) :=
  ⟨(blk_cell h.box 0).trans rfl, (blk_cell h.box 1).trans rfl, (blk_cell h.box 2).trans rfl, (blk_cell h.box 3).trans rfl⟩
theorem OwnB.keepBut {g : Nat} (h : OwnB w base v0 v1 v2 b) (hk : KeepBut w w1 g none) (hg : g < base) : OwnB w1 base v0 v1 v2 b :=
  ⟨Kd.R_mono (R_keep (Kd.R_mono (Kd.R_bound h.caps) (fun k a => (by have := a.2.1; omega : k ≠ g))) hk (fun _ e => e)) (fun _ _ => trivial),
    Kd.S_mono (Kd.S_keep (Kd.S_mono (Kd.S_bound h.flights) (fun k a => (by have := a.2.1; omega : k ≠ g))) hk (fun _ e => e)) (fun _ _ => trivial),
    Kd.R_mono (R_keep (Kd.R_mono (Kd.R_bound h.slots) (fun k a => (by have := a.2.1; omega : k ≠ g))) hk (fun _ e => e)) (fun _ _ => trivial)⟩
theorem BoxB.keepBut {g : Nat} (h : BoxB w base B v0 v1 v2 b) (hk : KeepBut w w1 g none) (hg : g < base) (hne : B ≠ g) : BoxB w1 base B v0 v1 v2 b := ⟨keep_blk hk h.box hne, h.book.keepBut hk hg⟩
theorem OwnB.drewN (h : OwnB w base v0 v1 v2 b) (m : Nat) : OwnB (w.drewN m) base v0 v1 v2 b := h.below (pw_below_drewN (Below.refl _ _) m)
theorem BoxB.drewN (h : BoxB w base B v0 v1 v2 b) (m : Nat) : BoxB (w.drewN m) base B v0 v1 v2 b := h.below (pw_below_drewN (Below.refl _ _) m)
theorem BoxB.put {u0 u1 u2 : Value} {c : Book} (h : BoxB w base B v0 v1 v2 b) (h' : OwnB w base u0 u1 u2 c) : BoxB (((w.setCell ⟨B, 0, none⟩ u0).setCell ⟨B, 1, none⟩ u1).setCell ⟨B, 2, none⟩ u2) base B u0 u1 u2 c := by
  have c1 := blk_set h.box 0 u0
  have c2 := blk_set c1 1 u1
  exact ⟨blk_set c2 2 u2, (((h'.cell h.box 0 u0).cell c1 1 u1).cell c2 2 u2)⟩
theorem keep_put {g : Nat} (h : KeepBut w w1 g none) (hB : w.heap.size ≤ B) (u0 u1 u2 : Value) : KeepBut w (((w1.setCell ⟨B, 0, none⟩ u0).setCell ⟨B, 1, none⟩ u1).setCell ⟨B, 2, none⟩ u2) g none :=
  keep_set (keep_set (keep_set h (q := ⟨B, 0, none⟩) hB u0) (q := ⟨B, 1, none⟩) hB u1) (q := ⟨B, 2, none⟩) hB u2
theorem Rdr.put {w0 : World} {g : Nat} {bs : List Int} {p : Int} (h : Rdr w0 w g bs p) (hne : g ≠ B) (hB : w0.heap.size ≤ B) (u0 u1 u2 : Value) : Rdr w0 (((w.setCell ⟨B, 0, none⟩ u0).setCell ⟨B, 1, none⟩ u1).setCell ⟨B, 2, none⟩ u2) g bs p :=
  ((h.far (q := ⟨B, 0, none⟩) hne hB u0).far (q := ⟨B, 1, none⟩) hne hB u1).far (q := ⟨B, 2, none⟩) hne hB u2
theorem blk_put3 {o : Obj} {r : Nat} (h : w.heap[r]? = some o) (hne : r ≠ B) (u0 u1 u2 : Value) : (((w.setCell ⟨B, 0, none⟩ u0).setCell ⟨B, 1, none⟩ u1).setCell ⟨B, 2, none⟩ u2).heap[r]? = some o :=
  (Below.heap_setCell _ ⟨B, 2, none⟩ u2 r hne).trans ((Below.heap_setCell _ ⟨B, 1, none⟩ u1 r hne).trans ((Below.heap_setCell _ ⟨B, 0, none⟩ u0 r hne).trans h))
theorem BoxB.made (h : OwnB w base v0 v1 v2 b) : BoxB (w.alloc (.cells #[v0, v1, v2] 27)) base w.heap.size v0 v1 v2 b := ⟨blk_new _ _, h.below (below_alloc (Below.refl _ _) _)⟩
theorem BoxF.made (h : Kd.C k58 w A f.f3.length f.f3) : BoxF (w.alloc (.cells #[.string f.f0, .int .i64 f.f1, .int .i64 f.f2, .slice A f.f3.length c] 47)) w.heap.size f A c := ⟨blk_new _ _, Kd.C_below h (below_alloc (Below.refl _ _) _)⟩
end
end Go.Proofs.YthcpbojmalgdbaaGreat.Q
end
section
namespace Go.Proofs.YthcpbojmalgdbaaGreat.Q
open Go.RowKit Go.Proofs.YthcpbojmalgdbaaGreatW.PrintWords Go.Proofs.YthcpbojmalgdbaaGreatW.PrintLast Go.Proofs.YthcpbojmalgdbaaGreatW.PrintMore Go.Proofs.YthcpbojmalgdbaaGreat.Core
set_option linter.unusedVariables false
set_option linter.unusedSimpArgs false
theorem capValW {a b c d : Int} (ha : 0 ≤ a ∧ a < 3) (hb : 0 ≤ b ∧ b < 2) (hc : 0 ≤ c ∧ c < 2) (hd : 0 ≤ d ∧ d < 2) :
    0 ≤ IntKind.i64.wrap (IntKind.i64.wrap (1 + a) - IntKind.i64.wrap (IntKind.i64.wrap (b * c) * d)) ∧ IntKind.i64.wrap (IntKind.i64.wrap (1 + a) - IntKind.i64.wrap (IntKind.i64.wrap (b * c) * d)) ≤ 20 := by
  have h1 : b = 0 ∨ b = 1 := by omega
  have h2 : c = 0 ∨ c = 1 := by omega
  have h3 : d = 0 ∨ d = 1 := by omega
  have e1 : IntKind.i64.wrap (1 + a) = 1 + a := IntWalk.i64_in _ (by omega)
  have e2 : IntKind.i64.wrap (b * c) = b * c := IntWalk.i64_in _ (by rcases h1 with rfl | rfl <;> rcases h2 with rfl | rfl <;> decide)
  have e3 : IntKind.i64.wrap (b * c * d) = b * c * d := IntWalk.i64_in _ (by rcases h1 with rfl | rfl <;> rcases h2 with rfl | rfl <;> rcases h3 with rfl | rfl <;> decide)
  have h4 := capVal ha hb hc hd
  have e4 : IntKind.i64.wrap (1 + a - b * c * d) = 1 + a - b * c * d := IntWalk.i64_in _ (by omega)
  rw [e1, e2, e3, e4]
  exact h4
set_option maxRecDepth 100000 in
set_option maxHeartbeats 4000000 in
theorem capsOk_any {w0 w : World} {g : Nat} {bs : List Int} {p : Int} (h : Rdr w0 w g bs p) (hp : p ≤ 800000) :
    Calls Tryz.prog 52 #[.pointer (some ⟨g, 0, none⟩)] w fun e w' => ∃ v l p', p ≤ p' ∧ p' ≤ p + 15 ∧ capsB l = true ∧ l.length ≤ 3 ∧ e = .returned v ∧ Kd.R k42 42 w' w.heap.size (fun _ => True) v l ∧ Rdr w0 w' g bs p' ∧ KeepBut w w' g none := by
  have hgl := h.lt
  have h0w := h.hb.size
  have H := Lib.hid h
  clear h
  go_enter Tryz.func52, Tryz.ntmps52
  go_wp2
  go_loopw [3, 5] (fun x vk wr => ∃ (k : Nat) (vs : List Cap) (q : Int), vk = .int .i64 k ∧ k ≤ 3 ∧ CapsTo k vs ∧ p ≤ q ∧ q ≤ p + 5 * (k : Int) ∧ Hid (Rdr w0 wr g bs q) ∧ Hid (Kd.R k42 42 wr w.heap.size (fun j => j ≠ g ∧ j ≠ w.heap.size + 1) x vs) ∧
      Hid (wr.heap[w.heap.size + 1]? = some (.cells #[.string ⟨#[101]⟩, .string ⟨#[110, 45, 49]⟩, .string ⟨#[119]⟩] 9 (0, 0))) ∧ Hid (KeepBut w wr g none) ∧ w.heap.size + 2 ≤ wr.heap.size) (fun _ vk _ => 3 - (intOf vk).toNat)
  case atStart =>
    refine ⟨0, [], p, rfl, by omega, CapsTo.nil 0, Int.le_refl _, by omega, (H.out.alloc _).alloc _, Kd.R_alloc (Kd.R_mono (Kd.R_bound (R_madeF k42 w 42 (by decide))) (fun j hj => ?_)) _, ?_, keep_al (keep_al (KeepBut.refl w g none) _) _, by simp⟩
    · have h1 := hj.2.1
      have h2 := hj.2.2.1
      simp at h2
      exact ⟨by omega, by omega⟩
    · have t := blk_new (w.alloc (.cells #[] 42)) (.cells #[.string ⟨#[101]⟩, .string ⟨#[110, 45, 49]⟩, .string ⟨#[119]⟩] 9)
      rwa [show (w.alloc (.cells #[] 42)).heap.size = w.heap.size + 1 by simp] at t
  case round =>
    clear H
    obtain ⟨k, vs, q, rfl, hk, hvk, hq0, hq1, HD, HO, HL, HK, hsz⟩ := hrel
    have HC := Lib.hid hvk
    clear hvk
    have hvk := HC.out.1
    obtain ⟨Ax, cx, rfl⟩ := Kd.R_slice HO.out
    by_cases hlt : k < 3
    · have j1 : (k : Int) < 3 := by omega
      go_wp2_with (fail)
      refine (pick_any HD.out 4 (by omega) (by omega) (by omega)).mono ?_
      rintro e w3 ⟨r, a3, b3, rfl, h3, k3⟩
      have z3 := k3.1
      have HO3 := Lib.hid (R_keep HO.out k3 (fun j hj => hj.1))
      have HL3 := Lib.hid (keep_blk k3 HL.out (by omega))
      have HK3 := Lib.hid (HK.out.trans k3 (.inl rfl))
      have H3 := Lib.hid h3
      clear h3 k3 HO HL HK HD
      by_cases hr : 0 < r
      · have e1 : decide (0 < r) = true := decide_eq_true hr
        obtain ⟨nm, hnk, hnm⟩ : ∃ nm, nm = capNm k ∧ w3.cell? ⟨w.heap.size + 1, k, none⟩ = some (.string nm) := by
          have h : k = 0 ∨ k = 1 ∨ k = 2 := by omega
          rcases h with rfl | rfl | rfl
          · exact ⟨_, rfl, (blk_cell HL3.out 0).trans rfl⟩
          · exact ⟨_, rfl, (blk_cell HL3.out 1).trans rfl⟩
          · exact ⟨_, rfl, (blk_cell HL3.out 2).trans rfl⟩
        have HNK := Lib.hid hnk
        clear hnk
        have hL4 : Hid (w3.drew.heap[w.heap.size + 1]? = some (.cells #[.string ⟨#[101]⟩, .string ⟨#[110, 45, 49]⟩, .string ⟨#[119]⟩] 9 (0, 0))) := HL3.out
        have H4 : Hid (Rdr w0 w3.drew g bs (q + 1)) := H3.out.drewN 1
        have HO4 := Lib.hid (Kd.R_drewN HO3.out 1)
        have HK4 : Hid (KeepBut w w3.drew g none) := HK3.out
        have hne1 : w.heap.size + 1 ≠ g := by omega
        have jq : Hid (q + 1 + 1 + 1 + 1 ≤ 1000000) := by show _ ≤ _; omega
        clear H3 HO3 HL3 HK3
        go_wp2
        go_region_held3 (fun W' => W'.cell? ⟨w.heap.size + 1, k, none⟩ = some (.string nm)) (first | assumption | go_keep) (first
          | (refine Kd.R_append_step k42 (w0 := w8) w.heap.size (by rfl) _ _ 23 42 (.agg #[.string ByteArray.empty, .int .i64 0]) 24 (by rfl) Tryz.underlying23 infoCap rfl (by decide) (by decide) (.slice Ax vs.length cx) vs (⟨nm, _⟩ : Cap) [.string nm, .int .i64 _] (fun j => j ≠ g ∧ j ≠ w.heap.size + 1) (fun _ => False) (by rfl) (by rfl) (k42_mkM _ _ _ (⟨nm, _⟩ : Cap)) (fun _ h => h.elim) (fun j hj => ⟨by omega, by omega⟩) HO8.out (Below.refl _ _) (by omega) (by omega) ?_; intro v1 w9 ho9 hb9 hg9 hat9; have hoW : ∀ j, (Value.slice Ax vs.length cx).ownBlock = some j → w.heap.size ≤ j ∧ j ≠ g ∧ j ≠ w.heap.size + 1 := (fun j hj => ⟨Kd.R_base HO8.out j hj, HO8.out.1 j hj⟩); have c9 : w9.cell? ⟨w.heap.size + 1, k, none⟩ = some (.string nm) := pw_keep_cellR (KeepBut.of_grown hg9 g) hne1 (fun e => (hoW _ e.symm).2.2 rfl) c8; have HO9 := Lib.hid ho9; have HG9 := Lib.hid hg9; have HW9 := Lib.hid hoW; clear ho9 hb9 hg9 hat9 hoW)
          | (go_at_call 19; refine (pick_any H7.out 2 (by have := jq.out; omega) (by omega) (by omega)).mono ?_; rintro e w8 ⟨s8, a8, b8, rfl, h8, k8⟩; have c8 : w8.cell? ⟨w.heap.size + 1, k, none⟩ = some (.string nm) := (pw_keep_cell k8 hne1 c7 : _); have H8 := Lib.hid h8; have HO8 := Lib.hid (R_keep (R_keep (R_keep (R_keep HO4.out K5.out (fun j hj => hj.1)) K6.out (fun j hj => hj.1)) K7.out (fun j hj => hj.1)) k8 (fun j hj => hj.1)); have z5 : w3.heap.size ≤ w5.heap.size := K5.out.1; have z6 := K6.out.1; have z7 := K7.out.1; have z8 := k8.1; have HK8 : Hid (KeepBut w w8 g none) := (((HK4.out.trans K5.out (.inl rfl)).trans K6.out (.inl rfl)).trans K7.out (.inl rfl)).trans k8 (.inl rfl); have HL8 := Lib.hid (keep_blk k8 (keep_blk K7.out (keep_blk K6.out (keep_blk K5.out hL4.out hne1) hne1) hne1) hne1); clear h8 k8)
          | (go_at_call 19; refine (pick_any H6.out 2 (by have := jq.out; omega) (by omega) (by omega)).mono ?_; rintro e w7 ⟨s7, a7, b7, rfl, h7, k7⟩; have c7 : w7.cell? ⟨w.heap.size + 1, k, none⟩ = some (.string nm) := (pw_keep_cell k7 hne1 c6 : _); have H7 := Lib.hid h7; have K7 := Lib.hid k7; clear h7 k7)
          | (go_at_call 19; refine (pick_any H5.out 2 (by have := jq.out; omega) (by omega) (by omega)).mono ?_; rintro e w6 ⟨s6, a6, b6, rfl, h6, k6⟩; have c6 : w6.cell? ⟨w.heap.size + 1, k, none⟩ = some (.string nm) := (pw_keep_cell k6 hne1 c5 : _); have H6 := Lib.hid h6; have K6 := Lib.hid k6; clear h6 k6)
          | (go_at_call 19; refine (pick_any H4.out 3 (by have := jq.out; omega) (by omega) (by omega)).mono ?_; rintro e w5 ⟨s5, a5, b5, rfl, h5, k5⟩; have c5 : w5.cell? ⟨w.heap.size + 1, k, none⟩ = some (.string nm) := (pw_keep_cell k5 hne1 hnm : _); have H5 := Lib.hid h5; have K5 := Lib.hid k5; clear h5 k5))
        have z9 := HG9.out.size
        go_wp2
        go_roundw
        case rel =>
          refine ⟨k + 1, _, q + 1 + 1 + 1 + 1 + 1, by go_num, hlt, HC.out.step hlt HNK.out ?_ ?_, by omega, by omega, H8.out.grown HG9.out (fun e => (HW9.out _ e.symm).2.1 rfl) (fun j hj => by have := (HW9.out j hj).1; omega), HO9.out, blk_grown HL8.out HG9.out (fun e => (HW9.out _ e.symm).2.2 rfl), keep_gr HK8.out HG9.out (fun j hj => (HW9.out j hj).1), by omega⟩
          · exact (capValW ⟨a5, b5⟩ ⟨a6, b6⟩ ⟨a7, b7⟩ ⟨a8, b8⟩).1
          · exact (capValW ⟨a5, b5⟩ ⟨a6, b6⟩ ⟨a7, b7⟩ ⟨a8, b8⟩).2
        case measure => simp [intOf]; omega
      · have e1 : decide (0 < r) = false := decide_eq_false hr
        go_wp2
        go_roundw
        case rel => exact ⟨k + 1, vs, q + 1, by go_num, hlt, HC.out.skip, by omega, by omega, H3.out, HO3.out, HL3.out, HK3.out, by omega⟩
        case measure => simp [intOf]; omega
    · go_wp2
      go_ret
      have e3 : k = 3 := by omega
      have h3 := HC.out
      rw [e3] at h3
      exact ⟨_, vs, q, hq0, by omega, h3.ok, by omega, rfl, Kd.R_mono HO.out (fun _ _ => trivial), HD.out, HK.out⟩
end Go.Proofs.YthcpbojmalgdbaaGreat.Q
end
section
namespace Go.Proofs.YthcpbojmalgdbaaGreat.Q
open Go.RowKit Go.Proofs.YthcpbojmalgdbaaGreatW.PrintWords Go.Proofs.YthcpbojmalgdbaaGreatW.PrintLast Go.Proofs.YthcpbojmalgdbaaGreatW.PrintMore Go.Proofs.YthcpbojmalgdbaaGreat.Core
set_option linter.unusedVariables false
set_option linter.unusedSimpArgs false
set_option maxRecDepth 100000 in
set_option maxHeartbeats 4000000 in
theorem nameOf_any {w0 w : World} {g : Nat} {bs : List Int} {p : Int} (h : Rdr w0 w g bs p) (hp : p ≤ 900000) {vN : Value} {names : List ByteArray} {base : Nat} (hl : names.length = 8) (hN : Kd.R Kd.string 9 w base (fun _ => True) vN names) (hb : g < base) :
    Calls Tryz.prog 54 #[.pointer (some ⟨g, 0, none⟩), vN] w fun e w' => ∃ s, e = .returned (.string s) ∧ Rdr w0 w' g bs (p + 1) ∧ KeepBut w w' g none := by
  obtain ⟨AN, cN, rfl⟩ := Kd.R_slice hN
  exact of_any h AN cN names (Kd.R_reads' hN).2.2 (Kd.R_reads' hN).2.1 (fun ad e _ => by have := Kd.R_base hN ad.block (by rw [e]; rfl); omega) (by omega) (by omega) (by omega)
end Go.Proofs.YthcpbojmalgdbaaGreat.Q
end
section
namespace Go.Proofs.YthcpbojmalgdbaaGreat.Q
open Go.RowKit Go.Proofs.YthcpbojmalgdbaaGreatW.PrintWords Go.Proofs.YthcpbojmalgdbaaGreatW.PrintLast Go.Proofs.YthcpbojmalgdbaaGreatW.PrintMore Go.Proofs.YthcpbojmalgdbaaGreat.Core
set_option linter.unusedVariables false
set_option linter.unusedSimpArgs false
theorem slotF_cons (n : ByteArray) (f : Flight) (l : List Flight) (x : Int) (s : List Int) : slotF n (f :: l) (x :: s) = if f.f0 = n then x else slotF n l s := rfl
theorem drop_cons {α : Type} {l : List α} {k : Nat} {x : α} (h : l[k]? = some x) : l.drop k = x :: l.drop (k + 1) := by
  have hk := some_lt h
  rw [List.drop_eq_getElem_cons hk]
  rw [List.getElem?_eq_getElem hk] at h
  rw [Option.some.inj h]
set_option maxRecDepth 100000 in
set_option maxHeartbeats 4000000 in
theorem wSlot_any (v0 : Value) (A : Option Addr) (c : Nat) (l : List Flight) (A2 : Option Addr) (c2 : Nat) (s : List Int) (n : ByteArray) (w : World) (hr : Kd.C k47 w A l.length l) (hr2 : Kd.C (Kd.int .i64) w A2 s.length s) (hl : l.length ≤ s.length) :
    Calls Tryz.prog 30 #[.agg #[v0, .slice A l.length c, .slice A2 s.length c2], .string n] w fun e w' => e = .returned (.int .i64 (slotF n l s)) ∧ Below w.heap.size w w' := by
  have HR := Lib.hid hr
  have HS := Lib.hid hr2
  have HL := Lib.hid hl
  have hnn : l.length ≤ 9223372036854775807 := hr.2.1
  clear hr hr2 hl
  go_enter Tryz.func30, Tryz.ntmps30
  go_wp2
  go_loopw [5] (fun vk wr => ∃ (k : Nat), vk = .int .i64 k ∧ k ≤ l.length ∧ Hid (slotF n l s = slotF n (l.drop k) (s.drop k)) ∧ Hid (Below w.heap.size w wr) ∧ wr.cell? ⟨w.heap.size, 1, none⟩ = some (.slice A l.length c) ∧ wr.cell? ⟨w.heap.size, 2, none⟩ = some (.slice A2 s.length c2)) (fun vk _ => l.length - (intOf vk).toNat)
  case atStart => exact ⟨0, rfl, Nat.zero_le _, rfl, below_alloc (Below.refl _ _) _, (blk_cell (blk_new w (.cells #[v0, .slice A l.length c, .slice A2 s.length c2] 27)) 1).trans rfl, (blk_cell (blk_new w (.cells #[v0, .slice A l.length c, .slice A2 s.length c2] 27)) 2).trans rfl⟩
  case round =>
    obtain ⟨k, rfl, hk, HA, HB, hc, hc2⟩ := hrel
    by_cases hlt : k < l.length
    · have j1 : (k : Int) < l.length := by omega
      have hks : k < s.length := Nat.lt_of_lt_of_le hlt HL.out
      have j2 : (k : Int) < s.length := by omega
      obtain ⟨ad, f, A3, c3, rfl, hf, f0, f1, f2, f3, hl3, hr3⟩ := flightAt (Kd.C_below HR.out HB.out) k hlt
      obtain ⟨ad2, x, rfl, hx, x0⟩ := intAt (Kd.C_below HS.out HB.out) k hks
      have HA2 := HA.out
      rw [drop_cons hf, drop_cons hx, slotF_cons] at HA2
      by_cases hq : f.f0 = n
      · rw [if_pos hq] at HA2
        have e1 := str_same hq
        have HA3 := Lib.hid HA2
        have HQ := Lib.hid hq
        clear HA2 HA hq hf hx
        go_wp2
        go_ret
        exact ⟨ret_int HA3.out.symm, HB.out⟩
      · rw [if_neg hq] at HA2
        have e1 := str_other hq
        have HA3 := Lib.hid HA2
        clear HA2 HA hf hx
        go_wp2
        go_roundw
        case rel => exact ⟨k + 1, by go_num, hlt, HA3.out, HB.out, hc, hc2⟩
        case measure => simp [intOf]; omega
    · have HA2 := HA.out
      rw [List.drop_eq_nil_of_le (by omega)] at HA2
      have HA3 : Hid (slotF n l s = -2) := HA2.trans (by unfold slotF; rfl)
      clear HA2 HA
      go_wp2
      go_ret
      exact ⟨ret_int HA3.out.symm, HB.out⟩
def noFrom (a b : Book) (k : Nat) : Bool := ((b.f1.zip b.f2).drop k).all fun p => !laterP a.f1 a.f2 p
theorem noFrom_step {a b : Book} {k : Nat} {f : Flight} {x : Int} (hf : b.f1[k]? = some f) (hx : b.f2[k]? = some x) : noFrom a b k = (!laterP a.f1 a.f2 (f, x) && noFrom a b (k + 1)) := by
  unfold noFrom
  rw [drop_cons (List.getElem?_zip_eq_some.2 ⟨hf, hx⟩ : (b.f1.zip b.f2)[k]? = some (f, x)), List.all_cons]
theorem noFrom_end {a b : Book} {k : Nat} (h : b.f1.length ≤ k) : noFrom a b k = true := by
  unfold noFrom
  rw [List.drop_eq_nil_of_le (by rw [List.length_zip]; omega)]
  rfl
set_option maxRecDepth 100000 in
set_option maxHeartbeats 4000000 in
theorem wNoLater_any (A0 A1 A2 B0 B1 B2 : Option Addr) (c0 c1 c2 d0 d1 d2 : Nat) (a b : Book) (w : World) (r0 : Kd.C k42 w A0 a.f0.length a.f0) (r1 : Kd.C k47 w A1 a.f1.length a.f1) (r2 : Kd.C (Kd.int .i64) w A2 a.f2.length a.f2)
    (s0 : Kd.C k42 w B0 b.f0.length b.f0) (s1 : Kd.C k47 w B1 b.f1.length b.f1) (s2 : Kd.C (Kd.int .i64) w B2 b.f2.length b.f2) (ha : a.f1.length ≤ a.f2.length) (hb : b.f1.length ≤ b.f2.length) :
    Calls Tryz.prog 11 #[.agg #[.slice A0 a.f0.length c0, .slice A1 a.f1.length c1, .slice A2 a.f2.length c2], .agg #[.slice B0 b.f0.length d0, .slice B1 b.f1.length d1, .slice B2 b.f2.length d2]] w fun e w' => e = .returned (.bool (noLB a b)) ∧ Below w.heap.size w w' := by
  have QS := Lib.hid (fun (V : World) (n : ByteArray) (h : Below w.heap.size w V) => wSlot_any (.slice A0 a.f0.length c0) A1 c1 a.f1 A2 c2 a.f2 n V (Kd.C_below r1 h) (Kd.C_below r2 h) ha)
  have HS1 := Lib.hid s1
  have HS2 := Lib.hid s2
  have HL := Lib.hid hb
  have hnn : b.f1.length ≤ 9223372036854775807 := s1.2.1
  obtain ⟨W, hW⟩ : ∃ W, W = (w.alloc (.cells #[.slice A0 a.f0.length c0, .slice A1 a.f1.length c1, .slice A2 a.f2.length c2] 27)).alloc (.cells #[.slice B0 b.f0.length d0, .slice B1 b.f1.length d1, .slice B2 b.f2.length d2] 27) := ⟨_, rfl⟩
  have BB : Hid (Below w.heap.size w W) := by rw [hW]; exact below_alloc (below_alloc (Below.refl _ _) _) _
  have X0 : Hid (W.heap[w.heap.size]? = some (.cells #[.slice A0 a.f0.length c0, .slice A1 a.f1.length c1, .slice A2 a.f2.length c2] 27 (0, 0))) := by rw [hW]; exact blk_alloc (blk_new w _) _
  have X1 : Hid (W.heap[w.heap.size + 1]? = some (.cells #[.slice B0 b.f0.length d0, .slice B1 b.f1.length d1, .slice B2 b.f2.length d2] 27 (0, 0))) := by
    have t := blk_new (w.alloc (.cells #[.slice A0 a.f0.length c0, .slice A1 a.f1.length c1, .slice A2 a.f2.length c2] 27)) (.cells #[.slice B0 b.f0.length d0, .slice B1 b.f1.length d1, .slice B2 b.f2.length d2] 27)
    rw [World.size_alloc] at t
    rw [hW]
    exact t
  have HN : Hid (noLB a b = noFrom a b 0) := (rfl : noLB a b = noFrom a b 0)
  clear r0 r1 r2 s0 s1 s2 ha hb
  go_enter Tryz.func11, Tryz.ntmps11
  go_wp2
  rw [← hW]
  clear hW
  go_loopw [5] (fun vk wr => ∃ (k : Nat), vk = .int .i64 k ∧ k ≤ b.f1.length ∧ Hid (noLB a b = noFrom a b k) ∧ Hid (Below W.heap.size W wr)) (fun vk _ => b.f1.length - (intOf vk).toNat)
  case atStart => exact ⟨0, rfl, Nat.zero_le _, HN, Below.refl _ _⟩
  case round =>
    clear HN
    obtain ⟨k, rfl, hk, HN, HB⟩ := hrel
    obtain ⟨wa, rfl⟩ : ∃ wo : World, wo = wr := ⟨_, rfl⟩
    have Y0 := Lib.hid (blk_below X0.out HB.out)
    have Y1 := Lib.hid (blk_below X1.out HB.out)
    have HE := Lib.hid (below_next BB.out BB.out.size HB.out)
    have a0 := (blk_cell Y0.out 0).trans rfl
    have a1 := (blk_cell Y0.out 1).trans rfl
    have a2 := (blk_cell Y0.out 2).trans rfl
    have b1 := (blk_cell Y1.out 1).trans rfl
    have b2 := (blk_cell Y1.out 2).trans rfl
    by_cases hlt : k < b.f1.length
    · have j1 : (k : Int) < b.f1.length := by omega
      have hks : k < b.f2.length := Nat.lt_of_lt_of_le hlt HL.out
      have j2 : (k : Int) < b.f2.length := by omega
      obtain ⟨ad, f, A3, c3, rfl, hf, f0, f1, f2, f3, hl3, hr3⟩ := flightAt (Kd.C_below HS1.out HE.out) k hlt
      obtain ⟨ad2, x, rfl, hx, x0⟩ := intAt (Kd.C_below HS2.out HE.out) k hks
      have HST := Lib.hid (HN.out.trans (noFrom_step hf hx))
      have QJ := Lib.hid (fun (u : After wa) => QS.out u.w f.f0 (below_next HE.out HE.out.size u.hb))
      have m0 := After.cell a0
      have m1 := After.cell a1
      have m2 := After.cell a2
      have m3 := After.cell b1
      have m4 := After.cell f0
      have m5 := After.cell b2
      have m6 := After.cell x0
      obtain ⟨t, ht⟩ : ∃ t, t = slotF f.f0 a.f1 a.f2 := ⟨_, rfl⟩
      rw [← ht] at QJ
      have HT := Lib.hid ht
      clear hf hx ht f1 f2 f3 hl3 hr3 HN
      go_wp2
      refine wp_region_after (by kernel_rfl) (by kernel_rfl) ?_
      repeat (go_big_quiet_step (first | (go_at_call 30; exact calls_after (QJ.out _))))
      refine wpQuiet_nil ?_
      intro _ hw'
      obtain ⟨u, hw''⟩ := hw'
      subst hw''
      by_cases h0 : 0 ≤ t
      · have e1 : decide (0 ≤ t) = true := decide_eq_true h0
        by_cases h1 : x < 0
        · have e2 : decide (x < 0) = true := decide_eq_true h1
          have HV : Hid (laterP a.f1 a.f2 (f, x) = true) := by show _ = _; unfold laterP; dsimp only; rw [← HT.out, e1, e2]; rfl
          go_wp2
          go_ret
          exact ⟨ret_bool (by rw [HST.out, HV.out]; rfl), below_next HE.out HE.out.size u.hb⟩
        · have e2 : decide (x < 0) = false := decide_eq_false h1
          by_cases h2 : t < x
          · have e3 : decide (t < x) = true := decide_eq_true h2
            have HV : Hid (laterP a.f1 a.f2 (f, x) = true) := by show _ = _; unfold laterP; dsimp only; rw [← HT.out, e1, e2, e3]; rfl
            go_wp2
            go_ret
            exact ⟨ret_bool (by rw [HST.out, HV.out]; rfl), below_next HE.out HE.out.size u.hb⟩
          · have e3 : decide (t < x) = false := decide_eq_false h2
            have HV : Hid (laterP a.f1 a.f2 (f, x) = false) := by show _ = _; unfold laterP; dsimp only; rw [← HT.out, e1, e2, e3]; rfl
            go_wp2
            go_roundw
            case rel => exact ⟨k + 1, by go_num, hlt, by show _ = _; rw [HST.out, HV.out]; rfl, below_next HB.out HB.out.size u.hb⟩
            case measure => simp [intOf]; omega
      · have e1 : decide (0 ≤ t) = false := decide_eq_false h0
        have HV : Hid (laterP a.f1 a.f2 (f, x) = false) := by show _ = _; unfold laterP; dsimp only; rw [← HT.out, e1]; rfl
        go_wp2
        go_roundw
        case rel => exact ⟨k + 1, by go_num, hlt, by show _ = _; rw [HST.out, HV.out]; rfl, below_next HB.out HB.out.size u.hb⟩
        case measure => simp [intOf]; omega
    · have HV : Hid (noFrom a b k = true) := noFrom_end (by omega)
      go_wp2
      go_ret
      exact ⟨ret_bool (by rw [HN.out, HV.out]), HE.out⟩
end Go.Proofs.YthcpbojmalgdbaaGreat.Q
end
