/- Merged out of this seat's own texts: Ds, Dt. -/
import Derived.Test.YtkfoeplefajkcaaMgD
import Derived.Test.YtkfoeplefajkcaaMgG

/- Contracts: drawn slots. -/
section
namespace Go.Proofs.Ytkfoeplefajkcaa.Q
open Go.RowKit Go.Proofs.YtkfoeplefajkcaaW.PrintWords Go.Proofs.YtkfoeplefajkcaaW.PrintLast Go.Proofs.YtkfoeplefajkcaaW.PrintMore Go.Proofs.Ytkfoeplefajkcaa.Core
set_option linter.unusedVariables false
set_option linter.unusedSimpArgs false

def okT (n : Int) (s : List Int) : Prop := ∀ x ∈ s, -n ≤ x ∧ x ≤ 10100 + n
abbrev okS (s : List Int) : Prop := okT 1000 s
theorem okT_mono {n m : Int} {s : List Int} (h : okT n s) (hm : n ≤ m) : okT m s := fun x hx => by have := h x hx; omega
theorem okT_app {n : Int} {s : List Int} {x : Int} (h : okT n s) (h0 : -n ≤ x) (h1 : x ≤ 10100 + n) : okT n (s ++ [x]) := fun y hy => by
  rcases List.mem_append.1 hy with hy | hy
  · exact h y hy
  · rw [List.mem_singleton.1 hy]; exact ⟨h0, h1⟩
theorem okT_set {n : Int} {s : List Int} {x : Int} {k : Nat} (h : okT n s) (h0 : -n ≤ x) (h1 : x ≤ 10100 + n) : okT n (s.set k x) := fun y hy => by
  rcases List.mem_or_eq_of_mem_set hy with hy | rfl
  · exact h y hy
  · exact ⟨h0, h1⟩
theorem lit5i (x : Int) (h0 : -600 ≤ x) (h1 : x ≤ 10700) (j : Nat) (hj : (j : Int) < 5) : ∃ q : Int, (-1000 ≤ q ∧ q ≤ 11100) ∧ (#[Value.int .i64 (-1), Value.int .i64 (x + 1), Value.int .i64 (x - 1), Value.int .i64 (-2), Value.int .i64 10061] : Array Value)[j]? = some (.int .i64 q) := by
  have h : j = 0 ∨ j = 1 ∨ j = 2 ∨ j = 3 ∨ j = 4 := by omega
  rcases h with rfl | rfl | rfl | rfl | rfl
  · exact ⟨_, by omega, rfl⟩
  · exact ⟨x + 1, by omega, rfl⟩
  · exact ⟨x - 1, by omega, rfl⟩
  · exact ⟨_, by omega, rfl⟩
  · exact ⟨_, by omega, rfl⟩
theorem giveB_okS (caps : List Cap) (fl : List Flight) : okT 600 (giveB caps fl) ∧ (giveB caps fl).length ≤ fl.length := by
  cases hc : capsB caps with
  | false => unfold giveB; rw [hc]; exact ⟨fun x hx => by simp at hx, by simp⟩
  | true =>
    cases hf : flightsB fl with
    | false => unfold giveB; rw [hc, hf]; exact ⟨fun x hx => by simp at hx, by simp⟩
    | true =>
      obtain ⟨_, hs, _, _⟩ := fitsB_parts (giveB_fits hc hf)
      obtain ⟨_, hl, hv⟩ := slotsB_parts hs
      exact ⟨fun x hx => by have := hv x hx; omega, by omega⟩

set_option maxRecDepth 100000 in
set_option maxHeartbeats 8000000 in
theorem slotsOf_any {w0 w : World} {g : Nat} {bs : List Int} {p : Int} (h : Rdr w0 w g bs p) (hp : p ≤ 600000) (A1 : Option Addr) (c1 : Nat) (caps : List Cap) (A2 : Option Addr) (c2 : Nat) (fl : List Flight) {b1 b2 : Nat}
    (ho1 : Kd.R k99 99 w b1 (fun j => j ≠ g) (.slice A1 caps.length c1) caps) (ho2 : Kd.R k61 61 w b2 (fun j => j ≠ g) (.slice A2 fl.length c2) fl) (hfl : fl.length ≤ 8) (hsm : ∀ f ∈ fl, smallL f) :
    Calls Try.prog 130 #[.pointer (some ⟨g, 0, none⟩), .slice A1 caps.length c1, .slice A2 fl.length c2] w fun e w' => ∃ (v : Value) (s : List Int) (p' : Int), p ≤ p' ∧ p' ≤ p + 40 ∧ s.length ≤ 9 ∧ okS s ∧
      e = .returned v ∧ Kd.R (Kd.int .i64) 3 w' w.heap.size (fun j => j ≠ g) v s ∧ Rdr w0 w' g bs p' ∧ KeepBut w w' g none := by
  have hgl := h.lt
  have h0w := h.hb.size
  have H := Lib.hid h
  have HC := Lib.hid ho1
  have HF := Lib.hid ho2
  have HSM := Lib.hid hsm
  clear h ho1 ho2 hsm
  go_enter Try.func130, Try.ntmps130
  go_wp2_with (fail)
  refine (spec_give_any A1 c1 caps A2 c2 fl _ (Kd.R_reads' HC.out).2.2 (Kd.R_reads' HF.out).2.2).mono ?_
  rintro e w2 ⟨v, rfl, ho, hb⟩
  obtain ⟨AS, cS, rfl⟩ := Kd.R_slice ho
  obtain ⟨hsb, hsl⟩ := giveB_okS caps fl
  obtain ⟨sl, hsle⟩ : ∃ sl, sl = giveB caps fl := ⟨_, rfl⟩
  rw [← hsle] at ho hsb hsl ⊢
  have HSB := Lib.hid hsb
  have HS2 := Lib.hid (Kd.R_mono (Kd.R_bound ho) (fun j hj => (by have := hj.2.1; omega : j ≠ g)))
  have HF2 : Hid (Kd.R k61 61 w2 b2 (fun j => j ≠ g ∧ j < w.heap.size) (.slice A2 fl.length c2) fl) := Kd.R_below (Kd.R_mono (Kd.R_bound HF.out) (fun j hj => ⟨hj.1, hj.2.2.1⟩)) hb
  have H2 := Lib.hid (H.out.below hb)
  have K2 := Lib.hid (KeepBut.of_below hb g none)
  have z2 := hb.size
  clear ho hb hsb hsle H HC HF
  go_upto_region 2 with (fail)
  go_cut [22] (fun s22 wx => ∃ (b : Bool) (q : Int), s22 = .bool b ∧ p ≤ q ∧ q ≤ p + 1 ∧ Hid (b = false → sl.length = fl.length) ∧ Hid (Rdr w0 wx g bs q) ∧ Hid (Kd.R (Kd.int .i64) 3 wx w.heap.size (fun j => j ≠ g) (.slice AS sl.length cS) sl) ∧ Hid (Kd.R k61 61 wx b2 (fun j => j ≠ g ∧ j < w.heap.size) (.slice A2 fl.length c2) fl) ∧ Hid (KeepBut w wx g none))
  case first =>
    by_cases hne : sl.length = fl.length
    · have j0 : ((sl.length : Int) == fl.length) = true := by simp [hne]
      have j1 : ((sl.length : Int) != fl.length) = false := by simp [hne]
      go_wp2_with (fail)
      refine (pick_any H2.out 3 (by omega) (by omega) (by omega)).mono ?_
      rintro e w3 ⟨r, a3, b3, rfl, h3, k3⟩
      have HNE := Lib.hid hne
      clear hne
      go_wp2_with (fail)
      go_meet
      exact ⟨_, p + 1, rfl, by omega, by omega, fun _ => HNE.out, h3, R_keep HS2.out k3 (fun j hj => hj), R_keep HF2.out k3 (fun j hj => hj.1), K2.out.trans k3 (.inl rfl)⟩
    · have j0 : ((sl.length : Int) == fl.length) = false := by simp; omega
      have j1 : ((sl.length : Int) != fl.length) = true := by simp; omega
      go_wp2_with (fail)
      go_meet
      exact ⟨true, p, rfl, by omega, by omega, (fun e => by cases e), H2.out, HS2.out, HF2.out, K2.out⟩
  case rest =>
    clear HS2 HF2 H2 K2
    obtain ⟨b, q, rfl, hq0, hq1, HBQ, H3, HS3, HF3, K3⟩ := hcut
    obtain ⟨w3, rfl⟩ : ∃ wo : World, wo = wc := ⟨_, rfl⟩
    go_upto_if 22 with (fail)
    go_cut [7] (fun s7 wx => ∃ (A : Option Addr) (c : Nat) (s : List Int) (q : Int), s7 = .slice A s.length c ∧ s.length ≤ 8 ∧ Hid (okT 600 s) ∧ p ≤ q ∧ q ≤ p + 10 ∧ Hid (Rdr w0 wx g bs q) ∧ Hid (Kd.R (Kd.int .i64) 3 wx w.heap.size (fun j => j ≠ g) (.slice A s.length c) s) ∧ Hid (KeepBut w wx g none))
    case first =>
      cases b with
      | false =>
        go_wp2_with (fail)
        go_meet
        exact ⟨AS, cS, sl, q, rfl, by omega, HSB.out, hq0, by omega, H3.out, HS3.out, K3.out⟩
      | true =>
        have hw3 := K3.out.1
        go_wp2_with (fail)
        go_loopw [7, 8] (fun x vk wr => ∃ (k : Nat) (A : Option Addr) (c : Nat) (s : List Int) (q : Int), x = .slice A s.length c ∧ vk = .int .i64 k ∧ k ≤ fl.length ∧ s.length ≤ k ∧ Hid (okT 600 s) ∧ p ≤ q ∧ q ≤ p + 1 + k ∧ Hid (Rdr w0 wr g bs q) ∧ Hid (Kd.R (Kd.int .i64) 3 wr w.heap.size (fun j => j ≠ g) (.slice A s.length c) s) ∧
            Hid (Kd.R k61 61 wr b2 (fun j => j ≠ g ∧ j < w.heap.size) (.slice A2 fl.length c2) fl) ∧ Hid (KeepBut w wr g none)) (fun _ vk _ => fl.length - (intOf vk).toNat)
        case atStart =>
          refine ⟨0, _, _, [], q, rfl, rfl, Nat.zero_le _, Nat.le_refl _, (fun x hx => by cases hx), hq0, by omega, H3.out.alloc _, ?_, Kd.R_alloc HF3.out _, keep_al K3.out _⟩
          exact Kd.R_lower (Kd.R_mono (Kd.R_bound (R_madeF (Kd.int .i64) w3 3 (by decide))) (fun j hj => by have := hj.2.1; have := H3.out.lt; omega)) hw3
        case round =>
          clear H3 HS3 HF3 K3
          obtain ⟨k, A, c, s, q, rfl, rfl, hk, hsk, HOK, hq0, hq1, HD, HO, HFl, HK⟩ := hrel
          by_cases hlt : k < fl.length
          · have j1 : (k : Int) < fl.length := by omega
            obtain ⟨ad, f, A3, c3, rfl, hf, p0, p1, p2, p3, hl3, hr3⟩ := flightAt (Kd.R_reads' HFl.out).2.2 k hlt
            obtain ⟨sm0, sm1, sm2, sm3⟩ := HSM.out f (List.mem_of_getElem? hf)
            have hab := HFl.out.1 ad.block rfl
            have ebl : (ad.add (k * 4)).block = ad.block := by unfold Addr.add; split <;> rfl
            have hBg : (ad.add (k * 4)).block ≠ g := by rw [ebl]; exact hab.1
            have hBw : (ad.add (k * 4)).block < w.heap.size := by rw [ebl]; exact hab.2
            have hBG := Lib.hid hBg
            have hBW := Lib.hid hBw
            have H5 : Hid (Rdr w0 wr.drew g bs q) := HD.out.drewN 1
            have HO5 := Lib.hid (Kd.R_drewN HO.out 1)
            have HF5 := Lib.hid (Kd.R_drewN HFl.out 1)
            have HK5 : Hid (KeepBut w wr.drew g none) := HK.out
            have z5 := HK.out.1
            have hp5 : q ≤ 1000000 := by omega
            have jA : IntKind.i64.wrap f.f1 = f.f1 := IntWalk.i64_in _ (by omega)
            have hwr : w.heap.size ≤ wr.heap.size := HK.out.1
            clear p0 p3 hr3 hl3 hf hab ebl hBg hBw HD HO HFl HK
            go_wp2
            go_region_held3 (fun W' => W'.cell? ⟨(ad.add (k * 4)).block, (ad.add (k * 4)).off + 1, none⟩ = some (.int .i64 f.f1) ∧ W'.cell? ⟨(ad.add (k * 4)).block, (ad.add (k * 4)).off + 2, none⟩ = some (.int .i64 f.f2)) (first | (exact ⟨by assumption, by assumption⟩) | go_keep) (first
              | (go_at_call 160; refine (abs_any f.f2 _ (by omega) (by omega)).mono ?_; rintro e w' ⟨ma, ma0, ma1, rfl, rfl⟩; have jm : IntKind.i64.wrap (1 + ma) = 1 + ma := IntWalk.i64_in _ (by omega))
              | (go_at_call 115; refine (pick_any H5.out (1 + ma) hp5 (by omega) (by omega)).mono ?_; rintro e w6 ⟨r6, a6, b6, rfl, h6, k6⟩; have jr : IntKind.i64.wrap (f.f1 + r6) = f.f1 + r6 := IntWalk.i64_in _ (by omega); have p16 : w6.cell? ⟨(ad.add (k * 4)).block, (ad.add (k * 4)).off + 1, none⟩ = some (.int .i64 f.f1) := pw_keep_cell k6 hBG.out (by assumption); have p26 : w6.cell? ⟨(ad.add (k * 4)).block, (ad.add (k * 4)).off + 2, none⟩ = some (.int .i64 f.f2) := pw_keep_cell k6 hBG.out (by assumption); have H6 := Lib.hid h6; have HO6 := Lib.hid (R_keep HO5.out k6 (fun j hj => hj)); have HF6 := Lib.hid (R_keep HF5.out k6 (fun j hj => hj.1)); have K6 := Lib.hid (HK5.out.trans k6 (.inl rfl)); have z6 : wr.heap.size ≤ w6.heap.size := k6.1; clear h6 k6)
              | (refine Kd.R_append_step (Kd.int .i64) (w0 := w6) w.heap.size (by rfl) _ _ 24 3 (.int .i64 0) 8 (by rfl) Try.underlying24 infoInt rfl (by decide) (by decide) (.slice A s.length c) s (f.f1 + r6) [.int .i64 (f.f1 + r6)] (fun j => j ≠ g) (fun _ => False) (by rfl) (by rfl) rfl (fun _ h => h.elim) (fun j hj => by have := H6.out.lt; omega) HO6.out (Below.refl _ _) (by omega) (by omega) ?_; intro v1 w7 ho7 hb7 hg7 hat7; obtain ⟨A7, c7, rfl⟩ := Kd.R_slice ho7; have hoW : ∀ j, (Value.slice A s.length c).ownBlock = some j → w.heap.size ≤ j ∧ j ≠ g := (fun j hj => ⟨Kd.R_base HO6.out j hj, HO6.out.1 j hj⟩); have p17 : w7.cell? ⟨(ad.add (k * 4)).block, (ad.add (k * 4)).off + 1, none⟩ = some (.int .i64 f.f1) := pw_keep_cellR (KeepBut.of_grown hg7 g) hBG.out (fun e => by have := (hoW _ e.symm).1; have := hBW.out; omega) p16; have p27 : w7.cell? ⟨(ad.add (k * 4)).block, (ad.add (k * 4)).off + 2, none⟩ = some (.int .i64 f.f2) := pw_keep_cellR (KeepBut.of_grown hg7 g) hBG.out (fun e => by have := (hoW _ e.symm).1; have := hBW.out; omega) p26; have HO7 := Lib.hid ho7; have HG7 := Lib.hid hg7; have HW7 := Lib.hid hoW; clear ho7 hb7 hg7 hat7 hoW))
            have z7 := HG7.out.size
            go_wp2
            go_roundw
            case rel => exact ⟨k + 1, A7, c7, s ++ [f.f1 + r6], q + 1, by rw [List.length_append, List.length_singleton], by go_num, hlt, by rw [List.length_append, List.length_singleton]; omega, okT_app HOK.out (by omega) (by omega), by omega, by omega, H6.out.grown HG7.out (fun e => (HW7.out _ e.symm).2 rfl) (fun j hj => by have := (HW7.out j hj).1; omega), HO7.out, Kd.R_grown HF6.out HG7.out (fun j hj e => by have := (HW7.out j e.symm).1; have := hj.2; omega), keep_gr K6.out HG7.out (fun j hj => (HW7.out j hj).1)⟩
            case measure => simp [intOf]; omega
          · obtain rfl : k = fl.length := by omega
            go_wp2_with (fail)
            go_meet
            exact ⟨A, c, s, q, rfl, by omega, HOK.out, hq0, by omega, HD.out, HO.out, HK.out⟩
    case rest =>
      clear H3 HS3 HF3 K3
      obtain ⟨A, c, s, q, rfl, hs8, HOK, hq0, hq1, H4, HO4, K4⟩ := hcut
      obtain ⟨w4, rfl⟩ : ∃ wo : World, wo = wc := ⟨_, rfl⟩
      have hw4 := K4.out.1
      have hgl4 := H4.out.lt
      by_cases h0 : 0 < s.length
      · have j0 : (0 : Int) < s.length := by omega
        have j0' : decide ((0 : Int) < s.length) = true := by simpa using j0
        go_wp2_with (fail)
        refine (pick_any H4.out 2 (by omega) (by omega) (by omega)).mono ?_
        rintro e w5 ⟨r, a5, b5, rfl, h5, k5⟩
        have H5 := Lib.hid h5
        have HO5 := Lib.hid (R_keep HO4.out k5 (fun j hj => hj))
        have K5 := Lib.hid (K4.out.trans k5 (.inl rfl))
        have z5 := k5.1
        have hq5 : Hid (q + 1 ≤ p + 11) := by show _ ≤ _; omega
        clear h5 k5 H4 HO4 K4
        go_upto_if 55 with (fail)
        go_cut [7] (fun s7 wx => ∃ (A : Option Addr) (c : Nat) (s : List Int) (q : Int), s7 = .slice A s.length c ∧ s.length ≤ 8 ∧ Hid (okT 1000 s) ∧ p ≤ q ∧ q ≤ p + 20 ∧ Hid (Rdr w0 wx g bs q) ∧ Hid (Kd.R (Kd.int .i64) 3 wx w.heap.size (fun j => j ≠ g) (.slice A s.length c) s) ∧ Hid (KeepBut w wx g none))
        case first =>
          by_cases hr : r = 0
          · have e1 : (r == 0) = true := by simp [hr]
            obtain ⟨gS, cS', hform, hg0, hg1, _⟩ := Kd.R_form HO5.out (by omega)
            injection hform with ea en ec
            subst ea ec
            clear en
            go_wp2_with (fail)
            refine (pick_any H5.out s.length (by omega) (by omega) (by omega)).mono ?_
            rintro e w6 ⟨k, a6, b6, rfl, h6, k6⟩
            have H6 := Lib.hid h6
            have HO6 := Lib.hid (R_keep HO5.out k6 (fun j hj => hj))
            have K6 := Lib.hid (K5.out.trans k6 (.inl rfl))
            have z6 := k6.1
            clear h6 k6 H5 HO5 K5
            obtain ⟨k, rfl⟩ := Int.eq_ofNat_of_zero_le a6
            have hks : k < s.length := by omega
            have hgS : gS ≠ g := HO6.out.1 gS rfl
            obtain ⟨ad, x, ead, hx, cx⟩ := intAt (Kd.R_reads' HO6.out).2.2 k hks
            injection ead with ead
            subst ead
            rw [add_plain] at cx
            have hxb := HOK.out x (List.mem_of_getElem? hx)
            obtain ⟨_, _, fx⟩ := R_cellN HO6.out k hks
            have jx1 : IntKind.i64.wrap (x + 1) = x + 1 := IntWalk.i64_in _ (by omega)
            have jx2 : IntKind.i64.wrap (x - 1) = x - 1 := IntWalk.i64_in _ (by omega)
            have cxa := cell_al cx (.cells #[.int .i64 (-1), .int .i64 (x + 1), .int .i64 (x - 1), .int .i64 (-2), .int .i64 10061] 3)
            have H6d : Hid (Rdr w0 w6.drew g bs (q + 1 + 1)) := H6.out.drewN 1
            have HO6d := Lib.hid (Kd.R_drewN HO6.out 1)
            have K6d : Hid (KeepBut w w6.drew g none) := K6.out
            have H6a : Hid (∀ o, Rdr w0 (w6.alloc o).drew g bs (q + 1 + 1)) := fun o => (H6.out.alloc o).drewN 1
            have HO6a := Lib.hid (Kd.R_drewN (Kd.R_alloc HO6.out (.cells #[.int .i64 (-1), .int .i64 (x + 1), .int .i64 (x - 1), .int .i64 (-2), .int .i64 10061] 3)) 1)
            have K6a : Hid (KeepBut w (w6.alloc (.cells #[.int .i64 (-1), .int .i64 (x + 1), .int .i64 (x - 1), .int .i64 (-2), .int .i64 10061] 3)).drew g none) := keep_al K6.out (.cells #[.int .i64 (-1), .int .i64 (x + 1), .int .i64 (x - 1), .int .i64 (-2), .int .i64 10061] 3)
            have hq1' : q + 1 + 1 ≤ 1000000 := by omega
            have hL6 : w6.heap.size ≠ g := by have := H6.out.lt; omega
            have hx0 : -600 ≤ x := hxb.1
            have hx1 : x ≤ 10700 := by have := hxb.2; omega
            clear hx H6 HO6 K6
            go_wp2
            go_region_with (first
              | (go_at_call 115; refine (pick_any (H6a.out _) 5 hq1' (by decide) (by decide)).mono ?_; rintro e w7 ⟨j, a7, b7, rfl, h7, k7⟩; obtain ⟨jn, rfl⟩ := Int.eq_ofNat_of_zero_le a7; obtain ⟨qv, hqv, HQ⟩ := lit5i x hx0 hx1 jn b7; have L7 := (blk_cell (keep_blk k7 (show (w6.alloc (.cells #[.int .i64 (-1), .int .i64 (x + 1), .int .i64 (x - 1), .int .i64 (-2), .int .i64 10061] 3)).drew.heap[w6.heap.size]? = _ from blk_new w6 _) hL6) jn).trans HQ; have HO7 := Lib.hid (R_keep HO6a.out k7 (fun j hj => hj)); have K7 := Lib.hid (K6a.out.trans k7 (.inl rfl)); have H7 := Lib.hid h7; have c7 := pw_keep_cell k7 hgS (show (w6.alloc (.cells #[.int .i64 (-1), .int .i64 (x + 1), .int .i64 (x - 1), .int .i64 (-2), .int .i64 10061] 3)).drew.cell? ⟨gS, k, none⟩ = _ from cxa); obtain ⟨_, _, f7⟩ := R_cellN HO7.out k hks; clear h7 k7 HQ)
              | (go_at_call 115; refine (pick_any H6d.out 5 hq1' (by decide) (by decide)).mono ?_; rintro e w7 ⟨j, a7, b7, rfl, h7, k7⟩; obtain ⟨jn, rfl⟩ := Int.eq_ofNat_of_zero_le a7; obtain ⟨qv, hqv, HQ⟩ := lit5i x hx0 hx1 jn b7; have L7 := (blk_cell (blk_new w7 (.cells #[.int .i64 (-1), .int .i64 (x + 1), .int .i64 (x - 1), .int .i64 (-2), .int .i64 10061] 3)) jn).trans HQ; have HO7 := Lib.hid (R_keep HO6d.out k7 (fun j hj => hj)); have K7 := Lib.hid (K6d.out.trans k7 (.inl rfl)); have H7 := Lib.hid h7; have c7 := pw_keep_cell k7 hgS (show w6.drew.cell? ⟨gS, k, none⟩ = _ from cx); have c7a := cell_al c7 (.cells #[.int .i64 (-1), .int .i64 (x + 1), .int .i64 (x - 1), .int .i64 (-2), .int .i64 10061] 3); obtain ⟨_, _, f7a⟩ := R_cellN (Kd.R_alloc HO7.out (.cells #[.int .i64 (-1), .int .i64 (x + 1), .int .i64 (x - 1), .int .i64 (-2), .int .i64 10061] 3)) k hks; obtain ⟨_, _, f7⟩ := R_cellN HO7.out k hks; clear h7 k7 HQ))
            all_goals
              go_wp2_with (fail)
              go_meet
              first
                | (have _t := c7a; exact ⟨_, _, s.set k qv, q + 1 + 1 + 1, by rw [List.length_set], by rw [List.length_set]; exact hs8, okT_set (okT_mono HOK.out (by omega)) (by omega) (by omega), by omega, by have := hq5.out; omega, (H7.out.alloc _).far (q := ⟨gS, k, none⟩) (Ne.symm hgS) (show w0.heap.size ≤ gS by omega) _, by rw [List.length_set]; exact R_setN (Kd.R_alloc HO7.out _) k qv, keep_set (keep_al K7.out _) (q := ⟨gS, k, none⟩) hg0 _⟩)
                | exact ⟨_, _, s.set k qv, q + 1 + 1 + 1, by rw [List.length_set], by rw [List.length_set]; exact hs8, okT_set (okT_mono HOK.out (by omega)) (by omega) (by omega), by omega, by have := hq5.out; omega, H7.out.far (q := ⟨gS, k, none⟩) (Ne.symm hgS) (show w0.heap.size ≤ gS by omega) _, by rw [List.length_set]; exact R_setN HO7.out k qv, keep_set K7.out (q := ⟨gS, k, none⟩) hg0 _⟩
          · have e1 : (r == 0) = false := by simp [hr]
            go_wp2_with (fail)
            go_meet
            exact ⟨A, c, s, q + 1, rfl, hs8, okT_mono HOK.out (by omega), by omega, by omega, H5.out, HO5.out, K5.out⟩
        case rest =>
          clear H5 HO5 K5 HOK hq5
          obtain ⟨A, c, s, q, rfl, hs8, HOK, hq0, hq1, H5, HO5, K5⟩ := hcut
          obtain ⟨w5, rfl⟩ : ∃ wo : World, wo = wc := ⟨_, rfl⟩
          go_wp2_with (fail)
          have hw5 := K5.out.1
          refine (pick_any H5.out 20 (by omega) (by omega) (by omega)).mono ?_
          rintro e w6 ⟨r, a6, b6, rfl, h6, k6⟩
          have H6 := Lib.hid h6
          have HO6 := Lib.hid (R_keep HO5.out k6 (fun j hj => hj))
          have K6 := Lib.hid (K5.out.trans k6 (.inl rfl))
          have z6 := k6.1
          have hgl6 := H6.out.lt
          clear h6 k6
          by_cases hr : r = 0
          · have e1 : (r == 0) = true := by simp [hr]
            have hoW : Hid (∀ j, (Value.slice A s.length c).ownBlock = some j → w.heap.size ≤ j ∧ j ≠ g) := fun j hj => ⟨Kd.R_base HO6.out j hj, HO6.out.1 j hj⟩
            go_wp2_with (first
              | (at_builtin; refine Kd.R_append (Kd.int .i64) (w0 := w6) w.heap.size rfl _ _ 24 3 (.int .i64 0) 8 rfl Try.underlying24 infoInt rfl (by decide) (by decide) (.slice A s.length c) s 1 [.int .i64 1] (fun j => j ≠ g) (fun _ => False) rfl rfl rfl (fun _ h => h.elim) (fun j hj => by omega) HO6.out (Below.refl _ _) (by omega) (by omega) ?_; intro v1 w7 ho7 hb7 hg7 hat7; have HO7 := Lib.hid ho7; have HG7 := Lib.hid hg7; clear ho7 hb7 hg7 hat7)
              | go_in)
            go_ret
            exact ⟨_, _, q + 1, by omega, by omega, by rw [List.length_append, List.length_singleton]; omega, okT_app HOK.out (by omega) (by omega), rfl, HO7.out, H6.out.grown HG7.out (fun e => (hoW.out _ e.symm).2 rfl) (fun j hj => by have := (hoW.out j hj).1; omega), keep_gr K6.out HG7.out (fun j hj => (hoW.out j hj).1)⟩
          · have e1 : (r == 0) = false := by simp [hr]
            go_wp2
            go_ret
            exact ⟨_, s, q + 1, by omega, by omega, by omega, HOK.out, rfl, HO6.out, H6.out, K6.out⟩
      · have j0 : ¬ (0 : Int) < s.length := by omega
        have j0' : decide ((0 : Int) < s.length) = false := by simpa using j0
        have HOK' := Lib.hid (okT_mono HOK.out (by omega : (600 : Int) ≤ 1000))
        clear HOK
        have HOK := HOK'
        have H5 := H4
        have HO5 := HO4
        have K5 := K4
        go_wp2_with (fail)
        have hw5 := K5.out.1
        refine (pick_any H5.out 20 (by omega) (by omega) (by omega)).mono ?_
        rintro e w6 ⟨r, a6, b6, rfl, h6, k6⟩
        have H6 := Lib.hid h6
        have HO6 := Lib.hid (R_keep HO5.out k6 (fun j hj => hj))
        have K6 := Lib.hid (K5.out.trans k6 (.inl rfl))
        have z6 := k6.1
        have hgl6 := H6.out.lt
        clear h6 k6
        by_cases hr : r = 0
        · have e1 : (r == 0) = true := by simp [hr]
          have hoW : Hid (∀ j, (Value.slice A s.length c).ownBlock = some j → w.heap.size ≤ j ∧ j ≠ g) := fun j hj => ⟨Kd.R_base HO6.out j hj, HO6.out.1 j hj⟩
          go_wp2_with (first
            | (at_builtin; refine Kd.R_append (Kd.int .i64) (w0 := w6) w.heap.size rfl _ _ 24 3 (.int .i64 0) 8 rfl Try.underlying24 infoInt rfl (by decide) (by decide) (.slice A s.length c) s 1 [.int .i64 1] (fun j => j ≠ g) (fun _ => False) rfl rfl rfl (fun _ h => h.elim) (fun j hj => by omega) HO6.out (Below.refl _ _) (by omega) (by omega) ?_; intro v1 w7 ho7 hb7 hg7 hat7; have HO7 := Lib.hid ho7; have HG7 := Lib.hid hg7; clear ho7 hb7 hg7 hat7)
            | go_in)
          go_ret
          exact ⟨_, _, q + 1, by omega, by omega, by rw [List.length_append, List.length_singleton]; omega, okT_app HOK.out (by omega) (by omega), rfl, HO7.out, H6.out.grown HG7.out (fun e => (hoW.out _ e.symm).2 rfl) (fun j hj => by have := (hoW.out j hj).1; omega), keep_gr K6.out HG7.out (fun j hj => (hoW.out j hj).1)⟩
        · have e1 : (r == 0) = false := by simp [hr]
          go_wp2
          go_ret
          exact ⟨_, s, q + 1, by omega, by omega, by omega, HOK.out, rfl, HO6.out, H6.out, K6.out⟩
end Go.Proofs.Ytkfoeplefajkcaa.Q
end

/- Contracts: what the laws FnLoad and FnBound draw. -/
section
namespace Go.Proofs.Ytkfoeplefajkcaa.Q
open Go.RowKit Go.Proofs.YtkfoeplefajkcaaW.PrintWords Go.Proofs.YtkfoeplefajkcaaW.PrintLast Go.Proofs.YtkfoeplefajkcaaW.PrintMore Go.Proofs.Ytkfoeplefajkcaa.Core
set_option linter.unusedVariables false
set_option linter.unusedSimpArgs false

set_option maxRecDepth 100000 in
set_option maxHeartbeats 2000000 in
theorem drawBound_any (A : Option Addr) (c : Nat) (l : List Int) (w : World) (hr : Kd.C (Kd.int .u8) w A l.length l) (hc : l.length ≤ c) (hb : byteL l) :
    Calls Try.prog 69 #[.slice A l.length c] w fun e w' => ∃ (A1 : Option Addr) (c1 : Nat) (caps : List Cap) (A2 : Option Addr) (c2 : Nat) (fl : List Flight) (sec : ByteArray), caps.length ≤ 13 ∧ fl.length ≤ 8 ∧
      e = .returned (.tuple #[.slice A1 caps.length c1, .slice A2 fl.length c2, .string sec]) ∧ Kd.R k99 99 w' w.heap.size (fun _ => True) (.slice A1 caps.length c1) caps ∧ Kd.R k61 61 w' w.heap.size (fun _ => True) (.slice A2 fl.length c2) fl ∧ Below w.heap.size w w' := by
  have HR := Lib.hid hr
  have HB := Lib.hid hb
  clear hr hb
  go_enter Try.func69, Try.ntmps69
  go_wp2_with (fail)
  refine (open_any A c l _ HR.out hc HB.out).mono ?_
  rintro e w1 ⟨g, bs, rfl, h1, hb1, hg⟩
  have z1 := hb1.size
  have hgl := h1.lt
  have H1 := Lib.hid h1
  clear h1 hb1
  go_wp2_with (fail)
  refine (anyCaps_any H1.out (by omega)).mono ?_
  rintro e w2 ⟨v2, caps, p2, hp2, hp2', hn2, rfl, hR2, h2, k2⟩
  have z2 := k2.1
  have HR2 := Lib.hid (Kd.R_mono (Kd.R_bound hR2) (fun k hk => (by have := hk.2.1; omega : k ≠ g)))
  have H2 := Lib.hid h2
  clear hR2 h2 k2 H1
  go_wp2_with (fail)
  refine (anyFlights_any H2.out (by omega)).mono ?_
  rintro e w3 ⟨v3, fl, p3, hp3, hp3', hn3, hL3, rfl, hR3, h3, k3⟩
  have z3 := k3.1
  have HR2' := Lib.hid (R_keep HR2.out k3 (fun j hj => hj))
  have H3 := Lib.hid h3
  have HR3 := Lib.hid hR3
  clear h3 k3 HR2 hR3 hL3 H2
  go_wp2_with (fail)
  refine (sector_any H3.out (by omega)).mono ?_
  rintro e w4 ⟨sec, rfl, h4, k4⟩
  have z4 := k4.1
  have HC4 := Lib.hid (R_keep HR2'.out k4 (fun j hj => hj))
  have HF4 := Lib.hid (R_keep HR3.out k4 (fun j hj => hj))
  have H4 := Lib.hid h4
  clear h4 k4 HR2' HR3 H3
  obtain ⟨A1, c1, rfl⟩ := Kd.R_slice HC4.out
  obtain ⟨A2, c2, rfl⟩ := Kd.R_slice HF4.out
  go_wp2
  go_ret3
  exact ⟨A1, c1, caps, A2, c2, fl, sec, hn2, hn3, rfl, Kd.R_lower (Kd.R_mono HC4.out (fun _ _ => trivial)) (by omega), Kd.R_lower (Kd.R_mono HF4.out (fun _ _ => trivial)) (by omega), H4.out.hb⟩

set_option maxRecDepth 100000 in
set_option maxHeartbeats 2000000 in
theorem drawFits_any (A : Option Addr) (c : Nat) (l : List Int) (w : World) (hr : Kd.C (Kd.int .u8) w A l.length l) (hc : l.length ≤ c) (hb : byteL l) :
    Calls Try.prog 65 #[.slice A l.length c] w fun e w' => ∃ (A1 : Option Addr) (c1 : Nat) (caps : List Cap) (A2 : Option Addr) (c2 : Nat) (fl : List Flight) (A3 : Option Addr) (c3 : Nat) (s : List Int), caps.length ≤ 13 ∧ fl.length ≤ 8 ∧ s.length ≤ 9 ∧
      e = .returned (.tuple #[.slice A1 caps.length c1, .slice A2 fl.length c2, .slice A3 s.length c3]) ∧ Kd.R k99 99 w' w.heap.size (fun _ => True) (.slice A1 caps.length c1) caps ∧ Kd.R k61 61 w' w.heap.size (fun _ => True) (.slice A2 fl.length c2) fl ∧
      Kd.R (Kd.int .i64) 3 w' w.heap.size (fun _ => True) (.slice A3 s.length c3) s ∧ Below w.heap.size w w' := by
  have HR := Lib.hid hr
  have HB := Lib.hid hb
  clear hr hb
  go_enter Try.func65, Try.ntmps65
  go_wp2_with (fail)
  refine (open_any A c l _ HR.out hc HB.out).mono ?_
  rintro e w1 ⟨g, bs, rfl, h1, hb1, hg⟩
  have z1 := hb1.size
  have hgl := h1.lt
  have H1 := Lib.hid h1
  clear h1 hb1
  go_wp2_with (fail)
  refine (anyCaps_any H1.out (by omega)).mono ?_
  rintro e w2 ⟨v2, caps, p2, hp2, hp2', hn2, rfl, hR2, h2, k2⟩
  have z2 := k2.1
  have HR2 := Lib.hid (Kd.R_mono (Kd.R_bound hR2) (fun k hk => (by have := hk.2.1; omega : k ≠ g)))
  have H2 := Lib.hid h2
  clear hR2 h2 k2 H1
  go_wp2_with (fail)
  refine (anyFlights_any H2.out (by omega)).mono ?_
  rintro e w3 ⟨v3, fl, p3, hp3, hp3', hn3, hL3, rfl, hR3, h3, k3⟩
  have z3 := k3.1
  have HR2' := Lib.hid (R_keep HR2.out k3 (fun j hj => hj))
  have H3 := Lib.hid h3
  have HR3 := Lib.hid hR3
  have HL3 := Lib.hid hL3
  clear h3 k3 HR2 hR3 hL3 H2
  obtain ⟨A1, c1, rfl⟩ := Kd.R_slice HR2'.out
  obtain ⟨A2, c2, rfl⟩ := Kd.R_slice HR3.out
  go_wp2_with (fail)
  refine (slotsOf_any H3.out (by omega) A1 c1 caps A2 c2 fl HR2'.out HR3.out hn3 HL3.out).mono ?_
  rintro e w4 ⟨v, s, p4, hp4, hp4', hn4, _, rfl, hR4, h4, k4⟩
  have z4 := k4.1
  have HC4 := Lib.hid (R_keep HR2'.out k4 (fun j hj => hj))
  have HF4 := Lib.hid (R_keep HR3.out k4 (fun j hj => hj))
  have HS4 := Lib.hid hR4
  have H4 := Lib.hid h4
  obtain ⟨A3, c3, rfl⟩ := Kd.R_slice hR4
  clear h4 k4 HR2' HR3 H3 hR4
  go_wp2
  go_ret3
  exact ⟨A1, c1, caps, A2, c2, fl, A3, c3, s, hn2, hn3, hn4, rfl, Kd.R_lower (Kd.R_mono HC4.out (fun _ _ => trivial)) (by omega), Kd.R_lower (Kd.R_mono HF4.out (fun _ _ => trivial)) (by omega), Kd.R_lower (Kd.R_mono HS4.out (fun _ _ => trivial)) (by omega), H4.out.hb⟩

set_option maxRecDepth 100000 in
set_option maxHeartbeats 2000000 in
theorem drawLoad_any (A : Option Addr) (c : Nat) (l : List Int) (w : World) (hr : Kd.C (Kd.int .u8) w A l.length l) (hc : l.length ≤ c) (hb : byteL l) :
    Calls Try.prog 62 #[.slice A l.length c] w fun e w' => ∃ (A2 : Option Addr) (c2 : Nat) (fl : List Flight) (A3 : Option Addr) (c3 : Nat) (s : List Int) (sec : ByteArray) (tick : Int), fl.length ≤ 8 ∧ s.length ≤ 9 ∧ -1 ≤ tick ∧ tick ≤ 60 ∧
      e = .returned (.tuple #[.slice A2 fl.length c2, .slice A3 s.length c3, .string sec, .int .i64 tick]) ∧ Kd.R k61 61 w' w.heap.size (fun _ => True) (.slice A2 fl.length c2) fl ∧
      Kd.R (Kd.int .i64) 3 w' w.heap.size (fun _ => True) (.slice A3 s.length c3) s ∧ Below w.heap.size w w' := by
  have HR := Lib.hid hr
  have HB := Lib.hid hb
  clear hr hb
  go_enter Try.func62, Try.ntmps62
  go_wp2_with (fail)
  refine (open_any A c l _ HR.out hc HB.out).mono ?_
  rintro e w1 ⟨g, bs, rfl, h1, hb1, hg⟩
  have z1 := hb1.size
  have hgl := h1.lt
  have H1 := Lib.hid h1
  clear h1 hb1
  go_wp2_with (fail)
  refine (anyFlights_any H1.out (by omega)).mono ?_
  rintro e w3 ⟨v3, fl, p3, hp3, hp3', hn3, hL3, rfl, hR3, h3, k3⟩
  have z3 := k3.1
  have H3 := Lib.hid h3
  have HR3 := Lib.hid hR3
  have HL3 := Lib.hid hL3
  obtain ⟨A2, c2, rfl⟩ := Kd.R_slice hR3
  clear h3 k3 hR3 hL3 H1
  go_wp2_with (fail)
  refine (caps_any H3.out (by omega)).mono ?_
  rintro e w2 ⟨v2, caps, p2, hp2, hp2', hn2, rfl, hR2, h2, k2⟩
  have z2 := k2.1
  have HC2 := Lib.hid (Kd.R_mono (Kd.R_bound hR2) (fun k hk => (by have := hk.2.1; omega : k ≠ g)))
  have HF2 := Lib.hid (R_keep HR3.out k2 (fun j hj => hj))
  have H2 := Lib.hid h2
  obtain ⟨A1, c1, rfl⟩ := Kd.R_slice hR2
  clear hR2 h2 k2 H3 HR3
  go_wp2_with (fail)
  refine (slotsOf_any H2.out (by omega) A1 c1 caps A2 c2 fl HC2.out HF2.out hn3 HL3.out).mono ?_
  rintro e w4 ⟨v, s, p4, hp4, hp4', hn4, _, rfl, hR4, h4, k4⟩
  have z4 := k4.1
  have HF4 := Lib.hid (R_keep HF2.out k4 (fun j hj => hj))
  have HS4 := Lib.hid hR4
  have H4 := Lib.hid h4
  obtain ⟨A3, c3, rfl⟩ := Kd.R_slice hR4
  clear h4 k4 HC2 HF2 H2 hR4
  go_wp2_with (fail)
  refine (sector_any H4.out (by omega)).mono ?_
  rintro e w5 ⟨sec, rfl, h5, k5⟩
  go_wp2_with (fail)
  refine (pick_any h5 50 (by omega) (by omega) (by omega)).mono ?_
  rintro e w6 ⟨r, a6, b6, rfl, h6, k6⟩
  have z5 := k5.1
  have z6 := k6.1
  have HF6 := Lib.hid (R_keep (R_keep HF4.out k5 (fun j hj => hj)) k6 (fun j hj => hj))
  have HS6 := Lib.hid (R_keep (R_keep HS4.out k5 (fun j hj => hj)) k6 (fun j hj => hj))
  have H6 := Lib.hid h6
  clear h5 k5 h6 k6 HF4 HS4 H4
  go_wp2
  refine bodyPost_ret (results_list (rs := _) rfl (by simp) (.tmp (.tmp (.tmp (.tmp .nil))))) rfl ?_
  exact ⟨A2, c2, fl, A3, c3, s, sec, r - 1, hn3, hn4, by omega, by omega, rfl, Kd.R_lower (Kd.R_mono HF6.out (fun _ _ => trivial)) (by omega), Kd.R_lower (Kd.R_mono HS6.out (fun _ _ => trivial)) (by omega), H6.out.hb⟩
end Go.Proofs.Ytkfoeplefajkcaa.Q
end
