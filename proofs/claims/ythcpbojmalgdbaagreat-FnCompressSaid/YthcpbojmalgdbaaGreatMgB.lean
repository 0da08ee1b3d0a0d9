/- Merged out of this seat's own texts. -/
import Derived.Test.YthcpbojmalgdbaaGreatMgM
import Derived.Test.YthcpbojmalgdbaaGreatMgS
section
namespace Go.Proofs.YthcpbojmalgdbaaGreat.Q
open Go.RowKit Go.Proofs.YthcpbojmalgdbaaGreatW.PrintWords Go.Proofs.YthcpbojmalgdbaaGreatW.PrintLast Go.Proofs.YthcpbojmalgdbaaGreatW.PrintMore Go.Proofs.YthcpbojmalgdbaaGreat.Core
set_option linter.unusedVariables false
set_option linter.unusedSimpArgs false
theorem impl_bookOk_any (A0 : Option Addr) (c0 : Nat) (l0 : List Cap) (A1 : Option Addr) (c1 : Nat) (l1 : List Flight) (A2 : Option Addr) (c2 : Nat) (l2 : List Int) (w : World)
    (hr0 : Kd.C k42 w A0 l0.length l0) (hr1 : Kd.C k47 w A1 l1.length l1) (hr2 : Kd.C (Kd.int .i64) w A2 l2.length l2) :
    Calls Tryz.prog 20 #[.agg #[.slice A0 l0.length c0, .slice A1 l1.length c1, .slice A2 l2.length c2]] w fun e w' => e = .returned (.bool (fitsB l0 l1 l2)) ∧ Below w.heap.size w w' := by
  have hba : Below w.heap.size w (w.alloc (.cells #[.slice A0 l0.length c0, .slice A1 l1.length c1, .slice A2 l2.length c2] 27)) := (Below.refl _ _).alloc (Nat.le_refl _) _
  have QF := Lib.hid (impl_fitsAll_any A0 c0 l0 A1 c1 l1 A2 c2 l2 _ (Kd.C_below hr0 hba) (Kd.C_below hr1 hba) (Kd.C_below hr2 hba))
  go_enter Tryz.func20, Tryz.ntmps20
  go_wp2_with (first | (go_at_call 33; refine QF.out.mono ?_; rintro e w1 ⟨rfl, hb1⟩) | go_in)
  go_ret
  exact ⟨rfl, below_next hba hba.size hb1⟩
theorem spec_bookOk_any (A0 : Option Addr) (c0 : Nat) (l0 : List Cap) (A1 : Option Addr) (c1 : Nat) (l1 : List Flight) (A2 : Option Addr) (c2 : Nat) (l2 : List Int) (w : World)
    (hr0 : Kd.C k42 w A0 l0.length l0) (hr1 : Kd.C k47 w A1 l1.length l1) (hr2 : Kd.C (Kd.int .i64) w A2 l2.length l2) :
    Calls Tryz.prog 10 #[.agg #[.slice A0 l0.length c0, .slice A1 l1.length c1, .slice A2 l2.length c2]] w fun e w' => e = .returned (.bool (fitsB l0 l1 l2)) ∧ Below w.heap.size w w' := by
  have hba : Below w.heap.size w (w.alloc (.cells #[.slice A0 l0.length c0, .slice A1 l1.length c1, .slice A2 l2.length c2] 27)) := (Below.refl _ _).alloc (Nat.le_refl _) _
  have QF := Lib.hid (spec_fitsAll_any A0 c0 l0 A1 c1 l1 A2 c2 l2 _ (Kd.C_below hr0 hba) (Kd.C_below hr1 hba) (Kd.C_below hr2 hba))
  go_enter Tryz.func10, Tryz.ntmps10
  go_wp2_with (first | (go_at_call 29; refine QF.out.mono ?_; rintro e w1 ⟨rfl, hb1⟩) | go_in)
  go_ret
  exact ⟨rfl, below_next hba hba.size hb1⟩
def stableFrom (l0 : List Cap) (l1 : List Flight) (l2 : List Int) (k : Nat) : Bool := ((List.range l2.length).drop k).all fun i => leastAt l0 l1 l2 i == l2.getD i 0
def stableB (l0 : List Cap) (l1 : List Flight) (l2 : List Int) : Bool := fitsB l0 l1 l2 && stableFrom l0 l1 l2 0
theorem stableFrom_end (l0 : List Cap) (l1 : List Flight) (l2 : List Int) (k : Nat) (h : l2.length ≤ k) : stableFrom l0 l1 l2 k = true := by unfold stableFrom; rw [List.drop_of_length_le (by simpa using h)]; rfl
theorem stableFrom_step {l0 : List Cap} {l1 : List Flight} {l2 : List Int} {k : Nat} {f : Flight} {x : Int} (hf : l1[k]? = some f) (hx : l2[k]? = some x) : stableFrom l0 l1 l2 k = ((leastN l0 l1 l2 k f == x) && stableFrom l0 l1 l2 (k + 1)) := by
  have hk := some_lt hx
  unfold stableFrom
  rw [List.drop_eq_getElem_cons (by simpa using hk), List.all_cons, List.getElem_range, leastAt_some hf, List.getD_eq_getElem?_getD, hx]
  rfl
set_option maxRecDepth 100000 in
set_option maxHeartbeats 2000000 in
theorem impl_stable_any (A0 : Option Addr) (c0 : Nat) (l0 : List Cap) (A1 : Option Addr) (c1 : Nat) (l1 : List Flight) (A2 : Option Addr) (c2 : Nat) (l2 : List Int) (w : World)
    (hr0 : Kd.C k42 w A0 l0.length l0) (hr1 : Kd.C k47 w A1 l1.length l1) (hr2 : Kd.C (Kd.int .i64) w A2 l2.length l2) :
    Calls Tryz.prog 8 #[.agg #[.slice A0 l0.length c0, .slice A1 l1.length c1, .slice A2 l2.length c2]] w fun e w' => e = .returned (.bool (stableB l0 l1 l2)) ∧ Below w.heap.size w w' := by
  have hba : Below w.heap.size w (w.alloc (.cells #[.slice A0 l0.length c0, .slice A1 l1.length c1, .slice A2 l2.length c2] 27)) := (Below.refl _ _).alloc (Nat.le_refl _) _
  have QF := Lib.hid (impl_bookOk_any A0 c0 l0 A1 c1 l1 A2 c2 l2 _ (Kd.C_below hr0 hba) (Kd.C_below hr1 hba) (Kd.C_below hr2 hba))
  cases hfit : fitsB l0 l1 l2 with
  | false =>
    go_enter Tryz.func8, Tryz.ntmps8
    go_wp2_with (first | (go_at_call 20; refine QF.out.mono ?_; rintro e w1 ⟨rfl, hb1⟩; rw [hfit]) | go_in)
    go_ret
    exact ⟨ret_bool (by simp [stableB, hfit]), below_next hba hba.size hb1⟩
  | true =>
    have HF := Lib.hid hfit
    have HB : Hid (stableB l0 l1 l2 = stableFrom l0 l1 l2 0) := by show _ = _; simp [stableB, hfit]
    obtain ⟨hcs, hs, ht, _⟩ := fitsB_parts hfit
    obtain ⟨hfl, hlen, _⟩ := slotsB_parts hs
    have hl8 := (flightsB_parts hfl).1
    have HL := Lib.hid hlen
    have hs8 : l2.length ≤ 8 := by omega
    have QL := Lib.hid (fun W k f (h : Below w.heap.size w W) (hf : l1[k]? = some f) => impl_least_any A0 c0 l0 A1 c1 l1 A2 c2 l2 k f W (Kd.C_below hr0 h) (Kd.C_below hr1 h) (Kd.C_below hr2 h) hf hcs hs)
    clear hfit hcs hs ht hfl hlen
    go_enter Tryz.func8, Tryz.ntmps8
    go_wp2_with (first | (go_at_call 20; refine QF.out.mono ?_; rintro e w1 ⟨rfl, hb1⟩; rw [HF.out]; have g0 := pw_cell_below hb1 (show (w.alloc (.cells #[.slice A0 l0.length c0, .slice A1 l1.length c1, .slice A2 l2.length c2] 27)).cell? ⟨w.heap.size, 2, none⟩ = some (.slice A2 l2.length c2) by simp)) | go_in)
    go_loopw [11] (fun v wr => ∃ k : Nat, k ≤ l2.length ∧ v = .int .i64 k ∧ Hid (stableFrom l0 l1 l2 0 = stableFrom l0 l1 l2 k) ∧ Below (w.heap.size + 1) (w.alloc (.cells #[.slice A0 l0.length c0, .slice A1 l1.length c1, .slice A2 l2.length c2] 27)) wr) (fun v _ => l2.length - (intOf v).toNat)
    case atStart => exact ⟨0, Nat.zero_le _, rfl, rfl, by simpa using hb1⟩
    case round =>
      clear hb1 g0
      obtain ⟨k, hk, rfl, hF, hb⟩ := hrel
      have hsz : w.heap.size + 1 ≤ wr.heap.size := by have := hb.size; simpa using this
      have hBW : Below w.heap.size w wr := ((Below.refl _ _).alloc (Nat.le_refl _) _).trans (hb.mono (by omega))
      have hBH := Lib.hid hBW
      have g0 := (hb.cell (p := ⟨w.heap.size, 0, none⟩) (by simp)).trans (show _ = some (Value.slice A0 l0.length c0) by simp)
      have g1 := (hb.cell (p := ⟨w.heap.size, 1, none⟩) (by simp)).trans (show _ = some (Value.slice A1 l1.length c1) by simp)
      have g2 := (hb.cell (p := ⟨w.heap.size, 2, none⟩) (by simp)).trans (show _ = some (Value.slice A2 l2.length c2) by simp)
      by_cases hlt : k < l2.length
      · obtain ⟨ad, x, rfl, hx, x0⟩ := intAt (Kd.C_below hr2 hBW) k hlt
        have hk1 : k < l1.length := by rw [← HL.out]; exact hlt
        have HS := Lib.hid (stableFrom_step (List.getElem?_eq_getElem hk1) hx (l0 := l0))
        have HE := Lib.hid (List.getElem?_eq_getElem hk1)
        obtain ⟨f, hfe⟩ : ∃ f, f = l1[k] := ⟨_, rfl⟩
        rw [← hfe] at HS HE
        have QE := Lib.hid (QL.out wr k f hBW HE.out)
        clear hx hfe hBW
        by_cases hxe : x = leastN l0 l1 l2 k f
        · have e1 : (x != leastN l0 l1 l2 k f) = false := by simp [hxe]
          have HX := Lib.hid hxe
          clear hxe
          go_wp2_with (first | (go_at_call 27; refine QE.out.mono ?_; rintro e w2 ⟨rfl, hb2⟩) | go_in)
          go_roundw
          case rel => exact ⟨k + 1, by omega, by go_num, by show _ = _; rw [hF.out, HS.out, ← HX.out]; simp, below_next hb hsz hb2⟩
          case measure => simp [intOf]; omega
        · have e1 : (x != leastN l0 l1 l2 k f) = true := by simp [hxe]
          have HX := Lib.hid hxe
          clear hxe
          go_wp2_with (first | (go_at_call 27; refine QE.out.mono ?_; rintro e w2 ⟨rfl, hb2⟩) | go_in)
          go_ret
          refine ⟨ret_bool ?_, below_next hBH.out hBH.out.size hb2⟩
          rw [HB.out, hF.out, HS.out, beq_eq_false_iff_ne.2 (fun h => HX.out h.symm)]; rfl
      · go_wp2
        go_ret
        exact ⟨ret_bool (by rw [HB.out, hF.out, stableFrom_end _ _ _ _ (by omega)]), hBW⟩
set_option maxRecDepth 100000 in
set_option maxHeartbeats 2000000 in
theorem spec_stable_any (A0 : Option Addr) (c0 : Nat) (l0 : List Cap) (A1 : Option Addr) (c1 : Nat) (l1 : List Flight) (A2 : Option Addr) (c2 : Nat) (l2 : List Int) (w : World)
    (hr0 : Kd.C k42 w A0 l0.length l0) (hr1 : Kd.C k47 w A1 l1.length l1) (hr2 : Kd.C (Kd.int .i64) w A2 l2.length l2) :
    Calls Tryz.prog 9 #[.agg #[.slice A0 l0.length c0, .slice A1 l1.length c1, .slice A2 l2.length c2]] w fun e w' => e = .returned (.bool (stableB l0 l1 l2)) ∧ Below w.heap.size w w' := by
  have hba : Below w.heap.size w (w.alloc (.cells #[.slice A0 l0.length c0, .slice A1 l1.length c1, .slice A2 l2.length c2] 27)) := (Below.refl _ _).alloc (Nat.le_refl _) _
  have QF := Lib.hid (spec_bookOk_any A0 c0 l0 A1 c1 l1 A2 c2 l2 _ (Kd.C_below hr0 hba) (Kd.C_below hr1 hba) (Kd.C_below hr2 hba))
  cases hfit : fitsB l0 l1 l2 with
  | false =>
    go_enter Tryz.func9, Tryz.ntmps9
    go_wp2_with (first | (go_at_call 10; refine QF.out.mono ?_; rintro e w1 ⟨rfl, hb1⟩; rw [hfit]) | go_in)
    go_ret
    exact ⟨ret_bool (by simp [stableB, hfit]), below_next hba hba.size hb1⟩
  | true =>
    have HF := Lib.hid hfit
    have HB : Hid (stableB l0 l1 l2 = stableFrom l0 l1 l2 0) := by show _ = _; simp [stableB, hfit]
    obtain ⟨hcs, hs, ht, _⟩ := fitsB_parts hfit
    obtain ⟨hfl, hlen, _⟩ := slotsB_parts hs
    have hl8 := (flightsB_parts hfl).1
    have HL := Lib.hid hlen
    have QL := Lib.hid (fun W k f (h : Below w.heap.size w W) (hf : l1[k]? = some f) => spec_least_any A0 c0 l0 A1 c1 l1 A2 c2 l2 k f W (Kd.C_below hr0 h) (Kd.C_below hr1 h) (Kd.C_below hr2 h) hf hcs hs ht)
    clear hfit hcs hs ht hfl hlen
    go_enter Tryz.func9, Tryz.ntmps9
    go_wp2_with (first | (go_at_call 10; refine QF.out.mono ?_; rintro e w1 ⟨rfl, hb1⟩; rw [HF.out]) | go_in)
    go_loopw [3] (fun v wr => ∃ k : Nat, k ≤ l1.length ∧ v = .int .i64 k ∧ Hid (stableFrom l0 l1 l2 0 = stableFrom l0 l1 l2 k) ∧ Below (w.heap.size + 1) (w.alloc (.cells #[.slice A0 l0.length c0, .slice A1 l1.length c1, .slice A2 l2.length c2] 27)) wr) (fun v _ => l1.length - (intOf v).toNat)
    case atStart => exact ⟨0, Nat.zero_le _, rfl, rfl, by simpa using hb1⟩
    case round =>
      clear hb1
      obtain ⟨k, hk, rfl, hF, hb⟩ := hrel
      have hsz : w.heap.size + 1 ≤ wr.heap.size := by have := hb.size; simpa using this
      have hBW : Below w.heap.size w wr := ((Below.refl _ _).alloc (Nat.le_refl _) _).trans (hb.mono (by omega))
      have hBH := Lib.hid hBW
      have g0 := (hb.cell (p := ⟨w.heap.size, 0, none⟩) (by simp)).trans (show _ = some (Value.slice A0 l0.length c0) by simp)
      have g1 := (hb.cell (p := ⟨w.heap.size, 1, none⟩) (by simp)).trans (show _ = some (Value.slice A1 l1.length c1) by simp)
      have g2 := (hb.cell (p := ⟨w.heap.size, 2, none⟩) (by simp)).trans (show _ = some (Value.slice A2 l2.length c2) by simp)
      by_cases hlt : k < l1.length
      · obtain ⟨ad, x, rfl, hx, x0⟩ := intAt (Kd.C_below hr2 hBW) k (by rw [HL.out]; exact hlt)
        have j4 : (k : Int) < l2.length := by rw [HL.out]; omega
        have HS := Lib.hid (stableFrom_step (List.getElem?_eq_getElem hlt) hx (l0 := l0))
        have HE := Lib.hid (List.getElem?_eq_getElem hlt)
        obtain ⟨f, hfe⟩ : ∃ f, f = l1[k] := ⟨_, rfl⟩
        rw [← hfe] at HS HE
        have QE := Lib.hid (fun u : After wr => QL.out u.w k f (below_next hBW hBW.size u.hb) HE.out)
        have b0 := After.cell g0
        have b1 := After.cell g1
        have b2 := After.cell g2
        have b3 := After.cell x0
        clear hx hfe hBW
        by_cases hxe : leastN l0 l1 l2 k f = x
        · have e1 : (leastN l0 l1 l2 k f != x) = false := by simp [hxe]
          have HX := Lib.hid hxe
          clear hxe
          go_wp2
          refine wp_region_after (by kernel_rfl) (by kernel_rfl) ?_
          repeat (go_big_quiet_step (first | (go_at_call 28; exact calls_after (QE.out _))))
          refine wpQuiet_nil ?_
          intro _ hw'
          obtain ⟨u, hw''⟩ := hw'
          subst hw''
          go_wp2
          go_roundw
          case rel => exact ⟨k + 1, by omega, by go_num, by show _ = _; rw [hF.out, HS.out, HX.out]; simp, below_next hb hsz u.hb⟩
          case measure => simp [intOf]; omega
        · have e1 : (leastN l0 l1 l2 k f != x) = true := by simp [hxe]
          have HX := Lib.hid hxe
          clear hxe
          go_wp2
          refine wp_region_after (by kernel_rfl) (by kernel_rfl) ?_
          repeat (go_big_quiet_step (first | (go_at_call 28; exact calls_after (QE.out _))))
          refine wpQuiet_nil ?_
          intro _ hw'
          obtain ⟨u, hw''⟩ := hw'
          subst hw''
          go_wp2
          go_ret
          refine ⟨ret_bool ?_, below_next hBH.out hBH.out.size u.hb⟩
          rw [HB.out, hF.out, HS.out, beq_eq_false_iff_ne.2 HX.out]; rfl
      · go_wp2
        go_ret
        exact ⟨ret_bool (by rw [HB.out, hF.out, stableFrom_end _ _ _ _ (by rw [HL.out]; omega)]), hBW⟩
end Go.Proofs.YthcpbojmalgdbaaGreat.Q
end
