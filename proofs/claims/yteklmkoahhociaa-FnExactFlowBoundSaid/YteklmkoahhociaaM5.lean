/- Contracts: slices.Clone at []int; the least slot that fits, the program's and the reference's. -/
import Derived.Test.YteklmkoahhociaaCore5
import Derived.Test.YteklmkoahhociaaM4
namespace Go.Proofs.Yteklmkoahhociaa.Q
open Go.RowKit Go.Proofs.YteklmkoahhociaaW.PrintWords Go.Proofs.Yteklmkoahhociaa.Core
set_option linter.unusedVariables false
set_option linter.unusedSimpArgs false

theorem infoInt : (Try.prog.info? 3).map (fun i => (i.zero, i.size, i.bytes)) = some (some (.int .i64 0), 1, 8) := by kernel_rfl
theorem R_made {α : Type} {enc : α → Value} {h1 : ∀ x, (enc x).oneCell' = true} (w : World) (e : Nat) : (Kd.scalar enc h1).R e (w.alloc (.cells #[] e)) w.heap.size (fun _ => True) (.slice (some ⟨w.heap.size, 0, none⟩) 0 0) [] :=
  Kd.R_of_own (World.ownsRow_made w #[] 0 (Nat.le_refl _) (Nat.zero_le _) rfl) (fun _ _ => trivial)

set_option maxRecDepth 100000 in
set_option maxHeartbeats 2000000 in
theorem clone_ints_any (A : Option Addr) (c : Nat) (xs : List Int) (w : World) (hr : Kd.C (Kd.int .i64) w A xs.length xs) (hl : xs.length ≤ 1048576) :
    Calls Try.prog 90 #[.slice A xs.length c] w fun e w' => ∃ v, e = .returned v ∧ Kd.R (Kd.int .i64) 3 w' w.heap.size (fun _ => True) v xs ∧ Below w.heap.size w w' := by
  have q : ∀ (w : World) (a : Option Addr) (n c n' c' : Nat), (binOp .eql 37 (.slice a n c) (.slice none n' c')).run Try.prog w = .ok (.bool a.isNone) w := fun w a n c n' c' => Lib.run_eql_slice_nil w _ _ a n c n' c' Try.underlying37
  cases A with
  | none =>
    have hx : xs = [] := by
      rcases Nat.eq_zero_or_pos xs.length with h0 | h0
      · exact List.eq_nil_of_length_eq_zero h0
      · obtain ⟨ad, h, _⟩ := hr.2.2 h0; cases h
    subst hx
    go_enter Try.func90, Try.ntmps90
    go_wp2
    go_ret
    exact ⟨_, rfl, Kd.R_nil _ _ _ _ _, Below.refl _ _⟩
  | some ad =>
    go_enter Try.func90, Try.ntmps90
    go_wp2_with (first
      | (at_builtin; refine Kd.R_append_row (w0 := w) (Value.int .i64) 0 w.heap.size rfl _ _ 37 3 (.int .i64 0) 8 rfl Try.underlying37 infoInt rfl (by decide) _ [] xs (some ad) xs.length c (fun _ => True) rfl rfl (fun _ _ => trivial) (R_made w _) (Kd.C_below hr ((Below.refl _ _).alloc (Nat.le_refl _) _)) ((Below.refl _ _).alloc (Nat.le_refl _) _) (by simp) (by simp; omega) ?_; intro v1 w1 ho hb hg hat)
      | go_in)
    go_ret
    exact ⟨_, rfl, ho, hb⟩

theorem R_setN {e : Nat} {W : World} {base g n cap : Nat} {ok : Nat → Prop} {xs : List Int} (h : Kd.R (Kd.int .i64) e W base ok (.slice (some ⟨g, 0, none⟩) n cap) xs) (k : Nat) (x : Int) :
    Kd.R (Kd.int .i64) e (W.setCell ⟨g, k, none⟩ (.int .i64 x)) base ok (.slice (some ⟨g, 0, none⟩) n cap) (xs.set k x) := by
  have := Kd.R_putn h (k : Int) x
  rwa [Int.toNat_natCast] at this
theorem R_cellN {e : Nat} {W : World} {base g n cap : Nat} {ok : Nat → Prop} {xs : List Int} (h : Kd.R (Kd.int .i64) e W base ok (.slice (some ⟨g, 0, none⟩) n cap) xs) (k : Nat) (hk : k < n) :
    ∃ x, W.cell? ⟨g, k, none⟩ = some (.int .i64 x) ∧ W.frozen? ⟨g, k, none⟩ = false := by
  have := Kd.R_celln 0 h (k : Int) (by omega) (by omega)
  rw [Int.toNat_natCast] at this
  exact ⟨_, this.1, this.2⟩
theorem R_readC {α : Type} {d : Kd α} {e : Nat} {w : World} {base n cap : Nat} {ok : Nat → Prop} {A : Option Addr} {xs : List α} (h : d.R e w base ok (.slice A n cap) xs) : d.C w A n xs := by
  obtain ⟨A', c', e1, _, h1⟩ := Kd.R_reads h
  injection e1 with e1 e2 e3
  subst e1; subst e2
  exact h1

set_option maxRecDepth 100000 in
set_option maxHeartbeats 4000000 in
theorem impl_least_any (A : Option Addr) (c : Nat) (caps : List Cap) (A1 : Option Addr) (c1 : Nat) (l : List Flight) (A2 : Option Addr) (c2 : Nat) (s : List Int) (k : Nat) (f : Flight) (w : World)
    (hr : Kd.C k69 w A caps.length caps) (hr1 : Kd.C k79 w A1 l.length l) (hr2 : Kd.C (Kd.int .i64) w A2 s.length s) (hf : l[k]? = some f) (hcs : capsB caps = true) (hs : slotsB l s = true) :
    Calls Try.prog 75 #[.slice A caps.length c, .slice A1 l.length c1, .slice A2 s.length c2, .int .i64 k] w fun e w' => e = .returned (.int .i64 (leastN caps l s k f)) ∧ Below w.heap.size w w' := by
  obtain ⟨hfl, hlen, _⟩ := slotsB_parts hs
  obtain ⟨hl8, hfs, _⟩ := flightsB_parts hfl
  have hk := some_lt hf
  have hks : k < s.length := by omega
  have j4 : (k : Int) < l.length := by omega
  have j5 : (k : Int) < s.length := by omega
  have hcl := C_len hr
  have hcl1 := C_len hr1
  obtain ⟨_, b1, b2, b3, b4, _⟩ := flightB_parts (hfs f (List.mem_of_getElem? hf))
  have j7 : IntKind.i64.wrap (f.f1 + f.f2) = f.f1 + f.f2 := IntWalk.i64_in _ (by omega)
  obtain ⟨ad, f', A3, c3, rfl, hf', f0, f1, f2, f3, hl3, hr3⟩ := flightAt hr1 k hk
  obtain rfl : f = f' := Option.some.inj (hf.symm.trans hf')
  have QC := Lib.hid (clone_ints_any A2 c2 s w hr2 (by omega))
  have qf : ∀ (W : World) (g cap : Nat) (t : Int), -1 ≤ t → t ≤ 10060 → Below w.heap.size w W → Kd.C (Kd.int .i64) W (some ⟨g, 0, none⟩) s.length (s.set k t) →
      Calls Try.prog 69 #[.slice A caps.length c, .slice (some ad) l.length c1, .slice (some ⟨g, 0, none⟩) s.length cap] W fun e w' => e = .returned (.bool (noneFull caps l (s.set k t))) ∧ Below W.heap.size W w' := by
    intro W g cap t h0 h1 hb hx
    have := impl_fits_any A c caps (some ad) c1 l (some ⟨g, 0, none⟩) cap (s.set k t) W (Kd.C_below hr hb) (Kd.C_below hr1 hb) (by rwa [List.length_set]) hcs (slots_set hs k h0 h1)
    rwa [List.length_set] at this
  have QF := Lib.hid qf
  clear qf hf hf' f0 f3 hl3 hr3 hfl hfs hcs hs hlen
  go_enter Try.func75, Try.ntmps75
  go_wp2_with (first
    | (go_at_call 90; refine QC.out.mono ?_; rintro e w1 ⟨v, rfl, ho, hb⟩; obtain ⟨g, cap, rfl, hg0, hg1, _⟩ := Kd.R_form ho (by omega); have f1a := pw_cell_below hb f1)
    | go_in)
  go_loopw [10] (fun v wr => ∃ (n : Nat) (t : Int) (ys : List Int), v = .int .i64 t ∧ f.f1 ≤ t ∧ t + n = f.f1 + f.f2 + 1 ∧ Hid (leastN caps l s k f = searchN (fun t => noneFull caps l (s.set k t)) t n) ∧ Hid (∀ z, ys.set k z = s.set k z) ∧
    Hid (Kd.R (Kd.int .i64) 3 wr w.heap.size (fun _ => True) (.slice (some ⟨g, 0, none⟩) s.length cap) ys) ∧ Below w.heap.size w wr) (fun v _ => (f.f1 + f.f2 + 1 - intOf v).toNat)
  case atStart => exact ⟨f.f2.toNat + 1, f.f1, s, rfl, Int.le_refl _, by omega, rfl, fun _ => rfl, ho, hb⟩
  case round =>
    clear hb ho f1a
    obtain ⟨n, t, ys, rfl, ht0, htn, hF, hY, hO, hb⟩ := hrel
    have f1a := pw_cell_below hb f1
    have f2a := pw_cell_below hb f2
    by_cases hlt : t ≤ f.f1 + f.f2
    · obtain ⟨n, rfl⟩ : ∃ m, n = m + 1 := ⟨n - 1, by omega⟩
      have e1 : decide (t ≤ f.f1 + f.f2) = true := decide_eq_true hlt
      obtain ⟨x, x0, xf⟩ := R_cellN hO.out k hks
      have HN : Hid (∀ m, Kd.R (Kd.int .i64) 3 ((wr.drewN m).setCell ⟨g, k, none⟩ (.int .i64 t)) w.heap.size (fun _ => True) (.slice (some ⟨g, 0, none⟩) s.length cap) (s.set k t)) := fun m => by
        rw [← hY.out t]; exact R_setN (Kd.R_drewN hO.out m) k t
      cases hnf : noneFull caps l (s.set k t) with
      | true =>
        have HF := Lib.hid hnf
        go_wp2
        go_quiet (fail)
        go_wp2_with (first
          | (go_at_call 69; refine (QF.out _ _ _ t (by omega) (by omega) (below_set (pw_below_drewN hb _) hg0) (R_readC (HN.out _))).mono ?_; rintro e w3 ⟨rfl, hb3⟩; rw [HF.out])
          | go_in)
        go_ret
        exact ⟨ret_int (by rw [hF.out, search_hit (p := fun t => noneFull caps l (s.set k t)) HF.out]), below_next (below_set (pw_below_drewN hb _) hg0) (below_set (j := k) (v := .int .i64 t) (pw_below_drewN hb _) hg0).size hb3⟩
      | false =>
        have HF := Lib.hid hnf
        go_wp2
        go_quiet (fail)
        go_wp2_with (first
          | (go_at_call 69; refine (QF.out _ _ _ t (by omega) (by omega) (below_set (pw_below_drewN hb _) hg0) (R_readC (HN.out _))).mono ?_; rintro e w3 ⟨rfl, hb3⟩; rw [HF.out])
          | go_in)
        go_roundw
        case rel => exact ⟨n, t + 1, s.set k t, by go_num, by omega, by omega, by show _ = _; rw [hF.out, search_miss (p := fun t => noneFull caps l (s.set k t)) HF.out], fun z => by rw [List.set_set], Kd.R_below (HN.out _) hb3, below_next (below_set (pw_below_drewN hb _) hg0) (below_set (j := k) (v := .int .i64 t) (pw_below_drewN hb _) hg0).size hb3⟩
        case measure => simp [intOf]; omega
    · have e1 : decide (t ≤ f.f1 + f.f2) = false := decide_eq_false hlt
      obtain rfl : n = 0 := by omega
      go_wp2
      go_quiet (fail)
      go_wp2
      go_ret
      exact ⟨ret_int (by rw [hF.out]; rfl), pw_below_drewN hb _⟩
set_option maxRecDepth 100000 in
set_option maxHeartbeats 4000000 in
theorem spec_least_any (A : Option Addr) (c : Nat) (caps : List Cap) (A1 : Option Addr) (c1 : Nat) (l : List Flight) (A2 : Option Addr) (c2 : Nat) (s : List Int) (k : Nat) (f : Flight) (w : World)
    (hr : Kd.C k69 w A caps.length caps) (hr1 : Kd.C k79 w A1 l.length l) (hr2 : Kd.C (Kd.int .i64) w A2 s.length s) (hf : l[k]? = some f) (hcs : capsB caps = true) (hs : slotsB l s = true) (ht : timeB l s = true) :
    Calls Try.prog 74 #[.slice A caps.length c, .slice A1 l.length c1, .slice A2 s.length c2, .int .i64 k] w fun e w' => e = .returned (.int .i64 (leastN caps l s k f)) ∧ Below w.heap.size w w' := by
  obtain ⟨hfl, hlen, _⟩ := slotsB_parts hs
  obtain ⟨hl8, hfs, _⟩ := flightsB_parts hfl
  have hk := some_lt hf
  have hks : k < s.length := by omega
  have j4 : (k : Int) < l.length := by omega
  have j5 : (k : Int) < s.length := by omega
  have hcl := C_len hr
  have hcl1 := C_len hr1
  obtain ⟨_, b1, b2, b3, b4, _⟩ := flightB_parts (hfs f (List.mem_of_getElem? hf))
  have j7 : IntKind.i64.wrap (f.f1 + f.f2) = f.f1 + f.f2 := IntWalk.i64_in _ (by omega)
  obtain ⟨ad, f', A3, c3, rfl, hf', f0, f1, f2, f3, hl3, hr3⟩ := flightAt hr1 k hk
  obtain rfl : f = f' := Option.some.inj (hf.symm.trans hf')
  have hs8 : s.length ≤ 8 := by omega
  have HR2 := Lib.hid (Kd.C_below hr2 ((Below.refl w.heap.size w).alloc (Nat.le_refl _) (.cells #[] 3)))
  have qf : ∀ (W : World) (g cap : Nat) (t : Int), f.f1 ≤ t → t ≤ f.f1 + f.f2 → Below w.heap.size w W → Kd.C (Kd.int .i64) W (some ⟨g, 0, none⟩) s.length (s.set k t) →
      Calls Try.prog 31 #[.slice A caps.length c, .slice (some ad) l.length c1, .slice (some ⟨g, 0, none⟩) s.length cap] W fun e w' => e = .returned (.bool (noneFull caps l (s.set k t))) ∧ Below W.heap.size W w' := by
    intro W g cap t h0 h1 hb hx
    have := spec_fitsAll_any A c caps (some ad) c1 l (some ⟨g, 0, none⟩) cap (s.set k t) W (Kd.C_below hr hb) (Kd.C_below hr1 hb) (by rwa [List.length_set])
    rwa [List.length_set, fits_set hcs hs ht k hf h0 h1] at this
  have QF := Lib.hid qf
  clear qf hf hf' ht f0 f3 hl3 hr3 hfl hfs hcs hs hlen
  go_enter Try.func74, Try.ntmps74
  go_wp2_with (first
    | (at_builtin; refine Kd.R_append_row (w0 := w) (Value.int .i64) 0 w.heap.size rfl _ _ 37 3 (.int .i64 0) 8 rfl Try.underlying37 infoInt rfl (by decide) _ [] s A2 s.length c2 (fun _ => True) rfl rfl (fun _ _ => trivial) (R_made w _) HR2.out ((Below.refl _ _).alloc (Nat.le_refl _) _) (by simp) (by simp; omega) ?_; intro v1 w1 ho hb hg hat; have ho : Kd.R (Kd.int .i64) 3 w1 w.heap.size (fun _ => True) v1 s := ho; clear hg hat; obtain ⟨g, cap, rfl, hg0, hg1, _⟩ := Kd.R_form ho (by omega); have f1a := pw_cell_below hb f1)
    | go_in)
  go_loopw [10] (fun v wr => ∃ (n : Nat) (t : Int) (ys : List Int), v = .int .i64 t ∧ f.f1 ≤ t ∧ t + n = f.f1 + f.f2 + 1 ∧ Hid (leastN caps l s k f = searchN (fun t => noneFull caps l (s.set k t)) t n) ∧ Hid (∀ z, ys.set k z = s.set k z) ∧
    Hid (Kd.R (Kd.int .i64) 3 wr w.heap.size (fun _ => True) (.slice (some ⟨g, 0, none⟩) s.length cap) ys) ∧ Below w.heap.size w wr) (fun v _ => (f.f1 + f.f2 + 1 - intOf v).toNat)
  case atStart => exact ⟨f.f2.toNat + 1, f.f1, s, rfl, Int.le_refl _, by omega, rfl, fun _ => rfl, ho, hb⟩
  case round =>
    clear hb ho f1a
    obtain ⟨n, t, ys, rfl, ht0, htn, hF, hY, hO, hb⟩ := hrel
    have f1a := pw_cell_below hb f1
    have f2a := pw_cell_below hb f2
    by_cases hlt : t ≤ f.f1 + f.f2
    · obtain ⟨n, rfl⟩ : ∃ m, n = m + 1 := ⟨n - 1, by omega⟩
      have e1 : decide (t ≤ f.f1 + f.f2) = true := decide_eq_true hlt
      obtain ⟨x, x0, xf⟩ := R_cellN hO.out k hks
      have HN : Hid (∀ m, Kd.R (Kd.int .i64) 3 ((wr.drewN m).setCell ⟨g, k, none⟩ (.int .i64 t)) w.heap.size (fun _ => True) (.slice (some ⟨g, 0, none⟩) s.length cap) (s.set k t)) := fun m => by
        rw [← hY.out t]; exact R_setN (Kd.R_drewN hO.out m) k t
      cases hnf : noneFull caps l (s.set k t) with
      | true =>
        have HF := Lib.hid hnf
        go_wp2
        go_quiet (fail)
        go_wp2_with (first
          | (go_at_call 31; refine (QF.out _ _ _ t (by omega) (by omega) (below_set (pw_below_drewN hb _) hg0) (R_readC (HN.out _))).mono ?_; rintro e w3 ⟨rfl, hb3⟩; rw [HF.out])
          | go_in)
        go_ret
        exact ⟨ret_int (by rw [hF.out, search_hit (p := fun t => noneFull caps l (s.set k t)) HF.out]), below_next (below_set (pw_below_drewN hb _) hg0) (below_set (j := k) (v := .int .i64 t) (pw_below_drewN hb _) hg0).size hb3⟩
      | false =>
        have HF := Lib.hid hnf
        go_wp2
        go_quiet (fail)
        go_wp2_with (first
          | (go_at_call 31; refine (QF.out _ _ _ t (by omega) (by omega) (below_set (pw_below_drewN hb _) hg0) (R_readC (HN.out _))).mono ?_; rintro e w3 ⟨rfl, hb3⟩; rw [HF.out])
          | go_in)
        go_roundw
        case rel => exact ⟨n, t + 1, s.set k t, by go_num, by omega, by omega, by show _ = _; rw [hF.out, search_miss (p := fun t => noneFull caps l (s.set k t)) HF.out], fun z => by rw [List.set_set], Kd.R_below (HN.out _) hb3, below_next (below_set (pw_below_drewN hb _) hg0) (below_set (j := k) (v := .int .i64 t) (pw_below_drewN hb _) hg0).size hb3⟩
        case measure => simp [intOf]; omega
    · have e1 : decide (t ≤ f.f1 + f.f2) = false := decide_eq_false hlt
      obtain rfl : n = 0 := by omega
      go_wp2
      go_quiet (fail)
      go_wp2
      go_ret
      exact ⟨ret_int (by rw [hF.out]; rfl), pw_below_drewN hb _⟩

theorem leastB_in {caps : List Cap} {l : List Flight} {s : List Int} {k : Nat} {f : Flight} (h : fitsB caps l s = true) (hf : l[k]? = some f) : leastB caps l s k = leastN caps l s k f := by
  have := some_lt hf
  unfold leastB
  rw [if_pos ⟨h, by omega, by omega⟩, Int.toNat_natCast, leastAt_some hf]

set_option maxRecDepth 100000 in
set_option maxHeartbeats 4000000 in
theorem impl_flowLeast_any (A : Option Addr) (c : Nat) (caps : List Cap) (A1 : Option Addr) (c1 : Nat) (l : List Flight) (A2 : Option Addr) (c2 : Nat) (s : List Int) (k : Int) (w : World)
    (hr : Kd.C k69 w A caps.length caps) (hr1 : Kd.C k79 w A1 l.length l) (hr2 : Kd.C (Kd.int .i64) w A2 s.length s) :
    Calls Try.prog 39 #[.slice A caps.length c, .slice A1 l.length c1, .slice A2 s.length c2, .int .i64 k] w fun e w' => e = .returned (.int .i64 (leastB caps l s k)) ∧ Below w.heap.size w w' := by
  have QF := Lib.hid (impl_fitsAll_any A c caps A1 c1 l A2 c2 s w hr hr1 hr2)
  have QI := Lib.hid quiet_in_impl
  have hcl1 := C_len hr1
  cases hfit : fitsB caps l s with
  | false =>
    go_enter Try.func39, Try.ntmps39
    go_wp2_with (first | (go_at_call 32; refine QF.out.mono ?_; rintro e w1 ⟨rfl, hb⟩; rw [hfit]) | go_in)
    go_ret
    exact ⟨ret_int (by simp [leastB, hfit]), hb⟩
  | true =>
  obtain ⟨hcs, hs, ht, _⟩ := fitsB_parts hfit
  have HF := Lib.hid hfit
  have j1 : IntKind.i64.wrap ((l.length : Int) - 1) = (l.length : Int) - 1 := IntWalk.i64_in _ (by omega)
  cases hin : inB k 0 ((l.length : Int) - 1) with
  | false =>
    have HI := Lib.hid hin
    clear hfit
    go_enter Try.func39, Try.ntmps39
    go_wp2_with (first
      | (go_at_call 32; refine QF.out.mono ?_; rintro e w1 ⟨rfl, hb⟩; rw [HF.out])
      | (go_at_call 57; refine (QI.out _ _ _ _).mono ?_; rintro e w' ⟨rfl, rfl⟩; rw [HI.out])
      | go_in)
    go_ret
    refine ⟨ret_int ?_, hb⟩
    unfold leastB
    have h1 := HI.out
    simp only [inB, Bool.and_eq_false_iff, decide_eq_false_iff_not] at h1
    rw [if_neg (by omega)]
  | true =>
    have HI := Lib.hid hin
    clear hfit
    simp only [inB, Bool.and_eq_true, decide_eq_true_eq] at hin
    obtain ⟨k, rfl⟩ := Int.eq_ofNat_of_zero_le hin.1
    have hkl : k < l.length := by omega
    have HL := Lib.hid (leastB_in HF.out (List.getElem?_eq_getElem hkl))
    have QL := Lib.hid (fun W (h : Below w.heap.size w W) => impl_least_any A c caps A1 c1 l A2 c2 s k l[k] W (Kd.C_below hr h) (Kd.C_below hr1 h) (Kd.C_below hr2 h) (List.getElem?_eq_getElem hkl) hcs hs)
    clear hin
    go_enter Try.func39, Try.ntmps39
    go_wp2_with (first
      | (go_at_call 32; refine QF.out.mono ?_; rintro e w1 ⟨rfl, hb⟩; rw [HF.out])
      | (go_at_call 57; refine (QI.out _ _ _ _).mono ?_; rintro e w' ⟨rfl, rfl⟩; rw [HI.out])
      | (go_at_call 75; refine (QL.out _ hb).mono ?_; rintro e w3 ⟨rfl, hb3⟩)
      | go_in)
    go_ret
    exact ⟨ret_int (by rw [HL.out]), below_next hb hb.size hb3⟩

set_option maxRecDepth 100000 in
set_option maxHeartbeats 4000000 in
theorem spec_flowLeast_any (A : Option Addr) (c : Nat) (caps : List Cap) (A1 : Option Addr) (c1 : Nat) (l : List Flight) (A2 : Option Addr) (c2 : Nat) (s : List Int) (k : Int) (w : World)
    (hr : Kd.C k69 w A caps.length caps) (hr1 : Kd.C k79 w A1 l.length l) (hr2 : Kd.C (Kd.int .i64) w A2 s.length s) :
    Calls Try.prog 38 #[.slice A caps.length c, .slice A1 l.length c1, .slice A2 s.length c2, .int .i64 k] w fun e w' => e = .returned (.int .i64 (leastB caps l s k)) ∧ Below w.heap.size w w' := by
  have QF := Lib.hid (spec_fitsAll_any A c caps A1 c1 l A2 c2 s w hr hr1 hr2)
  have QI := Lib.hid quiet_in
  have hcl1 := C_len hr1
  cases hfit : fitsB caps l s with
  | false =>
    go_enter Try.func38, Try.ntmps38
    go_wp2_with (first | (go_at_call 31; refine QF.out.mono ?_; rintro e w1 ⟨rfl, hb⟩; rw [hfit]) | go_in)
    go_ret
    exact ⟨ret_int (by simp [leastB, hfit]), hb⟩
  | true =>
  obtain ⟨hcs, hs, ht, _⟩ := fitsB_parts hfit
  have HF := Lib.hid hfit
  have j1 : IntKind.i64.wrap ((l.length : Int) - 1) = (l.length : Int) - 1 := IntWalk.i64_in _ (by omega)
  cases hin : inB k 0 ((l.length : Int) - 1) with
  | false =>
    have HI := Lib.hid hin
    clear hfit
    go_enter Try.func38, Try.ntmps38
    go_wp2_with (first
      | (go_at_call 31; refine QF.out.mono ?_; rintro e w1 ⟨rfl, hb⟩; rw [HF.out])
      | (go_at_call 54; refine (QI.out _ _ _ _).mono ?_; rintro e w' ⟨rfl, rfl⟩; rw [HI.out])
      | go_in)
    go_ret
    refine ⟨ret_int ?_, hb⟩
    unfold leastB
    have h1 := HI.out
    simp only [inB, Bool.and_eq_false_iff, decide_eq_false_iff_not] at h1
    rw [if_neg (by omega)]
  | true =>
    have HI := Lib.hid hin
    clear hfit
    simp only [inB, Bool.and_eq_true, decide_eq_true_eq] at hin
    obtain ⟨k, rfl⟩ := Int.eq_ofNat_of_zero_le hin.1
    have hkl : k < l.length := by omega
    have HL := Lib.hid (leastB_in HF.out (List.getElem?_eq_getElem hkl))
    have QL := Lib.hid (fun W (h : Below w.heap.size w W) => spec_least_any A c caps A1 c1 l A2 c2 s k l[k] W (Kd.C_below hr h) (Kd.C_below hr1 h) (Kd.C_below hr2 h) (List.getElem?_eq_getElem hkl) hcs hs ht)
    clear hin
    go_enter Try.func38, Try.ntmps38
    go_wp2_with (first
      | (go_at_call 31; refine QF.out.mono ?_; rintro e w1 ⟨rfl, hb⟩; rw [HF.out])
      | (go_at_call 54; refine (QI.out _ _ _ _).mono ?_; rintro e w' ⟨rfl, rfl⟩; rw [HI.out])
      | (go_at_call 74; refine (QL.out _ hb).mono ?_; rintro e w3 ⟨rfl, hb3⟩)
      | go_in)
    go_ret
    exact ⟨ret_int (by rw [HL.out]), below_next hb hb.size hb3⟩
end Go.Proofs.Yteklmkoahhociaa.Q
