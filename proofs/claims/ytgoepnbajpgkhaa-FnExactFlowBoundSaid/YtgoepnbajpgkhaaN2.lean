/- Contracts: FlowBound, the reference's and the program's. -/
import Derived.Test.YtgoepnbajpgkhaaN1
namespace Go.Proofs.Ytgoepnbajpgkhaa.Q
open Go.RowKit Go.Proofs.YtgoepnbajpgkhaaW.PrintWords Go.Proofs.Ytgoepnbajpgkhaa.Core
set_option linter.unusedVariables false
set_option linter.unusedSimpArgs false

theorem first_range {f : Flight} (h : flightB f = true) (sec : ByteArray) : firstOf f.f1 sec f.f3 ≤ 10200 := by
  obtain ⟨hx1, b1, b2, hx2, hx3, hv⟩ := flightB_parts h
  obtain ⟨hx4, hx5, hvs, hx6⟩ := visitsB_parts hv
  clear hx1 hx2 hx3 hx4 hx5 hx6
  obtain ⟨f0, f1, f2, vs⟩ := f
  simp only at b1 b2 hvs ⊢
  clear h hv
  induction vs with
  | nil => unfold firstOf; omega
  | cons v r ih =>
    unfold firstOf
    split
    · have := visitB_stay (hvs v (List.mem_cons_self ..)); omega
    · exact ih (fun u hu => hvs u (List.mem_cons_of_mem _ hu))
theorem comes_range {l : List Flight} (h : ∀ f ∈ l, flightB f = true) (sec : ByteArray) : ∀ x ∈ comesOf sec l, 0 ≤ x ∧ x ≤ 10200 := by
  intro x hx
  unfold comesOf at hx
  obtain ⟨h1, h2⟩ := List.mem_filter.1 hx
  obtain ⟨f, hf, rfl⟩ := List.mem_map.1 h1
  exact ⟨by simpa using h2, first_range (h f hf) sec⟩
theorem sorted_range {l : List Flight} (h : ∀ f ∈ l, flightB f = true) (sec : ByteArray) : ∀ x ∈ sortedTo sec l l.length, 0 ≤ x ∧ x ≤ 10200 := fun x hx => comes_range h sec x ((sortedTo_spec sec l).2.mem_iff.1 hx)
theorem comes_length (sec : ByteArray) (l : List Flight) : (comesOf sec l).length ≤ l.length := by
  have h := List.length_filter_le (fun t => decide (0 ≤ t)) (l.map fun f => firstOf f.f1 sec f.f3)
  unfold comesOf
  rw [List.length_map] at h
  exact h
theorem sorted_length (sec : ByteArray) (l : List Flight) : (sortedTo sec l l.length).length ≤ l.length := by
  rw [(sortedTo_spec sec l).2.length_eq]; exact comes_length sec l

def boundN (caps : List Cap) (l : List Flight) (sec : ByteArray) : Int :=
  if capsB caps = true ∧ flightsB l = true ∧ 1 ≤ capOf sec caps then runS (capOf sec caps).toNat (sortedTo sec l l.length) [] 0 else 0
theorem runS_step {ts : List Int} {k : Nat} {t : Int} (h : ts[k]? = some t) (c : Nat) (g : List Int) (s : Int) : runS c (ts.drop k) g s = runS c (ts.drop (k + 1)) (g ++ [giveT c g t]) (s + giveT c g t - t) := by
  have hk := some_lt h
  rw [List.drop_eq_getElem_cons hk]
  rw [List.getElem?_eq_getElem hk] at h
  rw [Option.some.inj h]
  rfl

set_option maxRecDepth 100000 in
set_option maxHeartbeats 4000000 in
theorem spec_bound_any (A : Option Addr) (c : Nat) (caps : List Cap) (A1 : Option Addr) (c1 : Nat) (l : List Flight) (sec : ByteArray) (w : World) (hr : Kd.C k46 w A caps.length caps) (hr1 : Kd.C k50 w A1 l.length l) :
    Calls Try.prog 6 #[.slice A caps.length c, .slice A1 l.length c1, .string sec] w fun e w' => e = .returned (.int .i64 (boundN caps l sec)) ∧ Below w.heap.size w w' := by
  have QX := Lib.hid (spec_l5Cap_any A c caps sec w hr)
  have QC := Lib.hid (fun W (h : Below w.heap.size w W) => spec_capsOk_any A c caps W (Kd.C_below hr h) (C_len hr))
  have QF := Lib.hid (fun W (h : Below w.heap.size w W) => spec_flightsOk_any A1 c1 l W (Kd.C_below hr1 h) (C_len hr1))
  cases hc : capsB caps with
  | false =>
    go_enter Try.func6, Try.ntmps6
    go_wp2_with (first
      | (go_at_call 14; refine QX.out.mono ?_; rintro e w1 ⟨rfl, hb⟩)
      | (go_at_call 15; refine (QC.out _ hb).mono ?_; rintro e w2 ⟨rfl, hb2⟩; rw [hc])
      | go_in)
    go_ret
    exact ⟨ret_int (by simp [boundN, hc]), below_next hb hb.size hb2⟩
  | true =>
  have HC := Lib.hid hc
  cases hf : flightsB l with
  | false =>
    clear hc
    go_enter Try.func6, Try.ntmps6
    go_wp2_with (first
      | (go_at_call 14; refine QX.out.mono ?_; rintro e w1 ⟨rfl, hb⟩)
      | (go_at_call 15; refine (QC.out _ hb).mono ?_; rintro e w2 ⟨rfl, hb2⟩; rw [HC.out]; have hb' := below_next hb hb.size hb2)
      | (go_at_call 16; refine (QF.out _ hb').mono ?_; rintro e w3 ⟨rfl, hb3⟩; rw [hf])
      | go_in)
    go_ret
    exact ⟨ret_int (by simp [boundN, hf]), below_next hb' hb'.size hb3⟩
  | true =>
  have HF := Lib.hid hf
  clear hc
  by_cases hcap : capOf sec caps < 1
  · have e1 : decide (capOf sec caps < 1) = true := decide_eq_true hcap
    clear hf
    go_enter Try.func6, Try.ntmps6
    go_wp2_with (first
      | (go_at_call 14; refine QX.out.mono ?_; rintro e w1 ⟨rfl, hb⟩)
      | (go_at_call 15; refine (QC.out _ hb).mono ?_; rintro e w2 ⟨rfl, hb2⟩; rw [HC.out]; have hb' := below_next hb hb.size hb2)
      | (go_at_call 16; refine (QF.out _ hb').mono ?_; rintro e w3 ⟨rfl, hb3⟩; rw [HF.out])
      | go_in)
    go_ret
    exact ⟨ret_int (by unfold boundN; rw [if_neg (by rintro ⟨_, _, h⟩; omega)]), below_next hb' hb'.size hb3⟩
  have hB : Hid (boundN caps l sec = runS (capOf sec caps).toNat (sortedTo sec l l.length) [] 0) := by show _ = _; unfold boundN; rw [if_pos ⟨HC.out, HF.out, by omega⟩]
  obtain ⟨cn, hcn⟩ : ∃ cn : Nat, capOf sec caps = cn := ⟨(capOf sec caps).toNat, by omega⟩
  have hcn1 : 1 ≤ cn := by omega
  have e1 : decide ((cn : Int) < 1) = false := decide_eq_false (by omega)
  rw [hcn, Int.toNat_natCast] at hB
  rw [hcn] at QX
  have hl8 := (flightsB_parts hf).1
  have hls := sorted_length sec l
  have HR := Lib.hid (sorted_range (flightsB_parts hf).2.1 sec)
  have QS := Lib.hid (fun W (h : Below w.heap.size w W) => spec_sorted_any A1 c1 l sec W (Kd.C_below hr1 h) hf)
  obtain ⟨ts, hts⟩ : ∃ ts, ts = sortedTo sec l l.length := ⟨_, rfl⟩
  rw [← hts] at hB QS hls HR
  clear hf hcap hcn hts
  go_enter Try.func6, Try.ntmps6
  go_wp2_with (first
    | (go_at_call 14; refine QX.out.mono ?_; rintro e w1 ⟨rfl, hb⟩)
    | (go_at_call 15; refine (QC.out _ hb).mono ?_; rintro e w2 ⟨rfl, hb2⟩; rw [HC.out]; have hb' := below_next hb hb.size hb2)
    | (go_at_call 16; refine (QF.out _ hb').mono ?_; rintro e w3 ⟨rfl, hb3⟩; rw [HF.out]; have hb'' := below_next hb' hb'.size hb3)
    | (go_at_call 17; refine (QS.out _ hb'').mono ?_; rintro e w4 ⟨v, rfl, ho, hb4⟩; obtain ⟨X, cX, rfl, hcX, hX⟩ := Kd.R_reads ho; have hb4' := below_next hb'' hb''.size hb4)
    | go_in)
  clear ho hb4 hb hb' hb'' hb2 hb3
  go_loopw [9, 10, 11] (fun g s v wr => ∃ (k : Nat) (gs : List Int) (sm : Int), v = .int .i64 k ∧ k ≤ ts.length ∧ gs.length = k ∧ s = .int .i64 sm ∧ 0 ≤ sm ∧ sm ≤ 20000 * k ∧ Hid (∀ x ∈ gs, 0 ≤ x ∧ x ≤ 10200 + k) ∧ Hid (runS cn ts [] 0 = runS cn (ts.drop k) gs sm) ∧
    Hid (Kd.R (Kd.int .i64) 3 wr w4.heap.size (fun _ => True) g gs) ∧ Below w4.heap.size w4 wr) (fun _ _ v _ => ts.length - (intOf v).toNat)
  case atStart => exact ⟨0, [], 0, rfl, Nat.zero_le _, rfl, rfl, Int.le_refl _, by omega, (fun x hx => by cases hx), rfl, R_made w4 _, (Below.refl _ _).alloc (Nat.le_refl _) _⟩
  case round =>
    obtain ⟨k, gs, sm, rfl, hk, hgl, rfl, hs0, hs1, hG, hF2, hO, hb⟩ := hrel
    obtain ⟨Y, cY, rfl, hcY, hY⟩ := Kd.R_reads hO.out
    by_cases hlt : k < ts.length
    · obtain ⟨ad, t, rfl, ht, t0⟩ := intAt hX k hlt
      have j4 : (k : Int) < ts.length := by omega
      have HT := Lib.hid (runS_step ht cn gs sm)
      have htr := HR.out t (List.mem_of_getElem? ht)
      clear ht
      have t0w := t0
      replace t0 := pw_cell_below hb t0
      have hk8 : k < 8 := by omega
      by_cases hge : cn ≤ k
      · have e2 : decide ((cn : Int) ≤ (k : Int)) = true := decide_eq_true (by omega)
        obtain ⟨m, hm⟩ : ∃ m, k = cn + m := ⟨k - cn, by omega⟩
        have hmg : m < gs.length := by omega
        obtain ⟨ad2, x, rfl, hx, x0⟩ := intAt hY m hmg
        have hxr := hG.out x (List.mem_of_getElem? hx)
        have j5 : (k : Int) - (cn : Int) = (m : Int) := by omega
        have j6 : (m : Int) < gs.length := by omega
        have hgx : gs.getD (gs.length - cn) 0 = x := by rw [show gs.length - cn = m by omega, List.getD_eq_getElem?_getD, hx]; rfl
        by_cases hxt : t ≤ x
        · have e3 : decide (t ≤ x) = true := decide_eq_true hxt
          have hgv : giveT cn gs t = x + 1 := by unfold giveT; rw [hgx, if_pos ⟨by omega, hxt⟩]
          clear hgx hx hm
          have HV := Lib.hid hgv
          clear hgv
          have j8 : IntKind.i64.wrap (sm + (x + 1)) = sm + (x + 1) := IntWalk.i64_in _ (by omega)
          have j9 : IntKind.i64.wrap (sm + (x + 1) - t) = sm + (x + 1) - t := IntWalk.i64_in _ (by omega)
          go_wp2_with (first
            | (at_builtin; refine Kd.R_append_row (w0 := w4) (Value.int .i64) 0 w4.heap.size rfl _ _ 44 3 (.int .i64 0) 8 rfl Try.underlying44 infoInt rfl (by decide) (.slice (some ad2) gs.length cY) gs [(x + 1)] (some ⟨wr.heap.size, 0, none⟩) 1 1 (fun _ => True) rfl rfl (fun _ _ => trivial) (Kd.R_alloc hO.out _) (C_one (by simp)) (hb.alloc hb.size _) (by have := hb.size; simp; omega) (by omega) ?_; intro v1 w1 ho hb1 hg1 hat1; have t1 := hb1.cell (World.block_lt_of_cell? w4 _ t0w); have t1 := t1.trans t0w)
            | go_in)
          go_roundw
          case rel => exact ⟨k + 1, gs ++ [(x + 1)], sm + (x + 1) - t, by go_num, by omega, by simp; omega, by go_num, by omega, by omega, (fun x hx => by rcases List.mem_append.1 hx with h | h; exact ⟨(hG.out x h).1, by have := (hG.out x h).2; omega⟩; simp at h; subst h; omega), by show _ = _; rw [hF2.out, HT.out, HV.out], ho, hb1⟩
          case measure => simp [intOf]; omega
        · have e3 : decide (t ≤ x) = false := decide_eq_false hxt
          have hgv : giveT cn gs t = t := by unfold giveT; rw [hgx, if_neg (by rintro ⟨_, h⟩; omega)]
          clear hgx hx hm
          have HV := Lib.hid hgv
          clear hgv
          have j8 : IntKind.i64.wrap (sm + t) = sm + t := IntWalk.i64_in _ (by omega)
          have j9 : IntKind.i64.wrap (sm + t - t) = sm + t - t := IntWalk.i64_in _ (by omega)
          go_wp2_with (first
            | (at_builtin; refine Kd.R_append_row (w0 := w4) (Value.int .i64) 0 w4.heap.size rfl _ _ 44 3 (.int .i64 0) 8 rfl Try.underlying44 infoInt rfl (by decide) (.slice (some ad2) gs.length cY) gs [t] (some ⟨wr.heap.size, 0, none⟩) 1 1 (fun _ => True) rfl rfl (fun _ _ => trivial) (Kd.R_alloc hO.out _) (C_one (by simp)) (hb.alloc hb.size _) (by have := hb.size; simp; omega) (by omega) ?_; intro v1 w1 ho hb1 hg1 hat1; have t1 := hb1.cell (World.block_lt_of_cell? w4 _ t0w); have t1 := t1.trans t0w)
            | go_in)
          go_roundw
          case rel => exact ⟨k + 1, gs ++ [t], sm + t - t, by go_num, by omega, by simp; omega, by go_num, by omega, by omega, (fun x hx => by rcases List.mem_append.1 hx with h | h; exact ⟨(hG.out x h).1, by have := (hG.out x h).2; omega⟩; simp at h; subst h; omega), by show _ = _; rw [hF2.out, HT.out, HV.out], ho, hb1⟩
          case measure => simp [intOf]; omega
      · have e2 : decide ((cn : Int) ≤ (k : Int)) = false := decide_eq_false (by omega)
        have hgv : giveT cn gs t = t := by unfold giveT; rw [if_neg (by rintro ⟨h, _⟩; omega)]
        have HV := Lib.hid hgv
        clear hgv
        have j8 : IntKind.i64.wrap (sm + t) = sm + t := IntWalk.i64_in _ (by omega)
        have j9 : IntKind.i64.wrap (sm + t - t) = sm + t - t := IntWalk.i64_in _ (by omega)
        go_wp2_with (first
          | (at_builtin; refine Kd.R_append_row (w0 := w4) (Value.int .i64) 0 w4.heap.size rfl _ _ 44 3 (.int .i64 0) 8 rfl Try.underlying44 infoInt rfl (by decide) (.slice Y gs.length cY) gs [t] (some ⟨wr.heap.size, 0, none⟩) 1 1 (fun _ => True) rfl rfl (fun _ _ => trivial) (Kd.R_alloc hO.out _) (C_one (by simp)) (hb.alloc hb.size _) (by have := hb.size; simp; omega) (by omega) ?_; intro v1 w1 ho hb1 hg1 hat1; have t1 := hb1.cell (World.block_lt_of_cell? w4 _ t0w); have t1 := t1.trans t0w)
          | go_in)
        go_roundw
        case rel => exact ⟨k + 1, gs ++ [t], sm + t - t, by go_num, by omega, by simp; omega, by go_num, by omega, by omega, (fun x hx => by rcases List.mem_append.1 hx with h | h; exact ⟨(hG.out x h).1, by have := (hG.out x h).2; omega⟩; simp at h; subst h; omega), by show _ = _; rw [hF2.out, HT.out, HV.out], ho, hb1⟩
        case measure => simp [intOf]; omega
    · go_wp2
      go_ret
      obtain rfl : k = ts.length := by omega
      exact ⟨ret_int (by rw [hB.out, hF2.out, List.drop_length]; rfl), below_next hb4' hb4'.size hb⟩
end Go.Proofs.Ytgoepnbajpgkhaa.Q
