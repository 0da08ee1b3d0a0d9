/- Contracts: FlowFits, the program's and the reference's. -/
import Derived.Test.YteklmkoahhociaaM2
import Derived.Test.YteklmkoahhociaaM3
namespace Go.Proofs.Yteklmkoahhociaa.Q
open Go.RowKit Go.Proofs.YteklmkoahhociaaW.PrintWords Go.Proofs.Yteklmkoahhociaa.Core
set_option linter.unusedVariables false
set_option linter.unusedSimpArgs false

theorem quiet_in_impl (a b c : Int) (W : World) : Calls Try.prog 57 #[.int .i64 a, .int .i64 b, .int .i64 c] W fun e w' => e = .returned (.bool (inB a b c)) ∧ w' = W := (impl_in_any _ _ _ W).mono fun _ _ h => ⟨h.1, h.2.symm⟩

set_option maxRecDepth 100000 in
set_option maxHeartbeats 4000000 in
theorem impl_fitsAll_any (A : Option Addr) (c : Nat) (caps : List Cap) (A1 : Option Addr) (c1 : Nat) (l : List Flight) (A2 : Option Addr) (c2 : Nat) (s : List Int) (w : World)
    (hr : Kd.C k69 w A caps.length caps) (hr1 : Kd.C k79 w A1 l.length l) (hr2 : Kd.C (Kd.int .i64) w A2 s.length s) :
    Calls Try.prog 32 #[.slice A caps.length c, .slice A1 l.length c1, .slice A2 s.length c2] w fun e w' => e = .returned (.bool (fitsB caps l s)) ∧ Below w.heap.size w w' := by
  have QC := Lib.hid (impl_capsOk_any A c caps w hr (C_len hr))
  have QS := Lib.hid (fun W (h : Below w.heap.size w W) => impl_slotsOk_any A1 c1 l A2 c2 s W (Kd.C_below hr1 h) (Kd.C_below hr2 h))
  cases hc : capsB caps with
  | false =>
    go_enter Try.func32, Try.ntmps32
    go_wp2_with (first | (go_at_call 18; refine QC.out.mono ?_; rintro e w1 ⟨rfl, hb⟩; rw [hc]) | go_in)
    go_ret
    exact ⟨ret_bool (by simp [fitsB, hc]), hb⟩
  | true =>
  cases hs : slotsB l s with
  | false =>
    go_enter Try.func32, Try.ntmps32
    go_wp2_with (first
      | (go_at_call 18; refine QC.out.mono ?_; rintro e w1 ⟨rfl, hb⟩; rw [hc])
      | (go_at_call 65; refine (QS.out _ hb).mono ?_; rintro e w2 ⟨rfl, hb2⟩; rw [hs])
      | go_in)
    go_ret
    exact ⟨ret_bool (by simp [fitsB, hc, hs]), below_next hb hb.size hb2⟩
  | true =>
    obtain ⟨hfl, hlen, hsb⟩ := slotsB_parts hs
    obtain ⟨hl8, hfs, _⟩ := flightsB_parts hfl
    have HB : Hid (fitsB caps l s = ((l.zip s).all timeP && noneFull caps l s)) := by show _ = _; simp [fitsB, timeB, hc, hs]
    have HL := Lib.hid hlen
    have HFS := Lib.hid hfs
    have HSB := Lib.hid hsb
    have QI := Lib.hid quiet_in_impl
    have QF := Lib.hid (fun W (h : Below w.heap.size w W) => impl_fits_any A c caps A1 c1 l A2 c2 s W (Kd.C_below hr h) (Kd.C_below hr1 h) (Kd.C_below hr2 h) hc hs)
    have hs8 : s.length ≤ 8 := by omega
    have HC := Lib.hid hc
    have HS := Lib.hid hs
    clear hfl hlen hsb hfs
    go_enter Try.func32, Try.ntmps32
    go_wp2_with (first
      | (go_at_call 18; refine QC.out.mono ?_; rintro e w1 ⟨rfl, hb⟩; rw [HC.out])
      | (go_at_call 65; refine (QS.out _ hb).mono ?_; rintro e w2 ⟨rfl, hb2⟩; rw [HS.out]; replace hb := below_next hb hb.size hb2; clear hb2)
      | go_in)
    clear hc hs
    go_loopw [20] (fun v wr => ∃ k : Nat, k ≤ s.length ∧ v = .int .i64 k ∧ Hid ((l.zip s).all timeP = ((l.zip s).drop k).all timeP) ∧ Below w.heap.size w wr) (fun v _ => s.length - (intOf v).toNat)
    case atStart => exact ⟨0, Nat.zero_le _, rfl, rfl, hb⟩
    case round =>
      clear hb
      obtain ⟨k, hk, rfl, hF, hb⟩ := hrel
      by_cases hlt : k < s.length
      · obtain ⟨ad2, z, rfl, hz, z0⟩ := intAt (Kd.C_below hr2 hb) k hlt
        obtain ⟨ad, f, A3, c3, rfl, hf, f0, f1, f2, f3, hl3, hr3⟩ := flightAt (Kd.C_below hr1 hb) k (by rw [← HL.out]; exact hlt)
        have j4 : (k : Int) < s.length := by omega
        have j5 : (k : Int) < l.length := by rw [← HL.out]; omega
        have HT := Lib.hid (timeB_step hf hz)
        have hfb := flightB_parts (HFS.out f (List.mem_of_getElem? hf))
        obtain ⟨_, b1, b2, b3, b4, _⟩ := hfb
        have j7 : IntKind.i64.wrap (f.f1 + f.f2) = f.f1 + f.f2 := IntWalk.i64_in _ (by omega)
        have hzb := HSB.out z (List.mem_of_getElem? hz)
        clear b1 b2 b3 b4 hf hz hr3 hl3 f0 f3
        by_cases hi : z = -1
        · have e1 : (z != -1) = false := by simp [hi]
          have HI := Lib.hid hi
          clear hi
          go_wp2
          go_quiet (fail)
          go_wp2
          go_roundw
          case rel => exact ⟨k + 1, by omega, by go_num, by show _ = _; rw [hF.out, HT.out, timeP, HI.out]; simp, pw_below_drewN hb _⟩
          case measure => simp [intOf]; omega
        · have e1 : (z != -1) = true := by simp [hi]
          have hz0 : 0 ≤ z := by omega
          clear hi
          cases hin : inB z f.f1 (f.f1 + f.f2) with
          | true =>
            have HI := Lib.hid hin
            go_wp2
            go_quiet (first | (go_at_call 57; exact Calls.quiet_of_same (QI.out _ _ _ _)))
            go_wp2
            go_roundw
            case rel => exact ⟨k + 1, by omega, by go_num, by show _ = _; rw [hF.out, HT.out, timeP, HI.out]; simp, pw_below_drewN hb _⟩
            case measure => simp [intOf]; omega
          | false =>
            have HI := Lib.hid hin
            go_wp2
            go_quiet (first | (go_at_call 57; exact Calls.quiet_of_same (QI.out _ _ _ _)))
            go_wp2
            go_ret
            exact ⟨ret_bool (by rw [HB.out, hF.out, HT.out, timeP, HI.out]; simp [hz0]), pw_below_drewN hb _⟩
      · go_wp2_with (first | (go_at_call 69; refine (QF.out _ hb).mono ?_; rintro e w3 ⟨rfl, hb3⟩) | go_in)
        go_ret
        obtain rfl : k = s.length := by omega
        exact ⟨ret_bool (by rw [HB.out, hF.out, List.drop_of_length_le (by simp; omega)]; rfl), below_next hb hb.size hb3⟩

theorem fullP_skip {x : Cap} {l : List Flight} {s : List Int} {f : Flight} {z : Int} (h : 0 ≤ z → f.f3.any (fullV x l s z) = false) : fullP x l s (f, z) = false := by
  unfold fullP
  by_cases h0 : 0 ≤ z
  · rw [h h0, Bool.and_false]
  · rw [decide_eq_false h0]; rfl
theorem fullP_hit {x : Cap} {l : List Flight} {s : List Int} {f : Flight} {z : Int} (h0 : 0 ≤ z) (h : f.f3.any (fullV x l s z) = true) : fullP x l s (f, z) = true := by
  unfold fullP
  rw [h, decide_eq_true h0]; rfl

set_option maxRecDepth 100000 in
set_option maxHeartbeats 4000000 in
theorem spec_l2Full_any (x : Cap) (A1 : Option Addr) (c1 : Nat) (l : List Flight) (A2 : Option Addr) (c2 : Nat) (s : List Int) (w : World)
    (hr1 : Kd.C k79 w A1 l.length l) (hr2 : Kd.C (Kd.int .i64) w A2 s.length s) (hs : slotsB l s = true) :
    Calls Try.prog 68 #[.agg #[.string x.f0, .int .i64 x.f1], .slice A1 l.length c1, .slice A2 s.length c2] w fun e w' => e = .returned (.bool (fullB x l s)) ∧ Below w.heap.size w w' := by
  obtain ⟨hfl, hlen, hsb⟩ := slotsB_parts hs
  obtain ⟨hl8, hfs, _⟩ := flightsB_parts hfl
  have HL := Lib.hid hlen
  have HFS := Lib.hid hfs
  have HSB := Lib.hid hsb
  have QL := Lib.hid (fun W t (h : Below w.heap.size w W) => spec_l2Load_any A1 c1 l A2 c2 s x.f0 t W (Kd.C_below hr1 h) (Kd.C_below hr2 h) hs)
  clear hlen hsb hfs hfl hs
  go_enter Try.func68, Try.ntmps68
  go_wp2
  go_loopw [7] (fun v wr => ∃ k : Nat, k ≤ l.length ∧ v = .int .i64 k ∧ Hid (fullB x l s = ((l.zip s).drop k).any (fullP x l s)) ∧ Below (w.heap.size + 1) (w.alloc (.cells #[.string x.f0, .int .i64 x.f1] 69)) wr) (fun v _ => l.length - (intOf v).toNat)
  case atStart => exact ⟨0, Nat.zero_le _, rfl, rfl, Below.refl _ _⟩
  case round =>
    obtain ⟨k, hk, rfl, hF, hb⟩ := hrel
    have hsz : w.heap.size + 1 ≤ wr.heap.size := by have := hb.size; simpa using this
    have hBW := Lib.hid (((Below.refl _ _).alloc (Nat.le_refl _) _).trans (hb.mono (by omega)) : Below w.heap.size w wr)
    by_cases hlt : k < l.length
    · obtain ⟨ad, f, A3, c3, rfl, hf, f0, f1, f2, f3, hl3, hr3⟩ := flightAt hr1 k hlt
      obtain ⟨ad2, z, rfl, hz, z0⟩ := intAt hr2 k (by rw [HL.out]; exact hlt)
      have j4 : (k : Int) < l.length := by omega
      have j5 : (k : Int) < s.length := by rw [HL.out]; omega
      have HT := Lib.hid (fullB_step hf hz (c := x))
      have HV := Lib.hid (visitsB_parts (flightB_parts (HFS.out f (List.mem_of_getElem? hf))).2.2.2.2.2)
      have hzb := HSB.out z (List.mem_of_getElem? hz)
      clear hf hz f0 f1 f2
      go_wp2
      go_loopw [8] (fun v wr => ∃ j : Nat, j ≤ f.f3.length ∧ v = .int .i64 j ∧ Hid (0 ≤ z → f.f3.any (fullV x l s z) = (f.f3.drop j).any (fullV x l s z)) ∧ Below (w.heap.size + 1) (w.alloc (.cells #[.string x.f0, .int .i64 x.f1] 69)) wr) (fun v _ => f.f3.length - (intOf v).toNat)
      case atStart => exact ⟨0, Nat.zero_le _, rfl, fun _ => rfl, hb⟩
      case round =>
        clear hb hsz hBW
        obtain ⟨j, hj, rfl, hG, hb⟩ := hrel
        have hv5 : f.f3.length ≤ 5 := HV.out.2.1
        have hsz : w.heap.size + 1 ≤ wr.heap.size := by have := hb.size; simpa using this
        have hbw : Below w.heap.size w wr := ((Below.refl _ _).alloc (Nat.le_refl _) _).trans (hb.mono (by omega))
        have hBW := Lib.hid hbw
        have f3 := pw_cell_below hbw f3
        have z0 := pw_cell_below hbw z0
        clear hbw
        have j6 : (k : Int) < l.length := by omega
        by_cases hjt : j < f.f3.length
        · by_cases hz0 : 0 ≤ z
          · obtain ⟨ad3, v, rfl, hv, v0, v1, v2⟩ := visitAt hr3 j hjt
            have j7 : (j : Int) < f.f3.length := by omega
            have HX := Lib.hid (fullV_step hv (c := x) (l := l) (s := s) (x := z))
            have hvb := visitB_stay (HV.out.2.2.1 v (List.mem_of_getElem? hv))
            have v0 := pw_cell_below hBW.out v0
            have v1 := pw_cell_below hBW.out v1
            have v2 := pw_cell_below hBW.out v2
            have e0 : decide ((j : Int) < f.f3.length) = true := decide_eq_true j7
            have e1 : decide (0 ≤ z) = true := decide_eq_true hz0
            have j8 : IntKind.i64.wrap (z + v.f1) = z + v.f1 := IntWalk.i64_in _ (by omega)
            have g0 := (hb.cell (p := ⟨w.heap.size, 0, none⟩) (by simp)).trans (show _ = some (Value.string x.f0) by simp)
            have g1 := (hb.cell (p := ⟨w.heap.size, 1, none⟩) (by simp)).trans (show _ = some (Value.int .i64 x.f1) by simp)
            have q1 := After.cell (W := wr.alloc (.cells #[.string v.f0, .int .i64 v.f1, .int .i64 v.f2] 95)) (a := ⟨wr.heap.size, 0, none⟩) (v := .string v.f0) (by simp)
            have q2 := After.cell (W := wr.alloc (.cells #[.string v.f0, .int .i64 v.f1, .int .i64 v.f2] 95)) (a := ⟨wr.heap.size, 1, none⟩) (v := .int .i64 v.f1) (by simp)
            have q3 := After.cell (cell_al g0 (.cells #[.string v.f0, .int .i64 v.f1, .int .i64 v.f2] 95))
            have q4 := After.cell (cell_al g1 (.cells #[.string v.f0, .int .i64 v.f1, .int .i64 v.f2] 95))
            have q5 := After.cell (cell_al z0 (.cells #[.string v.f0, .int .i64 v.f1, .int .i64 v.f2] 95))
            have QA := Lib.hid (fun (u : After (wr.alloc (.cells #[.string v.f0, .int .i64 v.f1, .int .i64 v.f2] 95))) t => QL.out u.w t (below_next (hBW.out.alloc hBW.out.size _) (by simp; omega) u.hb))
            have hbA := hb.alloc (by simpa using hsz) (.cells #[.string v.f0, .int .i64 v.f1, .int .i64 v.f2] 95)
            clear hv g0 g1
            by_cases hsec : v.f0 = x.f0
            · have e3 := str_same hsec
              have HS := Lib.hid hsec
              clear hsec hvb
              by_cases hov : x.f1 < (loadTo l s x.f0 (z + v.f1) l.length : Int)
              · have e5 : decide (x.f1 < (loadTo l s x.f0 (z + v.f1) l.length : Int)) = true := decide_eq_true hov
                have HO := Lib.hid hov
                clear hov
                go_wp2
                refine wp_region_after (by kernel_rfl) (by kernel_rfl) ?_
                repeat (go_big_quiet_step (first | (go_at_call 66; exact calls_after (QA.out _ _))))
                refine wpQuiet_nil ?_
                intro _ hw'
                obtain ⟨u, hw''⟩ := hw'
                subst hw''
                go_wp2
                go_ret
                exact ⟨ret_bool (by rw [hF.out, HT.out, fullP_hit hz0 (by rw [hG.out hz0, HX.out, fullV, decide_eq_true HS.out, decide_eq_true HO.out]; rfl)]; rfl), below_next (hBW.out.alloc hBW.out.size _) (by simp; omega) u.hb⟩
              · have e5 : decide (x.f1 < (loadTo l s x.f0 (z + v.f1) l.length : Int)) = false := decide_eq_false hov
                have HO := Lib.hid hov
                clear hov
                go_wp2
                refine wp_region_after (by kernel_rfl) (by kernel_rfl) ?_
                repeat (go_big_quiet_step (first | (go_at_call 66; exact calls_after (QA.out _ _))))
                refine wpQuiet_nil ?_
                intro _ hw'
                obtain ⟨u, hw''⟩ := hw'
                subst hw''
                go_wp2
                go_roundw
                case rel => exact ⟨j + 1, by omega, by go_num, fun h0 => by rw [hG.out h0, HX.out, fullV, decide_eq_false (Int.not_lt.2 HO.out), Bool.and_false]; rfl, below_next hbA (by simp; omega) u.hb⟩
                case measure => simp [intOf]; omega
            · have e3 := str_other hsec
              have HS := Lib.hid hsec
              clear hsec hvb
              go_wp2
              refine wp_region_after (by kernel_rfl) (by kernel_rfl) ?_
              repeat (go_big_quiet_step (fail))
              refine wpQuiet_nil ?_
              intro _ hw'
              obtain ⟨u, hw''⟩ := hw'
              subst hw''
              go_wp2
              go_roundw
              case rel => exact ⟨j + 1, by omega, by go_num, fun h0 => by rw [hG.out h0, HX.out, fullV, decide_eq_false HS.out]; rfl, below_next hbA (by simp; omega) u.hb⟩
              case measure => simp [intOf]; omega
          · have e0 : decide ((j : Int) < f.f3.length) = true := decide_eq_true (by omega)
            have e1 : decide (0 ≤ z) = false := decide_eq_false hz0
            have HZ := Lib.hid hz0
            go_wp2
            go_roundw
            case rel => exact ⟨k + 1, by omega, by go_num, by show _ = _; rw [hF.out, HT.out, fullP_skip (fun h0 => absurd h0 (by omega))]; rfl, hb⟩
            case measure => simp [intOf]; omega
        · have e0 : decide ((j : Int) < f.f3.length) = false := decide_eq_false (by omega)
          have he : j = f.f3.length := by omega
          have HE := Lib.hid he
          clear he
          go_wp2
          go_roundw
          case rel => exact ⟨k + 1, by omega, by go_num, by show _ = _; rw [hF.out, HT.out, fullP_skip (fun h0 => by rw [hG.out h0, HE.out, List.drop_length]; rfl)]; rfl, hb⟩
          case measure => simp [intOf]; omega
    · go_wp2
      go_ret
      obtain rfl : k = l.length := by omega
      exact ⟨ret_bool (by rw [hF.out, List.drop_of_length_le (by simp; omega)]; rfl), hBW.out⟩

set_option maxRecDepth 100000 in
set_option maxHeartbeats 4000000 in
theorem spec_fitsAll_any (A : Option Addr) (c : Nat) (caps : List Cap) (A1 : Option Addr) (c1 : Nat) (l : List Flight) (A2 : Option Addr) (c2 : Nat) (s : List Int) (w : World)
    (hr : Kd.C k69 w A caps.length caps) (hr1 : Kd.C k79 w A1 l.length l) (hr2 : Kd.C (Kd.int .i64) w A2 s.length s) :
    Calls Try.prog 31 #[.slice A caps.length c, .slice A1 l.length c1, .slice A2 s.length c2] w fun e w' => e = .returned (.bool (fitsB caps l s)) ∧ Below w.heap.size w w' := by
  have QC := Lib.hid (spec_capsOk_any A c caps w hr (C_len hr))
  have QS := Lib.hid (fun W (h : Below w.heap.size w W) => spec_slotsOk_any A1 c1 l A2 c2 s W (Kd.C_below hr1 h) (Kd.C_below hr2 h))
  cases hc : capsB caps with
  | false =>
    go_enter Try.func31, Try.ntmps31
    go_wp2_with (first | (go_at_call 16; refine QC.out.mono ?_; rintro e w1 ⟨rfl, hb⟩; rw [hc]) | go_in)
    go_ret
    exact ⟨ret_bool (by simp [fitsB, hc]), hb⟩
  | true =>
  cases hs : slotsB l s with
  | false =>
    go_enter Try.func31, Try.ntmps31
    go_wp2_with (first
      | (go_at_call 16; refine QC.out.mono ?_; rintro e w1 ⟨rfl, hb⟩; rw [hc])
      | (go_at_call 64; refine (QS.out _ hb).mono ?_; rintro e w2 ⟨rfl, hb2⟩; rw [hs])
      | go_in)
    go_ret
    exact ⟨ret_bool (by simp [fitsB, hc, hs]), below_next hb hb.size hb2⟩
  | true =>
    obtain ⟨hfl, hlen, hsb⟩ := slotsB_parts hs
    obtain ⟨hl8, hfs, _⟩ := flightsB_parts hfl
    obtain ⟨hc6, _, _⟩ := capsB_parts hc
    have HB : Hid (fitsB caps l s = ((l.zip s).all timeP && noneFull caps l s)) := by show _ = _; simp [fitsB, timeB, hc, hs]
    have HL := Lib.hid hlen
    have HFS := Lib.hid hfs
    have HSB := Lib.hid hsb
    have QI := Lib.hid quiet_in
    have QF := Lib.hid (fun W x (h : Below w.heap.size w W) => spec_l2Full_any x A1 c1 l A2 c2 s W (Kd.C_below hr1 h) (Kd.C_below hr2 h) hs)
    have HC := Lib.hid hc
    have HS := Lib.hid hs
    clear hfl hlen hsb hfs
    go_enter Try.func31, Try.ntmps31
    go_wp2_with (first
      | (go_at_call 16; refine QC.out.mono ?_; rintro e w1 ⟨rfl, hb⟩; rw [HC.out])
      | (go_at_call 64; refine (QS.out _ hb).mono ?_; rintro e w2 ⟨rfl, hb2⟩; rw [HS.out]; replace hb := below_next hb hb.size hb2; clear hb2)
      | go_in)
    clear hc hs
    go_loopw [7] (fun v wr => ∃ k : Nat, k ≤ l.length ∧ v = .int .i64 k ∧ Hid ((l.zip s).all timeP = ((l.zip s).drop k).all timeP) ∧ Below w.heap.size w wr) (fun v _ => l.length - (intOf v).toNat)
    case atStart => exact ⟨0, Nat.zero_le _, rfl, rfl, hb⟩
    case round =>
      clear hb
      obtain ⟨k, hk, rfl, hF, hb⟩ := hrel
      by_cases hlt : k < l.length
      · obtain ⟨ad2, z, rfl, hz, z0⟩ := intAt (Kd.C_below hr2 hb) k (by rw [HL.out]; exact hlt)
        obtain ⟨ad, f, A3, c3, rfl, hf, f0, f1, f2, f3, hl3, hr3⟩ := flightAt (Kd.C_below hr1 hb) k hlt
        have j4 : (k : Int) < l.length := by omega
        have j5 : (k : Int) < s.length := by rw [HL.out]; omega
        have HT := Lib.hid (timeB_step hf hz)
        have hfb := flightB_parts (HFS.out f (List.mem_of_getElem? hf))
        obtain ⟨_, b1, b2, b3, b4, _⟩ := hfb
        have j7 : IntKind.i64.wrap (f.f1 + f.f2) = f.f1 + f.f2 := IntWalk.i64_in _ (by omega)
        clear b1 b2 b3 b4 hf hz hr3 hl3 f0 f3
        by_cases hi : 0 ≤ z
        · have e1 : decide (0 ≤ z) = true := decide_eq_true hi
          cases hin : inB z f.f1 (f.f1 + f.f2) with
          | true =>
            have HI := Lib.hid hin
            go_wp2
            go_quiet (first | (go_at_call 54; exact Calls.quiet_of_same (QI.out _ _ _ _)))
            go_wp2
            go_roundw
            case rel => exact ⟨k + 1, by omega, by go_num, by show _ = _; rw [hF.out, HT.out, timeP, HI.out]; simp, pw_below_drewN hb _⟩
            case measure => simp [intOf]; omega
          | false =>
            have HI := Lib.hid hin
            go_wp2
            go_quiet (first | (go_at_call 54; exact Calls.quiet_of_same (QI.out _ _ _ _)))
            go_wp2
            go_ret
            exact ⟨ret_bool (by rw [HB.out, hF.out, HT.out, timeP, HI.out]; simp [hi]), pw_below_drewN hb _⟩
        · have e1 : decide (0 ≤ z) = false := decide_eq_false hi
          have HI := Lib.hid hi
          go_wp2
          go_quiet (fail)
          go_wp2
          go_roundw
          case rel => exact ⟨k + 1, by omega, by go_num, by show _ = _; rw [hF.out, HT.out, timeP, decide_eq_false (Int.not_le.2 HI.out)]; rfl, pw_below_drewN hb _⟩
          case measure => simp [intOf]; omega
      · have he : k = l.length := by omega
        have HT : Hid ((l.zip s).all timeP = true) := by show _ = _; rw [hF.out, he, List.drop_of_length_le (by simp; omega)]; rfl
        clear hF he
        go_wp2
        go_loopw [8] (fun v wr => ∃ j : Nat, j ≤ caps.length ∧ v = .int .i64 j ∧ Hid (noneFull caps l s = noneFull (caps.drop j) l s) ∧ Below w.heap.size w wr) (fun v _ => caps.length - (intOf v).toNat)
        case atStart => exact ⟨0, Nat.zero_le _, rfl, rfl, hb⟩
        case round =>
          clear hb
          obtain ⟨j, hj, rfl, hG, hb⟩ := hrel
          by_cases hjt : j < caps.length
          · obtain ⟨ad, x, rfl, hx, x0, x1⟩ := capAt (Kd.C_below hr hb) j hjt
            have j4 : (j : Int) < caps.length := by omega
            have HX := Lib.hid (noneFull_step hx l s)
            clear hx
            cases hfu : fullB x l s with
            | true =>
              have HF := Lib.hid hfu
              go_wp2_with (first | (go_at_call 68; refine (QF.out _ _ hb).mono ?_; rintro e w3 ⟨rfl, hb3⟩; rw [HF.out]) | go_in)
              go_ret
              exact ⟨ret_bool (by rw [HB.out, hG.out, HX.out, HF.out]; simp), below_next hb hb.size hb3⟩
            | false =>
              have HF := Lib.hid hfu
              go_wp2_with (first | (go_at_call 68; refine (QF.out _ _ hb).mono ?_; rintro e w3 ⟨rfl, hb3⟩; rw [HF.out]) | go_in)
              go_roundw
              case rel => exact ⟨j + 1, by omega, by go_num, by show _ = _; rw [hG.out, HX.out, HF.out]; rfl, below_next hb hb.size hb3⟩
              case measure => simp [intOf]; omega
          · go_wp2
            go_ret
            obtain rfl : j = caps.length := by omega
            exact ⟨ret_bool (by rw [HB.out, HT.out, hG.out, List.drop_length]; rfl), hb⟩
end Go.Proofs.Yteklmkoahhociaa.Q
