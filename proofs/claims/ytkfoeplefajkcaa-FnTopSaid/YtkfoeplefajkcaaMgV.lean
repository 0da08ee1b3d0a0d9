/- Merged out of this seat's own texts. -/
import Derived.Test.YtkfoeplefajkcaaMgM
import Derived.Test.YtkfoeplefajkcaaMgC
section
namespace Go.Proofs.Ytkfoeplefajkcaa.Q
open Go.RowKit Go.Proofs.YtkfoeplefajkcaaW.PrintWords Go.Proofs.YtkfoeplefajkcaaW.PrintLast Go.Proofs.YtkfoeplefajkcaaW.PrintMore Go.Proofs.Ytkfoeplefajkcaa.Core
set_option linter.unusedVariables false
set_option linter.unusedSimpArgs false
set_option maxRecDepth 100000 in
set_option maxHeartbeats 2000000 in
theorem wIn_any (f : Flight) (A3 : Option Addr) (c3 : Nat) (z : Int) (sec : ByteArray) (tick : Int) (w : World) (hr : Kd.C k97 w A3 f.f3.length f.f3) (hv : visitsB f.f3 = true) (hz : -1 ≤ z ∧ z ≤ 10060) :
    Calls Try.prog 121 #[.agg #[.string f.f0, .int .i64 f.f1, .int .i64 f.f2, .slice A3 f.f3.length c3], .int .i64 z, .string sec, .int .i64 tick] w fun e w' => e = .returned (.bool (hasB z sec tick f.f3)) ∧ Below w.heap.size w w' := by
  obtain ⟨f0, f1, f2, vs⟩ := f
  simp only at hr hv ⊢
  obtain ⟨_, hv5, hvs, _⟩ := visitsB_parts hv
  have HV := Lib.hid hvs
  clear hvs hv
  go_enter Try.func121, Try.ntmps121
  go_wp2
  go_loopw [9] (fun v wr => ∃ k : Nat, k ≤ vs.length ∧ v = .int .i64 k ∧ Hid (hasB z sec tick vs = hasB z sec tick (vs.drop k)) ∧ Below (w.heap.size + 1) (w.alloc (.cells #[.string f0, .int .i64 f1, .int .i64 f2, .slice A3 vs.length c3] 61)) wr) (fun v _ => vs.length - (intOf v).toNat)
  case atStart => exact ⟨0, Nat.zero_le _, rfl, rfl, Below.refl _ _⟩
  case round =>
    obtain ⟨k, hk, rfl, hF, hb⟩ := hrel
    have hsz : w.heap.size + 1 ≤ wr.heap.size := by have := hb.size; simpa using this
    have hBW := Lib.hid (((Below.refl _ _).alloc (Nat.le_refl _) _).trans (hb.mono (by omega)) : Below w.heap.size w wr)
    have c3 := (hb.cell (p := ⟨w.heap.size, 3, none⟩) (by simp)).trans (show _ = some (Value.slice A3 vs.length c3) by simp)
    by_cases hlt : k < vs.length
    · obtain ⟨ad3, v, rfl, hx, v0, v1, v2⟩ := visitAt (Kd.C_below hr hBW.out) k hlt
      have j6 : (k : Int) < vs.length := by omega
      have HX := Lib.hid (hasB_drop hx z sec tick)
      have hvb := visitB_stay (HV.out v (List.mem_of_getElem? hx))
      clear hx
      have j7 : IntKind.i64.wrap (z + v.f1) = z + v.f1 := IntWalk.i64_in _ (by omega)
      have j8 : IntKind.i64.wrap (z + v.f1 + v.f2) = z + v.f1 + v.f2 := IntWalk.i64_in _ (by omega)
      by_cases hsec : v.f0 = sec
      · have e3 := str_same hsec
        have HS := Lib.hid hsec
        clear hsec
        by_cases h1 : z + v.f1 ≤ tick
        · by_cases h2 : tick < z + v.f1 + v.f2
          · have d1 : decide (z + v.f1 ≤ tick) = true := decide_eq_true h1
            have d2 : decide (tick < z + v.f1 + v.f2) = true := decide_eq_true h2
            have hi : Hid (coversB z sec tick v = true) := by show _ = _; unfold coversB inB; rw [HS.out, d1, decide_eq_true (by omega : tick ≤ z + v.f1 + v.f2 - 1)]; simp
            clear hvb
            go_wp2
            go_ret
            exact ⟨ret_bool (by rw [hF.out, HX.out, hi.out]; simp), hBW.out⟩
          · have d1 : decide (z + v.f1 ≤ tick) = true := decide_eq_true h1
            have d2 : decide (tick < z + v.f1 + v.f2) = false := decide_eq_false h2
            have hi : Hid (coversB z sec tick v = false) := by show _ = _; unfold coversB inB; rw [decide_eq_false (by omega : ¬ tick ≤ z + v.f1 + v.f2 - 1)]; simp
            clear hvb
            go_wp2
            go_roundw
            case rel => exact ⟨k + 1, by omega, by go_num, by show _ = _; rw [hF.out, HX.out, hi.out]; simp, hb⟩
            case measure => simp [intOf]; omega
        · have d1 : decide (z + v.f1 ≤ tick) = false := decide_eq_false h1
          have hi : Hid (coversB z sec tick v = false) := by show _ = _; unfold coversB inB; rw [d1]; simp
          clear hvb
          go_wp2
          go_roundw
          case rel => exact ⟨k + 1, by omega, by go_num, by show _ = _; rw [hF.out, HX.out, hi.out]; simp, hb⟩
          case measure => simp [intOf]; omega
      · have e3 := str_other hsec
        have HS := Lib.hid hsec
        clear hsec hvb
        go_wp2
        go_roundw
        case rel => exact ⟨k + 1, by omega, by go_num, by show _ = _; rw [hF.out, HX.out, coversB]; simp [HS.out], hb⟩
        case measure => simp [intOf]; omega
    · go_wp2
      go_ret
      obtain rfl : k = vs.length := by omega
      exact ⟨ret_bool (by rw [hF.out, List.drop_length]; rfl), hBW.out⟩
set_option maxRecDepth 100000 in
set_option maxHeartbeats 4000000 in
theorem wOver_any (A0 : Option Addr) (c0 : Nat) (caps : List Cap) (A1 : Option Addr) (c1 : Nat) (l : List Flight) (A2 : Option Addr) (c2 : Nat) (s : List Int) (fr : Int) (w : World)
    (hr0 : Kd.C k99 w A0 caps.length caps) (hr1 : Kd.C k61 w A1 l.length l) (hr2 : Kd.C (Kd.int .i64) w A2 s.length s) (hfit : fitsB caps l s = true) (h0 : 0 ≤ fr) (h1 : fr ≤ 20000) :
    Calls Try.prog 55 #[.agg #[.slice A0 caps.length c0, .slice A1 l.length c1, .slice A2 s.length c2], .int .i64 fr] w fun e w' => e = .returned (.bool false) ∧ Below w.heap.size w w' := by
  have HF := Lib.hid hfit
  have C0 := Lib.hid hr0
  have C1 := Lib.hid hr1
  have C2 := Lib.hid hr2
  obtain ⟨hcb, hsb, _, _⟩ := fitsB_parts hfit
  obtain ⟨hfb, hlen, hsr⟩ := slotsB_parts hsb
  obtain ⟨h8, hfs, _⟩ := flightsB_parts hfb
  have hc6 : caps.length ≤ 6 := by simp only [capsB, Bool.and_eq_true, decide_eq_true_eq] at hcb; exact hcb.1.1
  have HSR := Lib.hid hsr
  have HFS := Lib.hid hfs
  have HL := Lib.hid hlen
  clear hr0 hr1 hr2 hfit hcb hsb hfb hlen hsr hfs
  have HB0 := Lib.hid (blk_new w (.cells #[.slice A0 caps.length c0, .slice A1 l.length c1, .slice A2 s.length c2] 55))
  have BB := Lib.hid (below_alloc (Below.refl w.heap.size w) (.cells #[.slice A0 caps.length c0, .slice A1 l.length c1, .slice A2 s.length c2] 55))
  have jf : IntKind.i64.wrap (fr + 90) = fr + 90 := IntWalk.i64_in _ (by omega)
  go_enter Try.func55, Try.ntmps55
  go_wp2
  go_loopw [5] (fun vk wr => ∃ k : Nat, vk = .int .i64 k ∧ k ≤ caps.length ∧ Hid (wr.heap[w.heap.size]? = some (.cells #[.slice A0 caps.length c0, .slice A1 l.length c1, .slice A2 s.length c2] 55 (0, 0))) ∧ Hid (Below w.heap.size w wr)) (fun vk _ => caps.length - (intOf vk).toNat)
  case atStart => exact ⟨0, rfl, Nat.zero_le _, HB0, BB⟩
  case round =>
    clear HB0 BB
    obtain ⟨i, rfl, hi, HX, HB⟩ := hrel
    obtain ⟨wa, rfl⟩ : ∃ wo : World, wo = wr := ⟨_, rfl⟩
    have d0 := blk_cell HX.out 0
    simp only [List.getElem?_toArray, List.getElem?_cons_zero, List.getElem?_cons_succ] at d0
    by_cases hlt : i < caps.length
    · have j1 : (i : Int) < caps.length := by omega
      obtain ⟨ad0, x, rfl, hx, _, _⟩ := capAt (Kd.C_below C0.out HB.out) i hlt
      have HCap := Lib.hid (fun t => load_le HF.out (List.mem_of_getElem? hx) t)
      have HX0 := Lib.hid hx
      clear hx
      go_wp2
      go_loopw [6] (fun vt wr => ∃ t : Int, vt = .int .i64 t ∧ fr ≤ t ∧ t ≤ fr + 90 ∧ Hid (wr.heap[w.heap.size]? = some (.cells #[.slice (some ad0) caps.length c0, .slice A1 l.length c1, .slice A2 s.length c2] 55 (0, 0))) ∧ Hid (Below w.heap.size w wr)) (fun vt _ => (fr + 90 - intOf vt).toNat)
      case atStart => exact ⟨fr, rfl, Int.le_refl _, by omega, HX, HB⟩
      case round =>
        clear HX HB d0
        obtain ⟨t, rfl, ht0, ht1, HX, HB⟩ := hrel
        obtain ⟨wb, rfl⟩ : ∃ wo : World, wo = wr := ⟨_, rfl⟩
        by_cases htl : t < fr + 90
        · have e1 : decide (t < fr + 90) = true := decide_eq_true htl
          go_wp2
          go_loopw [7, 8] (fun vn vk wr => ∃ k : Nat, vk = .int .i64 k ∧ k ≤ l.length ∧ vn = .int .i64 (loadTo l s x.f0 t k) ∧ Hid (wr.heap[w.heap.size]? = some (.cells #[.slice (some ad0) caps.length c0, .slice A1 l.length c1, .slice A2 s.length c2] 55 (0, 0))) ∧ Hid (Below w.heap.size w wr)) (fun _ vk _ => l.length - (intOf vk).toNat)
          case atStart => exact ⟨0, rfl, Nat.zero_le _, by rw [loadTo_zero]; rfl, HX, HB⟩
          case round =>
            clear HX HB
            obtain ⟨k, rfl, hk, rfl, HX, HB⟩ := hrel
            obtain ⟨wc, rfl⟩ : ∃ wo : World, wo = wr := ⟨_, rfl⟩
            have d0 := blk_cell HX.out 0
            have d1 := blk_cell HX.out 1
            have d2 := blk_cell HX.out 2
            simp only [List.getElem?_toArray, List.getElem?_cons_zero, List.getElem?_cons_succ] at d0 d1 d2
            have hle := loadTo_le l s x.f0 t k
            obtain ⟨n, hn⟩ : ∃ n, n = loadTo l s x.f0 t k := ⟨_, rfl⟩
            rw [← hn] at hle ⊢
            have HN := Lib.hid hn
            clear hn
            by_cases hkl : k < l.length
            · have j2 : (k : Int) < l.length := by omega
              have hks : k < s.length := by rw [HL.out]; exact hkl
              have j3 : (k : Int) < s.length := by omega
              obtain ⟨ad2, z, rfl, hz, cz⟩ := intAt (Kd.C_below C2.out HB.out) k hks
              obtain ⟨ad1, f, A3, c3, rfl, hf, p0, p1, p2, p3, hl3, hr3⟩ := flightAt (Kd.C_below C1.out HB.out) k hkl
              obtain ⟨ad0', x', ea, hx', y0, _⟩ := capAt (Kd.C_below C0.out HB.out) i hlt
              injection ea with ea
              subst ea
              obtain rfl : x = x' := Option.some.inj (HX0.out.symm.trans hx')
              have hzb := HSR.out z (List.mem_of_getElem? hz)
              have hfb := HFS.out f (List.mem_of_getElem? hf)
              have HST := Lib.hid (loadTo_step hf hz x.f0 t)
              have b0 := After.cell d0
              have b1 := After.cell d1
              have b2 := After.cell d2
              have b3 := After.cell cz
              have b4 := After.cell p0
              have b5 := After.cell p1
              have b6 := After.cell p2
              have b7 := After.cell p3
              have b8 := After.cell y0
              have QI := Lib.hid (fun (u : After wc) => wIn_any f A3 c3 z x.f0 t u.w (Kd.C_below hr3 u.hb) (flightB_parts hfb).2.2.2.2.2 hzb)
              clear hz hf hx' hr3 hfb p0 p1 p2 p3 y0 cz hl3
              by_cases hz0 : 0 ≤ z
              · have e2 : decide (0 ≤ z) = true := decide_eq_true hz0
                cases hh : hasB z x.f0 t f.f3 with
                | true =>
                  have HH := Lib.hid hh
                  have HON : Hid (onP x.f0 t (f, z) = true) := by show _ = _; unfold onP; rw [e2, hh]; rfl
                  have QJ := Lib.hid (fun (u : After wc) => by have t_ := QI.out u; rw [HH.out] at t_; exact t_)
                  clear hh
                  go_wp2
                  refine wp_region_after (by kernel_rfl) (by kernel_rfl) ?_
                  repeat (go_big_quiet_step (first | (go_at_call 121; exact calls_after (QJ.out _))))
                  refine wpQuiet_nil ?_
                  intro _ hw'
                  obtain ⟨u, hw''⟩ := hw'
                  subst hw''
                  go_wp2
                  go_roundw
                  case rel => exact ⟨k + 1, by go_num, hkl, by rw [HST.out, HON.out, ← HN.out]; first | rfl | go_num, (u.hb.block _ (blk_lt HX.out)).trans HX.out, below_next HB.out HB.out.size u.hb⟩
                  case measure => simp [intOf]; omega
                | false =>
                  have HH := Lib.hid hh
                  have HON : Hid (onP x.f0 t (f, z) = false) := by show _ = _; unfold onP; rw [e2, hh]; rfl
                  have QJ := Lib.hid (fun (u : After wc) => by have t_ := QI.out u; rw [HH.out] at t_; exact t_)
                  clear hh
                  go_wp2
                  refine wp_region_after (by kernel_rfl) (by kernel_rfl) ?_
                  repeat (go_big_quiet_step (first | (go_at_call 121; exact calls_after (QJ.out _))))
                  refine wpQuiet_nil ?_
                  intro _ hw'
                  obtain ⟨u, hw''⟩ := hw'
                  subst hw''
                  go_wp2
                  go_roundw
                  case rel => exact ⟨k + 1, by go_num, hkl, by rw [HST.out, HON.out, ← HN.out]; first | rfl | go_num, (u.hb.block _ (blk_lt HX.out)).trans HX.out, below_next HB.out HB.out.size u.hb⟩
                  case measure => simp [intOf]; omega
              · have e2 : decide (0 ≤ z) = false := decide_eq_false hz0
                have HON : Hid (onP x.f0 t (f, z) = false) := by show _ = _; unfold onP; rw [e2]; rfl
                go_wp2
                refine wp_region_after (by kernel_rfl) (by kernel_rfl) ?_
                repeat (go_big_quiet_step (fail))
                refine wpQuiet_nil ?_
                intro _ hw'
                obtain ⟨u, hw''⟩ := hw'
                subst hw''
                go_wp2
                go_roundw
                case rel => exact ⟨k + 1, by go_num, hkl, by rw [HST.out, HON.out, ← HN.out]; first | rfl | go_num, (u.hb.block _ (blk_lt HX.out)).trans HX.out, below_next HB.out HB.out.size u.hb⟩
                case measure => simp [intOf]; omega
            · obtain rfl : k = l.length := by omega
              obtain ⟨ad0', x', ea, hx', _, y1⟩ := capAt (Kd.C_below C0.out HB.out) i hlt
              injection ea with ea
              subst ea
              obtain rfl : x = x' := Option.some.inj (HX0.out.symm.trans hx')
              have hno : ¬ x.f1 < (n : Int) := by have := HCap.out t; rw [← loadTo_all, ← HN.out] at this; omega
              have e2 : decide (x.f1 < (n : Int)) = false := decide_eq_false hno
              have j4 : IntKind.i64.wrap (t + 1) = t + 1 := IntWalk.i64_in _ (by omega)
              clear hx' hno
              go_wp2
              go_roundw
              case rel => exact ⟨t + 1, by go_num, by omega, by omega, HX, HB⟩
              case measure => simp [intOf]; omega
        · have e1 : decide (t < fr + 90) = false := decide_eq_false htl
          go_wp2
          go_roundw
          case rel => exact ⟨i + 1, by go_num, hlt, HX, HB⟩
          case measure => simp [intOf]; omega
    · go_wp2
      go_ret
      exact ⟨rfl, HB.out⟩
end Go.Proofs.Ytkfoeplefajkcaa.Q
end
