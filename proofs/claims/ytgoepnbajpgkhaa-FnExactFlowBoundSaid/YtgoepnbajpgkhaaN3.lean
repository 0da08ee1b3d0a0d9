/- Contracts: FlowBound of the program. -/
import Derived.Test.YtgoepnbajpgkhaaN2
namespace Go.Proofs.Ytgoepnbajpgkhaa.Q
open Go.RowKit Go.Proofs.YtgoepnbajpgkhaaW.PrintWords Go.Proofs.Ytgoepnbajpgkhaa.Core
set_option linter.unusedVariables false
set_option linter.unusedSimpArgs false

theorem sortL_sorted (xs : List Int) : (sortL xs).Pairwise (· ≤ ·) := by
  have h := List.pairwise_mergeSort (le := fun x y => decide (x ≤ y)) (fun a b c h1 h2 => by simp at h1 h2 ⊢; omega) (fun a b => by simp; omega) xs
  exact h.imp (fun h => by simpa using h)
theorem sortL_comes (sec : ByteArray) (l : List Flight) : sortL (comesOf sec l) = sortedTo sec l l.length :=
  sorted_unique _ _ (sortL_sorted _) (sortedTo_spec sec l).1 ((List.mergeSort_perm _ _).trans (sortedTo_spec sec l).2.symm)
theorem boundN_impl {caps : List Cap} {l : List Flight} (sec : ByteArray) (hc : capsB caps = true) (hf : flightsB l = true) (h1 : 1 ≤ lastCap sec caps 0) : boundN caps l sec = runI (lastCap sec caps 0) (sortL (comesOf sec l)) (-1) 0 0 := by
  obtain ⟨e1, e2⟩ := last_cap hc sec
  have hcap : 1 ≤ capOf sec caps := by omega
  unfold boundN
  rw [if_pos ⟨hc, hf, hcap⟩, sortL_comes, e2 hcap]
  obtain ⟨cn, hcn⟩ : ∃ cn : Nat, capOf sec caps = cn := ⟨(capOf sec caps).toNat, by omega⟩
  rw [hcn, Int.toNat_natCast]
  exact run_all (by omega) _ (fun t ht => (sorted_range (flightsB_parts hf).2.1 sec t ht).1) (sortedTo_spec sec l).1
theorem boundN_zero {caps : List Cap} {l : List Flight} (sec : ByteArray) (hc : capsB caps = true) (h1 : lastCap sec caps 0 < 1) : boundN caps l sec = 0 := by
  have := (last_cap hc sec).1.1 h1
  unfold boundN
  rw [if_neg (by rintro ⟨_, _, h⟩; omega)]
theorem nowT_parts {c now n t : Int} : (now < t → n = n → (0 = c → nowT c now n t = (t + 1, 1)) ∧ (¬0 = c → nowT c now n t = (t, 1))) ∧ (¬now < t → (n = c → nowT c now n t = (now + 1, 1)) ∧ (¬n = c → nowT c now n t = (now, n + 1))) := by
  refine ⟨fun h _ => ⟨fun h2 => ?_, fun h2 => ?_⟩, fun h => ⟨fun h2 => ?_, fun h2 => ?_⟩⟩
  · unfold nowT; simp only [h, if_true]; rw [if_pos h2]
  · unfold nowT; simp only [h, if_true]; rw [if_neg h2]; rfl
  · unfold nowT; simp only [h, if_false]; rw [if_pos h2]
  · unfold nowT; simp only [h, if_false]; rw [if_neg h2]

set_option maxRecDepth 100000 in
set_option maxHeartbeats 4000000 in
theorem impl_bound_any (A : Option Addr) (c : Nat) (caps : List Cap) (A1 : Option Addr) (c1 : Nat) (l : List Flight) (sec : ByteArray) (w : World) (hr : Kd.C k46 w A caps.length caps) (hr1 : Kd.C k50 w A1 l.length l) :
    Calls Try.prog 9 #[.slice A caps.length c, .slice A1 l.length c1, .string sec] w fun e w' => e = .returned (.int .i64 (boundN caps l sec)) ∧ Below w.heap.size w w' := by
  have QC := Lib.hid (impl_capsOk_any A c caps w hr (C_len hr))
  have QF := Lib.hid (fun W (h : Below w.heap.size w W) => impl_flightsOk_any A1 c1 l W (Kd.C_below hr1 h) (C_len hr1))
  cases hc : capsB caps with
  | false =>
    go_enter Try.func9, Try.ntmps9
    go_wp2_with (first
      | (go_at_call 20; refine QC.out.mono ?_; rintro e w2 ⟨rfl, hb2⟩; rw [hc])
      | go_in)
    go_ret
    exact ⟨ret_int (by simp [boundN, hc]), hb2⟩
  | true =>
  have HC := Lib.hid hc
  cases hf : flightsB l with
  | false =>
    clear hc
    go_enter Try.func9, Try.ntmps9
    go_wp2_with (first
      | (go_at_call 20; refine QC.out.mono ?_; rintro e w2 ⟨rfl, hb2⟩; rw [HC.out])
      | (go_at_call 21; refine (QF.out _ hb2).mono ?_; rintro e w3 ⟨rfl, hb3⟩; rw [hf])
      | go_in)
    go_ret
    exact ⟨ret_int (by simp [boundN, hf]), below_next hb2 hb2.size hb3⟩
  | true =>
  have HF := Lib.hid hf
  obtain ⟨hc6, hcb, _⟩ := capsB_parts hc
  obtain ⟨hl8, hfs, _⟩ := flightsB_parts hf
  have HCB := Lib.hid hcb
  have HFS := Lib.hid hfs
  have HCR := Lib.hid (comes_range hfs sec)
  clear hc hf hcb hfs
  go_enter Try.func9, Try.ntmps9
  go_wp2_with (first
    | (go_at_call 20; refine QC.out.mono ?_; rintro e w2 ⟨rfl, hb2⟩; rw [HC.out])
    | (go_at_call 21; refine (QF.out _ hb2).mono ?_; rintro e w3 ⟨rfl, hb3⟩; rw [HF.out])
    | go_in)
  have hb := below_next hb2 hb2.size hb3
  clear hb2 hb3
  go_loopw [7, 30] (fun lm v wr => ∃ (k : Nat) (n : Int), v = .int .i64 k ∧ k ≤ caps.length ∧ lm = .int .i64 n ∧ 0 ≤ n ∧ n ≤ 20 ∧ Hid (lastCap sec caps 0 = lastCap sec (caps.drop k) n) ∧ Below w.heap.size w wr) (fun _ v _ => caps.length - (intOf v).toNat)
  case atStart => exact ⟨0, 0, rfl, Nat.zero_le _, rfl, by omega, by omega, rfl, hb⟩
  case round =>
    clear hb
    obtain ⟨k, n, rfl, hk, rfl, hn0, hn1, hF, hb⟩ := hrel
    by_cases hlt : k < caps.length
    · obtain ⟨ad, x, rfl, hx, x0, x1⟩ := capAt (Kd.C_below hr hb) k hlt
      have j4 : (k : Int) < caps.length := by omega
      have HX := Lib.hid (lastCap_step hx sec n)
      have hxb := (capB_parts (HCB.out x (List.mem_of_getElem? hx))).2
      clear hx
      by_cases hsec : x.f0 = sec
      · have e3 := str_same hsec
        have HS := Lib.hid hsec
        clear hsec
        go_wp2
        go_roundw
        case rel => exact ⟨k + 1, x.f1, by go_num, by omega, rfl, by omega, by omega, by show _ = _; rw [hF.out, HX.out, if_pos HS.out], hb.alloc hb.size _⟩
        case measure => simp [intOf]; omega
      · have e3 := str_other hsec
        have HS := Lib.hid hsec
        clear hsec
        go_wp2
        go_roundw
        case rel => exact ⟨k + 1, n, by go_num, by omega, rfl, by omega, by omega, by show _ = _; rw [hF.out, HX.out, if_neg HS.out], hb.alloc hb.size _⟩
        case measure => simp [intOf]; omega
    · obtain rfl : k = caps.length := by omega
      have hF' : Hid (lastCap sec caps 0 = n) := by show _ = _; rw [hF.out, List.drop_length]; rfl
      clear hF
      by_cases hlim : n < 1
      · have e1 : decide (n < 1) = true := decide_eq_true hlim
        have HN := Lib.hid hlim
        go_wp2
        go_ret
        exact ⟨ret_int (boundN_zero sec HC.out (by rw [hF'.out]; exact HN.out)).symm, hb⟩
      have e1 : decide (n < 1) = false := decide_eq_false hlim
      have HB : Hid (boundN caps l sec = runI n (sortL (comesOf sec l)) (-1) 0 0) := by show _ = _; rw [boundN_impl sec HC.out HF.out (by rw [hF'.out]; omega), hF'.out]
      clear hF'
      go_wp2
      obtain ⟨W3, hW3⟩ : ∃ V, V = wr := ⟨_, rfl⟩
      subst hW3
      go_loopw [10, 46] (fun cs v wq => ∃ (k : Nat) (xs : List Int), v = .int .i64 k ∧ k ≤ l.length ∧ xs.length ≤ k ∧ Hid (xs = comesOf sec (l.take k)) ∧ Hid (Kd.R (Kd.int .i64) 3 wq W3.heap.size (fun _ => True) cs xs) ∧ Below W3.heap.size W3 wq) (fun _ v _ => l.length - (intOf v).toNat)
      case atStart => exact ⟨0, [], rfl, Nat.zero_le _, Nat.zero_le _, by show _ = _; simp [comesOf], R_made W3 _, (Below.refl _ _).alloc (Nat.le_refl _) _⟩
      case round =>
        obtain ⟨k, xs, rfl, hk, hxl, hXS, hO, hq⟩ := hrel
        obtain ⟨Y, cY, rfl, hcY, hY⟩ := Kd.R_reads hO.out
        clear hY
        by_cases hlt : k < l.length
        · obtain ⟨ad, f, A3, c3, rfl, hf, f0, f1, f2, f3, hl3, hr3⟩ := flightAt hr1 k hlt
          have hbw := below_next hb hb.size hq
          have HW := Lib.hid hbw
          have f0 := pw_cell_below hbw f0
          have f1 := pw_cell_below hbw f1
          have f2 := pw_cell_below hbw f2
          have f3 := pw_cell_below hbw f3
          have HX := Lib.hid (comes_step hf sec)
          have hfb := flightB_parts (HFS.out f (List.mem_of_getElem? hf))
          have HV := Lib.hid (visitsB_parts hfb.2.2.2.2.2)
          have b1 := hfb.2.1
          have b2 := hfb.2.2.1
          clear hf hfb hbw
          go_wp2
          have hqs := hq.size
          go_loopw [10, 53] (fun cs v wq => ∃ j : Nat, v = .int .i64 j ∧ cs = .slice Y xs.length cY ∧ j ≤ f.f3.length ∧ Hid (firstOf f.f1 sec f.f3 = firstOf f.f1 sec (f.f3.drop j)) ∧ Hid (Kd.R (Kd.int .i64) 3 wq W3.heap.size (fun _ => True) (.slice Y xs.length cY) xs) ∧ wq.cell? ⟨wr.heap.size, 1, none⟩ = some (.int .i64 f.f1) ∧ Below wr.heap.size wr wq) (fun _ v _ => f.f3.length - (intOf v).toNat)
          case atStart => exact ⟨0, rfl, rfl, Nat.zero_le _, rfl, Kd.R_alloc hO.out _, by simp, (Below.refl _ _).alloc (Nat.le_refl _) _⟩
          case round =>
            clear f0 f1 f2 f3 hO
            obtain ⟨j, rfl, rfl, hj, hF, hO, g1, hj2⟩ := hrel
            have hv5 : f.f3.length ≤ 5 := HV.out.2.1
            have hqj := below_next hq hqs hj2
            have hqjs := hqj.size
            by_cases hjt : j < f.f3.length
            · obtain ⟨ad3, v, rfl, hv, v0, v1, v2⟩ := visitAt (Kd.C_below hr3 (below_next hb hb.size hqj)) j hjt
              have j6 : (j : Int) < f.f3.length := by omega
              have HFX := Lib.hid (firstOf_step hv f.f1 sec)
              have hvb := visitB_stay (HV.out.2.2.1 v (List.mem_of_getElem? hv))
              clear hv
              by_cases hsec : v.f0 = sec
              · have e3 := str_same hsec
                have HS := Lib.hid hsec
                clear hsec
                have j7 : IntKind.i64.wrap (f.f1 + v.f1) = f.f1 + v.f1 := IntWalk.i64_in _ (by omega)
                have g1 := cell_al g1 (.cells #[.string v.f0, .int .i64 v.f1, .int .i64 v.f2] 53)
                go_wp2_with (first
                  | (at_builtin; refine Kd.R_append_row (w0 := W3) (Value.int .i64) 0 W3.heap.size rfl _ _ 44 3 (.int .i64 0) 8 rfl Try.underlying44 infoInt rfl (by decide) (.slice Y xs.length cY) xs [f.f1 + v.f1] (some ⟨wr.heap.size + 1, 0, none⟩) 1 1 (fun _ => True) rfl rfl (fun _ _ => trivial) (Kd.R_alloc (Kd.R_alloc hO.out _) _) (C_one (by simp)) ((hqj.alloc hqjs _).alloc (by first | omega | (simp <;> omega)) _) (by first | omega | (simp <;> omega)) (by first | omega | (simp <;> omega)) ?_; intro v1 w1 ho hb1 hg1 hat1)
                  | go_in)
                go_roundw
                case rel => exact ⟨k + 1, xs ++ [f.f1 + v.f1], by go_num, by omega, by simp; omega, by show _ = _; rw [HX.out, hF.out, HFX.out, if_pos HS.out, if_pos (by omega), hXS.out], ho, hb1⟩
                case measure => simp [intOf]; omega
              · have e3 := str_other hsec
                have HS := Lib.hid hsec
                clear hsec
                go_wp2
                go_roundw
                case rel => exact ⟨j + 1, by go_num, rfl, by omega, by show _ = _; rw [hF.out, HFX.out, if_neg HS.out], Kd.R_alloc hO.out _, cell_al g1 _, hj2.alloc hj2.size _⟩
                case measure => simp [intOf]; omega
            · obtain rfl : j = f.f3.length := by omega
              have HN : Hid (firstOf f.f1 sec f.f3 = -1) := by show _ = _; rw [hF.out, List.drop_length]; rfl
              go_wp2
              go_roundw
              case rel => exact ⟨k + 1, xs, by go_num, by omega, by omega, by show _ = _; rw [HX.out, HN.out, if_neg (by omega), List.append_nil, hXS.out], hO.out, hqj⟩
              case measure => simp [intOf]; omega
        · obtain rfl : k = l.length := by omega
          rw [List.take_length] at hXS
          have hqs := hq.size
          go_wp2_with (first
            | (go_at_call 22; refine (sortInts_any (.slice Y xs.length cY) xs wr W3.heap.size (by omega) hO.out hqs).mono ?_; rintro e w5 ⟨rfl, ho5, hb5, hg5⟩; have hX := R_readC ho5)
            | go_in)
          have hb6 := Lib.hid (below_next hb hb.size (hq.trans hb5))
          have HTR : Hid (∀ t ∈ sortL xs, 0 ≤ t ∧ t ≤ 10200) := fun t ht => HCR.out t (by rw [← hXS.out]; exact (List.mergeSort_perm _ _).mem_iff.1 ht)
          have hsl : (sortL xs).length ≤ 8 := by rw [sortL_length]; omega
          rw [← hXS.out] at HB
          obtain ⟨ts, hts⟩ : ∃ ts, ts = sortL xs := ⟨_, rfl⟩
          rw [← hts] at HB HTR hsl hX
          have hxt : xs.length = ts.length := by rw [hts, sortL_length]
          rw [hxt] at hX ⊢
          clear hts ho5 hb5 hg5 hO hq hqs hXS hb
          go_loopw [15, 16, 17, 75] (fun nv mv sv v wq => ∃ (k : Nat) (now m late : Int), v = .int .i64 k ∧ k ≤ ts.length ∧ nv = .int .i64 now ∧ -1 ≤ now ∧ now ≤ 10200 + k ∧ mv = .int .i64 m ∧ 0 ≤ m ∧ m ≤ k ∧ sv = .int .i64 late ∧ 0 ≤ late ∧ late ≤ 20000 * k ∧ Hid (runI n ts (-1) 0 0 = runI n (ts.drop k) now m late) ∧ wq = w5) (fun _ _ _ v _ => ts.length - (intOf v).toNat)
          case atStart => exact ⟨0, -1, 0, 0, rfl, Nat.zero_le _, rfl, by omega, by omega, rfl, by omega, by omega, rfl, by omega, by omega, rfl, rfl⟩
          case round =>
            obtain ⟨k, now, m, late, rfl, hk2, rfl, hn2, hn3, rfl, hm0, hm1, rfl, hs0, hs1, hR, rfl⟩ := hrel
            by_cases hkt : k < ts.length
            · obtain ⟨ad, t, rfl, ht, t0⟩ := intAt hX k hkt
              have j4 : (k : Int) < ts.length := by omega
              have htr := HTR.out t (List.mem_of_getElem? ht)
              have HST := Lib.hid (runI_step ht n now m late)
              have HP := Lib.hid (nowT_parts (c := n) (now := now) (n := m) (t := t))
              clear ht
              by_cases hnt : now < t
              · have e4 : decide (now < t) = true := decide_eq_true hnt
                have hz : ¬ (0 : Int) = n := by omega
                have e5 : ((0 : Int) == n) = false := by simp [hz]
                have HE := Lib.hid ((HP.out.1 hnt rfl).2 hz)
                clear hz
                go_wp2
                go_roundw
                case rel => exact ⟨k + 1, t, 1, late + (t - t), by go_num, by omega, rfl, by omega, by omega, rfl, by omega, by omega, by go_num, by omega, by omega, by show _ = _; rw [hR.out, HST.out, HE.out], by first | rfl | trivial⟩
                case measure => simp [intOf]; omega
              · have e4 : decide (now < t) = false := decide_eq_false hnt
                by_cases hmn : m = n
                · have e5 : (m == n) = true := by simp [hmn]
                  have HE := Lib.hid ((HP.out.2 hnt).1 hmn)
                  have HMN := Lib.hid hmn
                  clear hmn
                  go_wp2
                  go_roundw
                  case rel => exact ⟨k + 1, now + 1, 1, late + (now + 1 - t), by go_num, by omega, by go_num, by omega, by omega, rfl, by omega, by omega, by go_num, by omega, by omega, by show _ = _; rw [hR.out, HST.out, HE.out], by first | rfl | trivial⟩
                  case measure => simp [intOf]; omega
                · have e5 : (m == n) = false := by simp [hmn]
                  have HE := Lib.hid ((HP.out.2 hnt).2 hmn)
                  have HMN := Lib.hid hmn
                  clear hmn
                  go_wp2
                  go_roundw
                  case rel => exact ⟨k + 1, now, m + 1, late + (now - t), by go_num, by omega, rfl, by omega, by omega, by go_num, by omega, by omega, by go_num, by omega, by omega, by show _ = _; rw [hR.out, HST.out, HE.out], by first | rfl | trivial⟩
                  case measure => simp [intOf]; omega
            · go_wp2
              go_ret
              obtain rfl : k = ts.length := by omega
              exact ⟨ret_int (by rw [HB.out, hR.out, List.drop_length]; rfl), hb6.out⟩
end Go.Proofs.Ytgoepnbajpgkhaa.Q
