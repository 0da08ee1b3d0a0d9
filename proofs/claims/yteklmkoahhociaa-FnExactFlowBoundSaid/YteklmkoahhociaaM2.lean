/- Contracts: FlowLoad, the program's and the reference's. -/
import Derived.Test.YteklmkoahhociaaM1
namespace Go.Proofs.Yteklmkoahhociaa.Q
open Go.RowKit Go.Proofs.YteklmkoahhociaaW.PrintWords Go.Proofs.Yteklmkoahhociaa.Core Go.Maps
set_option linter.unusedVariables false
set_option linter.unusedSimpArgs false

theorem loadN_same {l : List Flight} {s : List Int} (h : slotsB l s = true) (sec : ByteArray) (t : Int) : loadN l s sec t = cntTo l s sec t l.length := by
  unfold loadN
  rw [if_pos h, cnt_load (flightsB_parts (slotsB_parts h).1).2.1]

set_option maxRecDepth 100000 in
set_option maxHeartbeats 2000000 in
theorem impl_load_any (A : Option Addr) (c : Nat) (l : List Flight) (A1 : Option Addr) (c1 : Nat) (s : List Int) (sec : ByteArray) (tick : Int) (w : World) (hr : Kd.C k79 w A l.length l) (hr1 : Kd.C (Kd.int .i64) w A1 s.length s) (ht : (Lit.int .i64 tick).wf = true) :
    Calls Try.prog 30 #[.slice A l.length c, .slice A1 s.length c1, .string sec, .int .i64 tick] w fun e w' => e = .returned (.int .i64 (loadN l s sec tick)) ∧ Below w.heap.size w w' := by
  have QS := Lib.hid (impl_slotsOk_any A c l A1 c1 s w hr hr1)
  cases hs : slotsB l s with
  | false =>
    go_enter Try.func30, Try.ntmps30
    go_wp2_with (first | (go_at_call 65; refine QS.out.mono ?_; rintro e w1 ⟨rfl, hb⟩))
    go_ret
    exact ⟨ret_int (by simp [loadN, hs]), hb⟩
  | true =>
    have HN := Lib.hid (loadN_same hs sec tick)
    have QL := Lib.hid (fun W (h : Below w.heap.size w W) => impl_loads_any A c l A1 c1 s sec W (Kd.C_below hr h) (Kd.C_below hr1 h) hs)
    have hk1 : keyOf Try.prog 3 (.int .i64 tick) = some (.int .i64 tick) := keyOf_int_mk Try.underlying3 ht
    go_enter Try.func30, Try.ntmps30
    go_wp2_with (first
      | (go_at_call 65; refine QS.out.mono ?_; rintro e w1 ⟨rfl, hb⟩)
      | (go_at_call 67; refine (QL.out _ hb).mono ?_; rintro e w2 ⟨rfl, ⟨D, hown, hIs, hD⟩, hb2⟩; have HD := Lib.hid (hD tick).1; clear hD)
      | (at_lookup; refine wpList_lookup_own_int _ rfl _ _ 85 rfl 3 3 .i64 lawInt Try.underlying85 Try.underlying3 (zeroInt _) w1.heap.size _ _ rfl hown _ _ rfl hk1 ?_; intro cc hat hwc; have HC := Lib.hid hat; clear hat)
      | go_in)
    go_ret
    refine ⟨ret_int ?_, below_next hb hb.size hb2⟩
    have h := HC.out
    rw [HD.out] at h
    injection h with h
    injection h with _ h
    rw [HN.out, h]

theorem hasB_drop {vs : List Visit} {k : Nat} {v : Visit} (h : vs[k]? = some v) (x : Int) (sec : ByteArray) (t : Int) : hasB x sec t (vs.drop k) = (coversB x sec t v || hasB x sec t (vs.drop (k + 1))) := by
  have hk := some_lt h
  unfold hasB
  rw [List.drop_eq_getElem_cons hk, List.any_cons]
  rw [List.getElem?_eq_getElem hk] at h
  rw [Option.some.inj h]

set_option maxRecDepth 100000 in
set_option maxHeartbeats 2000000 in
theorem spec_has_any (f : Flight) (A3 : Option Addr) (c3 : Nat) (z : Int) (sec : ByteArray) (tick : Int) (w : World) (hr : Kd.C k95 w A3 f.f3.length f.f3) (hv : visitsB f.f3 = true) (hz : -1 ≤ z ∧ z ≤ 10060) :
    Calls Try.prog 85 #[.agg #[.string f.f0, .int .i64 f.f1, .int .i64 f.f2, .slice A3 f.f3.length c3], .int .i64 z, .string sec, .int .i64 tick] w fun e w' => e = .returned (.bool (hasB z sec tick f.f3)) ∧ Below w.heap.size w w' := by
  obtain ⟨f0, f1, f2, vs⟩ := f
  simp only at hr hv ⊢
  obtain ⟨_, hv5, hvs, _⟩ := visitsB_parts hv
  have HV := Lib.hid hvs
  have QI := Lib.hid quiet_in
  clear hvs hv
  go_enter Try.func85, Try.ntmps85
  go_wp2
  go_loopw [9] (fun v wr => ∃ k : Nat, k ≤ vs.length ∧ v = .int .i64 k ∧ Hid (hasB z sec tick vs = hasB z sec tick (vs.drop k)) ∧ Below (w.heap.size + 1) (w.alloc (.cells #[.string f0, .int .i64 f1, .int .i64 f2, .slice A3 vs.length c3] 79)) wr) (fun v _ => vs.length - (intOf v).toNat)
  case atStart => exact ⟨0, Nat.zero_le _, rfl, rfl, Below.refl _ _⟩
  case round =>
    obtain ⟨k, hk, rfl, hF, hb⟩ := hrel
    have hsz : w.heap.size + 1 ≤ wr.heap.size := by have := hb.size; simpa using this
    have hBW := Lib.hid (((Below.refl _ _).alloc (Nat.le_refl _) _).trans (hb.mono (by omega)) : Below w.heap.size w wr)
    have c3 := (hb.cell (p := ⟨w.heap.size, 3, none⟩) (by simp)).trans (show _ = some (Value.slice A3 vs.length c3) by simp)
    by_cases hlt : k < vs.length
    · obtain ⟨ad3, v, rfl, hx, v0, v1, v2⟩ := visitAt (Kd.C_below hr hBW.out) k hlt
      have j6 : (k : Int) < vs.length := by omega
      have HX := Lib.hid (hasB_drop hx z sec tick)
      have hvb := visitB_stay (HV.out v (List.mem_of_getElem? hx))
      clear hx
      by_cases hsec : v.f0 = sec
      · have e3 := str_same hsec
        have HS := Lib.hid hsec
        clear hsec
        have j7 : IntKind.i64.wrap (z + v.f1) = z + v.f1 := IntWalk.i64_in _ (by omega)
        have j8 : IntKind.i64.wrap (z + v.f1 + v.f2) = z + v.f1 + v.f2 := IntWalk.i64_in _ (by omega)
        have j9 : IntKind.i64.wrap (z + v.f1 + v.f2 - 1) = z + v.f1 + v.f2 - 1 := IntWalk.i64_in _ (by omega)
        clear hvb
        cases hi : inB tick (z + v.f1) (z + v.f1 + v.f2 - 1) with
        | true =>
          go_wp2_with (first | (go_at_call 54; refine (QI.out _ _ _ _).mono ?_; rintro e w' ⟨rfl, rfl⟩) | go_in)
          go_ret
          exact ⟨ret_bool (by rw [hF.out, HX.out, coversB, HS.out, hi]; simp), hBW.out.alloc hBW.out.size _⟩
        | false =>
          go_wp2_with (first | (go_at_call 54; refine (QI.out _ _ _ _).mono ?_; rintro e w' ⟨rfl, rfl⟩) | go_in)
          go_roundw
          case rel => exact ⟨k + 1, by omega, by go_num, by show _ = _; rw [hF.out, HX.out, coversB, HS.out, hi]; simp, hb.alloc (by simpa using hsz) _⟩
          case measure => simp [intOf]; omega
      · have e3 := str_other hsec
        have HS := Lib.hid hsec
        clear hsec hvb
        go_wp2
        go_roundw
        case rel => exact ⟨k + 1, by omega, by go_num, by show _ = _; rw [hF.out, HX.out, coversB]; simp [HS.out], hb.alloc (by simpa using hsz) _⟩
        case measure => simp [intOf]; omega
    · go_wp2
      go_ret
      obtain rfl : k = vs.length := by omega
      exact ⟨ret_bool (by rw [hF.out, List.drop_length]; rfl), hBW.out⟩

set_option maxRecDepth 100000 in
set_option maxHeartbeats 2000000 in
theorem spec_l2Load_any (A : Option Addr) (c : Nat) (l : List Flight) (A1 : Option Addr) (c1 : Nat) (s : List Int) (sec : ByteArray) (tick : Int) (w : World) (hr : Kd.C k79 w A l.length l) (hr1 : Kd.C (Kd.int .i64) w A1 s.length s) (hs : slotsB l s = true) :
    Calls Try.prog 66 #[.slice A l.length c, .slice A1 s.length c1, .string sec, .int .i64 tick] w fun e w' => e = .returned (.int .i64 (loadTo l s sec tick l.length)) ∧ Below w.heap.size w w' := by
  obtain ⟨hfl, hlen, hsb⟩ := slotsB_parts hs
  obtain ⟨hl8, hfs, _⟩ := flightsB_parts hfl
  have HL := Lib.hid hlen
  have HFS := Lib.hid hfs
  have HSB := Lib.hid hsb
  clear hlen hsb hfs hfl hs
  go_enter Try.func66, Try.ntmps66
  go_wp2
  go_loopw [9, 10] (fun n v wr => ∃ (k m : Nat), k ≤ l.length ∧ v = .int .i64 k ∧ n = .int .i64 m ∧ m ≤ k ∧ Hid (m = loadTo l s sec tick k) ∧ Below w.heap.size w wr) (fun _ v _ => l.length - (intOf v).toNat)
  case atStart => exact ⟨0, 0, Nat.zero_le _, rfl, rfl, Nat.le_refl _, (loadTo_zero _ _ _ _).symm, Below.refl _ _⟩
  case round =>
    obtain ⟨k, m, hk, rfl, rfl, hm, hF, hb⟩ := hrel
    by_cases hlt : k < l.length
    · obtain ⟨ad, f, A3, c3, rfl, hf, f0, f1, f2, f3, hl3, hr3⟩ := flightAt (Kd.C_below hr hb) k hlt
      obtain ⟨ad1, z, rfl, hz, z0⟩ := intAt (Kd.C_below hr1 hb) k (by rw [HL.out]; exact hlt)
      have j4 : (k : Int) < l.length := by omega
      have j5 : (k : Int) < s.length := by rw [HL.out]; omega
      have HFZ := Lib.hid (loadTo_step hf hz sec tick)
      have hzb := HSB.out z (List.mem_of_getElem? hz)
      have QF := Lib.hid (fun u : After wr => spec_has_any f A3 c3 z sec tick u.w (Kd.C_below hr3 u.hb) (flightB_parts (HFS.out f (List.mem_of_getElem? hf))).2.2.2.2.2 hzb)
      have b0 := After.cell f0
      have b1 := After.cell f1
      have b2 := After.cell f2
      have b3 := After.cell f3
      have b4 := After.cell z0
      clear hf hz hr3 hl3 hzb
      by_cases hi : 0 ≤ z
      · have e1 : decide (0 ≤ z) = true := decide_eq_true hi
        cases hh : hasB z sec tick f.f3 with
        | true =>
          go_wp2
          refine wp_region_after (by kernel_rfl) (by kernel_rfl) ?_
          repeat (go_big_quiet_step (first | (go_at_call 85; exact calls_after (QF.out _))))
          refine wpQuiet_nil ?_
          intro _ hw'
          obtain ⟨u, hw''⟩ := hw'
          subst hw''
          go_wp2
          go_roundw
          case rel => exact ⟨k + 1, m + 1, by omega, by go_num, by go_num, by omega, by show _ = _; rw [HFZ.out, ← hF.out, onP, hh]; simp [hi], below_next hb hb.size u.hb⟩
          case measure => simp [intOf]; omega
        | false =>
          have HH := Lib.hid hh
          go_wp2
          refine wp_region_after (by kernel_rfl) (by kernel_rfl) ?_
          repeat (go_big_quiet_step (first | (go_at_call 85; exact calls_after (QF.out _))))
          refine wpQuiet_nil ?_
          intro _ hw'
          obtain ⟨u, hw''⟩ := hw'
          subst hw''
          go_wp2
          go_roundw
          case rel => exact ⟨k + 1, m, by omega, by go_num, rfl, by omega, by show _ = _; rw [HFZ.out, ← hF.out, onP]; simp [HH.out], below_next hb hb.size u.hb⟩
          case measure => simp [intOf]; omega
      · have e1 : decide (0 ≤ z) = false := decide_eq_false hi
        have HI := Lib.hid hi
        go_wp2
        refine wp_region_after (by kernel_rfl) (by kernel_rfl) ?_
        repeat (go_big_quiet_step (fail))
        refine wpQuiet_nil ?_
        intro _ hw'
        obtain ⟨u, hw''⟩ := hw'
        subst hw''
        go_wp2
        go_roundw
        case rel => exact ⟨k + 1, m, by omega, by go_num, rfl, by omega, by show _ = _; rw [HFZ.out, ← hF.out]; simp [onP, show ¬(0 ≤ z) by omega], below_next hb hb.size u.hb⟩
        case measure => simp [intOf]; omega
    · go_wp2
      go_ret
      obtain rfl : k = l.length := by omega
      exact ⟨ret_int (by rw [hF.out]), hb⟩

set_option maxRecDepth 100000 in
set_option maxHeartbeats 2000000 in
theorem spec_load_any (A : Option Addr) (c : Nat) (l : List Flight) (A1 : Option Addr) (c1 : Nat) (s : List Int) (sec : ByteArray) (tick : Int) (w : World) (hr : Kd.C k79 w A l.length l) (hr1 : Kd.C (Kd.int .i64) w A1 s.length s) :
    Calls Try.prog 29 #[.slice A l.length c, .slice A1 s.length c1, .string sec, .int .i64 tick] w fun e w' => e = .returned (.int .i64 (loadN l s sec tick)) ∧ Below w.heap.size w w' := by
  have QS := Lib.hid (spec_slotsOk_any A c l A1 c1 s w hr hr1)
  cases hs : slotsB l s with
  | false =>
    go_enter Try.func29, Try.ntmps29
    go_wp2_with (first | (go_at_call 64; refine QS.out.mono ?_; rintro e w1 ⟨rfl, hb⟩))
    go_ret
    exact ⟨ret_int (by simp [loadN, hs]), hb⟩
  | true =>
    have QL := Lib.hid (fun W (h : Below w.heap.size w W) => spec_l2Load_any A c l A1 c1 s sec tick W (Kd.C_below hr h) (Kd.C_below hr1 h) hs)
    go_enter Try.func29, Try.ntmps29
    go_wp2_with (first
      | (go_at_call 64; refine QS.out.mono ?_; rintro e w1 ⟨rfl, hb⟩)
      | (go_at_call 66; refine (QL.out _ hb).mono ?_; rintro e w2 ⟨rfl, hb2⟩)
      | go_in)
    go_ret
    exact ⟨ret_int (by simp [loadN, hs]), below_next hb hb.size hb2⟩
end Go.Proofs.Yteklmkoahhociaa.Q
