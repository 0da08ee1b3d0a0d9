/- Proved: for every input that can be read, laws.FnLoad answers true and each argument reads behind the call as it read before. No conditions. -/
import Derived.Test.YtkfoeplefajkcaaMgE
import Derived.Test.YtkfoeplefajkcaaMgV
import Derived.Test.YtkfoeplefajkcaaMgC
import Derived.Test.YtkfoeplefajkcaaMgR
import Derived.Test.YtkfoeplefajkcaaRows
import Derived.Test.YtkfoeplefajkcaaMgS
import Derived.WalkKit
import Derived.ProofKit
import Derived.OpenShut
import Derived.ShutString
import Derived.ChangeOld
import Derived.Below
import Derived.SizedLaws

/- The walk of the law FnLoad. -/
section
namespace Go.Proofs.Ytkfoeplefajkcaa.Q
open Go.RowKit Go.Proofs.YtkfoeplefajkcaaW.PrintWords Go.Proofs.YtkfoeplefajkcaaW.PrintLast Go.Proofs.YtkfoeplefajkcaaW.PrintMore Go.Proofs.Ytkfoeplefajkcaa.Core
set_option linter.unusedVariables false
set_option linter.unusedSimpArgs false

theorem wf_small {x : Int} (h0 : -1000000 ≤ x) (h1 : x ≤ 1000000) : (Lit.int .i64 x).wf = true := by
  have e0 : IntKind.i64.min = -9223372036854775808 := by decide
  have e1 : IntKind.i64.max = 9223372036854775807 := by decide
  simp [Lit.wf, e0, e1]
  omega
theorem runCell {w : World} {A : Option Addr} {xs : List Run} (h : Kd.C k85 w A xs.length xs) (k : Nat) (hk : k < xs.length) :
    ∃ ad r, A = some ad ∧ xs[k]? = some r ∧ w.cell? (ad.add (k * 3)) = some (.int .i64 r.f0) ∧ w.cell? ⟨(ad.add (k * 3)).block, (ad.add (k * 3)).off + 1, none⟩ = some (.int .i64 r.f1) ∧ w.cell? ⟨(ad.add (k * 3)).block, (ad.add (k * 3)).off + 2, none⟩ = some (.int .i64 r.f2) := by
  obtain ⟨ad, e, h0, h1, h2⟩ := at_T85 h k (by omega) (by omega)
  have er : rd_T85 xs k = xs[k] := by
    unfold rd_T85
    rw [Int.toNat_natCast, List.getD_eq_getElem?_getD, List.getElem?_eq_getElem hk]
    rfl
  rw [er] at h0 h1 h2
  exact ⟨ad, xs[k], e, List.getElem?_eq_getElem hk, h0, h1, h2⟩

set_option maxRecDepth 100000 in
set_option maxHeartbeats 8000000 in
theorem walk_fnload (A0 : Option Addr) (c0 : Nat) (l0 : List Int) (A9 : Option Addr) (c9 : Nat) (l9 : List Int) (w : World) (hr0 : Kd.C (Kd.int .u8) w A0 l0.length l0) (hc0 : l0.length ≤ c0) (hg0 : ∀ y ∈ l0, (fun y : Int => 0 ≤ y ∧ y ≤ 255) y) (hr9 : Kd.C (Kd.int .u8) w A9 l9.length l9) (hc9 : l9.length ≤ c9) (hg9 : ∀ y ∈ l9, (fun y : Int => 0 ≤ y ∧ y ≤ 255) y) :
    Calls Try.prog 11 #[.slice A0 l0.length c0, .slice A9 l9.length c9] w fun e w' => e = .returned (.bool true) ∧ Below w.heap.size w w' := by
  have HR := Lib.hid hr0
  have HG := Lib.hid (show byteL l0 from hg0)
  have HR9 := Lib.hid hr9
  have HG9 := Lib.hid (show byteL l9 from hg9)
  clear hr0 hg0 hr9 hg9
  by_cases hs : 1048576 < l0.length
  · have e1 : decide ((1048576 : Int) < l0.length) = true := by simp; omega
    go_enter Try.func11, Try.ntmps11
    go_wp2
    go_ret
    exact ⟨rfl, Below.refl _ _⟩
  have e1 : decide ((1048576 : Int) < l0.length) = false := by simp; omega
  by_cases hs9 : 1048576 < l9.length
  · have e2 : decide ((1048576 : Int) < l9.length) = true := by simp; omega
    go_enter Try.func11, Try.ntmps11
    go_wp2
    go_ret
    exact ⟨rfl, Below.refl _ _⟩
  have e2 : decide ((1048576 : Int) < l9.length) = false := by simp; omega
  go_enter Try.func11, Try.ntmps11
  go_wp2_with (fail)
  refine (drawLoad_any A0 c0 l0 _ HR.out hc0 HG.out).mono ?_
  rintro e w1 ⟨A1, c1, fl, A2, c2, s, sec, tick, hn1, hn2, ht0, ht1, rfl, ho1, ho2, hb1⟩
  have C1 := Lib.hid (fun W (h : Below w1.heap.size w1 W) => Kd.C_below (Kd.R_reads' ho1).2.2 h)
  have C2 := Lib.hid (fun W (h : Below w1.heap.size w1 W) => Kd.C_below (Kd.R_reads' ho2).2.2 h)
  have HB1 := Lib.hid hb1
  have B1 := Lib.hid (Below.refl w1.heap.size w1)
  have z1 := hb1.size
  clear ho1 ho2 hb1
  go_wp2_with (fail)
  refine (impl_runs_any A1 c1 fl A2 c2 s sec _ (C1.out _ B1.out) (C2.out _ B1.out)).mono ?_
  rintro e w2 ⟨v, rfl, ho, hb⟩
  obtain ⟨AR, cR, rfl⟩ := Kd.R_slice ho
  obtain ⟨rs, hrs⟩ : ∃ rs, rs = runsB fl s sec := ⟨_, rfl⟩
  have HOK : Hid (RunsOk (loadN fl s sec) 10300 rs) := by show RunsOk _ _ _; rw [hrs]; exact runsB_ok fl s sec
  have hrl : rs.length ≤ 10000000 := by rw [hrs]; exact runsB_len fl s sec
  rw [← hrs] at ho ⊢
  have CR := Lib.hid (fun W (h : Below w2.heap.size w2 W) => Kd.C_below (Kd.R_reads' ho).2.2 h)
  have B2 := Lib.hid (below_next B1.out B1.out.size hb)
  have R2 := Lib.hid (Below.refl w2.heap.size w2)
  have z2 := hb.size
  clear ho hb B1 hrs
  go_wp2_with (fail)
  refine (impl_load_any A1 c1 fl A2 c2 s sec tick _ (C1.out _ B2.out) (C2.out _ B2.out) (wf_small (by omega) (by omega))).mono ?_
  rintro e w3 ⟨rfl, hb⟩
  have B3 := Lib.hid (below_next B2.out B2.out.size hb)
  have R3 := Lib.hid (below_next R2.out R2.out.size hb)
  clear hb B2 R2
  go_wp2_with (fail)
  refine (spec_load_any A1 c1 fl A2 c2 s sec tick _ (C1.out _ B3.out) (C2.out _ B3.out)).mono ?_
  rintro e w4 ⟨rfl, hb⟩
  have B4 := Lib.hid (below_next B3.out B3.out.size hb)
  have R4 := Lib.hid (below_next R3.out R3.out.size hb)
  clear hb B3 R3
  go_wp2
  go_loopw [10, 11] (fun vk vt wr => ∃ (k : Nat) (t : Int), vk = .int .i64 k ∧ vt = .int .i64 t ∧ 0 ≤ t ∧ t ≤ 90 ∧ k ≤ rs.length ∧ Hid (∀ (i : Nat) (r : Run), i < k → rs[i]? = some r → r.f1 < t) ∧ Hid (Below w1.heap.size w1 wr) ∧ Hid (Below w2.heap.size w2 wr)) (fun _ vt _ => (90 - intOf vt).toNat)
  case atStart => exact ⟨0, 0, rfl, rfl, Int.le_refl _, by omega, Nat.zero_le _, (fun i r h => by omega), B4, R4⟩
  case round =>
    clear B4 R4
    obtain ⟨k, t, rfl, rfl, ht0, ht1, hk, HLO, HB, HRb⟩ := hrel
    obtain ⟨wa, rfl⟩ : ∃ wo : World, wo = wr := ⟨_, rfl⟩
    by_cases htl : t < 90
    · have e3 : decide (t < 90) = true := decide_eq_true htl
      go_wp2
      go_loopw [10] (fun vk wr => ∃ k : Nat, vk = .int .i64 k ∧ k ≤ rs.length ∧ Hid (∀ (i : Nat) (r : Run), i < k → rs[i]? = some r → r.f1 < t) ∧ Hid (Below w1.heap.size w1 wr) ∧ Hid (Below w2.heap.size w2 wr)) (fun vk _ => rs.length - (intOf vk).toNat)
      case atStart => exact ⟨k, rfl, hk, fun i r hi hr => HLO.out i r hi hr, HB, HRb⟩
      case round =>
        clear HLO HB HRb hk
        obtain ⟨k, rfl, hk, HLO, HB, HRb⟩ := hrel
        obtain ⟨wb, rfl⟩ : ∃ wo : World, wo = wr := ⟨_, rfl⟩
        by_cases hkl : k < rs.length
        · have j1 : (k : Int) < rs.length := by omega
          have j1' : decide ((k : Int) < rs.length) = true := by simpa using j1
          obtain ⟨ad, r, rfl, hr, p0, p1, p2⟩ := runCell (CR.out _ HRb.out) k hkl
          have HRr := Lib.hid hr
          clear hr
          by_cases hlt : r.f1 < t
          · have e4 : decide (r.f1 < t) = true := decide_eq_true hlt
            go_wp2
            go_roundw
            case rel =>
              refine ⟨k + 1, by go_num, hkl, fun i q hi hq => ?_, HB, HRb⟩
              by_cases hik : i = k
              · subst hik
                rw [HRr.out] at hq
                rw [← Option.some.inj hq]; exact hlt
              · exact HLO.out i q (by omega) hq
            case measure => simp [intOf]; omega
          · have e4 : decide (r.f1 < t) = false := decide_eq_false hlt
            have HAT := Lib.hid (runs_at HOK.out ht0 (by omega) (Nat.le_of_lt hkl) HLO.out (fun q hq => by rw [HRr.out] at hq; rw [← Option.some.inj hq]; omega))
            by_cases hle : r.f0 ≤ t
            · have e5 : decide (r.f0 ≤ t) = true := decide_eq_true hle
              have HV : Hid (loadN fl s sec t = r.f2) := HAT.out.1 r HRr.out hle
              go_wp2_with (fail)
              refine (impl_load_any A1 c1 fl A2 c2 s sec t _ (C1.out _ HB.out) (C2.out _ HB.out) (wf_small (by omega) (by omega))).mono ?_
              rintro e w5 ⟨rfl, hb⟩
              rw [HV.out]
              have B5 := Lib.hid (below_next HB.out HB.out.size hb)
              have R5 := Lib.hid (below_next HRb.out HRb.out.size hb)
              clear hb
              go_wp2
              go_roundw
              case rel => exact ⟨k, t + 1, rfl, by go_num, by omega, by omega, hk, fun i r hi hr => by have := HLO.out i r hi hr; omega, B5, R5⟩
              case measure => simp [intOf]; omega
            · have e5 : decide (r.f0 ≤ t) = false := decide_eq_false hle
              have HV : Hid (loadN fl s sec t = 0) := HAT.out.2 (fun q hq => by rw [HRr.out] at hq; rw [← Option.some.inj hq]; exact hle)
              go_wp2_with (fail)
              refine (impl_load_any A1 c1 fl A2 c2 s sec t _ (C1.out _ HB.out) (C2.out _ HB.out) (wf_small (by omega) (by omega))).mono ?_
              rintro e w5 ⟨rfl, hb⟩
              rw [HV.out]
              have B5 := Lib.hid (below_next HB.out HB.out.size hb)
              have R5 := Lib.hid (below_next HRb.out HRb.out.size hb)
              clear hb
              go_wp2
              go_roundw
              case rel => exact ⟨k, t + 1, rfl, by go_num, by omega, by omega, hk, fun i r hi hr => by have := HLO.out i r hi hr; omega, B5, R5⟩
              case measure => simp [intOf]; omega
        · have j1 : ¬ (k : Int) < rs.length := by omega
          have j1' : decide ((k : Int) < rs.length) = false := by simpa using j1
          have HV : Hid (loadN fl s sec t = 0) := (runs_at HOK.out ht0 (by omega) hk HLO.out (fun q hq => by have := (List.getElem?_eq_some_iff.1 hq).1; omega)).2 (fun q hq => by have := (List.getElem?_eq_some_iff.1 hq).1; omega)
          go_wp2_with (fail)
          refine (impl_load_any A1 c1 fl A2 c2 s sec t _ (C1.out _ HB.out) (C2.out _ HB.out) (wf_small (by omega) (by omega))).mono ?_
          rintro e w5 ⟨rfl, hb⟩
          rw [HV.out]
          have B5 := Lib.hid (below_next HB.out HB.out.size hb)
          have R5 := Lib.hid (below_next HRb.out HRb.out.size hb)
          clear hb
          go_wp2
          go_roundw
          case rel => exact ⟨k, t + 1, rfl, by go_num, by omega, by omega, hk, fun i r hi hr => by have := HLO.out i r hi hr; omega, B5, R5⟩
          case measure => simp [intOf]; omega
    · have e3 : decide (t < 90) = false := decide_eq_false htl
      go_wp2
      go_loopw [13] (fun vi wr => ∃ i : Nat, vi = .int .i64 i ∧ i ≤ rs.length ∧ Hid (Below w1.heap.size w1 wr) ∧ Hid (Below w2.heap.size w2 wr)) (fun vi _ => rs.length - (intOf vi).toNat)
      case atStart => exact ⟨0, rfl, Nat.zero_le _, HB, HRb⟩
      case round =>
        clear HLO HB HRb hk
        obtain ⟨i, rfl, hi, HB, HRb⟩ := hrel
        obtain ⟨wb, rfl⟩ : ∃ wo : World, wo = wr := ⟨_, rfl⟩
        by_cases hil : i < rs.length
        · have j1 : (i : Int) < rs.length := by omega
          obtain ⟨ad, r, rfl, hr, p0, p1, p2⟩ := runCell (CR.out _ HRb.out) i hil
          obtain ⟨g0, g1, g2, g3, _⟩ := HOK.out.good i r hr
          have d1 : decide (r.f1 < r.f0) = false := decide_eq_false (by omega)
          have d2 : decide (r.f2 < 1) = false := decide_eq_false (by omega)
          have HRr := Lib.hid hr
          clear hr
          by_cases hi0 : i = 0
          · have d3 : decide ((0 : Int) < (i : Int)) = false := decide_eq_false (by omega)
            have d3' : decide (0 < i) = false := decide_eq_false (by omega)
            clear hi0
            go_wp2
            go_quiet (fail)
            go_wp2
            go_roundw
            case rel => exact ⟨i + 1, by go_num, hil, pw_below_drewN HB.out _, pw_below_drewN HRb.out _⟩
            case measure => simp [intOf]; omega
          · obtain ⟨i', rfl⟩ : ∃ m, i = m + 1 := ⟨i - 1, by omega⟩
            obtain ⟨ad', q, ea, hq, q0, q1, q2⟩ := runCell (CR.out _ HRb.out) i' (by omega)
            injection ea with ea
            subst ea
            obtain ⟨a1, a2⟩ := HOK.out.apart i' q r hq HRr.out
            obtain ⟨_, _, u2, _, _⟩ := HOK.out.good i' q hq
            have d3 : decide ((0 : Int) < ((i' + 1 : Nat) : Int)) = true := decide_eq_true (by omega)
            have d3' : decide ((0 : Int) < (i' : Int) + 1) = true := decide_eq_true (by omega)
            have d3'' : (0 : Int) < (i' : Int) + 1 := by omega
            have d4 : decide (r.f0 ≤ q.f1) = false := decide_eq_false (by omega)
            have m0 : (0 : Int) ≤ (i' : Int) := by omega
            have m1 : (i' : Int) < rs.length := by omega
            have m2 : (i' : Int) + 1 < rs.length := by omega
            have m3 : ((i' : Int) + 1).toNat = i' + 1 := by omega
            have jw : IntKind.i64.wrap ((i' : Int) + 1 - 1) = (i' : Int) := by rw [show (i' : Int) + 1 - 1 = i' by omega]; exact IntWalk.i64_in _ (by omega)
            have jw2 : IntKind.i64.wrap (i' : Int) = (i' : Int) := IntWalk.i64_in _ (by omega)
            have js : IntKind.i64.wrap (q.f1 + 1) = q.f1 + 1 := IntWalk.i64_in _ (by omega)
            by_cases hb : r.f0 = q.f1 + 1
            · have d5 : (r.f0 == q.f1 + 1) = true := by simp [hb]
              have d6 : (r.f2 == q.f2) = false := by
                cases e : r.f2 == q.f2 with
                | false => rfl
                | true => exact absurd ⟨hb, by simpa using e⟩ a2
              clear hq a2 hb
              go_wp2
              go_quiet (fail)
              go_wp2
              go_roundw
              case rel => exact ⟨i' + 1 + 1, by go_num, hil, pw_below_drewN HB.out _, pw_below_drewN HRb.out _⟩
              case measure => simp [intOf]; omega
            · have d5 : (r.f0 == q.f1 + 1) = false := by simp [hb]
              clear hq a2 hb
              go_wp2
              go_quiet (fail)
              go_wp2
              go_roundw
              case rel => exact ⟨i' + 1 + 1, by go_num, hil, pw_below_drewN HB.out _, pw_below_drewN HRb.out _⟩
              case measure => simp [intOf]; omega
        · go_wp2_with (fail)
          refine (drawFits_any A9 c9 l9 _ (Kd.C_below HR9.out (below_next HB1.out HB1.out.size HB.out)) hc9 HG9.out).mono ?_
          rintro e w6 ⟨D1, d1, caps9, D2, d2, fl9, D3, d3, s9, m1, m2, m3, rfl, hp1, hp2, hp3, hb⟩
          have E1 := Lib.hid (fun W (h : Below w6.heap.size w6 W) => Kd.C_below (Kd.R_reads' hp1).2.2 h)
          have E2 := Lib.hid (fun W (h : Below w6.heap.size w6 W) => Kd.C_below (Kd.R_reads' hp2).2.2 h)
          have E3 := Lib.hid (fun W (h : Below w6.heap.size w6 W) => Kd.C_below (Kd.R_reads' hp3).2.2 h)
          have B6 := Lib.hid (below_next HB1.out HB1.out.size (below_next HB.out HB.out.size hb))
          have F6 := Lib.hid (Below.refl w6.heap.size w6)
          clear hb hp1 hp2 hp3 HB HRb C1 C2 CR HOK
          go_wp2_with (fail)
          refine (impl_fitsAll_any D1 d1 caps9 D2 d2 fl9 D3 d3 s9 _ (E1.out _ F6.out) (E2.out _ F6.out) (E3.out _ F6.out)).mono ?_
          rintro e w7 ⟨rfl, hb⟩
          have B7 := Lib.hid (below_next B6.out B6.out.size hb)
          have F7 := Lib.hid (below_next F6.out F6.out.size hb)
          clear hb B6 F6
          go_wp2_with (fail)
          refine (spec_fitsAll_any D1 d1 caps9 D2 d2 fl9 D3 d3 s9 _ (E1.out _ F7.out) (E2.out _ F7.out) (E3.out _ F7.out)).mono ?_
          rintro e w8 ⟨rfl, hb⟩
          have B8 := Lib.hid (below_next B7.out B7.out.size hb)
          have F8 := Lib.hid (below_next F7.out F7.out.size hb)
          clear hb B7 F7
          have ebb : (fitsB caps9 fl9 s9 == fitsB caps9 fl9 s9) = true := by simp
          cases hfit : fitsB caps9 fl9 s9 with
          | false =>
            go_wp2
            go_ret
            exact ⟨rfl, B8.out.alloc B8.out.size _⟩
          | true =>
            have HFit := Lib.hid hfit
            clear hfit ebb
            have F9 := Lib.hid (F8.out.alloc F8.out.size (.cells #[.slice D1 caps9.length d1, .slice D2 fl9.length d2, .slice D3 s9.length d3] 55))
            have B9 := Lib.hid (B8.out.alloc B8.out.size (.cells #[.slice D1 caps9.length d1, .slice D2 fl9.length d2, .slice D3 s9.length d3] 55))
            have HX := Lib.hid (blk_new w8 (.cells #[.slice D1 caps9.length d1, .slice D2 fl9.length d2, .slice D3 s9.length d3] 55))
            go_wp2_with (fail)
            refine (wOver_any D1 d1 caps9 D2 d2 fl9 D3 d3 s9 0 _ (E1.out _ F9.out) (E2.out _ F9.out) (E3.out _ F9.out) HFit.out (by omega) (by omega)).mono ?_
            rintro e w10 ⟨rfl, hb⟩
            have HX10 := Lib.hid ((hb.block _ (blk_lt HX.out)).trans HX.out)
            have B10 := Lib.hid (below_next B9.out B9.out.size hb)
            have F10 := Lib.hid (below_next F9.out F9.out.size hb)
            have x0 := blk_cell HX10.out 0
            have x1 := blk_cell HX10.out 1
            have x2 := blk_cell HX10.out 2
            simp only [List.getElem?_toArray, List.getElem?_cons_zero, List.getElem?_cons_succ] at x0 x1 x2
            clear hb B9 F9
            go_wp2_with (fail)
            refine (wOver_any D1 d1 caps9 D2 d2 fl9 D3 d3 s9 9999 _ (E1.out _ F10.out) (E2.out _ F10.out) (E3.out _ F10.out) HFit.out (by omega) (by omega)).mono ?_
            rintro e w11 ⟨rfl, hb⟩
            have B11 := Lib.hid (below_next B10.out B10.out.size hb)
            clear hb
            go_wp2
            go_ret
            exact ⟨rfl, B11.out⟩
end Go.Proofs.Ytkfoeplefajkcaa.Q
end


section
namespace Go.Proofs.Ytkfoeplefajkcaa.fnLoad
open Go.ChangeShapes Go.WideShapes Go.ChangeAt Go.RowKit
open Go.ChangeMaps (open_string shut_string)
set_option linter.unusedVariables false
theorem own : ownKnob Try.prog.godebug = none := by kernel_rfl
theorem laidOut : laidOutB Try.prog = true := by kernel_rfl
set_option maxRecDepth 100000 in
theorem lifted (os : Os) (started : os.Started) (H : Type) (enc : TypeId × Value → H) :
    ReturnsInHanded {} Try.checked os 11 .any (Rows.fnLoadSpec.pre6 enc Try.prog Try.f11 Rows.fnLoadRow.domain false) (Rows.fnLoadSpec.post enc Try.prog Try.f11 false true false false) := by
  refine returnsInHanded_of_change_sized (C := Try.checked) own started (by kernel_rfl) Try.func11
    (ChangeSpec.witness6 (enc := enc) (C := Try.checked) false ⟨#[], #[.slice none 0 0, .slice none 0 0], []⟩ 8 (by kernel_rfl) (by kernel_rfl) (by kernel_rfl) (by kernel_rfl)) ?_
  intro W base args ds gs before hval0 hW hcnd hsz0 _
  have hsz : (DataW.weightsEach Try.prog (Try.f11.params.toList ++ Rows.fnLoadSpec.plain.varTypes Try.prog) (ds ++ gs)).all (· ≤ reachBytes) = true := hsz0
  have hval : ∀ (j : Nat) t v, Try.f11.params[j]? = some t → args[j]? = some v → Value.okWide Try.prog W .any base t v := hval0
  have hW' := hW
  obtain ⟨p, q, hA0, hV, rfl, hfz, hnd⟩ := hW
  have hA : DataW.TrodAll enc Try.prog W 0 (fun _ => true) true Try.f11.params.toList args.toList ds p := hA0
  rw [Try.params11] at hA hval hsz
  obtain ⟨v0, vs0, d0, ds0, p0, q0, hargs, rfl, rfl, h0, r0⟩ := trodAll_cons hA
  obtain ⟨v1, vs1, d1, ds1, p1, q1, rfl, rfl, rfl, h1, r1⟩ := trodAll_cons r0
  obtain ⟨rfl, rfl, rfl⟩ := trodAll_nil r1
  obtain rfl : args = #[v0, v1] := by cases args; simp_all
  obtain ⟨rfl, rfl⟩ := trodVars_none hV
  obtain ⟨a0, len0, cap0, rfl⟩ := okWide_slice Try.underlying72 (hval 0 72 v0 rfl rfl)
  have k0 := h0
  have lt0 : ∀ x ∈ p0, x.block < W.heap.size := by obtain ⟨m, hm⟩ := k0; exact DataW.trod_lt m _ _ _ hm
  obtain ⟨l0, rfl, hc0, hr0, hg0⟩ := Q.arg_bytes h0
  obtain ⟨a1, len1, cap1, rfl⟩ := okWide_slice Try.underlying72 (hval 1 72 v1 rfl rfl)
  have k1 := h1
  have lt1 : ∀ x ∈ p1, x.block < W.heap.size := by obtain ⟨m, hm⟩ := k1; exact DataW.trod_lt m _ _ _ hm
  obtain ⟨l1, rfl, hc1, hr1, hg1⟩ := Q.arg_bytes h1
  clear hA0 hval0 hsz0 hsz
  refine (Q.walk_fnload a0 cap0 l0 a1 cap1 l1 W hr0 hc0 hg0 hr1 hc1 hg1).mono fun e W' ⟨he, bel⟩ => ?_
  subst he
  exact ⟨_, rfl, _, _, _, [], _, [], hW', trodAll_mk1 (shut_bool Try.underlying4 _), (trodAll_cons_mk (Below.trod laidOut (by kernel_rfl) (of_decide_eq_true (by kernel_rfl)) k0 bel lt0) (trodAll_cons_mk (Below.trod laidOut (by kernel_rfl) (of_decide_eq_true (by kernel_rfl)) k1 bel lt1) trodAll_mk0)), rfl, bel.frame _, fun h => by cases h⟩
theorem over : Rows.fnLoadRow.holds Try.pinned (OpenSpec.ofChange Rows.fnLoadSpec) :=
  OpenClaim.holds_of_wide 11 Try.f11 rfl rfl rfl rfl rfl rfl rfl ⟨rfl, rfl, rfl, rfl, rfl⟩ rfl rfl rfl rfl rfl (by kernel_rfl) Try.func11 (by kernel_rfl)
    (of_decide_eq_true (by kernel_rfl)) (by unfold Func.isWrapper; first | (rw [if_pos (by decide +kernel)]; kernel_rfl) | (rw [if_neg (by decide +kernel)]; exact ⟨rfl, rfl⟩))
    (fun os started H enc _ => lifted os started H enc)
theorem proved : Rows.FnLoadSaid := over
#print axioms proved
end Go.Proofs.Ytkfoeplefajkcaa.fnLoad
end
