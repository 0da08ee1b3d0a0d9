/- Proved: for every input that can be read, laws.FnBound answers true and each argument reads behind the call as it read before. No conditions. -/
import Derived.Test.YtkfoeplefajkcaaMgE
import Derived.Test.YtkfoeplefajkcaaMgG
import Derived.Test.YtkfoeplefajkcaaRows
import Derived.Test.YtkfoeplefajkcaaMgS
import Derived.WalkKit
import Derived.ProofKit
import Derived.OpenShut
import Derived.ShutString
import Derived.ChangeOld
import Derived.Below
import Derived.SizedLaws

/- The walk of the law FnBound. -/
section
namespace Go.Proofs.Ytkfoeplefajkcaa.Q
open Go.RowKit Go.Proofs.YtkfoeplefajkcaaW.PrintWords Go.Proofs.YtkfoeplefajkcaaW.PrintLast Go.Proofs.YtkfoeplefajkcaaW.PrintMore Go.Proofs.Ytkfoeplefajkcaa.Core
set_option linter.unusedVariables false
set_option linter.unusedSimpArgs false

theorem visOne (w : World) (s : ByteArray) (a b : Int) : Kd.R k97 97 (w.alloc (.cells #[.string s, .int .i64 a, .int .i64 b] 97)) w.heap.size (fun _ => True) (.slice (some ⟨w.heap.size, 0, none⟩) 1 1) [⟨s, a, b⟩] :=
  ⟨fun _ _ => trivial, [.string s, .int .i64 a, .int .i64 b], ⟨rfl, .inr ⟨w.heap.size, 1, #[.string s, .int .i64 a, .int .i64 b], rfl, Nat.le_refl _, heap_alloc_new w _, Nat.le_refl _, by decide, by simp; rfl, by simp; rfl⟩⟩, Reps.c3 (k97_mkM _ _ _ (⟨s, a, b⟩ : Visit)) (Reps.none _ _)⟩

set_option maxRecDepth 100000 in
set_option maxHeartbeats 8000000 in
theorem walk_fnbound (A0 : Option Addr) (c0 : Nat) (l0 : List Int) (A9 : Option Addr) (c9 : Nat) (l9 : List Int) (w : World) (hr0 : Kd.C (Kd.int .u8) w A0 l0.length l0) (hc0 : l0.length ≤ c0) (hg0 : ∀ y ∈ l0, (fun y : Int => 0 ≤ y ∧ y ≤ 255) y) (hr9 : Kd.C (Kd.int .u8) w A9 l9.length l9) (hc9 : l9.length ≤ c9) (hg9 : ∀ y ∈ l9, (fun y : Int => 0 ≤ y ∧ y ≤ 255) y) :
    Calls Try.prog 13 #[.slice A0 l0.length c0, .slice A9 l9.length c9] w fun e w' => e = .returned (.bool true) ∧ Below w.heap.size w w' := by
  have HR := Lib.hid hr0
  have HG := Lib.hid (show byteL l0 from hg0)
  have HR9 := Lib.hid hr9
  have HG9 := Lib.hid (show byteL l9 from hg9)
  clear hr0 hg0 hr9 hg9
  by_cases hs : 1048576 < l0.length
  · have e1 : decide ((1048576 : Int) < l0.length) = true := by simp; omega
    go_enter Try.func13, Try.ntmps13
    go_wp2
    go_ret
    exact ⟨rfl, Below.refl _ _⟩
  have e1 : decide ((1048576 : Int) < l0.length) = false := by simp; omega
  by_cases hs9 : 1048576 < l9.length
  · have e2 : decide ((1048576 : Int) < l9.length) = true := by simp; omega
    go_enter Try.func13, Try.ntmps13
    go_wp2
    go_ret
    exact ⟨rfl, Below.refl _ _⟩
  have e2 : decide ((1048576 : Int) < l9.length) = false := by simp; omega
  go_enter Try.func13, Try.ntmps13
  go_wp2_with (fail)
  refine (drawBound_any A0 c0 l0 _ HR.out hc0 HG.out).mono ?_
  rintro e w1 ⟨A1, c1, caps, A2, c2, fl, sec, hn1, hn2, rfl, ho1, ho2, hb1⟩
  have C1 := Lib.hid (fun W (h : Below w1.heap.size w1 W) => Kd.C_below (Kd.R_reads' ho1).2.2 h)
  have C2 := Lib.hid (fun W (h : Below w1.heap.size w1 W) => Kd.C_below (Kd.R_reads' ho2).2.2 h)
  have HAD1 : Hid (∀ ad, A2 = some ad → ad.block < w1.heap.size) := fun ad e => Kd.R_lt ho2 ad.block (by rw [e]; rfl)
  have HB1 := Lib.hid hb1
  have B1 := Lib.hid (Below.refl w1.heap.size w1)
  have z1 := hb1.size
  clear ho1 ho2 hb1
  go_wp2_with (fail)
  refine (impl_bound_any A1 c1 caps A2 c2 fl sec _ (C1.out _ B1.out) (C2.out _ B1.out)).mono ?_
  rintro e w2 ⟨rfl, hb⟩
  have B2 := Lib.hid (below_next B1.out B1.out.size hb)
  have z2 := hb.size
  clear hb B1
  go_wp2_with (fail)
  refine (spec_bound_any A1 c1 caps A2 c2 fl sec _ (C1.out _ B2.out) (C2.out _ B2.out)).mono ?_
  rintro e w3 ⟨rfl, hb⟩
  have B3 := Lib.hid (below_next B2.out B2.out.size hb)
  have z3 := hb.size
  clear hb B2
  have hbn : ¬ boundN caps fl sec < 0 := by have := boundN_ge caps fl sec; omega
  have hbd : decide (boundN caps fl sec < 0) = false := decide_eq_false hbn
  go_wp2_with (fail)
  refine (drawFits_any A9 c9 l9 _ (Kd.C_below HR9.out (below_next HB1.out HB1.out.size B3.out)) hc9 HG9.out).mono ?_
  rintro e w4 ⟨D1, d1, caps9, D2, d2, fl9, D3, d3, s9, m1, m2, m3, rfl, hp1, hp2, hp3, hb⟩
  have E1 := Lib.hid (fun W (h : Below w4.heap.size w4 W) => Kd.C_below (Kd.R_reads' hp1).2.2 h)
  have E2 := Lib.hid (fun W (h : Below w4.heap.size w4 W) => Kd.C_below (Kd.R_reads' hp2).2.2 h)
  have E3 := Lib.hid (fun W (h : Below w4.heap.size w4 W) => Kd.C_below (Kd.R_reads' hp3).2.2 h)
  have B4 := Lib.hid (below_next B3.out B3.out.size hb)
  have F4 := Lib.hid (Below.refl w4.heap.size w4)
  have z4 := hb.size
  clear hb B3 hp1 hp2 hp3 hbn hbd
  go_upto_region 8 with (fail)
  go_cut [61] (fun s61 wx => s61 = .bool false ∧ Hid (Below w1.heap.size w1 wx))
  case first =>
    go_wp2_with (fail)
    refine (spec_fitsAll_any D1 d1 caps9 D2 d2 fl9 D3 d3 s9 _ (E1.out _ F4.out) (E2.out _ F4.out) (E3.out _ F4.out)).mono ?_
    rintro e w5 ⟨rfl, hb⟩
    have B5 := Lib.hid (below_next B4.out B4.out.size hb)
    have F5 := Lib.hid (below_next F4.out F4.out.size hb)
    clear hb
    cases hfit : fitsB caps9 fl9 s9 with
    | false =>
      go_wp2_with (fail)
      go_meet
      exact ⟨rfl, B5⟩
    | true =>
      have HFit := Lib.hid hfit
      clear hfit
      go_wp2_with (fail)
      refine (wBounded_any D1 d1 caps9 D2 d2 fl9 D3 d3 s9 _ (E1.out _ F5.out) (E2.out _ F5.out) (E3.out _ F5.out) HFit.out).mono ?_
      rintro e w6 ⟨rfl, hb⟩
      have B6 := Lib.hid (below_next B5.out B5.out.size hb)
      clear hb
      go_wp2_with (fail)
      go_meet
      exact ⟨rfl, B6⟩
  case rest =>
  clear E1 E2 E3 B4 F4
  obtain ⟨rfl, B6⟩ := hcut
  obtain ⟨w6, rfl⟩ : ∃ wo : World, wo = wc := ⟨_, rfl⟩
  go_wp2_with (fail)
  refine (spec_flightsOk_any A2 c2 fl _ (C2.out _ B6.out) (by omega)).mono ?_
  rintro e w7 ⟨rfl, hb⟩
  have B7 := Lib.hid (below_next B6.out B6.out.size hb)
  clear hb B6
  cases hfs : flightsB fl with
  | false =>
    go_wp2
    go_ret
    exact ⟨rfl, below_next HB1.out HB1.out.size B7.out⟩
  | true =>
  have HF := Lib.hid hfs
  clear hfs
  have z7 := B7.out.size
  have HAD : Hid (∀ ad, A2 = some ad → ad.block < w7.heap.size) := fun ad e => Nat.lt_of_lt_of_le (HAD1.out ad e) z7
  clear HAD1
  go_wp2
  go_loopw [12, 13] (fun x vk wr => ∃ (k : Nat) (A : Option Addr) (c : Nat), x = .slice A k c ∧ vk = .int .i64 k ∧ k ≤ fl.length ∧ Hid (Kd.R k61 61 wr w7.heap.size (fun _ => True) (.slice A k c) ((fl.take k).map shortF)) ∧ Hid (Below w7.heap.size w7 wr)) (fun _ vk _ => fl.length - (intOf vk).toNat)
  case atStart => exact ⟨0, _, _, rfl, rfl, Nat.zero_le _, by simpa [Hid] using R_madeF k61 w7 61 (by decide), below_alloc (Below.refl _ _) _⟩
  case round =>
    obtain ⟨k, A, c, rfl, rfl, hk, HO, HB⟩ := hrel
    by_cases hlt : k < fl.length
    · have j1 : (k : Int) < fl.length := by omega
      obtain ⟨ad, f, A3, c3, rfl, hf, p0, p1, p2, p3, hl3, hr3⟩ := flightAt (C2.out _ (below_next B7.out B7.out.size HB.out)) k hlt
      have hlen := (Kd.R_reads' HO.out).1
      have htk : (fl.take (k + 1)).map shortF = (fl.take k).map shortF ++ [shortF f] := by rw [List.take_add_one, hf, List.map_append]; rfl
      have HTK := Lib.hid htk
      have q0 : wr.drew.cell? (ad.add (k * 4)) = some (.string f.f0) := p0
      have q1 : wr.drew.cell? ⟨(ad.add (k * 4)).block, (ad.add (k * 4)).off + 1, none⟩ = some (.int .i64 f.f1) := p1
      have q0a := cell_al q0 (.cells #[.string ⟨#[101]⟩, .int .i64 0, .int .i64 1] 97)
      have q1a := cell_al q1 (.cells #[.string ⟨#[101]⟩, .int .i64 0, .int .i64 1] 97)
      have q0b := cell_al q0a (.cells #[.string f.f0, .int .i64 f.f1, .int .i64 60, .slice (some ⟨wr.heap.size, 0, none⟩) 1 1] 61)
      have q1b := cell_al q1a (.cells #[.string f.f0, .int .i64 f.f1, .int .i64 60, .slice (some ⟨wr.heap.size, 0, none⟩) 1 1] 61)
      have HE : Hid ((wr.drew.alloc (.cells #[.string ⟨#[101]⟩, .int .i64 0, .int .i64 1] 97)).heap.size = wr.heap.size + 1) := (by have t : (wr.drew.alloc (.cells #[.string ⟨#[101]⟩, .int .i64 0, .int .i64 1] 97)).heap.size = wr.drew.heap.size + 1 := (by simp); exact t)
      have HOa := Lib.hid (Kd.R_alloc (Kd.R_drewN HO.out 1) (.cells #[.string ⟨#[101]⟩, .int .i64 0, .int .i64 1] 97))
      have hM := Lib.hid (k61_mkM (wr.drew.alloc (.cells #[.string ⟨#[101]⟩, .int .i64 0, .int .i64 1] 97)) w7.heap.size (fun j => wr.heap.size ≤ j) (shortF f) (v3 := .slice (some ⟨wr.heap.size, 0, none⟩) 1 1) (Kd.R_lower (Kd.R_mono (Kd.R_bound (visOne wr.drew ⟨#[101]⟩ 0 1)) (fun j hj => hj.2.1)) HB.out.size))
      have hoW : Hid (∀ j, (Value.slice A k c).ownBlock = some j → w7.heap.size ≤ j ∧ j < wr.heap.size) := fun j hj => ⟨Kd.R_base HO.out j hj, Kd.R_lt HO.out j hj⟩
      have HLen := Lib.hid hlen
      have hbw : Hid ((ad.add (k * 4)).block < w7.heap.size) := by
        have e : (ad.add (k * 4)).block = ad.block := by unfold Addr.add; split <;> rfl
        show _ < _
        rw [e]
        exact HAD.out ad rfl
      have hwr := HB.out.size
      clear p0 p1 p2 p3 hl3 hr3 hlen htk hf
      go_wp2
      go_region_held3 (fun W' => W'.cell? (ad.add (k * 4)) = some (.string f.f0) ∧ W'.cell? ⟨(ad.add (k * 4)).block, (ad.add (k * 4)).off + 1, none⟩ = some (.int .i64 f.f1)) (first | (exact ⟨by assumption, by assumption⟩) | go_keep) (first
        | (refine Kd.R_append_step k61 (w0 := wr.drew.alloc (.cells #[.string ⟨#[101]⟩, .int .i64 0, .int .i64 1] 97)) w7.heap.size (by rfl) _ _ 26 61 (.agg #[.string ByteArray.empty, .int .i64 0, .int .i64 0, .slice none 0 0]) 56 (by rfl) Try.underlying26 infoFlight rfl (by decide) (by decide) (.slice A k c) ((fl.take k).map shortF) (shortF f) [.string f.f0, .int .i64 f.f1, .int .i64 60, .slice (some ⟨wr.heap.size, 0, none⟩) 1 1] (fun _ => True) (fun j => wr.heap.size ≤ j) (by rfl) (by rw [HE.out]; rfl) hM.out (fun j hj => ⟨trivial, fun e => by have := (hoW.out j e.symm).2; omega⟩) (fun _ _ => trivial) HOa.out (Below.refl _ _) (by rw [HE.out]; omega) (by rw [← HLen.out]; omega) ?_; intro v1 w8 ho8 hb8 hg8 hat8; obtain ⟨A8, c8, rfl⟩ := Kd.R_slice ho8; have r0 := hg8.cell q0a (fun e => by have := (hoW.out _ e.symm).1; have := hbw.out; omega); have r1 := hg8.cell q1a (fun e => by have h1 := (hoW.out _ e.symm).1; have h2 := hbw.out; have h3 : w7.heap.size ≤ (ad.add (k * 4)).block := h1; omega); have HO8 := Lib.hid ho8; have HG8 := Lib.hid hg8; clear ho8 hb8 hg8 hat8))
      go_wp2
      go_roundw
      case rel => exact ⟨k + 1, A8, c8, rfl, by go_num, hlt, by have t := HO8.out; rw [HTK.out]; rwa [List.length_append, List.length_singleton, ← HLen.out] at t, ((HB.out.drew.alloc HB.out.size _).grown HG8.out (by rw [HE.out]; omega) (fun j hj => (hoW.out j hj).1))⟩
      case measure => simp [intOf]; omega
    · obtain rfl : k = fl.length := by omega
      obtain ⟨w8, rfl⟩ : ∃ wo : World, wo = wr := ⟨_, rfl⟩
      have HO8 : Hid (Kd.R k61 61 w8 w7.heap.size (fun _ => True) (.slice A fl.length c) (fl.map shortF)) := by have t := HO.out; rwa [List.take_length] at t
      clear HO
      go_wp2_with (fail)
      obtain ⟨cN, hcN, hc1, hc2⟩ : ∃ cN : Nat, 1 + (l0.length : Int) % 2 = (cN : Int) ∧ 1 ≤ cN ∧ cN ≤ 2 := ⟨1 + l0.length % 2, by omega, by omega, by omega⟩
      rw [hcN]
      have HM := Lib.hid (met HF.out hc1 hc2)
      obtain ⟨SH, hSH⟩ : ∃ SH, SH = fl.map shortF := ⟨_, rfl⟩
      have HSL : Hid (SH.length = fl.length) := by show _ = _; rw [hSH, List.length_map]
      rw [← hSH] at HM HO8
      have HOS : Hid (Kd.R k61 61 w8 w7.heap.size (fun _ => True) (.slice A SH.length c) SH) := by have t := HO8.out; rwa [← HSL.out] at t
      have HCE : Hid (Kd.R k99 99 (w8.alloc (.cells #[.string ⟨#[101]⟩, .int .i64 (cN : Int)] 99)) w8.heap.size (fun _ => True) (.slice (some ⟨w8.heap.size, 0, none⟩) (capE cN).length 1) (capE cN)) := capOne w8 ⟨#[101]⟩ (cN : Int)
      have HOSa := Lib.hid (Kd.R_alloc HOS.out (.cells #[.string ⟨#[101]⟩, .int .i64 (cN : Int)] 99))
      have QG := Lib.hid (by have t := impl_give_any (some ⟨w8.heap.size, 0, none⟩) 1 (capE cN) A c SH _ (Kd.R_reads' HCE.out).2.2 (Kd.R_reads' HOSa.out).2.2; rw [HSL.out] at t; exact t)
      have B8 := Lib.hid ((below_next B7.out z7 HB.out).alloc (by have := HB.out.size; omega) (.cells #[.string ⟨#[101]⟩, .int .i64 (cN : Int)] 99))
      clear hcN hSH HO8 HOS HB B7
      refine QG.out.mono ?_
      rintro e w9 ⟨v, rfl, ho, hb⟩
      obtain ⟨AG, cG, rfl⟩ := Kd.R_slice ho
      obtain ⟨gv, hgv⟩ : ∃ gv, gv = giveB (capE cN) SH := ⟨_, rfl⟩
      rw [← hgv] at ho HM ⊢
      have HGL : Hid (gv.length = fl.length) := by show _ = _; rw [HM.out.2, HSL.out]
      have HG9 := Lib.hid ho
      have HS9 := Lib.hid (Kd.R_below HOSa.out hb)
      have HC9 := Lib.hid (Kd.R_below HCE.out hb)
      have B9 := Lib.hid (below_next B8.out B8.out.size hb)
      have QD := Lib.hid (by have t := impl_delay_any A c SH AG cG gv w9 (Kd.R_reads' HS9.out).2.2 (Kd.R_reads' HG9.out).2.2; rw [HSL.out, HGL.out] at t; exact t)
      rw [HGL.out]
      clear ho hb hgv QG HOSa HCE B8
      go_wp2_with (fail)
      refine QD.out.mono ?_
      rintro e w10 ⟨rfl, hb⟩
      rw [HM.out.1]
      have QB := Lib.hid (by have t := impl_bound_any (some ⟨w8.heap.size, 0, none⟩) 1 (capE cN) A c SH secE w10 (Kd.C_below (Kd.R_reads' HC9.out).2.2 hb) (Kd.C_below (Kd.R_reads' HS9.out).2.2 hb); rw [HSL.out] at t; exact t)
      have B10 := Lib.hid (below_next B9.out B9.out.size hb)
      clear hb B9 QD HC9 HS9 HG9
      obtain ⟨bn, hbn⟩ : ∃ bn, bn = boundN (capE cN) SH secE := ⟨_, rfl⟩
      rw [← hbn] at QB ⊢
      clear hbn HM
      go_wp2_with (fail)
      refine QB.out.mono ?_
      rintro e w11 ⟨rfl, hb⟩
      have B11 := Lib.hid (below_next B10.out B10.out.size hb)
      clear hb B10 QB
      go_wp2
      go_ret
      exact ⟨ret_bool (by simp), below_next HB1.out HB1.out.size B11.out⟩
end Go.Proofs.Ytkfoeplefajkcaa.Q
end


section
namespace Go.Proofs.Ytkfoeplefajkcaa.fnBound
open Go.ChangeShapes Go.WideShapes Go.ChangeAt Go.RowKit
open Go.ChangeMaps (open_string shut_string)
set_option linter.unusedVariables false
theorem own : ownKnob Try.prog.godebug = none := by kernel_rfl
theorem laidOut : laidOutB Try.prog = true := by kernel_rfl
set_option maxRecDepth 100000 in
theorem lifted (os : Os) (started : os.Started) (H : Type) (enc : TypeId × Value → H) :
    ReturnsInHanded {} Try.checked os 13 .any (Rows.fnBoundSpec.pre6 enc Try.prog Try.f13 Rows.fnBoundRow.domain false) (Rows.fnBoundSpec.post enc Try.prog Try.f13 false true false false) := by
  refine returnsInHanded_of_change_sized (C := Try.checked) own started (by kernel_rfl) Try.func13
    (ChangeSpec.witness6 (enc := enc) (C := Try.checked) false ⟨#[], #[.slice none 0 0, .slice none 0 0], []⟩ 8 (by kernel_rfl) (by kernel_rfl) (by kernel_rfl) (by kernel_rfl)) ?_
  intro W base args ds gs before hval0 hW hcnd hsz0 _
  have hsz : (DataW.weightsEach Try.prog (Try.f13.params.toList ++ Rows.fnBoundSpec.plain.varTypes Try.prog) (ds ++ gs)).all (· ≤ reachBytes) = true := hsz0
  have hval : ∀ (j : Nat) t v, Try.f13.params[j]? = some t → args[j]? = some v → Value.okWide Try.prog W .any base t v := hval0
  have hW' := hW
  obtain ⟨p, q, hA0, hV, rfl, hfz, hnd⟩ := hW
  have hA : DataW.TrodAll enc Try.prog W 0 (fun _ => true) true Try.f13.params.toList args.toList ds p := hA0
  rw [Try.params13] at hA hval hsz
  obtain ⟨v0, vs0, d0, ds0, p0, q0, hargs, rfl, rfl, h0, r0⟩ := trodAll_cons hA
  obtain ⟨v1, vs1, d1, ds1, p1, q1, rfl, rfl, rfl, h1, r1⟩ := trodAll_cons r0
  obtain ⟨rfl, rfl, rfl⟩ := trodAll_nil r1
  obtain rfl : args = #[v0, v1] := by cases args; simp_all
  obtain ⟨rfl, rfl⟩ := trodVars_none hV
  obtain ⟨a0, len0, cap0, rfl⟩ := okWide_slice Try.underlying72 (hval 0 72 v0 rfl rfl)
  have k0 := h0
  have lt0 : ∀ x ∈ p0, x.block < W.heap.size := by obtain ⟨m, hm⟩ := k0; exact DataW.trod_lt m _ _ _ hm
  obtain ⟨l0, rfl, hc0, hr0, hg0⟩ := Q.arg_bytes h0
  obtain ⟨a1, len1, cap1, rfl⟩ := okWide_slice Try.underlying72 (hval 1 72 v1 rfl rfl)
  have k1 := h1
  have lt1 : ∀ x ∈ p1, x.block < W.heap.size := by obtain ⟨m, hm⟩ := k1; exact DataW.trod_lt m _ _ _ hm
  obtain ⟨l1, rfl, hc1, hr1, hg1⟩ := Q.arg_bytes h1
  clear hA0 hval0 hsz0 hsz
  refine (Q.walk_fnbound a0 cap0 l0 a1 cap1 l1 W hr0 hc0 hg0 hr1 hc1 hg1).mono fun e W' ⟨he, bel⟩ => ?_
  subst he
  exact ⟨_, rfl, _, _, _, [], _, [], hW', trodAll_mk1 (shut_bool Try.underlying4 _), (trodAll_cons_mk (Below.trod laidOut (by kernel_rfl) (of_decide_eq_true (by kernel_rfl)) k0 bel lt0) (trodAll_cons_mk (Below.trod laidOut (by kernel_rfl) (of_decide_eq_true (by kernel_rfl)) k1 bel lt1) trodAll_mk0)), rfl, bel.frame _, fun h => by cases h⟩
theorem over : Rows.fnBoundRow.holds Try.pinned (OpenSpec.ofChange Rows.fnBoundSpec) :=
  OpenClaim.holds_of_wide 13 Try.f13 rfl rfl rfl rfl rfl rfl rfl ⟨rfl, rfl, rfl, rfl, rfl⟩ rfl rfl rfl rfl rfl (by kernel_rfl) Try.func13 (by kernel_rfl)
    (of_decide_eq_true (by kernel_rfl)) (by unfold Func.isWrapper; first | (rw [if_pos (by decide +kernel)]; kernel_rfl) | (rw [if_neg (by decide +kernel)]; exact ⟨rfl, rfl⟩))
    (fun os started H enc _ => lifted os started H enc)
theorem proved : Rows.FnBoundSaid := over
#print axioms proved
end Go.Proofs.Ytkfoeplefajkcaa.fnBound
end
