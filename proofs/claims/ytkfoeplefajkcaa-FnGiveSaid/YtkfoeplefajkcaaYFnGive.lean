/- Proved: for every input that can be read, laws.FnGive answers true and each argument reads behind the call as it read before. No conditions. -/
import Derived.Test.YtkfoeplefajkcaaMgW
import Derived.Test.YtkfoeplefajkcaaMgG
import Derived.Test.YtkfoeplefajkcaaMgC
import Derived.Test.YtkfoeplefajkcaaRows
import Derived.Test.YtkfoeplefajkcaaMgS
import Derived.WalkKit
import Derived.ProofKit
import Derived.OpenShut
import Derived.ShutString
import Derived.ChangeOld
import Derived.Below
import Derived.SizedLaws

/- The walk of the law FnGive. -/
section
namespace Go.Proofs.Ytkfoeplefajkcaa.Q
open Go.RowKit Go.Proofs.YtkfoeplefajkcaaW.PrintWords Go.Proofs.YtkfoeplefajkcaaW.PrintLast Go.Proofs.YtkfoeplefajkcaaW.PrintMore Go.Proofs.Ytkfoeplefajkcaa.Core
set_option linter.unusedVariables false
set_option linter.unusedSimpArgs false

set_option maxRecDepth 100000 in
set_option maxHeartbeats 8000000 in
theorem walk_fngive (A0 : Option Addr) (c0 : Nat) (l0 : List Int) (w : World) (hr0 : Kd.C (Kd.int .u8) w A0 l0.length l0) (hc0 : l0.length ≤ c0) (hg0 : ∀ y ∈ l0, (fun y : Int => 0 ≤ y ∧ y ≤ 255) y) :
    Calls Try.prog 10 #[.slice A0 l0.length c0] w fun e w' => e = .returned (.bool true) ∧ Below w.heap.size w w' := by
  by_cases hs : 1048576 < l0.length
  · have e1 : decide ((1048576 : Int) < l0.length) = true := by simp; omega
    go_enter Try.func10, Try.ntmps10
    go_wp2
    go_ret
    exact ⟨rfl, Below.refl _ _⟩
  have e1 : decide ((1048576 : Int) < l0.length) = false := by simp; omega
  have HR := Lib.hid hr0
  have HG := Lib.hid (show byteL l0 from hg0)
  clear hr0 hg0
  go_enter Try.func10, Try.ntmps10
  go_wp2_with (fail)
  refine (drawGive_any A0 c0 l0 _ HR.out hc0 HG.out).mono ?_
  rintro e w1 ⟨A1, c1, caps, A2, c2, fl, hn1, hn2, hsm, rfl, ho1, ho2, hb1⟩
  have C1 := Lib.hid (fun W (h : Below w1.heap.size w1 W) => Kd.C_below (Kd.R_reads' ho1).2.2 h)
  have C2 := Lib.hid (fun W (h : Below w1.heap.size w1 W) => Kd.C_below (Kd.R_reads' ho2).2.2 h)
  have HB1 := Lib.hid hb1
  have HS := Lib.hid hsm
  have B1 := Lib.hid (Below.refl w1.heap.size w1)
  have z1 := hb1.size
  clear ho1 ho2 hb1 hsm HR HG
  go_wp2_with (fail)
  refine (impl_give_any A1 c1 caps A2 c2 fl _ (C1.out _ B1.out) (C2.out _ B1.out)).mono ?_
  rintro e w2 ⟨v, rfl, ho, hb⟩
  obtain ⟨AS, cS, rfl⟩ := Kd.R_slice ho
  have hS := Lib.hid (Kd.R_lower (R_iv ho) B1.out.size)
  have B2 := Lib.hid (below_next B1.out B1.out.size hb)
  have z2 := hb.size
  clear ho hb B1
  go_wp2_with (fail)
  refine (spec_give_any A1 c1 caps A2 c2 fl _ (C1.out _ B2.out) (C2.out _ B2.out)).mono ?_
  rintro e w3 ⟨v, rfl, ho, hb⟩
  obtain ⟨AW, cW, rfl⟩ := Kd.R_slice ho
  have hW := Lib.hid ho
  have B3 := Lib.hid (below_next B2.out B2.out.size hb)
  have hS3 := Lib.hid (Kd.R_below hS.out hb)
  have z3 := hb.size
  clear ho hb B2 hS
  have hgl := giveB_len caps fl
  go_wp2_with (fail)
  refine (wInts_any hS3.out hW.out hgl).mono ?_
  rintro e w4 ⟨rfl, hb⟩
  have B4 := Lib.hid (below_next B3.out B3.out.size hb)
  have hS4 := Lib.hid (Kd.R_below hS3.out hb)
  have z4 := hb.size
  clear hb B3 hS3 hW
  go_wp2_with (fail)
  refine (impl_order_any A2 c2 fl _ (C2.out _ B4.out) (by omega)).mono ?_
  rintro e w5 ⟨v, rfl, ho, hb⟩
  obtain ⟨AO, cO, rfl⟩ := Kd.R_slice ho
  have hO := Lib.hid ho
  have B5 := Lib.hid (below_next B4.out B4.out.size hb)
  have hS5 := Lib.hid (Kd.R_below hS4.out hb)
  have z5 := hb.size
  clear ho hb B4 hS4
  go_wp2_with (fail)
  refine (spec_order_any A2 c2 fl _ (C2.out _ B5.out) (by omega)).mono ?_
  rintro e w6 ⟨v, rfl, ho, hb⟩
  obtain ⟨AP, cP, rfl⟩ := Kd.R_slice ho
  have hP := Lib.hid ho
  have B6 := Lib.hid (below_next B5.out B5.out.size hb)
  have hS6 := Lib.hid (Kd.R_below hS5.out hb)
  have hO6 := Lib.hid (Kd.R_below hO.out hb)
  have z6 := hb.size
  clear ho hb B5 hS5 hO
  go_wp2_with (fail)
  refine (wInts_any hO6.out hP.out (by rw [ordTo_length]; omega)).mono ?_
  rintro e w7 ⟨rfl, hb⟩
  have B7 := Lib.hid (below_next B6.out B6.out.size hb)
  have hS7 := Lib.hid (Kd.R_below hS6.out hb)
  have z7 := hb.size
  clear hb B6 hS6 hO6 hP
  go_wp2_with (fail)
  refine (impl_capsOk_any A1 c1 caps _ (C1.out _ B7.out) (by omega)).mono ?_
  rintro e w8 ⟨rfl, hb⟩
  have B8 := Lib.hid (below_next B7.out B7.out.size hb)
  have hS8 := Lib.hid (Kd.R_below hS7.out hb)
  have z8 := hb.size
  clear hb B7 hS7
  go_wp2_with (fail)
  refine (spec_capsOk_any A1 c1 caps _ (C1.out _ B8.out) (by omega)).mono ?_
  rintro e w9 ⟨rfl, hb⟩
  have B9 := Lib.hid (below_next B8.out B8.out.size hb)
  have hS9 := Lib.hid (Kd.R_below hS8.out hb)
  have z9 := hb.size
  clear hb B8 hS8
  have ecc : (capsB caps == capsB caps) = true := by simp
  go_wp2_with (fail)
  refine (spec_capsOk_any A1 c1 caps _ (C1.out _ B9.out) (by omega)).mono ?_
  rintro e w10 ⟨rfl, hb⟩
  have B10 := Lib.hid (below_next B9.out B9.out.size hb)
  have hS10 := Lib.hid (Kd.R_below hS9.out hb)
  have z10 := hb.size
  clear hb B9 hS9
  cases hcs : capsB caps with
  | false =>
    have ez : (giveB caps fl).length = 0 := by rw [giveB_nil (by rw [hcs]; rfl)]; rfl
    rw [ez]
    go_wp2
    go_ret
    exact ⟨rfl, below_next HB1.out HB1.out.size B10.out⟩
  | true =>
  have HC := Lib.hid hcs
  clear hcs
  go_wp2_with (fail)
  refine (spec_flightsOk_any A2 c2 fl _ (C2.out _ B10.out) (by omega)).mono ?_
  rintro e w11 ⟨rfl, hb⟩
  have B11 := Lib.hid (below_next B10.out B10.out.size hb)
  have hS11 := Lib.hid (Kd.R_below hS10.out hb)
  have z11 := hb.size
  clear hb B10 hS10
  cases hfs : flightsB fl with
  | false =>
    have ez : (giveB caps fl).length = 0 := by rw [giveB_nil (by rw [HC.out, hfs]; rfl)]; rfl
    rw [ez]
    go_wp2
    go_ret
    exact ⟨rfl, below_next HB1.out HB1.out.size B11.out⟩
  | true =>
  have HF := Lib.hid hfs
  clear hfs
  have hfit := giveB_fits HC.out HF.out
  have HFit := Lib.hid hfit
  clear hfit
  have eglen := Lib.hid (giveB_length HC.out HF.out)
  go_wp2_with (fail)
  refine (impl_fitsAll_any A1 c1 caps A2 c2 fl AS cS (giveB caps fl) _ (C1.out _ B11.out) (C2.out _ B11.out) (Kd.R_reads' hS11.out).2.2).mono ?_
  rintro e w12 ⟨rfl, hb⟩
  rw [HFit.out]
  have B12 := Lib.hid (below_next B11.out B11.out.size hb)
  have hS12 := Lib.hid (Kd.R_below hS11.out hb)
  have z12 := hb.size
  clear hb B11 hS11
  rw [eglen.out]
  have hS12' : Hid (Kd.R (Kd.int .i64) 3 w12 w1.heap.size (iv w1.heap.size w2.heap.size) (.slice AS fl.length cS) (giveB caps fl)) := by have t := hS12.out; rwa [eglen.out] at t
  clear hS12 eglen
  go_wp2_with (fail)
  refine (impl_order_any A2 c2 fl _ (C2.out _ B12.out) (by omega)).mono ?_
  rintro e w13 ⟨v, rfl, ho, hb⟩
  obtain ⟨AQ, cQ, rfl⟩ := Kd.R_slice ho
  have B13 := Lib.hid (below_next B12.out B12.out.size hb)
  have hS13 := Lib.hid (Kd.R_below hS12'.out hb)
  have hO13 : Hid (Kd.R (Kd.int .i64) 3 w13 w12.heap.size (iv w12.heap.size w13.heap.size) (.slice AQ fl.length cQ) (ordTo fl fl.length)) := by have t := R_iv ho; rwa [ordTo_length] at t
  rw [ordTo_length]
  have z13 := hb.size
  clear ho hb B12 hS12'
  go_wp2
  go_loopw [7, 8] (fun v vk wr => ∃ k : Nat, vk = .int .i64 k ∧ k ≤ fl.length ∧ Hid (Kd.R (Kd.int .i64) 3 wr w13.heap.size (fun _ => True) v (List.replicate k (-1))) ∧ Hid (v.ownBlock ≠ none) ∧ Hid (Below w13.heap.size w13 wr)) (fun _ vk _ => fl.length - (intOf vk).toNat)
  case atStart => exact ⟨0, rfl, Nat.zero_le _, R_made w13 _, (fun h => by simp [Value.ownBlock] at h), (Below.refl _ _).alloc (Nat.le_refl _) _⟩
  case round =>
    obtain ⟨k, rfl, hk, HO, HN, HB⟩ := hrel
    by_cases hlt : k < fl.length
    · have hwl := HB.out.size
      have j1 : (k : Int) < fl.length := by omega
      go_wp2_with (first
        | (at_builtin; refine Kd.R_append (Kd.int .i64) (w0 := w13) w13.heap.size rfl _ _ 24 3 (.int .i64 0) 8 rfl Try.underlying24 infoInt rfl (by decide) (by decide) u7 (List.replicate k (-1)) (-1) [.int .i64 (-1)] (fun _ => True) (fun _ => False) rfl rfl rfl (fun _ h => h.elim) (fun _ _ => trivial) HO.out HB.out hwl (by rw [List.length_replicate]; omega) ?_; intro v1 w1' ho hb1 hg1 hat1; have O1 := Lib.hid ho; have hn1' := Lib.hid hat1; have HB1' := Lib.hid hb1; clear ho hat1 hg1 hb1)
        | go_in)
      go_roundw
      case rel =>
        refine ⟨k + 1, by go_num, hlt, ?_, ?_, HB1'.out⟩
        · have t := O1.out
          rw [← List.replicate_succ'] at t
          exact t
        · rcases hn1'.out with h | ⟨b, h, _⟩
          · rw [h]; exact HN.out
          · rw [h]; exact fun h => by cases h
      case measure => simp [intOf]; omega
    · obtain rfl : k = fl.length := by omega
      go_wp2
      obtain ⟨w14, rfl⟩ : ∃ wo : World, wo = wr := ⟨_, rfl⟩
      have hB14 := Lib.hid (below_next B13.out B13.out.size HB.out)
      have hS14 := Lib.hid (Kd.R_below hS13.out HB.out)
      have hO14 := Lib.hid (Kd.R_below hO13.out HB.out)
      have z14 := HB.out.size
      obtain ⟨AH, cH, rfl⟩ := Kd.R_slice HO.out
      obtain ⟨AH, rfl⟩ : ∃ ad, AH = some ad := own_some HN.out
      obtain ⟨g, rfl⟩ := Kd.R_head HO.out
      have hg0 := Kd.R_base HO.out g rfl
      have hG14 : Hid (Kd.R (Kd.int .i64) 3 w14 w13.heap.size (fun _ => True) (.slice (some ⟨g, 0, none⟩) fl.length cH) (noneS fl.length)) := by have t := HO.out; rwa [List.length_replicate] at t
      rw [List.length_replicate]
      clear HO HN HB B13 hS13 hO13
      go_loopw [9] (fun vk wr => ∃ k : Nat, vk = .int .i64 k ∧ k ≤ fl.length ∧ Hid (Kd.R (Kd.int .i64) 3 wr w13.heap.size (fun _ => True) (.slice (some ⟨g, 0, none⟩) fl.length cH) (giveS caps fl ((ordTo fl fl.length).take k) (noneS fl.length))) ∧
          Hid (Kd.R (Kd.int .i64) 3 wr w12.heap.size (iv w12.heap.size w13.heap.size) (.slice AQ fl.length cQ) (ordTo fl fl.length)) ∧ Hid (Kd.R (Kd.int .i64) 3 wr w1.heap.size (iv w1.heap.size w2.heap.size) (.slice AS fl.length cS) (giveB caps fl)) ∧ Hid (Below w1.heap.size w1 wr))
        (fun vk _ => fl.length - (intOf vk).toNat)
      case atStart => exact ⟨0, rfl, Nat.zero_le _, hG14, hO14, hS14, hB14⟩
      case round =>
        clear hG14 hO14 hS14 hB14
        obtain ⟨k, rfl, hk, HO, HQ, HS', HB⟩ := hrel
        by_cases hlt : k < fl.length
        · obtain ⟨w15, rfl⟩ : ∃ wo : World, wo = wr := ⟨_, rfl⟩
          obtain ⟨x, f, hx, hxl, hf, hs, ht, hstep⟩ := give_at HC.out HF.out k hlt
          have hslot := giveB_slot HC.out HF.out hx hxl
          obtain ⟨G, hG⟩ : ∃ G, G = giveS caps fl ((ordTo fl fl.length).take k) (noneS fl.length) := ⟨_, rfl⟩
          rw [← hG] at HO hs ht hstep hslot
          rw [leastAt_some hf] at hslot
          clear hG
          have hCo : Kd.C (Kd.int .i64) w15 AQ (ordTo fl fl.length).length (ordTo fl fl.length) := by rw [ordTo_length]; exact R_readC HQ.out
          obtain ⟨ad, x', rfl, hx', c1o⟩ := intAt hCo k (by rw [ordTo_length]; exact hlt)
          obtain rfl : (x : Int) = x' := Option.some.inj (hx.symm.trans hx')
          obtain ⟨ad2, f', A3, c3, rfl, hf', p0, p1, p2, p3, hl3, hr3⟩ := flightAt (C2.out _ HB.out) x hxl
          obtain rfl : f = f' := Option.some.inj (hf.symm.trans hf')
          obtain ⟨hfl2, hlen2, _⟩ := slotsB_parts hs
          obtain ⟨_, hfs2, _⟩ := flightsB_parts hfl2
          obtain ⟨_, b1, b2, b3, b4, _⟩ := flightB_parts (hfs2 f (List.mem_of_getElem? hf))
          have j7 : IntKind.i64.wrap (f.f1 + f.f2) = f.f1 + f.f2 := IntWalk.i64_in _ (by omega)
          have j1 : (k : Int) < fl.length := by omega
          have j2 : (x : Int) < fl.length := by omega
          have hnb := leastN_late (caps := caps) (l := fl) (s := G) (k := x) (f := f) b1
          have QF := Lib.hid (fun (W : World) (t : Int) (h0 : f.f1 ≤ t) (h1 : t ≤ f.f1 + f.f2) (hb : Below w1.heap.size w1 W) (hx : Kd.C (Kd.int .i64) W (some ⟨g, 0, none⟩) fl.length (G.set x t)) => by
            have := impl_fitsAll_any A1 c1 caps (some ad2) c2 fl (some ⟨g, 0, none⟩) cH (G.set x t) W (C1.out _ hb) (C2.out _ hb) (by rwa [List.length_set, hlen2])
            rwa [List.length_set, hlen2, fits_set HC.out hs ht x hf h0 h1] at this)
          have HL0 : Hid (leastN caps fl G x f = searchN (fun t => noneFull caps fl (G.set x t)) f.f1 (f.f2.toNat + 1)) := rfl
          have HSt := Lib.hid hstep
          have HSl := Lib.hid hslot
          have HLen := Lib.hid hlen2
          have hgne : Hid (g ≠ ad.block) := fun e => by
            have h1 := (HQ.out.1 ad.block rfl).2
            omega
          have hCs : Kd.C (Kd.int .i64) w15 AS (giveB caps fl).length (giveB caps fl) := by rw [giveB_length HC.out HF.out]; exact R_readC HS'.out
          obtain ⟨adS, y', rfl, _, _⟩ := intAt hCs x (by rw [giveB_length HC.out HF.out]; exact hxl)
          have HQC : Hid (∀ W, Kd.R (Kd.int .i64) 3 W w12.heap.size (iv w12.heap.size w13.heap.size) (.slice (some ad) fl.length cQ) (ordTo fl fl.length) → W.cell? (ad.add k) = some (.int .i64 (x : Int))) := fun W h => by
            obtain ⟨a', y', ea, hy', hc'⟩ := intAt (w := W) (A := some ad) (xs := ordTo fl fl.length) (by rw [ordTo_length]; exact R_readC h) k (by rw [ordTo_length]; exact hlt)
            injection ea with ea
            subst ea
            rw [hc', ← Option.some.inj (hx.symm.trans hy')]
          have HSC : Hid (∀ W, Kd.R (Kd.int .i64) 3 W w1.heap.size (iv w1.heap.size w2.heap.size) (.slice (some adS) fl.length cS) (giveB caps fl) → W.cell? (adS.add x) = some (.int .i64 (leastN caps fl G x f))) := fun W h => by
            obtain ⟨a', y', ea, hy', hc'⟩ := intAt (w := W) (A := some adS) (xs := giveB caps fl) (by rw [giveB_length HC.out HF.out]; exact R_readC h) x (by rw [giveB_length HC.out HF.out]; exact hxl)
            injection ea with ea
            subst ea
            rw [hc', ← Option.some.inj (hslot.symm.trans hy')]
          have hgl15 : g < w15.heap.size := Kd.R_lt HO.out g rfl
          have hgS : Hid (g ≠ adS.block) := fun e => by
            have h1 := (HS'.out.1 adS.block rfl).2
            omega
          clear hx hx' hs ht hf hf' hstep hslot hCo hCs hr3 hfl2 hlen2 hfs2 hl3
          go_wp2
          go_loopw [11, 12] (fun v11 v12 wi => ∃ (n : Nat) (t lst : Int) (ys : List Int), v12 = .int .i64 t ∧ v11 = .int .i64 lst ∧ 0 ≤ t ∧ t ≤ 10100 ∧ Hid ((lst = -1 ∧ f.f1 ≤ t ∧ t + n = f.f1 + f.f2 + 1 ∧ leastN caps fl G x f = searchN (fun t => noneFull caps fl (G.set x t)) t n) ∨ (0 ≤ lst ∧ leastN caps fl G x f = lst)) ∧
              Hid (∀ z, ys.set x z = G.set x z) ∧ Hid (Kd.R (Kd.int .i64) 3 wi w13.heap.size (fun _ => True) (.slice (some ⟨g, 0, none⟩) fl.length cH) ys) ∧ Hid (Kd.R (Kd.int .i64) 3 wi w12.heap.size (iv w12.heap.size w13.heap.size) (.slice (some ad) fl.length cQ) (ordTo fl fl.length)) ∧ Hid (Kd.R (Kd.int .i64) 3 wi w1.heap.size (iv w1.heap.size w2.heap.size) (.slice (some adS) fl.length cS) (giveB caps fl)) ∧ Hid (Below w1.heap.size w1 wi) ∧ Hid (wi.heap[w15.heap.size]? = some (.cells #[.string f.f0, .int .i64 f.f1, .int .i64 f.f2, .slice A3 f.f3.length c3] 61 (0, 0))) ∧ Hid (Below w15.heap.size w15 w15)) (fun _ v12 _ => (f.f1 + f.f2 + 1 - intOf v12).toNat)
          case atStart => exact ⟨f.f2.toNat + 1, f.f1, -1, G, rfl, rfl, b1, by omega, .inl ⟨rfl, Int.le_refl _, by omega, HL0.out⟩, fun _ => rfl, Kd.R_alloc HO.out _, Kd.R_alloc HQ.out _, Kd.R_alloc HS'.out _, HB.out.alloc HB.out.size _, blk_new _ _, Below.refl _ _⟩
          case round =>
            clear HL0 p0 p1 p2 p3 c1o
            obtain ⟨n, t, lst, ys, rfl, rfl, ht0, ht1, HD, HY, HOi, HQi, HSi, HBi, HXi, _⟩ := hrel
            obtain ⟨w16, rfl⟩ : ∃ wo : World, wo = wr := ⟨_, rfl⟩
            have d1 := blk_cell HXi.out 1
            have d2 := blk_cell HXi.out 2
            simp only [List.getElem?_toArray, List.getElem?_cons_zero, List.getElem?_cons_succ] at d1 d2
            have cq := HQC.out _ HQi.out
            have hgw1 : w1.heap.size ≤ g := by omega
            obtain ⟨y, y0, yf⟩ := R_cellN HOi.out x hxl
            by_cases hgo : t ≤ f.f1 + f.f2 ∧ lst < 0
            · obtain ⟨hg1, hg2⟩ := hgo
              obtain ⟨rfl, hft, htn, hse⟩ : lst = -1 ∧ f.f1 ≤ t ∧ t + n = f.f1 + f.f2 + 1 ∧ leastN caps fl G x f = searchN (fun t => noneFull caps fl (G.set x t)) t n := by
                rcases HD.out with h | h
                · exact h
                · omega
              obtain ⟨n, rfl⟩ : ∃ m, n = m + 1 := ⟨n - 1, by omega⟩
              have HSe := Lib.hid hse
              have e1 : decide (t ≤ f.f1 + f.f2) = true := decide_eq_true hg1
              have HN : Hid (Kd.R (Kd.int .i64) 3 (w16.setCell ⟨g, x, none⟩ (.int .i64 t)) w13.heap.size (fun _ => True) (.slice (some ⟨g, 0, none⟩) fl.length cH) (G.set x t)) := by
                show Kd.R _ _ _ _ _ _ _
                rw [← HY.out t]; exact R_setN HOi.out x t
              have hbS : Hid (Below w1.heap.size w1 (w16.setCell ⟨g, x, none⟩ (.int .i64 t))) := HBi.out.setCell hgw1 _
              clear hse
              cases hnf : noneFull caps fl (G.set x t) with
              | true =>
                have HNF := Lib.hid hnf
                clear hnf
                go_wp2_with (first
                  | (go_at_call 61; refine (QF.out _ t hft hg1 hbS.out (R_readC HN.out)).mono ?_; rintro e w17 ⟨rfl, hb⟩; rw [HNF.out]; have HBb := Lib.hid hb; clear hb)
                  | go_in)
                go_roundw
                case rel => exact ⟨n, t + 1, t, G.set x t, by go_num, rfl, by omega, by omega, .inr ⟨ht0, by rw [HSe.out, search_hit (p := fun t => noneFull caps fl (G.set x t)) HNF.out]⟩, fun z => by rw [List.set_set], Kd.R_below HN.out HBb.out, Kd.R_below (Kd.R_far HQi.out (fun q hq => by show q ≠ g; have := hq.2; omega) _) HBb.out, Kd.R_below (Kd.R_far HSi.out (fun q hq => by show q ≠ g; have := hq.2; omega) _) HBb.out, below_next hbS.out hbS.out.size HBb.out, (HBb.out.block _ (by rw [show (w16.setCell ⟨g, x, none⟩ (.int .i64 t)).heap.size = w16.heap.size by simp [World.setCell]]; exact blk_lt HXi.out)).trans (blk_far HXi.out (p := ⟨g, x, none⟩) (by show w15.heap.size ≠ g; omega) _), Below.refl _ _⟩
                case measure => simp [intOf]; omega
              | false =>
                have HNF := Lib.hid hnf
                clear hnf
                go_wp2_with (first
                  | (go_at_call 61; refine (QF.out _ t hft hg1 hbS.out (R_readC HN.out)).mono ?_; rintro e w17 ⟨rfl, hb⟩; rw [HNF.out]; have HBb := Lib.hid hb; clear hb)
                  | go_in)
                go_roundw
                case rel => exact ⟨n, t + 1, -1, G.set x t, by go_num, rfl, by omega, by omega, .inl ⟨rfl, by omega, by omega, by rw [HSe.out, search_miss (p := fun t => noneFull caps fl (G.set x t)) HNF.out]⟩, fun z => by rw [List.set_set], Kd.R_below HN.out HBb.out, Kd.R_below (Kd.R_far HQi.out (fun q hq => by show q ≠ g; have := hq.2; omega) _) HBb.out, Kd.R_below (Kd.R_far HSi.out (fun q hq => by show q ≠ g; have := hq.2; omega) _) HBb.out, below_next hbS.out hbS.out.size HBb.out, (HBb.out.block _ (by rw [show (w16.setCell ⟨g, x, none⟩ (.int .i64 t)).heap.size = w16.heap.size by simp [World.setCell]]; exact blk_lt HXi.out)).trans (blk_far HXi.out (p := ⟨g, x, none⟩) (by show w15.heap.size ≠ g; omega) _), Below.refl _ _⟩
                case measure => simp [intOf]; omega
            · have HL : Hid (leastN caps fl G x f = lst) := by
                rcases HD.out with ⟨h1, h2, h3, h4⟩ | ⟨h1, h2⟩
                · have hn0 : n = 0 := by omega
                  rw [hn0] at h4
                  show _ = _
                  rw [h4, h1]; rfl
                · exact h2
              have cs1 : (w16.setCell ⟨g, x, none⟩ (.int .i64 lst)).cell? (ad.add k) = some (.int .i64 (x : Int)) := (World.cell?_setCell_far _ _ _ _ (fun e => hgne.out (e.trans (by first | rfl | (unfold Addr.add; split <;> rfl))))).trans cq
              have cs2 : (w16.setCell ⟨g, x, none⟩ (.int .i64 lst)).cell? (adS.add x) = some (.int .i64 lst) := by
                refine (World.cell?_setCell_far _ _ _ _ (fun e => hgS.out (e.trans (by first | rfl | (unfold Addr.add; split <;> rfl))))).trans ?_
                rw [HSC.out _ HSi.out, HL.out]
              by_cases hg1 : t ≤ f.f1 + f.f2
              all_goals
                first
                  | (have e1 : decide (t ≤ f.f1 + f.f2) = true := decide_eq_true hg1)
                  | (have e1 : decide (t ≤ f.f1 + f.f2) = false := decide_eq_false hg1)
                first
                  | (have e2 : decide (lst < 0) = false := decide_eq_false (by omega))
                  | skip
                go_wp2
                go_roundw
                case rel =>
                  refine ⟨k + 1, by go_num, hlt, ?_, Kd.R_far HQi.out (fun q hq => by show q ≠ g; have := hq.2; omega) _, Kd.R_far HSi.out (fun q hq => by show q ≠ g; have := hq.2; omega) _, HBi.out.setCell hgw1 _⟩
                  rw [HSt.out, HL.out, ← HY.out]
                  exact R_setN HOi.out x lst
                case measure => simp [intOf]; omega
        · obtain rfl : k = fl.length := by omega
          go_wp2
          go_ret
          exact ⟨rfl, below_next HB1.out HB1.out.size HB.out⟩
end Go.Proofs.Ytkfoeplefajkcaa.Q
end


section
namespace Go.Proofs.Ytkfoeplefajkcaa.fnGive
open Go.ChangeShapes Go.WideShapes Go.ChangeAt Go.RowKit
open Go.ChangeMaps (open_string shut_string)
set_option linter.unusedVariables false
theorem own : ownKnob Try.prog.godebug = none := by kernel_rfl
theorem laidOut : laidOutB Try.prog = true := by kernel_rfl
set_option maxRecDepth 100000 in
theorem lifted (os : Os) (started : os.Started) (H : Type) (enc : TypeId × Value → H) :
    ReturnsInHanded {} Try.checked os 10 .any (Rows.fnGiveSpec.pre6 enc Try.prog Try.f10 Rows.fnGiveRow.domain false) (Rows.fnGiveSpec.post enc Try.prog Try.f10 false true false false) := by
  refine returnsInHanded_of_change_sized (C := Try.checked) own started (by kernel_rfl) Try.func10
    (ChangeSpec.witness6 (enc := enc) (C := Try.checked) false ⟨#[], #[.slice none 0 0], []⟩ 8 (by kernel_rfl) (by kernel_rfl) (by kernel_rfl) (by kernel_rfl)) ?_
  intro W base args ds gs before hval0 hW hcnd hsz0 _
  have hsz : (DataW.weightsEach Try.prog (Try.f10.params.toList ++ Rows.fnGiveSpec.plain.varTypes Try.prog) (ds ++ gs)).all (· ≤ reachBytes) = true := hsz0
  have hval : ∀ (j : Nat) t v, Try.f10.params[j]? = some t → args[j]? = some v → Value.okWide Try.prog W .any base t v := hval0
  have hW' := hW
  obtain ⟨p, q, hA0, hV, rfl, hfz, hnd⟩ := hW
  have hA : DataW.TrodAll enc Try.prog W 0 (fun _ => true) true Try.f10.params.toList args.toList ds p := hA0
  rw [Try.params10] at hA hval hsz
  obtain ⟨v0, vs0, d0, ds0, p0, q0, hargs, rfl, rfl, h0, r0⟩ := trodAll_cons hA
  obtain ⟨rfl, rfl, rfl⟩ := trodAll_nil r0
  obtain rfl : args = #[v0] := by cases args; simp_all
  obtain ⟨rfl, rfl⟩ := trodVars_none hV
  obtain ⟨a0, len0, cap0, rfl⟩ := okWide_slice Try.underlying72 (hval 0 72 v0 rfl rfl)
  have k0 := h0
  have lt0 : ∀ x ∈ p0, x.block < W.heap.size := by obtain ⟨m, hm⟩ := k0; exact DataW.trod_lt m _ _ _ hm
  obtain ⟨l0, rfl, hc0, hr0, hg0⟩ := Q.arg_bytes h0
  clear hA0 hval0 hsz0 hsz
  refine (Q.walk_fngive a0 cap0 l0 W hr0 hc0 hg0).mono fun e W' ⟨he, bel⟩ => ?_
  subst he
  exact ⟨_, rfl, _, _, _, [], _, [], hW', trodAll_mk1 (shut_bool Try.underlying4 _), (trodAll_cons_mk (Below.trod laidOut (by kernel_rfl) (of_decide_eq_true (by kernel_rfl)) k0 bel lt0) trodAll_mk0), rfl, bel.frame _, fun h => by cases h⟩
theorem over : Rows.fnGiveRow.holds Try.pinned (OpenSpec.ofChange Rows.fnGiveSpec) :=
  OpenClaim.holds_of_wide 10 Try.f10 rfl rfl rfl rfl rfl rfl rfl ⟨rfl, rfl, rfl, rfl, rfl⟩ rfl rfl rfl rfl rfl (by kernel_rfl) Try.func10 (by kernel_rfl)
    (of_decide_eq_true (by kernel_rfl)) (by unfold Func.isWrapper; first | (rw [if_pos (by decide +kernel)]; kernel_rfl) | (rw [if_neg (by decide +kernel)]; exact ⟨rfl, rfl⟩))
    (fun os started H enc _ => lifted os started H enc)
theorem proved : Rows.FnGiveSaid := over
#print axioms proved
end Go.Proofs.Ytkfoeplefajkcaa.fnGive
end
