/- Merged out of this seat's own texts: O1. -/
import Derived.Test.YtkfoeplefajkcaaMgC
import Derived.Test.YtkfoeplefajkcaaMgN

/- Contracts: FlowOrder of the reference. -/
section
namespace Go.Proofs.Ytkfoeplefajkcaa.Q
open Go.RowKit Go.Proofs.YtkfoeplefajkcaaW.PrintWords Go.Proofs.Ytkfoeplefajkcaa.Core
set_option linter.unusedVariables false
set_option linter.unusedSimpArgs false

theorem noLater_lt {l : List Flight} {i x : Int} {f o : Flight} (hi : flAt l i = f) (hx : flAt l x = o) (h : o.f1 < f.f1) : noLater l i x = true := by
  unfold noLater aheadB; rw [hi, hx, if_neg (by omega), decide_eq_false (by omega)]; rfl
theorem noLater_gt {l : List Flight} {i x : Int} {f o : Flight} (hi : flAt l i = f) (hx : flAt l x = o) (h : f.f1 < o.f1) : noLater l i x = false := by
  unfold noLater aheadB; rw [hi, hx, if_neg (by omega), decide_eq_true (by omega)]; rfl
theorem noLater_eq {l : List Flight} {i x : Int} {f o : Flight} (hi : flAt l i = f) (hx : flAt l x = o) (h : o.f1 = f.f1) : noLater l i x = !lessB f.f0 o.f0 := by
  unfold noLater aheadB; rw [hi, hx, if_pos h.symm]
theorem leq_names {a b : ByteArray} : (Op.bytesLess a.toList b.toList || a.toList == b.toList) = !lessB b a := by
  cases h : lessB b a with
  | true =>
    have h1 : Op.bytesLess a.toList b.toList = false := by
      rw [Bool.eq_false_iff]; intro h2
      have := less_trans (a := a) (b := b) (c := a) h2 h
      rw [less_irrefl] at this; cases this
    have h2 : (a.toList == b.toList) = false := by
      rw [beq_eq_false_iff_ne]; intro e
      unfold lessB at h; rw [e, bl_irrefl] at h; cases h
    rw [h1, h2]; rfl
  | false =>
    cases h1 : Op.bytesLess a.toList b.toList with
    | true => rfl
    | false => rw [bl_total _ _ h1 h]; simp
theorem flAt_nat {l : List Flight} {n : Nat} {f : Flight} (h : l[n]? = some f) : flAt l n = f := by
  unfold flAt; rw [Int.toNat_natCast, List.getD_eq_getElem?_getD, h]; rfl

set_option maxRecDepth 100000 in
set_option maxHeartbeats 4000000 in
theorem spec_order_any (A : Option Addr) (c : Nat) (l : List Flight) (w : World) (hr : Kd.C k61 w A l.length l) (hl : l.length ≤ 1048576) :
    Calls Try.prog 15 #[.slice A l.length c] w fun e w' => ∃ v, e = .returned v ∧ Kd.R (Kd.int .i64) 3 w' w.heap.size (fun _ => True) v (ordTo l l.length) ∧ Below w.heap.size w w' := by
  go_enter Try.func15, Try.ntmps15
  go_wp2
  go_loopw [3, 4] (fun o v wr => ∃ k : Nat, k ≤ l.length ∧ v = .int .i64 k ∧ Hid (Kd.R (Kd.int .i64) 3 wr w.heap.size (fun _ => True) o (ordTo l k)) ∧ Hid (o.ownBlock ≠ none) ∧ Below w.heap.size w wr) (fun _ v _ => l.length - (intOf v).toNat)
  case atStart => exact ⟨0, Nat.zero_le _, rfl, R_made w _, (fun h => by simp [Value.ownBlock] at h), (Below.refl _ _).alloc (Nat.le_refl _) _⟩
  case round =>
    obtain ⟨k, hk, rfl, hO, hNN, hb⟩ := hrel
    obtain ⟨X, cX, rfl, hcX, hX⟩ := Kd.R_reads hO.out
    obtain ⟨ad1, rfl⟩ := own_some hNN.out
    have HOL := Lib.hid (ordTo_length l k)
    have hwl := hb.size
    by_cases hlt : k < l.length
    · obtain ⟨ad, f, A3, c3, rfl, hf, f0, f1, f2, f3, hl3, hr3⟩ := flightAt (Kd.C_below hr hb) k hlt
      have j4 : (k : Int) < l.length := by omega
      have HFI := Lib.hid (flAt_nat hf)
      have HRG := Lib.hid (ordTo_range l k)
      have HX2 : Hid (ordTo l (k + 1) = insP (noLater l k) k (ordTo l k)) := rfl
      clear hf hl3 hr3 f2 f3
      obtain ⟨xs, hxs⟩ : ∃ xs, xs = ordTo l k := ⟨_, rfl⟩
      rw [← hxs] at hX HX2 hO hcX HOL HRG ⊢
      clear hxs
      have hxl : xs.length ≤ 1048575 := by have := HOL.out; omega
      obtain ⟨W1, hW1⟩ : ∃ V, V = wr := ⟨_, rfl⟩
      subst hW1
      go_wp2
      go_loopw [5] (fun u wi => ∃ (j q : Nat), u = .int .i64 j ∧ j ≤ cntQ (noLater l k) xs ∧ wi = W1.drewN q) (fun u _ => xs.length - (intOf u).toNat)
      case atStart => exact ⟨0, 0, rfl, Nat.zero_le _, rfl⟩
      case round =>
        obtain ⟨j, q, rfl, hj, rfl⟩ := hrel
        have hcl := cntQ_le (noLater l k) xs
        by_cases hjx : j < xs.length
        · obtain ⟨ad1', x, ead, hx, x0⟩ := intAt hX j hjx
          obtain rfl : ad1 = ad1' := by injection ead
          clear ead
          have hxr := HRG.out x (List.mem_of_getElem? hx)
          obtain ⟨n, rfl⟩ := Int.eq_ofNat_of_zero_le hxr.1
          have hnl : n < l.length := by have := HOL.out; omega
          obtain ⟨ad', o, A4, c4, ead, ho, o0, o1, o2, o3, hl4, hr4⟩ := flightAt (Kd.C_below hr hb) n hnl
          obtain rfl : ad = ad' := by injection ead
          have HOI := Lib.hid (flAt_nat ho)
          have e0 : decide ((j : Int) < xs.length) = true := decide_eq_true (by omega)
          have e0' : decide (j < xs.length) = true := decide_eq_true hjx
          have j5 : (j : Int) < xs.length := by omega
          have j6 : (n : Int) < l.length := by omega
          have hcw := cntQ_while hj hjx
          rw [List.getElem?_eq_getElem hjx] at hx
          rw [Option.some.inj hx] at hcw
          have HCW := Lib.hid hcw
          clear ead hx ho hl4 hr4 o2 o3 hcw hxr
          rcases Int.lt_trichotomy o.f1 f.f1 with hp | hp | hp
          · have e2 : decide (o.f1 < f.f1) = true := decide_eq_true hp
            have hj2 := HCW.out.1 (noLater_lt HFI.out HOI.out hp)
            go_wp2
            go_quiet (fail)
            go_wp2
            go_roundw
            case rel => exact ⟨j + 1, _, by go_num, by omega, rfl⟩
            case measure => simp [intOf]; omega
          · have e2 : decide (o.f1 < f.f1) = false := decide_eq_false (by omega)
            have e3 : (o.f1 == f.f1) = true := by simp [hp]
            have HNE := Lib.hid (noLater_eq HFI.out HOI.out hp)
            have e4 : (Op.bytesLess o.f0.toList f.f0.toList || o.f0.toList == f.f0.toList) = !lessB f.f0 o.f0 := leq_names
            clear hp
            cases hnm : lessB f.f0 o.f0 with
            | false =>
              rw [hnm] at e4
              have hj2 := HCW.out.1 (by rw [HNE.out, hnm]; rfl)
              go_wp2
              go_quiet (fail)
              go_wp2
              go_roundw
              case rel => exact ⟨j + 1, _, by go_num, by omega, rfl⟩
              case measure => simp [intOf]; omega
            | true =>
              rw [hnm] at e4
              have hjq : j = cntQ (noLater l k) xs := by
                rcases Nat.lt_or_ge j (cntQ (noLater l k) xs) with h | h
                · have := HCW.out.2 h; rw [HNE.out, hnm] at this; cases this
                · omega
              have hjn : j ≤ xs.length := by omega
              have HJ := Lib.hid hjq
              clear hjq hcl
              go_wp2
              go_quiet (fail)
              rename_i nq
              go_wp2
              obtain ⟨Vw, hV⟩ : ∃ Vw, Vw = (World.drewN (World.drewN W1 q) nq) := ⟨_, rfl⟩
              rw [← hV]
              have hbV : Below W1.heap.size W1 Vw := by rw [hV]; exact pw_below_drewN (pw_below_drewN (Below.refl _ _) _) _
              have hXV := Kd.C_below hX hbV
              clear hV
              refine wp_region_any (by kernel_rfl) ?_
              change wpAny _ _ _ _ _ _ _ (World.drew _)
              have hjc_ : j ≤ cX := Nat.le_trans hjn hcX
              (refine wpAny_take (i := 1) (v := ?_) rfl (by kernel_rfl) (by kernel_rfl) (by kernel_rfl) (fun _ _ _ h => h) (Or.inl ⟨by rfl, ?_⟩) ?_; rotate_left; (intro w; go_simp; try (with_reducible rfl)); rotate_left)
              (refine wpAny_take (i := 2) (v := ?_) rfl (by kernel_rfl) (by kernel_rfl) (by kernel_rfl) (fun _ _ _ h => h) (Or.inl ⟨by rfl, ?_⟩) ?_; rotate_left; (intro w; go_simp; try (with_reducible rfl)); rotate_left)
              (refine wpAny_take (i := 3) (v := ?_) rfl (by kernel_rfl) (by kernel_rfl) (by kernel_rfl) (fun _ _ _ h => h) (Or.inl ⟨by rfl, ?_⟩) ?_; rotate_left; (intro w; go_simp; try (with_reducible rfl)); rotate_left)
              (refine wpAny_take (i := 5) (v := ?_) rfl (by kernel_rfl) (by kernel_rfl) (by kernel_rfl) (fun _ _ _ h => h) (Or.inl ⟨by rfl, ?_⟩) ?_; rotate_left; (intro w; go_simp; try (with_reducible rfl)); rotate_left)
              (refine wpAny_take (i := 8) (v := ?_) rfl (by kernel_rfl) (by kernel_rfl) (by kernel_rfl) (fun _ _ _ h => h) (Or.inl ⟨by rfl, ?_⟩) ?_; rotate_left; (intro w; go_simp; try (with_reducible rfl)); rotate_left)
              (refine wpAny_take (i := 9) (v := ?_) rfl (by kernel_rfl) (by kernel_rfl) (by kernel_rfl) (fun _ _ _ h => h) (Or.inl ⟨by rfl, ?_⟩) ?_; rotate_left; (intro w; go_simp; try (with_reducible rfl)); rotate_left)
              (refine wpAny_take (i := 10) (v := ?_) rfl (by kernel_rfl) (by kernel_rfl) (by kernel_rfl) (fun _ _ _ h => h) (Or.inl ⟨by rfl, ?_⟩) ?_; rotate_left; (intro w; go_simp; try (with_reducible rfl)); rotate_left)
              obtain ⟨V0, hV0⟩ : ∃ V, V = World.drew Vw := ⟨_, rfl⟩
              rw [← hV0]
              have hb0 : Below Vw.heap.size Vw V0 := by rw [hV0]; exact (Below.refl _ _).drew
              clear hV0
              refine wpAny_ready (rs := [0, 6]) (by kernel_rfl) (by simp) ?_
              refine (AllReady.cons rfl (fun K hK => ?_) (AllReady.cons rfl (fun K hK => ?_) AllReady.nil))
              · go_simp
                refine hK _ _ ?_
                clear hK K
                have h38 : Kd.R (Kd.int .i64) 3 (V0.alloc (.cells #[] 3)) Vw.heap.size (fun _ => True) (.slice (some ⟨V0.heap.size, 0, none⟩) 0 0) [] := Kd.R_of_own (World.ownsRow_made V0 #[] 0 hb0.size (Nat.zero_le _) rfl) (fun _ _ => trivial)
                have hb1 := hb0.alloc hb0.size (.cells #[] 3)
                have hs1 : Hid ((V0.alloc (.cells #[] 3)).heap.size = V0.heap.size + 1) := by show _ = _; simp
                obtain ⟨V1, hV1⟩ : ∃ V, V = V0.alloc (.cells #[] 3) := ⟨_, rfl⟩
                rw [← hV1] at hb1 hs1 h38 ⊢
                clear hV1
                refine wpAny_ready (rs := [4, 6]) (by kernel_rfl) (by simp) ?_
                refine (AllReady.cons rfl (fun K hK => ?_) (AllReady.cons rfl (fun K hK => ?_) AllReady.nil))
                · refine ints_append_step (w0 := Vw) Vw.heap.size rfl (.tmp 67) (.tmp 70) 24 3 rfl Try.underlying24 infoInt (.slice (some ⟨V0.heap.size, 0, none⟩) 0 0) [] (xs.take j) (some ad1) j cX rfl rfl h38 (C_takeN (Kd.C_below hXV hb1) hjn) hb1 hb1.size (by simp <;> omega) (by simp [Value.ownBlock]) ?_
                  intro v42 V2 h42 hb2 hg2 hn42
                  refine hK _ _ ?_
                  clear hK K
                  simp only [List.nil_append] at h42
                  refine wpAny_ready (rs := [6]) (by kernel_rfl) (by simp) ?_
                  refine (AllReady.cons rfl (fun K hK => ?_) AllReady.nil)
                  · go_simp
                    refine hK _ _ ?_
                    clear hK K
                    have c44 : (V2.alloc (.cells #[.int .i64 (k : Int)] 3)).cell? ⟨V2.heap.size, 0, none⟩ = some (.int .i64 (k : Int)) := by simp
                    have h42 := Kd.R_alloc h42 (.cells #[.int .i64 (k : Int)] 3)
                    have hb3 := hb2.alloc hb2.size (.cells #[.int .i64 (k : Int)] 3)
                    have hs3 : Hid ((V2.alloc (.cells #[.int .i64 (k : Int)] 3)).heap.size = V2.heap.size + 1) := by show _ = _; simp
                    obtain ⟨V3, hV3⟩ : ∃ V, V = V2.alloc (.cells #[.int .i64 (k : Int)] 3) := ⟨_, rfl⟩
                    rw [← hV3] at hb3 hs3 h42 c44 ⊢
                    clear hV3
                    refine wpAny_ready (rs := [7]) (by kernel_rfl) (by simp) ?_
                    refine (AllReady.cons rfl (fun K hK => ?_) AllReady.nil)
                    · refine ints_append_step (w0 := Vw) Vw.heap.size rfl (.tmp 71) (.tmp 73) 24 3 rfl Try.underlying24 infoInt v42 (xs.take j) [(k : Int)] _ 1 1 rfl rfl h42 (C_one c44) hb3 hb3.size (by simp <;> omega) hn42 ?_
                      intro v45 V4 h45 hb4 hg4 hn45
                      refine hK _ _ ?_
                      clear hK K
                      refine wpAny_ready (rs := [11]) (by kernel_rfl) (by simp) ?_
                      refine (AllReady.cons rfl (fun K hK => ?_) AllReady.nil)
                      · refine ints_append_step (w0 := Vw) Vw.heap.size rfl (.tmp 74) (.tmp 77) 24 3 rfl Try.underlying24 infoInt v45 (xs.take j ++ [(k : Int)]) (xs.drop j) _ _ _ rfl rfl h45 (C_dropN (Kd.C_below hXV hb4) hjn hcX) hb4 hb4.size (by simp <;> omega) hn45 ?_
                        intro vZ V5 hZ hb5 hg5 hnZ
                        refine hK _ _ ?_
                        clear hK K
                        refine wpAny_ready (rs := [12]) (by kernel_rfl) (by simp) ?_
                        refine (AllReady.cons rfl (fun K hK => ?_) AllReady.nil)
                        · go_simp
                          refine hK _ _ ?_
                          clear hK K
                          refine wpAny_done (by kernel_rfl) ?_ _
                          have hbZ := hb5
                          try simp only [Act.put, List.setIfInBounds_toArray, List.set_cons_succ, List.set_cons_zero]
                          go_wp2
                          go_roundw
                          case rel =>
                            rw [HJ.out] at hZ
                            rw [← insP_eq, ← HX2.out] at hZ
                            exact ⟨k + 1, by omega, by go_num, Kd.R_lower hZ (Nat.le_trans hwl hbV.size), hnZ, below_next (below_next hb hb.size hbV) (Nat.le_trans hwl hbV.size) hbZ⟩
                          case measure => simp [intOf]; omega
                · go_simp
                  refine hK _ _ ?_
                  clear hK K
                  have c44 : (V1.alloc (.cells #[.int .i64 (k : Int)] 3)).cell? ⟨V1.heap.size, 0, none⟩ = some (.int .i64 (k : Int)) := by simp
                  have h38 := Kd.R_alloc h38 (.cells #[.int .i64 (k : Int)] 3)
                  have hb7 := hb1.alloc hb1.size (.cells #[.int .i64 (k : Int)] 3)
                  have hs7 : Hid ((V1.alloc (.cells #[.int .i64 (k : Int)] 3)).heap.size = V1.heap.size + 1) := by show _ = _; simp
                  obtain ⟨V7, hV7⟩ : ∃ V, V = V1.alloc (.cells #[.int .i64 (k : Int)] 3) := ⟨_, rfl⟩
                  rw [← hV7] at hb7 hs7 h38 c44 ⊢
                  clear hV7
                  refine wpAny_ready (rs := [4]) (by kernel_rfl) (by simp) ?_
                  refine (AllReady.cons rfl (fun K hK => ?_) AllReady.nil)
                  · refine ints_append_step (w0 := Vw) Vw.heap.size rfl (.tmp 67) (.tmp 70) 24 3 rfl Try.underlying24 infoInt (.slice (some ⟨V0.heap.size, 0, none⟩) 0 0) [] (xs.take j) (some ad1) j cX rfl rfl h38 (C_takeN (Kd.C_below hXV hb7) hjn) hb7 hb7.size (by simp <;> omega) (by simp [Value.ownBlock]) ?_
                    intro v42 V8 h42 hb8 hg8 hn42
                    refine hK _ _ ?_
                    clear hK K
                    simp only [List.nil_append] at h42
                    have c44 := hg8.cell c44 (by have ehs1 := hs1.out; have ehs7 := hs7.out; simp [Value.ownBlock]; omega)
                    refine wpAny_ready (rs := [7]) (by kernel_rfl) (by simp) ?_
                    refine (AllReady.cons rfl (fun K hK => ?_) AllReady.nil)
                    · refine ints_append_step (w0 := Vw) Vw.heap.size rfl (.tmp 71) (.tmp 73) 24 3 rfl Try.underlying24 infoInt v42 (xs.take j) [(k : Int)] _ 1 1 rfl rfl h42 (C_one c44) hb8 hb8.size (by simp <;> omega) hn42 ?_
                      intro v45 V9 h45 hb9 hg9 hn45
                      refine hK _ _ ?_
                      clear hK K
                      refine wpAny_ready (rs := [11]) (by kernel_rfl) (by simp) ?_
                      refine (AllReady.cons rfl (fun K hK => ?_) AllReady.nil)
                      · refine ints_append_step (w0 := Vw) Vw.heap.size rfl (.tmp 74) (.tmp 77) 24 3 rfl Try.underlying24 infoInt v45 (xs.take j ++ [(k : Int)]) (xs.drop j) _ _ _ rfl rfl h45 (C_dropN (Kd.C_below hXV hb9) hjn hcX) hb9 hb9.size (by simp <;> omega) hn45 ?_
                        intro vZ V10 hZ hb10 hg10 hnZ
                        refine hK _ _ ?_
                        clear hK K
                        refine wpAny_ready (rs := [12]) (by kernel_rfl) (by simp) ?_
                        refine (AllReady.cons rfl (fun K hK => ?_) AllReady.nil)
                        · go_simp
                          refine hK _ _ ?_
                          clear hK K
                          refine wpAny_done (by kernel_rfl) ?_ _
                          have hbZ := hb10
                          try simp only [Act.put, List.setIfInBounds_toArray, List.set_cons_succ, List.set_cons_zero]
                          go_wp2
                          go_roundw
                          case rel =>
                            rw [HJ.out] at hZ
                            rw [← insP_eq, ← HX2.out] at hZ
                            exact ⟨k + 1, by omega, by go_num, Kd.R_lower hZ (Nat.le_trans hwl hbV.size), hnZ, below_next (below_next hb hb.size hbV) (Nat.le_trans hwl hbV.size) hbZ⟩
                          case measure => simp [intOf]; omega
              · go_simp
                refine hK _ _ ?_
                clear hK K
                have c44 : (V0.alloc (.cells #[.int .i64 (k : Int)] 3)).cell? ⟨V0.heap.size, 0, none⟩ = some (.int .i64 (k : Int)) := by simp
                have hb12 := hb0.alloc hb0.size (.cells #[.int .i64 (k : Int)] 3)
                have hs12 : Hid ((V0.alloc (.cells #[.int .i64 (k : Int)] 3)).heap.size = V0.heap.size + 1) := by show _ = _; simp
                obtain ⟨V12, hV12⟩ : ∃ V, V = V0.alloc (.cells #[.int .i64 (k : Int)] 3) := ⟨_, rfl⟩
                rw [← hV12] at hb12 hs12 c44 ⊢
                clear hV12
                refine wpAny_ready (rs := [0]) (by kernel_rfl) (by simp) ?_
                refine (AllReady.cons rfl (fun K hK => ?_) AllReady.nil)
                · go_simp
                  refine hK _ _ ?_
                  clear hK K
                  have h38 : Kd.R (Kd.int .i64) 3 (V12.alloc (.cells #[] 3)) Vw.heap.size (fun _ => True) (.slice (some ⟨V12.heap.size, 0, none⟩) 0 0) [] := Kd.R_of_own (World.ownsRow_made V12 #[] 0 hb12.size (Nat.zero_le _) rfl) (fun _ _ => trivial)
                  have c44 := cell_al c44 (.cells #[] 3)
                  have hb13 := hb12.alloc hb12.size (.cells #[] 3)
                  have hs13 : Hid ((V12.alloc (.cells #[] 3)).heap.size = V12.heap.size + 1) := by show _ = _; simp
                  obtain ⟨V13, hV13⟩ : ∃ V, V = V12.alloc (.cells #[] 3) := ⟨_, rfl⟩
                  rw [← hV13] at hb13 hs13 c44 h38 ⊢
                  clear hV13
                  refine wpAny_ready (rs := [4]) (by kernel_rfl) (by simp) ?_
                  refine (AllReady.cons rfl (fun K hK => ?_) AllReady.nil)
                  · refine ints_append_step (w0 := Vw) Vw.heap.size rfl (.tmp 67) (.tmp 70) 24 3 rfl Try.underlying24 infoInt (.slice (some ⟨V12.heap.size, 0, none⟩) 0 0) [] (xs.take j) (some ad1) j cX rfl rfl h38 (C_takeN (Kd.C_below hXV hb13) hjn) hb13 hb13.size (by simp <;> omega) (by simp [Value.ownBlock]) ?_
                    intro v42 V14 h42 hb14 hg14 hn42
                    refine hK _ _ ?_
                    clear hK K
                    simp only [List.nil_append] at h42
                    have c44 := hg14.cell c44 (by have ehs12 := hs12.out; have ehs13 := hs13.out; simp [Value.ownBlock]; omega)
                    refine wpAny_ready (rs := [7]) (by kernel_rfl) (by simp) ?_
                    refine (AllReady.cons rfl (fun K hK => ?_) AllReady.nil)
                    · refine ints_append_step (w0 := Vw) Vw.heap.size rfl (.tmp 71) (.tmp 73) 24 3 rfl Try.underlying24 infoInt v42 (xs.take j) [(k : Int)] _ 1 1 rfl rfl h42 (C_one c44) hb14 hb14.size (by simp <;> omega) hn42 ?_
                      intro v45 V15 h45 hb15 hg15 hn45
                      refine hK _ _ ?_
                      clear hK K
                      refine wpAny_ready (rs := [11]) (by kernel_rfl) (by simp) ?_
                      refine (AllReady.cons rfl (fun K hK => ?_) AllReady.nil)
                      · refine ints_append_step (w0 := Vw) Vw.heap.size rfl (.tmp 74) (.tmp 77) 24 3 rfl Try.underlying24 infoInt v45 (xs.take j ++ [(k : Int)]) (xs.drop j) _ _ _ rfl rfl h45 (C_dropN (Kd.C_below hXV hb15) hjn hcX) hb15 hb15.size (by simp <;> omega) hn45 ?_
                        intro vZ V16 hZ hb16 hg16 hnZ
                        refine hK _ _ ?_
                        clear hK K
                        refine wpAny_ready (rs := [12]) (by kernel_rfl) (by simp) ?_
                        refine (AllReady.cons rfl (fun K hK => ?_) AllReady.nil)
                        · go_simp
                          refine hK _ _ ?_
                          clear hK K
                          refine wpAny_done (by kernel_rfl) ?_ _
                          have hbZ := hb16
                          try simp only [Act.put, List.setIfInBounds_toArray, List.set_cons_succ, List.set_cons_zero]
                          go_wp2
                          go_roundw
                          case rel =>
                            rw [HJ.out] at hZ
                            rw [← insP_eq, ← HX2.out] at hZ
                            exact ⟨k + 1, by omega, by go_num, Kd.R_lower hZ (Nat.le_trans hwl hbV.size), hnZ, below_next (below_next hb hb.size hbV) (Nat.le_trans hwl hbV.size) hbZ⟩
                          case measure => simp [intOf]; omega
          · have e2 : decide (o.f1 < f.f1) = false := decide_eq_false (by omega)
            have e3 : (o.f1 == f.f1) = false := by simp; omega
            have hjq : j = cntQ (noLater l k) xs := by
              rcases Nat.lt_or_ge j (cntQ (noLater l k) xs) with h | h
              · have := HCW.out.2 h; rw [noLater_gt HFI.out HOI.out hp] at this; cases this
              · omega
            have hjn : j ≤ xs.length := by omega
            have HJ := Lib.hid hjq
            clear hjq hcl
            go_wp2
            go_quiet (fail)
            rename_i nq
            go_wp2
            obtain ⟨Vw, hV⟩ : ∃ Vw, Vw = (World.drewN (World.drewN W1 q) nq) := ⟨_, rfl⟩
            rw [← hV]
            have hbV : Below W1.heap.size W1 Vw := by rw [hV]; exact pw_below_drewN (pw_below_drewN (Below.refl _ _) _) _
            have hXV := Kd.C_below hX hbV
            clear hV
            refine wp_region_any (by kernel_rfl) ?_
            change wpAny _ _ _ _ _ _ _ (World.drew _)
            have hjc_ : j ≤ cX := Nat.le_trans hjn hcX
            (refine wpAny_take (i := 1) (v := ?_) rfl (by kernel_rfl) (by kernel_rfl) (by kernel_rfl) (fun _ _ _ h => h) (Or.inl ⟨by rfl, ?_⟩) ?_; rotate_left; (intro w; go_simp; try (with_reducible rfl)); rotate_left)
            (refine wpAny_take (i := 2) (v := ?_) rfl (by kernel_rfl) (by kernel_rfl) (by kernel_rfl) (fun _ _ _ h => h) (Or.inl ⟨by rfl, ?_⟩) ?_; rotate_left; (intro w; go_simp; try (with_reducible rfl)); rotate_left)
            (refine wpAny_take (i := 3) (v := ?_) rfl (by kernel_rfl) (by kernel_rfl) (by kernel_rfl) (fun _ _ _ h => h) (Or.inl ⟨by rfl, ?_⟩) ?_; rotate_left; (intro w; go_simp; try (with_reducible rfl)); rotate_left)
            (refine wpAny_take (i := 5) (v := ?_) rfl (by kernel_rfl) (by kernel_rfl) (by kernel_rfl) (fun _ _ _ h => h) (Or.inl ⟨by rfl, ?_⟩) ?_; rotate_left; (intro w; go_simp; try (with_reducible rfl)); rotate_left)
            (refine wpAny_take (i := 8) (v := ?_) rfl (by kernel_rfl) (by kernel_rfl) (by kernel_rfl) (fun _ _ _ h => h) (Or.inl ⟨by rfl, ?_⟩) ?_; rotate_left; (intro w; go_simp; try (with_reducible rfl)); rotate_left)
            (refine wpAny_take (i := 9) (v := ?_) rfl (by kernel_rfl) (by kernel_rfl) (by kernel_rfl) (fun _ _ _ h => h) (Or.inl ⟨by rfl, ?_⟩) ?_; rotate_left; (intro w; go_simp; try (with_reducible rfl)); rotate_left)
            (refine wpAny_take (i := 10) (v := ?_) rfl (by kernel_rfl) (by kernel_rfl) (by kernel_rfl) (fun _ _ _ h => h) (Or.inl ⟨by rfl, ?_⟩) ?_; rotate_left; (intro w; go_simp; try (with_reducible rfl)); rotate_left)
            obtain ⟨V0, hV0⟩ : ∃ V, V = World.drew Vw := ⟨_, rfl⟩
            rw [← hV0]
            have hb0 : Below Vw.heap.size Vw V0 := by rw [hV0]; exact (Below.refl _ _).drew
            clear hV0
            refine wpAny_ready (rs := [0, 6]) (by kernel_rfl) (by simp) ?_
            refine (AllReady.cons rfl (fun K hK => ?_) (AllReady.cons rfl (fun K hK => ?_) AllReady.nil))
            · go_simp
              refine hK _ _ ?_
              clear hK K
              have h38 : Kd.R (Kd.int .i64) 3 (V0.alloc (.cells #[] 3)) Vw.heap.size (fun _ => True) (.slice (some ⟨V0.heap.size, 0, none⟩) 0 0) [] := Kd.R_of_own (World.ownsRow_made V0 #[] 0 hb0.size (Nat.zero_le _) rfl) (fun _ _ => trivial)
              have hb1 := hb0.alloc hb0.size (.cells #[] 3)
              have hs1 : Hid ((V0.alloc (.cells #[] 3)).heap.size = V0.heap.size + 1) := by show _ = _; simp
              obtain ⟨V1, hV1⟩ : ∃ V, V = V0.alloc (.cells #[] 3) := ⟨_, rfl⟩
              rw [← hV1] at hb1 hs1 h38 ⊢
              clear hV1
              refine wpAny_ready (rs := [4, 6]) (by kernel_rfl) (by simp) ?_
              refine (AllReady.cons rfl (fun K hK => ?_) (AllReady.cons rfl (fun K hK => ?_) AllReady.nil))
              · refine ints_append_step (w0 := Vw) Vw.heap.size rfl (.tmp 67) (.tmp 70) 24 3 rfl Try.underlying24 infoInt (.slice (some ⟨V0.heap.size, 0, none⟩) 0 0) [] (xs.take j) (some ad1) j cX rfl rfl h38 (C_takeN (Kd.C_below hXV hb1) hjn) hb1 hb1.size (by simp <;> omega) (by simp [Value.ownBlock]) ?_
                intro v42 V2 h42 hb2 hg2 hn42
                refine hK _ _ ?_
                clear hK K
                simp only [List.nil_append] at h42
                refine wpAny_ready (rs := [6]) (by kernel_rfl) (by simp) ?_
                refine (AllReady.cons rfl (fun K hK => ?_) AllReady.nil)
                · go_simp
                  refine hK _ _ ?_
                  clear hK K
                  have c44 : (V2.alloc (.cells #[.int .i64 (k : Int)] 3)).cell? ⟨V2.heap.size, 0, none⟩ = some (.int .i64 (k : Int)) := by simp
                  have h42 := Kd.R_alloc h42 (.cells #[.int .i64 (k : Int)] 3)
                  have hb3 := hb2.alloc hb2.size (.cells #[.int .i64 (k : Int)] 3)
                  have hs3 : Hid ((V2.alloc (.cells #[.int .i64 (k : Int)] 3)).heap.size = V2.heap.size + 1) := by show _ = _; simp
                  obtain ⟨V3, hV3⟩ : ∃ V, V = V2.alloc (.cells #[.int .i64 (k : Int)] 3) := ⟨_, rfl⟩
                  rw [← hV3] at hb3 hs3 h42 c44 ⊢
                  clear hV3
                  refine wpAny_ready (rs := [7]) (by kernel_rfl) (by simp) ?_
                  refine (AllReady.cons rfl (fun K hK => ?_) AllReady.nil)
                  · refine ints_append_step (w0 := Vw) Vw.heap.size rfl (.tmp 71) (.tmp 73) 24 3 rfl Try.underlying24 infoInt v42 (xs.take j) [(k : Int)] _ 1 1 rfl rfl h42 (C_one c44) hb3 hb3.size (by simp <;> omega) hn42 ?_
                    intro v45 V4 h45 hb4 hg4 hn45
                    refine hK _ _ ?_
                    clear hK K
                    refine wpAny_ready (rs := [11]) (by kernel_rfl) (by simp) ?_
                    refine (AllReady.cons rfl (fun K hK => ?_) AllReady.nil)
                    · refine ints_append_step (w0 := Vw) Vw.heap.size rfl (.tmp 74) (.tmp 77) 24 3 rfl Try.underlying24 infoInt v45 (xs.take j ++ [(k : Int)]) (xs.drop j) _ _ _ rfl rfl h45 (C_dropN (Kd.C_below hXV hb4) hjn hcX) hb4 hb4.size (by simp <;> omega) hn45 ?_
                      intro vZ V5 hZ hb5 hg5 hnZ
                      refine hK _ _ ?_
                      clear hK K
                      refine wpAny_ready (rs := [12]) (by kernel_rfl) (by simp) ?_
                      refine (AllReady.cons rfl (fun K hK => ?_) AllReady.nil)
                      · go_simp
                        refine hK _ _ ?_
                        clear hK K
                        refine wpAny_done (by kernel_rfl) ?_ _
                        have hbZ := hb5
                        try simp only [Act.put, List.setIfInBounds_toArray, List.set_cons_succ, List.set_cons_zero]
                        go_wp2
                        go_roundw
                        case rel =>
                          rw [HJ.out] at hZ
                          rw [← insP_eq, ← HX2.out] at hZ
                          exact ⟨k + 1, by omega, by go_num, Kd.R_lower hZ (Nat.le_trans hwl hbV.size), hnZ, below_next (below_next hb hb.size hbV) (Nat.le_trans hwl hbV.size) hbZ⟩
                        case measure => simp [intOf]; omega
              · go_simp
                refine hK _ _ ?_
                clear hK K
                have c44 : (V1.alloc (.cells #[.int .i64 (k : Int)] 3)).cell? ⟨V1.heap.size, 0, none⟩ = some (.int .i64 (k : Int)) := by simp
                have h38 := Kd.R_alloc h38 (.cells #[.int .i64 (k : Int)] 3)
                have hb7 := hb1.alloc hb1.size (.cells #[.int .i64 (k : Int)] 3)
                have hs7 : Hid ((V1.alloc (.cells #[.int .i64 (k : Int)] 3)).heap.size = V1.heap.size + 1) := by show _ = _; simp
                obtain ⟨V7, hV7⟩ : ∃ V, V = V1.alloc (.cells #[.int .i64 (k : Int)] 3) := ⟨_, rfl⟩
                rw [← hV7] at hb7 hs7 h38 c44 ⊢
                clear hV7
                refine wpAny_ready (rs := [4]) (by kernel_rfl) (by simp) ?_
                refine (AllReady.cons rfl (fun K hK => ?_) AllReady.nil)
                · refine ints_append_step (w0 := Vw) Vw.heap.size rfl (.tmp 67) (.tmp 70) 24 3 rfl Try.underlying24 infoInt (.slice (some ⟨V0.heap.size, 0, none⟩) 0 0) [] (xs.take j) (some ad1) j cX rfl rfl h38 (C_takeN (Kd.C_below hXV hb7) hjn) hb7 hb7.size (by simp <;> omega) (by simp [Value.ownBlock]) ?_
                  intro v42 V8 h42 hb8 hg8 hn42
                  refine hK _ _ ?_
                  clear hK K
                  simp only [List.nil_append] at h42
                  have c44 := hg8.cell c44 (by have ehs1 := hs1.out; have ehs7 := hs7.out; simp [Value.ownBlock]; omega)
                  refine wpAny_ready (rs := [7]) (by kernel_rfl) (by simp) ?_
                  refine (AllReady.cons rfl (fun K hK => ?_) AllReady.nil)
                  · refine ints_append_step (w0 := Vw) Vw.heap.size rfl (.tmp 71) (.tmp 73) 24 3 rfl Try.underlying24 infoInt v42 (xs.take j) [(k : Int)] _ 1 1 rfl rfl h42 (C_one c44) hb8 hb8.size (by simp <;> omega) hn42 ?_
                    intro v45 V9 h45 hb9 hg9 hn45
                    refine hK _ _ ?_
                    clear hK K
                    refine wpAny_ready (rs := [11]) (by kernel_rfl) (by simp) ?_
                    refine (AllReady.cons rfl (fun K hK => ?_) AllReady.nil)
                    · refine ints_append_step (w0 := Vw) Vw.heap.size rfl (.tmp 74) (.tmp 77) 24 3 rfl Try.underlying24 infoInt v45 (xs.take j ++ [(k : Int)]) (xs.drop j) _ _ _ rfl rfl h45 (C_dropN (Kd.C_below hXV hb9) hjn hcX) hb9 hb9.size (by simp <;> omega) hn45 ?_
                      intro vZ V10 hZ hb10 hg10 hnZ
                      refine hK _ _ ?_
                      clear hK K
                      refine wpAny_ready (rs := [12]) (by kernel_rfl) (by simp) ?_
                      refine (AllReady.cons rfl (fun K hK => ?_) AllReady.nil)
                      · go_simp
                        refine hK _ _ ?_
                        clear hK K
                        refine wpAny_done (by kernel_rfl) ?_ _
                        have hbZ := hb10
                        try simp only [Act.put, List.setIfInBounds_toArray, List.set_cons_succ, List.set_cons_zero]
                        go_wp2
                        go_roundw
                        case rel =>
                          rw [HJ.out] at hZ
                          rw [← insP_eq, ← HX2.out] at hZ
                          exact ⟨k + 1, by omega, by go_num, Kd.R_lower hZ (Nat.le_trans hwl hbV.size), hnZ, below_next (below_next hb hb.size hbV) (Nat.le_trans hwl hbV.size) hbZ⟩
                        case measure => simp [intOf]; omega
            · go_simp
              refine hK _ _ ?_
              clear hK K
              have c44 : (V0.alloc (.cells #[.int .i64 (k : Int)] 3)).cell? ⟨V0.heap.size, 0, none⟩ = some (.int .i64 (k : Int)) := by simp
              have hb12 := hb0.alloc hb0.size (.cells #[.int .i64 (k : Int)] 3)
              have hs12 : Hid ((V0.alloc (.cells #[.int .i64 (k : Int)] 3)).heap.size = V0.heap.size + 1) := by show _ = _; simp
              obtain ⟨V12, hV12⟩ : ∃ V, V = V0.alloc (.cells #[.int .i64 (k : Int)] 3) := ⟨_, rfl⟩
              rw [← hV12] at hb12 hs12 c44 ⊢
              clear hV12
              refine wpAny_ready (rs := [0]) (by kernel_rfl) (by simp) ?_
              refine (AllReady.cons rfl (fun K hK => ?_) AllReady.nil)
              · go_simp
                refine hK _ _ ?_
                clear hK K
                have h38 : Kd.R (Kd.int .i64) 3 (V12.alloc (.cells #[] 3)) Vw.heap.size (fun _ => True) (.slice (some ⟨V12.heap.size, 0, none⟩) 0 0) [] := Kd.R_of_own (World.ownsRow_made V12 #[] 0 hb12.size (Nat.zero_le _) rfl) (fun _ _ => trivial)
                have c44 := cell_al c44 (.cells #[] 3)
                have hb13 := hb12.alloc hb12.size (.cells #[] 3)
                have hs13 : Hid ((V12.alloc (.cells #[] 3)).heap.size = V12.heap.size + 1) := by show _ = _; simp
                obtain ⟨V13, hV13⟩ : ∃ V, V = V12.alloc (.cells #[] 3) := ⟨_, rfl⟩
                rw [← hV13] at hb13 hs13 c44 h38 ⊢
                clear hV13
                refine wpAny_ready (rs := [4]) (by kernel_rfl) (by simp) ?_
                refine (AllReady.cons rfl (fun K hK => ?_) AllReady.nil)
                · refine ints_append_step (w0 := Vw) Vw.heap.size rfl (.tmp 67) (.tmp 70) 24 3 rfl Try.underlying24 infoInt (.slice (some ⟨V12.heap.size, 0, none⟩) 0 0) [] (xs.take j) (some ad1) j cX rfl rfl h38 (C_takeN (Kd.C_below hXV hb13) hjn) hb13 hb13.size (by simp <;> omega) (by simp [Value.ownBlock]) ?_
                  intro v42 V14 h42 hb14 hg14 hn42
                  refine hK _ _ ?_
                  clear hK K
                  simp only [List.nil_append] at h42
                  have c44 := hg14.cell c44 (by have ehs12 := hs12.out; have ehs13 := hs13.out; simp [Value.ownBlock]; omega)
                  refine wpAny_ready (rs := [7]) (by kernel_rfl) (by simp) ?_
                  refine (AllReady.cons rfl (fun K hK => ?_) AllReady.nil)
                  · refine ints_append_step (w0 := Vw) Vw.heap.size rfl (.tmp 71) (.tmp 73) 24 3 rfl Try.underlying24 infoInt v42 (xs.take j) [(k : Int)] _ 1 1 rfl rfl h42 (C_one c44) hb14 hb14.size (by simp <;> omega) hn42 ?_
                    intro v45 V15 h45 hb15 hg15 hn45
                    refine hK _ _ ?_
                    clear hK K
                    refine wpAny_ready (rs := [11]) (by kernel_rfl) (by simp) ?_
                    refine (AllReady.cons rfl (fun K hK => ?_) AllReady.nil)
                    · refine ints_append_step (w0 := Vw) Vw.heap.size rfl (.tmp 74) (.tmp 77) 24 3 rfl Try.underlying24 infoInt v45 (xs.take j ++ [(k : Int)]) (xs.drop j) _ _ _ rfl rfl h45 (C_dropN (Kd.C_below hXV hb15) hjn hcX) hb15 hb15.size (by simp <;> omega) hn45 ?_
                      intro vZ V16 hZ hb16 hg16 hnZ
                      refine hK _ _ ?_
                      clear hK K
                      refine wpAny_ready (rs := [12]) (by kernel_rfl) (by simp) ?_
                      refine (AllReady.cons rfl (fun K hK => ?_) AllReady.nil)
                      · go_simp
                        refine hK _ _ ?_
                        clear hK K
                        refine wpAny_done (by kernel_rfl) ?_ _
                        have hbZ := hb16
                        try simp only [Act.put, List.setIfInBounds_toArray, List.set_cons_succ, List.set_cons_zero]
                        go_wp2
                        go_roundw
                        case rel =>
                          rw [HJ.out] at hZ
                          rw [← insP_eq, ← HX2.out] at hZ
                          exact ⟨k + 1, by omega, by go_num, Kd.R_lower hZ (Nat.le_trans hwl hbV.size), hnZ, below_next (below_next hb hb.size hbV) (Nat.le_trans hwl hbV.size) hbZ⟩
                        case measure => simp [intOf]; omega
        · have e0 : decide ((j : Int) < xs.length) = false := decide_eq_false (by omega)
          have e0' : decide (j < xs.length) = false := decide_eq_false hjx
          have hjq : j = cntQ (noLater l k) xs := by omega
          have hjn : j ≤ xs.length := by omega
          have HJ := Lib.hid hjq
          clear hjq hcl
          go_wp2
          go_quiet (fail)
          rename_i nq
          go_wp2
          obtain ⟨Vw, hV⟩ : ∃ Vw, Vw = (World.drewN (World.drewN W1 q) nq) := ⟨_, rfl⟩
          rw [← hV]
          have hbV : Below W1.heap.size W1 Vw := by rw [hV]; exact pw_below_drewN (pw_below_drewN (Below.refl _ _) _) _
          have hXV := Kd.C_below hX hbV
          clear hV
          refine wp_region_any (by kernel_rfl) ?_
          change wpAny _ _ _ _ _ _ _ (World.drew _)
          have hjc_ : j ≤ cX := Nat.le_trans hjn hcX
          (refine wpAny_take (i := 1) (v := ?_) rfl (by kernel_rfl) (by kernel_rfl) (by kernel_rfl) (fun _ _ _ h => h) (Or.inl ⟨by rfl, ?_⟩) ?_; rotate_left; (intro w; go_simp; try (with_reducible rfl)); rotate_left)
          (refine wpAny_take (i := 2) (v := ?_) rfl (by kernel_rfl) (by kernel_rfl) (by kernel_rfl) (fun _ _ _ h => h) (Or.inl ⟨by rfl, ?_⟩) ?_; rotate_left; (intro w; go_simp; try (with_reducible rfl)); rotate_left)
          (refine wpAny_take (i := 3) (v := ?_) rfl (by kernel_rfl) (by kernel_rfl) (by kernel_rfl) (fun _ _ _ h => h) (Or.inl ⟨by rfl, ?_⟩) ?_; rotate_left; (intro w; go_simp; try (with_reducible rfl)); rotate_left)
          (refine wpAny_take (i := 5) (v := ?_) rfl (by kernel_rfl) (by kernel_rfl) (by kernel_rfl) (fun _ _ _ h => h) (Or.inl ⟨by rfl, ?_⟩) ?_; rotate_left; (intro w; go_simp; try (with_reducible rfl)); rotate_left)
          (refine wpAny_take (i := 8) (v := ?_) rfl (by kernel_rfl) (by kernel_rfl) (by kernel_rfl) (fun _ _ _ h => h) (Or.inl ⟨by rfl, ?_⟩) ?_; rotate_left; (intro w; go_simp; try (with_reducible rfl)); rotate_left)
          (refine wpAny_take (i := 9) (v := ?_) rfl (by kernel_rfl) (by kernel_rfl) (by kernel_rfl) (fun _ _ _ h => h) (Or.inl ⟨by rfl, ?_⟩) ?_; rotate_left; (intro w; go_simp; try (with_reducible rfl)); rotate_left)
          (refine wpAny_take (i := 10) (v := ?_) rfl (by kernel_rfl) (by kernel_rfl) (by kernel_rfl) (fun _ _ _ h => h) (Or.inl ⟨by rfl, ?_⟩) ?_; rotate_left; (intro w; go_simp; try (with_reducible rfl)); rotate_left)
          obtain ⟨V0, hV0⟩ : ∃ V, V = World.drew Vw := ⟨_, rfl⟩
          rw [← hV0]
          have hb0 : Below Vw.heap.size Vw V0 := by rw [hV0]; exact (Below.refl _ _).drew
          clear hV0
          refine wpAny_ready (rs := [0, 6]) (by kernel_rfl) (by simp) ?_
          refine (AllReady.cons rfl (fun K hK => ?_) (AllReady.cons rfl (fun K hK => ?_) AllReady.nil))
          · go_simp
            refine hK _ _ ?_
            clear hK K
            have h38 : Kd.R (Kd.int .i64) 3 (V0.alloc (.cells #[] 3)) Vw.heap.size (fun _ => True) (.slice (some ⟨V0.heap.size, 0, none⟩) 0 0) [] := Kd.R_of_own (World.ownsRow_made V0 #[] 0 hb0.size (Nat.zero_le _) rfl) (fun _ _ => trivial)
            have hb1 := hb0.alloc hb0.size (.cells #[] 3)
            have hs1 : Hid ((V0.alloc (.cells #[] 3)).heap.size = V0.heap.size + 1) := by show _ = _; simp
            obtain ⟨V1, hV1⟩ : ∃ V, V = V0.alloc (.cells #[] 3) := ⟨_, rfl⟩
            rw [← hV1] at hb1 hs1 h38 ⊢
            clear hV1
            refine wpAny_ready (rs := [4, 6]) (by kernel_rfl) (by simp) ?_
            refine (AllReady.cons rfl (fun K hK => ?_) (AllReady.cons rfl (fun K hK => ?_) AllReady.nil))
            · refine ints_append_step (w0 := Vw) Vw.heap.size rfl (.tmp 67) (.tmp 70) 24 3 rfl Try.underlying24 infoInt (.slice (some ⟨V0.heap.size, 0, none⟩) 0 0) [] (xs.take j) (some ad1) j cX rfl rfl h38 (C_takeN (Kd.C_below hXV hb1) hjn) hb1 hb1.size (by simp <;> omega) (by simp [Value.ownBlock]) ?_
              intro v42 V2 h42 hb2 hg2 hn42
              refine hK _ _ ?_
              clear hK K
              simp only [List.nil_append] at h42
              refine wpAny_ready (rs := [6]) (by kernel_rfl) (by simp) ?_
              refine (AllReady.cons rfl (fun K hK => ?_) AllReady.nil)
              · go_simp
                refine hK _ _ ?_
                clear hK K
                have c44 : (V2.alloc (.cells #[.int .i64 (k : Int)] 3)).cell? ⟨V2.heap.size, 0, none⟩ = some (.int .i64 (k : Int)) := by simp
                have h42 := Kd.R_alloc h42 (.cells #[.int .i64 (k : Int)] 3)
                have hb3 := hb2.alloc hb2.size (.cells #[.int .i64 (k : Int)] 3)
                have hs3 : Hid ((V2.alloc (.cells #[.int .i64 (k : Int)] 3)).heap.size = V2.heap.size + 1) := by show _ = _; simp
                obtain ⟨V3, hV3⟩ : ∃ V, V = V2.alloc (.cells #[.int .i64 (k : Int)] 3) := ⟨_, rfl⟩
                rw [← hV3] at hb3 hs3 h42 c44 ⊢
                clear hV3
                refine wpAny_ready (rs := [7]) (by kernel_rfl) (by simp) ?_
                refine (AllReady.cons rfl (fun K hK => ?_) AllReady.nil)
                · refine ints_append_step (w0 := Vw) Vw.heap.size rfl (.tmp 71) (.tmp 73) 24 3 rfl Try.underlying24 infoInt v42 (xs.take j) [(k : Int)] _ 1 1 rfl rfl h42 (C_one c44) hb3 hb3.size (by simp <;> omega) hn42 ?_
                  intro v45 V4 h45 hb4 hg4 hn45
                  refine hK _ _ ?_
                  clear hK K
                  refine wpAny_ready (rs := [11]) (by kernel_rfl) (by simp) ?_
                  refine (AllReady.cons rfl (fun K hK => ?_) AllReady.nil)
                  · refine ints_append_step (w0 := Vw) Vw.heap.size rfl (.tmp 74) (.tmp 77) 24 3 rfl Try.underlying24 infoInt v45 (xs.take j ++ [(k : Int)]) (xs.drop j) _ _ _ rfl rfl h45 (C_dropN (Kd.C_below hXV hb4) hjn hcX) hb4 hb4.size (by simp <;> omega) hn45 ?_
                    intro vZ V5 hZ hb5 hg5 hnZ
                    refine hK _ _ ?_
                    clear hK K
                    refine wpAny_ready (rs := [12]) (by kernel_rfl) (by simp) ?_
                    refine (AllReady.cons rfl (fun K hK => ?_) AllReady.nil)
                    · go_simp
                      refine hK _ _ ?_
                      clear hK K
                      refine wpAny_done (by kernel_rfl) ?_ _
                      have hbZ := hb5
                      try simp only [Act.put, List.setIfInBounds_toArray, List.set_cons_succ, List.set_cons_zero]
                      go_wp2
                      go_roundw
                      case rel =>
                        rw [HJ.out] at hZ
                        rw [← insP_eq, ← HX2.out] at hZ
                        exact ⟨k + 1, by omega, by go_num, Kd.R_lower hZ (Nat.le_trans hwl hbV.size), hnZ, below_next (below_next hb hb.size hbV) (Nat.le_trans hwl hbV.size) hbZ⟩
                      case measure => simp [intOf]; omega
            · go_simp
              refine hK _ _ ?_
              clear hK K
              have c44 : (V1.alloc (.cells #[.int .i64 (k : Int)] 3)).cell? ⟨V1.heap.size, 0, none⟩ = some (.int .i64 (k : Int)) := by simp
              have h38 := Kd.R_alloc h38 (.cells #[.int .i64 (k : Int)] 3)
              have hb7 := hb1.alloc hb1.size (.cells #[.int .i64 (k : Int)] 3)
              have hs7 : Hid ((V1.alloc (.cells #[.int .i64 (k : Int)] 3)).heap.size = V1.heap.size + 1) := by show _ = _; simp
              obtain ⟨V7, hV7⟩ : ∃ V, V = V1.alloc (.cells #[.int .i64 (k : Int)] 3) := ⟨_, rfl⟩
              rw [← hV7] at hb7 hs7 h38 c44 ⊢
              clear hV7
              refine wpAny_ready (rs := [4]) (by kernel_rfl) (by simp) ?_
              refine (AllReady.cons rfl (fun K hK => ?_) AllReady.nil)
              · refine ints_append_step (w0 := Vw) Vw.heap.size rfl (.tmp 67) (.tmp 70) 24 3 rfl Try.underlying24 infoInt (.slice (some ⟨V0.heap.size, 0, none⟩) 0 0) [] (xs.take j) (some ad1) j cX rfl rfl h38 (C_takeN (Kd.C_below hXV hb7) hjn) hb7 hb7.size (by simp <;> omega) (by simp [Value.ownBlock]) ?_
                intro v42 V8 h42 hb8 hg8 hn42
                refine hK _ _ ?_
                clear hK K
                simp only [List.nil_append] at h42
                have c44 := hg8.cell c44 (by have ehs1 := hs1.out; have ehs7 := hs7.out; simp [Value.ownBlock]; omega)
                refine wpAny_ready (rs := [7]) (by kernel_rfl) (by simp) ?_
                refine (AllReady.cons rfl (fun K hK => ?_) AllReady.nil)
                · refine ints_append_step (w0 := Vw) Vw.heap.size rfl (.tmp 71) (.tmp 73) 24 3 rfl Try.underlying24 infoInt v42 (xs.take j) [(k : Int)] _ 1 1 rfl rfl h42 (C_one c44) hb8 hb8.size (by simp <;> omega) hn42 ?_
                  intro v45 V9 h45 hb9 hg9 hn45
                  refine hK _ _ ?_
                  clear hK K
                  refine wpAny_ready (rs := [11]) (by kernel_rfl) (by simp) ?_
                  refine (AllReady.cons rfl (fun K hK => ?_) AllReady.nil)
                  · refine ints_append_step (w0 := Vw) Vw.heap.size rfl (.tmp 74) (.tmp 77) 24 3 rfl Try.underlying24 infoInt v45 (xs.take j ++ [(k : Int)]) (xs.drop j) _ _ _ rfl rfl h45 (C_dropN (Kd.C_below hXV hb9) hjn hcX) hb9 hb9.size (by simp <;> omega) hn45 ?_
                    intro vZ V10 hZ hb10 hg10 hnZ
                    refine hK _ _ ?_
                    clear hK K
                    refine wpAny_ready (rs := [12]) (by kernel_rfl) (by simp) ?_
                    refine (AllReady.cons rfl (fun K hK => ?_) AllReady.nil)
                    · go_simp
                      refine hK _ _ ?_
                      clear hK K
                      refine wpAny_done (by kernel_rfl) ?_ _
                      have hbZ := hb10
                      try simp only [Act.put, List.setIfInBounds_toArray, List.set_cons_succ, List.set_cons_zero]
                      go_wp2
                      go_roundw
                      case rel =>
                        rw [HJ.out] at hZ
                        rw [← insP_eq, ← HX2.out] at hZ
                        exact ⟨k + 1, by omega, by go_num, Kd.R_lower hZ (Nat.le_trans hwl hbV.size), hnZ, below_next (below_next hb hb.size hbV) (Nat.le_trans hwl hbV.size) hbZ⟩
                      case measure => simp [intOf]; omega
          · go_simp
            refine hK _ _ ?_
            clear hK K
            have c44 : (V0.alloc (.cells #[.int .i64 (k : Int)] 3)).cell? ⟨V0.heap.size, 0, none⟩ = some (.int .i64 (k : Int)) := by simp
            have hb12 := hb0.alloc hb0.size (.cells #[.int .i64 (k : Int)] 3)
            have hs12 : Hid ((V0.alloc (.cells #[.int .i64 (k : Int)] 3)).heap.size = V0.heap.size + 1) := by show _ = _; simp
            obtain ⟨V12, hV12⟩ : ∃ V, V = V0.alloc (.cells #[.int .i64 (k : Int)] 3) := ⟨_, rfl⟩
            rw [← hV12] at hb12 hs12 c44 ⊢
            clear hV12
            refine wpAny_ready (rs := [0]) (by kernel_rfl) (by simp) ?_
            refine (AllReady.cons rfl (fun K hK => ?_) AllReady.nil)
            · go_simp
              refine hK _ _ ?_
              clear hK K
              have h38 : Kd.R (Kd.int .i64) 3 (V12.alloc (.cells #[] 3)) Vw.heap.size (fun _ => True) (.slice (some ⟨V12.heap.size, 0, none⟩) 0 0) [] := Kd.R_of_own (World.ownsRow_made V12 #[] 0 hb12.size (Nat.zero_le _) rfl) (fun _ _ => trivial)
              have c44 := cell_al c44 (.cells #[] 3)
              have hb13 := hb12.alloc hb12.size (.cells #[] 3)
              have hs13 : Hid ((V12.alloc (.cells #[] 3)).heap.size = V12.heap.size + 1) := by show _ = _; simp
              obtain ⟨V13, hV13⟩ : ∃ V, V = V12.alloc (.cells #[] 3) := ⟨_, rfl⟩
              rw [← hV13] at hb13 hs13 c44 h38 ⊢
              clear hV13
              refine wpAny_ready (rs := [4]) (by kernel_rfl) (by simp) ?_
              refine (AllReady.cons rfl (fun K hK => ?_) AllReady.nil)
              · refine ints_append_step (w0 := Vw) Vw.heap.size rfl (.tmp 67) (.tmp 70) 24 3 rfl Try.underlying24 infoInt (.slice (some ⟨V12.heap.size, 0, none⟩) 0 0) [] (xs.take j) (some ad1) j cX rfl rfl h38 (C_takeN (Kd.C_below hXV hb13) hjn) hb13 hb13.size (by simp <;> omega) (by simp [Value.ownBlock]) ?_
                intro v42 V14 h42 hb14 hg14 hn42
                refine hK _ _ ?_
                clear hK K
                simp only [List.nil_append] at h42
                have c44 := hg14.cell c44 (by have ehs12 := hs12.out; have ehs13 := hs13.out; simp [Value.ownBlock]; omega)
                refine wpAny_ready (rs := [7]) (by kernel_rfl) (by simp) ?_
                refine (AllReady.cons rfl (fun K hK => ?_) AllReady.nil)
                · refine ints_append_step (w0 := Vw) Vw.heap.size rfl (.tmp 71) (.tmp 73) 24 3 rfl Try.underlying24 infoInt v42 (xs.take j) [(k : Int)] _ 1 1 rfl rfl h42 (C_one c44) hb14 hb14.size (by simp <;> omega) hn42 ?_
                  intro v45 V15 h45 hb15 hg15 hn45
                  refine hK _ _ ?_
                  clear hK K
                  refine wpAny_ready (rs := [11]) (by kernel_rfl) (by simp) ?_
                  refine (AllReady.cons rfl (fun K hK => ?_) AllReady.nil)
                  · refine ints_append_step (w0 := Vw) Vw.heap.size rfl (.tmp 74) (.tmp 77) 24 3 rfl Try.underlying24 infoInt v45 (xs.take j ++ [(k : Int)]) (xs.drop j) _ _ _ rfl rfl h45 (C_dropN (Kd.C_below hXV hb15) hjn hcX) hb15 hb15.size (by simp <;> omega) hn45 ?_
                    intro vZ V16 hZ hb16 hg16 hnZ
                    refine hK _ _ ?_
                    clear hK K
                    refine wpAny_ready (rs := [12]) (by kernel_rfl) (by simp) ?_
                    refine (AllReady.cons rfl (fun K hK => ?_) AllReady.nil)
                    · go_simp
                      refine hK _ _ ?_
                      clear hK K
                      refine wpAny_done (by kernel_rfl) ?_ _
                      have hbZ := hb16
                      try simp only [Act.put, List.setIfInBounds_toArray, List.set_cons_succ, List.set_cons_zero]
                      go_wp2
                      go_roundw
                      case rel =>
                        rw [HJ.out] at hZ
                        rw [← insP_eq, ← HX2.out] at hZ
                        exact ⟨k + 1, by omega, by go_num, Kd.R_lower hZ (Nat.le_trans hwl hbV.size), hnZ, below_next (below_next hb hb.size hbV) (Nat.le_trans hwl hbV.size) hbZ⟩
                      case measure => simp [intOf]; omega
    · go_wp2
      go_ret
      obtain rfl : k = l.length := by omega
      exact ⟨_, rfl, hO.out, hb⟩
end Go.Proofs.Ytkfoeplefajkcaa.Q
end
