/- Merged out of this seat's own texts. -/
import Derived.Test.YthcpbojmalgdbaaGreatMgN
import Derived.Test.YthcpbojmalgdbaaGreatMgC
import Derived.Test.YthcpbojmalgdbaaGreatMgA
section
namespace Go.Proofs.YthcpbojmalgdbaaGreat.Q
open Go.RowKit Go.Proofs.YthcpbojmalgdbaaGreatW.PrintWords Go.Proofs.YthcpbojmalgdbaaGreatW.PrintLast Go.Proofs.YthcpbojmalgdbaaGreatW.PrintMore Go.Proofs.YthcpbojmalgdbaaGreat.Core
set_option linter.unusedVariables false
set_option linter.unusedSimpArgs false
theorem sum_ge : ∀ (z : List Int), (∀ x ∈ z, 0 ≤ x) → 0 ≤ z.sum
  | [], _ => by simp
  | x :: r, h => by
    have h1 := sum_ge r (fun y hy => h y (List.mem_cons_of_mem _ hy))
    have h2 := h x (List.mem_cons_self ..)
    rw [List.sum_cons]; omega
theorem delay_ge {caps : List Cap} {l : List Flight} {s : List Int} (h : fitsB caps l s = true) : 0 ≤ delayTo l s l.length := by
  obtain ⟨_, _, ht, _⟩ := fitsB_parts h
  rw [delay_all]
  refine sum_ge _ (fun x hx => ?_)
  obtain ⟨p, hp, rfl⟩ := List.mem_map.1 hx
  have h1 := List.all_eq_true.1 ht p hp
  unfold delayOf
  split
  · rename_i h0
    unfold timeP at h1
    rw [decide_eq_true h0] at h1
    simp [inB] at h1
    omega
  · exact Int.le_refl _
theorem bounded {caps : List Cap} {l : List Flight} {s : List Int} (h : fitsB caps l s = true) (hall : ∀ x ∈ s, 0 ≤ x) (sec : ByteArray) : boundN caps l sec ≤ delayN l s := by
  obtain ⟨_, hs, _, _⟩ := fitsB_parts h
  unfold delayN
  rw [hs, if_pos rfl]
  unfold boundN
  split
  · rename_i hc
    exact bound_delay h hall sec hc.2.2
  · exact delay_ge h
set_option maxRecDepth 100000 in
set_option maxHeartbeats 4000000 in
theorem wBounded_any (A0 : Option Addr) (c0 : Nat) (caps : List Cap) (A1 : Option Addr) (c1 : Nat) (l : List Flight) (A2 : Option Addr) (c2 : Nat) (s : List Int) (w : World)
    (hr0 : Kd.C k42 w A0 caps.length caps) (hr1 : Kd.C k47 w A1 l.length l) (hr2 : Kd.C (Kd.int .i64) w A2 s.length s) (hfit : fitsB caps l s = true) :
    Calls Tryz.prog 16 #[.agg #[.slice A0 caps.length c0, .slice A1 l.length c1, .slice A2 s.length c2]] w fun e w' => e = .returned (.bool true) ∧ Below w.heap.size w w' := by
  have HF := Lib.hid hfit
  have C0 := Lib.hid hr0
  have C1 := Lib.hid hr1
  have C2 := Lib.hid hr2
  obtain ⟨hcb, hsb, _, _⟩ := fitsB_parts hfit
  obtain ⟨hfb, hlen, hsr⟩ := slotsB_parts hsb
  have h8 := (flightsB_parts hfb).1
  have hs8 : s.length ≤ 8 := by omega
  have hc6 : caps.length ≤ 6 := by simp only [capsB, Bool.and_eq_true, decide_eq_true_eq] at hcb; exact hcb.1.1
  have HSR := Lib.hid hsr
  clear hr0 hr1 hr2 hfit hcb hsb hfb hlen hsr
  have HB0 := Lib.hid (blk_new w (.cells #[.slice A0 caps.length c0, .slice A1 l.length c1, .slice A2 s.length c2] 27))
  have BB := Lib.hid (below_alloc (Below.refl w.heap.size w) (.cells #[.slice A0 caps.length c0, .slice A1 l.length c1, .slice A2 s.length c2] 27))
  go_enter Tryz.func16, Tryz.ntmps16
  go_wp2
  go_loopw [3] (fun vk wr => ∃ k : Nat, vk = .int .i64 k ∧ k ≤ s.length ∧ Hid (∀ j (x : Int), j < k → s[j]? = some x → 0 ≤ x) ∧ Hid (wr.heap[w.heap.size]? = some (.cells #[.slice A0 caps.length c0, .slice A1 l.length c1, .slice A2 s.length c2] 27 (0, 0))) ∧ Hid (Below w.heap.size w wr)) (fun vk _ => s.length - (intOf vk).toNat)
  case atStart => exact ⟨0, rfl, Nat.zero_le _, (fun j x h => by omega), HB0, BB⟩
  case round =>
    clear HB0 BB
    obtain ⟨k, rfl, hk, HP, HX, HB⟩ := hrel
    have d0 := blk_cell HX.out 0
    have d1 := blk_cell HX.out 1
    have d2 := blk_cell HX.out 2
    simp only [List.getElem?_toArray, List.getElem?_cons_zero, List.getElem?_cons_succ] at d0 d1 d2
    by_cases hlt : k < s.length
    · obtain ⟨ad, x, rfl, hx, cx⟩ := intAt (Kd.C_below C2.out HB.out) k hlt
      have j1 : (k : Int) < s.length := by omega
      by_cases hneg : x < 0
      · have e1 : decide (x < 0) = true := decide_eq_true hneg
        go_wp2
        go_ret
        exact ⟨rfl, HB.out⟩
      · have e1 : decide (x < 0) = false := decide_eq_false hneg
        have HX' := Lib.hid hx
        clear hx
        go_wp2
        go_roundw
        case rel =>
          refine ⟨k + 1, by go_num, hlt, fun j y hj hy => ?_, HX, HB⟩
          by_cases hjk : j = k
          · subst hjk
            rw [HX'.out] at hy
            rw [← Option.some.inj hy]; omega
          · exact HP.out j y (by omega) hy
        case measure => simp [intOf]; omega
    · obtain rfl : k = s.length := by omega
      have hall : ∀ x ∈ s, 0 ≤ x := fun x hx => by
        obtain ⟨j, hj, rfl⟩ := List.mem_iff_getElem.1 hx
        exact HP.out j _ hj (List.getElem?_eq_getElem hj)
      have HBd := Lib.hid (fun sec => bounded HF.out hall sec)
      clear hall
      obtain ⟨w1, rfl⟩ : ∃ wo : World, wo = wr := ⟨_, rfl⟩
      go_wp2
      go_loopw [4] (fun vk wr => ∃ k : Nat, vk = .int .i64 k ∧ k ≤ caps.length ∧ Hid (wr.heap[w.heap.size]? = some (.cells #[.slice A0 caps.length c0, .slice A1 l.length c1, .slice A2 s.length c2] 27 (0, 0))) ∧ Hid (Below w.heap.size w wr)) (fun vk _ => caps.length - (intOf vk).toNat)
      case atStart => exact ⟨0, rfl, Nat.zero_le _, HX, HB⟩
      case round =>
        clear HX HB d0 d1 d2 HP
        obtain ⟨k, rfl, hk, HX, HB⟩ := hrel
        obtain ⟨w2, rfl⟩ : ∃ wo : World, wo = wr := ⟨_, rfl⟩
        have d0 := blk_cell HX.out 0
        have d1 := blk_cell HX.out 1
        have d2 := blk_cell HX.out 2
        simp only [List.getElem?_toArray, List.getElem?_cons_zero, List.getElem?_cons_succ] at d0 d1 d2
        by_cases hlt : k < caps.length
        · have j1 : (k : Int) < caps.length := by omega
          obtain ⟨ad, x, rfl, hx, y0, y1⟩ := capAt (Kd.C_below C0.out HB.out) k hlt
          have HBk := Lib.hid (HBd.out x.f0)
          have hle : ¬ delayN l s < boundN caps l x.f0 := by have := HBk.out; omega
          have e1 : decide (delayN l s < boundN caps l x.f0) = false := decide_eq_false hle
          have QD := Lib.hid (fun (u : After w2) => impl_delay_any A1 c1 l A2 c2 s u.w (Kd.C_below C1.out (below_next HB.out HB.out.size u.hb)) (Kd.C_below C2.out (below_next HB.out HB.out.size u.hb)))
          have QB := Lib.hid (fun (u : After w2) => impl_bound_any (some ad) c0 caps A1 c1 l x.f0 u.w (Kd.C_below C0.out (below_next HB.out HB.out.size u.hb)) (Kd.C_below C1.out (below_next HB.out HB.out.size u.hb)))
          have b0 := After.cell d0
          have b1 := After.cell d1
          have b2 := After.cell d2
          have b3 := After.cell y0
          clear HBk hx
          go_wp2
          refine wp_region_after (by kernel_rfl) (by kernel_rfl) ?_
          repeat (go_big_quiet_step (first | (go_at_call 12; exact calls_after (QD.out _)) | (go_at_call 36; exact calls_after (QB.out _))))
          refine wpQuiet_nil ?_
          intro _ hw'
          obtain ⟨u, hw''⟩ := hw'
          subst hw''
          go_wp2
          go_roundw
          case rel => exact ⟨k + 1, by go_num, hlt, (u.hb.block _ (blk_lt HX.out)).trans HX.out, below_next HB.out HB.out.size u.hb⟩
          case measure => simp [intOf]; omega
        · go_wp2
          go_ret
          exact ⟨rfl, HB.out⟩
end Go.Proofs.YthcpbojmalgdbaaGreat.Q
end
