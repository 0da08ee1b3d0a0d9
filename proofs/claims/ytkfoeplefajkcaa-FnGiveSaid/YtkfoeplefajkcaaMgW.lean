/- Merged out of this seat's own texts: Wf3, Wp1. -/
import Derived.Test.YtkfoeplefajkcaaMgA
import Derived.Test.YtkfoeplefajkcaaMgD


section
-- PRINTED OUT OF THE TRANSLATION BY mkprint.py. Not trusted: Lean checks it.
namespace Go.Proofs.Ytkfoeplefajkcaa.Q
open Go.RowKit Go.Proofs.YtkfoeplefajkcaaW.PrintWords Go.Proofs.YtkfoeplefajkcaaW.PrintLast Go.Proofs.YtkfoeplefajkcaaW.PrintMore
attribute [local go_sem] max2_int min2_int max_two min_two max_three min_three max_four min_four   -- for this text's walks alone
set_option linter.unusedVariables false
set_option linter.unusedSimpArgs false

-- NOT PRINTED: function 127 (spec_l1In)

-- NOT PRINTED: function 126 (spec_l1NameOk)

-- NOT PRINTED: function 128 (spec_l1VisitsOk)

-- NOT PRINTED: function 60 (spec_FlowFlightsOk)

-- NOT PRINTED: function 59 (spec_FlowCapsOk)

-- NOT PRINTED: function 86 (spec_l2SlotsOk)

-- NOT PRINTED: function 143 (spec_l2Has)

-- NOT PRINTED: function 88 (spec_l2Load)

-- NOT PRINTED: function 132 (spec_l2Full)

-- NOT PRINTED: function 66 (spec_FlowFits)

-- NOT PRINTED: function 80 (spec_l3Least)

-- NOT PRINTED: function 95 (spec_FlowBookOk)

-- NOT PRINTED: function 98 (spec_l1Flight)

-- NOT PRINTED: function 146 (spec_l1Flights)

-- NOT PRINTED: function 96 (spec_l4Copy)

-- NOT PRINTED: function 97 (spec_l4At)

-- NOT PRINTED: function 37 (spec_FlowAdd)

-- NOT PRINTED: function 125 (impl_in)

-- NOT PRINTED: function 124 (impl_name)

-- NOT PRINTED: function 58 (impl_FlowCapsOk)

-- NOT PRINTED: function 101 (impl_flightOk)

-- NOT PRINTED: function 82 (impl_FlowFlightsOk)

-- NOT PRINTED: function 89 (impl_slotsOk)

-- NOT PRINTED: function 90 (impl_loads)

-- NOT PRINTED: function 129 (impl_fits)

-- NOT PRINTED: function 61 (impl_FlowFits)

-- NOT PRINTED: function 54 (impl_FlowBookOk)

-- NOT PRINTED: function 142 (slices_Clone_int_int)

-- NOT PRINTED: function 84 (impl_least)

-- NOT PRINTED: function 103 (impl_FlowVisit)

-- NOT PRINTED: function 148 (impl_FlowCap)

-- NOT PRINTED: function 100 (impl_copyBook)

-- NOT PRINTED: function 149 (impl_FlowFlight_149)

-- NOT PRINTED: function 102 (impl_FlowBook_at)

-- NOT PRINTED: function 151 (impl_FlowFlight_151)

-- NOT PRINTED: function 191 (impl_FlowFlight_191)

-- NOT PRINTED: function 177 (impl_FlowFlight_177)

-- NOT PRINTED: function 152 (impl_FlowFlight_152)

-- NOT PRINTED: function 104 (impl_FlowFlight_104)

-- NOT PRINTED: function 153 (slices_overlaps_int)

-- NOT PRINTED: function 192 (slices_Reverse_int_int)

-- NOT PRINTED: function 178 (slices_rotateLeft_int)

-- NOT PRINTED: function 154 (slices_rotateRight_int)

-- NOT PRINTED: function 105 (slices_Insert_int_int)

-- NOT PRINTED: function 40 (impl_FlowAdd)

-- NOT PRINTED: function 15 (spec_FlowOrder)

-- NOT PRINTED: function 157 (spec_l4Round)

-- NOT PRINTED: function 109 (spec_l4Compress)

-- NOT PRINTED: function 48 (spec_FlowDrop)

-- NOT PRINTED: function 138 (reflectlite_ValueOf)

-- NOT PRINTED: function 139 (reflectlite_Swapper)

-- NOT PRINTED: function 173 (sort_insertionSort_func)

-- NOT PRINTED: function 193 (sort_swapRange_func)

-- NOT PRINTED: function 179 (sort_rotate_func)

-- NOT PRINTED: function 174 (sort_symMerge_func)

-- NOT PRINTED: function 140 (sort_stable_func)

-- NOT PRINTED: function 141 (reflectlite_Value_Len)

-- NOT PRINTED: function 74 (sort_SliceStable)

-- NOT PRINTED: function 17 (impl_FlowOrder)

-- NOT PRINTED: function 110 (impl_FlowBook_compress)

-- NOT PRINTED: function 111 (impl_FlowFlight_111)

-- NOT PRINTED: function 112 (slices_Delete_int_int)

-- NOT PRINTED: function 49 (impl_FlowDrop)

-- NOT PRINTED: function 113 (spec_l1Open)

-- NOT PRINTED: function 115 (spec_l1Rd_pick)

-- NOT PRINTED: function 114 (spec_l6Caps)

-- NOT PRINTED: function 116 (spec_l1Rd_of)

-- NOT PRINTED: function 117 (spec_l6Names)

-- NOT PRINTED: function 131 (spec_l6Sector)

-- NOT PRINTED: function 118 (spec_l6Flight)

-- NOT PRINTED: function 50 (spec_DrawFlowEvents)

/-! ### laws_wInts: function 57 -/
def laws_wInts.l0 : Nat → List Int → List Int → Int → Option (Bool)
  | 0, _, _, _ => none
  | k + 1, x0, x1, x5 => if x5 < (x0.length : Int) then (if 0 ≤ x5 then (if x5 < (x1.length : Int) then (if (rd x0 x5) = (rd x1 x5) then (laws_wInts.l0 k x0 x1 (wrap64 (x5 + 1))) else (some false)) else (none)) else (none)) else (some true)
def laws_wInts.f (k : Nat) (l0 : List Int) (l1 : List Int) : Option (Bool) := if (l0.length : Int) = (l1.length : Int) then (laws_wInts.l0 k l0 l1 0) else (some false)
theorem laws_wInts.mono_l : ∀ k, (∀ y0 y1 y2, LeO (laws_wInts.l0 k y0 y1 y2) (laws_wInts.l0 (k + 1) y0 y1 y2))
  | 0 => fun _ _ _ r h => by simp [laws_wInts.l0] at h
  | k + 1 => by
    have ih0 := laws_wInts.mono_l k
    · intro y0 y1 y2
      unfold laws_wInts.l0
      repeat' first
      | (with_reducible exact ih0 _ _ _)
      | (with_reducible exact LeO.refl _)
      | (with_reducible exact LeO.none _)
      | (with_reducible refine LeO.ite ?_ ?_)
      | (with_reducible refine LeO.bind ?_ (fun _ => ?_))
      | exact ih0 _ _ _
      | exact LeO.none _
      | refine LeO.ite ?_ ?_
      | refine LeO.bind ?_ (fun _ => ?_)
theorem laws_wInts.mono : ∀ a0 a1 k, LeO (laws_wInts.f k a0 a1) (laws_wInts.f (k + 1) a0 a1) := by
  intro a0 a1 k
  have ih0 := laws_wInts.mono_l k
  unfold laws_wInts.f
  repeat' first
      | (with_reducible exact ih0 _ _ _)
      | (with_reducible exact LeO.refl _)
      | (with_reducible exact LeO.none _)
      | (with_reducible refine LeO.ite ?_ ?_)
      | (with_reducible refine LeO.bind ?_ (fun _ => ?_))
      | exact ih0 _ _ _
      | exact LeO.none _
      | refine LeO.ite ?_ ?_
      | refine LeO.bind ?_ (fun _ => ?_)
set_option maxHeartbeats 8000000 in
set_option maxRecDepth 100000 in
theorem laws_wInts.calls (k : Nat) (A0 : Option Addr) (c0 : Nat) (l0 : List Int) (A1 : Option Addr) (c1 : Nat) (l1 : List Int) (r : Bool) (w : World) (hr0 : Kd.C (Kd.int .i64) w A0 l0.length l0) (hc0 : l0.length ≤ c0) (hr1 : Kd.C (Kd.int .i64) w A1 l1.length l1) (hc1 : l1.length ≤ c1) (h : laws_wInts.f k l0 l1 = some r) :
    Calls Try.prog 57 #[.slice A0 l0.length c0, .slice A1 l1.length c1] w fun e w' => e = .returned (.bool r) ∧ Drawn0 w w' := by
  have HR0 := Aside0.mk hr0
  have HC0 := Aside0.mk hc0
  clear hr0 hc0
  have HR1 := Aside0.mk hr1
  have HC1 := Aside0.mk hc1
  clear hr1 hc1
  have H : (if (l0.length : Int) = (l1.length : Int) then (laws_wInts.l0 k l0 l1 0) else (some false)) = some r := h
  clear h
  by_cases c3 : (l0.length : Int) = (l1.length : Int)
  · rw [if_pos c3] at H
    have c3b0 : ((l0.length : Int) == (l1.length : Int)) = true := beq_iff_eq.mpr c3
    have c3b1 : ((l0.length : Int) != (l1.length : Int)) = false := bne_eq_false_iff_eq.mpr c3
    have c3b2 : (l0.length == l1.length) = true := by first | simpa using c3 | (simp at c3 ⊢; omega)
    clear c3
    have H' := Aside0.mk H
    clear H
    go_enter Try.func57, Try.ntmps57
    go_wp2
    repeat (go_quiet (fail); try go_wp2)
    go_loopg [5] k (fun kq v5 w' => ∃ (x5_1 : Int), v5 = .int .i64 x5_1 ∧ Aside0 (laws_wInts.l0 kq l0 l1 x5_1 = some r) ∧ Aside0 (kq ≤ k) ∧ Drawn0 w w')
    case atStart => exact ⟨(0), (by first | rfl | (simp; done) | (simp [*]; done)), H', ⟨Nat.le_refl _⟩, by repeat (first | exact Drawn0.refl _ | apply Drawn0.step)⟩
    case round =>
      clear H'
      try clear c1
      try clear p2
      try clear c3
      try clear c3b0
      try clear c3b1
      try clear c3b2
      obtain ⟨x5_1, rfl, HA, HK1, ⟨m1, rfl⟩⟩ := hrel
      cases gk with
      | zero => exact absurd HA.out (by simp [laws_wInts.l0])
      | succ k1 =>
        have H := HA.out
        clear HA
        simp only [laws_wInts.l0] at H
        by_cases c4 : x5_1 < (l0.length : Int)
        · rw [if_pos c4] at H
          have c4b0 : decide (x5_1 < (l0.length : Int)) = true := decide_eq_true c4
          clear c4
          by_cases c5 : 0 ≤ x5_1
          · rw [if_pos c5] at H
            have c5b0 : decide (0 ≤ x5_1) = true := decide_eq_true c5
            clear c5
            by_cases c6 : x5_1 < (l1.length : Int)
            · rw [if_pos c6] at H
              have c6b0 : decide (x5_1 < (l1.length : Int)) = true := decide_eq_true c6
              clear c6
              by_cases c7 : (rd l0 x5_1) = (rd l1 x5_1)
              · rw [if_pos c7] at H
                have c7b0 : ((rd l0 x5_1) == (rd l1 x5_1)) = true := beq_iff_eq.mpr c7
                have c7b1 : ((rd l0 x5_1) != (rd l1 x5_1)) = false := bne_eq_false_iff_eq.mpr c7
                clear c7
                have H' := Aside0.mk H
                clear H
                have p101 : 0 ≤ (x5_1 : Int) := of_decide_eq_true (by first | (with_reducible assumption) | assumption)
                have q101 : x5_1 < (l0.length : Int) := of_decide_eq_true (by first | (with_reducible assumption) | assumption)
                obtain ⟨ad101, e101, hx101_0⟩ := Kd.at_int HR0.out x5_1 p101 q101
                cases e101
                replace p101 := eq_true p101
                replace q101 := eq_true q101
                have p102 : 0 ≤ (x5_1 : Int) := of_decide_eq_true (by first | (with_reducible assumption) | assumption)
                have q102 : x5_1 < (l1.length : Int) := of_decide_eq_true (by first | (with_reducible assumption) | assumption)
                obtain ⟨ad102, e102, hx102_0⟩ := Kd.at_int HR1.out x5_1 p102 q102
                cases e102
                replace p102 := eq_true p102
                replace q102 := eq_true q102
                go_wp2
                repeat (go_quiet (fail); try go_wp2)
                go_roundg k1
                case measure => have := HK1.out; omega
                case rel => exact ⟨(wrap64 (x5_1 + 1)), (by first | rfl | (simp; done) | (simp [*]; done)), H', ⟨by have := HK1.out; omega⟩, by repeat (first | exact Drawn0.refl _ | apply Drawn0.step)⟩
              · rw [if_neg c7] at H
                have c7b0 : ((rd l0 x5_1) == (rd l1 x5_1)) = false := beq_eq_false_iff_ne.mpr c7
                have c7b1 : ((rd l0 x5_1) != (rd l1 x5_1)) = true := bne_iff_ne.mpr c7
                obtain rfl := Option.some.inj H
                have p101 : 0 ≤ (x5_1 : Int) := of_decide_eq_true (by first | (with_reducible assumption) | assumption)
                have q101 : x5_1 < (l0.length : Int) := of_decide_eq_true (by first | (with_reducible assumption) | assumption)
                obtain ⟨ad101, e101, hx101_0⟩ := Kd.at_int HR0.out x5_1 p101 q101
                cases e101
                replace p101 := eq_true p101
                replace q101 := eq_true q101
                have p102 : 0 ≤ (x5_1 : Int) := of_decide_eq_true (by first | (with_reducible assumption) | assumption)
                have q102 : x5_1 < (l1.length : Int) := of_decide_eq_true (by first | (with_reducible assumption) | assumption)
                obtain ⟨ad102, e102, hx102_0⟩ := Kd.at_int HR1.out x5_1 p102 q102
                cases e102
                replace p102 := eq_true p102
                replace q102 := eq_true q102
                go_wp2
                repeat (go_quiet (fail); try go_wp2)
                go_ret
                exact ⟨by first | rfl | (simp; done) | (simp [*]; done), by repeat (first | exact Drawn0.refl _ | apply Drawn0.step)⟩
            · rw [if_neg c6] at H
              exact absurd H (by simp)
          · rw [if_neg c5] at H
            exact absurd H (by simp)
        · rw [if_neg c4] at H
          have c4b0 : decide (x5_1 < (l0.length : Int)) = false := decide_eq_false c4
          clear c4
          obtain rfl := Option.some.inj H
          go_wp2
          repeat (go_quiet (fail); try go_wp2)
          go_ret
          exact ⟨by first | rfl | (simp; done) | (simp [*]; done), by repeat (first | exact Drawn0.refl _ | apply Drawn0.step)⟩
  · rw [if_neg c3] at H
    have c3b0 : ((l0.length : Int) == (l1.length : Int)) = false := beq_eq_false_iff_ne.mpr c3
    have c3b1 : ((l0.length : Int) != (l1.length : Int)) = true := bne_iff_ne.mpr c3
    have c3b2 : (l0.length == l1.length) = false := by first | simpa using c3 | (simp at c3 ⊢; omega)
    obtain rfl := Option.some.inj H
    go_enter Try.func57, Try.ntmps57
    go_wp2
    repeat (go_quiet (fail); try go_wp2)
    go_ret
    exact ⟨by first | rfl | (simp; done) | (simp [*]; done), by repeat (first | exact Drawn0.refl _ | apply Drawn0.step)⟩

end Go.Proofs.Ytkfoeplefajkcaa.Q
end

/- The laws' own comparison of slots, said of equal ones; drawn caps and flights. -/
section
namespace Go.Proofs.Ytkfoeplefajkcaa.Q
open Go.RowKit Go.Proofs.YtkfoeplefajkcaaW.PrintWords Go.Proofs.YtkfoeplefajkcaaW.PrintLast Go.Proofs.YtkfoeplefajkcaaW.PrintMore Go.Proofs.Ytkfoeplefajkcaa.Core
set_option linter.unusedVariables false
set_option linter.unusedSimpArgs false

theorem wInts_loop : ∀ (d K : Nat) (xs : List Int) (i : Nat), xs.length - i = d → i ≤ xs.length → d < K → xs.length ≤ 10000000 → laws_wInts.l0 K xs xs i = some true := by
  intro d
  induction d with
  | zero =>
    intro K xs i hd hi hK hl
    obtain ⟨K, rfl⟩ : ∃ m, K = m + 1 := ⟨K - 1, by omega⟩
    rw [laws_wInts.l0, if_neg (by omega)]
  | succ d ih =>
    intro K xs i hd hi hK hl
    obtain ⟨K, rfl⟩ : ∃ m, K = m + 1 := ⟨K - 1, by omega⟩
    have e4 : wrap64 ((i : Int) + 1) = ((i + 1 : Nat) : Int) := by rw [wrap_small (by omega) (by omega)]; omega
    rw [laws_wInts.l0, if_pos (by omega), if_pos (by omega), if_pos (by omega), if_pos rfl, e4]
    exact ih K xs (i + 1) (by omega) (by omega) (by omega) hl
theorem wInts_any {A B : Option Addr} {n c m d : Nat} {base base' : Nat} {ok ok' : Nat → Prop} {l : List Int} {w : World} (h : Kd.R (Kd.int .i64) 3 w base ok (.slice A n c) l) (h' : Kd.R (Kd.int .i64) 3 w base' ok' (.slice B m d) l) (hl : l.length ≤ 10000000) :
    Calls Try.prog 57 #[.slice A n c, .slice B m d] w fun e w' => e = .returned (.bool true) ∧ Below w.heap.size w w' := by
  obtain ⟨e, hc, hC⟩ := Kd.R_reads' h
  obtain ⟨e', hc', hC'⟩ := Kd.R_reads' h'
  subst e
  subst e'
  refine (laws_wInts.calls (l.length + 1) A c l B d l true w hC hc hC' hc' ?_).mono fun _ _ h => ⟨h.1, h.2.below⟩
  unfold laws_wInts.f
  rw [if_pos rfl]
  exact wInts_loop l.length (l.length + 1) l 0 (by omega) (by omega) (by omega) hl

set_option maxRecDepth 100000 in
set_option maxHeartbeats 2000000 in
theorem drawGive_any (A : Option Addr) (c : Nat) (l : List Int) (w : World) (hr : Kd.C (Kd.int .u8) w A l.length l) (hc : l.length ≤ c) (hb : byteL l) :
    Calls Try.prog 56 #[.slice A l.length c] w fun e w' => ∃ (A1 : Option Addr) (c1 : Nat) (caps : List Cap) (A2 : Option Addr) (c2 : Nat) (fl : List Flight), caps.length ≤ 13 ∧ fl.length ≤ 8 ∧ (∀ f ∈ fl, smallL f) ∧
      e = .returned (.tuple #[.slice A1 caps.length c1, .slice A2 fl.length c2]) ∧ Kd.R k99 99 w' w.heap.size (fun _ => True) (.slice A1 caps.length c1) caps ∧ Kd.R k61 61 w' w.heap.size (fun _ => True) (.slice A2 fl.length c2) fl ∧ Below w.heap.size w w' := by
  have HR := Lib.hid hr
  have HB := Lib.hid hb
  clear hr hb
  go_enter Try.func56, Try.ntmps56
  go_wp2_with (fail)
  refine (open_any A c l _ HR.out hc HB.out).mono ?_
  rintro e w1 ⟨g, bs, rfl, h1, hb1, hg⟩
  have z1 := hb1.size
  have hgl := h1.lt
  have H1 := Lib.hid h1
  clear h1 hb1
  go_wp2_with (fail)
  refine (anyCaps_any H1.out (by omega)).mono ?_
  rintro e w2 ⟨v2, caps, p2, hp2, hp2', hn2, rfl, hR2, h2, k2⟩
  have z2 := k2.1
  have HR2 := Lib.hid (Kd.R_mono (Kd.R_bound hR2) (fun k hk => (by have := hk.2.1; omega : k ≠ g)))
  have H2 := Lib.hid h2
  clear hR2 h2 k2 H1
  go_wp2_with (fail)
  refine (anyFlights_any H2.out (by omega)).mono ?_
  rintro e w3 ⟨v3, fl, p3, hp3, hp3', hn3, hL3, rfl, hR3, h3, k3⟩
  have z3 := k3.1
  have HR2' := Lib.hid (R_keep HR2.out k3 (fun j hj => hj))
  have H3 := Lib.hid h3
  have HR3 := Lib.hid hR3
  have HL3 := Lib.hid hL3
  clear h3 k3 HR2 hR3 hL3
  obtain ⟨A1, c1, rfl⟩ := Kd.R_slice HR2'.out
  obtain ⟨A2, c2, rfl⟩ := Kd.R_slice HR3.out
  go_wp2
  go_ret2
  exact ⟨A1, c1, caps, A2, c2, fl, hn2, hn3, HL3.out, rfl, Kd.R_lower (Kd.R_mono HR2'.out (fun _ _ => trivial)) (by omega), Kd.R_lower (Kd.R_mono HR3.out (fun _ _ => trivial)) (by omega), H3.out.hb⟩
end Go.Proofs.Ytkfoeplefajkcaa.Q
end
