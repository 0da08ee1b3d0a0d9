/- Contracts: the loads of the program, a map that the call makes. -/
import Derived.Test.YteklmkoahhociaaCore3
import Derived.Test.YteklmkoahhociaaA6
import Derived.Maps.OwnOps
import Derived.Maps.RangeWalk
import Derived.StillTailTactics
namespace Go.Proofs.Yteklmkoahhociaa.Q
open Go.RowKit Go.Proofs.YteklmkoahhociaaW.PrintWords Go.Proofs.Yteklmkoahhociaa.Core Go.Maps
set_option linter.unusedVariables false
set_option linter.unusedSimpArgs false

theorem lawInt : Keyed Try.prog 3 := int_keyed Try.underlying3
theorem zeroInt (w : World) : (zeroValue 3).run Try.prog w = .ok (.int .i64 0) w := by kernel_rfl

theorem str_same {a b : ByteArray} (h : a = b) : (a.toList == b.toList) = true := by rw [h]; exact beq_self_eq_true _
theorem str_other {a b : ByteArray} (h : ¬a = b) : (a.toList == b.toList) = false := by
  rw [beq_eq_false_iff_ne]
  intro e
  rw [ByteArray.toList_eq, ByteArray.toList_eq] at e
  exact h (by cases a; cases b; simpa using Array.toList_inj.1 e)

/-- Block b is a map of at most N entries that holds f t at t. -/
def MapIs (w : World) (b N : Nat) (f : Int → Nat) : Prop :=
  ∃ D : DataW Unit, w.ownsMap Try.prog 3 (plainElem Try.prog 3) b N D ∧ IsMap D ∧ ∀ t, D.atKey (.int .i64 t) (.lit (.int .i64 0)) = .lit (.int .i64 (f t)) ∧ f t ≤ N
theorem MapIs.made (w : World) : MapIs (w.alloc (.map #[] 0)) w.heap.size 0 (fun _ => 0) :=
  ⟨.map [], World.ownsMap_made _ _ _ _, isMap_empty, fun _ => ⟨rfl, Nat.le_refl _⟩⟩
theorem MapIs.lt {w : World} {b N : Nat} {f : Int → Nat} (h : MapIs w b N f) : b < w.heap.size := by obtain ⟨D, h1, _⟩ := h; exact h1.lt
theorem MapIs.mono {w : World} {b N M : Nat} {f : Int → Nat} (h : MapIs w b N f) (hN : N ≤ M) : MapIs w b M f := by
  obtain ⟨D, h1, h2, h3⟩ := h
  exact ⟨D, h1.mono hN, h2, fun t => ⟨(h3 t).1, Nat.le_trans (h3 t).2 hN⟩⟩
theorem MapIs.alloc {w : World} {b N : Nat} {f : Int → Nat} (h : MapIs w b N f) (o : Obj) : MapIs (w.alloc o) b N f := by
  obtain ⟨D, h1, h2, h3⟩ := h
  exact ⟨D, h1.alloc o, h2, h3⟩
theorem MapIs.ext {w : World} {b N : Nat} {f g : Int → Nat} (h : MapIs w b N f) (e : ∀ t, f t = g t) : MapIs w b N g := by
  obtain rfl : f = g := funext e
  exact h
theorem MapIs.put {w' : World} {b N : Nat} {f : Int → Nat} {D : DataW Unit} {key : Int} (hIs : IsMap D) (hD : ∀ t, D.atKey (.int .i64 t) (.lit (.int .i64 0)) = .lit (.int .i64 (f t)) ∧ f t ≤ N)
    (h : w'.ownsMap Try.prog 3 (plainElem Try.prog 3) b (N + 1) (D.put (.int .i64 key) (.lit (.int .i64 ((f key : Int) + 1))))) : MapIs w' b (N + 1) (fun t => if t = key then f t + 1 else f t) := by
  refine ⟨_, h, hIs.put _ _, fun t => ?_⟩
  by_cases e : t = key
  · subst e
    rw [atKey_put_same hIs (show WideAt.IsKeyLit (.int .i64 t) from trivial)]
    have := (hD t).2
    simp
    omega
  · rw [atKey_put_other (by intro h; injection h; contradiction)]
    simp only [if_neg e]
    exact ⟨(hD t).1, by have := (hD t).2; omega⟩

theorem covers_end {v : Visit} {sec : ByteArray} (z t : Int) {i : Int} (hs : v.f0 = sec) (hi : i = v.f2) : (if z + v.f1 ≤ t ∧ t < z + v.f1 + i then 1 else 0 : Nat) = if coversB z sec t v = true then 1 else 0 := by
  subst hi
  have e : (coversB z sec t v = true) ↔ (z + v.f1 ≤ t ∧ t < z + v.f1 + v.f2) := by
    simp only [coversB, inB, hs, decide_true, Bool.true_and, Bool.and_eq_true, decide_eq_true_eq]; omega
  by_cases h : z + v.f1 ≤ t ∧ t < z + v.f1 + v.f2
  · rw [if_pos h, if_pos (e.2 h)]
  · rw [if_neg h, if_neg (fun x => h (e.1 x))]
theorem covers_next (z t : Int) (a i : Int) (n : Nat) (hi : 0 ≤ i) : (if t = z + a + i then (n + if z + a ≤ t ∧ t < z + a + i then 1 else 0) + 1 else (n + if z + a ≤ t ∧ t < z + a + i then 1 else 0) : Nat) = n + if z + a ≤ t ∧ t < z + a + (i + 1) then 1 else 0 := by
  by_cases h1 : t = z + a + i
  · rw [if_pos h1, if_neg (by omega), if_pos (by omega)]
  · rw [if_neg h1]
    by_cases h2 : z + a ≤ t ∧ t < z + a + i
    · rw [if_pos h2, if_pos (by omega)]
    · rw [if_neg h2, if_neg (by omega)]

set_option maxRecDepth 100000 in
set_option maxHeartbeats 4000000 in
theorem impl_loads_any (A : Option Addr) (c : Nat) (l : List Flight) (A1 : Option Addr) (c1 : Nat) (s : List Int) (sec : ByteArray) (w : World) (hr : Kd.C k79 w A l.length l) (hr1 : Kd.C (Kd.int .i64) w A1 s.length s) (hs : slotsB l s = true) :
    Calls Try.prog 67 #[.slice A l.length c, .slice A1 s.length c1, .string sec] w fun e w' => e = .returned (.map (some w.heap.size)) ∧ MapIs w' w.heap.size 1200 (fun t => cntTo l s sec t l.length) ∧ Below w.heap.size w w' := by
  obtain ⟨hfl, hlen, hsb⟩ := slotsB_parts hs
  obtain ⟨hl8, hfs, _⟩ := flightsB_parts hfl
  have HL := Lib.hid hlen
  have HFS := Lib.hid hfs
  have HSB := Lib.hid hsb
  clear hlen hsb hfs hfl hs
  have hmm := @run_makeMap Try.prog
  go_enter Try.func67, Try.ntmps67
  go_wp2
  go_loopw [16] (fun v wr => ∃ k : Nat, k ≤ l.length ∧ v = .int .i64 k ∧ MapIs wr w.heap.size (150 * k) (fun t => cntTo l s sec t k) ∧ Below w.heap.size w wr) (fun v _ => l.length - (intOf v).toNat)
  case atStart => exact ⟨0, Nat.zero_le _, rfl, (MapIs.made w).ext (fun t => (cntTo_zero l s sec t).symm), (Below.refl _ _).alloc (Nat.le_refl _) _⟩
  case round =>
    obtain ⟨k, hk, rfl, hM, hb⟩ := hrel
    by_cases hlt : k < l.length
    · obtain ⟨ad, f, A3, c3, rfl, hf, f0, f1, f2, f3, hl3, hr3⟩ := flightAt hr k hlt
      obtain ⟨ad1, z, rfl, hz, z0⟩ := intAt hr1 k (by rw [HL.out]; exact hlt)
      have j4 : (k : Int) < l.length := by omega
      have j5 : (k : Int) < s.length := by rw [HL.out]; omega
      have HFZ := Lib.hid (cntTo_step hf hz sec)
      have hzb := HSB.out z (List.mem_of_getElem? hz)
      have HV := Lib.hid (visitsB_parts (flightB_parts (HFS.out f (List.mem_of_getElem? hf))).2.2.2.2.2)
      have HZ := Lib.hid hzb
      clear hf hz hzb
      have f0 := pw_cell_below hb f0
      have f1 := pw_cell_below hb f1
      have f2 := pw_cell_below hb f2
      have f3 := pw_cell_below hb f3
      have hz1 := cell_al (pw_cell_below hb z0) (.cells #[.string f.f0, .int .i64 f.f1, .int .i64 f.f2, .slice A3 f.f3.length c3] 79)
      by_cases hz0 : z < 0
      · have e1 : decide (z < 0) = true := decide_eq_true hz0
        go_wp2
        go_roundw
        case rel => exact ⟨k + 1, by omega, by go_num, ((hM.alloc _).mono (by omega)).ext (fun t => by rw [HFZ.out, cntP, if_neg (by omega)]; rfl), hb.alloc hb.size _⟩
        case measure => simp [intOf]; omega
      · have e1 : decide (z < 0) = false := decide_eq_false hz0
        go_wp2
        clear f0 f1 f2 f3 hz1
        go_loopw [29] (fun v wr => ∃ j : Nat, j ≤ f.f3.length ∧ v = .int .i64 j ∧ MapIs wr w.heap.size (150 * k + 30 * j) (fun t => cntTo l s sec t k + cntV z sec t (f.f3.take j)) ∧ Below w.heap.size w wr) (fun v _ => f.f3.length - (intOf v).toNat)
        case atStart => exact ⟨0, Nat.zero_le _, rfl, (hM.alloc _).ext (fun t => by rw [cntV_zero]; rfl), hb.alloc hb.size _⟩
        case round =>
          obtain ⟨j, hj, rfl, hM, hb⟩ := hrel
          have hv5 : f.f3.length ≤ 5 := HV.out.2.1
          by_cases hjt : j < f.f3.length
          · obtain ⟨ad3, v, rfl, hv, v0, v1, v2⟩ := visitAt hr3 j hjt
            have j6 : (j : Int) < f.f3.length := by omega
            have HVZ := Lib.hid (cntV_step hv z sec)
            have hvb := visitB_stay (HV.out.2.2.1 v (List.mem_of_getElem? hv))
            have v0 := pw_cell_below hb v0
            have v1 := pw_cell_below hb v1
            have v2 := pw_cell_below hb v2
            clear hv
            by_cases hsec : v.f0 = sec
            · have e3 := str_same hsec
              have HS := Lib.hid hsec
              clear hsec
              go_wp2
              clear v0 v1 v2
              have hVlt := hM.lt
              go_loopw [12] (fun u wi => ∃ i : Nat, (i : Int) ≤ v.f2 ∧ u = .int .i64 i ∧ MapIs wi w.heap.size (150 * k + 30 * j + i) (fun t => cntTo l s sec t k + cntV z sec t (f.f3.take j) + if z + v.f1 ≤ t ∧ t < z + v.f1 + i then 1 else 0) ∧
                wi.cell? ⟨wr.heap.size, 1, none⟩ = some (.int .i64 v.f1) ∧ wi.cell? ⟨wr.heap.size, 2, none⟩ = some (.int .i64 v.f2) ∧ Below w.heap.size w wi ∧ wr.heap.size < wi.heap.size) (fun u _ => (v.f2 - intOf u).toNat)
              case atStart => exact ⟨0, by omega, rfl, (hM.alloc _).ext (fun t => by rw [if_neg (by omega)]; rfl), by simp, by simp, hb.alloc hb.size _, by simp⟩
              case round =>
                have hBw := hb.size
                have hvb2 := hvb
                clear hvb
                obtain ⟨i, hi, rfl, hM, c1, c2, hb, hsz⟩ := hrel
                by_cases hit : (i : Int) < v.f2
                · have e4 : decide ((i : Int) < v.f2) = true := decide_eq_true hit
                  have hz1 := pw_cell_below hb z0
                  have HZb := HZ.out
                  have j7 : IntKind.i64.wrap (z + v.f1) = z + v.f1 := IntWalk.i64_in _ (by omega)
                  have j8 : IntKind.i64.wrap (z + v.f1 + i) = z + v.f1 + i := IntWalk.i64_in _ (by omega)
                  obtain ⟨D, hown, hIs, hD⟩ := hM
                  go_wp2
                  go_still_tail 10, (by kernel_rfl)
                  change wpList _ _ _ _ _ wr.drew
                  have hk1 : keyOf Try.prog 3 (.int .i64 (z + v.f1 + i)) = some (.int .i64 (z + v.f1 + i)) := keyOf_int_mk Try.underlying3 (WalkArith.wf_i64 (by omega))
                  have HD := Lib.hid hD
                  have hbd := (hD (z + v.f1 + i)).2
                  clear hD
                  go_wp2_with (first
                    | (at_lookup; refine wpList_lookup_own_int _ rfl _ _ 85 rfl 3 3 .i64 lawInt Try.underlying85 Try.underlying3 (zeroInt _) w.heap.size _ _ rfl hown.drew _ _ rfl hk1 ?_; intro cc hat hwc; rw [(HD.out _).1] at hat; have hcc := Lib.hid hat; have hc0 : 0 ≤ cc ∧ cc ≤ 1200 := (by injection hat with hat; injection hat with _ hat; omega); clear hat)
                    | (at_mapUpdate; refine wpList_mapUpdate_own _ rfl _ _ _ 85 rfl 3 3 lawInt Try.underlying85 _ w.heap.size _ _ rfl hown.drew (by unfold maxLen; omega) _ _ _ rfl rfl hk1 _ [] (plainElem_int Try.underlying3 (WalkArith.wf_i64 (by omega))) ?_; intro w1 hown1 hg1)
                    | go_in)
                  go_roundw
                  case rel =>
                    have ecc : cc = ((cntTo l s sec (z + v.f1 + i) k + cntV z sec (z + v.f1 + i) (f.f3.take j) + if z + v.f1 ≤ z + v.f1 + i ∧ z + v.f1 + i < z + v.f1 + i then 1 else 0 : Nat) : Int) := by
                      have h := hcc.out
                      injection h with h
                      injection h with _ h
                      exact h.symm
                    rw [ecc] at hown1
                    exact ⟨i + 1, by omega, rfl, (MapIs.put hIs HD.out hown1).ext (fun t => by rw [covers_next z t v.f1 i _ (by omega)]; rfl), hg1.cell (by exact c1) (by simp; omega), hg1.cell (by exact c2) (by simp; omega), hb.drew.grown hg1 hb.size (fun j hj => by cases hj; exact Nat.le_refl _), Nat.lt_of_lt_of_le hsz hg1.size⟩
                  case measure => simp [intOf]; omega
                · go_wp2
                  go_roundw
                  case rel => exact ⟨j + 1, by omega, by go_num, (hM.mono (by omega)).ext (fun t => by rw [HVZ.out, covers_end z t HS.out (by omega), Nat.add_assoc]), hb⟩
                  case measure => simp [intOf]; omega
            · have e3 := str_other hsec
              have HS := Lib.hid hsec
              go_wp2
              go_roundw
              case rel => exact ⟨j + 1, by omega, by go_num, ((hM.alloc _).mono (by omega)).ext (fun t => by rw [HVZ.out]; simp [coversB, HS.out]), hb.alloc hb.size _⟩
              case measure => simp [intOf]; omega
          · go_wp2
            go_roundw
            case rel => exact ⟨k + 1, by omega, by go_num, (hM.mono (by omega)).ext (fun t => by rw [HFZ.out, cntP, if_pos (by omega), List.take_of_length_le (by omega)]), hb⟩
            case measure => simp [intOf]; omega
    · go_wp2
      go_ret
      obtain rfl : k = l.length := by omega
      exact ⟨rfl, hM.mono (by omega), hb⟩
end Go.Proofs.Yteklmkoahhociaa.Q
