/- Contracts: fits of the program: it ranges over the loads of each sector. -/
import Derived.Test.YteklmkoahhociaaCore4
import Derived.Test.YteklmkoahhociaaM1
namespace Go.Proofs.Yteklmkoahhociaa.Q
open Go.RowKit Go.Proofs.YteklmkoahhociaaW.PrintWords Go.Proofs.Yteklmkoahhociaa.Core Go.Maps
set_option linter.unusedVariables false
set_option linter.unusedSimpArgs false

theorem hat_eq {D : DataW Unit} {f : Int → Nat} {N : Nat} (hD : ∀ t, D.atKey (.int .i64 t) (.lit (.int .i64 0)) = .lit (.int .i64 (f t)) ∧ f t ≤ N) {x c : Int} (h : ∀ zd, D.atKey (.int .i64 x) zd = .lit (.int .i64 c)) : c = (f x : Int) := by
  have h1 := h (.lit (.int .i64 0))
  rw [(hD x).1] at h1
  injection h1 with h1
  injection h1 with _ h1
  exact h1.symm
theorem no_key {D : DataW Unit} (hI : IsMap D) {f : Int → Nat} {N : Nat} (hD : ∀ t, D.atKey (.int .i64 t) (.lit (.int .i64 0)) = .lit (.int .i64 (f t)) ∧ f t ≤ N) {t : Int} (h : Maps.has D (.int .i64 t) = false) : f t = 0 := by
  have h1 := atKey_of_not_has h (.lit (.int .i64 0) : DataW Unit)
  rw [(hD t).1] at h1
  injection h1 with h1
  injection h1 with _ h1
  omega
/-- What has been seen of a map under way: no load above the cap. -/
def SeenOk (D : DataW Unit) (left : Lit → Bool) (f : Int → Nat) (cap : Int) : Prop := ∀ t : Int, Maps.has D (.int .i64 t) = true → left (.int .i64 t) = false → (f t : Int) ≤ cap
theorem seen_start (D : DataW Unit) (f : Int → Nat) (cap : Int) : SeenOk D (Maps.has D) f cap := fun t h h' => by rw [h] at h'; cases h'
theorem seen_step {D : DataW Unit} {left : Lit → Bool} {f : Int → Nat} {cap x : Int} (h : SeenOk D left f cap) (hx : (f x : Int) ≤ cap) : SeenOk D (fun z => left z && !z.sameKey (.int .i64 x)) f cap := fun t ht hl => by
  cases hlt : left (.int .i64 t) with
  | false => exact h t ht hlt
  | true =>
    simp only [hlt, Bool.true_and, Bool.not_eq_false'] at hl
    have e := WideAt.sameKey_eq hl
    injection e with _ e
    rw [e]; exact hx
theorem seen_end {D : DataW Unit} (hI : IsMap D) {left : Lit → Bool} {f : Int → Nat} {N : Nat} {cap : Int} (hc : 0 ≤ cap) (hD : ∀ t, D.atKey (.int .i64 t) (.lit (.int .i64 0)) = .lit (.int .i64 (f t)) ∧ f t ≤ N) (h : SeenOk D left f cap) (hl : ∀ kl, left kl = false) (t : Int) : (f t : Int) ≤ cap := by
  cases hh : Maps.has D (.int .i64 t) with
  | true => exact h t hh (hl _)
  | false => rw [no_key hI hD hh]; exact hc

set_option maxRecDepth 100000 in
set_option maxHeartbeats 4000000 in
theorem impl_fits_any (A : Option Addr) (c : Nat) (caps : List Cap) (A1 : Option Addr) (c1 : Nat) (l : List Flight) (A2 : Option Addr) (c2 : Nat) (s : List Int) (w : World)
    (hr : Kd.C k69 w A caps.length caps) (hr1 : Kd.C k79 w A1 l.length l) (hr2 : Kd.C (Kd.int .i64) w A2 s.length s) (hcs : capsB caps = true) (hs : slotsB l s = true) :
    Calls Try.prog 69 #[.slice A caps.length c, .slice A1 l.length c1, .slice A2 s.length c2] w fun e w' => e = .returned (.bool (noneFull caps l s)) ∧ Below w.heap.size w w' := by
  obtain ⟨hc6, hcb, _⟩ := capsB_parts hcs
  have HCB := Lib.hid hcb
  have HS := Lib.hid hs
  have ql : ∀ (W : World) (B : Nat) (sec : ByteArray), Below w.heap.size w W → W.heap.size = B → Calls Try.prog 67 #[.slice A1 l.length c1, .slice A2 s.length c2, .string sec] W fun e w' => e = .returned (.map (some B)) ∧ MapIs w' B 1200 (fun t => cntTo l s sec t l.length) ∧ Below B W w' :=
    fun W B sec h hB => by subst hB; exact impl_loads_any A1 c1 l A2 c2 s sec W (Kd.C_below hr1 h) (Kd.C_below hr2 h) hs
  have QL := Lib.hid ql
  clear ql
  clear hcb hs hcs hr1 hr2
  go_enter Try.func69, Try.ntmps69
  go_wp2
  go_loopw [13] (fun v wr => ∃ k : Nat, k ≤ caps.length ∧ v = .int .i64 k ∧ Hid (noneFull caps l s = noneFull (caps.drop k) l s) ∧ Below w.heap.size w wr) (fun v _ => caps.length - (intOf v).toNat)
  case atStart => exact ⟨0, Nat.zero_le _, rfl, rfl, Below.refl _ _⟩
  case round =>
    obtain ⟨k, hk, rfl, hF, hb⟩ := hrel
    by_cases hlt : k < caps.length
    · obtain ⟨ad, x, rfl, hx, x0, x1⟩ := capAt (Kd.C_below hr hb) k hlt
      have j4 : (k : Int) < caps.length := by omega
      have HX := Lib.hid (noneFull_step hx l s)
      have hxb := (capB_parts (HCB.out x (List.mem_of_getElem? hx))).2
      have hba := hb.alloc hb.size (.cells #[.string x.f0, .int .i64 x.f1] 69)
      clear hx
      go_wp2_with (first
        | (go_at_call 67; refine (QL.out _ (wr.heap.size + 1) _ hba (by simp)).mono ?_; rintro e w2 ⟨rfl, ⟨D, hown, hIs, hD⟩, hb2⟩)
        | (at_range; refine wpList_range_own _ rfl _ 85 rfl 3 3 lawInt Try.underlying85 _ (wr.heap.size + 1) _ _ rfl hown ?_; intro w0 hrg0 hg0 hs0)
        | go_in)
      go_frame
      have hb2 : Below (wr.alloc (.cells #[.string x.f0, .int .i64 x.f1] 69)).heap.size (wr.alloc (.cells #[.string x.f0, .int .i64 x.f1] 69)) w2 := by rw [show (wr.alloc (.cells #[.string x.f0, .int .i64 x.f1] 69)).heap.size = wr.heap.size + 1 by simp]; exact hb2
      have hb2' := (below_next hba hba.size hb2).grown hg0 (by have := hb2.size; simp at this; have := hb.size; omega) (fun j hj => by cases hj)
      have k1 := hg0.cell (pw_cell_below hb2 (show (wr.alloc (.cells #[.string x.f0, .int .i64 x.f1] 69)).cell? ⟨wr.heap.size, 1, none⟩ = some (.int .i64 x.f1) by simp)) (by simp)
      have hwr : w.heap.size ≤ wr.heap.size := hb.size
      have hw2 : wr.heap.size < w2.heap.size := by have := hb2.size; simp at this; omega
      have HD := Lib.hid hD
      clear hD x0 x1 hown hb2 hba hg0
      go_loopw [10] (fun _ wq => ∃ (left : Lit → Bool) (cnt : Nat), wq.ranges Try.prog 3 (plainElem Try.prog 3) (wr.heap.size + 1) w2.heap.size 1200 D left cnt ∧ Hid (SeenOk D left (fun t => cntTo l s x.f0 t l.length) x.f1) ∧
          wq.cell? ⟨wr.heap.size, 1, none⟩ = some (.int .i64 x.f1) ∧ Below w.heap.size w wq) (fun _ wq => wq.rangeLeft (wr.heap.size + 1) w2.heap.size)
      case atStart => exact ⟨_, _, hrg0, seen_start _ _ _, k1, hb2'⟩
      case round =>
        obtain ⟨left, cnt, hrg, hS, k1, hb⟩ := hrel
        clear hrg0 hb2'
        go_wp2_with (first
          | (at_next; refine wpList_next_ranges_ii _ rfl _ rfl 3 3 .i64 .i64 lawInt Try.underlying3 Try.underlying3 _ w2.heap.size _ _ _ _ rfl hrg ?_ ?_)
          | go_in)
        · intro hc0 hl0
          have hnf := Lib.hid (not_full HS.out x (seen_end hIs hxb.1 HD.out hS.out hl0))
          go_wp2
          go_roundw
          case rel => exact ⟨k + 1, by omega, by go_num, by show _ = _; rw [hF.out, HX.out, hnf.out]; rfl, hb⟩
          case measure => simp [intOf]; omega
        · intro y cc w1 cnt1 hwx hwc hlx hat hrg1 hlt hg1 hs1 hen
          have hcc := hat_eq HD.out hat
          have k1' := hg1.cell k1 (by simp; omega)
          by_cases hov : x.f1 < cc
          · have hfull := Lib.hid (full_of_over HS.out x hxb.1 y (by rw [← hcc]; exact hov))
            have e1 : decide (x.f1 < cc) = true := decide_eq_true hov
            go_wp2
            go_ret
            exact ⟨ret_bool (by rw [hF.out, HX.out, hfull.out]; rfl), hb.grown hg1 (by have := hb.size; omega) (fun j hj => by cases hj; omega)⟩
          · have e1 : decide (x.f1 < cc) = false := decide_eq_false hov
            have hS' := Lib.hid (seen_step hS.out (show (cntTo l s x.f0 y l.length : Int) ≤ x.f1 by rw [← hcc]; omega))
            go_wp2
            go_roundw
            case rel => exact ⟨_, cnt1, hrg1, hS', k1', hb.grown hg1 (by have := hb.size; omega) (fun j hj => by cases hj; omega)⟩
            case measure => rw [hrg1.left_eq, hrg.left_eq]; exact hlt
    · go_wp2
      go_ret
      obtain rfl : k = caps.length := by omega
      exact ⟨ret_bool (by rw [hF.out, List.drop_length]; rfl), hb⟩
end Go.Proofs.Yteklmkoahhociaa.Q
