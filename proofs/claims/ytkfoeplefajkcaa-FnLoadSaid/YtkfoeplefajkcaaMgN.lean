/- Merged out of this seat's own texts: Ins, ShSort, N1. -/
import Derived.Test.YtkfoeplefajkcaaMgM
import Derived.BigRegion
import Derived.Shelf.Small.Bits
import Derived.Shelf.Strconv.Itoa0
import Derived.Shelf.Sort.Plain
import Derived.Ground.GgsProg
import Derived.Shelf.GgSortFunc.Insertion
import Derived.Shelf.GgSortFunc.Tiny
import Derived.Shelf.GgSortFunc.Compose
import Derived.Ground.GgtProg
import Derived.Shelf.GgSortMore.Stable
import Derived.Shelf.Slices.In.SortNone
import Derived.Shelf.Slices.In.SortNone2
import Derived.Test.YtkfoeplefajkcaaProg
import Derived.Test.YtkfoeplefajkcaaMgC
import Derived.Sort.OwnSortedInts

/- 'append(append(append([]int{}, out[:k]...), t), out[k:]...)': one region that draws its order: what does not look at memory is taken first; three orders are left. -/
section
namespace Go.Proofs.Ytkfoeplefajkcaa.Q
open Go.RowKit Go.Proofs.YtkfoeplefajkcaaW.PrintWords Go.Proofs.Ytkfoeplefajkcaa.Core
set_option linter.unusedVariables false
set_option linter.unusedSimpArgs false

section
variable {P : Program} {ops : Array Oper} {o : Oper} {a : Act} {Q : Exit → Act → World → Prop} {Kc : Act → World → Prop}
/-- append(v, ys...) of integers, a step of a region. -/
theorem ints_append_step {w0 W : World} (base : Nat) (hw : Region.wanted o (yielded ops a.tmps) = true) (s x : Operand) (t e : TypeId)
    (ho : o.op = .call { callee := .builtin .append, args := #[s, x], argTypes := #[t, t] })
    (ht : P.underlying t = some (.slice e)) (hinfo : (P.info? e).map (fun i => (i.zero, i.size, i.bytes)) = some (some (.int .i64 0), 1, 8))
    (v : Value) (xs ys : List Int) (A : Option Addr) (m c : Nat) (hs : a.eval s = v) (hx : a.eval x = .slice A m c)
    (HO : Kd.R (Kd.int .i64) e W base (fun _ => True) v xs) (HR : Kd.C (Kd.int .i64) W A m ys) (HB : Below base w0 W) (hbase : base ≤ W.heap.size) (hl : xs.length + m ≤ 1048576) (hv : v.ownBlock ≠ none)
    (h : ∀ v1 w1, Kd.R (Kd.int .i64) e w1 base (fun _ => True) v1 (xs ++ ys) → Below base w0 w1 → W.grownBy w1 v.ownBlock → v1.ownBlock ≠ none → Kc (a.put o.dst v1) w1) :
    if Region.wanted o (yielded ops a.tmps) = true then Oper.wp P o a W Kc Q else Kc (a.put o.dst undef) W :=
  Kd.R_append_rows_step (Kd.int .i64) (w0 := w0) base hw s x t e (.int .i64 0) 8 ho ht hinfo rfl (by decide) (by decide) v xs ys A m c (fun _ => True) (fun _ => False) hs hx HO HR (fun _ _ h => h) (fun _ h => h.elim) (fun _ _ => trivial) HB hbase (by omega)
    (fun v1 w1 h1 h2 h3 h4 => h v1 w1 h1 h2 h3 (by
      rcases h4 with h4 | ⟨b, h4, _⟩
      · rw [h4]; exact hv
      · rw [h4]; simp))
end
/-- The row that is laid for one element. -/
theorem C_one {w : World} {g : Nat} {t : Int} (h : w.cell? ⟨g, 0, none⟩ = some (.int .i64 t)) : Kd.C (Kd.int .i64) w (some ⟨g, 0, none⟩) 1 [t] := by
  refine ⟨rfl, by decide, fun _ => ⟨_, rfl, fun j p hj => ?_⟩⟩
  have hj0 : j = 0 := by have := some_lt hj; simpa using this
  subst hj0
  obtain rfl : t = p := by simpa using hj
  refine ⟨[.int .i64 t], rfl, rfl, fun i u hi => ?_⟩
  have hi0 : i = 0 := by have := some_lt hi; simpa using this
  subst hi0
  obtain rfl : Value.int .i64 t = u := by simpa using hi
  exact h
theorem C_takeN {w : World} {A : Option Addr} {xs : List Int} {j : Nat} (h : Kd.C (Kd.int .i64) w A xs.length xs) (hj : j ≤ xs.length) : Kd.C (Kd.int .i64) w A j (xs.take j) := by
  have := Kd.C_take h hj
  rwa [List.length_take, Nat.min_eq_left hj] at this
theorem C_dropN {w : World} {ad : Addr} {xs : List Int} {j c : Nat} (h : Kd.C (Kd.int .i64) w (some ad) xs.length xs) (hj : j ≤ xs.length) (hc : xs.length ≤ c) : Kd.C (Kd.int .i64) w (if c = j then some ad else some (ad.add j)) (xs.length - j) (xs.drop j) := by
  have := Kd.C_drop h hj hc
  rw [List.length_drop] at this
  have e : (Option.map (fun x => x.add (j * (Kd.int .i64).sz)) (some ad)) = some (ad.add j) := by
    show some (ad.add (j * 1)) = _
    rw [Nat.mul_one]
  rwa [e] at this

theorem own_some {A : Option Addr} {n c : Nat} (h : (Value.slice A n c).ownBlock ≠ none) : ∃ ad, A = some ad := by
  cases A with
  | none => exact absurd rfl h
  | some ad => exact ⟨ad, rfl⟩

end Go.Proofs.Ytkfoeplefajkcaa.Q
end

/-
  DERIVED: THE SHELF's CONTRACTS AT THIS DUMP, IN PLAIN WORDS (tools/lay-plain.mjs out of 'YtkfoeplefajkcaaShSort.lean', which tools/lay-shelf.mjs wrote): THE SAME DECLARATIONS UNDER THE SAME NAMES: 'import', 'namespace', 'open', 'def', 'theorem' AND NOTHING ELSE: no command of the shelf's: FOR A HAND-IN. Each laying: the table of numbers ('.._ren') and one theorem, a field a fact of the dump's own or the kernel's comparison; each contract: ONE APPLICATION.
-/
section
namespace Go.Proofs
open Go.Shelf
def Try.lays191_ren : Go.Shelf.Ren := ⟨fun | 191 => 91 | 189 => 144 | 125 => 176 | 257 => 175 | 128 => 189 | 129 => 190 | 294 => 180 | 295 => 181 | 296 => 182 | 297 => 183 | 298 => 184 | 299 => 185 | 216 => 186 | 300 => 187 | 301 => 188 | 328 => 194 | 329 => 195 | 330 => 196 | 331 => 197 | 332 => 198 | 215 => 199 | 343 => 200 | n => n, fun | 28 => 24 | 0 => 0 | 3 => 3 | 46 => 184 | 51 => 194 | 53 => 196 | 4 => 4 | 183 => 187 | 182 => 186 | 131 => 191 | 5 => 5 | 9 => 9 | 218 => 198 | 222 => 202 | 228 => 205 | 229 => 112 | n => n, fun | n => n⟩
theorem Try.lays191 : Go.Proofs.Lays.n191 Try.prog Try.lays191_ren := {
  mixed := by kernel_rfl
  f125 := Try.func176.trans (congrArg some (by kernel_rfl))
  f128 := Try.func189.trans (congrArg some (by kernel_rfl))
  f129 := Try.func190.trans (congrArg some (by kernel_rfl))
  f189 := Try.func144.trans (congrArg some (by kernel_rfl))
  f191 := Try.func91.trans (congrArg some (by kernel_rfl))
  f215 := Try.func199.trans (congrArg some (by kernel_rfl))
  f216 := Try.func186.trans (congrArg some (by kernel_rfl))
  f257 := Try.func175.trans (congrArg some (by kernel_rfl))
  f294 := Try.func180.trans (congrArg some (by kernel_rfl))
  f295 := Try.func181.trans (congrArg some (by kernel_rfl))
  f296 := Try.func182.trans (congrArg some (by kernel_rfl))
  f297 := Try.func183.trans (congrArg some (by kernel_rfl))
  f298 := Try.func184.trans (congrArg some (by kernel_rfl))
  f299 := Try.func185.trans (congrArg some (by kernel_rfl))
  f300 := Try.func187.trans (congrArg some (by kernel_rfl))
  f301 := Try.func188.trans (congrArg some (by kernel_rfl))
  f328 := Try.func194.trans (congrArg some (by kernel_rfl))
  f329 := Try.func195.trans (congrArg some (by kernel_rfl))
  f330 := Try.func196.trans (congrArg some (by kernel_rfl))
  f331 := Try.func197.trans (congrArg some (by kernel_rfl))
  f332 := Try.func198.trans (congrArg some (by kernel_rfl))
  f343 := Try.func200.trans (congrArg some (by kernel_rfl))
  t0 := Try.underlying0
  a0 := Try.isAgg0
  z0 := Try.sizeOf0
  v0 := Try.zeroValue0
  t3 := Try.underlying3
  a3 := Try.isAgg3
  z3 := Try.sizeOf3
  v3 := Try.zeroValue3
  t4 := Try.underlying4
  a4 := Try.isAgg4
  z4 := Try.sizeOf4
  v4 := Try.zeroValue4
  t5 := Try.underlying5
  a5 := Try.isAgg5
  z5 := Try.sizeOf5
  v5 := Try.zeroValue5
  t9 := Try.underlying9
  a9 := Try.isAgg9
  z9 := Try.sizeOf9
  v9 := Try.zeroValue9
  t28 := Try.underlying24
  a28 := Try.isAgg24
  z28 := Try.sizeOf24
  v28 := Try.zeroValue24
  t46 := Try.underlying184
  a46 := Try.isAgg184
  z46 := Try.sizeOf184
  v46 := Try.zeroValue184
  t51 := Try.underlying194
  a51 := Try.isAgg194
  z51 := Try.sizeOf194
  v51 := Try.zeroValue194
  t53 := Try.underlying196
  a53 := Try.isAgg196
  z53 := Try.sizeOf196
  v53 := Try.zeroValue196
  t131 := Try.underlying191
  a131 := Try.isAgg191
  z131 := Try.sizeOf191
  v131 := Try.zeroValue191
  t182 := Try.underlying186
  a182 := Try.isAgg186
  z182 := Try.sizeOf186
  v182 := Try.zeroValue186
  t183 := Try.underlying187
  a183 := Try.isAgg187
  z183 := Try.sizeOf187
  v183 := Try.zeroValue187
  t218 := Try.underlying198
  a218 := Try.isAgg198
  z218 := Try.sizeOf198
  v218 := Try.zeroValue198
  t222 := Try.underlying202
  a222 := Try.isAgg202
  z222 := Try.sizeOf202
  v222 := Try.zeroValue202
  t228 := Try.underlying205
  a228 := Try.isAgg205
  z228 := Try.sizeOf205
  v228 := Try.zeroValue205
  t229 := Try.underlying112
  a229 := Try.isAgg112
  z229 := Try.sizeOf112
  v229 := Try.zeroValue112 }
open Go.Sort Go.RowKit in
theorem Try.sort_Ints (blk off cap : Nat) (zs : List Int) (w : World) (hH : Holds (Value.int .i64) w blk off zs.toArray) (hblk : blk < w.heap.size) (hsz : zs.length < 4611686018427387904) :
    Calls Try.prog 91 #[.slice (some ⟨blk, off, none⟩) zs.length cap] w fun e w' =>
      e = .returned (.tuple #[]) ∧ ∃ n os, w' = grow (putRow (Value.int .i64) (Sort.ahead w n) blk off (zs.mergeSort fun x y => decide (x ≤ y)).toArray) os := Any.sort_Ints Try.lays191 blk off cap zs w hH hblk hsz
open Go.RowKit Go.Sort in
/-- .. and plain. (LAID: no walk: one application.) -/
theorem Try.sort_Ints_none (p : Option Addr) (cap : Nat) (w : World) :
    Calls Try.prog 91 #[.slice p 0 cap] w fun e w' => e = .returned (.tuple #[]) ∧ w' = w := Any.sort_Ints_none Try.lays191 p cap w
end Go.Proofs
end

/- Contracts: sort.Ints; the reference's first entries of a sector. -/
section
namespace Go.Proofs.Ytkfoeplefajkcaa.Q
open Go.RowKit Go.Proofs.YtkfoeplefajkcaaW.PrintWords Go.Proofs.Ytkfoeplefajkcaa.Core
set_option linter.unusedVariables false
set_option linter.unusedSimpArgs false

def sortL (xs : List Int) : List Int := xs.mergeSort fun x y => decide (x ≤ y)
theorem sortL_length (xs : List Int) : (sortL xs).length = xs.length := List.length_mergeSort xs
theorem encs_int (xs : List Int) : encs (Value.int .i64) xs = xs.map (Value.int .i64) := rfl

theorem sortInts_any (v : Value) (xs : List Int) (w : World) (base : Nat) (hl : xs.length ≤ 1048576) (h : Kd.R (Kd.int .i64) 3 w base (fun _ => True) v xs) (hbase : base ≤ w.heap.size) :
    Calls Try.prog 91 #[v] w fun e w' => e = .returned (.tuple #[]) ∧ Kd.R (Kd.int .i64) 3 w' base (fun _ => True) v (sortL xs) ∧ Below base w w' ∧ w.grownBy w' v.ownBlock := by
  have ho := Kd.own_of_R h
  rcases ho.2 with ⟨rfl, h0⟩ | ⟨g, cap, cur, rfl, hg, hb, hnc, hcm, hcs, htk⟩
  · obtain rfl : xs = [] := List.eq_nil_of_length_eq_zero h0
    refine (Try.sort_Ints_none none 0 w).mono ?_
    rintro e w' ⟨rfl, rfl⟩
    exact ⟨rfl, by simpa [sortL] using h, Below.refl _ _, World.grownBy.refl _ _⟩
  · have htk' : cur.toList.take xs.length = xs.map (Value.int .i64) := by simpa [encs] using htk
    refine (Try.sort_Ints g 0 cap xs w (holds_of_blockI hb htk') (Array.getElem?_eq_some_iff.1 hb).1 (by omega)).mono ?_
    rintro e w' ⟨rfl, n, os, rfl⟩
    have hgr : w.grownBy (Go.Sort.grow (Go.Sort.putRow (Value.int .i64) (Go.Sort.ahead w n) g 0 (xs.mergeSort fun x y => decide (x ≤ y)).toArray) os) (some g) := grownBy_sortedI _
    refine ⟨rfl, ?_, (Below.refl _ w).grown hgr hbase (fun k hk => by cases hk; exact hg), by simpa [Value.ownBlock] using hgr⟩
    have hs := ownsRow_sortedI (n := n) (os := os) (base := base) (ss := xs) (ts := sortL xs) (sortL_length xs) hg hb hnc hcm (by simpa using hcs)
    refine Kd.R_of_own ?_ (fun _ _ => trivial)
    rw [sortL_length]
    exact hs

theorem firstOf_step {vs : List Visit} {k : Nat} {v : Visit} (h : vs[k]? = some v) (p : Int) (sec : ByteArray) : firstOf p sec (vs.drop k) = if v.f0 = sec then p + v.f1 else firstOf p sec (vs.drop (k + 1)) := by
  have hk := some_lt h
  rw [List.drop_eq_getElem_cons hk]
  rw [List.getElem?_eq_getElem hk] at h
  rw [Option.some.inj h]
  rfl
theorem capOf_step {l : List Cap} {k : Nat} {c : Cap} (h : l[k]? = some c) (sec : ByteArray) : capOf sec (l.drop k) = if c.f0 = sec then c.f1 else capOf sec (l.drop (k + 1)) := by
  have hk := some_lt h
  rw [List.drop_eq_getElem_cons hk]
  rw [List.getElem?_eq_getElem hk] at h
  rw [Option.some.inj h]
  rfl

set_option maxRecDepth 100000 in
set_option maxHeartbeats 2000000 in
theorem spec_first_any (f : Flight) (A3 : Option Addr) (c3 : Nat) (sec : ByteArray) (w : World) (hr : Kd.C k97 w A3 f.f3.length f.f3) (hf : flightB f = true) :
    Calls Try.prog 163 #[.agg #[.string f.f0, .int .i64 f.f1, .int .i64 f.f2, .slice A3 f.f3.length c3], .string sec] w fun e w' => e = .returned (.int .i64 (firstOf f.f1 sec f.f3)) ∧ Below w.heap.size w w' := by
  obtain ⟨_, b1, b2, _, _, hv⟩ := flightB_parts hf
  obtain ⟨f0, f1, f2, vs⟩ := f
  simp only at hr hv b1 b2 ⊢
  obtain ⟨_, hv5, hvs, _⟩ := visitsB_parts hv
  have HV := Lib.hid hvs
  clear hvs hv hf
  go_enter Try.func163, Try.ntmps163
  go_wp2
  go_loopw [5] (fun v wr => ∃ k : Nat, k ≤ vs.length ∧ v = .int .i64 k ∧ Hid (firstOf f1 sec vs = firstOf f1 sec (vs.drop k)) ∧ Below (w.heap.size + 1) (w.alloc (.cells #[.string f0, .int .i64 f1, .int .i64 f2, .slice A3 vs.length c3] 61)) wr) (fun v _ => vs.length - (intOf v).toNat)
  case atStart => exact ⟨0, Nat.zero_le _, rfl, rfl, Below.refl _ _⟩
  case round =>
    obtain ⟨k, hk, rfl, hF, hb⟩ := hrel
    have hBW := Lib.hid (((Below.refl _ _).alloc (Nat.le_refl _) _).trans (hb.mono (by omega)) : Below w.heap.size w wr)
    have g1 := (hb.cell (p := ⟨w.heap.size, 1, none⟩) (by simp)).trans (show _ = some (Value.int .i64 f1) by simp)
    have g3 := (hb.cell (p := ⟨w.heap.size, 3, none⟩) (by simp)).trans (show _ = some (Value.slice A3 vs.length c3) by simp)
    by_cases hlt : k < vs.length
    · obtain ⟨ad3, v, rfl, hx, v0, v1, v2⟩ := visitAt (Kd.C_below hr hBW.out) k hlt
      have j6 : (k : Int) < vs.length := by omega
      have HX := Lib.hid (firstOf_step hx f1 sec)
      have hvb := visitB_stay (HV.out v (List.mem_of_getElem? hx))
      clear hx v2
      by_cases hsec : v.f0 = sec
      · have e3 := str_same hsec
        have HS := Lib.hid hsec
        clear hsec
        have j7 : IntKind.i64.wrap (f1 + v.f1) = f1 + v.f1 := IntWalk.i64_in _ (by omega)
        go_wp2
        go_quiet (fail)
        go_wp2
        go_ret
        exact ⟨ret_int (by rw [hF.out, HX.out, if_pos HS.out]), pw_below_drewN hBW.out _⟩
      · have e3 := str_other hsec
        have HS := Lib.hid hsec
        clear hsec
        go_wp2
        go_roundw
        case rel => exact ⟨k + 1, by omega, by go_num, by show _ = _; rw [hF.out, HX.out, if_neg HS.out], hb⟩
        case measure => simp [intOf]; omega
    · go_wp2
      go_ret
      obtain rfl : k = vs.length := by omega
      exact ⟨ret_int (by rw [hF.out, List.drop_length]; rfl), hBW.out⟩

set_option maxRecDepth 100000 in
set_option maxHeartbeats 2000000 in
theorem spec_l5Cap_any (A : Option Addr) (c : Nat) (l : List Cap) (sec : ByteArray) (w : World) (hr : Kd.C k99 w A l.length l) :
    Calls Try.prog 136 #[.slice A l.length c, .string sec] w fun e w' => e = .returned (.int .i64 (capOf sec l)) ∧ Below w.heap.size w w' := by
  have hn := C_len hr
  go_enter Try.func136, Try.ntmps136
  go_wp2
  go_loopw [5] (fun v wr => ∃ k : Nat, k ≤ l.length ∧ v = .int .i64 k ∧ Hid (capOf sec l = capOf sec (l.drop k)) ∧ Below w.heap.size w wr) (fun v _ => l.length - (intOf v).toNat)
  case atStart => exact ⟨0, Nat.zero_le _, rfl, rfl, Below.refl _ _⟩
  case round =>
    obtain ⟨k, hk, rfl, hF, hb⟩ := hrel
    by_cases hlt : k < l.length
    · obtain ⟨ad, x, rfl, hx, x0, x1⟩ := capAt (Kd.C_below hr hb) k hlt
      have j6 : (k : Int) < l.length := by omega
      have HX := Lib.hid (capOf_step hx sec)
      clear hx
      by_cases hsec : x.f0 = sec
      · have e3 := str_same hsec
        have HS := Lib.hid hsec
        clear hsec
        go_wp2
        go_ret
        exact ⟨ret_int (by rw [hF.out, HX.out, if_pos HS.out]), hb⟩
      · have e3 := str_other hsec
        have HS := Lib.hid hsec
        clear hsec
        go_wp2
        go_roundw
        case rel => exact ⟨k + 1, by omega, by go_num, by show _ = _; rw [hF.out, HX.out, if_neg HS.out], hb⟩
        case measure => simp [intOf]; omega
    · go_wp2
      go_ret
      obtain rfl : k = l.length := by omega
      exact ⟨ret_int (by rw [hF.out, List.drop_length]; rfl), hb⟩

set_option maxRecDepth 100000 in
set_option maxHeartbeats 600000 in
theorem spec_sorted_any (A : Option Addr) (c : Nat) (l : List Flight) (sec : ByteArray) (w : World) (hr : Kd.C k61 w A l.length l) (hl : flightsB l = true) :
    Calls Try.prog 137 #[.slice A l.length c, .string sec] w fun e w' => ∃ v, e = .returned v ∧ Kd.R (Kd.int .i64) 3 w' w.heap.size (fun _ => True) v (sortedTo sec l l.length) ∧ Below w.heap.size w w' := by
  obtain ⟨hl8, hfs, _⟩ := flightsB_parts hl
  have HFS := Lib.hid hfs
  clear hfs hl
  go_enter Try.func137, Try.ntmps137
  go_wp2
  go_loopw [5, 6] (fun o v wr => ∃ k : Nat, k ≤ l.length ∧ v = .int .i64 k ∧ (sortedTo sec l k).length ≤ k ∧ Hid (Kd.R (Kd.int .i64) 3 wr w.heap.size (fun _ => True) o (sortedTo sec l k)) ∧ Hid (o.ownBlock ≠ none) ∧ Below w.heap.size w wr) (fun _ v _ => l.length - (intOf v).toNat)
  case atStart => exact ⟨0, Nat.zero_le _, rfl, by simp [sortedTo, comesOf], R_made w _, (fun h => by simp [Value.ownBlock] at h), (Below.refl _ _).alloc (Nat.le_refl _) _⟩
  case round =>
    obtain ⟨k, hk, rfl, hsl, hO, hNN, hb⟩ := hrel
    have hwl := hb.size
    by_cases hlt : k < l.length
    · obtain ⟨ad, f, A3, c3, rfl, hf, f0, f1, f2, f3, hl3, hr3⟩ := flightAt (Kd.C_below hr hb) k hlt
      have j4 : (k : Int) < l.length := by omega
      have HX := Lib.hid (sorted_step hf sec)
      have QF := Lib.hid (spec_first_any f A3 c3 sec wr hr3 (HFS.out f (List.mem_of_getElem? hf)))
      clear hf hl3 hr3
      obtain ⟨t, ht⟩ : ∃ t, t = firstOf f.f1 sec f.f3 := ⟨_, rfl⟩
      rw [← ht] at HX QF
      clear ht
      by_cases h0 : t < 0
      · have e1 : decide (t < 0) = true := decide_eq_true h0
        have H0 := Lib.hid h0
        go_wp2_with (first | (go_at_call 163; refine QF.out.mono ?_; rintro e w1 ⟨rfl, hb1⟩) | go_in)
        go_roundw
        case rel => exact ⟨k + 1, by omega, by go_num, by rw [HX.out, if_neg (by omega)]; omega, by rw [HX.out, if_neg (by omega)]; exact Kd.R_below hO.out hb1, hNN, below_next hb hb.size hb1⟩
        case measure => simp [intOf]; omega
      · have e1 : decide (t < 0) = false := decide_eq_false h0
        go_wp2_with (first | (go_at_call 163; refine QF.out.mono ?_; rintro e w1 ⟨rfl, hb1⟩; obtain ⟨X, cX, rfl, hcX, hX⟩ := Kd.R_reads (Kd.R_below hO.out hb1); obtain ⟨ad1, rfl⟩ := own_some hNN.out) | go_in)
        have hO1 := Lib.hid (Kd.R_below hO.out hb1)
        have HX2 : Hid (sortedTo sec l (k + 1) = insI t (sortedTo sec l k)) := by show _ = _; rw [HX.out, if_pos (by omega)]
        have hb := below_next hb hb.size hb1
        clear HX hO hb1 f0 f1 f2 f3
        obtain ⟨xs, hxs⟩ : ∃ xs, xs = sortedTo sec l k := ⟨_, rfl⟩
        rw [← hxs] at hX HX2 hO1 hsl hcX ⊢
        clear hxs
        go_loopw [8] (fun u wi => ∃ j : Nat, u = .int .i64 j ∧ j ≤ cntI t xs ∧ wi = w1) (fun u _ => xs.length - (intOf u).toNat)
        case atStart => exact ⟨0, rfl, Nat.zero_le _, rfl⟩
        case round =>
          obtain ⟨j, rfl, hj, rfl⟩ := hrel
          have hcl := cntI_le t xs
          by_cases hjx : j < xs.length
          · obtain ⟨ad1', x, ead, hx, x0⟩ := intAt hX j hjx
            obtain rfl : ad1 = ad1' := by injection ead
            clear ead
            have e0 : decide ((j : Int) < xs.length) = true := decide_eq_true (by omega)
            have hcw := cnt_while hj hjx
            rw [List.getElem?_eq_getElem hjx] at hx
            rw [Option.some.inj hx] at hcw
            by_cases hxt : x ≤ t
            · have e2 : decide (x ≤ t) = true := decide_eq_true hxt
              have hj2 := hcw.1 hxt
              clear hcw hx
              go_wp2
              go_roundw
              case rel => exact ⟨j + 1, by go_num, by omega, by first | rfl | trivial⟩
              case measure => simp [intOf]; omega
            · have e2 : decide (x ≤ t) = false := decide_eq_false hxt
              have hj2 : j = cntI t xs := by rcases Nat.lt_or_ge j (cntI t xs) with h | h
                                             · exact absurd (hcw.2 h) hxt
                                             · omega
              have HJ := Lib.hid hj2
              clear hcw hx hj2 hcl
              go_wp2
              refine wp_region_any (by kernel_rfl) ?_
              change wpAny _ _ _ _ _ _ _ (World.drew _)
              have hjn : j ≤ xs.length := by omega
              have hjc_ : j ≤ cX := Nat.le_trans hjn hcX
              (refine wpAny_take (i := 1) (v := ?_) rfl (by kernel_rfl) (by kernel_rfl) (by kernel_rfl) (fun _ _ _ h => h) (Or.inl ⟨by rfl, ?_⟩) ?_; rotate_left; (intro w; go_simp; try (with_reducible rfl)); rotate_left)
              (refine wpAny_take (i := 2) (v := ?_) rfl (by kernel_rfl) (by kernel_rfl) (by kernel_rfl) (fun _ _ _ h => h) (Or.inl ⟨by rfl, ?_⟩) ?_; rotate_left; (intro w; go_simp; try (with_reducible rfl)); rotate_left)
              (refine wpAny_take (i := 3) (v := ?_) rfl (by kernel_rfl) (by kernel_rfl) (by kernel_rfl) (fun _ _ _ h => h) (Or.inl ⟨by rfl, ?_⟩) ?_; rotate_left; (intro w; go_simp; try (with_reducible rfl)); rotate_left)
              (refine wpAny_take (i := 5) (v := ?_) rfl (by kernel_rfl) (by kernel_rfl) (by kernel_rfl) (fun _ _ _ h => h) (Or.inl ⟨by rfl, ?_⟩) ?_; rotate_left; (intro w; go_simp; try (with_reducible rfl)); rotate_left)
              (refine wpAny_take (i := 8) (v := ?_) rfl (by kernel_rfl) (by kernel_rfl) (by kernel_rfl) (fun _ _ _ h => h) (Or.inl ⟨by rfl, ?_⟩) ?_; rotate_left; (intro w; go_simp; try (with_reducible rfl)); rotate_left)
              (refine wpAny_take (i := 9) (v := ?_) rfl (by kernel_rfl) (by kernel_rfl) (by kernel_rfl) (fun _ _ _ h => h) (Or.inl ⟨by rfl, ?_⟩) ?_; rotate_left; (intro w; go_simp; try (with_reducible rfl)); rotate_left)
              (refine wpAny_take (i := 10) (v := ?_) rfl (by kernel_rfl) (by kernel_rfl) (by kernel_rfl) (fun _ _ _ h => h) (Or.inl ⟨by rfl, ?_⟩) ?_; rotate_left; (intro w; go_simp; try (with_reducible rfl)); rotate_left)
              obtain ⟨V0, hV0⟩ : ∃ V, V = World.drew wr := ⟨_, rfl⟩
              rw [← hV0]
              have hb0 : Below wr.heap.size wr V0 := by rw [hV0]; exact (Below.refl _ _).drew
              clear hV0
              refine wpAny_ready (rs := [0, 6]) (by kernel_rfl) (by simp) ?_
              refine (AllReady.cons rfl (fun K hK => ?_) (AllReady.cons rfl (fun K hK => ?_) AllReady.nil))
              · go_simp
                refine hK _ _ ?_
                clear hK K
                have h38 : Kd.R (Kd.int .i64) 3 (V0.alloc (.cells #[] 3)) wr.heap.size (fun _ => True) (.slice (some ⟨V0.heap.size, 0, none⟩) 0 0) [] := Kd.R_of_own (World.ownsRow_made V0 #[] 0 hb0.size (Nat.zero_le _) rfl) (fun _ _ => trivial)
                have hb1 := hb0.alloc hb0.size (.cells #[] 3)
                have hs1 : Hid ((V0.alloc (.cells #[] 3)).heap.size = V0.heap.size + 1) := by show _ = _; simp
                obtain ⟨V1, hV1⟩ : ∃ V, V = V0.alloc (.cells #[] 3) := ⟨_, rfl⟩
                rw [← hV1] at hb1 hs1 h38 ⊢
                clear hV1
                refine wpAny_ready (rs := [4, 6]) (by kernel_rfl) (by simp) ?_
                refine (AllReady.cons rfl (fun K hK => ?_) (AllReady.cons rfl (fun K hK => ?_) AllReady.nil))
                · refine ints_append_step (w0 := wr) wr.heap.size rfl (.tmp 38) (.tmp 41) 24 3 rfl Try.underlying24 infoInt (.slice (some ⟨V0.heap.size, 0, none⟩) 0 0) [] (xs.take j) (some ad1) j cX rfl rfl h38 (C_takeN (Kd.C_below hX hb1) hjn) hb1 hb1.size (by simp <;> omega) (by simp [Value.ownBlock]) ?_
                  intro v42 V2 h42 hb2 hg2 hn42
                  refine hK _ _ ?_
                  clear hK K
                  simp only [List.nil_append] at h42
                  refine wpAny_ready (rs := [6]) (by kernel_rfl) (by simp) ?_
                  refine (AllReady.cons rfl (fun K hK => ?_) AllReady.nil)
                  · go_simp
                    refine hK _ _ ?_
                    clear hK K
                    have c44 : (V2.alloc (.cells #[.int .i64 t] 3)).cell? ⟨V2.heap.size, 0, none⟩ = some (.int .i64 t) := by simp
                    have h42 := Kd.R_alloc h42 (.cells #[.int .i64 t] 3)
                    have hb3 := hb2.alloc hb2.size (.cells #[.int .i64 t] 3)
                    have hs3 : Hid ((V2.alloc (.cells #[.int .i64 t] 3)).heap.size = V2.heap.size + 1) := by show _ = _; simp
                    obtain ⟨V3, hV3⟩ : ∃ V, V = V2.alloc (.cells #[.int .i64 t] 3) := ⟨_, rfl⟩
                    rw [← hV3] at hb3 hs3 h42 c44 ⊢
                    clear hV3
                    refine wpAny_ready (rs := [7]) (by kernel_rfl) (by simp) ?_
                    refine (AllReady.cons rfl (fun K hK => ?_) AllReady.nil)
                    · refine ints_append_step (w0 := wr) wr.heap.size rfl (.tmp 42) (.tmp 44) 24 3 rfl Try.underlying24 infoInt v42 (xs.take j) [t] _ 1 1 rfl rfl h42 (C_one c44) hb3 hb3.size (by simp <;> omega) hn42 ?_
                      intro v45 V4 h45 hb4 hg4 hn45
                      refine hK _ _ ?_
                      clear hK K
                      refine wpAny_ready (rs := [11]) (by kernel_rfl) (by simp) ?_
                      refine (AllReady.cons rfl (fun K hK => ?_) AllReady.nil)
                      · refine ints_append_step (w0 := wr) wr.heap.size rfl (.tmp 45) (.tmp 48) 24 3 rfl Try.underlying24 infoInt v45 (xs.take j ++ [t]) (xs.drop j) _ _ _ rfl rfl h45 (C_dropN (Kd.C_below hX hb4) hjn hcX) hb4 hb4.size (by simp <;> omega) hn45 ?_
                        intro vZ V5 hZ hb5 hg5 hnZ
                        refine hK _ _ ?_
                        clear hK K
                        refine wpAny_ready (rs := [12]) (by kernel_rfl) (by simp) ?_
                        refine (AllReady.cons rfl (fun K hK => ?_) AllReady.nil)
                        · go_simp
                          refine hK _ _ ?_
                          clear hK K
                          refine wpAny_done (by kernel_rfl) ?_ _
                          have hbZ := hb5
                          try simp only [Act.put, List.setIfInBounds_toArray, List.set_cons_succ, List.set_cons_zero]
                          go_wp2
                          go_roundw
                          case rel =>
                            rw [HJ.out] at hZ
                            rw [← insI_eq, ← HX2.out] at hZ
                            exact ⟨k + 1, by omega, by go_num, by rw [HX2.out, insI_length]; omega, Kd.R_lower hZ hb.size, hnZ, below_next hb hb.size hbZ⟩
                          case measure => simp [intOf]; omega
                · go_simp
                  refine hK _ _ ?_
                  clear hK K
                  have c44 : (V1.alloc (.cells #[.int .i64 t] 3)).cell? ⟨V1.heap.size, 0, none⟩ = some (.int .i64 t) := by simp
                  have h38 := Kd.R_alloc h38 (.cells #[.int .i64 t] 3)
                  have hb7 := hb1.alloc hb1.size (.cells #[.int .i64 t] 3)
                  have hs7 : Hid ((V1.alloc (.cells #[.int .i64 t] 3)).heap.size = V1.heap.size + 1) := by show _ = _; simp
                  obtain ⟨V7, hV7⟩ : ∃ V, V = V1.alloc (.cells #[.int .i64 t] 3) := ⟨_, rfl⟩
                  rw [← hV7] at hb7 hs7 h38 c44 ⊢
                  clear hV7
                  refine wpAny_ready (rs := [4]) (by kernel_rfl) (by simp) ?_
                  refine (AllReady.cons rfl (fun K hK => ?_) AllReady.nil)
                  · refine ints_append_step (w0 := wr) wr.heap.size rfl (.tmp 38) (.tmp 41) 24 3 rfl Try.underlying24 infoInt (.slice (some ⟨V0.heap.size, 0, none⟩) 0 0) [] (xs.take j) (some ad1) j cX rfl rfl h38 (C_takeN (Kd.C_below hX hb7) hjn) hb7 hb7.size (by simp <;> omega) (by simp [Value.ownBlock]) ?_
                    intro v42 V8 h42 hb8 hg8 hn42
                    refine hK _ _ ?_
                    clear hK K
                    simp only [List.nil_append] at h42
                    have c44 := hg8.cell c44 (by have ehs1 := hs1.out; have ehs7 := hs7.out; simp [Value.ownBlock]; omega)
                    refine wpAny_ready (rs := [7]) (by kernel_rfl) (by simp) ?_
                    refine (AllReady.cons rfl (fun K hK => ?_) AllReady.nil)
                    · refine ints_append_step (w0 := wr) wr.heap.size rfl (.tmp 42) (.tmp 44) 24 3 rfl Try.underlying24 infoInt v42 (xs.take j) [t] _ 1 1 rfl rfl h42 (C_one c44) hb8 hb8.size (by simp <;> omega) hn42 ?_
                      intro v45 V9 h45 hb9 hg9 hn45
                      refine hK _ _ ?_
                      clear hK K
                      refine wpAny_ready (rs := [11]) (by kernel_rfl) (by simp) ?_
                      refine (AllReady.cons rfl (fun K hK => ?_) AllReady.nil)
                      · refine ints_append_step (w0 := wr) wr.heap.size rfl (.tmp 45) (.tmp 48) 24 3 rfl Try.underlying24 infoInt v45 (xs.take j ++ [t]) (xs.drop j) _ _ _ rfl rfl h45 (C_dropN (Kd.C_below hX hb9) hjn hcX) hb9 hb9.size (by simp <;> omega) hn45 ?_
                        intro vZ V10 hZ hb10 hg10 hnZ
                        refine hK _ _ ?_
                        clear hK K
                        refine wpAny_ready (rs := [12]) (by kernel_rfl) (by simp) ?_
                        refine (AllReady.cons rfl (fun K hK => ?_) AllReady.nil)
                        · go_simp
                          refine hK _ _ ?_
                          clear hK K
                          refine wpAny_done (by kernel_rfl) ?_ _
                          have hbZ := hb10
                          try simp only [Act.put, List.setIfInBounds_toArray, List.set_cons_succ, List.set_cons_zero]
                          go_wp2
                          go_roundw
                          case rel =>
                            rw [HJ.out] at hZ
                            rw [← insI_eq, ← HX2.out] at hZ
                            exact ⟨k + 1, by omega, by go_num, by rw [HX2.out, insI_length]; omega, Kd.R_lower hZ hb.size, hnZ, below_next hb hb.size hbZ⟩
                          case measure => simp [intOf]; omega
              · go_simp
                refine hK _ _ ?_
                clear hK K
                have c44 : (V0.alloc (.cells #[.int .i64 t] 3)).cell? ⟨V0.heap.size, 0, none⟩ = some (.int .i64 t) := by simp
                have hb12 := hb0.alloc hb0.size (.cells #[.int .i64 t] 3)
                have hs12 : Hid ((V0.alloc (.cells #[.int .i64 t] 3)).heap.size = V0.heap.size + 1) := by show _ = _; simp
                obtain ⟨V12, hV12⟩ : ∃ V, V = V0.alloc (.cells #[.int .i64 t] 3) := ⟨_, rfl⟩
                rw [← hV12] at hb12 hs12 c44 ⊢
                clear hV12
                refine wpAny_ready (rs := [0]) (by kernel_rfl) (by simp) ?_
                refine (AllReady.cons rfl (fun K hK => ?_) AllReady.nil)
                · go_simp
                  refine hK _ _ ?_
                  clear hK K
                  have h38 : Kd.R (Kd.int .i64) 3 (V12.alloc (.cells #[] 3)) wr.heap.size (fun _ => True) (.slice (some ⟨V12.heap.size, 0, none⟩) 0 0) [] := Kd.R_of_own (World.ownsRow_made V12 #[] 0 hb12.size (Nat.zero_le _) rfl) (fun _ _ => trivial)
                  have c44 := cell_al c44 (.cells #[] 3)
                  have hb13 := hb12.alloc hb12.size (.cells #[] 3)
                  have hs13 : Hid ((V12.alloc (.cells #[] 3)).heap.size = V12.heap.size + 1) := by show _ = _; simp
                  obtain ⟨V13, hV13⟩ : ∃ V, V = V12.alloc (.cells #[] 3) := ⟨_, rfl⟩
                  rw [← hV13] at hb13 hs13 c44 h38 ⊢
                  clear hV13
                  refine wpAny_ready (rs := [4]) (by kernel_rfl) (by simp) ?_
                  refine (AllReady.cons rfl (fun K hK => ?_) AllReady.nil)
                  · refine ints_append_step (w0 := wr) wr.heap.size rfl (.tmp 38) (.tmp 41) 24 3 rfl Try.underlying24 infoInt (.slice (some ⟨V12.heap.size, 0, none⟩) 0 0) [] (xs.take j) (some ad1) j cX rfl rfl h38 (C_takeN (Kd.C_below hX hb13) hjn) hb13 hb13.size (by simp <;> omega) (by simp [Value.ownBlock]) ?_
                    intro v42 V14 h42 hb14 hg14 hn42
                    refine hK _ _ ?_
                    clear hK K
                    simp only [List.nil_append] at h42
                    have c44 := hg14.cell c44 (by have ehs12 := hs12.out; have ehs13 := hs13.out; simp [Value.ownBlock]; omega)
                    refine wpAny_ready (rs := [7]) (by kernel_rfl) (by simp) ?_
                    refine (AllReady.cons rfl (fun K hK => ?_) AllReady.nil)
                    · refine ints_append_step (w0 := wr) wr.heap.size rfl (.tmp 42) (.tmp 44) 24 3 rfl Try.underlying24 infoInt v42 (xs.take j) [t] _ 1 1 rfl rfl h42 (C_one c44) hb14 hb14.size (by simp <;> omega) hn42 ?_
                      intro v45 V15 h45 hb15 hg15 hn45
                      refine hK _ _ ?_
                      clear hK K
                      refine wpAny_ready (rs := [11]) (by kernel_rfl) (by simp) ?_
                      refine (AllReady.cons rfl (fun K hK => ?_) AllReady.nil)
                      · refine ints_append_step (w0 := wr) wr.heap.size rfl (.tmp 45) (.tmp 48) 24 3 rfl Try.underlying24 infoInt v45 (xs.take j ++ [t]) (xs.drop j) _ _ _ rfl rfl h45 (C_dropN (Kd.C_below hX hb15) hjn hcX) hb15 hb15.size (by simp <;> omega) hn45 ?_
                        intro vZ V16 hZ hb16 hg16 hnZ
                        refine hK _ _ ?_
                        clear hK K
                        refine wpAny_ready (rs := [12]) (by kernel_rfl) (by simp) ?_
                        refine (AllReady.cons rfl (fun K hK => ?_) AllReady.nil)
                        · go_simp
                          refine hK _ _ ?_
                          clear hK K
                          refine wpAny_done (by kernel_rfl) ?_ _
                          have hbZ := hb16
                          try simp only [Act.put, List.setIfInBounds_toArray, List.set_cons_succ, List.set_cons_zero]
                          go_wp2
                          go_roundw
                          case rel =>
                            rw [HJ.out] at hZ
                            rw [← insI_eq, ← HX2.out] at hZ
                            exact ⟨k + 1, by omega, by go_num, by rw [HX2.out, insI_length]; omega, Kd.R_lower hZ hb.size, hnZ, below_next hb hb.size hbZ⟩
                          case measure => simp [intOf]; omega
          · have e0 : decide ((j : Int) < xs.length) = false := decide_eq_false (by omega)
            have HJ : Hid (j = cntI t xs) := by show _ = _; omega
            have hjn : j ≤ xs.length := by omega
            clear hcl
            go_wp2
            refine wp_region_any (by kernel_rfl) ?_
            change wpAny _ _ _ _ _ _ _ (World.drew _)
            have hjc_ : j ≤ cX := Nat.le_trans hjn hcX
            (refine wpAny_take (i := 1) (v := ?_) rfl (by kernel_rfl) (by kernel_rfl) (by kernel_rfl) (fun _ _ _ h => h) (Or.inl ⟨by rfl, ?_⟩) ?_; rotate_left; (intro w; go_simp; try (with_reducible rfl)); rotate_left)
            (refine wpAny_take (i := 2) (v := ?_) rfl (by kernel_rfl) (by kernel_rfl) (by kernel_rfl) (fun _ _ _ h => h) (Or.inl ⟨by rfl, ?_⟩) ?_; rotate_left; (intro w; go_simp; try (with_reducible rfl)); rotate_left)
            (refine wpAny_take (i := 3) (v := ?_) rfl (by kernel_rfl) (by kernel_rfl) (by kernel_rfl) (fun _ _ _ h => h) (Or.inl ⟨by rfl, ?_⟩) ?_; rotate_left; (intro w; go_simp; try (with_reducible rfl)); rotate_left)
            (refine wpAny_take (i := 5) (v := ?_) rfl (by kernel_rfl) (by kernel_rfl) (by kernel_rfl) (fun _ _ _ h => h) (Or.inl ⟨by rfl, ?_⟩) ?_; rotate_left; (intro w; go_simp; try (with_reducible rfl)); rotate_left)
            (refine wpAny_take (i := 8) (v := ?_) rfl (by kernel_rfl) (by kernel_rfl) (by kernel_rfl) (fun _ _ _ h => h) (Or.inl ⟨by rfl, ?_⟩) ?_; rotate_left; (intro w; go_simp; try (with_reducible rfl)); rotate_left)
            (refine wpAny_take (i := 9) (v := ?_) rfl (by kernel_rfl) (by kernel_rfl) (by kernel_rfl) (fun _ _ _ h => h) (Or.inl ⟨by rfl, ?_⟩) ?_; rotate_left; (intro w; go_simp; try (with_reducible rfl)); rotate_left)
            (refine wpAny_take (i := 10) (v := ?_) rfl (by kernel_rfl) (by kernel_rfl) (by kernel_rfl) (fun _ _ _ h => h) (Or.inl ⟨by rfl, ?_⟩) ?_; rotate_left; (intro w; go_simp; try (with_reducible rfl)); rotate_left)
            obtain ⟨V0, hV0⟩ : ∃ V, V = World.drew wr := ⟨_, rfl⟩
            rw [← hV0]
            have hb0 : Below wr.heap.size wr V0 := by rw [hV0]; exact (Below.refl _ _).drew
            clear hV0
            refine wpAny_ready (rs := [0, 6]) (by kernel_rfl) (by simp) ?_
            refine (AllReady.cons rfl (fun K hK => ?_) (AllReady.cons rfl (fun K hK => ?_) AllReady.nil))
            · go_simp
              refine hK _ _ ?_
              clear hK K
              have h38 : Kd.R (Kd.int .i64) 3 (V0.alloc (.cells #[] 3)) wr.heap.size (fun _ => True) (.slice (some ⟨V0.heap.size, 0, none⟩) 0 0) [] := Kd.R_of_own (World.ownsRow_made V0 #[] 0 hb0.size (Nat.zero_le _) rfl) (fun _ _ => trivial)
              have hb1 := hb0.alloc hb0.size (.cells #[] 3)
              have hs1 : Hid ((V0.alloc (.cells #[] 3)).heap.size = V0.heap.size + 1) := by show _ = _; simp
              obtain ⟨V1, hV1⟩ : ∃ V, V = V0.alloc (.cells #[] 3) := ⟨_, rfl⟩
              rw [← hV1] at hb1 hs1 h38 ⊢
              clear hV1
              refine wpAny_ready (rs := [4, 6]) (by kernel_rfl) (by simp) ?_
              refine (AllReady.cons rfl (fun K hK => ?_) (AllReady.cons rfl (fun K hK => ?_) AllReady.nil))
              · refine ints_append_step (w0 := wr) wr.heap.size rfl (.tmp 38) (.tmp 41) 24 3 rfl Try.underlying24 infoInt (.slice (some ⟨V0.heap.size, 0, none⟩) 0 0) [] (xs.take j) (some ad1) j cX rfl rfl h38 (C_takeN (Kd.C_below hX hb1) hjn) hb1 hb1.size (by simp <;> omega) (by simp [Value.ownBlock]) ?_
                intro v42 V2 h42 hb2 hg2 hn42
                refine hK _ _ ?_
                clear hK K
                simp only [List.nil_append] at h42
                refine wpAny_ready (rs := [6]) (by kernel_rfl) (by simp) ?_
                refine (AllReady.cons rfl (fun K hK => ?_) AllReady.nil)
                · go_simp
                  refine hK _ _ ?_
                  clear hK K
                  have c44 : (V2.alloc (.cells #[.int .i64 t] 3)).cell? ⟨V2.heap.size, 0, none⟩ = some (.int .i64 t) := by simp
                  have h42 := Kd.R_alloc h42 (.cells #[.int .i64 t] 3)
                  have hb3 := hb2.alloc hb2.size (.cells #[.int .i64 t] 3)
                  have hs3 : Hid ((V2.alloc (.cells #[.int .i64 t] 3)).heap.size = V2.heap.size + 1) := by show _ = _; simp
                  obtain ⟨V3, hV3⟩ : ∃ V, V = V2.alloc (.cells #[.int .i64 t] 3) := ⟨_, rfl⟩
                  rw [← hV3] at hb3 hs3 h42 c44 ⊢
                  clear hV3
                  refine wpAny_ready (rs := [7]) (by kernel_rfl) (by simp) ?_
                  refine (AllReady.cons rfl (fun K hK => ?_) AllReady.nil)
                  · refine ints_append_step (w0 := wr) wr.heap.size rfl (.tmp 42) (.tmp 44) 24 3 rfl Try.underlying24 infoInt v42 (xs.take j) [t] _ 1 1 rfl rfl h42 (C_one c44) hb3 hb3.size (by simp <;> omega) hn42 ?_
                    intro v45 V4 h45 hb4 hg4 hn45
                    refine hK _ _ ?_
                    clear hK K
                    refine wpAny_ready (rs := [11]) (by kernel_rfl) (by simp) ?_
                    refine (AllReady.cons rfl (fun K hK => ?_) AllReady.nil)
                    · refine ints_append_step (w0 := wr) wr.heap.size rfl (.tmp 45) (.tmp 48) 24 3 rfl Try.underlying24 infoInt v45 (xs.take j ++ [t]) (xs.drop j) _ _ _ rfl rfl h45 (C_dropN (Kd.C_below hX hb4) hjn hcX) hb4 hb4.size (by simp <;> omega) hn45 ?_
                      intro vZ V5 hZ hb5 hg5 hnZ
                      refine hK _ _ ?_
                      clear hK K
                      refine wpAny_ready (rs := [12]) (by kernel_rfl) (by simp) ?_
                      refine (AllReady.cons rfl (fun K hK => ?_) AllReady.nil)
                      · go_simp
                        refine hK _ _ ?_
                        clear hK K
                        refine wpAny_done (by kernel_rfl) ?_ _
                        have hbZ := hb5
                        try simp only [Act.put, List.setIfInBounds_toArray, List.set_cons_succ, List.set_cons_zero]
                        go_wp2
                        go_roundw
                        case rel =>
                          rw [HJ.out] at hZ
                          rw [← insI_eq, ← HX2.out] at hZ
                          exact ⟨k + 1, by omega, by go_num, by rw [HX2.out, insI_length]; omega, Kd.R_lower hZ hb.size, hnZ, below_next hb hb.size hbZ⟩
                        case measure => simp [intOf]; omega
              · go_simp
                refine hK _ _ ?_
                clear hK K
                have c44 : (V1.alloc (.cells #[.int .i64 t] 3)).cell? ⟨V1.heap.size, 0, none⟩ = some (.int .i64 t) := by simp
                have h38 := Kd.R_alloc h38 (.cells #[.int .i64 t] 3)
                have hb7 := hb1.alloc hb1.size (.cells #[.int .i64 t] 3)
                have hs7 : Hid ((V1.alloc (.cells #[.int .i64 t] 3)).heap.size = V1.heap.size + 1) := by show _ = _; simp
                obtain ⟨V7, hV7⟩ : ∃ V, V = V1.alloc (.cells #[.int .i64 t] 3) := ⟨_, rfl⟩
                rw [← hV7] at hb7 hs7 h38 c44 ⊢
                clear hV7
                refine wpAny_ready (rs := [4]) (by kernel_rfl) (by simp) ?_
                refine (AllReady.cons rfl (fun K hK => ?_) AllReady.nil)
                · refine ints_append_step (w0 := wr) wr.heap.size rfl (.tmp 38) (.tmp 41) 24 3 rfl Try.underlying24 infoInt (.slice (some ⟨V0.heap.size, 0, none⟩) 0 0) [] (xs.take j) (some ad1) j cX rfl rfl h38 (C_takeN (Kd.C_below hX hb7) hjn) hb7 hb7.size (by simp <;> omega) (by simp [Value.ownBlock]) ?_
                  intro v42 V8 h42 hb8 hg8 hn42
                  refine hK _ _ ?_
                  clear hK K
                  simp only [List.nil_append] at h42
                  have c44 := hg8.cell c44 (by have ehs1 := hs1.out; have ehs7 := hs7.out; simp [Value.ownBlock]; omega)
                  refine wpAny_ready (rs := [7]) (by kernel_rfl) (by simp) ?_
                  refine (AllReady.cons rfl (fun K hK => ?_) AllReady.nil)
                  · refine ints_append_step (w0 := wr) wr.heap.size rfl (.tmp 42) (.tmp 44) 24 3 rfl Try.underlying24 infoInt v42 (xs.take j) [t] _ 1 1 rfl rfl h42 (C_one c44) hb8 hb8.size (by simp <;> omega) hn42 ?_
                    intro v45 V9 h45 hb9 hg9 hn45
                    refine hK _ _ ?_
                    clear hK K
                    refine wpAny_ready (rs := [11]) (by kernel_rfl) (by simp) ?_
                    refine (AllReady.cons rfl (fun K hK => ?_) AllReady.nil)
                    · refine ints_append_step (w0 := wr) wr.heap.size rfl (.tmp 45) (.tmp 48) 24 3 rfl Try.underlying24 infoInt v45 (xs.take j ++ [t]) (xs.drop j) _ _ _ rfl rfl h45 (C_dropN (Kd.C_below hX hb9) hjn hcX) hb9 hb9.size (by simp <;> omega) hn45 ?_
                      intro vZ V10 hZ hb10 hg10 hnZ
                      refine hK _ _ ?_
                      clear hK K
                      refine wpAny_ready (rs := [12]) (by kernel_rfl) (by simp) ?_
                      refine (AllReady.cons rfl (fun K hK => ?_) AllReady.nil)
                      · go_simp
                        refine hK _ _ ?_
                        clear hK K
                        refine wpAny_done (by kernel_rfl) ?_ _
                        have hbZ := hb10
                        try simp only [Act.put, List.setIfInBounds_toArray, List.set_cons_succ, List.set_cons_zero]
                        go_wp2
                        go_roundw
                        case rel =>
                          rw [HJ.out] at hZ
                          rw [← insI_eq, ← HX2.out] at hZ
                          exact ⟨k + 1, by omega, by go_num, by rw [HX2.out, insI_length]; omega, Kd.R_lower hZ hb.size, hnZ, below_next hb hb.size hbZ⟩
                        case measure => simp [intOf]; omega
            · go_simp
              refine hK _ _ ?_
              clear hK K
              have c44 : (V0.alloc (.cells #[.int .i64 t] 3)).cell? ⟨V0.heap.size, 0, none⟩ = some (.int .i64 t) := by simp
              have hb12 := hb0.alloc hb0.size (.cells #[.int .i64 t] 3)
              have hs12 : Hid ((V0.alloc (.cells #[.int .i64 t] 3)).heap.size = V0.heap.size + 1) := by show _ = _; simp
              obtain ⟨V12, hV12⟩ : ∃ V, V = V0.alloc (.cells #[.int .i64 t] 3) := ⟨_, rfl⟩
              rw [← hV12] at hb12 hs12 c44 ⊢
              clear hV12
              refine wpAny_ready (rs := [0]) (by kernel_rfl) (by simp) ?_
              refine (AllReady.cons rfl (fun K hK => ?_) AllReady.nil)
              · go_simp
                refine hK _ _ ?_
                clear hK K
                have h38 : Kd.R (Kd.int .i64) 3 (V12.alloc (.cells #[] 3)) wr.heap.size (fun _ => True) (.slice (some ⟨V12.heap.size, 0, none⟩) 0 0) [] := Kd.R_of_own (World.ownsRow_made V12 #[] 0 hb12.size (Nat.zero_le _) rfl) (fun _ _ => trivial)
                have c44 := cell_al c44 (.cells #[] 3)
                have hb13 := hb12.alloc hb12.size (.cells #[] 3)
                have hs13 : Hid ((V12.alloc (.cells #[] 3)).heap.size = V12.heap.size + 1) := by show _ = _; simp
                obtain ⟨V13, hV13⟩ : ∃ V, V = V12.alloc (.cells #[] 3) := ⟨_, rfl⟩
                rw [← hV13] at hb13 hs13 c44 h38 ⊢
                clear hV13
                refine wpAny_ready (rs := [4]) (by kernel_rfl) (by simp) ?_
                refine (AllReady.cons rfl (fun K hK => ?_) AllReady.nil)
                · refine ints_append_step (w0 := wr) wr.heap.size rfl (.tmp 38) (.tmp 41) 24 3 rfl Try.underlying24 infoInt (.slice (some ⟨V12.heap.size, 0, none⟩) 0 0) [] (xs.take j) (some ad1) j cX rfl rfl h38 (C_takeN (Kd.C_below hX hb13) hjn) hb13 hb13.size (by simp <;> omega) (by simp [Value.ownBlock]) ?_
                  intro v42 V14 h42 hb14 hg14 hn42
                  refine hK _ _ ?_
                  clear hK K
                  simp only [List.nil_append] at h42
                  have c44 := hg14.cell c44 (by have ehs12 := hs12.out; have ehs13 := hs13.out; simp [Value.ownBlock]; omega)
                  refine wpAny_ready (rs := [7]) (by kernel_rfl) (by simp) ?_
                  refine (AllReady.cons rfl (fun K hK => ?_) AllReady.nil)
                  · refine ints_append_step (w0 := wr) wr.heap.size rfl (.tmp 42) (.tmp 44) 24 3 rfl Try.underlying24 infoInt v42 (xs.take j) [t] _ 1 1 rfl rfl h42 (C_one c44) hb14 hb14.size (by simp <;> omega) hn42 ?_
                    intro v45 V15 h45 hb15 hg15 hn45
                    refine hK _ _ ?_
                    clear hK K
                    refine wpAny_ready (rs := [11]) (by kernel_rfl) (by simp) ?_
                    refine (AllReady.cons rfl (fun K hK => ?_) AllReady.nil)
                    · refine ints_append_step (w0 := wr) wr.heap.size rfl (.tmp 45) (.tmp 48) 24 3 rfl Try.underlying24 infoInt v45 (xs.take j ++ [t]) (xs.drop j) _ _ _ rfl rfl h45 (C_dropN (Kd.C_below hX hb15) hjn hcX) hb15 hb15.size (by simp <;> omega) hn45 ?_
                      intro vZ V16 hZ hb16 hg16 hnZ
                      refine hK _ _ ?_
                      clear hK K
                      refine wpAny_ready (rs := [12]) (by kernel_rfl) (by simp) ?_
                      refine (AllReady.cons rfl (fun K hK => ?_) AllReady.nil)
                      · go_simp
                        refine hK _ _ ?_
                        clear hK K
                        refine wpAny_done (by kernel_rfl) ?_ _
                        have hbZ := hb16
                        try simp only [Act.put, List.setIfInBounds_toArray, List.set_cons_succ, List.set_cons_zero]
                        go_wp2
                        go_roundw
                        case rel =>
                          rw [HJ.out] at hZ
                          rw [← insI_eq, ← HX2.out] at hZ
                          exact ⟨k + 1, by omega, by go_num, by rw [HX2.out, insI_length]; omega, Kd.R_lower hZ hb.size, hnZ, below_next hb hb.size hbZ⟩
                        case measure => simp [intOf]; omega
            -- END2
    · obtain ⟨X, cX, rfl, hcX, hX⟩ := Kd.R_reads hO.out
      go_wp2
      go_ret
      obtain rfl : k = l.length := by omega
      exact ⟨_, rfl, hO.out, hb⟩
end Go.Proofs.Ytkfoeplefajkcaa.Q
end
