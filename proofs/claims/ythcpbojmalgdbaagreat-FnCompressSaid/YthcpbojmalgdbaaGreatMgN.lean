/- Merged out of this seat's own texts. -/
import Derived.Test.YthcpbojmalgdbaaGreatMgM
import Derived.BigRegion
import Derived.Shelf.Small.Bits
import Derived.Shelf.Strconv.Itoa0
import Derived.Shelf.Sort.Plain
import Derived.Ground.GgsProg
import Derived.Shelf.GgSortFunc.Insertion
import Derived.Shelf.GgSortFunc.Tiny
import Derived.Shelf.GgSortFunc.Compose
import Derived.Ground.GgtProg
import Derived.Shelf.GgSortMore.Stable
import Derived.Shelf.Slices.In.SortNone
import Derived.Shelf.Slices.In.SortNone2
import Derived.Test.YthcpbojmalgdbaaGreatProg
import Derived.Test.YthcpbojmalgdbaaGreatMgC
import Derived.Sort.OwnSortedInts
section
namespace Go.Proofs.YthcpbojmalgdbaaGreat.Q
open Go.RowKit Go.Proofs.YthcpbojmalgdbaaGreatW.PrintWords Go.Proofs.YthcpbojmalgdbaaGreat.Core
set_option linter.unusedVariables false
set_option linter.unusedSimpArgs false
section
variable {P : Program} {ops : Array Oper} {o : Oper} {a : Act} {Q : Exit → Act → World → Prop} {Kc : Act → World → Prop}
theorem ints_append_step {w0 W : World} (base : Nat) (hw : Region.wanted o (yielded ops a.tmps) = true) (s x : Operand) (t e : TypeId)
    (ho : o.op = .call { callee := .builtin .append, args := #[s, x], argTypes := #[t, t] })
    (ht : P.underlying t = some (.slice e)) (hinfo : (P.info? e).map (fun i => (i.zero, i.size, i.bytes)) = some (some (.int .i64 0), 1, 8))
    (v : Value) (xs ys : List Int) (A : Option Addr) (m c : Nat) (hs : a.eval s = v) (hx : a.eval x = .slice A m c)
    (HO : Kd.R (Kd.int .i64) e W base (fun _ => True) v xs) (HR : Kd.C (Kd.int .i64) W A m ys) (HB : Below base w0 W) (hbase : base ≤ W.heap.size) (hl : xs.length + m ≤ 1048576) (hv : v.ownBlock ≠ none)
    (h : ∀ v1 w1, Kd.R (Kd.int .i64) e w1 base (fun _ => True) v1 (xs ++ ys) → Below base w0 w1 → W.grownBy w1 v.ownBlock → v1.ownBlock ≠ none → Kc (a.put o.dst v1) w1) :
    if Region.wanted o (yielded ops a.tmps) = true then Oper.wp P o a W Kc Q else Kc (a.put o.dst undef) W :=
  Kd.R_append_rows_step (Kd.int .i64) (w0 := w0) base hw s x t e (.int .i64 0) 8 ho ht hinfo rfl (by decide) (by decide) v xs ys A m c (fun _ => True) (fun _ => False) hs hx HO HR (fun _ _ h => h) (fun _ h => h.elim) (fun _ _ => trivial) HB hbase (by omega)
    (fun v1 w1 h1 h2 h3 h4 => h v1 w1 h1 h2 h3 (by
      rcases h4 with h4 | ⟨b, h4, _⟩
      · rw [h4]; exact hv
      · rw [h4]; simp))
end
theorem C_one {w : World} {g : Nat} {t : Int} (h : w.cell? ⟨g, 0, none⟩ = some (.int .i64 t)) : Kd.C (Kd.int .i64) w (some ⟨g, 0, none⟩) 1 [t] := by
  refine ⟨rfl, by decide, fun _ => ⟨_, rfl, fun j p hj => ?_⟩⟩
  have hj0 : j = 0 := by have := some_lt hj; simpa using this
  subst hj0
  obtain rfl : t = p := by simpa using hj
  refine ⟨[.int .i64 t], rfl, rfl, fun i u hi => ?_⟩
  have hi0 : i = 0 := by have := some_lt hi; simpa using this
  subst hi0
  obtain rfl : Value.int .i64 t = u := by simpa using hi
  exact h
theorem C_takeN {w : World} {A : Option Addr} {xs : List Int} {j : Nat} (h : Kd.C (Kd.int .i64) w A xs.length xs) (hj : j ≤ xs.length) : Kd.C (Kd.int .i64) w A j (xs.take j) := by
  have := Kd.C_take h hj
  rwa [List.length_take, Nat.min_eq_left hj] at this
theorem C_dropN {w : World} {ad : Addr} {xs : List Int} {j c : Nat} (h : Kd.C (Kd.int .i64) w (some ad) xs.length xs) (hj : j ≤ xs.length) (hc : xs.length ≤ c) : Kd.C (Kd.int .i64) w (if c = j then some ad else some (ad.add j)) (xs.length - j) (xs.drop j) := by
  have := Kd.C_drop h hj hc
  rw [List.length_drop] at this
  have e : (Option.map (fun x => x.add (j * (Kd.int .i64).sz)) (some ad)) = some (ad.add j) := by
    show some (ad.add (j * 1)) = _
    rw [Nat.mul_one]
  rwa [e] at this
theorem own_some {A : Option Addr} {n c : Nat} (h : (Value.slice A n c).ownBlock ≠ none) : ∃ ad, A = some ad := by
  cases A with
  | none => exact absurd rfl h
  | some ad => exact ⟨ad, rfl⟩
end Go.Proofs.YthcpbojmalgdbaaGreat.Q
end
section
namespace Go.Proofs
open Go.Shelf
def Tryz.lays191_ren : Go.Shelf.Ren := ⟨fun | 191 => 51 | 189 => 70 | 125 => 80 | 257 => 79 | 128 => 101 | 129 => 102 | 294 => 92 | 295 => 93 | 296 => 94 | 297 => 95 | 298 => 96 | 299 => 97 | 216 => 98 | 300 => 99 | 301 => 100 | 328 => 104 | 329 => 105 | 330 => 106 | 331 => 107 | 332 => 108 | 215 => 109 | 343 => 111 | n => n, fun | 28 => 25 | 0 => 0 | 3 => 3 | 46 => 102 | 51 => 117 | 53 => 119 | 4 => 4 | 183 => 110 | 182 => 109 | 131 => 114 | 5 => 5 | 9 => 9 | 218 => 120 | 222 => 124 | 228 => 127 | 229 => 128 | n => n, fun | n => n⟩
theorem Tryz.lays191 : Go.Proofs.Lays.n191 Tryz.prog Tryz.lays191_ren := {
  mixed := by kernel_rfl
  f125 := Tryz.func80.trans (congrArg some (by kernel_rfl))
  f128 := Tryz.func101.trans (congrArg some (by kernel_rfl))
  f129 := Tryz.func102.trans (congrArg some (by kernel_rfl))
  f189 := Tryz.func70.trans (congrArg some (by kernel_rfl))
  f191 := Tryz.func51.trans (congrArg some (by kernel_rfl))
  f215 := Tryz.func109.trans (congrArg some (by kernel_rfl))
  f216 := Tryz.func98.trans (congrArg some (by kernel_rfl))
  f257 := Tryz.func79.trans (congrArg some (by kernel_rfl))
  f294 := Tryz.func92.trans (congrArg some (by kernel_rfl))
  f295 := Tryz.func93.trans (congrArg some (by kernel_rfl))
  f296 := Tryz.func94.trans (congrArg some (by kernel_rfl))
  f297 := Tryz.func95.trans (congrArg some (by kernel_rfl))
  f298 := Tryz.func96.trans (congrArg some (by kernel_rfl))
  f299 := Tryz.func97.trans (congrArg some (by kernel_rfl))
  f300 := Tryz.func99.trans (congrArg some (by kernel_rfl))
  f301 := Tryz.func100.trans (congrArg some (by kernel_rfl))
  f328 := Tryz.func104.trans (congrArg some (by kernel_rfl))
  f329 := Tryz.func105.trans (congrArg some (by kernel_rfl))
  f330 := Tryz.func106.trans (congrArg some (by kernel_rfl))
  f331 := Tryz.func107.trans (congrArg some (by kernel_rfl))
  f332 := Tryz.func108.trans (congrArg some (by kernel_rfl))
  f343 := Tryz.func111.trans (congrArg some (by kernel_rfl))
  t0 := Tryz.underlying0
  a0 := Tryz.isAgg0
  z0 := Tryz.sizeOf0
  v0 := Tryz.zeroValue0
  t3 := Tryz.underlying3
  a3 := Tryz.isAgg3
  z3 := Tryz.sizeOf3
  v3 := Tryz.zeroValue3
  t4 := Tryz.underlying4
  a4 := Tryz.isAgg4
  z4 := Tryz.sizeOf4
  v4 := Tryz.zeroValue4
  t5 := Tryz.underlying5
  a5 := Tryz.isAgg5
  z5 := Tryz.sizeOf5
  v5 := Tryz.zeroValue5
  t9 := Tryz.underlying9
  a9 := Tryz.isAgg9
  z9 := Tryz.sizeOf9
  v9 := Tryz.zeroValue9
  t28 := Tryz.underlying25
  a28 := Tryz.isAgg25
  z28 := Tryz.sizeOf25
  v28 := Tryz.zeroValue25
  t46 := Tryz.underlying102
  a46 := Tryz.isAgg102
  z46 := Tryz.sizeOf102
  v46 := Tryz.zeroValue102
  t51 := Tryz.underlying117
  a51 := Tryz.isAgg117
  z51 := Tryz.sizeOf117
  v51 := Tryz.zeroValue117
  t53 := Tryz.underlying119
  a53 := Tryz.isAgg119
  z53 := Tryz.sizeOf119
  v53 := Tryz.zeroValue119
  t131 := Tryz.underlying114
  a131 := Tryz.isAgg114
  z131 := Tryz.sizeOf114
  v131 := Tryz.zeroValue114
  t182 := Tryz.underlying109
  a182 := Tryz.isAgg109
  z182 := Tryz.sizeOf109
  v182 := Tryz.zeroValue109
  t183 := Tryz.underlying110
  a183 := Tryz.isAgg110
  z183 := Tryz.sizeOf110
  v183 := Tryz.zeroValue110
  t218 := Tryz.underlying120
  a218 := Tryz.isAgg120
  z218 := Tryz.sizeOf120
  v218 := Tryz.zeroValue120
  t222 := Tryz.underlying124
  a222 := Tryz.isAgg124
  z222 := Tryz.sizeOf124
  v222 := Tryz.zeroValue124
  t228 := Tryz.underlying127
  a228 := Tryz.isAgg127
  z228 := Tryz.sizeOf127
  v228 := Tryz.zeroValue127
  t229 := Tryz.underlying128
  a229 := Tryz.isAgg128
  z229 := Tryz.sizeOf128
  v229 := Tryz.zeroValue128 }
open Go.Sort Go.RowKit in
theorem Tryz.sort_Ints (blk off cap : Nat) (zs : List Int) (w : World) (hH : Holds (Value.int .i64) w blk off zs.toArray) (hblk : blk < w.heap.size) (hsz : zs.length < 4611686018427387904) :
    Calls Tryz.prog 51 #[.slice (some ⟨blk, off, none⟩) zs.length cap] w fun e w' =>
      e = .returned (.tuple #[]) ∧ ∃ n os, w' = grow (putRow (Value.int .i64) (Sort.ahead w n) blk off (zs.mergeSort fun x y => decide (x ≤ y)).toArray) os := Any.sort_Ints Tryz.lays191 blk off cap zs w hH hblk hsz
open Go.RowKit Go.Sort in
theorem Tryz.sort_Ints_none (p : Option Addr) (cap : Nat) (w : World) :
    Calls Tryz.prog 51 #[.slice p 0 cap] w fun e w' => e = .returned (.tuple #[]) ∧ w' = w := Any.sort_Ints_none Tryz.lays191 p cap w
end Go.Proofs
end
section
namespace Go.Proofs.YthcpbojmalgdbaaGreat.Q
open Go.RowKit Go.Proofs.YthcpbojmalgdbaaGreatW.PrintWords Go.Proofs.YthcpbojmalgdbaaGreat.Core
set_option linter.unusedVariables false
set_option linter.unusedSimpArgs false
def sortL (xs : List Int) : List Int := xs.mergeSort fun x y => decide (x ≤ y)
theorem sortL_length (xs : List Int) : (sortL xs).length = xs.length := List.length_mergeSort xs
theorem sortInts_any (v : Value) (xs : List Int) (w : World) (base : Nat) (hl : xs.length ≤ 1048576) (h : Kd.R (Kd.int .i64) 3 w base (fun _ => True) v xs) (hbase : base ≤ w.heap.size) :
    Calls Tryz.prog 51 #[v] w fun e w' => e = .returned (.tuple #[]) ∧ Kd.R (Kd.int .i64) 3 w' base (fun _ => True) v (sortL xs) ∧ Below base w w' ∧ w.grownBy w' v.ownBlock := by
  have ho := Kd.own_of_R h
  rcases ho.2 with ⟨rfl, h0⟩ | ⟨g, cap, cur, rfl, hg, hb, hnc, hcm, hcs, htk⟩
  · obtain rfl : xs = [] := List.eq_nil_of_length_eq_zero h0
    refine (Tryz.sort_Ints_none none 0 w).mono ?_
    rintro e w' ⟨rfl, rfl⟩
    exact ⟨rfl, by simpa [sortL] using h, Below.refl _ _, World.grownBy.refl _ _⟩
  · have htk' : cur.toList.take xs.length = xs.map (Value.int .i64) := by simpa [encs] using htk
    refine (Tryz.sort_Ints g 0 cap xs w (holds_of_blockI hb htk') (Array.getElem?_eq_some_iff.1 hb).1 (by omega)).mono ?_
    rintro e w' ⟨rfl, n, os, rfl⟩
    have hgr : w.grownBy (Go.Sort.grow (Go.Sort.putRow (Value.int .i64) (Go.Sort.ahead w n) g 0 (xs.mergeSort fun x y => decide (x ≤ y)).toArray) os) (some g) := grownBy_sortedI _
    refine ⟨rfl, ?_, (Below.refl _ w).grown hgr hbase (fun k hk => by cases hk; exact hg), by simpa [Value.ownBlock] using hgr⟩
    have hs := ownsRow_sortedI (n := n) (os := os) (base := base) (ss := xs) (ts := sortL xs) (sortL_length xs) hg hb hnc hcm (by simpa using hcs)
    refine Kd.R_of_own ?_ (fun _ _ => trivial)
    rw [sortL_length]
    exact hs
theorem firstOf_step {vs : List Visit} {k : Nat} {v : Visit} (h : vs[k]? = some v) (p : Int) (sec : ByteArray) : firstOf p sec (vs.drop k) = if v.f0 = sec then p + v.f1 else firstOf p sec (vs.drop (k + 1)) := by
  have hk := some_lt h
  rw [List.drop_eq_getElem_cons hk]
  rw [List.getElem?_eq_getElem hk] at h
  rw [Option.some.inj h]
  rfl
end Go.Proofs.YthcpbojmalgdbaaGreat.Q
end
section
namespace Go.Proofs.YthcpbojmalgdbaaGreat.Q
open Go.RowKit Go.Proofs.YthcpbojmalgdbaaGreatW.PrintWords Go.Proofs.YthcpbojmalgdbaaGreat.Core
set_option linter.unusedVariables false
set_option linter.unusedSimpArgs false
theorem first_range {f : Flight} (h : flightB f = true) (sec : ByteArray) : firstOf f.f1 sec f.f3 ≤ 10200 := by
  obtain ⟨hx1, b1, b2, hx2, hx3, hv⟩ := flightB_parts h
  obtain ⟨hx4, hx5, hvs, hx6⟩ := visitsB_parts hv
  clear hx1 hx2 hx3 hx4 hx5 hx6
  obtain ⟨f0, f1, f2, vs⟩ := f
  simp only at b1 b2 hvs ⊢
  clear h hv
  induction vs with
  | nil => unfold firstOf; omega
  | cons v r ih =>
    unfold firstOf
    split
    · have := visitB_stay (hvs v (List.mem_cons_self ..)); omega
    · exact ih (fun u hu => hvs u (List.mem_cons_of_mem _ hu))
theorem comes_range {l : List Flight} (h : ∀ f ∈ l, flightB f = true) (sec : ByteArray) : ∀ x ∈ comesOf sec l, 0 ≤ x ∧ x ≤ 10200 := by
  intro x hx
  unfold comesOf at hx
  obtain ⟨h1, h2⟩ := List.mem_filter.1 hx
  obtain ⟨f, hf, rfl⟩ := List.mem_map.1 h1
  exact ⟨by simpa using h2, first_range (h f hf) sec⟩
theorem sorted_range {l : List Flight} (h : ∀ f ∈ l, flightB f = true) (sec : ByteArray) : ∀ x ∈ sortedTo sec l l.length, 0 ≤ x ∧ x ≤ 10200 := fun x hx => comes_range h sec x ((sortedTo_spec sec l).2.mem_iff.1 hx)
def boundN (caps : List Cap) (l : List Flight) (sec : ByteArray) : Int :=
  if capsB caps = true ∧ flightsB l = true ∧ 1 ≤ capOf sec caps then runS (capOf sec caps).toNat (sortedTo sec l l.length) [] 0 else 0
end Go.Proofs.YthcpbojmalgdbaaGreat.Q
end
section
namespace Go.Proofs.YthcpbojmalgdbaaGreat.Q
open Go.RowKit Go.Proofs.YthcpbojmalgdbaaGreatW.PrintWords Go.Proofs.YthcpbojmalgdbaaGreat.Core
set_option linter.unusedVariables false
set_option linter.unusedSimpArgs false
theorem sortL_sorted (xs : List Int) : (sortL xs).Pairwise (· ≤ ·) := by
  have h := List.pairwise_mergeSort (le := fun x y => decide (x ≤ y)) (fun a b c h1 h2 => by simp at h1 h2 ⊢; omega) (fun a b => by simp; omega) xs
  exact h.imp (fun h => by simpa using h)
theorem sortL_comes (sec : ByteArray) (l : List Flight) : sortL (comesOf sec l) = sortedTo sec l l.length :=
  sorted_unique _ _ (sortL_sorted _) (sortedTo_spec sec l).1 ((List.mergeSort_perm _ _).trans (sortedTo_spec sec l).2.symm)
theorem boundN_impl {caps : List Cap} {l : List Flight} (sec : ByteArray) (hc : capsB caps = true) (hf : flightsB l = true) (h1 : 1 ≤ lastCap sec caps 0) : boundN caps l sec = runI (lastCap sec caps 0) (sortL (comesOf sec l)) (-1) 0 0 := by
  obtain ⟨e1, e2⟩ := last_cap hc sec
  have hcap : 1 ≤ capOf sec caps := by omega
  unfold boundN
  rw [if_pos ⟨hc, hf, hcap⟩, sortL_comes, e2 hcap]
  obtain ⟨cn, hcn⟩ : ∃ cn : Nat, capOf sec caps = cn := ⟨(capOf sec caps).toNat, by omega⟩
  rw [hcn, Int.toNat_natCast]
  exact run_all (by omega) _ (fun t ht => (sorted_range (flightsB_parts hf).2.1 sec t ht).1) (sortedTo_spec sec l).1
theorem boundN_zero {caps : List Cap} {l : List Flight} (sec : ByteArray) (hc : capsB caps = true) (h1 : lastCap sec caps 0 < 1) : boundN caps l sec = 0 := by
  have := (last_cap hc sec).1.1 h1
  unfold boundN
  rw [if_neg (by rintro ⟨_, _, h⟩; omega)]
theorem nowT_parts {c now n t : Int} : (now < t → n = n → (0 = c → nowT c now n t = (t + 1, 1)) ∧ (¬0 = c → nowT c now n t = (t, 1))) ∧ (¬now < t → (n = c → nowT c now n t = (now + 1, 1)) ∧ (¬n = c → nowT c now n t = (now, n + 1))) := by
  refine ⟨fun h _ => ⟨fun h2 => ?_, fun h2 => ?_⟩, fun h => ⟨fun h2 => ?_, fun h2 => ?_⟩⟩
  · unfold nowT; simp only [h, if_true]; rw [if_pos h2]
  · unfold nowT; simp only [h, if_true]; rw [if_neg h2]; rfl
  · unfold nowT; simp only [h, if_false]; rw [if_pos h2]
  · unfold nowT; simp only [h, if_false]; rw [if_neg h2]
set_option maxRecDepth 100000 in
set_option maxHeartbeats 4000000 in
theorem impl_bound_any (A : Option Addr) (c : Nat) (caps : List Cap) (A1 : Option Addr) (c1 : Nat) (l : List Flight) (sec : ByteArray) (w : World) (hr : Kd.C k42 w A caps.length caps) (hr1 : Kd.C k47 w A1 l.length l) :
    Calls Tryz.prog 36 #[.slice A caps.length c, .slice A1 l.length c1, .string sec] w fun e w' => e = .returned (.int .i64 (boundN caps l sec)) ∧ Below w.heap.size w w' := by
  have QC := Lib.hid (impl_capsOk_any A c caps w hr (C_len hr))
  have QF := Lib.hid (fun W (h : Below w.heap.size w W) => impl_flightsOk_any A1 c1 l W (Kd.C_below hr1 h) (C_len hr1))
  cases hc : capsB caps with
  | false =>
    go_enter Tryz.func36, Tryz.ntmps36
    go_wp2_with (first
      | (go_at_call 50; refine QC.out.mono ?_; rintro e w2 ⟨rfl, hb2⟩; rw [hc])
      | go_in)
    go_ret
    exact ⟨ret_int (by simp [boundN, hc]), hb2⟩
  | true =>
  have HC := Lib.hid hc
  cases hf : flightsB l with
  | false =>
    clear hc
    go_enter Tryz.func36, Tryz.ntmps36
    go_wp2_with (first
      | (go_at_call 50; refine QC.out.mono ?_; rintro e w2 ⟨rfl, hb2⟩; rw [HC.out])
      | (go_at_call 48; refine (QF.out _ hb2).mono ?_; rintro e w3 ⟨rfl, hb3⟩; rw [hf])
      | go_in)
    go_ret
    exact ⟨ret_int (by simp [boundN, hf]), below_next hb2 hb2.size hb3⟩
  | true =>
  have HF := Lib.hid hf
  obtain ⟨hc6, hcb, _⟩ := capsB_parts hc
  obtain ⟨hl8, hfs, _⟩ := flightsB_parts hf
  have HCB := Lib.hid hcb
  have HFS := Lib.hid hfs
  have HCR := Lib.hid (comes_range hfs sec)
  clear hc hf hcb hfs
  go_enter Tryz.func36, Tryz.ntmps36
  go_wp2_with (first
    | (go_at_call 50; refine QC.out.mono ?_; rintro e w2 ⟨rfl, hb2⟩; rw [HC.out])
    | (go_at_call 48; refine (QF.out _ hb2).mono ?_; rintro e w3 ⟨rfl, hb3⟩; rw [HF.out])
    | go_in)
  have hb := below_next hb2 hb2.size hb3
  clear hb2 hb3
  go_loopw [7, 30] (fun lm v wr => ∃ (k : Nat) (n : Int), v = .int .i64 k ∧ k ≤ caps.length ∧ lm = .int .i64 n ∧ 0 ≤ n ∧ n ≤ 20 ∧ Hid (lastCap sec caps 0 = lastCap sec (caps.drop k) n) ∧ Below w.heap.size w wr) (fun _ v _ => caps.length - (intOf v).toNat)
  case atStart => exact ⟨0, 0, rfl, Nat.zero_le _, rfl, by omega, by omega, rfl, hb⟩
  case round =>
    clear hb
    obtain ⟨k, n, rfl, hk, rfl, hn0, hn1, hF, hb⟩ := hrel
    by_cases hlt : k < caps.length
    · obtain ⟨ad, x, rfl, hx, x0, x1⟩ := capAt (Kd.C_below hr hb) k hlt
      have j4 : (k : Int) < caps.length := by omega
      have HX := Lib.hid (lastCap_step hx sec n)
      have hxb := (capB_parts (HCB.out x (List.mem_of_getElem? hx))).2
      clear hx
      by_cases hsec : x.f0 = sec
      · have e3 := str_same hsec
        have HS := Lib.hid hsec
        clear hsec
        go_wp2
        go_roundw
        case rel => exact ⟨k + 1, x.f1, by go_num, by omega, rfl, by omega, by omega, by show _ = _; rw [hF.out, HX.out, if_pos HS.out], hb.alloc hb.size _⟩
        case measure => simp [intOf]; omega
      · have e3 := str_other hsec
        have HS := Lib.hid hsec
        clear hsec
        go_wp2
        go_roundw
        case rel => exact ⟨k + 1, n, by go_num, by omega, rfl, by omega, by omega, by show _ = _; rw [hF.out, HX.out, if_neg HS.out], hb.alloc hb.size _⟩
        case measure => simp [intOf]; omega
    · obtain rfl : k = caps.length := by omega
      have hF' : Hid (lastCap sec caps 0 = n) := by show _ = _; rw [hF.out, List.drop_length]; rfl
      clear hF
      by_cases hlim : n < 1
      · have e1 : decide (n < 1) = true := decide_eq_true hlim
        have HN := Lib.hid hlim
        go_wp2
        go_ret
        exact ⟨ret_int (boundN_zero sec HC.out (by rw [hF'.out]; exact HN.out)).symm, hb⟩
      have e1 : decide (n < 1) = false := decide_eq_false hlim
      have HB : Hid (boundN caps l sec = runI n (sortL (comesOf sec l)) (-1) 0 0) := by show _ = _; rw [boundN_impl sec HC.out HF.out (by rw [hF'.out]; omega), hF'.out]
      clear hF'
      go_wp2
      obtain ⟨W3, hW3⟩ : ∃ V, V = wr := ⟨_, rfl⟩
      subst hW3
      go_loopw [10, 46] (fun cs v wq => ∃ (k : Nat) (xs : List Int), v = .int .i64 k ∧ k ≤ l.length ∧ xs.length ≤ k ∧ Hid (xs = comesOf sec (l.take k)) ∧ Hid (Kd.R (Kd.int .i64) 3 wq W3.heap.size (fun _ => True) cs xs) ∧ Below W3.heap.size W3 wq) (fun _ v _ => l.length - (intOf v).toNat)
      case atStart => exact ⟨0, [], rfl, Nat.zero_le _, Nat.zero_le _, by show _ = _; simp [comesOf], R_made W3 _, (Below.refl _ _).alloc (Nat.le_refl _) _⟩
      case round =>
        obtain ⟨k, xs, rfl, hk, hxl, hXS, hO, hq⟩ := hrel
        obtain ⟨Y, cY, rfl, hcY, hY⟩ := Kd.R_reads hO.out
        clear hY
        by_cases hlt : k < l.length
        · obtain ⟨ad, f, A3, c3, rfl, hf, f0, f1, f2, f3, hl3, hr3⟩ := flightAt hr1 k hlt
          have hbw := below_next hb hb.size hq
          have HW := Lib.hid hbw
          have f0 := pw_cell_below hbw f0
          have f1 := pw_cell_below hbw f1
          have f2 := pw_cell_below hbw f2
          have f3 := pw_cell_below hbw f3
          have HX := Lib.hid (comes_step hf sec)
          have hfb := flightB_parts (HFS.out f (List.mem_of_getElem? hf))
          have HV := Lib.hid (visitsB_parts hfb.2.2.2.2.2)
          have b1 := hfb.2.1
          have b2 := hfb.2.2.1
          clear hf hfb hbw
          go_wp2
          have hqs := hq.size
          go_loopw [10, 53] (fun cs v wq => ∃ j : Nat, v = .int .i64 j ∧ cs = .slice Y xs.length cY ∧ j ≤ f.f3.length ∧ Hid (firstOf f.f1 sec f.f3 = firstOf f.f1 sec (f.f3.drop j)) ∧ Hid (Kd.R (Kd.int .i64) 3 wq W3.heap.size (fun _ => True) (.slice Y xs.length cY) xs) ∧ wq.cell? ⟨wr.heap.size, 1, none⟩ = some (.int .i64 f.f1) ∧ Below wr.heap.size wr wq) (fun _ v _ => f.f3.length - (intOf v).toNat)
          case atStart => exact ⟨0, rfl, rfl, Nat.zero_le _, rfl, Kd.R_alloc hO.out _, by simp, (Below.refl _ _).alloc (Nat.le_refl _) _⟩
          case round =>
            clear f0 f1 f2 f3 hO
            obtain ⟨j, rfl, rfl, hj, hF, hO, g1, hj2⟩ := hrel
            have hv5 : f.f3.length ≤ 5 := HV.out.2.1
            have hqj := below_next hq hqs hj2
            have hqjs := hqj.size
            by_cases hjt : j < f.f3.length
            · obtain ⟨ad3, v, rfl, hv, v0, v1, v2⟩ := visitAt (Kd.C_below hr3 (below_next hb hb.size hqj)) j hjt
              have j6 : (j : Int) < f.f3.length := by omega
              have HFX := Lib.hid (firstOf_step hv f.f1 sec)
              have hvb := visitB_stay (HV.out.2.2.1 v (List.mem_of_getElem? hv))
              clear hv
              by_cases hsec : v.f0 = sec
              · have e3 := str_same hsec
                have HS := Lib.hid hsec
                clear hsec
                have j7 : IntKind.i64.wrap (f.f1 + v.f1) = f.f1 + v.f1 := IntWalk.i64_in _ (by omega)
                have g1 := cell_al g1 (.cells #[.string v.f0, .int .i64 v.f1, .int .i64 v.f2] 58)
                go_wp2_with (first
                  | (at_builtin; refine Kd.R_append_row (w0 := W3) (Value.int .i64) 0 W3.heap.size rfl _ _ 25 3 (.int .i64 0) 8 rfl Tryz.underlying25 infoInt rfl (by decide) (.slice Y xs.length cY) xs [f.f1 + v.f1] (some ⟨wr.heap.size + 1, 0, none⟩) 1 1 (fun _ => True) rfl rfl (fun _ _ => trivial) (Kd.R_alloc (Kd.R_alloc hO.out _) _) (C_one (by simp)) ((hqj.alloc hqjs _).alloc (by first | omega | (simp <;> omega)) _) (by first | omega | (simp <;> omega)) (by first | omega | (simp <;> omega)) ?_; intro v1 w1 ho hb1 hg1 hat1)
                  | go_in)
                go_roundw
                case rel => exact ⟨k + 1, xs ++ [f.f1 + v.f1], by go_num, by omega, by simp; omega, by show _ = _; rw [HX.out, hF.out, HFX.out, if_pos HS.out, if_pos (by omega), hXS.out], ho, hb1⟩
                case measure => simp [intOf]; omega
              · have e3 := str_other hsec
                have HS := Lib.hid hsec
                clear hsec
                go_wp2
                go_roundw
                case rel => exact ⟨j + 1, by go_num, rfl, by omega, by show _ = _; rw [hF.out, HFX.out, if_neg HS.out], Kd.R_alloc hO.out _, cell_al g1 _, hj2.alloc hj2.size _⟩
                case measure => simp [intOf]; omega
            · obtain rfl : j = f.f3.length := by omega
              have HN : Hid (firstOf f.f1 sec f.f3 = -1) := by show _ = _; rw [hF.out, List.drop_length]; rfl
              go_wp2
              go_roundw
              case rel => exact ⟨k + 1, xs, by go_num, by omega, by omega, by show _ = _; rw [HX.out, HN.out, if_neg (by omega), List.append_nil, hXS.out], hO.out, hqj⟩
              case measure => simp [intOf]; omega
        · obtain rfl : k = l.length := by omega
          rw [List.take_length] at hXS
          have hqs := hq.size
          go_wp2_with (first
            | (go_at_call 51; refine (sortInts_any (.slice Y xs.length cY) xs wr W3.heap.size (by omega) hO.out hqs).mono ?_; rintro e w5 ⟨rfl, ho5, hb5, hg5⟩; have hX := R_readC ho5)
            | go_in)
          have hb6 := Lib.hid (below_next hb hb.size (hq.trans hb5))
          have HTR : Hid (∀ t ∈ sortL xs, 0 ≤ t ∧ t ≤ 10200) := fun t ht => HCR.out t (by rw [← hXS.out]; exact (List.mergeSort_perm _ _).mem_iff.1 ht)
          have hsl : (sortL xs).length ≤ 8 := by rw [sortL_length]; omega
          rw [← hXS.out] at HB
          obtain ⟨ts, hts⟩ : ∃ ts, ts = sortL xs := ⟨_, rfl⟩
          rw [← hts] at HB HTR hsl hX
          have hxt : xs.length = ts.length := by rw [hts, sortL_length]
          rw [hxt] at hX ⊢
          clear hts ho5 hb5 hg5 hO hq hqs hXS hb
          go_loopw [15, 16, 17, 75] (fun nv mv sv v wq => ∃ (k : Nat) (now m late : Int), v = .int .i64 k ∧ k ≤ ts.length ∧ nv = .int .i64 now ∧ -1 ≤ now ∧ now ≤ 10200 + k ∧ mv = .int .i64 m ∧ 0 ≤ m ∧ m ≤ k ∧ sv = .int .i64 late ∧ 0 ≤ late ∧ late ≤ 20000 * k ∧ Hid (runI n ts (-1) 0 0 = runI n (ts.drop k) now m late) ∧ wq = w5) (fun _ _ _ v _ => ts.length - (intOf v).toNat)
          case atStart => exact ⟨0, -1, 0, 0, rfl, Nat.zero_le _, rfl, by omega, by omega, rfl, by omega, by omega, rfl, by omega, by omega, rfl, rfl⟩
          case round =>
            obtain ⟨k, now, m, late, rfl, hk2, rfl, hn2, hn3, rfl, hm0, hm1, rfl, hs0, hs1, hR, rfl⟩ := hrel
            by_cases hkt : k < ts.length
            · obtain ⟨ad, t, rfl, ht, t0⟩ := intAt hX k hkt
              have j4 : (k : Int) < ts.length := by omega
              have htr := HTR.out t (List.mem_of_getElem? ht)
              have HST := Lib.hid (runI_step ht n now m late)
              have HP := Lib.hid (nowT_parts (c := n) (now := now) (n := m) (t := t))
              clear ht
              by_cases hnt : now < t
              · have e4 : decide (now < t) = true := decide_eq_true hnt
                have hz : ¬ (0 : Int) = n := by omega
                have e5 : ((0 : Int) == n) = false := by simp [hz]
                have HE := Lib.hid ((HP.out.1 hnt rfl).2 hz)
                clear hz
                go_wp2
                go_roundw
                case rel => exact ⟨k + 1, t, 1, late + (t - t), by go_num, by omega, rfl, by omega, by omega, rfl, by omega, by omega, by go_num, by omega, by omega, by show _ = _; rw [hR.out, HST.out, HE.out], by first | rfl | trivial⟩
                case measure => simp [intOf]; omega
              · have e4 : decide (now < t) = false := decide_eq_false hnt
                by_cases hmn : m = n
                · have e5 : (m == n) = true := by simp [hmn]
                  have HE := Lib.hid ((HP.out.2 hnt).1 hmn)
                  have HMN := Lib.hid hmn
                  clear hmn
                  go_wp2
                  go_roundw
                  case rel => exact ⟨k + 1, now + 1, 1, late + (now + 1 - t), by go_num, by omega, by go_num, by omega, by omega, rfl, by omega, by omega, by go_num, by omega, by omega, by show _ = _; rw [hR.out, HST.out, HE.out], by first | rfl | trivial⟩
                  case measure => simp [intOf]; omega
                · have e5 : (m == n) = false := by simp [hmn]
                  have HE := Lib.hid ((HP.out.2 hnt).2 hmn)
                  have HMN := Lib.hid hmn
                  clear hmn
                  go_wp2
                  go_roundw
                  case rel => exact ⟨k + 1, now, m + 1, late + (now - t), by go_num, by omega, rfl, by omega, by omega, by go_num, by omega, by omega, by go_num, by omega, by omega, by show _ = _; rw [hR.out, HST.out, HE.out], by first | rfl | trivial⟩
                  case measure => simp [intOf]; omega
            · go_wp2
              go_ret
              obtain rfl : k = ts.length := by omega
              exact ⟨ret_int (by rw [HB.out, hR.out, List.drop_length]; rfl), hb6.out⟩
end Go.Proofs.YthcpbojmalgdbaaGreat.Q
end
