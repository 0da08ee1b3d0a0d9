/- Merged out of this seat's own texts. -/
import Derived.Test.YtkfoeplefajkcaaMgM
import Derived.BigRegion
import Derived.Shelf.Small.Bits
import Derived.Shelf.Strconv.Itoa0
import Derived.Shelf.Sort.Plain
import Derived.Ground.GgsProg
import Derived.Shelf.GgSortFunc.Insertion
import Derived.Shelf.GgSortFunc.Tiny
import Derived.Shelf.GgSortFunc.Compose
import Derived.Ground.GgtProg
import Derived.Shelf.GgSortMore.Stable
import Derived.Shelf.Slices.In.SortNone
import Derived.Shelf.Slices.In.SortNone2
import Derived.Test.YtkfoeplefajkcaaProg
import Derived.Test.YtkfoeplefajkcaaMgC
import Derived.Sort.OwnSortedInts
section
namespace Go.Proofs.Ytkfoeplefajkcaa.Q
open Go.RowKit Go.Proofs.YtkfoeplefajkcaaW.PrintWords Go.Proofs.Ytkfoeplefajkcaa.Core
set_option linter.unusedVariables false
set_option linter.unusedSimpArgs false
section
variable {P : Program} {ops : Array Oper} {o : Oper} {a : Act} {Q : Exit → Act → World → Prop} {Kc : Act → World → Prop}
theorem ints_append_step {w0 W : World} (base : Nat) (hw : Region.wanted o (yielded ops a.tmps) = true) (s x : Operand) (t e : TypeId)
    (ho : o.op = .call { callee := .builtin .append, args := #[s, x], argTypes := #[t, t] })
    (ht : P.underlying t = some (.slice e)) (hinfo : (P.info? e).map (fun i => (i.zero, i.size, i.bytes)) = some (some (.int .i64 0), 1, 8))
    (v : Value) (xs ys : List Int) (A : Option Addr) (m c : Nat) (hs : a.eval s = v) (hx : a.eval x = .slice A m c)
    (HO : Kd.R (Kd.int .i64) e W base (fun _ => True) v xs) (HR : Kd.C (Kd.int .i64) W A m ys) (HB : Below base w0 W) (hbase : base ≤ W.heap.size) (hl : xs.length + m ≤ 1048576) (hv : v.ownBlock ≠ none)
    (h : ∀ v1 w1, Kd.R (Kd.int .i64) e w1 base (fun _ => True) v1 (xs ++ ys) → Below base w0 w1 → W.grownBy w1 v.ownBlock → v1.ownBlock ≠ none → Kc (a.put o.dst v1) w1) :
    if Region.wanted o (yielded ops a.tmps) = true then Oper.wp P o a W Kc Q else Kc (a.put o.dst undef) W :=
  Kd.R_append_rows_step (Kd.int .i64) (w0 := w0) base hw s x t e (.int .i64 0) 8 ho ht hinfo rfl (by decide) (by decide) v xs ys A m c (fun _ => True) (fun _ => False) hs hx HO HR (fun _ _ h => h) (fun _ h => h.elim) (fun _ _ => trivial) HB hbase (by omega)
    (fun v1 w1 h1 h2 h3 h4 => h v1 w1 h1 h2 h3 (by
      rcases h4 with h4 | ⟨b, h4, _⟩
      · rw [h4]; exact hv
      · rw [h4]; simp))
end
theorem C_one {w : World} {g : Nat} {t : Int} (h : w.cell? ⟨g, 0, none⟩ = some (.int .i64 t)) : Kd.C (Kd.int .i64) w (some ⟨g, 0, none⟩) 1 [t] := by
  refine ⟨rfl, by decide, fun _ => ⟨_, rfl, fun j p hj => ?_⟩⟩
  have hj0 : j = 0 := by have := some_lt hj; simpa using this
  subst hj0
  obtain rfl : t = p := by simpa using hj
  refine ⟨[.int .i64 t], rfl, rfl, fun i u hi => ?_⟩
  have hi0 : i = 0 := by have := some_lt hi; simpa using this
  subst hi0
  obtain rfl : Value.int .i64 t = u := by simpa using hi
  exact h
theorem C_takeN {w : World} {A : Option Addr} {xs : List Int} {j : Nat} (h : Kd.C (Kd.int .i64) w A xs.length xs) (hj : j ≤ xs.length) : Kd.C (Kd.int .i64) w A j (xs.take j) := by
  have := Kd.C_take h hj
  rwa [List.length_take, Nat.min_eq_left hj] at this
theorem C_dropN {w : World} {ad : Addr} {xs : List Int} {j c : Nat} (h : Kd.C (Kd.int .i64) w (some ad) xs.length xs) (hj : j ≤ xs.length) (hc : xs.length ≤ c) : Kd.C (Kd.int .i64) w (if c = j then some ad else some (ad.add j)) (xs.length - j) (xs.drop j) := by
  have := Kd.C_drop h hj hc
  rw [List.length_drop] at this
  have e : (Option.map (fun x => x.add (j * (Kd.int .i64).sz)) (some ad)) = some (ad.add j) := by
    show some (ad.add (j * 1)) = _
    rw [Nat.mul_one]
  rwa [e] at this
theorem own_some {A : Option Addr} {n c : Nat} (h : (Value.slice A n c).ownBlock ≠ none) : ∃ ad, A = some ad := by
  cases A with
  | none => exact absurd rfl h
  | some ad => exact ⟨ad, rfl⟩
end Go.Proofs.Ytkfoeplefajkcaa.Q
end
