/- Merged out of this seat's own texts. -/
import Derived.Test.YtkfoeplefajkcaaMgC
import Derived.Test.YtkfoeplefajkcaaMgN
import Derived.Test.YtkfoeplefajkcaaMgA
import Derived.Deep.RegionHeld3
import Derived.Sort.Grow
import Derived.Sort.WalkA
import Derived.Shelf.Abstract
import Derived.Deep.DeepCutAuto
import Derived.Shelf.Small.Bits
import Derived.Shelf.Strconv.Itoa0
import Derived.Shelf.Sort.Plain
import Derived.Ground.GgsProg
import Derived.Shelf.GgSortFunc.Insertion
import Derived.Shelf.GgSortFunc.Tiny
import Derived.Shelf.GgSortFunc.Compose
import Derived.Ground.GgtProg
import Derived.Shelf.GgSortMore.Stable
import Derived.Shelf.Slices.In.SortNone
import Derived.Shelf.Slices.In.SortNone2
import Derived.Test.YtkfoeplefajkcaaProg
section
namespace Go.Proofs.Ytkfoeplefajkcaa.Q
open Go.RowKit Go.Proofs.YtkfoeplefajkcaaW.PrintWords Go.Proofs.Ytkfoeplefajkcaa.Core
open Go.Sort hiding Below
set_option linter.unusedVariables false
set_option linter.unusedSimpArgs false
structure Srt (l : List Flight) (w w0 : World) (A : Option Addr) (c : Nat) (pl po : Addr) (g cap : Nat) : Prop where
  below : Below w.heap.size w w0
  hwg : w.heap.size ≤ g
  hg : g < w0.heap.size
  hpl : w0.cell? pl = some (.slice A l.length c)
  hpo : w0.cell? po = some (.slice (some ⟨g, 0, none⟩) l.length cap)
  npl : pl.block ≠ g
  npo : po.block ≠ g
  hr : Kd.C k61 w A l.length l
  hl : l.length ≤ 2000000
  row : ∃ d0 : Array Int, d0.size = l.length ∧ Holds (Value.int .i64) w0 g 0 d0
def SW (l : List Flight) (w0 : World) (g : Nat) (d : Array Int) (W : World) : Prop :=
  d.size = l.length ∧ (∀ k, k < l.length → ∃ x : Nat, d[k]! = (x : Int) ∧ x < l.length) ∧ ∃ m os, W = grow (putRow (Value.int .i64) (Sort.ahead w0 m) g 0 d) os
section
variable {l : List Flight} {w w0 W : World} {A : Option Addr} {c g cap : Nat} {pl po : Addr} {d : Array Int}
theorem SW.cell (S : Srt l w w0 A c pl po g cap) (h : SW l w0 g d W) {a : Addr} {v : Value} (ha : a.block ≠ g) (hc : w0.cell? a = some v) : W.cell? a = some v := by
  obtain ⟨_, _, m, os, rfl⟩ := h
  rw [cell?_grow _ _ _ (by rw [size_putRow]; exact World.block_lt_of_cell? w0 a hc), cell?_putRow_other _ _ _ _ _ _ (Or.inl ha)]
  exact hc
theorem SW.holds (S : Srt l w w0 A c pl po g cap) (h : SW l w0 g d W) : Holds (Value.int .i64) W g 0 d := by
  obtain ⟨hd, _, m, os, rfl⟩ := h
  obtain ⟨d0, hd0, h0⟩ := S.row
  exact holds_grow _ _ _ _ _ _ (by rw [size_putRow]; exact S.hg) (holds_putRow _ _ _ _ d0 d (holds_ahead _ _ _ _ _ _ h0) (by omega))
theorem SW.size (S : Srt l w w0 A c pl po g cap) (h : SW l w0 g d W) : w0.heap.size ≤ W.heap.size := by
  obtain ⟨_, _, m, os, rfl⟩ := h
  rw [size_grow, size_putRow]
  show w0.heap.size ≤ w0.heap.size + os.size
  omega
theorem SW.below (S : Srt l w w0 A c pl po g cap) (h : SW l w0 g d W) : Below w.heap.size w W := by
  have hz := h.size S
  obtain ⟨_, _, m, os, rfl⟩ := h
  refine ⟨S.below.os, S.below.tape, S.below.output, Nat.le_trans S.below.size hz, fun k hk => ?_⟩
  have h1 := S.below.size
  rw [heap_grow_old _ _ (by rw [size_putRow]; show k < w0.heap.size; omega), ← S.below.block k hk]
  have h2 := S.hwg
  simp only [putRow, mapBlock, Array.getElem?_modify]
  rw [if_neg (by omega)]
  rfl
theorem SW.grown (h : SW l w0 g d W) (q : Nat) (os : Array Obj) : SW l w0 g d (grow (W.drewN q) os) := by
  obtain ⟨h1, h2, m, os', rfl⟩ := h
  refine ⟨h1, h2, m + q, os' ++ os, ?_⟩
  rw [← grow_grow]
  congr 1
  rw [Sort.ahead, Sort.ahead]
  simp only [grow, World.drewN, putRow, mapBlock, Nat.add_assoc]
theorem SW.alloc (h : SW l w0 g d W) (o : Obj) : SW l w0 g d (W.alloc o) := by
  have := h.grown 0 #[o]
  rwa [← alloc_eq_grow] at this
theorem SW.drewN (h : SW l w0 g d W) (q : Nat) : SW l w0 g d (W.drewN q) := by
  have := h.grown q #[]
  rwa [grow_empty] at this
theorem SW.trans (S : Srt l w w0 A c pl po g cap) {d' : Array Int} {W' : World} (h : SW l w0 g d W) (h' : SW l W g d' W') : SW l w0 g d' W' := by
  obtain ⟨h1, h2, m, os, rfl⟩ := h
  obtain ⟨k1, k2, m', os', rfl⟩ := h'
  refine ⟨k1, k2, m + m', os ++ os', ?_⟩
  rw [ahead_grow, putRow_grow _ _ _ _ _ _ (by show g < (Sort.ahead (putRow _ _ _ _ _) _).heap.size; rw [heap_ahead, size_putRow]; exact S.hg), putRow_ahead_putRow _ _ _ _ _ _ _ _ (by omega), grow_grow]
end
end Go.Proofs.Ytkfoeplefajkcaa.Q
end
