/- A region that draws its order, whose operations read and whose callees make memory but change nothing that was there: walked once, in the order of the text. -/
import Derived.Test.YtgoepnbajpgkhaaCore
import Derived.Test.YtgoepnbajpgkhaaK
import Derived.Deep.QuietTactic
import Derived.BigQuiet
import Derived.IntWalk
import Derived.Lib.Hide
namespace Go.Proofs.Ytgoepnbajpgkhaa.Q
open Go.RowKit Go.Proofs.YtgoepnbajpgkhaaW.PrintWords

/-- A world in which all that lay in W lies as it did. -/
structure After (W : World) where
  w : World
  hb : Below W.heap.size W w
instance (W : World) : Nonempty (After W) := ⟨⟨W, Below.refl _ _⟩⟩
theorem After.cell {W : World} {a : Addr} {v : Value} (h : W.cell? a = some v) (u : After W) : u.w.cell? a = some v := pw_cell_below u.hb h
theorem below_next {B : Nat} {W w1 w2 : World} (h : Below B W w1) (hB : B ≤ w1.heap.size) (k : Below w1.heap.size w1 w2) : Below B W w2 := below_then h hB k
theorem wp_region_after {P : Program} {id : Nat} {Q : Exit → Act → World → Prop} {a : Act} {w : World} {l : List Oper} (hm : P.follows .mixedOrders = true) (hB : Region.lexB .any l.toArray = true)
    (h : wpQuiet P l.toArray (fun w' => ∃ u : After w, w' = u.w) (fun a' => ∀ w', (∃ u : After w, w' = u.w) → Q .normal a' w') l a) : (Code.region id l.toArray true).wp P Q a w :=
  wp_region_quiet (C := fun w' => ∃ u : After w, w' = u.w) hm hB ⟨⟨_, below_drew (Below.refl _ _)⟩, rfl⟩ (by simpa using h)
theorem calls_after {P : Program} {f : FuncId} {args : Array Value} {W : World} {u : After W} {v : Value} (h : Calls P f args u.w fun e w'' => e = .returned v ∧ Below u.w.heap.size u.w w'') :
    Calls P f args u.w fun e w'' => e = .returned v ∧ ∃ u' : After W, w'' = u'.w :=
  h.mono fun _ w'' ⟨he, hk⟩ => ⟨he, ⟨⟨w'', below_next u.hb u.hb.size hk⟩, rfl⟩⟩
theorem calls_after_same {P : Program} {f : FuncId} {args : Array Value} {W : World} {u : After W} {v : Value} (h : Calls P f args u.w fun e w'' => e = .returned v ∧ w'' = u.w) :
    Calls P f args u.w fun e w'' => e = .returned v ∧ ∃ u' : After W, w'' = u'.w :=
  h.mono fun _ _ ⟨he, hk⟩ => ⟨he, u, hk⟩
end Go.Proofs.Ytgoepnbajpgkhaa.Q
