/- Merged out of this seat's own texts. -/
import Derived.Test.YtkfoeplefajkcaaMgM
import Derived.BigRegion
import Derived.Shelf.Small.Bits
import Derived.Shelf.Strconv.Itoa0
import Derived.Shelf.Sort.Plain
import Derived.Ground.GgsProg
import Derived.Shelf.GgSortFunc.Insertion
import Derived.Shelf.GgSortFunc.Tiny
import Derived.Shelf.GgSortFunc.Compose
import Derived.Ground.GgtProg
import Derived.Shelf.GgSortMore.Stable
import Derived.Shelf.Slices.In.SortNone
import Derived.Shelf.Slices.In.SortNone2
import Derived.Test.YtkfoeplefajkcaaProg
import Derived.Test.YtkfoeplefajkcaaMgC
import Derived.Sort.OwnSortedInts
section
namespace Go.Proofs.Ytkfoeplefajkcaa.Q
open Go.RowKit Go.Proofs.YtkfoeplefajkcaaW.PrintWords Go.Proofs.Ytkfoeplefajkcaa.Core
set_option linter.unusedVariables false
set_option linter.unusedSimpArgs false
section
variable {P : Program} {ops : Array Oper} {o : Oper} {a : Act} {Q : Exit → Act → World → Prop} {Kc : Act → World → Prop}
end
theorem C_one {w : World} {g : Nat} {t : Int} (h : w.cell? ⟨g, 0, none⟩ = some (.int .i64 t)) : Kd.C (Kd.int .i64) w (some ⟨g, 0, none⟩) 1 [t] := by
  refine ⟨rfl, by decide, fun _ => ⟨_, rfl, fun j p hj => ?_⟩⟩
  have hj0 : j = 0 := by have := some_lt hj; simpa using this
  subst hj0
  obtain rfl : t = p := by simpa using hj
  refine ⟨[.int .i64 t], rfl, rfl, fun i u hi => ?_⟩
  have hi0 : i = 0 := by have := some_lt hi; simpa using this
  subst hi0
  obtain rfl : Value.int .i64 t = u := by simpa using hi
  exact h
end Go.Proofs.Ytkfoeplefajkcaa.Q
end
