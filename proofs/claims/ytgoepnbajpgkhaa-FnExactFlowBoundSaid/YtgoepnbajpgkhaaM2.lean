/- Contracts: FlowLoad, the program's and the reference's. -/
import Derived.Test.YtgoepnbajpgkhaaM1
namespace Go.Proofs.Ytgoepnbajpgkhaa.Q
open Go.RowKit Go.Proofs.YtgoepnbajpgkhaaW.PrintWords Go.Proofs.Ytgoepnbajpgkhaa.Core Go.Maps
set_option linter.unusedVariables false
set_option linter.unusedSimpArgs false

theorem loadN_same {l : List Flight} {s : List Int} (h : slotsB l s = true) (sec : ByteArray) (t : Int) : loadN l s sec t = cntTo l s sec t l.length := by
  unfold loadN
  rw [if_pos h, cnt_load (flightsB_parts (slotsB_parts h).1).2.1]

theorem hasB_drop {vs : List Visit} {k : Nat} {v : Visit} (h : vs[k]? = some v) (x : Int) (sec : ByteArray) (t : Int) : hasB x sec t (vs.drop k) = (coversB x sec t v || hasB x sec t (vs.drop (k + 1))) := by
  have hk := some_lt h
  unfold hasB
  rw [List.drop_eq_getElem_cons hk, List.any_cons]
  rw [List.getElem?_eq_getElem hk] at h
  rw [Option.some.inj h]

end Go.Proofs.Ytgoepnbajpgkhaa.Q
