/-
  No cell of these rows narrows 'for every input' (looked for: loops, veiled, ifaces, maps, wideKeys, modest, calm, conditions, laid).
  DERIVED. THE GIVEN ROWS OF THIS SEAT. 11 by the template 'for every input the law returns true; each argument reads behind the call as it read before'; 0 by the template 'total and deterministic' (their statements: YtkfoeplefajkcaaTotals.lean).
  GIVEN WITH THE SEED: the statements are not yours to turn. If you find one false, say at which input.
  Laid BY PROGRAM, IN A SANDBOX (cutbox-rows.mjs): the forced cells as the released guide's own fill.sh prints them over the translation e4f437beba37be5c… (all of the seat's roots in one cut). By AI agents, Wed Nov 11 2026. No macro, syntax, notation, axiom, sorry.
-/
import Derived.Test.YtkfoeplefajkcaaChecked
import GoSem.Claim
import GoSem.ClaimJoined
import GoSem.ClaimMapViews
import Derived.JoinedTies
import Derived.KernelRfl
namespace Go.Proofs.Ytkfoeplefajkcaa
/- THE CELL 'sum', in the pinned program and in every row, IS THE sha256 OF THE DUMP (.gsa) THAT YtkfoeplefajkcaaProg.lean LOADS. Nothing in Lean hashes anything: it is a label: what it is worth is what the hold of that sum in a sandbox is worth. -/
noncomputable def Try.pinned : Pinned := { name := "ytkfoeplefajkcaa", sum := "e4f437beba37be5c049d37ad79478886d7e155a450bd04ecfe1876e3637647a1", checked := Try.checked }
namespace Rows
def none {H : Type} : Left H := { results := [], args := [] }

/-- 'laws.FnExactFlowOrder': WHATEVER THE INPUT: true; the input reads as it did. -/
def fnExactFlowOrderSpec : ChangeSpec := { name := "fnExactFlowOrder", fn := fun _ => fun
  | [d] => { results := [.lit (.bool true)], args := [d] }
  | _ => none }
def fnExactFlowOrderRow : OpenClaim := { program := "ytkfoeplefajkcaa", sum := "e4f437beba37be5c049d37ad79478886d7e155a450bd04ecfe1876e3637647a1", func := "loop.example/lapflow/laws.FnExactFlowOrder", spec := "fnExactFlowOrder", inPlace := ["internal/reflectlite.ValueOf", "internal/reflectlite.Swapper", "(internal/reflectlite.Value).Len"], unfollowed := true, recurses := true, apart := false }
def FnExactFlowOrderSaid : Prop := fnExactFlowOrderRow.holds Try.pinned (OpenSpec.ofChange fnExactFlowOrderSpec)

/-- ITS FALSE NEIGHBOUR: 'it returns false'. Refute it at one input. -/
def fnExactFlowOrderWrong : ChangeSpec := { name := "fnExactFlowOrder", fn := fun _ => fun
  | [d] => { results := [.lit (.bool false)], args := [d] }
  | _ => none }
def FnExactFlowOrderWrongFalsely : Prop := fnExactFlowOrderRow.holds Try.pinned (OpenSpec.ofChange fnExactFlowOrderWrong)

/-- 'laws.FnExactFlowGive': WHATEVER THE INPUT: true; the input reads as it did. -/
def fnExactFlowGiveSpec : ChangeSpec := { name := "fnExactFlowGive", fn := fun _ => fun
  | [d1, d2] => { results := [.lit (.bool true)], args := [d1, d2] }
  | _ => none }
def fnExactFlowGiveRow : OpenClaim := { program := "ytkfoeplefajkcaa", sum := "e4f437beba37be5c049d37ad79478886d7e155a450bd04ecfe1876e3637647a1", func := "loop.example/lapflow/laws.FnExactFlowGive", spec := "fnExactFlowGive", inPlace := ["internal/reflectlite.ValueOf", "internal/reflectlite.Swapper", "(internal/reflectlite.Value).Len"], unfollowed := true, recurses := true, apart := false }
def FnExactFlowGiveSaid : Prop := fnExactFlowGiveRow.holds Try.pinned (OpenSpec.ofChange fnExactFlowGiveSpec)

/-- ITS FALSE NEIGHBOUR: 'it returns false'. Refute it at one input. -/
def fnExactFlowGiveWrong : ChangeSpec := { name := "fnExactFlowGive", fn := fun _ => fun
  | [d1, d2] => { results := [.lit (.bool false)], args := [d1, d2] }
  | _ => none }
def FnExactFlowGiveWrongFalsely : Prop := fnExactFlowGiveRow.holds Try.pinned (OpenSpec.ofChange fnExactFlowGiveWrong)

/-- 'laws.FnExactFlowRuns': WHATEVER THE INPUT: true; the input reads as it did. -/
def fnExactFlowRunsSpec : ChangeSpec := { name := "fnExactFlowRuns", fn := fun _ => fun
  | [d1, d2, d3] => { results := [.lit (.bool true)], args := [d1, d2, d3] }
  | _ => none }
def fnExactFlowRunsRow : OpenClaim := { program := "ytkfoeplefajkcaa", sum := "e4f437beba37be5c049d37ad79478886d7e155a450bd04ecfe1876e3637647a1", func := "loop.example/lapflow/laws.FnExactFlowRuns", spec := "fnExactFlowRuns", recurses := true, apart := false }
def FnExactFlowRunsSaid : Prop := fnExactFlowRunsRow.holds Try.pinned (OpenSpec.ofChange fnExactFlowRunsSpec)

/-- ITS FALSE NEIGHBOUR: 'it returns false'. Refute it at one input. -/
def fnExactFlowRunsWrong : ChangeSpec := { name := "fnExactFlowRuns", fn := fun _ => fun
  | [d1, d2, d3] => { results := [.lit (.bool false)], args := [d1, d2, d3] }
  | _ => none }
def FnExactFlowRunsWrongFalsely : Prop := fnExactFlowRunsRow.holds Try.pinned (OpenSpec.ofChange fnExactFlowRunsWrong)

/-- 'laws.FnExactFlowAdd': WHATEVER THE INPUT: true; the input reads as it did. -/
def fnExactFlowAddSpec : ChangeSpec := { name := "fnExactFlowAdd", fn := fun _ => fun
  | [d1, d2] => { results := [.lit (.bool true)], args := [d1, d2] }
  | _ => none }
def fnExactFlowAddRow : OpenClaim := { program := "ytkfoeplefajkcaa", sum := "e4f437beba37be5c049d37ad79478886d7e155a450bd04ecfe1876e3637647a1", func := "loop.example/lapflow/laws.FnExactFlowAdd", spec := "fnExactFlowAdd", inPlace := ["slices.overlaps[loop.example/lapflow/impl.FlowFlight]", "slices.overlaps[int]"], unfollowed := true, recurses := true, apart := false }
def FnExactFlowAddSaid : Prop := fnExactFlowAddRow.holds Try.pinned (OpenSpec.ofChange fnExactFlowAddSpec)

/-- ITS FALSE NEIGHBOUR: 'it returns false'. Refute it at one input. -/
def fnExactFlowAddWrong : ChangeSpec := { name := "fnExactFlowAdd", fn := fun _ => fun
  | [d1, d2] => { results := [.lit (.bool false)], args := [d1, d2] }
  | _ => none }
def FnExactFlowAddWrongFalsely : Prop := fnExactFlowAddRow.holds Try.pinned (OpenSpec.ofChange fnExactFlowAddWrong)

/-- 'laws.FnExactFlowCompress': WHATEVER THE INPUT: true; the input reads as it did. -/
def fnExactFlowCompressSpec : ChangeSpec := { name := "fnExactFlowCompress", fn := fun _ => fun
  | [d] => { results := [.lit (.bool true)], args := [d] }
  | _ => none }
def fnExactFlowCompressRow : OpenClaim := { program := "ytkfoeplefajkcaa", sum := "e4f437beba37be5c049d37ad79478886d7e155a450bd04ecfe1876e3637647a1", func := "loop.example/lapflow/laws.FnExactFlowCompress", spec := "fnExactFlowCompress", inPlace := ["internal/reflectlite.ValueOf", "internal/reflectlite.Swapper", "(internal/reflectlite.Value).Len"], unfollowed := true, recurses := true, apart := false }
def FnExactFlowCompressSaid : Prop := fnExactFlowCompressRow.holds Try.pinned (OpenSpec.ofChange fnExactFlowCompressSpec)

/-- ITS FALSE NEIGHBOUR: 'it returns false'. Refute it at one input. -/
def fnExactFlowCompressWrong : ChangeSpec := { name := "fnExactFlowCompress", fn := fun _ => fun
  | [d] => { results := [.lit (.bool false)], args := [d] }
  | _ => none }
def FnExactFlowCompressWrongFalsely : Prop := fnExactFlowCompressRow.holds Try.pinned (OpenSpec.ofChange fnExactFlowCompressWrong)

/-- 'laws.FnExactFlowDrop': WHATEVER THE INPUT: true; the input reads as it did. -/
def fnExactFlowDropSpec : ChangeSpec := { name := "fnExactFlowDrop", fn := fun _ => fun
  | [d1, d2] => { results := [.lit (.bool true)], args := [d1, d2] }
  | _ => none }
def fnExactFlowDropRow : OpenClaim := { program := "ytkfoeplefajkcaa", sum := "e4f437beba37be5c049d37ad79478886d7e155a450bd04ecfe1876e3637647a1", func := "loop.example/lapflow/laws.FnExactFlowDrop", spec := "fnExactFlowDrop", inPlace := ["internal/reflectlite.ValueOf", "internal/reflectlite.Swapper", "(internal/reflectlite.Value).Len"], unfollowed := true, recurses := true, apart := false }
def FnExactFlowDropSaid : Prop := fnExactFlowDropRow.holds Try.pinned (OpenSpec.ofChange fnExactFlowDropSpec)

/-- ITS FALSE NEIGHBOUR: 'it returns false'. Refute it at one input. -/
def fnExactFlowDropWrong : ChangeSpec := { name := "fnExactFlowDrop", fn := fun _ => fun
  | [d1, d2] => { results := [.lit (.bool false)], args := [d1, d2] }
  | _ => none }
def FnExactFlowDropWrongFalsely : Prop := fnExactFlowDropRow.holds Try.pinned (OpenSpec.ofChange fnExactFlowDropWrong)

/-- 'laws.FnTop': WHATEVER THE INPUT: true; the input reads as it did. -/
def fnTopSpec : ChangeSpec := { name := "fnTop", fn := fun _ => fun
  | [d] => { results := [.lit (.bool true)], args := [d] }
  | _ => none }
def fnTopRow : OpenClaim := { program := "ytkfoeplefajkcaa", sum := "e4f437beba37be5c049d37ad79478886d7e155a450bd04ecfe1876e3637647a1", func := "loop.example/lapflow/laws.FnTop", spec := "fnTop", inPlace := ["internal/reflectlite.ValueOf", "internal/reflectlite.Swapper", "(internal/reflectlite.Value).Len", "slices.overlaps[loop.example/lapflow/impl.FlowFlight]", "slices.overlaps[int]"], unfollowed := true, recurses := true, apart := false }
def FnTopSaid : Prop := fnTopRow.holds Try.pinned (OpenSpec.ofChange fnTopSpec)

/-- ITS FALSE NEIGHBOUR: 'it returns false'. Refute it at one input. -/
def fnTopWrong : ChangeSpec := { name := "fnTop", fn := fun _ => fun
  | [d] => { results := [.lit (.bool false)], args := [d] }
  | _ => none }
def FnTopWrongFalsely : Prop := fnTopRow.holds Try.pinned (OpenSpec.ofChange fnTopWrong)

/-- 'laws.FnGive': WHATEVER THE INPUT: true; the input reads as it did. -/
def fnGiveSpec : ChangeSpec := { name := "fnGive", fn := fun _ => fun
  | [d] => { results := [.lit (.bool true)], args := [d] }
  | _ => none }
def fnGiveRow : OpenClaim := { program := "ytkfoeplefajkcaa", sum := "e4f437beba37be5c049d37ad79478886d7e155a450bd04ecfe1876e3637647a1", func := "loop.example/lapflow/laws.FnGive", spec := "fnGive", inPlace := ["internal/reflectlite.ValueOf", "internal/reflectlite.Swapper", "(internal/reflectlite.Value).Len"], unfollowed := true, recurses := true, apart := false }
def FnGiveSaid : Prop := fnGiveRow.holds Try.pinned (OpenSpec.ofChange fnGiveSpec)

/-- ITS FALSE NEIGHBOUR: 'it returns false'. Refute it at one input. -/
def fnGiveWrong : ChangeSpec := { name := "fnGive", fn := fun _ => fun
  | [d] => { results := [.lit (.bool false)], args := [d] }
  | _ => none }
def FnGiveWrongFalsely : Prop := fnGiveRow.holds Try.pinned (OpenSpec.ofChange fnGiveWrong)

/-- 'laws.FnLoad': WHATEVER THE INPUT: true; the input reads as it did. -/
def fnLoadSpec : ChangeSpec := { name := "fnLoad", fn := fun _ => fun
  | [d1, d2] => { results := [.lit (.bool true)], args := [d1, d2] }
  | _ => none }
def fnLoadRow : OpenClaim := { program := "ytkfoeplefajkcaa", sum := "e4f437beba37be5c049d37ad79478886d7e155a450bd04ecfe1876e3637647a1", func := "loop.example/lapflow/laws.FnLoad", spec := "fnLoad", recurses := true, apart := false }
def FnLoadSaid : Prop := fnLoadRow.holds Try.pinned (OpenSpec.ofChange fnLoadSpec)

/-- ITS FALSE NEIGHBOUR: 'it returns false'. Refute it at one input. -/
def fnLoadWrong : ChangeSpec := { name := "fnLoad", fn := fun _ => fun
  | [d1, d2] => { results := [.lit (.bool false)], args := [d1, d2] }
  | _ => none }
def FnLoadWrongFalsely : Prop := fnLoadRow.holds Try.pinned (OpenSpec.ofChange fnLoadWrong)

/-- 'laws.FnAdd': WHATEVER THE INPUT: true; the input reads as it did. -/
def fnAddSpec : ChangeSpec := { name := "fnAdd", fn := fun _ => fun
  | [d1, d2] => { results := [.lit (.bool true)], args := [d1, d2] }
  | _ => none }
def fnAddRow : OpenClaim := { program := "ytkfoeplefajkcaa", sum := "e4f437beba37be5c049d37ad79478886d7e155a450bd04ecfe1876e3637647a1", func := "loop.example/lapflow/laws.FnAdd", spec := "fnAdd", inPlace := ["slices.overlaps[loop.example/lapflow/impl.FlowFlight]", "slices.overlaps[int]", "internal/reflectlite.ValueOf", "internal/reflectlite.Swapper", "(internal/reflectlite.Value).Len"], unfollowed := true, recurses := true, apart := false }
def FnAddSaid : Prop := fnAddRow.holds Try.pinned (OpenSpec.ofChange fnAddSpec)

/-- ITS FALSE NEIGHBOUR: 'it returns false'. Refute it at one input. -/
def fnAddWrong : ChangeSpec := { name := "fnAdd", fn := fun _ => fun
  | [d1, d2] => { results := [.lit (.bool false)], args := [d1, d2] }
  | _ => none }
def FnAddWrongFalsely : Prop := fnAddRow.holds Try.pinned (OpenSpec.ofChange fnAddWrong)

/-- 'laws.FnBound': WHATEVER THE INPUT: true; the input reads as it did. -/
def fnBoundSpec : ChangeSpec := { name := "fnBound", fn := fun _ => fun
  | [d1, d2] => { results := [.lit (.bool true)], args := [d1, d2] }
  | _ => none }
def fnBoundRow : OpenClaim := { program := "ytkfoeplefajkcaa", sum := "e4f437beba37be5c049d37ad79478886d7e155a450bd04ecfe1876e3637647a1", func := "loop.example/lapflow/laws.FnBound", spec := "fnBound", inPlace := ["internal/reflectlite.ValueOf", "internal/reflectlite.Swapper", "(internal/reflectlite.Value).Len"], unfollowed := true, recurses := true, apart := false }
def FnBoundSaid : Prop := fnBoundRow.holds Try.pinned (OpenSpec.ofChange fnBoundSpec)

/-- ITS FALSE NEIGHBOUR: 'it returns false'. Refute it at one input. -/
def fnBoundWrong : ChangeSpec := { name := "fnBound", fn := fun _ => fun
  | [d1, d2] => { results := [.lit (.bool false)], args := [d1, d2] }
  | _ => none }
def FnBoundWrongFalsely : Prop := fnBoundRow.holds Try.pinned (OpenSpec.ofChange fnBoundWrong)

/- THE SECOND FORM. 'bulk': how many values and letters a reading holds, each counted each time it is reached (what is shared counts as often as it is met; a slice's spare places count too). A statement '..UptoSaid' is the law's where the arguments, and the package variables that the reading takes, are together of bulk at most 1048576: NARROWER than '..Said'. Prove '..Said' where nothing that the law and all that it calls make is longer than what came in: it says more and counts as full. Else prove '..UptoSaid'. A law counts once. -/
mutual
def uptoBulk {H : Type} : DataW H → Nat
  | .lit (.string bytes) => bytes.length + 1
  | .lit _ => 1
  | .nil => 1
  | .ptr d => uptoBulk d + 1
  | .slice elems spare => uptoBulkAll elems + uptoBulkAll spare + 1
  | .agg parts => uptoBulkAll parts + 1
  | .iface _ d => uptoBulk d + 1
  | .map entries => uptoBulkEntries entries + 1
  | .held _ => 1
def uptoBulkAll {H : Type} : List (DataW H) → Nat
  | [] => 0
  | d :: r => uptoBulk d + uptoBulkAll r
def uptoBulkEntries {H : Type} : List (Lit × DataW H) → Nat
  | [] => 0
  | x :: r => uptoBulkEntry x + uptoBulkEntries r
def uptoBulkEntry {H : Type} : Lit × DataW H → Nat
  | (.string bytes, d) => bytes.length + uptoBulk d + 1
  | (_, d) => uptoBulk d + 1
 end
def uptoSmall : (H : Type) → List (DataW H) → Bool := fun _ ds => decide (uptoBulkAll ds ≤ 1048576)
def OpenSpec.upto (s : _root_.Go.ChangeSpec) : _root_.Go.OpenSpec := { _root_.Go.OpenSpec.ofChange s with cond := some uptoSmall }

/-- 'laws.FnExactFlowOrder', WHERE WHAT IT READS IS OF BULK AT MOST 1048576: true; the input reads as it did. -/
def fnExactFlowOrderUptoRow : OpenClaim := { program := "ytkfoeplefajkcaa", sum := "e4f437beba37be5c049d37ad79478886d7e155a450bd04ecfe1876e3637647a1", func := "loop.example/lapflow/laws.FnExactFlowOrder", spec := "fnExactFlowOrder", inPlace := ["internal/reflectlite.ValueOf", "internal/reflectlite.Swapper", "(internal/reflectlite.Value).Len"], unfollowed := true, recurses := true, apart := false, narrowed := true }
def FnExactFlowOrderUptoSaid : Prop := fnExactFlowOrderUptoRow.holds Try.pinned (OpenSpec.upto fnExactFlowOrderSpec)

/-- 'laws.FnExactFlowGive', WHERE WHAT IT READS IS OF BULK AT MOST 1048576: true; the input reads as it did. -/
def fnExactFlowGiveUptoRow : OpenClaim := { program := "ytkfoeplefajkcaa", sum := "e4f437beba37be5c049d37ad79478886d7e155a450bd04ecfe1876e3637647a1", func := "loop.example/lapflow/laws.FnExactFlowGive", spec := "fnExactFlowGive", inPlace := ["internal/reflectlite.ValueOf", "internal/reflectlite.Swapper", "(internal/reflectlite.Value).Len"], unfollowed := true, recurses := true, apart := false, narrowed := true }
def FnExactFlowGiveUptoSaid : Prop := fnExactFlowGiveUptoRow.holds Try.pinned (OpenSpec.upto fnExactFlowGiveSpec)

/-- 'laws.FnExactFlowRuns', WHERE WHAT IT READS IS OF BULK AT MOST 1048576: true; the input reads as it did. -/
def fnExactFlowRunsUptoRow : OpenClaim := { program := "ytkfoeplefajkcaa", sum := "e4f437beba37be5c049d37ad79478886d7e155a450bd04ecfe1876e3637647a1", func := "loop.example/lapflow/laws.FnExactFlowRuns", spec := "fnExactFlowRuns", recurses := true, apart := false, narrowed := true }
def FnExactFlowRunsUptoSaid : Prop := fnExactFlowRunsUptoRow.holds Try.pinned (OpenSpec.upto fnExactFlowRunsSpec)

/-- 'laws.FnExactFlowAdd', WHERE WHAT IT READS IS OF BULK AT MOST 1048576: true; the input reads as it did. -/
def fnExactFlowAddUptoRow : OpenClaim := { program := "ytkfoeplefajkcaa", sum := "e4f437beba37be5c049d37ad79478886d7e155a450bd04ecfe1876e3637647a1", func := "loop.example/lapflow/laws.FnExactFlowAdd", spec := "fnExactFlowAdd", inPlace := ["slices.overlaps[loop.example/lapflow/impl.FlowFlight]", "slices.overlaps[int]"], unfollowed := true, recurses := true, apart := false, narrowed := true }
def FnExactFlowAddUptoSaid : Prop := fnExactFlowAddUptoRow.holds Try.pinned (OpenSpec.upto fnExactFlowAddSpec)

/-- 'laws.FnExactFlowCompress', WHERE WHAT IT READS IS OF BULK AT MOST 1048576: true; the input reads as it did. -/
def fnExactFlowCompressUptoRow : OpenClaim := { program := "ytkfoeplefajkcaa", sum := "e4f437beba37be5c049d37ad79478886d7e155a450bd04ecfe1876e3637647a1", func := "loop.example/lapflow/laws.FnExactFlowCompress", spec := "fnExactFlowCompress", inPlace := ["internal/reflectlite.ValueOf", "internal/reflectlite.Swapper", "(internal/reflectlite.Value).Len"], unfollowed := true, recurses := true, apart := false, narrowed := true }
def FnExactFlowCompressUptoSaid : Prop := fnExactFlowCompressUptoRow.holds Try.pinned (OpenSpec.upto fnExactFlowCompressSpec)

/-- 'laws.FnExactFlowDrop', WHERE WHAT IT READS IS OF BULK AT MOST 1048576: true; the input reads as it did. -/
def fnExactFlowDropUptoRow : OpenClaim := { program := "ytkfoeplefajkcaa", sum := "e4f437beba37be5c049d37ad79478886d7e155a450bd04ecfe1876e3637647a1", func := "loop.example/lapflow/laws.FnExactFlowDrop", spec := "fnExactFlowDrop", inPlace := ["internal/reflectlite.ValueOf", "internal/reflectlite.Swapper", "(internal/reflectlite.Value).Len"], unfollowed := true, recurses := true, apart := false, narrowed := true }
def FnExactFlowDropUptoSaid : Prop := fnExactFlowDropUptoRow.holds Try.pinned (OpenSpec.upto fnExactFlowDropSpec)

/-- 'laws.FnTop', WHERE WHAT IT READS IS OF BULK AT MOST 1048576: true; the input reads as it did. -/
def fnTopUptoRow : OpenClaim := { program := "ytkfoeplefajkcaa", sum := "e4f437beba37be5c049d37ad79478886d7e155a450bd04ecfe1876e3637647a1", func := "loop.example/lapflow/laws.FnTop", spec := "fnTop", inPlace := ["internal/reflectlite.ValueOf", "internal/reflectlite.Swapper", "(internal/reflectlite.Value).Len", "slices.overlaps[loop.example/lapflow/impl.FlowFlight]", "slices.overlaps[int]"], unfollowed := true, recurses := true, apart := false, narrowed := true }
def FnTopUptoSaid : Prop := fnTopUptoRow.holds Try.pinned (OpenSpec.upto fnTopSpec)

/-- 'laws.FnGive', WHERE WHAT IT READS IS OF BULK AT MOST 1048576: true; the input reads as it did. -/
def fnGiveUptoRow : OpenClaim := { program := "ytkfoeplefajkcaa", sum := "e4f437beba37be5c049d37ad79478886d7e155a450bd04ecfe1876e3637647a1", func := "loop.example/lapflow/laws.FnGive", spec := "fnGive", inPlace := ["internal/reflectlite.ValueOf", "internal/reflectlite.Swapper", "(internal/reflectlite.Value).Len"], unfollowed := true, recurses := true, apart := false, narrowed := true }
def FnGiveUptoSaid : Prop := fnGiveUptoRow.holds Try.pinned (OpenSpec.upto fnGiveSpec)

/-- 'laws.FnLoad', WHERE WHAT IT READS IS OF BULK AT MOST 1048576: true; the input reads as it did. -/
def fnLoadUptoRow : OpenClaim := { program := "ytkfoeplefajkcaa", sum := "e4f437beba37be5c049d37ad79478886d7e155a450bd04ecfe1876e3637647a1", func := "loop.example/lapflow/laws.FnLoad", spec := "fnLoad", recurses := true, apart := false, narrowed := true }
def FnLoadUptoSaid : Prop := fnLoadUptoRow.holds Try.pinned (OpenSpec.upto fnLoadSpec)

/-- 'laws.FnAdd', WHERE WHAT IT READS IS OF BULK AT MOST 1048576: true; the input reads as it did. -/
def fnAddUptoRow : OpenClaim := { program := "ytkfoeplefajkcaa", sum := "e4f437beba37be5c049d37ad79478886d7e155a450bd04ecfe1876e3637647a1", func := "loop.example/lapflow/laws.FnAdd", spec := "fnAdd", inPlace := ["slices.overlaps[loop.example/lapflow/impl.FlowFlight]", "slices.overlaps[int]", "internal/reflectlite.ValueOf", "internal/reflectlite.Swapper", "(internal/reflectlite.Value).Len"], unfollowed := true, recurses := true, apart := false, narrowed := true }
def FnAddUptoSaid : Prop := fnAddUptoRow.holds Try.pinned (OpenSpec.upto fnAddSpec)

/-- 'laws.FnBound', WHERE WHAT IT READS IS OF BULK AT MOST 1048576: true; the input reads as it did. -/
def fnBoundUptoRow : OpenClaim := { program := "ytkfoeplefajkcaa", sum := "e4f437beba37be5c049d37ad79478886d7e155a450bd04ecfe1876e3637647a1", func := "loop.example/lapflow/laws.FnBound", spec := "fnBound", inPlace := ["internal/reflectlite.ValueOf", "internal/reflectlite.Swapper", "(internal/reflectlite.Value).Len"], unfollowed := true, recurses := true, apart := false, narrowed := true }
def FnBoundUptoSaid : Prop := fnBoundUptoRow.holds Try.pinned (OpenSpec.upto fnBoundSpec)

end Rows
end Go.Proofs.Ytkfoeplefajkcaa
