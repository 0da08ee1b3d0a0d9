/-
  No cell of these rows narrows 'for every input' (looked for: loops, veiled, ifaces, maps, wideKeys, modest, calm, conditions, laid).
  DERIVED. THE GIVEN ROWS OF THIS SEAT. 12 by the template 'for every input the law returns true; each argument reads behind the call as it read before'; 0 by the template 'total and deterministic' (their statements: YteklmkoahhociaaTotals.lean).
  GIVEN WITH THE SEED: the statements are not yours to turn. If you find one false, say at which input.
  Laid BY PROGRAM, IN A SANDBOX (cutbox-rows.mjs): the forced cells as the released guide's own fill.sh prints them over the translation e7ebe0f46ba2abba… (all of the seat's roots in one cut). By AI agents, Wed Nov 11 2026. No macro, syntax, notation, axiom, sorry.
-/
import Derived.Test.YteklmkoahhociaaChecked
import GoSem.Claim
import GoSem.ClaimJoined
import GoSem.ClaimMapViews
import Derived.JoinedTies
import Derived.KernelRfl
namespace Go.Proofs.Yteklmkoahhociaa
/- THE CELL 'sum', in the pinned program and in every row, IS THE sha256 OF THE DUMP (.gsa) THAT YteklmkoahhociaaProg.lean LOADS. Nothing in Lean hashes anything: it is a label: what it is worth is what the hold of that sum in a sandbox is worth. -/
noncomputable def Try.pinned : Pinned := { name := "yteklmkoahhociaa", sum := "e7ebe0f46ba2abba922ebc8fd3aa076e0dbddc36693aedd6d56c77ff3e26f31e", checked := Try.checked }
namespace Rows
def none {H : Type} : Left H := { results := [], args := [] }

/-- 'laws.FnExactConstants': WHATEVER THE INPUT: true; the input reads as it did. -/
def fnExactConstantsSpec : ChangeSpec := { name := "fnExactConstants", fn := fun _ => fun
  | [] => { results := [.lit (.bool true)], args := [] }
  | _ => none }
def fnExactConstantsRow : OpenClaim := { program := "yteklmkoahhociaa", sum := "e7ebe0f46ba2abba922ebc8fd3aa076e0dbddc36693aedd6d56c77ff3e26f31e", func := "loop.example/lapflow/laws.FnExactConstants", spec := "fnExactConstants", apart := false }
def FnExactConstantsSaid : Prop := fnExactConstantsRow.holds Try.pinned (OpenSpec.ofChange fnExactConstantsSpec)

/-- ITS FALSE NEIGHBOUR: 'it returns false'. Refute it at one input. -/
def fnExactConstantsWrong : ChangeSpec := { name := "fnExactConstants", fn := fun _ => fun
  | [] => { results := [.lit (.bool false)], args := [] }
  | _ => none }
def FnExactConstantsWrongFalsely : Prop := fnExactConstantsRow.holds Try.pinned (OpenSpec.ofChange fnExactConstantsWrong)

/-- 'laws.FnExactFlowCapsOk': WHATEVER THE INPUT: true; the input reads as it did. -/
def fnExactFlowCapsOkSpec : ChangeSpec := { name := "fnExactFlowCapsOk", fn := fun _ => fun
  | [d] => { results := [.lit (.bool true)], args := [d] }
  | _ => none }
def fnExactFlowCapsOkRow : OpenClaim := { program := "yteklmkoahhociaa", sum := "e7ebe0f46ba2abba922ebc8fd3aa076e0dbddc36693aedd6d56c77ff3e26f31e", func := "loop.example/lapflow/laws.FnExactFlowCapsOk", spec := "fnExactFlowCapsOk", apart := false }
def FnExactFlowCapsOkSaid : Prop := fnExactFlowCapsOkRow.holds Try.pinned (OpenSpec.ofChange fnExactFlowCapsOkSpec)

/-- ITS FALSE NEIGHBOUR: 'it returns false'. Refute it at one input. -/
def fnExactFlowCapsOkWrong : ChangeSpec := { name := "fnExactFlowCapsOk", fn := fun _ => fun
  | [d] => { results := [.lit (.bool false)], args := [d] }
  | _ => none }
def FnExactFlowCapsOkWrongFalsely : Prop := fnExactFlowCapsOkRow.holds Try.pinned (OpenSpec.ofChange fnExactFlowCapsOkWrong)

/-- 'laws.FnExactFlowFlightsOk': WHATEVER THE INPUT: true; the input reads as it did. -/
def fnExactFlowFlightsOkSpec : ChangeSpec := { name := "fnExactFlowFlightsOk", fn := fun _ => fun
  | [d] => { results := [.lit (.bool true)], args := [d] }
  | _ => none }
def fnExactFlowFlightsOkRow : OpenClaim := { program := "yteklmkoahhociaa", sum := "e7ebe0f46ba2abba922ebc8fd3aa076e0dbddc36693aedd6d56c77ff3e26f31e", func := "loop.example/lapflow/laws.FnExactFlowFlightsOk", spec := "fnExactFlowFlightsOk", apart := false }
def FnExactFlowFlightsOkSaid : Prop := fnExactFlowFlightsOkRow.holds Try.pinned (OpenSpec.ofChange fnExactFlowFlightsOkSpec)

/-- ITS FALSE NEIGHBOUR: 'it returns false'. Refute it at one input. -/
def fnExactFlowFlightsOkWrong : ChangeSpec := { name := "fnExactFlowFlightsOk", fn := fun _ => fun
  | [d] => { results := [.lit (.bool false)], args := [d] }
  | _ => none }
def FnExactFlowFlightsOkWrongFalsely : Prop := fnExactFlowFlightsOkRow.holds Try.pinned (OpenSpec.ofChange fnExactFlowFlightsOkWrong)

/-- 'laws.FnExactFlowDelay': WHATEVER THE INPUT: true; the input reads as it did. -/
def fnExactFlowDelaySpec : ChangeSpec := { name := "fnExactFlowDelay", fn := fun _ => fun
  | [d1, d2] => { results := [.lit (.bool true)], args := [d1, d2] }
  | _ => none }
def fnExactFlowDelayRow : OpenClaim := { program := "yteklmkoahhociaa", sum := "e7ebe0f46ba2abba922ebc8fd3aa076e0dbddc36693aedd6d56c77ff3e26f31e", func := "loop.example/lapflow/laws.FnExactFlowDelay", spec := "fnExactFlowDelay", apart := false }
def FnExactFlowDelaySaid : Prop := fnExactFlowDelayRow.holds Try.pinned (OpenSpec.ofChange fnExactFlowDelaySpec)

/-- ITS FALSE NEIGHBOUR: 'it returns false'. Refute it at one input. -/
def fnExactFlowDelayWrong : ChangeSpec := { name := "fnExactFlowDelay", fn := fun _ => fun
  | [d1, d2] => { results := [.lit (.bool false)], args := [d1, d2] }
  | _ => none }
def FnExactFlowDelayWrongFalsely : Prop := fnExactFlowDelayRow.holds Try.pinned (OpenSpec.ofChange fnExactFlowDelayWrong)

/-- 'laws.FnExactFlowLoad': WHATEVER THE INPUT: true; the input reads as it did. -/
def fnExactFlowLoadSpec : ChangeSpec := { name := "fnExactFlowLoad", fn := fun _ => fun
  | [d1, d2, d3, d4] => { results := [.lit (.bool true)], args := [d1, d2, d3, d4] }
  | _ => none }
def fnExactFlowLoadRow : OpenClaim := { program := "yteklmkoahhociaa", sum := "e7ebe0f46ba2abba922ebc8fd3aa076e0dbddc36693aedd6d56c77ff3e26f31e", func := "loop.example/lapflow/laws.FnExactFlowLoad", spec := "fnExactFlowLoad", apart := false }
def FnExactFlowLoadSaid : Prop := fnExactFlowLoadRow.holds Try.pinned (OpenSpec.ofChange fnExactFlowLoadSpec)

/-- ITS FALSE NEIGHBOUR: 'it returns false'. Refute it at one input. -/
def fnExactFlowLoadWrong : ChangeSpec := { name := "fnExactFlowLoad", fn := fun _ => fun
  | [d1, d2, d3, d4] => { results := [.lit (.bool false)], args := [d1, d2, d3, d4] }
  | _ => none }
def FnExactFlowLoadWrongFalsely : Prop := fnExactFlowLoadRow.holds Try.pinned (OpenSpec.ofChange fnExactFlowLoadWrong)

/-- 'laws.FnExactFlowFits': WHATEVER THE INPUT: true; the input reads as it did. -/
def fnExactFlowFitsSpec : ChangeSpec := { name := "fnExactFlowFits", fn := fun _ => fun
  | [d1, d2, d3] => { results := [.lit (.bool true)], args := [d1, d2, d3] }
  | _ => none }
def fnExactFlowFitsRow : OpenClaim := { program := "yteklmkoahhociaa", sum := "e7ebe0f46ba2abba922ebc8fd3aa076e0dbddc36693aedd6d56c77ff3e26f31e", func := "loop.example/lapflow/laws.FnExactFlowFits", spec := "fnExactFlowFits", apart := false }
def FnExactFlowFitsSaid : Prop := fnExactFlowFitsRow.holds Try.pinned (OpenSpec.ofChange fnExactFlowFitsSpec)

/-- ITS FALSE NEIGHBOUR: 'it returns false'. Refute it at one input. -/
def fnExactFlowFitsWrong : ChangeSpec := { name := "fnExactFlowFits", fn := fun _ => fun
  | [d1, d2, d3] => { results := [.lit (.bool false)], args := [d1, d2, d3] }
  | _ => none }
def FnExactFlowFitsWrongFalsely : Prop := fnExactFlowFitsRow.holds Try.pinned (OpenSpec.ofChange fnExactFlowFitsWrong)

/-- 'laws.FnExactFlowOrder': WHATEVER THE INPUT: true; the input reads as it did. -/
def fnExactFlowOrderSpec : ChangeSpec := { name := "fnExactFlowOrder", fn := fun _ => fun
  | [d] => { results := [.lit (.bool true)], args := [d] }
  | _ => none }
def fnExactFlowOrderRow : OpenClaim := { program := "yteklmkoahhociaa", sum := "e7ebe0f46ba2abba922ebc8fd3aa076e0dbddc36693aedd6d56c77ff3e26f31e", func := "loop.example/lapflow/laws.FnExactFlowOrder", spec := "fnExactFlowOrder", inPlace := ["internal/reflectlite.ValueOf", "internal/reflectlite.Swapper", "(internal/reflectlite.Value).Len"], unfollowed := true, recurses := true, apart := false }
def FnExactFlowOrderSaid : Prop := fnExactFlowOrderRow.holds Try.pinned (OpenSpec.ofChange fnExactFlowOrderSpec)

/-- ITS FALSE NEIGHBOUR: 'it returns false'. Refute it at one input. -/
def fnExactFlowOrderWrong : ChangeSpec := { name := "fnExactFlowOrder", fn := fun _ => fun
  | [d] => { results := [.lit (.bool false)], args := [d] }
  | _ => none }
def FnExactFlowOrderWrongFalsely : Prop := fnExactFlowOrderRow.holds Try.pinned (OpenSpec.ofChange fnExactFlowOrderWrong)

/-- 'laws.FnExactFlowLeast': WHATEVER THE INPUT: true; the input reads as it did. -/
def fnExactFlowLeastSpec : ChangeSpec := { name := "fnExactFlowLeast", fn := fun _ => fun
  | [d1, d2, d3, d4] => { results := [.lit (.bool true)], args := [d1, d2, d3, d4] }
  | _ => none }
def fnExactFlowLeastRow : OpenClaim := { program := "yteklmkoahhociaa", sum := "e7ebe0f46ba2abba922ebc8fd3aa076e0dbddc36693aedd6d56c77ff3e26f31e", func := "loop.example/lapflow/laws.FnExactFlowLeast", spec := "fnExactFlowLeast", apart := false }
def FnExactFlowLeastSaid : Prop := fnExactFlowLeastRow.holds Try.pinned (OpenSpec.ofChange fnExactFlowLeastSpec)

/-- ITS FALSE NEIGHBOUR: 'it returns false'. Refute it at one input. -/
def fnExactFlowLeastWrong : ChangeSpec := { name := "fnExactFlowLeast", fn := fun _ => fun
  | [d1, d2, d3, d4] => { results := [.lit (.bool false)], args := [d1, d2, d3, d4] }
  | _ => none }
def FnExactFlowLeastWrongFalsely : Prop := fnExactFlowLeastRow.holds Try.pinned (OpenSpec.ofChange fnExactFlowLeastWrong)

/-- 'laws.FnExactFlowBookOk': WHATEVER THE INPUT: true; the input reads as it did. -/
def fnExactFlowBookOkSpec : ChangeSpec := { name := "fnExactFlowBookOk", fn := fun _ => fun
  | [d] => { results := [.lit (.bool true)], args := [d] }
  | _ => none }
def fnExactFlowBookOkRow : OpenClaim := { program := "yteklmkoahhociaa", sum := "e7ebe0f46ba2abba922ebc8fd3aa076e0dbddc36693aedd6d56c77ff3e26f31e", func := "loop.example/lapflow/laws.FnExactFlowBookOk", spec := "fnExactFlowBookOk", apart := false }
def FnExactFlowBookOkSaid : Prop := fnExactFlowBookOkRow.holds Try.pinned (OpenSpec.ofChange fnExactFlowBookOkSpec)

/-- ITS FALSE NEIGHBOUR: 'it returns false'. Refute it at one input. -/
def fnExactFlowBookOkWrong : ChangeSpec := { name := "fnExactFlowBookOk", fn := fun _ => fun
  | [d] => { results := [.lit (.bool false)], args := [d] }
  | _ => none }
def FnExactFlowBookOkWrongFalsely : Prop := fnExactFlowBookOkRow.holds Try.pinned (OpenSpec.ofChange fnExactFlowBookOkWrong)

/-- 'laws.FnExactFlowStable': WHATEVER THE INPUT: true; the input reads as it did. -/
def fnExactFlowStableSpec : ChangeSpec := { name := "fnExactFlowStable", fn := fun _ => fun
  | [d] => { results := [.lit (.bool true)], args := [d] }
  | _ => none }
def fnExactFlowStableRow : OpenClaim := { program := "yteklmkoahhociaa", sum := "e7ebe0f46ba2abba922ebc8fd3aa076e0dbddc36693aedd6d56c77ff3e26f31e", func := "loop.example/lapflow/laws.FnExactFlowStable", spec := "fnExactFlowStable", apart := false }
def FnExactFlowStableSaid : Prop := fnExactFlowStableRow.holds Try.pinned (OpenSpec.ofChange fnExactFlowStableSpec)

/-- ITS FALSE NEIGHBOUR: 'it returns false'. Refute it at one input. -/
def fnExactFlowStableWrong : ChangeSpec := { name := "fnExactFlowStable", fn := fun _ => fun
  | [d] => { results := [.lit (.bool false)], args := [d] }
  | _ => none }
def FnExactFlowStableWrongFalsely : Prop := fnExactFlowStableRow.holds Try.pinned (OpenSpec.ofChange fnExactFlowStableWrong)

/-- 'laws.FnExactFlowBound': WHATEVER THE INPUT: true; the input reads as it did. -/
def fnExactFlowBoundSpec : ChangeSpec := { name := "fnExactFlowBound", fn := fun _ => fun
  | [d1, d2, d3] => { results := [.lit (.bool true)], args := [d1, d2, d3] }
  | _ => none }
def fnExactFlowBoundRow : OpenClaim := { program := "yteklmkoahhociaa", sum := "e7ebe0f46ba2abba922ebc8fd3aa076e0dbddc36693aedd6d56c77ff3e26f31e", func := "loop.example/lapflow/laws.FnExactFlowBound", spec := "fnExactFlowBound", recurses := true, apart := false }
def FnExactFlowBoundSaid : Prop := fnExactFlowBoundRow.holds Try.pinned (OpenSpec.ofChange fnExactFlowBoundSpec)

/-- ITS FALSE NEIGHBOUR: 'it returns false'. Refute it at one input. -/
def fnExactFlowBoundWrong : ChangeSpec := { name := "fnExactFlowBound", fn := fun _ => fun
  | [d1, d2, d3] => { results := [.lit (.bool false)], args := [d1, d2, d3] }
  | _ => none }
def FnExactFlowBoundWrongFalsely : Prop := fnExactFlowBoundRow.holds Try.pinned (OpenSpec.ofChange fnExactFlowBoundWrong)

/-- 'laws.FnExactFlowGive': WHATEVER THE INPUT: true; the input reads as it did. -/
def fnExactFlowGiveSpec : ChangeSpec := { name := "fnExactFlowGive", fn := fun _ => fun
  | [d1, d2] => { results := [.lit (.bool true)], args := [d1, d2] }
  | _ => none }
def fnExactFlowGiveRow : OpenClaim := { program := "yteklmkoahhociaa", sum := "e7ebe0f46ba2abba922ebc8fd3aa076e0dbddc36693aedd6d56c77ff3e26f31e", func := "loop.example/lapflow/laws.FnExactFlowGive", spec := "fnExactFlowGive", inPlace := ["internal/reflectlite.ValueOf", "internal/reflectlite.Swapper", "(internal/reflectlite.Value).Len"], unfollowed := true, recurses := true, apart := false }
def FnExactFlowGiveSaid : Prop := fnExactFlowGiveRow.holds Try.pinned (OpenSpec.ofChange fnExactFlowGiveSpec)

/-- ITS FALSE NEIGHBOUR: 'it returns false'. Refute it at one input. -/
def fnExactFlowGiveWrong : ChangeSpec := { name := "fnExactFlowGive", fn := fun _ => fun
  | [d1, d2] => { results := [.lit (.bool false)], args := [d1, d2] }
  | _ => none }
def FnExactFlowGiveWrongFalsely : Prop := fnExactFlowGiveRow.holds Try.pinned (OpenSpec.ofChange fnExactFlowGiveWrong)

/- THE SECOND FORM. 'bulk': how many values and letters a reading holds, each counted each time it is reached (what is shared counts as often as it is met; a slice's spare places count too). A statement '..UptoSaid' is the law's where the arguments, and the package variables that the reading takes, are together of bulk at most 1048576: NARROWER than '..Said'. Prove '..Said' where nothing that the law and all that it calls make is longer than what came in: it says more and counts as full. Else prove '..UptoSaid'. A law counts once. -/
mutual
def uptoBulk {H : Type} : DataW H → Nat
  | .lit (.string bytes) => bytes.length + 1
  | .lit _ => 1
  | .nil => 1
  | .ptr d => uptoBulk d + 1
  | .slice elems spare => uptoBulkAll elems + uptoBulkAll spare + 1
  | .agg parts => uptoBulkAll parts + 1
  | .iface _ d => uptoBulk d + 1
  | .map entries => uptoBulkEntries entries + 1
  | .held _ => 1
def uptoBulkAll {H : Type} : List (DataW H) → Nat
  | [] => 0
  | d :: r => uptoBulk d + uptoBulkAll r
def uptoBulkEntries {H : Type} : List (Lit × DataW H) → Nat
  | [] => 0
  | x :: r => uptoBulkEntry x + uptoBulkEntries r
def uptoBulkEntry {H : Type} : Lit × DataW H → Nat
  | (.string bytes, d) => bytes.length + uptoBulk d + 1
  | (_, d) => uptoBulk d + 1
 end
def uptoSmall : (H : Type) → List (DataW H) → Bool := fun _ ds => decide (uptoBulkAll ds ≤ 1048576)
def OpenSpec.upto (s : _root_.Go.ChangeSpec) : _root_.Go.OpenSpec := { _root_.Go.OpenSpec.ofChange s with cond := some uptoSmall }

/-- 'laws.FnExactConstants', WHERE WHAT IT READS IS OF BULK AT MOST 1048576: true; the input reads as it did. -/
def fnExactConstantsUptoRow : OpenClaim := { program := "yteklmkoahhociaa", sum := "e7ebe0f46ba2abba922ebc8fd3aa076e0dbddc36693aedd6d56c77ff3e26f31e", func := "loop.example/lapflow/laws.FnExactConstants", spec := "fnExactConstants", apart := false, narrowed := true }
def FnExactConstantsUptoSaid : Prop := fnExactConstantsUptoRow.holds Try.pinned (OpenSpec.upto fnExactConstantsSpec)

/-- 'laws.FnExactFlowCapsOk', WHERE WHAT IT READS IS OF BULK AT MOST 1048576: true; the input reads as it did. -/
def fnExactFlowCapsOkUptoRow : OpenClaim := { program := "yteklmkoahhociaa", sum := "e7ebe0f46ba2abba922ebc8fd3aa076e0dbddc36693aedd6d56c77ff3e26f31e", func := "loop.example/lapflow/laws.FnExactFlowCapsOk", spec := "fnExactFlowCapsOk", apart := false, narrowed := true }
def FnExactFlowCapsOkUptoSaid : Prop := fnExactFlowCapsOkUptoRow.holds Try.pinned (OpenSpec.upto fnExactFlowCapsOkSpec)

/-- 'laws.FnExactFlowFlightsOk', WHERE WHAT IT READS IS OF BULK AT MOST 1048576: true; the input reads as it did. -/
def fnExactFlowFlightsOkUptoRow : OpenClaim := { program := "yteklmkoahhociaa", sum := "e7ebe0f46ba2abba922ebc8fd3aa076e0dbddc36693aedd6d56c77ff3e26f31e", func := "loop.example/lapflow/laws.FnExactFlowFlightsOk", spec := "fnExactFlowFlightsOk", apart := false, narrowed := true }
def FnExactFlowFlightsOkUptoSaid : Prop := fnExactFlowFlightsOkUptoRow.holds Try.pinned (OpenSpec.upto fnExactFlowFlightsOkSpec)

/-- 'laws.FnExactFlowDelay', WHERE WHAT IT READS IS OF BULK AT MOST 1048576: true; the input reads as it did. -/
def fnExactFlowDelayUptoRow : OpenClaim := { program := "yteklmkoahhociaa", sum := "e7ebe0f46ba2abba922ebc8fd3aa076e0dbddc36693aedd6d56c77ff3e26f31e", func := "loop.example/lapflow/laws.FnExactFlowDelay", spec := "fnExactFlowDelay", apart := false, narrowed := true }
def FnExactFlowDelayUptoSaid : Prop := fnExactFlowDelayUptoRow.holds Try.pinned (OpenSpec.upto fnExactFlowDelaySpec)

/-- 'laws.FnExactFlowLoad', WHERE WHAT IT READS IS OF BULK AT MOST 1048576: true; the input reads as it did. -/
def fnExactFlowLoadUptoRow : OpenClaim := { program := "yteklmkoahhociaa", sum := "e7ebe0f46ba2abba922ebc8fd3aa076e0dbddc36693aedd6d56c77ff3e26f31e", func := "loop.example/lapflow/laws.FnExactFlowLoad", spec := "fnExactFlowLoad", apart := false, narrowed := true }
def FnExactFlowLoadUptoSaid : Prop := fnExactFlowLoadUptoRow.holds Try.pinned (OpenSpec.upto fnExactFlowLoadSpec)

/-- 'laws.FnExactFlowFits', WHERE WHAT IT READS IS OF BULK AT MOST 1048576: true; the input reads as it did. -/
def fnExactFlowFitsUptoRow : OpenClaim := { program := "yteklmkoahhociaa", sum := "e7ebe0f46ba2abba922ebc8fd3aa076e0dbddc36693aedd6d56c77ff3e26f31e", func := "loop.example/lapflow/laws.FnExactFlowFits", spec := "fnExactFlowFits", apart := false, narrowed := true }
def FnExactFlowFitsUptoSaid : Prop := fnExactFlowFitsUptoRow.holds Try.pinned (OpenSpec.upto fnExactFlowFitsSpec)

/-- 'laws.FnExactFlowOrder', WHERE WHAT IT READS IS OF BULK AT MOST 1048576: true; the input reads as it did. -/
def fnExactFlowOrderUptoRow : OpenClaim := { program := "yteklmkoahhociaa", sum := "e7ebe0f46ba2abba922ebc8fd3aa076e0dbddc36693aedd6d56c77ff3e26f31e", func := "loop.example/lapflow/laws.FnExactFlowOrder", spec := "fnExactFlowOrder", inPlace := ["internal/reflectlite.ValueOf", "internal/reflectlite.Swapper", "(internal/reflectlite.Value).Len"], unfollowed := true, recurses := true, apart := false, narrowed := true }
def FnExactFlowOrderUptoSaid : Prop := fnExactFlowOrderUptoRow.holds Try.pinned (OpenSpec.upto fnExactFlowOrderSpec)

/-- 'laws.FnExactFlowLeast', WHERE WHAT IT READS IS OF BULK AT MOST 1048576: true; the input reads as it did. -/
def fnExactFlowLeastUptoRow : OpenClaim := { program := "yteklmkoahhociaa", sum := "e7ebe0f46ba2abba922ebc8fd3aa076e0dbddc36693aedd6d56c77ff3e26f31e", func := "loop.example/lapflow/laws.FnExactFlowLeast", spec := "fnExactFlowLeast", apart := false, narrowed := true }
def FnExactFlowLeastUptoSaid : Prop := fnExactFlowLeastUptoRow.holds Try.pinned (OpenSpec.upto fnExactFlowLeastSpec)

/-- 'laws.FnExactFlowBookOk', WHERE WHAT IT READS IS OF BULK AT MOST 1048576: true; the input reads as it did. -/
def fnExactFlowBookOkUptoRow : OpenClaim := { program := "yteklmkoahhociaa", sum := "e7ebe0f46ba2abba922ebc8fd3aa076e0dbddc36693aedd6d56c77ff3e26f31e", func := "loop.example/lapflow/laws.FnExactFlowBookOk", spec := "fnExactFlowBookOk", apart := false, narrowed := true }
def FnExactFlowBookOkUptoSaid : Prop := fnExactFlowBookOkUptoRow.holds Try.pinned (OpenSpec.upto fnExactFlowBookOkSpec)

/-- 'laws.FnExactFlowStable', WHERE WHAT IT READS IS OF BULK AT MOST 1048576: true; the input reads as it did. -/
def fnExactFlowStableUptoRow : OpenClaim := { program := "yteklmkoahhociaa", sum := "e7ebe0f46ba2abba922ebc8fd3aa076e0dbddc36693aedd6d56c77ff3e26f31e", func := "loop.example/lapflow/laws.FnExactFlowStable", spec := "fnExactFlowStable", apart := false, narrowed := true }
def FnExactFlowStableUptoSaid : Prop := fnExactFlowStableUptoRow.holds Try.pinned (OpenSpec.upto fnExactFlowStableSpec)

/-- 'laws.FnExactFlowBound', WHERE WHAT IT READS IS OF BULK AT MOST 1048576: true; the input reads as it did. -/
def fnExactFlowBoundUptoRow : OpenClaim := { program := "yteklmkoahhociaa", sum := "e7ebe0f46ba2abba922ebc8fd3aa076e0dbddc36693aedd6d56c77ff3e26f31e", func := "loop.example/lapflow/laws.FnExactFlowBound", spec := "fnExactFlowBound", recurses := true, apart := false, narrowed := true }
def FnExactFlowBoundUptoSaid : Prop := fnExactFlowBoundUptoRow.holds Try.pinned (OpenSpec.upto fnExactFlowBoundSpec)

/-- 'laws.FnExactFlowGive', WHERE WHAT IT READS IS OF BULK AT MOST 1048576: true; the input reads as it did. -/
def fnExactFlowGiveUptoRow : OpenClaim := { program := "yteklmkoahhociaa", sum := "e7ebe0f46ba2abba922ebc8fd3aa076e0dbddc36693aedd6d56c77ff3e26f31e", func := "loop.example/lapflow/laws.FnExactFlowGive", spec := "fnExactFlowGive", inPlace := ["internal/reflectlite.ValueOf", "internal/reflectlite.Swapper", "(internal/reflectlite.Value).Len"], unfollowed := true, recurses := true, apart := false, narrowed := true }
def FnExactFlowGiveUptoSaid : Prop := fnExactFlowGiveUptoRow.holds Try.pinned (OpenSpec.upto fnExactFlowGiveSpec)

end Rows
end Go.Proofs.Yteklmkoahhociaa
