/-
  No cell of these rows narrows 'for every input' (looked for: loops, veiled, ifaces, maps, wideKeys, modest, calm, conditions, laid).
  DERIVED. THE GIVEN ROWS OF THIS SEAT. 6 by the template 'for every input the law returns true; each argument reads behind the call as it read before'; 0 by the template 'total and deterministic' (their statements: YtfdidnfkcmbgiaaTotals.lean).
  GIVEN WITH THE SEED: the statements are not yours to turn. If you find one false, say at which input.
  Laid BY PROGRAM, IN A SANDBOX (cutbox-rows.mjs): the forced cells as the released guide's own fill.sh prints them over the translation 1f7b435773c70a8d… (all of the seat's roots in one cut). By AI agents, Wed Nov 11 2026. No macro, syntax, notation, axiom, sorry.
-/
import Derived.Test.YtfdidnfkcmbgiaaChecked
import GoSem.Claim
import GoSem.ClaimJoined
import GoSem.ClaimMapViews
import Derived.JoinedTies
import Derived.KernelRfl
namespace Go.Proofs.Ytfdidnfkcmbgiaa
/- THE CELL 'sum', in the pinned program and in every row, IS THE sha256 OF THE DUMP (.gsa) THAT YtfdidnfkcmbgiaaProg.lean LOADS. Nothing in Lean hashes anything: it is a label: what it is worth is what the hold of that sum in a sandbox is worth. -/
noncomputable def Try.pinned : Pinned := { name := "ytfdidnfkcmbgiaa", sum := "1f7b435773c70a8d17045d3bcdcecdbc410006530ccdd720d3da400a4fd9e680", checked := Try.checked }
namespace Rows
def none {H : Type} : Left H := { results := [], args := [] }

/-- 'bikesharelaw29.DaycapApplies': WHATEVER THE INPUT: true; the input reads as it did. -/
def daycapAppliesSpec : ChangeSpec := { name := "daycapApplies", fn := fun _ => fun
  | [d1, d2, d3, d4] => { results := [.lit (.bool true)], args := [d1, d2, d3, d4] }
  | _ => none }
def daycapAppliesRow : OpenClaim := { program := "ytfdidnfkcmbgiaa", sum := "1f7b435773c70a8d17045d3bcdcecdbc410006530ccdd720d3da400a4fd9e680", func := "bikeshare/bikesharelaw29.DaycapApplies", spec := "daycapApplies", plainKeys := false, apart := false }
def DaycapAppliesSaid : Prop := daycapAppliesRow.holds Try.pinned (OpenSpec.ofChange daycapAppliesSpec)

/-- ITS FALSE NEIGHBOUR: 'it returns false'. Refute it at one input. -/
def daycapAppliesWrong : ChangeSpec := { name := "daycapApplies", fn := fun _ => fun
  | [d1, d2, d3, d4] => { results := [.lit (.bool false)], args := [d1, d2, d3, d4] }
  | _ => none }
def DaycapAppliesWrongFalsely : Prop := daycapAppliesRow.holds Try.pinned (OpenSpec.ofChange daycapAppliesWrong)

/-- 'bikesharelaw29.DaycapSums': WHATEVER THE INPUT: true; the input reads as it did. -/
def daycapSumsSpec : ChangeSpec := { name := "daycapSums", fn := fun _ => fun
  | [d1, d2, d3, d4] => { results := [.lit (.bool true)], args := [d1, d2, d3, d4] }
  | _ => none }
def daycapSumsRow : OpenClaim := { program := "ytfdidnfkcmbgiaa", sum := "1f7b435773c70a8d17045d3bcdcecdbc410006530ccdd720d3da400a4fd9e680", func := "bikeshare/bikesharelaw29.DaycapSums", spec := "daycapSums", plainKeys := false, apart := false }
def DaycapSumsSaid : Prop := daycapSumsRow.holds Try.pinned (OpenSpec.ofChange daycapSumsSpec)

/-- ITS FALSE NEIGHBOUR: 'it returns false'. Refute it at one input. -/
def daycapSumsWrong : ChangeSpec := { name := "daycapSums", fn := fun _ => fun
  | [d1, d2, d3, d4] => { results := [.lit (.bool false)], args := [d1, d2, d3, d4] }
  | _ => none }
def DaycapSumsWrongFalsely : Prop := daycapSumsRow.holds Try.pinned (OpenSpec.ofChange daycapSumsWrong)

/-- 'bikesharelaw29.DaycapExact': WHATEVER THE INPUT: true; the input reads as it did. -/
def daycapExactSpec : ChangeSpec := { name := "daycapExact", fn := fun _ => fun
  | [d1, d2] => { results := [.lit (.bool true)], args := [d1, d2] }
  | _ => none }
def daycapExactRow : OpenClaim := { program := "ytfdidnfkcmbgiaa", sum := "1f7b435773c70a8d17045d3bcdcecdbc410006530ccdd720d3da400a4fd9e680", func := "bikeshare/bikesharelaw29.DaycapExact", spec := "daycapExact", plainKeys := false, apart := false }
def DaycapExactSaid : Prop := daycapExactRow.holds Try.pinned (OpenSpec.ofChange daycapExactSpec)

/-- ITS FALSE NEIGHBOUR: 'it returns false'. Refute it at one input. -/
def daycapExactWrong : ChangeSpec := { name := "daycapExact", fn := fun _ => fun
  | [d1, d2] => { results := [.lit (.bool false)], args := [d1, d2] }
  | _ => none }
def DaycapExactWrongFalsely : Prop := daycapExactRow.holds Try.pinned (OpenSpec.ofChange daycapExactWrong)

/-- 'bikesharelaw29.DaycapStops': WHATEVER THE INPUT: true; the input reads as it did. -/
def daycapStopsSpec : ChangeSpec := { name := "daycapStops", fn := fun _ => fun
  | [d1, d2] => { results := [.lit (.bool true)], args := [d1, d2] }
  | _ => none }
def daycapStopsRow : OpenClaim := { program := "ytfdidnfkcmbgiaa", sum := "1f7b435773c70a8d17045d3bcdcecdbc410006530ccdd720d3da400a4fd9e680", func := "bikeshare/bikesharelaw29.DaycapStops", spec := "daycapStops", plainKeys := false, apart := false }
def DaycapStopsSaid : Prop := daycapStopsRow.holds Try.pinned (OpenSpec.ofChange daycapStopsSpec)

/-- ITS FALSE NEIGHBOUR: 'it returns false'. Refute it at one input. -/
def daycapStopsWrong : ChangeSpec := { name := "daycapStops", fn := fun _ => fun
  | [d1, d2] => { results := [.lit (.bool false)], args := [d1, d2] }
  | _ => none }
def DaycapStopsWrongFalsely : Prop := daycapStopsRow.holds Try.pinned (OpenSpec.ofChange daycapStopsWrong)

/-- 'bikesharelaw29.DaycapSequence': WHATEVER THE INPUT: true; the input reads as it did. -/
def daycapSequenceSpec : ChangeSpec := { name := "daycapSequence", fn := fun _ => fun
  | [d1, d2, d3] => { results := [.lit (.bool true)], args := [d1, d2, d3] }
  | _ => none }
def daycapSequenceRow : OpenClaim := { program := "ytfdidnfkcmbgiaa", sum := "1f7b435773c70a8d17045d3bcdcecdbc410006530ccdd720d3da400a4fd9e680", func := "bikeshare/bikesharelaw29.DaycapSequence", spec := "daycapSequence", plainKeys := false, apart := false }
def DaycapSequenceSaid : Prop := daycapSequenceRow.holds Try.pinned (OpenSpec.ofChange daycapSequenceSpec)

/-- ITS FALSE NEIGHBOUR: 'it returns false'. Refute it at one input. -/
def daycapSequenceWrong : ChangeSpec := { name := "daycapSequence", fn := fun _ => fun
  | [d1, d2, d3] => { results := [.lit (.bool false)], args := [d1, d2, d3] }
  | _ => none }
def DaycapSequenceWrongFalsely : Prop := daycapSequenceRow.holds Try.pinned (OpenSpec.ofChange daycapSequenceWrong)

/-- 'bikesharelaw29.DaycapGrows': WHATEVER THE INPUT: true; the input reads as it did. -/
def daycapGrowsSpec : ChangeSpec := { name := "daycapGrows", fn := fun _ => fun
  | [d1, d2] => { results := [.lit (.bool true)], args := [d1, d2] }
  | _ => none }
def daycapGrowsRow : OpenClaim := { program := "ytfdidnfkcmbgiaa", sum := "1f7b435773c70a8d17045d3bcdcecdbc410006530ccdd720d3da400a4fd9e680", func := "bikeshare/bikesharelaw29.DaycapGrows", spec := "daycapGrows", plainKeys := false, apart := false }
def DaycapGrowsSaid : Prop := daycapGrowsRow.holds Try.pinned (OpenSpec.ofChange daycapGrowsSpec)

/-- ITS FALSE NEIGHBOUR: 'it returns false'. Refute it at one input. -/
def daycapGrowsWrong : ChangeSpec := { name := "daycapGrows", fn := fun _ => fun
  | [d1, d2] => { results := [.lit (.bool false)], args := [d1, d2] }
  | _ => none }
def DaycapGrowsWrongFalsely : Prop := daycapGrowsRow.holds Try.pinned (OpenSpec.ofChange daycapGrowsWrong)

/- THE SECOND FORM. 'bulk': how many values and letters a reading holds, each counted each time it is reached (what is shared counts as often as it is met; a slice's spare places count too). A statement '..UptoSaid' is the law's where the arguments, and the package variables that the reading takes, are together of bulk at most 1048576: NARROWER than '..Said'. Prove '..Said' where nothing that the law and all that it calls make is longer than what came in: it says more and counts as full. Else prove '..UptoSaid'. A law counts once. -/
mutual
def uptoBulk {H : Type} : DataW H → Nat
  | .lit (.string bytes) => bytes.length + 1
  | .lit _ => 1
  | .nil => 1
  | .ptr d => uptoBulk d + 1
  | .slice elems spare => uptoBulkAll elems + uptoBulkAll spare + 1
  | .agg parts => uptoBulkAll parts + 1
  | .iface _ d => uptoBulk d + 1
  | .map entries => uptoBulkEntries entries + 1
  | .held _ => 1
def uptoBulkAll {H : Type} : List (DataW H) → Nat
  | [] => 0
  | d :: r => uptoBulk d + uptoBulkAll r
def uptoBulkEntries {H : Type} : List (Lit × DataW H) → Nat
  | [] => 0
  | x :: r => uptoBulkEntry x + uptoBulkEntries r
def uptoBulkEntry {H : Type} : Lit × DataW H → Nat
  | (.string bytes, d) => bytes.length + uptoBulk d + 1
  | (_, d) => uptoBulk d + 1
 end
def uptoSmall : (H : Type) → List (DataW H) → Bool := fun _ ds => decide (uptoBulkAll ds ≤ 1048576)
def OpenSpec.upto (s : _root_.Go.ChangeSpec) : _root_.Go.OpenSpec := { _root_.Go.OpenSpec.ofChange s with cond := some uptoSmall }

/-- 'bikesharelaw29.DaycapApplies', WHERE WHAT IT READS IS OF BULK AT MOST 1048576: true; the input reads as it did. -/
def daycapAppliesUptoRow : OpenClaim := { program := "ytfdidnfkcmbgiaa", sum := "1f7b435773c70a8d17045d3bcdcecdbc410006530ccdd720d3da400a4fd9e680", func := "bikeshare/bikesharelaw29.DaycapApplies", spec := "daycapApplies", plainKeys := false, apart := false, narrowed := true }
def DaycapAppliesUptoSaid : Prop := daycapAppliesUptoRow.holds Try.pinned (OpenSpec.upto daycapAppliesSpec)

/-- 'bikesharelaw29.DaycapSums', WHERE WHAT IT READS IS OF BULK AT MOST 1048576: true; the input reads as it did. -/
def daycapSumsUptoRow : OpenClaim := { program := "ytfdidnfkcmbgiaa", sum := "1f7b435773c70a8d17045d3bcdcecdbc410006530ccdd720d3da400a4fd9e680", func := "bikeshare/bikesharelaw29.DaycapSums", spec := "daycapSums", plainKeys := false, apart := false, narrowed := true }
def DaycapSumsUptoSaid : Prop := daycapSumsUptoRow.holds Try.pinned (OpenSpec.upto daycapSumsSpec)

/-- 'bikesharelaw29.DaycapExact', WHERE WHAT IT READS IS OF BULK AT MOST 1048576: true; the input reads as it did. -/
def daycapExactUptoRow : OpenClaim := { program := "ytfdidnfkcmbgiaa", sum := "1f7b435773c70a8d17045d3bcdcecdbc410006530ccdd720d3da400a4fd9e680", func := "bikeshare/bikesharelaw29.DaycapExact", spec := "daycapExact", plainKeys := false, apart := false, narrowed := true }
def DaycapExactUptoSaid : Prop := daycapExactUptoRow.holds Try.pinned (OpenSpec.upto daycapExactSpec)

/-- 'bikesharelaw29.DaycapStops', WHERE WHAT IT READS IS OF BULK AT MOST 1048576: true; the input reads as it did. -/
def daycapStopsUptoRow : OpenClaim := { program := "ytfdidnfkcmbgiaa", sum := "1f7b435773c70a8d17045d3bcdcecdbc410006530ccdd720d3da400a4fd9e680", func := "bikeshare/bikesharelaw29.DaycapStops", spec := "daycapStops", plainKeys := false, apart := false, narrowed := true }
def DaycapStopsUptoSaid : Prop := daycapStopsUptoRow.holds Try.pinned (OpenSpec.upto daycapStopsSpec)

/-- 'bikesharelaw29.DaycapSequence', WHERE WHAT IT READS IS OF BULK AT MOST 1048576: true; the input reads as it did. -/
def daycapSequenceUptoRow : OpenClaim := { program := "ytfdidnfkcmbgiaa", sum := "1f7b435773c70a8d17045d3bcdcecdbc410006530ccdd720d3da400a4fd9e680", func := "bikeshare/bikesharelaw29.DaycapSequence", spec := "daycapSequence", plainKeys := false, apart := false, narrowed := true }
def DaycapSequenceUptoSaid : Prop := daycapSequenceUptoRow.holds Try.pinned (OpenSpec.upto daycapSequenceSpec)

/-- 'bikesharelaw29.DaycapGrows', WHERE WHAT IT READS IS OF BULK AT MOST 1048576: true; the input reads as it did. -/
def daycapGrowsUptoRow : OpenClaim := { program := "ytfdidnfkcmbgiaa", sum := "1f7b435773c70a8d17045d3bcdcecdbc410006530ccdd720d3da400a4fd9e680", func := "bikeshare/bikesharelaw29.DaycapGrows", spec := "daycapGrows", plainKeys := false, apart := false, narrowed := true }
def DaycapGrowsUptoSaid : Prop := daycapGrowsUptoRow.holds Try.pinned (OpenSpec.upto daycapGrowsSpec)

end Rows
end Go.Proofs.Ytfdidnfkcmbgiaa
