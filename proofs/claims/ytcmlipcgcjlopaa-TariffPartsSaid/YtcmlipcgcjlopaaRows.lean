/-
  No cell of these rows narrows 'for every input' (looked for: loops, veiled, ifaces, maps, wideKeys, modest, calm, conditions, laid).
  DERIVED. THE GIVEN ROWS OF THIS SEAT. 7 by the template 'for every input the law returns true; each argument reads behind the call as it read before'; 0 by the template 'total and deterministic' (their statements: YtcmlipcgcjlopaaTotals.lean).
  GIVEN WITH THE SEED: the statements are not yours to turn. If you find one false, say at which input.
  Laid BY PROGRAM, IN A SANDBOX (cutbox-rows.mjs): the forced cells as the released guide's own fill.sh prints them over the translation 2c50a199d6e33fb2… (all of the seat's roots in one cut). By AI agents, Wed Nov 11 2026. No macro, syntax, notation, axiom, sorry.
-/
import Derived.Test.YtcmlipcgcjlopaaChecked
import GoSem.Claim
import GoSem.ClaimJoined
import GoSem.ClaimMapViews
import Derived.JoinedTies
import Derived.KernelRfl
namespace Go.Proofs.Ytcmlipcgcjlopaa
/- THE CELL 'sum', in the pinned program and in every row, IS THE sha256 OF THE DUMP (.gsa) THAT YtcmlipcgcjlopaaProg.lean LOADS. Nothing in Lean hashes anything: it is a label: what it is worth is what the hold of that sum in a sandbox is worth. -/
noncomputable def Try.pinned : Pinned := { name := "ytcmlipcgcjlopaa", sum := "2c50a199d6e33fb2beb7c1eba0df221221cd0bd53317d890f658e0f5e1775532", checked := Try.checked }
namespace Rows
def none {H : Type} : Left H := { results := [], args := [] }

/-- 'bikesharelaw27.TariffChecks': WHATEVER THE INPUT: true; the input reads as it did. -/
def tariffChecksSpec : ChangeSpec := { name := "tariffChecks", fn := fun _ => fun
  | [d1, d2] => { results := [.lit (.bool true)], args := [d1, d2] }
  | _ => none }
def tariffChecksRow : OpenClaim := { program := "ytcmlipcgcjlopaa", sum := "2c50a199d6e33fb2beb7c1eba0df221221cd0bd53317d890f658e0f5e1775532", func := "bikeshare/bikesharelaw27.TariffChecks", spec := "tariffChecks", unfollowed := true, recurses := true, apart := false }
def TariffChecksSaid : Prop := tariffChecksRow.holds Try.pinned (OpenSpec.ofChange tariffChecksSpec)

/-- ITS FALSE NEIGHBOUR: 'it returns false'. Refute it at one input. -/
def tariffChecksWrong : ChangeSpec := { name := "tariffChecks", fn := fun _ => fun
  | [d1, d2] => { results := [.lit (.bool false)], args := [d1, d2] }
  | _ => none }
def TariffChecksWrongFalsely : Prop := tariffChecksRow.holds Try.pinned (OpenSpec.ofChange tariffChecksWrong)

/-- 'bikesharelaw27.TariffPrices': WHATEVER THE INPUT: true; the input reads as it did. -/
def tariffPricesSpec : ChangeSpec := { name := "tariffPrices", fn := fun _ => fun
  | [d1, d2] => { results := [.lit (.bool true)], args := [d1, d2] }
  | _ => none }
def tariffPricesRow : OpenClaim := { program := "ytcmlipcgcjlopaa", sum := "2c50a199d6e33fb2beb7c1eba0df221221cd0bd53317d890f658e0f5e1775532", func := "bikeshare/bikesharelaw27.TariffPrices", spec := "tariffPrices", unfollowed := true, recurses := true, apart := false }
def TariffPricesSaid : Prop := tariffPricesRow.holds Try.pinned (OpenSpec.ofChange tariffPricesSpec)

/-- ITS FALSE NEIGHBOUR: 'it returns false'. Refute it at one input. -/
def tariffPricesWrong : ChangeSpec := { name := "tariffPrices", fn := fun _ => fun
  | [d1, d2] => { results := [.lit (.bool false)], args := [d1, d2] }
  | _ => none }
def TariffPricesWrongFalsely : Prop := tariffPricesRow.holds Try.pinned (OpenSpec.ofChange tariffPricesWrong)

/-- 'bikesharelaw27.TariffLongest': WHATEVER THE INPUT: true; the input reads as it did. -/
def tariffLongestSpec : ChangeSpec := { name := "tariffLongest", fn := fun _ => fun
  | [d1, d2] => { results := [.lit (.bool true)], args := [d1, d2] }
  | _ => none }
def tariffLongestRow : OpenClaim := { program := "ytcmlipcgcjlopaa", sum := "2c50a199d6e33fb2beb7c1eba0df221221cd0bd53317d890f658e0f5e1775532", func := "bikeshare/bikesharelaw27.TariffLongest", spec := "tariffLongest", unfollowed := true, recurses := true, apart := false }
def TariffLongestSaid : Prop := tariffLongestRow.holds Try.pinned (OpenSpec.ofChange tariffLongestSpec)

/-- ITS FALSE NEIGHBOUR: 'it returns false'. Refute it at one input. -/
def tariffLongestWrong : ChangeSpec := { name := "tariffLongest", fn := fun _ => fun
  | [d1, d2] => { results := [.lit (.bool false)], args := [d1, d2] }
  | _ => none }
def TariffLongestWrongFalsely : Prop := tariffLongestRow.holds Try.pinned (OpenSpec.ofChange tariffLongestWrong)

/-- 'bikesharelaw27.TariffSteps': WHATEVER THE INPUT: true; the input reads as it did. -/
def tariffStepsSpec : ChangeSpec := { name := "tariffSteps", fn := fun _ => fun
  | [d1, d2] => { results := [.lit (.bool true)], args := [d1, d2] }
  | _ => none }
def tariffStepsRow : OpenClaim := { program := "ytcmlipcgcjlopaa", sum := "2c50a199d6e33fb2beb7c1eba0df221221cd0bd53317d890f658e0f5e1775532", func := "bikeshare/bikesharelaw27.TariffSteps", spec := "tariffSteps", unfollowed := true, recurses := true, apart := false }
def TariffStepsSaid : Prop := tariffStepsRow.holds Try.pinned (OpenSpec.ofChange tariffStepsSpec)

/-- ITS FALSE NEIGHBOUR: 'it returns false'. Refute it at one input. -/
def tariffStepsWrong : ChangeSpec := { name := "tariffSteps", fn := fun _ => fun
  | [d1, d2] => { results := [.lit (.bool false)], args := [d1, d2] }
  | _ => none }
def TariffStepsWrongFalsely : Prop := tariffStepsRow.holds Try.pinned (OpenSpec.ofChange tariffStepsWrong)

/-- 'bikesharelaw27.TariffVersions': WHATEVER THE INPUT: true; the input reads as it did. -/
def tariffVersionsSpec : ChangeSpec := { name := "tariffVersions", fn := fun _ => fun
  | [d1, d2] => { results := [.lit (.bool true)], args := [d1, d2] }
  | _ => none }
def tariffVersionsRow : OpenClaim := { program := "ytcmlipcgcjlopaa", sum := "2c50a199d6e33fb2beb7c1eba0df221221cd0bd53317d890f658e0f5e1775532", func := "bikeshare/bikesharelaw27.TariffVersions", spec := "tariffVersions", unfollowed := true, recurses := true, apart := false }
def TariffVersionsSaid : Prop := tariffVersionsRow.holds Try.pinned (OpenSpec.ofChange tariffVersionsSpec)

/-- ITS FALSE NEIGHBOUR: 'it returns false'. Refute it at one input. -/
def tariffVersionsWrong : ChangeSpec := { name := "tariffVersions", fn := fun _ => fun
  | [d1, d2] => { results := [.lit (.bool false)], args := [d1, d2] }
  | _ => none }
def TariffVersionsWrongFalsely : Prop := tariffVersionsRow.holds Try.pinned (OpenSpec.ofChange tariffVersionsWrong)

/-- 'bikesharelaw27.TariffAmounts': WHATEVER THE INPUT: true; the input reads as it did. -/
def tariffAmountsSpec : ChangeSpec := { name := "tariffAmounts", fn := fun _ => fun
  | [d1, d2, d3] => { results := [.lit (.bool true)], args := [d1, d2, d3] }
  | _ => none }
def tariffAmountsRow : OpenClaim := { program := "ytcmlipcgcjlopaa", sum := "2c50a199d6e33fb2beb7c1eba0df221221cd0bd53317d890f658e0f5e1775532", func := "bikeshare/bikesharelaw27.TariffAmounts", spec := "tariffAmounts", unfollowed := true, recurses := true, apart := false }
def TariffAmountsSaid : Prop := tariffAmountsRow.holds Try.pinned (OpenSpec.ofChange tariffAmountsSpec)

/-- ITS FALSE NEIGHBOUR: 'it returns false'. Refute it at one input. -/
def tariffAmountsWrong : ChangeSpec := { name := "tariffAmounts", fn := fun _ => fun
  | [d1, d2, d3] => { results := [.lit (.bool false)], args := [d1, d2, d3] }
  | _ => none }
def TariffAmountsWrongFalsely : Prop := tariffAmountsRow.holds Try.pinned (OpenSpec.ofChange tariffAmountsWrong)

/-- 'bikesharelaw27.TariffParts': WHATEVER THE INPUT: true; the input reads as it did. -/
def tariffPartsSpec : ChangeSpec := { name := "tariffParts", fn := fun _ => fun
  | [d1, d2] => { results := [.lit (.bool true)], args := [d1, d2] }
  | _ => none }
def tariffPartsRow : OpenClaim := { program := "ytcmlipcgcjlopaa", sum := "2c50a199d6e33fb2beb7c1eba0df221221cd0bd53317d890f658e0f5e1775532", func := "bikeshare/bikesharelaw27.TariffParts", spec := "tariffParts", unfollowed := true, recurses := true, apart := false }
def TariffPartsSaid : Prop := tariffPartsRow.holds Try.pinned (OpenSpec.ofChange tariffPartsSpec)

/-- ITS FALSE NEIGHBOUR: 'it returns false'. Refute it at one input. -/
def tariffPartsWrong : ChangeSpec := { name := "tariffParts", fn := fun _ => fun
  | [d1, d2] => { results := [.lit (.bool false)], args := [d1, d2] }
  | _ => none }
def TariffPartsWrongFalsely : Prop := tariffPartsRow.holds Try.pinned (OpenSpec.ofChange tariffPartsWrong)

/- THE SECOND FORM. 'bulk': how many values and letters a reading holds, each counted each time it is reached (what is shared counts as often as it is met; a slice's spare places count too). A statement '..UptoSaid' is the law's where the arguments, and the package variables that the reading takes, are together of bulk at most 1048576: NARROWER than '..Said'. Prove '..Said' where nothing that the law and all that it calls make is longer than what came in: it says more and counts as full. Else prove '..UptoSaid'. A law counts once. -/
mutual
def uptoBulk {H : Type} : DataW H → Nat
  | .lit (.string bytes) => bytes.length + 1
  | .lit _ => 1
  | .nil => 1
  | .ptr d => uptoBulk d + 1
  | .slice elems spare => uptoBulkAll elems + uptoBulkAll spare + 1
  | .agg parts => uptoBulkAll parts + 1
  | .iface _ d => uptoBulk d + 1
  | .map entries => uptoBulkEntries entries + 1
  | .held _ => 1
def uptoBulkAll {H : Type} : List (DataW H) → Nat
  | [] => 0
  | d :: r => uptoBulk d + uptoBulkAll r
def uptoBulkEntries {H : Type} : List (Lit × DataW H) → Nat
  | [] => 0
  | x :: r => uptoBulkEntry x + uptoBulkEntries r
def uptoBulkEntry {H : Type} : Lit × DataW H → Nat
  | (.string bytes, d) => bytes.length + uptoBulk d + 1
  | (_, d) => uptoBulk d + 1
 end
def uptoSmall : (H : Type) → List (DataW H) → Bool := fun _ ds => decide (uptoBulkAll ds ≤ 1048576)
def OpenSpec.upto (s : _root_.Go.ChangeSpec) : _root_.Go.OpenSpec := { _root_.Go.OpenSpec.ofChange s with cond := some uptoSmall }

/-- 'bikesharelaw27.TariffChecks', WHERE WHAT IT READS IS OF BULK AT MOST 1048576: true; the input reads as it did. -/
def tariffChecksUptoRow : OpenClaim := { program := "ytcmlipcgcjlopaa", sum := "2c50a199d6e33fb2beb7c1eba0df221221cd0bd53317d890f658e0f5e1775532", func := "bikeshare/bikesharelaw27.TariffChecks", spec := "tariffChecks", unfollowed := true, recurses := true, apart := false, narrowed := true }
def TariffChecksUptoSaid : Prop := tariffChecksUptoRow.holds Try.pinned (OpenSpec.upto tariffChecksSpec)

/-- 'bikesharelaw27.TariffPrices', WHERE WHAT IT READS IS OF BULK AT MOST 1048576: true; the input reads as it did. -/
def tariffPricesUptoRow : OpenClaim := { program := "ytcmlipcgcjlopaa", sum := "2c50a199d6e33fb2beb7c1eba0df221221cd0bd53317d890f658e0f5e1775532", func := "bikeshare/bikesharelaw27.TariffPrices", spec := "tariffPrices", unfollowed := true, recurses := true, apart := false, narrowed := true }
def TariffPricesUptoSaid : Prop := tariffPricesUptoRow.holds Try.pinned (OpenSpec.upto tariffPricesSpec)

/-- 'bikesharelaw27.TariffLongest', WHERE WHAT IT READS IS OF BULK AT MOST 1048576: true; the input reads as it did. -/
def tariffLongestUptoRow : OpenClaim := { program := "ytcmlipcgcjlopaa", sum := "2c50a199d6e33fb2beb7c1eba0df221221cd0bd53317d890f658e0f5e1775532", func := "bikeshare/bikesharelaw27.TariffLongest", spec := "tariffLongest", unfollowed := true, recurses := true, apart := false, narrowed := true }
def TariffLongestUptoSaid : Prop := tariffLongestUptoRow.holds Try.pinned (OpenSpec.upto tariffLongestSpec)

/-- 'bikesharelaw27.TariffSteps', WHERE WHAT IT READS IS OF BULK AT MOST 1048576: true; the input reads as it did. -/
def tariffStepsUptoRow : OpenClaim := { program := "ytcmlipcgcjlopaa", sum := "2c50a199d6e33fb2beb7c1eba0df221221cd0bd53317d890f658e0f5e1775532", func := "bikeshare/bikesharelaw27.TariffSteps", spec := "tariffSteps", unfollowed := true, recurses := true, apart := false, narrowed := true }
def TariffStepsUptoSaid : Prop := tariffStepsUptoRow.holds Try.pinned (OpenSpec.upto tariffStepsSpec)

/-- 'bikesharelaw27.TariffVersions', WHERE WHAT IT READS IS OF BULK AT MOST 1048576: true; the input reads as it did. -/
def tariffVersionsUptoRow : OpenClaim := { program := "ytcmlipcgcjlopaa", sum := "2c50a199d6e33fb2beb7c1eba0df221221cd0bd53317d890f658e0f5e1775532", func := "bikeshare/bikesharelaw27.TariffVersions", spec := "tariffVersions", unfollowed := true, recurses := true, apart := false, narrowed := true }
def TariffVersionsUptoSaid : Prop := tariffVersionsUptoRow.holds Try.pinned (OpenSpec.upto tariffVersionsSpec)

/-- 'bikesharelaw27.TariffAmounts', WHERE WHAT IT READS IS OF BULK AT MOST 1048576: true; the input reads as it did. -/
def tariffAmountsUptoRow : OpenClaim := { program := "ytcmlipcgcjlopaa", sum := "2c50a199d6e33fb2beb7c1eba0df221221cd0bd53317d890f658e0f5e1775532", func := "bikeshare/bikesharelaw27.TariffAmounts", spec := "tariffAmounts", unfollowed := true, recurses := true, apart := false, narrowed := true }
def TariffAmountsUptoSaid : Prop := tariffAmountsUptoRow.holds Try.pinned (OpenSpec.upto tariffAmountsSpec)

/-- 'bikesharelaw27.TariffParts', WHERE WHAT IT READS IS OF BULK AT MOST 1048576: true; the input reads as it did. -/
def tariffPartsUptoRow : OpenClaim := { program := "ytcmlipcgcjlopaa", sum := "2c50a199d6e33fb2beb7c1eba0df221221cd0bd53317d890f658e0f5e1775532", func := "bikeshare/bikesharelaw27.TariffParts", spec := "tariffParts", unfollowed := true, recurses := true, apart := false, narrowed := true }
def TariffPartsUptoSaid : Prop := tariffPartsUptoRow.holds Try.pinned (OpenSpec.upto tariffPartsSpec)

end Rows
end Go.Proofs.Ytcmlipcgcjlopaa
