/-
  No cell of these rows narrows 'for every input' (looked for: loops, veiled, ifaces, maps, wideKeys, modest, calm, conditions, laid).
  DERIVED. THE GIVEN ROWS OF THIS SEAT. 7 by the template 'for every input the law returns true; each argument reads behind the call as it read before'; 0 by the template 'total and deterministic' (their statements: YtnfgbghjdmimgaaTotals.lean).
  GIVEN WITH THE SEED: the statements are not yours to turn. If you find one false, say at which input.
  Laid BY PROGRAM, IN A SANDBOX (cutbox-rows.mjs): the forced cells as the released guide's own fill.sh prints them over the translation d8c36b2fe532554f… (all of the seat's roots in one cut). By AI agents, Wed Nov 11 2026. No macro, syntax, notation, axiom, sorry.
-/
import Derived.Test.YtnfgbghjdmimgaaChecked
import GoSem.Claim
import GoSem.ClaimJoined
import GoSem.ClaimMapViews
import Derived.JoinedTies
import Derived.KernelRfl
namespace Go.Proofs.Ytnfgbghjdmimgaa
/- THE CELL 'sum', in the pinned program and in every row, IS THE sha256 OF THE DUMP (.gsa) THAT YtnfgbghjdmimgaaProg.lean LOADS. Nothing in Lean hashes anything: it is a label: what it is worth is what the hold of that sum in a sandbox is worth. -/
noncomputable def Try.pinned : Pinned := { name := "ytnfgbghjdmimgaa", sum := "d8c36b2fe532554fff97c7609e6fd53dabfcc857fb4ae05605d068a72fa77b06", checked := Try.checked }
namespace Rows
def none {H : Type} : Left H := { results := [], args := [] }

/-- 'bikesharelaw41.TargetLost': WHATEVER THE INPUT: true; the input reads as it did. -/
def targetLostSpec : ChangeSpec := { name := "targetLost", fn := fun _ => fun
  | [d1, d2, d3] => { results := [.lit (.bool true)], args := [d1, d2, d3] }
  | _ => none }
def targetLostRow : OpenClaim := { program := "ytnfgbghjdmimgaa", sum := "d8c36b2fe532554fff97c7609e6fd53dabfcc857fb4ae05605d068a72fa77b06", func := "bikeshare/bikesharelaw41.TargetLost", spec := "targetLost", apart := false }
def TargetLostSaid : Prop := targetLostRow.holds Try.pinned (OpenSpec.ofChange targetLostSpec)

/-- ITS FALSE NEIGHBOUR: 'it returns false'. Refute it at one input. -/
def targetLostWrong : ChangeSpec := { name := "targetLost", fn := fun _ => fun
  | [d1, d2, d3] => { results := [.lit (.bool false)], args := [d1, d2, d3] }
  | _ => none }
def TargetLostWrongFalsely : Prop := targetLostRow.holds Try.pinned (OpenSpec.ofChange targetLostWrong)

/-- 'bikesharelaw41.TargetCosts': WHATEVER THE INPUT: true; the input reads as it did. -/
def targetCostsSpec : ChangeSpec := { name := "targetCosts", fn := fun _ => fun
  | [d1, d2] => { results := [.lit (.bool true)], args := [d1, d2] }
  | _ => none }
def targetCostsRow : OpenClaim := { program := "ytnfgbghjdmimgaa", sum := "d8c36b2fe532554fff97c7609e6fd53dabfcc857fb4ae05605d068a72fa77b06", func := "bikeshare/bikesharelaw41.TargetCosts", spec := "targetCosts", apart := false }
def TargetCostsSaid : Prop := targetCostsRow.holds Try.pinned (OpenSpec.ofChange targetCostsSpec)

/-- ITS FALSE NEIGHBOUR: 'it returns false'. Refute it at one input. -/
def targetCostsWrong : ChangeSpec := { name := "targetCosts", fn := fun _ => fun
  | [d1, d2] => { results := [.lit (.bool false)], args := [d1, d2] }
  | _ => none }
def TargetCostsWrongFalsely : Prop := targetCostsRow.holds Try.pinned (OpenSpec.ofChange targetCostsWrong)

/-- 'bikesharelaw41.TargetMoves': WHATEVER THE INPUT: true; the input reads as it did. -/
def targetMovesSpec : ChangeSpec := { name := "targetMoves", fn := fun _ => fun
  | [d1, d2, d3] => { results := [.lit (.bool true)], args := [d1, d2, d3] }
  | _ => none }
def targetMovesRow : OpenClaim := { program := "ytnfgbghjdmimgaa", sum := "d8c36b2fe532554fff97c7609e6fd53dabfcc857fb4ae05605d068a72fa77b06", func := "bikeshare/bikesharelaw41.TargetMoves", spec := "targetMoves", apart := false }
def TargetMovesSaid : Prop := targetMovesRow.holds Try.pinned (OpenSpec.ofChange targetMovesSpec)

/-- ITS FALSE NEIGHBOUR: 'it returns false'. Refute it at one input. -/
def targetMovesWrong : ChangeSpec := { name := "targetMoves", fn := fun _ => fun
  | [d1, d2, d3] => { results := [.lit (.bool false)], args := [d1, d2, d3] }
  | _ => none }
def TargetMovesWrongFalsely : Prop := targetMovesRow.holds Try.pinned (OpenSpec.ofChange targetMovesWrong)

/-- 'bikesharelaw41.TargetConvex': WHATEVER THE INPUT: true; the input reads as it did. -/
def targetConvexSpec : ChangeSpec := { name := "targetConvex", fn := fun _ => fun
  | [d1, d2] => { results := [.lit (.bool true)], args := [d1, d2] }
  | _ => none }
def targetConvexRow : OpenClaim := { program := "ytnfgbghjdmimgaa", sum := "d8c36b2fe532554fff97c7609e6fd53dabfcc857fb4ae05605d068a72fa77b06", func := "bikeshare/bikesharelaw41.TargetConvex", spec := "targetConvex", apart := false }
def TargetConvexSaid : Prop := targetConvexRow.holds Try.pinned (OpenSpec.ofChange targetConvexSpec)

/-- ITS FALSE NEIGHBOUR: 'it returns false'. Refute it at one input. -/
def targetConvexWrong : ChangeSpec := { name := "targetConvex", fn := fun _ => fun
  | [d1, d2] => { results := [.lit (.bool false)], args := [d1, d2] }
  | _ => none }
def TargetConvexWrongFalsely : Prop := targetConvexRow.holds Try.pinned (OpenSpec.ofChange targetConvexWrong)

/-- 'bikesharelaw41.TargetServed': WHATEVER THE INPUT: true; the input reads as it did. -/
def targetServedSpec : ChangeSpec := { name := "targetServed", fn := fun _ => fun
  | [d1, d2, d3] => { results := [.lit (.bool true)], args := [d1, d2, d3] }
  | _ => none }
def targetServedRow : OpenClaim := { program := "ytnfgbghjdmimgaa", sum := "d8c36b2fe532554fff97c7609e6fd53dabfcc857fb4ae05605d068a72fa77b06", func := "bikeshare/bikesharelaw41.TargetServed", spec := "targetServed", apart := false }
def TargetServedSaid : Prop := targetServedRow.holds Try.pinned (OpenSpec.ofChange targetServedSpec)

/-- ITS FALSE NEIGHBOUR: 'it returns false'. Refute it at one input. -/
def targetServedWrong : ChangeSpec := { name := "targetServed", fn := fun _ => fun
  | [d1, d2, d3] => { results := [.lit (.bool false)], args := [d1, d2, d3] }
  | _ => none }
def TargetServedWrongFalsely : Prop := targetServedRow.holds Try.pinned (OpenSpec.ofChange targetServedWrong)

/-- 'bikesharelaw41.TargetMirror': WHATEVER THE INPUT: true; the input reads as it did. -/
def targetMirrorSpec : ChangeSpec := { name := "targetMirror", fn := fun _ => fun
  | [d1, d2, d3] => { results := [.lit (.bool true)], args := [d1, d2, d3] }
  | _ => none }
def targetMirrorRow : OpenClaim := { program := "ytnfgbghjdmimgaa", sum := "d8c36b2fe532554fff97c7609e6fd53dabfcc857fb4ae05605d068a72fa77b06", func := "bikeshare/bikesharelaw41.TargetMirror", spec := "targetMirror", apart := false }
def TargetMirrorSaid : Prop := targetMirrorRow.holds Try.pinned (OpenSpec.ofChange targetMirrorSpec)

/-- ITS FALSE NEIGHBOUR: 'it returns false'. Refute it at one input. -/
def targetMirrorWrong : ChangeSpec := { name := "targetMirror", fn := fun _ => fun
  | [d1, d2, d3] => { results := [.lit (.bool false)], args := [d1, d2, d3] }
  | _ => none }
def TargetMirrorWrongFalsely : Prop := targetMirrorRow.holds Try.pinned (OpenSpec.ofChange targetMirrorWrong)

/-- 'bikesharelaw41.TargetSums': WHATEVER THE INPUT: true; the input reads as it did. -/
def targetSumsSpec : ChangeSpec := { name := "targetSums", fn := fun _ => fun
  | [d1, d2, d3] => { results := [.lit (.bool true)], args := [d1, d2, d3] }
  | _ => none }
def targetSumsRow : OpenClaim := { program := "ytnfgbghjdmimgaa", sum := "d8c36b2fe532554fff97c7609e6fd53dabfcc857fb4ae05605d068a72fa77b06", func := "bikeshare/bikesharelaw41.TargetSums", spec := "targetSums", apart := false }
def TargetSumsSaid : Prop := targetSumsRow.holds Try.pinned (OpenSpec.ofChange targetSumsSpec)

/-- ITS FALSE NEIGHBOUR: 'it returns false'. Refute it at one input. -/
def targetSumsWrong : ChangeSpec := { name := "targetSums", fn := fun _ => fun
  | [d1, d2, d3] => { results := [.lit (.bool false)], args := [d1, d2, d3] }
  | _ => none }
def TargetSumsWrongFalsely : Prop := targetSumsRow.holds Try.pinned (OpenSpec.ofChange targetSumsWrong)

/- THE SECOND FORM. 'bulk': how many values and letters a reading holds, each counted each time it is reached (what is shared counts as often as it is met; a slice's spare places count too). A statement '..UptoSaid' is the law's where the arguments, and the package variables that the reading takes, are together of bulk at most 1048576: NARROWER than '..Said'. Prove '..Said' where nothing that the law and all that it calls make is longer than what came in: it says more and counts as full. Else prove '..UptoSaid'. A law counts once. -/
mutual
def uptoBulk {H : Type} : DataW H → Nat
  | .lit (.string bytes) => bytes.length + 1
  | .lit _ => 1
  | .nil => 1
  | .ptr d => uptoBulk d + 1
  | .slice elems spare => uptoBulkAll elems + uptoBulkAll spare + 1
  | .agg parts => uptoBulkAll parts + 1
  | .iface _ d => uptoBulk d + 1
  | .map entries => uptoBulkEntries entries + 1
  | .held _ => 1
def uptoBulkAll {H : Type} : List (DataW H) → Nat
  | [] => 0
  | d :: r => uptoBulk d + uptoBulkAll r
def uptoBulkEntries {H : Type} : List (Lit × DataW H) → Nat
  | [] => 0
  | x :: r => uptoBulkEntry x + uptoBulkEntries r
def uptoBulkEntry {H : Type} : Lit × DataW H → Nat
  | (.string bytes, d) => bytes.length + uptoBulk d + 1
  | (_, d) => uptoBulk d + 1
 end
def uptoSmall : (H : Type) → List (DataW H) → Bool := fun _ ds => decide (uptoBulkAll ds ≤ 1048576)
def OpenSpec.upto (s : _root_.Go.ChangeSpec) : _root_.Go.OpenSpec := { _root_.Go.OpenSpec.ofChange s with cond := some uptoSmall }

/-- 'bikesharelaw41.TargetLost', WHERE WHAT IT READS IS OF BULK AT MOST 1048576: true; the input reads as it did. -/
def targetLostUptoRow : OpenClaim := { program := "ytnfgbghjdmimgaa", sum := "d8c36b2fe532554fff97c7609e6fd53dabfcc857fb4ae05605d068a72fa77b06", func := "bikeshare/bikesharelaw41.TargetLost", spec := "targetLost", apart := false, narrowed := true }
def TargetLostUptoSaid : Prop := targetLostUptoRow.holds Try.pinned (OpenSpec.upto targetLostSpec)

/-- 'bikesharelaw41.TargetCosts', WHERE WHAT IT READS IS OF BULK AT MOST 1048576: true; the input reads as it did. -/
def targetCostsUptoRow : OpenClaim := { program := "ytnfgbghjdmimgaa", sum := "d8c36b2fe532554fff97c7609e6fd53dabfcc857fb4ae05605d068a72fa77b06", func := "bikeshare/bikesharelaw41.TargetCosts", spec := "targetCosts", apart := false, narrowed := true }
def TargetCostsUptoSaid : Prop := targetCostsUptoRow.holds Try.pinned (OpenSpec.upto targetCostsSpec)

/-- 'bikesharelaw41.TargetMoves', WHERE WHAT IT READS IS OF BULK AT MOST 1048576: true; the input reads as it did. -/
def targetMovesUptoRow : OpenClaim := { program := "ytnfgbghjdmimgaa", sum := "d8c36b2fe532554fff97c7609e6fd53dabfcc857fb4ae05605d068a72fa77b06", func := "bikeshare/bikesharelaw41.TargetMoves", spec := "targetMoves", apart := false, narrowed := true }
def TargetMovesUptoSaid : Prop := targetMovesUptoRow.holds Try.pinned (OpenSpec.upto targetMovesSpec)

/-- 'bikesharelaw41.TargetConvex', WHERE WHAT IT READS IS OF BULK AT MOST 1048576: true; the input reads as it did. -/
def targetConvexUptoRow : OpenClaim := { program := "ytnfgbghjdmimgaa", sum := "d8c36b2fe532554fff97c7609e6fd53dabfcc857fb4ae05605d068a72fa77b06", func := "bikeshare/bikesharelaw41.TargetConvex", spec := "targetConvex", apart := false, narrowed := true }
def TargetConvexUptoSaid : Prop := targetConvexUptoRow.holds Try.pinned (OpenSpec.upto targetConvexSpec)

/-- 'bikesharelaw41.TargetServed', WHERE WHAT IT READS IS OF BULK AT MOST 1048576: true; the input reads as it did. -/
def targetServedUptoRow : OpenClaim := { program := "ytnfgbghjdmimgaa", sum := "d8c36b2fe532554fff97c7609e6fd53dabfcc857fb4ae05605d068a72fa77b06", func := "bikeshare/bikesharelaw41.TargetServed", spec := "targetServed", apart := false, narrowed := true }
def TargetServedUptoSaid : Prop := targetServedUptoRow.holds Try.pinned (OpenSpec.upto targetServedSpec)

/-- 'bikesharelaw41.TargetMirror', WHERE WHAT IT READS IS OF BULK AT MOST 1048576: true; the input reads as it did. -/
def targetMirrorUptoRow : OpenClaim := { program := "ytnfgbghjdmimgaa", sum := "d8c36b2fe532554fff97c7609e6fd53dabfcc857fb4ae05605d068a72fa77b06", func := "bikeshare/bikesharelaw41.TargetMirror", spec := "targetMirror", apart := false, narrowed := true }
def TargetMirrorUptoSaid : Prop := targetMirrorUptoRow.holds Try.pinned (OpenSpec.upto targetMirrorSpec)

/-- 'bikesharelaw41.TargetSums', WHERE WHAT IT READS IS OF BULK AT MOST 1048576: true; the input reads as it did. -/
def targetSumsUptoRow : OpenClaim := { program := "ytnfgbghjdmimgaa", sum := "d8c36b2fe532554fff97c7609e6fd53dabfcc857fb4ae05605d068a72fa77b06", func := "bikeshare/bikesharelaw41.TargetSums", spec := "targetSums", apart := false, narrowed := true }
def TargetSumsUptoSaid : Prop := targetSumsUptoRow.holds Try.pinned (OpenSpec.upto targetSumsSpec)

end Rows
end Go.Proofs.Ytnfgbghjdmimgaa
