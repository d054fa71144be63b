/-
  No cell of these rows narrows 'for every input' (looked for: loops, veiled, ifaces, maps, wideKeys, modest, calm, conditions, laid).
  DERIVED. THE GIVEN ROWS OF THIS SEAT. 5 by the template 'for every input the law returns true; each argument reads behind the call as it read before'; 0 by the template 'total and deterministic' (their statements: YtdallemhhdfemaaTotals.lean).
  GIVEN WITH THE SEED: the statements are not yours to turn. If you find one false, say at which input.
  Laid BY PROGRAM, IN A SANDBOX (cutbox-rows.mjs): the forced cells as the released guide's own fill.sh prints them over the translation 6ccb4c1a696b0887… (all of the seat's roots in one cut). By AI agents, Wed Nov 11 2026. No macro, syntax, notation, axiom, sorry.
-/
import Derived.Test.YtdallemhhdfemaaChecked
import GoSem.Claim
import GoSem.ClaimJoined
import GoSem.ClaimMapViews
import Derived.JoinedTies
import Derived.KernelRfl
namespace Go.Proofs.Ytdallemhhdfemaa
/- THE CELL 'sum', in the pinned program and in every row, IS THE sha256 OF THE DUMP (.gsa) THAT YtdallemhhdfemaaProg.lean LOADS. Nothing in Lean hashes anything: it is a label: what it is worth is what the hold of that sum in a sandbox is worth. -/
noncomputable def Try.pinned : Pinned := { name := "ytdallemhhdfemaa", sum := "6ccb4c1a696b0887fe1ba8526846e49d0c8feb34ef046aa91c2ea18f79b47031", checked := Try.checked }
namespace Rows
def none {H : Type} : Left H := { results := [], args := [] }

/-- 'bikesharelaw17.DockUndone': WHATEVER THE INPUT: true; the input reads as it did. -/
def dockUndoneSpec : ChangeSpec := { name := "dockUndone", fn := fun _ => fun
  | [d1, d2, d3] => { results := [.lit (.bool true)], args := [d1, d2, d3] }
  | _ => none }
def dockUndoneRow : OpenClaim := { program := "ytdallemhhdfemaa", sum := "6ccb4c1a696b0887fe1ba8526846e49d0c8feb34ef046aa91c2ea18f79b47031", func := "bikeshare/bikesharelaw17.DockUndone", spec := "dockUndone", apart := false }
def DockUndoneSaid : Prop := dockUndoneRow.holds Try.pinned (OpenSpec.ofChange dockUndoneSpec)

/-- ITS FALSE NEIGHBOUR: 'it returns false'. Refute it at one input. -/
def dockUndoneWrong : ChangeSpec := { name := "dockUndone", fn := fun _ => fun
  | [d1, d2, d3] => { results := [.lit (.bool false)], args := [d1, d2, d3] }
  | _ => none }
def DockUndoneWrongFalsely : Prop := dockUndoneRow.holds Try.pinned (OpenSpec.ofChange dockUndoneWrong)

/-- 'bikesharelaw17.DockNone': WHATEVER THE INPUT: true; the input reads as it did. -/
def dockNoneSpec : ChangeSpec := { name := "dockNone", fn := fun _ => fun
  | [d] => { results := [.lit (.bool true)], args := [d] }
  | _ => none }
def dockNoneRow : OpenClaim := { program := "ytdallemhhdfemaa", sum := "6ccb4c1a696b0887fe1ba8526846e49d0c8feb34ef046aa91c2ea18f79b47031", func := "bikeshare/bikesharelaw17.DockNone", spec := "dockNone", apart := false }
def DockNoneSaid : Prop := dockNoneRow.holds Try.pinned (OpenSpec.ofChange dockNoneSpec)

/-- ITS FALSE NEIGHBOUR: 'it returns false'. Refute it at one input. -/
def dockNoneWrong : ChangeSpec := { name := "dockNone", fn := fun _ => fun
  | [d] => { results := [.lit (.bool false)], args := [d] }
  | _ => none }
def DockNoneWrongFalsely : Prop := dockNoneRow.holds Try.pinned (OpenSpec.ofChange dockNoneWrong)

/-- 'bikesharelaw17.DockCalls': WHATEVER THE INPUT: true; the input reads as it did. -/
def dockCallsSpec : ChangeSpec := { name := "dockCalls", fn := fun _ => fun
  | [d1, d2] => { results := [.lit (.bool true)], args := [d1, d2] }
  | _ => none }
def dockCallsRow : OpenClaim := { program := "ytdallemhhdfemaa", sum := "6ccb4c1a696b0887fe1ba8526846e49d0c8feb34ef046aa91c2ea18f79b47031", func := "bikeshare/bikesharelaw17.DockCalls", spec := "dockCalls", apart := false }
def DockCallsSaid : Prop := dockCallsRow.holds Try.pinned (OpenSpec.ofChange dockCallsSpec)

/-- ITS FALSE NEIGHBOUR: 'it returns false'. Refute it at one input. -/
def dockCallsWrong : ChangeSpec := { name := "dockCalls", fn := fun _ => fun
  | [d1, d2] => { results := [.lit (.bool false)], args := [d1, d2] }
  | _ => none }
def DockCallsWrongFalsely : Prop := dockCallsRow.holds Try.pinned (OpenSpec.ofChange dockCallsWrong)

/-- 'bikesharelaw17.DockOnce': WHATEVER THE INPUT: true; the input reads as it did. -/
def dockOnceSpec : ChangeSpec := { name := "dockOnce", fn := fun _ => fun
  | [d1, d2, d3] => { results := [.lit (.bool true)], args := [d1, d2, d3] }
  | _ => none }
def dockOnceRow : OpenClaim := { program := "ytdallemhhdfemaa", sum := "6ccb4c1a696b0887fe1ba8526846e49d0c8feb34ef046aa91c2ea18f79b47031", func := "bikeshare/bikesharelaw17.DockOnce", spec := "dockOnce", apart := false }
def DockOnceSaid : Prop := dockOnceRow.holds Try.pinned (OpenSpec.ofChange dockOnceSpec)

/-- ITS FALSE NEIGHBOUR: 'it returns false'. Refute it at one input. -/
def dockOnceWrong : ChangeSpec := { name := "dockOnce", fn := fun _ => fun
  | [d1, d2, d3] => { results := [.lit (.bool false)], args := [d1, d2, d3] }
  | _ => none }
def DockOnceWrongFalsely : Prop := dockOnceRow.holds Try.pinned (OpenSpec.ofChange dockOnceWrong)

/-- 'bikesharelaw17.DockParts': WHATEVER THE INPUT: true; the input reads as it did. -/
def dockPartsSpec : ChangeSpec := { name := "dockParts", fn := fun _ => fun
  | [d1, d2, d3] => { results := [.lit (.bool true)], args := [d1, d2, d3] }
  | _ => none }
def dockPartsRow : OpenClaim := { program := "ytdallemhhdfemaa", sum := "6ccb4c1a696b0887fe1ba8526846e49d0c8feb34ef046aa91c2ea18f79b47031", func := "bikeshare/bikesharelaw17.DockParts", spec := "dockParts", apart := false }
def DockPartsSaid : Prop := dockPartsRow.holds Try.pinned (OpenSpec.ofChange dockPartsSpec)

/-- ITS FALSE NEIGHBOUR: 'it returns false'. Refute it at one input. -/
def dockPartsWrong : ChangeSpec := { name := "dockParts", fn := fun _ => fun
  | [d1, d2, d3] => { results := [.lit (.bool false)], args := [d1, d2, d3] }
  | _ => none }
def DockPartsWrongFalsely : Prop := dockPartsRow.holds Try.pinned (OpenSpec.ofChange dockPartsWrong)

/- THE SECOND FORM. 'bulk': how many values and letters a reading holds, each counted each time it is reached (what is shared counts as often as it is met; a slice's spare places count too). A statement '..UptoSaid' is the law's where the arguments, and the package variables that the reading takes, are together of bulk at most 1048576: NARROWER than '..Said'. Prove '..Said' where nothing that the law and all that it calls make is longer than what came in: it says more and counts as full. Else prove '..UptoSaid'. A law counts once. -/
mutual
def uptoBulk {H : Type} : DataW H → Nat
  | .lit (.string bytes) => bytes.length + 1
  | .lit _ => 1
  | .nil => 1
  | .ptr d => uptoBulk d + 1
  | .slice elems spare => uptoBulkAll elems + uptoBulkAll spare + 1
  | .agg parts => uptoBulkAll parts + 1
  | .iface _ d => uptoBulk d + 1
  | .map entries => uptoBulkEntries entries + 1
  | .held _ => 1
def uptoBulkAll {H : Type} : List (DataW H) → Nat
  | [] => 0
  | d :: r => uptoBulk d + uptoBulkAll r
def uptoBulkEntries {H : Type} : List (Lit × DataW H) → Nat
  | [] => 0
  | x :: r => uptoBulkEntry x + uptoBulkEntries r
def uptoBulkEntry {H : Type} : Lit × DataW H → Nat
  | (.string bytes, d) => bytes.length + uptoBulk d + 1
  | (_, d) => uptoBulk d + 1
 end
def uptoSmall : (H : Type) → List (DataW H) → Bool := fun _ ds => decide (uptoBulkAll ds ≤ 1048576)
def OpenSpec.upto (s : _root_.Go.ChangeSpec) : _root_.Go.OpenSpec := { _root_.Go.OpenSpec.ofChange s with cond := some uptoSmall }

/-- 'bikesharelaw17.DockUndone', WHERE WHAT IT READS IS OF BULK AT MOST 1048576: true; the input reads as it did. -/
def dockUndoneUptoRow : OpenClaim := { program := "ytdallemhhdfemaa", sum := "6ccb4c1a696b0887fe1ba8526846e49d0c8feb34ef046aa91c2ea18f79b47031", func := "bikeshare/bikesharelaw17.DockUndone", spec := "dockUndone", apart := false, narrowed := true }
def DockUndoneUptoSaid : Prop := dockUndoneUptoRow.holds Try.pinned (OpenSpec.upto dockUndoneSpec)

/-- 'bikesharelaw17.DockNone', WHERE WHAT IT READS IS OF BULK AT MOST 1048576: true; the input reads as it did. -/
def dockNoneUptoRow : OpenClaim := { program := "ytdallemhhdfemaa", sum := "6ccb4c1a696b0887fe1ba8526846e49d0c8feb34ef046aa91c2ea18f79b47031", func := "bikeshare/bikesharelaw17.DockNone", spec := "dockNone", apart := false, narrowed := true }
def DockNoneUptoSaid : Prop := dockNoneUptoRow.holds Try.pinned (OpenSpec.upto dockNoneSpec)

/-- 'bikesharelaw17.DockCalls', WHERE WHAT IT READS IS OF BULK AT MOST 1048576: true; the input reads as it did. -/
def dockCallsUptoRow : OpenClaim := { program := "ytdallemhhdfemaa", sum := "6ccb4c1a696b0887fe1ba8526846e49d0c8feb34ef046aa91c2ea18f79b47031", func := "bikeshare/bikesharelaw17.DockCalls", spec := "dockCalls", apart := false, narrowed := true }
def DockCallsUptoSaid : Prop := dockCallsUptoRow.holds Try.pinned (OpenSpec.upto dockCallsSpec)

/-- 'bikesharelaw17.DockOnce', WHERE WHAT IT READS IS OF BULK AT MOST 1048576: true; the input reads as it did. -/
def dockOnceUptoRow : OpenClaim := { program := "ytdallemhhdfemaa", sum := "6ccb4c1a696b0887fe1ba8526846e49d0c8feb34ef046aa91c2ea18f79b47031", func := "bikeshare/bikesharelaw17.DockOnce", spec := "dockOnce", apart := false, narrowed := true }
def DockOnceUptoSaid : Prop := dockOnceUptoRow.holds Try.pinned (OpenSpec.upto dockOnceSpec)

/-- 'bikesharelaw17.DockParts', WHERE WHAT IT READS IS OF BULK AT MOST 1048576: true; the input reads as it did. -/
def dockPartsUptoRow : OpenClaim := { program := "ytdallemhhdfemaa", sum := "6ccb4c1a696b0887fe1ba8526846e49d0c8feb34ef046aa91c2ea18f79b47031", func := "bikeshare/bikesharelaw17.DockParts", spec := "dockParts", apart := false, narrowed := true }
def DockPartsUptoSaid : Prop := dockPartsUptoRow.holds Try.pinned (OpenSpec.upto dockPartsSpec)

end Rows
end Go.Proofs.Ytdallemhhdfemaa
