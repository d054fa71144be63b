/-
  No cell of these rows narrows 'for every input' (looked for: loops, veiled, ifaces, maps, wideKeys, modest, calm, conditions, laid).
  DERIVED. THE GIVEN ROWS OF THIS SEAT. 7 by the template 'for every input the law returns true; each argument reads behind the call as it read before'; 0 by the template 'total and deterministic' (their statements: YtgcjjnmdbdllhaaTotals.lean).
  GIVEN WITH THE SEED: the statements are not yours to turn. If you find one false, say at which input.
  Laid BY PROGRAM, IN A SANDBOX (cutbox-rows.mjs): the forced cells as the released guide's own fill.sh prints them over the translation eb0fbfd76bfad136… (all of the seat's roots in one cut). By AI agents, Wed Nov 11 2026. No macro, syntax, notation, axiom, sorry.
-/
import Derived.Test.YtgcjjnmdbdllhaaChecked
import GoSem.Claim
import GoSem.ClaimJoined
import GoSem.ClaimMapViews
import Derived.JoinedTies
import Derived.KernelRfl
namespace Go.Proofs.Ytgcjjnmdbdllhaa
/- THE CELL 'sum', in the pinned program and in every row, IS THE sha256 OF THE DUMP (.gsa) THAT YtgcjjnmdbdllhaaProg.lean LOADS. Nothing in Lean hashes anything: it is a label: what it is worth is what the hold of that sum in a sandbox is worth. -/
noncomputable def Try.pinned : Pinned := { name := "ytgcjjnmdbdllhaa", sum := "eb0fbfd76bfad136fd393132ab1b92f69a99ae99855623c9ef90b3556942b599", checked := Try.checked }
namespace Rows
def none {H : Type} : Left H := { results := [], args := [] }

/-- 'bikesharelaw14.BatteryReads': WHATEVER THE INPUT: true; the input reads as it did. -/
def batteryReadsSpec : ChangeSpec := { name := "batteryReads", fn := fun _ => fun
  | [d1, d2] => { results := [.lit (.bool true)], args := [d1, d2] }
  | _ => none }
def batteryReadsRow : OpenClaim := { program := "ytgcjjnmdbdllhaa", sum := "eb0fbfd76bfad136fd393132ab1b92f69a99ae99855623c9ef90b3556942b599", func := "bikeshare/bikesharelaw14.BatteryReads", spec := "batteryReads", apart := false }
def BatteryReadsSaid : Prop := batteryReadsRow.holds Try.pinned (OpenSpec.ofChange batteryReadsSpec)

/-- ITS FALSE NEIGHBOUR: 'it returns false'. Refute it at one input. -/
def batteryReadsWrong : ChangeSpec := { name := "batteryReads", fn := fun _ => fun
  | [d1, d2] => { results := [.lit (.bool false)], args := [d1, d2] }
  | _ => none }
def BatteryReadsWrongFalsely : Prop := batteryReadsRow.holds Try.pinned (OpenSpec.ofChange batteryReadsWrong)

/-- 'bikesharelaw14.BatteryLasts': WHATEVER THE INPUT: true; the input reads as it did. -/
def batteryLastsSpec : ChangeSpec := { name := "batteryLasts", fn := fun _ => fun
  | [d1, d2] => { results := [.lit (.bool true)], args := [d1, d2] }
  | _ => none }
def batteryLastsRow : OpenClaim := { program := "ytgcjjnmdbdllhaa", sum := "eb0fbfd76bfad136fd393132ab1b92f69a99ae99855623c9ef90b3556942b599", func := "bikeshare/bikesharelaw14.BatteryLasts", spec := "batteryLasts", apart := false }
def BatteryLastsSaid : Prop := batteryLastsRow.holds Try.pinned (OpenSpec.ofChange batteryLastsSpec)

/-- ITS FALSE NEIGHBOUR: 'it returns false'. Refute it at one input. -/
def batteryLastsWrong : ChangeSpec := { name := "batteryLasts", fn := fun _ => fun
  | [d1, d2] => { results := [.lit (.bool false)], args := [d1, d2] }
  | _ => none }
def BatteryLastsWrongFalsely : Prop := batteryLastsRow.holds Try.pinned (OpenSpec.ofChange batteryLastsWrong)

/-- 'bikesharelaw14.BatteryMeets': WHATEVER THE INPUT: true; the input reads as it did. -/
def batteryMeetsSpec : ChangeSpec := { name := "batteryMeets", fn := fun _ => fun
  | [d1, d2, d3] => { results := [.lit (.bool true)], args := [d1, d2, d3] }
  | _ => none }
def batteryMeetsRow : OpenClaim := { program := "ytgcjjnmdbdllhaa", sum := "eb0fbfd76bfad136fd393132ab1b92f69a99ae99855623c9ef90b3556942b599", func := "bikeshare/bikesharelaw14.BatteryMeets", spec := "batteryMeets", apart := false }
def BatteryMeetsSaid : Prop := batteryMeetsRow.holds Try.pinned (OpenSpec.ofChange batteryMeetsSpec)

/-- ITS FALSE NEIGHBOUR: 'it returns false'. Refute it at one input. -/
def batteryMeetsWrong : ChangeSpec := { name := "batteryMeets", fn := fun _ => fun
  | [d1, d2, d3] => { results := [.lit (.bool false)], args := [d1, d2, d3] }
  | _ => none }
def BatteryMeetsWrongFalsely : Prop := batteryMeetsRow.holds Try.pinned (OpenSpec.ofChange batteryMeetsWrong)

/-- 'bikesharelaw14.BatterySound': WHATEVER THE INPUT: true; the input reads as it did. -/
def batterySoundSpec : ChangeSpec := { name := "batterySound", fn := fun _ => fun
  | [d1, d2, d3] => { results := [.lit (.bool true)], args := [d1, d2, d3] }
  | _ => none }
def batterySoundRow : OpenClaim := { program := "ytgcjjnmdbdllhaa", sum := "eb0fbfd76bfad136fd393132ab1b92f69a99ae99855623c9ef90b3556942b599", func := "bikeshare/bikesharelaw14.BatterySound", spec := "batterySound", apart := false }
def BatterySoundSaid : Prop := batterySoundRow.holds Try.pinned (OpenSpec.ofChange batterySoundSpec)

/-- ITS FALSE NEIGHBOUR: 'it returns false'. Refute it at one input. -/
def batterySoundWrong : ChangeSpec := { name := "batterySound", fn := fun _ => fun
  | [d1, d2, d3] => { results := [.lit (.bool false)], args := [d1, d2, d3] }
  | _ => none }
def BatterySoundWrongFalsely : Prop := batterySoundRow.holds Try.pinned (OpenSpec.ofChange batterySoundWrong)

/-- 'bikesharelaw14.BatteryTrue': WHATEVER THE INPUT: true; the input reads as it did. -/
def batteryTrueSpec : ChangeSpec := { name := "batteryTrue", fn := fun _ => fun
  | [d1, d2, d3] => { results := [.lit (.bool true)], args := [d1, d2, d3] }
  | _ => none }
def batteryTrueRow : OpenClaim := { program := "ytgcjjnmdbdllhaa", sum := "eb0fbfd76bfad136fd393132ab1b92f69a99ae99855623c9ef90b3556942b599", func := "bikeshare/bikesharelaw14.BatteryTrue", spec := "batteryTrue", apart := false }
def BatteryTrueSaid : Prop := batteryTrueRow.holds Try.pinned (OpenSpec.ofChange batteryTrueSpec)

/-- ITS FALSE NEIGHBOUR: 'it returns false'. Refute it at one input. -/
def batteryTrueWrong : ChangeSpec := { name := "batteryTrue", fn := fun _ => fun
  | [d1, d2, d3] => { results := [.lit (.bool false)], args := [d1, d2, d3] }
  | _ => none }
def BatteryTrueWrongFalsely : Prop := batteryTrueRow.holds Try.pinned (OpenSpec.ofChange batteryTrueWrong)

/-- 'bikesharelaw14.BatteryAdds': WHATEVER THE INPUT: true; the input reads as it did. -/
def batteryAddsSpec : ChangeSpec := { name := "batteryAdds", fn := fun _ => fun
  | [d1, d2, d3] => { results := [.lit (.bool true)], args := [d1, d2, d3] }
  | _ => none }
def batteryAddsRow : OpenClaim := { program := "ytgcjjnmdbdllhaa", sum := "eb0fbfd76bfad136fd393132ab1b92f69a99ae99855623c9ef90b3556942b599", func := "bikeshare/bikesharelaw14.BatteryAdds", spec := "batteryAdds", apart := false }
def BatteryAddsSaid : Prop := batteryAddsRow.holds Try.pinned (OpenSpec.ofChange batteryAddsSpec)

/-- ITS FALSE NEIGHBOUR: 'it returns false'. Refute it at one input. -/
def batteryAddsWrong : ChangeSpec := { name := "batteryAdds", fn := fun _ => fun
  | [d1, d2, d3] => { results := [.lit (.bool false)], args := [d1, d2, d3] }
  | _ => none }
def BatteryAddsWrongFalsely : Prop := batteryAddsRow.holds Try.pinned (OpenSpec.ofChange batteryAddsWrong)

/-- 'bikesharelaw14.BatteryLimits': WHATEVER THE INPUT: true; the input reads as it did. -/
def batteryLimitsSpec : ChangeSpec := { name := "batteryLimits", fn := fun _ => fun
  | [d1, d2] => { results := [.lit (.bool true)], args := [d1, d2] }
  | _ => none }
def batteryLimitsRow : OpenClaim := { program := "ytgcjjnmdbdllhaa", sum := "eb0fbfd76bfad136fd393132ab1b92f69a99ae99855623c9ef90b3556942b599", func := "bikeshare/bikesharelaw14.BatteryLimits", spec := "batteryLimits", apart := false }
def BatteryLimitsSaid : Prop := batteryLimitsRow.holds Try.pinned (OpenSpec.ofChange batteryLimitsSpec)

/-- ITS FALSE NEIGHBOUR: 'it returns false'. Refute it at one input. -/
def batteryLimitsWrong : ChangeSpec := { name := "batteryLimits", fn := fun _ => fun
  | [d1, d2] => { results := [.lit (.bool false)], args := [d1, d2] }
  | _ => none }
def BatteryLimitsWrongFalsely : Prop := batteryLimitsRow.holds Try.pinned (OpenSpec.ofChange batteryLimitsWrong)

/- THE SECOND FORM. 'bulk': how many values and letters a reading holds, each counted each time it is reached (what is shared counts as often as it is met; a slice's spare places count too). A statement '..UptoSaid' is the law's where the arguments, and the package variables that the reading takes, are together of bulk at most 1048576: NARROWER than '..Said'. Prove '..Said' where nothing that the law and all that it calls make is longer than what came in: it says more and counts as full. Else prove '..UptoSaid'. A law counts once. -/
mutual
def uptoBulk {H : Type} : DataW H → Nat
  | .lit (.string bytes) => bytes.length + 1
  | .lit _ => 1
  | .nil => 1
  | .ptr d => uptoBulk d + 1
  | .slice elems spare => uptoBulkAll elems + uptoBulkAll spare + 1
  | .agg parts => uptoBulkAll parts + 1
  | .iface _ d => uptoBulk d + 1
  | .map entries => uptoBulkEntries entries + 1
  | .held _ => 1
def uptoBulkAll {H : Type} : List (DataW H) → Nat
  | [] => 0
  | d :: r => uptoBulk d + uptoBulkAll r
def uptoBulkEntries {H : Type} : List (Lit × DataW H) → Nat
  | [] => 0
  | x :: r => uptoBulkEntry x + uptoBulkEntries r
def uptoBulkEntry {H : Type} : Lit × DataW H → Nat
  | (.string bytes, d) => bytes.length + uptoBulk d + 1
  | (_, d) => uptoBulk d + 1
 end
def uptoSmall : (H : Type) → List (DataW H) → Bool := fun _ ds => decide (uptoBulkAll ds ≤ 1048576)
def OpenSpec.upto (s : _root_.Go.ChangeSpec) : _root_.Go.OpenSpec := { _root_.Go.OpenSpec.ofChange s with cond := some uptoSmall }

/-- 'bikesharelaw14.BatteryReads', WHERE WHAT IT READS IS OF BULK AT MOST 1048576: true; the input reads as it did. -/
def batteryReadsUptoRow : OpenClaim := { program := "ytgcjjnmdbdllhaa", sum := "eb0fbfd76bfad136fd393132ab1b92f69a99ae99855623c9ef90b3556942b599", func := "bikeshare/bikesharelaw14.BatteryReads", spec := "batteryReads", apart := false, narrowed := true }
def BatteryReadsUptoSaid : Prop := batteryReadsUptoRow.holds Try.pinned (OpenSpec.upto batteryReadsSpec)

/-- 'bikesharelaw14.BatteryLasts', WHERE WHAT IT READS IS OF BULK AT MOST 1048576: true; the input reads as it did. -/
def batteryLastsUptoRow : OpenClaim := { program := "ytgcjjnmdbdllhaa", sum := "eb0fbfd76bfad136fd393132ab1b92f69a99ae99855623c9ef90b3556942b599", func := "bikeshare/bikesharelaw14.BatteryLasts", spec := "batteryLasts", apart := false, narrowed := true }
def BatteryLastsUptoSaid : Prop := batteryLastsUptoRow.holds Try.pinned (OpenSpec.upto batteryLastsSpec)

/-- 'bikesharelaw14.BatteryMeets', WHERE WHAT IT READS IS OF BULK AT MOST 1048576: true; the input reads as it did. -/
def batteryMeetsUptoRow : OpenClaim := { program := "ytgcjjnmdbdllhaa", sum := "eb0fbfd76bfad136fd393132ab1b92f69a99ae99855623c9ef90b3556942b599", func := "bikeshare/bikesharelaw14.BatteryMeets", spec := "batteryMeets", apart := false, narrowed := true }
def BatteryMeetsUptoSaid : Prop := batteryMeetsUptoRow.holds Try.pinned (OpenSpec.upto batteryMeetsSpec)

/-- 'bikesharelaw14.BatterySound', WHERE WHAT IT READS IS OF BULK AT MOST 1048576: true; the input reads as it did. -/
def batterySoundUptoRow : OpenClaim := { program := "ytgcjjnmdbdllhaa", sum := "eb0fbfd76bfad136fd393132ab1b92f69a99ae99855623c9ef90b3556942b599", func := "bikeshare/bikesharelaw14.BatterySound", spec := "batterySound", apart := false, narrowed := true }
def BatterySoundUptoSaid : Prop := batterySoundUptoRow.holds Try.pinned (OpenSpec.upto batterySoundSpec)

/-- 'bikesharelaw14.BatteryTrue', WHERE WHAT IT READS IS OF BULK AT MOST 1048576: true; the input reads as it did. -/
def batteryTrueUptoRow : OpenClaim := { program := "ytgcjjnmdbdllhaa", sum := "eb0fbfd76bfad136fd393132ab1b92f69a99ae99855623c9ef90b3556942b599", func := "bikeshare/bikesharelaw14.BatteryTrue", spec := "batteryTrue", apart := false, narrowed := true }
def BatteryTrueUptoSaid : Prop := batteryTrueUptoRow.holds Try.pinned (OpenSpec.upto batteryTrueSpec)

/-- 'bikesharelaw14.BatteryAdds', WHERE WHAT IT READS IS OF BULK AT MOST 1048576: true; the input reads as it did. -/
def batteryAddsUptoRow : OpenClaim := { program := "ytgcjjnmdbdllhaa", sum := "eb0fbfd76bfad136fd393132ab1b92f69a99ae99855623c9ef90b3556942b599", func := "bikeshare/bikesharelaw14.BatteryAdds", spec := "batteryAdds", apart := false, narrowed := true }
def BatteryAddsUptoSaid : Prop := batteryAddsUptoRow.holds Try.pinned (OpenSpec.upto batteryAddsSpec)

/-- 'bikesharelaw14.BatteryLimits', WHERE WHAT IT READS IS OF BULK AT MOST 1048576: true; the input reads as it did. -/
def batteryLimitsUptoRow : OpenClaim := { program := "ytgcjjnmdbdllhaa", sum := "eb0fbfd76bfad136fd393132ab1b92f69a99ae99855623c9ef90b3556942b599", func := "bikeshare/bikesharelaw14.BatteryLimits", spec := "batteryLimits", apart := false, narrowed := true }
def BatteryLimitsUptoSaid : Prop := batteryLimitsUptoRow.holds Try.pinned (OpenSpec.upto batteryLimitsSpec)

end Rows
end Go.Proofs.Ytgcjjnmdbdllhaa
