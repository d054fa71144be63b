/-
  No cell of these rows narrows 'for every input' (looked for: loops, veiled, ifaces, maps, wideKeys, modest, calm, conditions, laid).
  DERIVED. THE GIVEN ROWS OF THIS SEAT. 7 by the template 'for every input the law returns true; each argument reads behind the call as it read before'; 0 by the template 'total and deterministic' (their statements: YtmfkkmonedgdnaaTotals.lean).
  GIVEN WITH THE SEED: the statements are not yours to turn. If you find one false, say at which input.
  Laid BY PROGRAM, IN A SANDBOX (cutbox-rows.mjs): the forced cells as the released guide's own fill.sh prints them over the translation 20c4507eea0de90f… (all of the seat's roots in one cut). By AI agents, Wed Nov 11 2026. No macro, syntax, notation, axiom, sorry.
-/
import Derived.Test.YtmfkkmonedgdnaaChecked
import GoSem.Claim
import GoSem.ClaimJoined
import GoSem.ClaimMapViews
import Derived.JoinedTies
import Derived.KernelRfl
namespace Go.Proofs.Ytmfkkmonedgdnaa
/- THE CELL 'sum', in the pinned program and in every row, IS THE sha256 OF THE DUMP (.gsa) THAT YtmfkkmonedgdnaaProg.lean LOADS. Nothing in Lean hashes anything: it is a label: what it is worth is what the hold of that sum in a sandbox is worth. -/
noncomputable def Try.pinned : Pinned := { name := "ytmfkkmonedgdnaa", sum := "20c4507eea0de90f5738692b43c7eeb77fbd7a6154e2bb273cccef92ab838c1d", checked := Try.checked }
namespace Rows
def none {H : Type} : Left H := { results := [], args := [] }

/-- 'bikesharelaw21.ReserveMakes': WHATEVER THE INPUT: true; the input reads as it did. -/
def reserveMakesSpec : ChangeSpec := { name := "reserveMakes", fn := fun _ => fun
  | [d1, d2] => { results := [.lit (.bool true)], args := [d1, d2] }
  | _ => none }
def reserveMakesRow : OpenClaim := { program := "ytmfkkmonedgdnaa", sum := "20c4507eea0de90f5738692b43c7eeb77fbd7a6154e2bb273cccef92ab838c1d", func := "bikeshare/bikesharelaw21.ReserveMakes", spec := "reserveMakes", apart := false }
def ReserveMakesSaid : Prop := reserveMakesRow.holds Try.pinned (OpenSpec.ofChange reserveMakesSpec)

/-- ITS FALSE NEIGHBOUR: 'it returns false'. Refute it at one input. -/
def reserveMakesWrong : ChangeSpec := { name := "reserveMakes", fn := fun _ => fun
  | [d1, d2] => { results := [.lit (.bool false)], args := [d1, d2] }
  | _ => none }
def ReserveMakesWrongFalsely : Prop := reserveMakesRow.holds Try.pinned (OpenSpec.ofChange reserveMakesWrong)

/-- 'bikesharelaw21.ReserveEnds': WHATEVER THE INPUT: true; the input reads as it did. -/
def reserveEndsSpec : ChangeSpec := { name := "reserveEnds", fn := fun _ => fun
  | [d1, d2, d3] => { results := [.lit (.bool true)], args := [d1, d2, d3] }
  | _ => none }
def reserveEndsRow : OpenClaim := { program := "ytmfkkmonedgdnaa", sum := "20c4507eea0de90f5738692b43c7eeb77fbd7a6154e2bb273cccef92ab838c1d", func := "bikeshare/bikesharelaw21.ReserveEnds", spec := "reserveEnds", apart := false }
def ReserveEndsSaid : Prop := reserveEndsRow.holds Try.pinned (OpenSpec.ofChange reserveEndsSpec)

/-- ITS FALSE NEIGHBOUR: 'it returns false'. Refute it at one input. -/
def reserveEndsWrong : ChangeSpec := { name := "reserveEnds", fn := fun _ => fun
  | [d1, d2, d3] => { results := [.lit (.bool false)], args := [d1, d2, d3] }
  | _ => none }
def ReserveEndsWrongFalsely : Prop := reserveEndsRow.holds Try.pinned (OpenSpec.ofChange reserveEndsWrong)

/-- 'bikesharelaw21.ReserveAsks': WHATEVER THE INPUT: true; the input reads as it did. -/
def reserveAsksSpec : ChangeSpec := { name := "reserveAsks", fn := fun _ => fun
  | [d1, d2, d3] => { results := [.lit (.bool true)], args := [d1, d2, d3] }
  | _ => none }
def reserveAsksRow : OpenClaim := { program := "ytmfkkmonedgdnaa", sum := "20c4507eea0de90f5738692b43c7eeb77fbd7a6154e2bb273cccef92ab838c1d", func := "bikeshare/bikesharelaw21.ReserveAsks", spec := "reserveAsks", apart := false }
def ReserveAsksSaid : Prop := reserveAsksRow.holds Try.pinned (OpenSpec.ofChange reserveAsksSpec)

/-- ITS FALSE NEIGHBOUR: 'it returns false'. Refute it at one input. -/
def reserveAsksWrong : ChangeSpec := { name := "reserveAsks", fn := fun _ => fun
  | [d1, d2, d3] => { results := [.lit (.bool false)], args := [d1, d2, d3] }
  | _ => none }
def ReserveAsksWrongFalsely : Prop := reserveAsksRow.holds Try.pinned (OpenSpec.ofChange reserveAsksWrong)

/-- 'bikesharelaw21.ReserveOnce': WHATEVER THE INPUT: true; the input reads as it did. -/
def reserveOnceSpec : ChangeSpec := { name := "reserveOnce", fn := fun _ => fun
  | [d1, d2] => { results := [.lit (.bool true)], args := [d1, d2] }
  | _ => none }
def reserveOnceRow : OpenClaim := { program := "ytmfkkmonedgdnaa", sum := "20c4507eea0de90f5738692b43c7eeb77fbd7a6154e2bb273cccef92ab838c1d", func := "bikeshare/bikesharelaw21.ReserveOnce", spec := "reserveOnce", apart := false }
def ReserveOnceSaid : Prop := reserveOnceRow.holds Try.pinned (OpenSpec.ofChange reserveOnceSpec)

/-- ITS FALSE NEIGHBOUR: 'it returns false'. Refute it at one input. -/
def reserveOnceWrong : ChangeSpec := { name := "reserveOnce", fn := fun _ => fun
  | [d1, d2] => { results := [.lit (.bool false)], args := [d1, d2] }
  | _ => none }
def ReserveOnceWrongFalsely : Prop := reserveOnceRow.holds Try.pinned (OpenSpec.ofChange reserveOnceWrong)

/-- 'bikesharelaw21.ReserveKeeps': WHATEVER THE INPUT: true; the input reads as it did. -/
def reserveKeepsSpec : ChangeSpec := { name := "reserveKeeps", fn := fun _ => fun
  | [d1, d2, d3] => { results := [.lit (.bool true)], args := [d1, d2, d3] }
  | _ => none }
def reserveKeepsRow : OpenClaim := { program := "ytmfkkmonedgdnaa", sum := "20c4507eea0de90f5738692b43c7eeb77fbd7a6154e2bb273cccef92ab838c1d", func := "bikeshare/bikesharelaw21.ReserveKeeps", spec := "reserveKeeps", apart := false }
def ReserveKeepsSaid : Prop := reserveKeepsRow.holds Try.pinned (OpenSpec.ofChange reserveKeepsSpec)

/-- ITS FALSE NEIGHBOUR: 'it returns false'. Refute it at one input. -/
def reserveKeepsWrong : ChangeSpec := { name := "reserveKeeps", fn := fun _ => fun
  | [d1, d2, d3] => { results := [.lit (.bool false)], args := [d1, d2, d3] }
  | _ => none }
def ReserveKeepsWrongFalsely : Prop := reserveKeepsRow.holds Try.pinned (OpenSpec.ofChange reserveKeepsWrong)

/-- 'bikesharelaw21.ReserveShorter': WHATEVER THE INPUT: true; the input reads as it did. -/
def reserveShorterSpec : ChangeSpec := { name := "reserveShorter", fn := fun _ => fun
  | [d1, d2] => { results := [.lit (.bool true)], args := [d1, d2] }
  | _ => none }
def reserveShorterRow : OpenClaim := { program := "ytmfkkmonedgdnaa", sum := "20c4507eea0de90f5738692b43c7eeb77fbd7a6154e2bb273cccef92ab838c1d", func := "bikeshare/bikesharelaw21.ReserveShorter", spec := "reserveShorter", apart := false }
def ReserveShorterSaid : Prop := reserveShorterRow.holds Try.pinned (OpenSpec.ofChange reserveShorterSpec)

/-- ITS FALSE NEIGHBOUR: 'it returns false'. Refute it at one input. -/
def reserveShorterWrong : ChangeSpec := { name := "reserveShorter", fn := fun _ => fun
  | [d1, d2] => { results := [.lit (.bool false)], args := [d1, d2] }
  | _ => none }
def ReserveShorterWrongFalsely : Prop := reserveShorterRow.holds Try.pinned (OpenSpec.ofChange reserveShorterWrong)

/-- 'bikesharelaw21.ReserveNext': WHATEVER THE INPUT: true; the input reads as it did. -/
def reserveNextSpec : ChangeSpec := { name := "reserveNext", fn := fun _ => fun
  | [d1, d2, d3] => { results := [.lit (.bool true)], args := [d1, d2, d3] }
  | _ => none }
def reserveNextRow : OpenClaim := { program := "ytmfkkmonedgdnaa", sum := "20c4507eea0de90f5738692b43c7eeb77fbd7a6154e2bb273cccef92ab838c1d", func := "bikeshare/bikesharelaw21.ReserveNext", spec := "reserveNext", apart := false }
def ReserveNextSaid : Prop := reserveNextRow.holds Try.pinned (OpenSpec.ofChange reserveNextSpec)

/-- ITS FALSE NEIGHBOUR: 'it returns false'. Refute it at one input. -/
def reserveNextWrong : ChangeSpec := { name := "reserveNext", fn := fun _ => fun
  | [d1, d2, d3] => { results := [.lit (.bool false)], args := [d1, d2, d3] }
  | _ => none }
def ReserveNextWrongFalsely : Prop := reserveNextRow.holds Try.pinned (OpenSpec.ofChange reserveNextWrong)

/- THE SECOND FORM. 'bulk': how many values and letters a reading holds, each counted each time it is reached (what is shared counts as often as it is met; a slice's spare places count too). A statement '..UptoSaid' is the law's where the arguments, and the package variables that the reading takes, are together of bulk at most 1048576: NARROWER than '..Said'. Prove '..Said' where nothing that the law and all that it calls make is longer than what came in: it says more and counts as full. Else prove '..UptoSaid'. A law counts once. -/
mutual
def uptoBulk {H : Type} : DataW H → Nat
  | .lit (.string bytes) => bytes.length + 1
  | .lit _ => 1
  | .nil => 1
  | .ptr d => uptoBulk d + 1
  | .slice elems spare => uptoBulkAll elems + uptoBulkAll spare + 1
  | .agg parts => uptoBulkAll parts + 1
  | .iface _ d => uptoBulk d + 1
  | .map entries => uptoBulkEntries entries + 1
  | .held _ => 1
def uptoBulkAll {H : Type} : List (DataW H) → Nat
  | [] => 0
  | d :: r => uptoBulk d + uptoBulkAll r
def uptoBulkEntries {H : Type} : List (Lit × DataW H) → Nat
  | [] => 0
  | x :: r => uptoBulkEntry x + uptoBulkEntries r
def uptoBulkEntry {H : Type} : Lit × DataW H → Nat
  | (.string bytes, d) => bytes.length + uptoBulk d + 1
  | (_, d) => uptoBulk d + 1
 end
def uptoSmall : (H : Type) → List (DataW H) → Bool := fun _ ds => decide (uptoBulkAll ds ≤ 1048576)
def OpenSpec.upto (s : _root_.Go.ChangeSpec) : _root_.Go.OpenSpec := { _root_.Go.OpenSpec.ofChange s with cond := some uptoSmall }

/-- 'bikesharelaw21.ReserveMakes', WHERE WHAT IT READS IS OF BULK AT MOST 1048576: true; the input reads as it did. -/
def reserveMakesUptoRow : OpenClaim := { program := "ytmfkkmonedgdnaa", sum := "20c4507eea0de90f5738692b43c7eeb77fbd7a6154e2bb273cccef92ab838c1d", func := "bikeshare/bikesharelaw21.ReserveMakes", spec := "reserveMakes", apart := false, narrowed := true }
def ReserveMakesUptoSaid : Prop := reserveMakesUptoRow.holds Try.pinned (OpenSpec.upto reserveMakesSpec)

/-- 'bikesharelaw21.ReserveEnds', WHERE WHAT IT READS IS OF BULK AT MOST 1048576: true; the input reads as it did. -/
def reserveEndsUptoRow : OpenClaim := { program := "ytmfkkmonedgdnaa", sum := "20c4507eea0de90f5738692b43c7eeb77fbd7a6154e2bb273cccef92ab838c1d", func := "bikeshare/bikesharelaw21.ReserveEnds", spec := "reserveEnds", apart := false, narrowed := true }
def ReserveEndsUptoSaid : Prop := reserveEndsUptoRow.holds Try.pinned (OpenSpec.upto reserveEndsSpec)

/-- 'bikesharelaw21.ReserveAsks', WHERE WHAT IT READS IS OF BULK AT MOST 1048576: true; the input reads as it did. -/
def reserveAsksUptoRow : OpenClaim := { program := "ytmfkkmonedgdnaa", sum := "20c4507eea0de90f5738692b43c7eeb77fbd7a6154e2bb273cccef92ab838c1d", func := "bikeshare/bikesharelaw21.ReserveAsks", spec := "reserveAsks", apart := false, narrowed := true }
def ReserveAsksUptoSaid : Prop := reserveAsksUptoRow.holds Try.pinned (OpenSpec.upto reserveAsksSpec)

/-- 'bikesharelaw21.ReserveOnce', WHERE WHAT IT READS IS OF BULK AT MOST 1048576: true; the input reads as it did. -/
def reserveOnceUptoRow : OpenClaim := { program := "ytmfkkmonedgdnaa", sum := "20c4507eea0de90f5738692b43c7eeb77fbd7a6154e2bb273cccef92ab838c1d", func := "bikeshare/bikesharelaw21.ReserveOnce", spec := "reserveOnce", apart := false, narrowed := true }
def ReserveOnceUptoSaid : Prop := reserveOnceUptoRow.holds Try.pinned (OpenSpec.upto reserveOnceSpec)

/-- 'bikesharelaw21.ReserveKeeps', WHERE WHAT IT READS IS OF BULK AT MOST 1048576: true; the input reads as it did. -/
def reserveKeepsUptoRow : OpenClaim := { program := "ytmfkkmonedgdnaa", sum := "20c4507eea0de90f5738692b43c7eeb77fbd7a6154e2bb273cccef92ab838c1d", func := "bikeshare/bikesharelaw21.ReserveKeeps", spec := "reserveKeeps", apart := false, narrowed := true }
def ReserveKeepsUptoSaid : Prop := reserveKeepsUptoRow.holds Try.pinned (OpenSpec.upto reserveKeepsSpec)

/-- 'bikesharelaw21.ReserveShorter', WHERE WHAT IT READS IS OF BULK AT MOST 1048576: true; the input reads as it did. -/
def reserveShorterUptoRow : OpenClaim := { program := "ytmfkkmonedgdnaa", sum := "20c4507eea0de90f5738692b43c7eeb77fbd7a6154e2bb273cccef92ab838c1d", func := "bikeshare/bikesharelaw21.ReserveShorter", spec := "reserveShorter", apart := false, narrowed := true }
def ReserveShorterUptoSaid : Prop := reserveShorterUptoRow.holds Try.pinned (OpenSpec.upto reserveShorterSpec)

/-- 'bikesharelaw21.ReserveNext', WHERE WHAT IT READS IS OF BULK AT MOST 1048576: true; the input reads as it did. -/
def reserveNextUptoRow : OpenClaim := { program := "ytmfkkmonedgdnaa", sum := "20c4507eea0de90f5738692b43c7eeb77fbd7a6154e2bb273cccef92ab838c1d", func := "bikeshare/bikesharelaw21.ReserveNext", spec := "reserveNext", apart := false, narrowed := true }
def ReserveNextUptoSaid : Prop := reserveNextUptoRow.holds Try.pinned (OpenSpec.upto reserveNextSpec)

end Rows
end Go.Proofs.Ytmfkkmonedgdnaa
