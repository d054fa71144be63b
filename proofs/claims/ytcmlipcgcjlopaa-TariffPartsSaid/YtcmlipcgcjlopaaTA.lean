/- The walks of the tariff's checks: in, ranged, Check, of the program and of the reference. -/
import Derived.Test.YtcmlipcgcjlopaaProg
import Derived.Test.YtcmlipcgcjlopaaOpen
import Derived.Test.YtcmlipcgcjlopaaTMath
namespace Go.Proofs.Ytcmlipcgcjlopaa
open Go.RowKit
set_option maxHeartbeats 1000000
set_option maxRecDepth 100000
set_option linter.unusedVariables false

theorem in30 (n lo hi : Int) (w : World) : Calls Try.prog 30 #[.int .i64 n, .int .i64 lo, .int .i64 hi] w fun e w' => e = .returned (.bool (inB n lo hi)) ∧ w = w' := by
  go_enter Try.func30, Try.ntmps30
  go_wp2
  all_goals go_ret
  all_goals (unfold inB; simp [*])
  omega
theorem in23 (n lo hi : Int) (w : World) : Calls Try.prog 23 #[.int .i64 n, .int .i64 lo, .int .i64 hi] w fun e w' => e = .returned (.bool (inB n lo hi)) ∧ w = w' := by
  go_enter Try.func23, Try.ntmps23
  go_wp2
  all_goals go_ret
  all_goals (unfold inB; simp [*])
  omega

/-- a version as a value -/
abbrev tv (f u s r p q : Int) : Value := .agg #[.int .i64 f, .int .i64 u, .int .i64 s, .int .i64 r, .int .i64 p, .int .i64 q]
theorem box_bel (w : World) (o : Obj) : Below w.heap.size w (w.alloc o) := (Below.refl _ _).alloc (Nat.le_refl _) _

theorem ranged_any (f u s r p q : Int) (w : World) :
    Calls Try.prog 24 #[tv f u s r p q] w fun e w' => e = .returned (.bool (rangedB f u s r p q)) ∧ Below w.heap.size w w' := by
  go_enter Try.func24, Try.ntmps24
  go_wp2_with (go_at_call 30; refine (in30 _ _ _ _).mono ?_; rintro e w' ⟨rfl, rfl⟩)
  all_goals go_ret
  all_goals
    refine ⟨ret_bool ?_, box_bel _ _⟩
    simp only [rangedB]
    simp [*]
end Go.Proofs.Ytcmlipcgcjlopaa
