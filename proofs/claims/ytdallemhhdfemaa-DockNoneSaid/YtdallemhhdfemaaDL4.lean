/- The walk of the law DockNone. -/
import Derived.Test.YtdallemhhdfemaaDK
namespace Go.Proofs.Ytdallemhhdfemaa
open Go.RowKit
set_option maxHeartbeats 4000000
set_option maxRecDepth 100000
set_option linter.unusedVariables false

theorem law4_any (k d b : Int) (w : World) : Calls Try.prog 4 #[.agg #[.int .i64 k, .int .i64 d, .int .i64 b]] w fun x w' => x = .returned (.bool true) ∧ Below w.heap.size w w' := by
  have B0 := Lib.hid (box_bel w (.cells #[.int .i64 k, .int .i64 d, .int .i64 b] 24))
  go_enter Try.func4, Try.ntmps4
  go_wp2_with fail
  refine (remove15_nil d _).mono ?_
  rintro x w1 ⟨rfl, rfl⟩
  go_wp2_with fail
  refine (bike16_nil d _).mono ?_
  rintro x w1 ⟨rfl, rfl⟩
  go_wp2_with fail
  refine (find17_nil b _).mono ?_
  rintro x w1 ⟨rfl, rfl⟩
  go_wp2_with fail
  refine (insert18_nil d b _).mono ?_
  rintro x w1 ⟨rfl, rfl⟩
  go_wp2_with fail
  refine (order19_nil d true _).mono ?_
  rintro x w1 ⟨rfl, rfl⟩
  go_wp2_with fail
  refine (free20_nil _).mono ?_
  rintro x w1 ⟨rfl, rfl⟩
  go_wp2_with fail
  refine (bikes21_nil _).mono ?_
  rintro x w1 ⟨rfl, rfl⟩
  go_wp2_with fail
  refine (copy12_nil _).mono ?_
  rintro x w1 ⟨rfl, rfl⟩
  go_wp2_with fail
  refine (awake_any _).mono ?_
  rintro x w1 ⟨rfl, hb⟩
  have B1 := Lib.hid (bel_tr B0.out hb (Nat.le_refl _))
  clear hb
  go_wp2_with fail
  go_ret
  exact ⟨rfl, B1.out⟩
end Go.Proofs.Ytdallemhhdfemaa
