/- What the calls on a nil station answer. -/
import Derived.Test.YtdallemhhdfemaaDG
namespace Go.Proofs.Ytdallemhhdfemaa
open Go.RowKit
set_option maxHeartbeats 2000000
set_option maxRecDepth 100000
set_option linter.unusedVariables false

theorem insert18_nil (d b : Int) (w : World) : Calls Try.prog 18 #[.pointer none, .int .i64 d, .int .i64 b] w fun x w' => x = .returned (.int .i64 11) ∧ w = w' := by
  go_enter Try.func18, Try.ntmps18
  go_wp2_with fail
  refine (can31_nil d w).mono ?_
  rintro x w1 ⟨rfl, rfl⟩
  go_wp2_with fail
  go_ret
  exact ⟨rfl, rfl⟩
theorem remove15_nil (d : Int) (w : World) : Calls Try.prog 15 #[.pointer none, .int .i64 d] w fun x w' => x = .returned (.tuple #[.int .i64 0, .int .i64 11]) ∧ w = w' := by
  go_enter Try.func15, Try.ntmps15
  go_wp2_with fail
  refine (can31_nil d w).mono ?_
  rintro x w1 ⟨rfl, rfl⟩
  go_wp2_with fail
  go_ret2
  exact ⟨rfl, rfl⟩
theorem order19_nil (d : Int) (g : Bool) (w : World) : Calls Try.prog 19 #[.pointer none, .int .i64 d, .bool g] w fun x w' => x = .returned (.int .i64 11) ∧ w = w' := by
  go_enter Try.func19, Try.ntmps19
  go_wp2_with fail
  refine (can31_nil d w).mono ?_
  rintro x w1 ⟨rfl, rfl⟩
  go_wp2_with fail
  go_ret
  exact ⟨rfl, rfl⟩
theorem bike16_nil (d : Int) (w : World) : Calls Try.prog 16 #[.pointer none, .int .i64 d] w fun x w' => x = .returned (.tuple #[.int .i64 0, .bool false]) ∧ w = w' := by
  go_enter Try.func16, Try.ntmps16
  go_wp2_with fail
  refine (can31_nil d w).mono ?_
  rintro x w1 ⟨rfl, rfl⟩
  go_wp2_with fail
  go_ret2
  exact ⟨rfl, rfl⟩
theorem free20_nil (w : World) : Calls Try.prog 20 #[.pointer none] w fun x w' => x = .returned (.slice none 0 0) ∧ w = w' := by
  go_enter Try.func20, Try.ntmps20
  go_wp2_with fail
  go_ret
  exact ⟨rfl, rfl⟩
theorem bikes21_nil (w : World) : Calls Try.prog 21 #[.pointer none] w fun x w' => x = .returned (.slice none 0 0) ∧ w = w' := by
  go_enter Try.func21, Try.ntmps21
  go_wp2_with fail
  go_ret
  exact ⟨rfl, rfl⟩
theorem copy12_nil (w : World) : Calls Try.prog 12 #[.pointer none] w fun x w' => x = .returned (.pointer none) ∧ w = w' := by
  go_enter Try.func12, Try.ntmps12
  go_wp2_with fail
  go_ret
  exact ⟨rfl, rfl⟩
end Go.Proofs.Ytdallemhhdfemaa
