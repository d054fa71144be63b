/- The walk of Copy of the program. -/
import Derived.Test.YtdallemhhdfemaaDI
import Derived.Laws.CopyOwn
namespace Go.Proofs.Ytdallemhhdfemaa
open Go.RowKit
set_option maxHeartbeats 4000000
set_option maxRecDepth 100000
set_option linter.unusedVariables false

theorem info63 : (Try.prog.info? 63).map (·.size) = some 97 := by kernel_rfl
theorem staC_size (n : Int) (D : Dk) : (staC n D).toArray.size = 97 := by rw [List.size_toArray]; exact staC_len n D
theorem staC_one (n : Int) (D : Dk) : (staC n D).toArray.all (·.oneCell') = true := by
  rw [Array.all_eq_true_iff_forall_mem]
  intro v hv
  rw [List.mem_toArray] at hv
  unfold staC at hv
  rcases List.mem_cons.1 hv with rfl | hv
  · rfl
  · obtain ⟨q, _, rfl⟩ := List.mem_map.1 hv
    split
    · rfl
    · split <;> rfl

theorem zero63 (w : World) : (zeroValue 63).run Try.prog w = .ok (.agg (staC 0 zeroD).toArray) w := by kernel_rfl

theorem copy12 (p n : Nat) (D : Dk) (w : World) (h : Sta w p n D) : Calls Try.prog 12 #[ptr p] w fun x w' => x = .returned (ptr w.heap.size) ∧ Sta w' w.heap.size n D ∧ Below w.heap.size w w' := by
  have H := Lib.hid h
  obtain ⟨zs, hzl, hzs⟩ : ∃ zs : Array Value, zs.size = 97 ∧ ∀ w : World, (zeroValue 63).run Try.prog w = .ok (.agg zs) w := ⟨(staC 0 zeroD).toArray, staC_size _ _, zero63⟩
  have HL := Lib.hid hzl
  clear h hzl
  go_enter Try.func12, Try.ntmps12
  go_wp2_with (first
    | (with_reducible refine wpList_load_row rfl 63 (.tmp 7) rfl p rfl 63 (staC n D).toArray (0, 0) _ H.out.out Try.underlying63 rfl (by rw [staC_size]; exact info63) ?_)
    | (with_reducible refine wpList_store_row rfl 63 (.tmp 3) (.tmp 8) rfl w.heap.size (staC n D).toArray rfl rfl 63 zs (heap_alloc_new w _) (by rw [staC_size]; exact info63) (by rw [staC_size]; exact HL.out) (staC_one n D) ?_))
  go_ret
  exact ⟨rfl, ⟨setRow_heap _ _ _ _ 63 _ (heap_alloc_new w _), H.out.n1, H.out.n2⟩, below_setRow (box_bel w _) (Nat.le_refl _) _⟩
end Go.Proofs.Ytdallemhhdfemaa
