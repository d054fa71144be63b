/- The walks of the battery's small functions: in, within, Interval, ascends, loss, sp, few. -/
import Derived.Test.YtgcjjnmdbdllhaaProg
import Derived.Test.YtgcjjnmdbdllhaaOpen
import Derived.Test.YtgcjjnmdbdllhaaBMath
namespace Go.Proofs.Ytgcjjnmdbdllhaa
open Go.RowKit
set_option maxHeartbeats 1000000
set_option maxRecDepth 100000
set_option linter.unusedVariables false

theorem box_bel (w : World) (o : Obj) : Below w.heap.size w (w.alloc o) := (Below.refl _ _).alloc (Nat.le_refl _) _
theorem new_cell (w : World) (cs : Array Value) (t : TypeId) (i : Nat) : (w.alloc (.cells cs t)).cell? ⟨w.heap.size, i, none⟩ = cs[i]? := cell_of_row _ w.heap.size i cs t (0, 0) (heap_alloc_new w _)
theorem one_block (w : World) (A : Array Value) (ta : TypeId) (w1 : World) (h : Below (w.heap.size + 1) (w.alloc (.cells A ta)) w1) : ∀ i, w1.cell? ⟨w.heap.size, i, none⟩ = A[i]? := by
  have hA1 := (h.block w.heap.size (by omega)).trans (heap_alloc_new w (.cells A ta))
  exact fun i => cell_of_row _ _ _ _ _ _ hA1

theorem bel1 {w wr w1 : World} {A : Array Value} {t : TypeId} (h : Below (w.heap.size + 1) (w.alloc (.cells A t)) wr) (h1 : Below wr.heap.size wr w1) : Below (w.heap.size + 1) (w.alloc (.cells A t)) w1 :=
  h.trans (h1.mono (by have := h.size; simpa using this))
theorem bel2 {w wr w1 : World} {A B : Array Value} {t u : TypeId} (h : Below (w.heap.size + 2) ((w.alloc (.cells A t)).alloc (.cells B u)) wr) (h1 : Below wr.heap.size wr w1) : Below (w.heap.size + 2) ((w.alloc (.cells A t)).alloc (.cells B u)) w1 :=
  h.trans (h1.mono (by have := h.size; simpa using this))
theorem in26 (n most : Int) (w : World) : Calls Try.prog 26 #[.int .i64 n, .int .i64 most] w fun e w' => e = .returned (.bool (inB n most)) ∧ w = w' := by
  go_enter Try.func26, Try.ntmps26
  go_wp2
  all_goals go_ret
  all_goals exact ⟨ret_bool (by unfold inB; symm; first | (rw [decide_eq_decide]; omega) | (rw [decide_eq_true_eq]; omega) | (rw [decide_eq_false_iff_not]; omega)), rfl⟩
theorem within28 (lo hi : Int) (w : World) : Calls Try.prog 28 #[sv lo hi] w fun e w' => e = .returned (.bool (spB lo hi)) ∧ Below w.heap.size w w' := by
  go_enter Try.func28, Try.ntmps28
  go_wp2
  all_goals go_ret
  all_goals exact ⟨ret_bool (by unfold spB; symm; first | (rw [decide_eq_decide]; omega) | (rw [decide_eq_true_eq]; omega) | (rw [decide_eq_false_iff_not]; omega)), box_bel _ _⟩
theorem interval21 (lo hi : Int) (w : World) : Calls Try.prog 21 #[sv lo hi] w fun e w' => e = .returned (.bool (spB lo hi)) ∧ Below w.heap.size w w' := by
  go_enter Try.func21, Try.ntmps21
  go_wp2
  all_goals go_ret
  all_goals exact ⟨ret_bool (by unfold spB; symm; first | (rw [decide_eq_decide]; omega) | (rw [decide_eq_true_eq]; omega) | (rw [decide_eq_false_iff_not]; omega)), box_bel _ _⟩
theorem sp22 (lo hi : Int) (w : World) : Calls Try.prog 22 #[.int .i64 lo, .int .i64 hi] w fun e w' => e = .returned (sv lo hi) ∧ Below w.heap.size w w' := by
  go_enter Try.func22, Try.ntmps22
  go_wp2
  refine bodyPost_ret (v := sv lo hi) (by simp [results, Try.results22, go_sem]) rfl ⟨rfl, ?_⟩
  exact box_bel _ _
theorem few10 (b : BD) (w : World) : Calls Try.prog 10 #[b.val] w fun e w' => e = .returned (.bool (fewB b)) ∧ Below w.heap.size w w' := by
  obtain ⟨A, n, c, C, m, d, v, h, er, il, ih, rl, rh⟩ := b
  go_enter Try.func10, Try.ntmps10
  go_wp2
  all_goals go_ret
  all_goals exact ⟨ret_bool (by unfold fewB; dsimp only; symm; first | (rw [decide_eq_decide]; omega) | (rw [decide_eq_true_eq]; omega) | (rw [decide_eq_false_iff_not]; omega)), box_bel _ _⟩
theorem loss31 (b : BD) (g : Bool) (w : World) : Calls Try.prog 31 #[b.val, .bool g] w fun e w' => e = .returned (sv (lsL b g) (lsH b g)) ∧ Below w.heap.size w w' := by
  obtain ⟨A, n, c, C, m, d, v, h, er, il, ih, rl, rh⟩ := b
  cases g
  all_goals
    go_enter Try.func31, Try.ntmps31
    go_wp2
    refine bodyPost_ret (v := sv _ _) (by simp [results, Try.results31, go_sem, lsL, lsH]) rfl ⟨rfl, ?_⟩
    exact (box_bel _ _).alloc (by simp) _
theorem loss23 (b : BD) (g : Bool) (w : World) : Calls Try.prog 23 #[b.val, .bool g] w fun e w' => e = .returned (sv (lsL b g) (lsH b g)) ∧ Below w.heap.size w w' := by
  obtain ⟨A, n, c, C, m, d, v, h, er, il, ih, rl, rh⟩ := b
  cases g
  all_goals
    go_enter Try.func23, Try.ntmps23
    go_wp2
    refine bodyPost_ret (v := sv _ _) (by simp [results, Try.results23, go_sem, lsL, lsH]) rfl ⟨rfl, ?_⟩
    exact (box_bel _ _).alloc (by simp) _

theorem ascends29 (A : Option Addr) (n c : Nat) (f : Nat → Int) (w : World) (hr : SlI w A n f) (m1 : n ≤ 9223372036854775807) :
    Calls Try.prog 29 #[.slice A n c] w fun e w' => e = .returned (.bool (ascB f n)) ∧ Below w.heap.size w w' := by
  have Hr := Lib.hid hr
  clear hr
  go_enter Try.func29, Try.ntmps29
  go_wp2
  go_loopw [3] (fun i wr => ∃ k : Nat, k + 1 ≤ n + 1 ∧ i = .int .i64 (k + 1 : Nat) ∧ Hid (∀ j, j < k → j + 1 < n → f j < f (j + 1)) ∧ Hid (Below w.heap.size w wr)) (fun i _ => n + 1 - (intOf i).toNat)
  case atStart => exact ⟨0, by omega, rfl, Lib.hid (fun j h => absurd h (by omega)), Lib.hid (Below.refl _ _)⟩
  case round =>
    obtain ⟨k, hk, rfl, Hs, Hb⟩ := hrel
    by_cases hlt : k + 1 < n
    · obtain ⟨b, o, rfl, hb, hc⟩ := Hr.out.at_ k (by omega)
      clear hc
      have H := Lib.hid (Hr.out.bel Hb.out)
      have z0 := H.out.cell k (by omega)
      have z1 := H.out.cell (k + 1) hlt
      have hltI : ((k + 1 : Nat) : Int) < (n : Int) := by omega
      have hw1 : IntKind.i64.wrap (((k + 1 : Nat) : Int) - 1) = (k : Int) := by rw [show ((k + 1 : Nat) : Int) - 1 = (k : Int) by omega]; exact IntWalk.i64_in _ (by omega)
      have hw2 : IntKind.i64.wrap ((k : Int) + 1 - 1) = (k : Int) := by rw [show (k : Int) + 1 - 1 = (k : Int) by omega]; exact IntWalk.i64_in _ (by omega)
      by_cases h9 : f (k + 1) ≤ f k
      · have q9 : decide (f (k + 1) ≤ f k) = true := by simpa using h9
        have HE := Lib.hid (show ¬ ascP f n from fun hh => by have := hh k hlt; omega)
        clear h9
        go_wp2_with fail
        go_quiet (fail)
        go_wp2_with fail
        go_ret
        exact ⟨ret_bool (ascB_f HE.out).symm, below_drewN Hb.out _⟩
      · have q9 : decide (f (k + 1) ≤ f k) = false := by simpa using h9
        have HE := Lib.hid (show f k < f (k + 1) by omega)
        clear h9
        go_wp2_with fail
        go_quiet (fail)
        go_wp2_with fail
        go_roundw
        case rel => exact ⟨k + 1, by omega, by go_num, Lib.hid (fun j h h2 => by by_cases hj : j = k; · subst hj; exact HE.out
                                                                                 · exact Hs.out j (by omega) h2), Lib.hid (below_drewN Hb.out _)⟩
        case measure => simp [intOf]; omega
    · have HE := Lib.hid (show ascP f n from fun i hi => Hs.out i (by omega) hi)
      have hltI : ¬ ((k + 1 : Nat) : Int) < (n : Int) := by omega
      go_wp2_with fail
      go_ret
      exact ⟨ret_bool (ascB_t HE.out).symm, Hb.out⟩

theorem within30 (A : Option Addr) (n c : Nat) (f : Nat → Int) (lo hi : Int) (w : World) (hr : SlI w A n f) (m1 : n ≤ 9223372036854775807) :
    Calls Try.prog 30 #[.slice A n c, .int .i64 lo, .int .i64 hi] w fun e w' => e = .returned (.bool (inrB f lo hi n)) ∧ Below w.heap.size w w' := by
  have Hr := Lib.hid hr
  clear hr
  go_enter Try.func30, Try.ntmps30
  go_wp2
  go_loopw [7] (fun i wr => ∃ k : Nat, k ≤ n ∧ i = .int .i64 k ∧ Hid (∀ j, j < k → lo ≤ f j ∧ f j ≤ hi) ∧ Hid (Below w.heap.size w wr)) (fun i _ => n - (intOf i).toNat)
  case atStart => exact ⟨0, by omega, rfl, Lib.hid (fun j h => absurd h (by omega)), Lib.hid (Below.refl _ _)⟩
  case round =>
    obtain ⟨k, hk, rfl, Hs, Hb⟩ := hrel
    by_cases hlt : k < n
    · obtain ⟨b, o, rfl, hb, hc⟩ := Hr.out.at_ k (by omega)
      clear hc
      have H := Lib.hid (Hr.out.bel Hb.out)
      have z0 := H.out.cell k (by omega)
      have hltI : (k : Int) < (n : Int) := by omega
      by_cases h8 : f k < lo
      · have HE := Lib.hid (show ¬ inP f lo hi n from fun hh => by have := hh k hlt; omega)
        go_wp2
        go_ret
        exact ⟨ret_bool (inrB_f HE.out).symm, Hb.out⟩
      · by_cases h9 : hi < f k
        · have HE := Lib.hid (show ¬ inP f lo hi n from fun hh => by have := hh k hlt; omega)
          go_wp2
          go_ret
          exact ⟨ret_bool (inrB_f HE.out).symm, Hb.out⟩
        · have HE := Lib.hid (show lo ≤ f k ∧ f k ≤ hi by omega)
          go_wp2
          go_roundw
          case rel => exact ⟨k + 1, by omega, by go_num, Lib.hid (fun j h => by by_cases hj : j = k; · subst hj; exact HE.out
                                                                                · exact Hs.out j (by omega)), Lib.hid Hb.out⟩
          case measure => simp [intOf]; omega
    · have HE := Lib.hid (show inP f lo hi n from fun i hi => Hs.out i (by omega))
      have hltI : ¬ (k : Int) < (n : Int) := by omega
      go_wp2_with fail
      go_ret
      exact ⟨ret_bool (inrB_t HE.out).symm, Hb.out⟩
end Go.Proofs.Ytgcjjnmdbdllhaa
