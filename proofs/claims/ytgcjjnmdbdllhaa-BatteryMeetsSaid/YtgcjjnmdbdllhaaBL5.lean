/- The walk of the law BatteryMeets. -/
import Derived.Test.YtgcjjnmdbdllhaaBL0
namespace Go.Proofs.Ytgcjjnmdbdllhaa
open Go.RowKit
set_option maxHeartbeats 4000000
set_option maxRecDepth 100000
set_option linter.unusedVariables false

theorem law5_any (a0 a1 b0 b1 x : Int) (w : World) : Calls Try.prog 5 #[sv a0 a1, sv b0 b1, .int .i64 x] w fun e w' => e = .returned (.bool true) ∧ Below w.heap.size w w' := by
  have HC := Lib.hid (me_comm a0 a1 b0 b1)
  by_cases h : spP a0 a1 ∧ spP b0 b1
  case neg =>
    have HE := Lib.hid (me_bad h)
    by_cases h1 : spP a0 a1
    case neg =>
      have q1 := spB_f h1
      clear h h1
      have S := Lib.hid (((Sg.start w).new (w.heap.size) (by simp) #[.int .i64 a0, .int .i64 a1] 24).new (w.heap.size + 1) (by simp) #[.int .i64 b0, .int .i64 b1] 24)
      go_enter Try.func5, Try.ntmps5
      go_wp2_with fail
      refine (meet20 a0 a1 b0 b1 _).mono ?_
      rw [HE.out.1, HE.out.2.1, HE.out.2.2]
      rintro e w1 ⟨rfl, hb0⟩
      have S' := Lib.hid ((S.out.bel hb0).new w1.heap.size rfl #[.int .i64 0, .int .i64 0] 24)
      clear hb0 S
      have S := S'
      clear S'
      obtain ⟨z0, y0⟩ := S.out.hd
      obtain ⟨c0_0, c0_1⟩ := cellsK2 y0
      obtain ⟨z1, y1⟩ := S.out.tl.hd
      obtain ⟨c1_0, c1_1⟩ := cellsK2 y1
      obtain ⟨z2, y2⟩ := S.out.tl.tl.hd
      obtain ⟨c2_0, c2_1⟩ := cellsK2 y2
      clear y0 y1 y2
      go_wp2_with fail
      refine (meet20 b0 b1 a0 a1 _).mono ?_
      rw [HC.out.1, HC.out.2.1, HC.out.2.2, HE.out.1, HE.out.2.1, HE.out.2.2]
      rintro e w2 ⟨rfl, hb0⟩
      have S' := Lib.hid ((S.out.bel hb0).new w2.heap.size rfl #[.int .i64 0, .int .i64 0] 24)
      clear hb0 S z0 c0_0 c0_1 z1 c1_0 c1_1 z2 c2_0 c2_1
      have S := S'
      clear S'
      obtain ⟨z0, y0⟩ := S.out.hd
      obtain ⟨c0_0, c0_1⟩ := cellsK2 y0
      obtain ⟨z1, y1⟩ := S.out.tl.hd
      obtain ⟨c1_0, c1_1⟩ := cellsK2 y1
      obtain ⟨z2, y2⟩ := S.out.tl.tl.hd
      obtain ⟨c2_0, c2_1⟩ := cellsK2 y2
      obtain ⟨z3, y3⟩ := S.out.tl.tl.tl.hd
      obtain ⟨c3_0, c3_1⟩ := cellsK2 y3
      clear y0 y1 y2 y3
      have S' := Lib.hid S.out.tl
      clear S z0 c0_0 c0_1 z1 c1_0 c1_1 z2 c2_0 c2_1 z3 c3_0 c3_1
      have S := S'
      clear S'
      obtain ⟨z0, y0⟩ := S.out.hd
      obtain ⟨c0_0, c0_1⟩ := cellsK2 y0
      obtain ⟨z1, y1⟩ := S.out.tl.hd
      obtain ⟨c1_0, c1_1⟩ := cellsK2 y1
      obtain ⟨z2, y2⟩ := S.out.tl.tl.hd
      obtain ⟨c2_0, c2_1⟩ := cellsK2 y2
      clear y0 y1 y2
      go_wp2_with fail
      refine (interval21 a0 a1 _).mono ?_
      rintro e w3 ⟨rfl, hb0⟩
      have S' := Lib.hid (S.out.bel hb0)
      clear hb0 S z0 c0_0 c0_1 z1 c1_0 c1_1 z2 c2_0 c2_1
      have S := S'
      clear S'
      obtain ⟨z0, y0⟩ := S.out.hd
      obtain ⟨c0_0, c0_1⟩ := cellsK2 y0
      obtain ⟨z1, y1⟩ := S.out.tl.hd
      obtain ⟨c1_0, c1_1⟩ := cellsK2 y1
      obtain ⟨z2, y2⟩ := S.out.tl.tl.hd
      obtain ⟨c2_0, c2_1⟩ := cellsK2 y2
      clear y0 y1 y2
      go_wp2_with fail
      clear z0 c0_0 c0_1 z1 c1_0 c1_1 z2 c2_0 c2_1
      go_region_held3 (fun X => X.cell? ⟨w1.heap.size, 0, none⟩ = some (.int .i64 0) ∧ X.cell? ⟨w1.heap.size, 1, none⟩ = some (.int .i64 0) ∧ Sg w [(w1.heap.size, #[.int .i64 0, .int .i64 0]), (w.heap.size + 1, #[.int .i64 b0, .int .i64 b1]), (w.heap.size, #[.int .i64 a0, .int .i64 a1])] X) (first | exact keep1_drew S.out | exact keep1 (by assumption) (by assumption)) (first | (go_at_call 22; refine (sp22 _ _ _).mono ?_; rintro e w8 ⟨rfl, hb0⟩) | (go_at_call 11; refine (awake_any _).mono ?_; rintro e w8 ⟨rfl, hb0⟩))
      all_goals
        rename_i hH
        have BE := Lib.hid hH.2.2.b
        clear hH
        go_wp2_with fail
        go_ret
        exact ⟨by first | rfl | (simp; omega), BE.out⟩
    have q1 := spB_t h1
    have q2 := spB_f (show ¬ spP b0 b1 from fun y => h ⟨h1, y⟩)
    clear h h1
    have S := Lib.hid (((Sg.start w).new (w.heap.size) (by simp) #[.int .i64 a0, .int .i64 a1] 24).new (w.heap.size + 1) (by simp) #[.int .i64 b0, .int .i64 b1] 24)
    go_enter Try.func5, Try.ntmps5
    go_wp2_with fail
    refine (meet20 a0 a1 b0 b1 _).mono ?_
    rw [HE.out.1, HE.out.2.1, HE.out.2.2]
    rintro e w1 ⟨rfl, hb0⟩
    have S' := Lib.hid ((S.out.bel hb0).new w1.heap.size rfl #[.int .i64 0, .int .i64 0] 24)
    clear hb0 S
    have S := S'
    clear S'
    obtain ⟨z0, y0⟩ := S.out.hd
    obtain ⟨c0_0, c0_1⟩ := cellsK2 y0
    obtain ⟨z1, y1⟩ := S.out.tl.hd
    obtain ⟨c1_0, c1_1⟩ := cellsK2 y1
    obtain ⟨z2, y2⟩ := S.out.tl.tl.hd
    obtain ⟨c2_0, c2_1⟩ := cellsK2 y2
    clear y0 y1 y2
    go_wp2_with fail
    refine (meet20 b0 b1 a0 a1 _).mono ?_
    rw [HC.out.1, HC.out.2.1, HC.out.2.2, HE.out.1, HE.out.2.1, HE.out.2.2]
    rintro e w2 ⟨rfl, hb0⟩
    have S' := Lib.hid ((S.out.bel hb0).new w2.heap.size rfl #[.int .i64 0, .int .i64 0] 24)
    clear hb0 S z0 c0_0 c0_1 z1 c1_0 c1_1 z2 c2_0 c2_1
    have S := S'
    clear S'
    obtain ⟨z0, y0⟩ := S.out.hd
    obtain ⟨c0_0, c0_1⟩ := cellsK2 y0
    obtain ⟨z1, y1⟩ := S.out.tl.hd
    obtain ⟨c1_0, c1_1⟩ := cellsK2 y1
    obtain ⟨z2, y2⟩ := S.out.tl.tl.hd
    obtain ⟨c2_0, c2_1⟩ := cellsK2 y2
    obtain ⟨z3, y3⟩ := S.out.tl.tl.tl.hd
    obtain ⟨c3_0, c3_1⟩ := cellsK2 y3
    clear y0 y1 y2 y3
    have S' := Lib.hid S.out.tl
    clear S z0 c0_0 c0_1 z1 c1_0 c1_1 z2 c2_0 c2_1 z3 c3_0 c3_1
    have S := S'
    clear S'
    obtain ⟨z0, y0⟩ := S.out.hd
    obtain ⟨c0_0, c0_1⟩ := cellsK2 y0
    obtain ⟨z1, y1⟩ := S.out.tl.hd
    obtain ⟨c1_0, c1_1⟩ := cellsK2 y1
    obtain ⟨z2, y2⟩ := S.out.tl.tl.hd
    obtain ⟨c2_0, c2_1⟩ := cellsK2 y2
    clear y0 y1 y2
    go_wp2_with fail
    refine (interval21 a0 a1 _).mono ?_
    rintro e w3 ⟨rfl, hb0⟩
    have S' := Lib.hid (S.out.bel hb0)
    clear hb0 S z0 c0_0 c0_1 z1 c1_0 c1_1 z2 c2_0 c2_1
    have S := S'
    clear S'
    obtain ⟨z0, y0⟩ := S.out.hd
    obtain ⟨c0_0, c0_1⟩ := cellsK2 y0
    obtain ⟨z1, y1⟩ := S.out.tl.hd
    obtain ⟨c1_0, c1_1⟩ := cellsK2 y1
    obtain ⟨z2, y2⟩ := S.out.tl.tl.hd
    obtain ⟨c2_0, c2_1⟩ := cellsK2 y2
    clear y0 y1 y2
    go_wp2_with fail
    refine (interval21 b0 b1 _).mono ?_
    rintro e w4 ⟨rfl, hb0⟩
    have S' := Lib.hid (S.out.bel hb0)
    clear hb0 S z0 c0_0 c0_1 z1 c1_0 c1_1 z2 c2_0 c2_1
    have S := S'
    clear S'
    obtain ⟨z0, y0⟩ := S.out.hd
    obtain ⟨c0_0, c0_1⟩ := cellsK2 y0
    obtain ⟨z1, y1⟩ := S.out.tl.hd
    obtain ⟨c1_0, c1_1⟩ := cellsK2 y1
    obtain ⟨z2, y2⟩ := S.out.tl.tl.hd
    obtain ⟨c2_0, c2_1⟩ := cellsK2 y2
    clear y0 y1 y2
    go_wp2_with fail
    clear z0 c0_0 c0_1 z1 c1_0 c1_1 z2 c2_0 c2_1
    go_region_held3 (fun X => X.cell? ⟨w1.heap.size, 0, none⟩ = some (.int .i64 0) ∧ X.cell? ⟨w1.heap.size, 1, none⟩ = some (.int .i64 0) ∧ Sg w [(w1.heap.size, #[.int .i64 0, .int .i64 0]), (w.heap.size + 1, #[.int .i64 b0, .int .i64 b1]), (w.heap.size, #[.int .i64 a0, .int .i64 a1])] X) (first | exact keep1_drew S.out | exact keep1 (by assumption) (by assumption)) (first | (go_at_call 22; refine (sp22 _ _ _).mono ?_; rintro e w8 ⟨rfl, hb0⟩) | (go_at_call 11; refine (awake_any _).mono ?_; rintro e w8 ⟨rfl, hb0⟩))
    all_goals
      rename_i hH
      have BE := Lib.hid hH.2.2.b
      clear hH
      go_wp2_with fail
      go_ret
      exact ⟨by first | rfl | (simp; omega), BE.out⟩
  have q1 := spB_t h.1
  have q2 := spB_t h.2
  by_cases h2 : min a1 b1 < max a0 b0
  case pos =>
    have HE := Lib.hid (me_emp h h2)
    have hx : x < a0 ∨ (a0 ≤ x ∧ a1 < x) ∨ (a0 ≤ x ∧ x ≤ a1 ∧ x < b0) ∨ (a0 ≤ x ∧ x ≤ a1 ∧ b0 ≤ x ∧ b1 < x) := by omega
    clear h h2
    rcases hx with hx | ⟨hx, hx2⟩ | ⟨hx, hx2, hx3⟩ | ⟨hx, hx2, hx3, hx4⟩
    all_goals
      have S := Lib.hid (((Sg.start w).new (w.heap.size) (by simp) #[.int .i64 a0, .int .i64 a1] 24).new (w.heap.size + 1) (by simp) #[.int .i64 b0, .int .i64 b1] 24)
      go_enter Try.func5, Try.ntmps5
      go_wp2_with fail
      refine (meet20 a0 a1 b0 b1 _).mono ?_
      rw [HE.out.1, HE.out.2.1, HE.out.2.2]
      rintro e w1 ⟨rfl, hb0⟩
      have S' := Lib.hid ((S.out.bel hb0).new w1.heap.size rfl #[.int .i64 0, .int .i64 0] 24)
      clear hb0 S
      have S := S'
      clear S'
      obtain ⟨z0, y0⟩ := S.out.hd
      obtain ⟨c0_0, c0_1⟩ := cellsK2 y0
      obtain ⟨z1, y1⟩ := S.out.tl.hd
      obtain ⟨c1_0, c1_1⟩ := cellsK2 y1
      obtain ⟨z2, y2⟩ := S.out.tl.tl.hd
      obtain ⟨c2_0, c2_1⟩ := cellsK2 y2
      clear y0 y1 y2
      go_wp2_with fail
      refine (meet20 b0 b1 a0 a1 _).mono ?_
      rw [HC.out.1, HC.out.2.1, HC.out.2.2, HE.out.1, HE.out.2.1, HE.out.2.2]
      rintro e w2 ⟨rfl, hb0⟩
      have S' := Lib.hid ((S.out.bel hb0).new w2.heap.size rfl #[.int .i64 0, .int .i64 0] 24)
      clear hb0 S z0 c0_0 c0_1 z1 c1_0 c1_1 z2 c2_0 c2_1
      have S := S'
      clear S'
      obtain ⟨z0, y0⟩ := S.out.hd
      obtain ⟨c0_0, c0_1⟩ := cellsK2 y0
      obtain ⟨z1, y1⟩ := S.out.tl.hd
      obtain ⟨c1_0, c1_1⟩ := cellsK2 y1
      obtain ⟨z2, y2⟩ := S.out.tl.tl.hd
      obtain ⟨c2_0, c2_1⟩ := cellsK2 y2
      obtain ⟨z3, y3⟩ := S.out.tl.tl.tl.hd
      obtain ⟨c3_0, c3_1⟩ := cellsK2 y3
      clear y0 y1 y2 y3
      have S' := Lib.hid S.out.tl
      clear S z0 c0_0 c0_1 z1 c1_0 c1_1 z2 c2_0 c2_1 z3 c3_0 c3_1
      have S := S'
      clear S'
      obtain ⟨z0, y0⟩ := S.out.hd
      obtain ⟨c0_0, c0_1⟩ := cellsK2 y0
      obtain ⟨z1, y1⟩ := S.out.tl.hd
      obtain ⟨c1_0, c1_1⟩ := cellsK2 y1
      obtain ⟨z2, y2⟩ := S.out.tl.tl.hd
      obtain ⟨c2_0, c2_1⟩ := cellsK2 y2
      clear y0 y1 y2
      go_wp2_with fail
      refine (interval21 a0 a1 _).mono ?_
      rintro e w3 ⟨rfl, hb0⟩
      have S' := Lib.hid (S.out.bel hb0)
      clear hb0 S z0 c0_0 c0_1 z1 c1_0 c1_1 z2 c2_0 c2_1
      have S := S'
      clear S'
      obtain ⟨z0, y0⟩ := S.out.hd
      obtain ⟨c0_0, c0_1⟩ := cellsK2 y0
      obtain ⟨z1, y1⟩ := S.out.tl.hd
      obtain ⟨c1_0, c1_1⟩ := cellsK2 y1
      obtain ⟨z2, y2⟩ := S.out.tl.tl.hd
      obtain ⟨c2_0, c2_1⟩ := cellsK2 y2
      clear y0 y1 y2
      go_wp2_with fail
      refine (interval21 b0 b1 _).mono ?_
      rintro e w4 ⟨rfl, hb0⟩
      have S' := Lib.hid (S.out.bel hb0)
      clear hb0 S z0 c0_0 c0_1 z1 c1_0 c1_1 z2 c2_0 c2_1
      have S := S'
      clear S'
      obtain ⟨z0, y0⟩ := S.out.hd
      obtain ⟨c0_0, c0_1⟩ := cellsK2 y0
      obtain ⟨z1, y1⟩ := S.out.tl.hd
      obtain ⟨c1_0, c1_1⟩ := cellsK2 y1
      obtain ⟨z2, y2⟩ := S.out.tl.tl.hd
      obtain ⟨c2_0, c2_1⟩ := cellsK2 y2
      clear y0 y1 y2
      go_wp2_with fail
      clear z0 c0_0 c0_1 z1 c1_0 c1_1 z2 c2_0 c2_1
      go_region_held3 (fun X => X.cell? ⟨w1.heap.size, 0, none⟩ = some (.int .i64 0) ∧ X.cell? ⟨w1.heap.size, 1, none⟩ = some (.int .i64 0) ∧ Sg w [(w1.heap.size, #[.int .i64 0, .int .i64 0]), (w.heap.size + 1, #[.int .i64 b0, .int .i64 b1]), (w.heap.size, #[.int .i64 a0, .int .i64 a1])] X) (first | exact keep1_drew S.out | exact keep1 (by assumption) (by assumption)) (first | (go_at_call 22; refine (sp22 _ _ _).mono ?_; rintro e w8 ⟨rfl, hb0⟩) | (go_at_call 11; refine (awake_any _).mono ?_; rintro e w8 ⟨rfl, hb0⟩))
      all_goals
        rename_i hH
        have BE := Lib.hid hH.2.2.b
        clear hH
        go_wp2_with fail
        go_ret
        exact ⟨by first | rfl | (simp; omega), BE.out⟩
  have HE0 := me_ok h h2
  obtain ⟨s0, hs0⟩ : ∃ s0, s0 = max a0 b0 := ⟨_, rfl⟩
  obtain ⟨s1, hs1⟩ : ∃ s1, s1 = min a1 b1 := ⟨_, rfl⟩
  rw [← hs0, ← hs1] at HE0
  have HE := Lib.hid HE0
  have q3 := spB_t (show spP s0 s1 from ⟨by have := h.1.1; omega, by omega, by have := h.1.2.2; omega⟩)
  have hx : ((a0 ≤ x ∧ x ≤ a1 ∧ b0 ≤ x ∧ x ≤ b1) ∧ s0 ≤ x ∧ x ≤ s1) ∨ ((x < a0 ∨ (a0 ≤ x ∧ a1 < x) ∨ (a0 ≤ x ∧ x ≤ a1 ∧ x < b0) ∨ (a0 ≤ x ∧ x ≤ a1 ∧ b0 ≤ x ∧ b1 < x)) ∧ (x < s0 ∨ (s0 ≤ x ∧ s1 < x))) := by omega
  clear h h2 hs0 hs1 HE0
  rcases hx with ⟨⟨hx, hx2, hx3, hx4⟩, hy, hy2⟩ | ⟨hx | ⟨hx, hx2⟩ | ⟨hx, hx2, hx3⟩ | ⟨hx, hx2, hx3, hx4⟩, hy | ⟨hy, hy2⟩⟩
  all_goals
    have S := Lib.hid (((Sg.start w).new (w.heap.size) (by simp) #[.int .i64 a0, .int .i64 a1] 24).new (w.heap.size + 1) (by simp) #[.int .i64 b0, .int .i64 b1] 24)
    go_enter Try.func5, Try.ntmps5
    go_wp2_with fail
    refine (meet20 a0 a1 b0 b1 _).mono ?_
    rw [HE.out.1, HE.out.2.1, HE.out.2.2]
    rintro e w1 ⟨rfl, hb0⟩
    have S' := Lib.hid ((S.out.bel hb0).new w1.heap.size rfl #[.int .i64 s0, .int .i64 s1] 24)
    clear hb0 S
    have S := S'
    clear S'
    obtain ⟨z0, y0⟩ := S.out.hd
    obtain ⟨c0_0, c0_1⟩ := cellsK2 y0
    obtain ⟨z1, y1⟩ := S.out.tl.hd
    obtain ⟨c1_0, c1_1⟩ := cellsK2 y1
    obtain ⟨z2, y2⟩ := S.out.tl.tl.hd
    obtain ⟨c2_0, c2_1⟩ := cellsK2 y2
    clear y0 y1 y2
    go_wp2_with fail
    refine (meet20 b0 b1 a0 a1 _).mono ?_
    rw [HC.out.1, HC.out.2.1, HC.out.2.2, HE.out.1, HE.out.2.1, HE.out.2.2]
    rintro e w2 ⟨rfl, hb0⟩
    have S' := Lib.hid ((S.out.bel hb0).new w2.heap.size rfl #[.int .i64 s0, .int .i64 s1] 24)
    clear hb0 S z0 c0_0 c0_1 z1 c1_0 c1_1 z2 c2_0 c2_1
    have S := S'
    clear S'
    obtain ⟨z0, y0⟩ := S.out.hd
    obtain ⟨c0_0, c0_1⟩ := cellsK2 y0
    obtain ⟨z1, y1⟩ := S.out.tl.hd
    obtain ⟨c1_0, c1_1⟩ := cellsK2 y1
    obtain ⟨z2, y2⟩ := S.out.tl.tl.hd
    obtain ⟨c2_0, c2_1⟩ := cellsK2 y2
    obtain ⟨z3, y3⟩ := S.out.tl.tl.tl.hd
    obtain ⟨c3_0, c3_1⟩ := cellsK2 y3
    clear y0 y1 y2 y3
    have S' := Lib.hid S.out.tl
    clear S z0 c0_0 c0_1 z1 c1_0 c1_1 z2 c2_0 c2_1 z3 c3_0 c3_1
    have S := S'
    clear S'
    obtain ⟨z0, y0⟩ := S.out.hd
    obtain ⟨c0_0, c0_1⟩ := cellsK2 y0
    obtain ⟨z1, y1⟩ := S.out.tl.hd
    obtain ⟨c1_0, c1_1⟩ := cellsK2 y1
    obtain ⟨z2, y2⟩ := S.out.tl.tl.hd
    obtain ⟨c2_0, c2_1⟩ := cellsK2 y2
    clear y0 y1 y2
    go_wp2_with fail
    refine (interval21 a0 a1 _).mono ?_
    rintro e w3 ⟨rfl, hb0⟩
    have S' := Lib.hid (S.out.bel hb0)
    clear hb0 S z0 c0_0 c0_1 z1 c1_0 c1_1 z2 c2_0 c2_1
    have S := S'
    clear S'
    obtain ⟨z0, y0⟩ := S.out.hd
    obtain ⟨c0_0, c0_1⟩ := cellsK2 y0
    obtain ⟨z1, y1⟩ := S.out.tl.hd
    obtain ⟨c1_0, c1_1⟩ := cellsK2 y1
    obtain ⟨z2, y2⟩ := S.out.tl.tl.hd
    obtain ⟨c2_0, c2_1⟩ := cellsK2 y2
    clear y0 y1 y2
    go_wp2_with fail
    refine (interval21 b0 b1 _).mono ?_
    rintro e w4 ⟨rfl, hb0⟩
    have S' := Lib.hid (S.out.bel hb0)
    clear hb0 S z0 c0_0 c0_1 z1 c1_0 c1_1 z2 c2_0 c2_1
    have S := S'
    clear S'
    obtain ⟨z0, y0⟩ := S.out.hd
    obtain ⟨c0_0, c0_1⟩ := cellsK2 y0
    obtain ⟨z1, y1⟩ := S.out.tl.hd
    obtain ⟨c1_0, c1_1⟩ := cellsK2 y1
    obtain ⟨z2, y2⟩ := S.out.tl.tl.hd
    obtain ⟨c2_0, c2_1⟩ := cellsK2 y2
    clear y0 y1 y2
    go_wp2_with fail
    refine (interval21 s0 s1 _).mono ?_
    rintro e w5 ⟨rfl, hb0⟩
    have S' := Lib.hid (S.out.bel hb0)
    clear hb0 S z0 c0_0 c0_1 z1 c1_0 c1_1 z2 c2_0 c2_1
    have S := S'
    clear S'
    obtain ⟨z0, y0⟩ := S.out.hd
    obtain ⟨c0_0, c0_1⟩ := cellsK2 y0
    obtain ⟨z1, y1⟩ := S.out.tl.hd
    obtain ⟨c1_0, c1_1⟩ := cellsK2 y1
    obtain ⟨z2, y2⟩ := S.out.tl.tl.hd
    obtain ⟨c2_0, c2_1⟩ := cellsK2 y2
    clear y0 y1 y2
    go_wp2_with fail
    refine (awake_any _).mono ?_
    rintro e w6 ⟨rfl, hb0⟩
    have S' := Lib.hid (S.out.bel hb0)
    clear hb0 S z0 c0_0 c0_1 z1 c1_0 c1_1 z2 c2_0 c2_1
    have S := S'
    clear S'
    obtain ⟨z0, y0⟩ := S.out.hd
    obtain ⟨c0_0, c0_1⟩ := cellsK2 y0
    obtain ⟨z1, y1⟩ := S.out.tl.hd
    obtain ⟨c1_0, c1_1⟩ := cellsK2 y1
    obtain ⟨z2, y2⟩ := S.out.tl.tl.hd
    obtain ⟨c2_0, c2_1⟩ := cellsK2 y2
    clear y0 y1 y2
    go_wp2_with fail
    go_ret
    exact ⟨by first | rfl | (simp; omega), S.out.b⟩
end Go.Proofs.Ytgcjjnmdbdllhaa
