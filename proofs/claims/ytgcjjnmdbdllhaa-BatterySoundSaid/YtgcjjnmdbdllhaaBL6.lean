/- The walk of the law BatterySound. -/
import Derived.Test.YtgcjjnmdbdllhaaBL0
namespace Go.Proofs.Ytgcjjnmdbdllhaa
open Go.RowKit
set_option maxHeartbeats 4000000
set_option maxRecDepth 100000
set_option linter.unusedVariables false

theorem law6_any (b : BD) (lo hi secs : Int) (g : Bool) (lim ch x : Int) (w : World) (hr : b.rd w) : Calls Try.prog 6 #[b.val, .agg #[.int .i64 lo, .int .i64 hi, .int .i64 secs, .bool g, .int .i64 lim], .agg #[.int .i64 ch, .int .i64 x]] w fun e w' => e = .returned (.bool true) ∧ Below w.heap.size w w' := by
  have Hr := Lib.hid hr
  clear hr
  by_cases hf : b.n ≤ 20 ∧ b.m ≤ 20
  case neg =>
    have qf := fewB_f hf
    clear hf
    have S := Lib.hid ((((Sg.start w).new (w.heap.size) (by simp) b.cells 26).new (w.heap.size + 1) (by simp) #[.int .i64 lo, .int .i64 hi, .int .i64 secs, .bool g, .int .i64 lim] 35).new (w.heap.size + 2) (by simp) #[.int .i64 ch, .int .i64 x] 44)
    go_enter Try.func6, Try.ntmps6
    obtain ⟨z0, y0⟩ := S.out.hd
    obtain ⟨c0_0, c0_1⟩ := cellsK2 y0
    obtain ⟨z1, y1⟩ := S.out.tl.hd
    obtain ⟨c1_0, c1_1, c1_2, c1_3, c1_4⟩ := cellsK5 y1
    obtain ⟨z2, y2⟩ := S.out.tl.tl.hd
    obtain ⟨c2_0, c2_1, c2_2, c2_3, c2_4, c2_5, c2_6⟩ := cellsK7 y2
    clear y0 y1 y2
    go_wp2_with fail
    go_quiet (fail)
    go_wp2_with fail
    refine (few10 b _).mono ?_
    rw [qf]
    rintro e w1 ⟨rfl, hb0⟩
    have S' := Lib.hid ((S.out.drewN _).bel hb0)
    clear hb0 S z0 c0_0 c0_1 z1 c1_0 c1_1 c1_2 c1_3 c1_4 z2 c2_0 c2_1 c2_2 c2_3 c2_4 c2_5 c2_6
    have S := S'
    clear S'
    obtain ⟨z0, y0⟩ := S.out.hd
    obtain ⟨c0_0, c0_1⟩ := cellsK2 y0
    obtain ⟨z1, y1⟩ := S.out.tl.hd
    obtain ⟨c1_0, c1_1, c1_2, c1_3, c1_4⟩ := cellsK5 y1
    obtain ⟨z2, y2⟩ := S.out.tl.tl.hd
    obtain ⟨c2_0, c2_1, c2_2, c2_3, c2_4, c2_5, c2_6⟩ := cellsK7 y2
    clear y0 y1 y2
    go_wp2_with fail
    refine (awake_any _).mono ?_
    rintro e w2 ⟨rfl, hb0⟩
    have S' := Lib.hid (S.out.bel hb0)
    clear hb0 S z0 c0_0 c0_1 z1 c1_0 c1_1 c1_2 c1_3 c1_4 z2 c2_0 c2_1 c2_2 c2_3 c2_4 c2_5 c2_6
    have S := S'
    clear S'
    obtain ⟨z0, y0⟩ := S.out.hd
    obtain ⟨c0_0, c0_1⟩ := cellsK2 y0
    obtain ⟨z1, y1⟩ := S.out.tl.hd
    obtain ⟨c1_0, c1_1, c1_2, c1_3, c1_4⟩ := cellsK5 y1
    obtain ⟨z2, y2⟩ := S.out.tl.tl.hd
    obtain ⟨c2_0, c2_1, c2_2, c2_3, c2_4, c2_5, c2_6⟩ := cellsK7 y2
    clear y0 y1 y2
    go_wp2_with fail
    go_ret
    exact ⟨by first | rfl | (simp; omega), S.out.b⟩
  have qf := fewB_t hf
  clear hf
  by_cases hE : afE b lo hi secs = 0
  case neg =>
    have HN := Lib.hid (show aftLo b lo hi secs g = 0 ∧ aftHi b lo hi secs g = 0 from ⟨if_neg hE, if_neg hE⟩)
    have qE : (afE b lo hi secs != 0) = true := by simpa using hE
    clear hE
    have S := Lib.hid ((((Sg.start w).new (w.heap.size) (by simp) b.cells 26).new (w.heap.size + 1) (by simp) #[.int .i64 lo, .int .i64 hi, .int .i64 secs, .bool g, .int .i64 lim] 35).new (w.heap.size + 2) (by simp) #[.int .i64 ch, .int .i64 x] 44)
    go_enter Try.func6, Try.ntmps6
    obtain ⟨z0, y0⟩ := S.out.hd
    obtain ⟨c0_0, c0_1⟩ := cellsK2 y0
    obtain ⟨z1, y1⟩ := S.out.tl.hd
    obtain ⟨c1_0, c1_1, c1_2, c1_3, c1_4⟩ := cellsK5 y1
    obtain ⟨z2, y2⟩ := S.out.tl.tl.hd
    obtain ⟨c2_0, c2_1, c2_2, c2_3, c2_4, c2_5, c2_6⟩ := cellsK7 y2
    clear y0 y1 y2
    go_wp2_with fail
    go_quiet (fail)
    go_wp2_with fail
    refine (few10 b _).mono ?_
    rw [qf]
    rintro e w1 ⟨rfl, hb0⟩
    have S' := Lib.hid ((S.out.drewN _).bel hb0)
    clear hb0 S z0 c0_0 c0_1 z1 c1_0 c1_1 c1_2 c1_3 c1_4 z2 c2_0 c2_1 c2_2 c2_3 c2_4 c2_5 c2_6
    have S := S'
    clear S'
    obtain ⟨z0, y0⟩ := S.out.hd
    obtain ⟨c0_0, c0_1⟩ := cellsK2 y0
    obtain ⟨z1, y1⟩ := S.out.tl.hd
    obtain ⟨c1_0, c1_1, c1_2, c1_3, c1_4⟩ := cellsK5 y1
    obtain ⟨z2, y2⟩ := S.out.tl.tl.hd
    obtain ⟨c2_0, c2_1, c2_2, c2_3, c2_4, c2_5, c2_6⟩ := cellsK7 y2
    clear y0 y1 y2
    go_wp2_with fail
    refine (after16 b lo hi secs g _ (Hr.out.bel S.out.b)).mono ?_
    rw [HN.out.1, HN.out.2]
    rintro e w2 ⟨rfl, hb0⟩
    have S' := Lib.hid ((S.out.bel hb0).new w2.heap.size rfl #[.int .i64 0, .int .i64 0] 24)
    clear hb0 S z0 c0_0 c0_1 z1 c1_0 c1_1 c1_2 c1_3 c1_4 z2 c2_0 c2_1 c2_2 c2_3 c2_4 c2_5 c2_6
    have S := S'
    clear S'
    obtain ⟨z0, y0⟩ := S.out.hd
    obtain ⟨c0_0, c0_1⟩ := cellsK2 y0
    obtain ⟨z1, y1⟩ := S.out.tl.hd
    obtain ⟨c1_0, c1_1⟩ := cellsK2 y1
    obtain ⟨z2, y2⟩ := S.out.tl.tl.hd
    obtain ⟨c2_0, c2_1, c2_2, c2_3, c2_4⟩ := cellsK5 y2
    obtain ⟨z3, y3⟩ := S.out.tl.tl.tl.hd
    obtain ⟨c3_0, c3_1, c3_2, c3_3, c3_4, c3_5, c3_6⟩ := cellsK7 y3
    clear y0 y1 y2 y3
    go_wp2_with fail
    clear z0 c0_0 c0_1 z1 c1_0 c1_1 z2 c2_0 c2_1 c2_2 c2_3 c2_4 z3 c3_0 c3_1 c3_2 c3_3 c3_4 c3_5 c3_6
    go_region_held3 (fun X => X.cell? ⟨w2.heap.size, 0, none⟩ = some (.int .i64 0) ∧ X.cell? ⟨w2.heap.size, 1, none⟩ = some (.int .i64 0) ∧ Sg w [(w2.heap.size, #[.int .i64 0, .int .i64 0]), (w.heap.size + 2, #[.int .i64 ch, .int .i64 x]), (w.heap.size + 1, #[.int .i64 lo, .int .i64 hi, .int .i64 secs, .bool g, .int .i64 lim]), (w.heap.size, b.cells)] X) (first | exact keep1_drew S.out | exact keep1 (by assumption) (by assumption)) (first | (go_at_call 22; refine (sp22 _ _ _).mono ?_; rintro e w8 ⟨rfl, hb0⟩) | (go_at_call 11; refine (awake_any _).mono ?_; rintro e w8 ⟨rfl, hb0⟩))
    all_goals
      rename_i hH
      have BE := Lib.hid hH.2.2.b
      clear hH
      go_wp2_with fail
      go_ret
      exact ⟨by first | rfl | (simp; omega), BE.out⟩
  obtain ⟨hc, hs, s0, s1⟩ := afE_ok hE
  have ok := chk_ok hc
  have sl := ls_sp ok g
  have sa := af_sp sl hs s0 s1
  have so := fun h1 h2 h3 h4 => sound (ch := ch) (x := x) sl hs s0 s1 h1 h2 h3 h4
  obtain ⟨A, hA⟩ : ∃ A, A = afL (lsH b g) lo secs := ⟨_, rfl⟩
  obtain ⟨H, hH⟩ : ∃ H, H = afH (lsL b g) hi secs := ⟨_, rfl⟩
  obtain ⟨l, hl⟩ : ∃ l, l = lsL b g := ⟨_, rfl⟩
  obtain ⟨h, hh⟩ : ∃ h, h = lsH b g := ⟨_, rfl⟩
  have HA := Lib.hid (And.intro hE (And.intro (show aftLo b lo hi secs g = A by rw [hA]; exact if_pos hE) (show aftHi b lo hi secs g = H by rw [hH]; exact if_pos hE)))
  have HL := Lib.hid (And.intro hl.symm hh.symm)
  rw [← hA, ← hH] at sa so
  rw [← hl, ← hh] at so sl
  have q1 := spB_t sa
  have q2 := spB_t hs
  have q3 := spB_t sl
  obtain ⟨a0, a1, a2⟩ := sa
  obtain ⟨d0, d1, d2⟩ := hs
  have e1 : IntKind.i64.wrap (3600 * lo) = 3600 * lo := IntWalk.i64_in _ (by omega)
  have e2 : IntKind.i64.wrap (3600 * hi) = 3600 * hi := IntWalk.i64_in _ (by omega)
  have e3 : IntKind.i64.wrap (3600 * A) = 3600 * A := IntWalk.i64_in _ (by omega)
  have e4 : IntKind.i64.wrap (3600 * H) = 3600 * H := IntWalk.i64_in _ (by omega)
  clear hE hA hH hl hh hc ok
  have hx : (ch < 3600 * lo ∨ (3600 * lo ≤ ch ∧ 3600 * hi < ch) ∨ (3600 * lo ≤ ch ∧ ch ≤ 3600 * hi ∧ x < l) ∨ (3600 * lo ≤ ch ∧ ch ≤ 3600 * hi ∧ l ≤ x ∧ h < x)) ∨ (3600 * lo ≤ ch ∧ ch ≤ 3600 * hi ∧ l ≤ x ∧ x ≤ h) := by omega
  rcases hx with hx | ⟨hx1, hx2, hx3, hx4⟩
  case inl =>
    clear so sl
    rcases hx with hx | ⟨hx, hx2⟩ | ⟨hx, hx2, hx3⟩ | ⟨hx, hx2, hx3, hx4⟩
    all_goals
      have S := Lib.hid ((((Sg.start w).new (w.heap.size) (by simp) b.cells 26).new (w.heap.size + 1) (by simp) #[.int .i64 lo, .int .i64 hi, .int .i64 secs, .bool g, .int .i64 lim] 35).new (w.heap.size + 2) (by simp) #[.int .i64 ch, .int .i64 x] 44)
      go_enter Try.func6, Try.ntmps6
      obtain ⟨z0, y0⟩ := S.out.hd
      obtain ⟨c0_0, c0_1⟩ := cellsK2 y0
      obtain ⟨z1, y1⟩ := S.out.tl.hd
      obtain ⟨c1_0, c1_1, c1_2, c1_3, c1_4⟩ := cellsK5 y1
      obtain ⟨z2, y2⟩ := S.out.tl.tl.hd
      obtain ⟨c2_0, c2_1, c2_2, c2_3, c2_4, c2_5, c2_6⟩ := cellsK7 y2
      clear y0 y1 y2
      go_wp2_with fail
      go_quiet (fail)
      go_wp2_with fail
      refine (few10 b _).mono ?_
      rw [qf]
      rintro e w1 ⟨rfl, hb0⟩
      have S' := Lib.hid ((S.out.drewN _).bel hb0)
      clear hb0 S z0 c0_0 c0_1 z1 c1_0 c1_1 c1_2 c1_3 c1_4 z2 c2_0 c2_1 c2_2 c2_3 c2_4 c2_5 c2_6
      have S := S'
      clear S'
      obtain ⟨z0, y0⟩ := S.out.hd
      obtain ⟨c0_0, c0_1⟩ := cellsK2 y0
      obtain ⟨z1, y1⟩ := S.out.tl.hd
      obtain ⟨c1_0, c1_1, c1_2, c1_3, c1_4⟩ := cellsK5 y1
      obtain ⟨z2, y2⟩ := S.out.tl.tl.hd
      obtain ⟨c2_0, c2_1, c2_2, c2_3, c2_4, c2_5, c2_6⟩ := cellsK7 y2
      clear y0 y1 y2
      go_wp2_with fail
      refine (after16 b lo hi secs g _ (Hr.out.bel S.out.b)).mono ?_
      rw [HA.out.1, HA.out.2.1, HA.out.2.2]
      rintro e w2 ⟨rfl, hb0⟩
      have S' := Lib.hid ((S.out.bel hb0).new w2.heap.size rfl #[.int .i64 A, .int .i64 H] 24)
      clear hb0 S z0 c0_0 c0_1 z1 c1_0 c1_1 c1_2 c1_3 c1_4 z2 c2_0 c2_1 c2_2 c2_3 c2_4 c2_5 c2_6
      have S := S'
      clear S'
      obtain ⟨z0, y0⟩ := S.out.hd
      obtain ⟨c0_0, c0_1⟩ := cellsK2 y0
      obtain ⟨z1, y1⟩ := S.out.tl.hd
      obtain ⟨c1_0, c1_1⟩ := cellsK2 y1
      obtain ⟨z2, y2⟩ := S.out.tl.tl.hd
      obtain ⟨c2_0, c2_1, c2_2, c2_3, c2_4⟩ := cellsK5 y2
      obtain ⟨z3, y3⟩ := S.out.tl.tl.tl.hd
      obtain ⟨c3_0, c3_1, c3_2, c3_3, c3_4, c3_5, c3_6⟩ := cellsK7 y3
      clear y0 y1 y2 y3
      go_wp2_with fail
      refine (loss23 b g _).mono ?_
      rw [HL.out.1, HL.out.2]
      rintro e w3 ⟨rfl, hb0⟩
      have S' := Lib.hid ((S.out.bel hb0).new w3.heap.size rfl #[.int .i64 l, .int .i64 h] 24)
      clear hb0 S z0 c0_0 c0_1 z1 c1_0 c1_1 z2 c2_0 c2_1 c2_2 c2_3 c2_4 z3 c3_0 c3_1 c3_2 c3_3 c3_4 c3_5 c3_6
      have S := S'
      clear S'
      obtain ⟨z0, y0⟩ := S.out.hd
      obtain ⟨c0_0, c0_1⟩ := cellsK2 y0
      obtain ⟨z1, y1⟩ := S.out.tl.hd
      obtain ⟨c1_0, c1_1⟩ := cellsK2 y1
      obtain ⟨z2, y2⟩ := S.out.tl.tl.hd
      obtain ⟨c2_0, c2_1⟩ := cellsK2 y2
      obtain ⟨z3, y3⟩ := S.out.tl.tl.tl.hd
      obtain ⟨c3_0, c3_1, c3_2, c3_3, c3_4⟩ := cellsK5 y3
      obtain ⟨z4, y4⟩ := S.out.tl.tl.tl.tl.hd
      obtain ⟨c4_0, c4_1, c4_2, c4_3, c4_4, c4_5, c4_6⟩ := cellsK7 y4
      clear y0 y1 y2 y3 y4
      go_wp2_with fail
      refine (interval21 A H _).mono ?_
      rintro e w4 ⟨rfl, hb0⟩
      have S' := Lib.hid (S.out.bel hb0)
      clear hb0 S z0 c0_0 c0_1 z1 c1_0 c1_1 z2 c2_0 c2_1 z3 c3_0 c3_1 c3_2 c3_3 c3_4 z4 c4_0 c4_1 c4_2 c4_3 c4_4 c4_5 c4_6
      have S := S'
      clear S'
      obtain ⟨z0, y0⟩ := S.out.hd
      obtain ⟨c0_0, c0_1⟩ := cellsK2 y0
      obtain ⟨z1, y1⟩ := S.out.tl.hd
      obtain ⟨c1_0, c1_1⟩ := cellsK2 y1
      obtain ⟨z2, y2⟩ := S.out.tl.tl.hd
      obtain ⟨c2_0, c2_1⟩ := cellsK2 y2
      obtain ⟨z3, y3⟩ := S.out.tl.tl.tl.hd
      obtain ⟨c3_0, c3_1, c3_2, c3_3, c3_4⟩ := cellsK5 y3
      obtain ⟨z4, y4⟩ := S.out.tl.tl.tl.tl.hd
      obtain ⟨c4_0, c4_1, c4_2, c4_3, c4_4, c4_5, c4_6⟩ := cellsK7 y4
      clear y0 y1 y2 y3 y4
      go_wp2_with fail
      refine (interval21 lo hi _).mono ?_
      rintro e w5 ⟨rfl, hb0⟩
      have S' := Lib.hid (S.out.bel hb0)
      clear hb0 S z0 c0_0 c0_1 z1 c1_0 c1_1 z2 c2_0 c2_1 z3 c3_0 c3_1 c3_2 c3_3 c3_4 z4 c4_0 c4_1 c4_2 c4_3 c4_4 c4_5 c4_6
      have S := S'
      clear S'
      obtain ⟨z0, y0⟩ := S.out.hd
      obtain ⟨c0_0, c0_1⟩ := cellsK2 y0
      obtain ⟨z1, y1⟩ := S.out.tl.hd
      obtain ⟨c1_0, c1_1⟩ := cellsK2 y1
      obtain ⟨z2, y2⟩ := S.out.tl.tl.hd
      obtain ⟨c2_0, c2_1⟩ := cellsK2 y2
      obtain ⟨z3, y3⟩ := S.out.tl.tl.tl.hd
      obtain ⟨c3_0, c3_1, c3_2, c3_3, c3_4⟩ := cellsK5 y3
      obtain ⟨z4, y4⟩ := S.out.tl.tl.tl.tl.hd
      obtain ⟨c4_0, c4_1, c4_2, c4_3, c4_4, c4_5, c4_6⟩ := cellsK7 y4
      clear y0 y1 y2 y3 y4
      go_wp2_with fail
      refine (interval21 l h _).mono ?_
      rintro e w6 ⟨rfl, hb0⟩
      have S' := Lib.hid (S.out.bel hb0)
      clear hb0 S z0 c0_0 c0_1 z1 c1_0 c1_1 z2 c2_0 c2_1 z3 c3_0 c3_1 c3_2 c3_3 c3_4 z4 c4_0 c4_1 c4_2 c4_3 c4_4 c4_5 c4_6
      have S := S'
      clear S'
      obtain ⟨z0, y0⟩ := S.out.hd
      obtain ⟨c0_0, c0_1⟩ := cellsK2 y0
      obtain ⟨z1, y1⟩ := S.out.tl.hd
      obtain ⟨c1_0, c1_1⟩ := cellsK2 y1
      obtain ⟨z2, y2⟩ := S.out.tl.tl.hd
      obtain ⟨c2_0, c2_1⟩ := cellsK2 y2
      obtain ⟨z3, y3⟩ := S.out.tl.tl.tl.hd
      obtain ⟨c3_0, c3_1, c3_2, c3_3, c3_4⟩ := cellsK5 y3
      obtain ⟨z4, y4⟩ := S.out.tl.tl.tl.tl.hd
      obtain ⟨c4_0, c4_1, c4_2, c4_3, c4_4, c4_5, c4_6⟩ := cellsK7 y4
      clear y0 y1 y2 y3 y4
      go_wp2_with fail
      refine (awake_any _).mono ?_
      rintro e w7 ⟨rfl, hb0⟩
      have S' := Lib.hid (S.out.bel hb0)
      clear hb0 S z0 c0_0 c0_1 z1 c1_0 c1_1 z2 c2_0 c2_1 z3 c3_0 c3_1 c3_2 c3_3 c3_4 z4 c4_0 c4_1 c4_2 c4_3 c4_4 c4_5 c4_6
      have S := S'
      clear S'
      obtain ⟨z0, y0⟩ := S.out.hd
      obtain ⟨c0_0, c0_1⟩ := cellsK2 y0
      obtain ⟨z1, y1⟩ := S.out.tl.hd
      obtain ⟨c1_0, c1_1⟩ := cellsK2 y1
      obtain ⟨z2, y2⟩ := S.out.tl.tl.hd
      obtain ⟨c2_0, c2_1⟩ := cellsK2 y2
      obtain ⟨z3, y3⟩ := S.out.tl.tl.tl.hd
      obtain ⟨c3_0, c3_1, c3_2, c3_3, c3_4⟩ := cellsK5 y3
      obtain ⟨z4, y4⟩ := S.out.tl.tl.tl.tl.hd
      obtain ⟨c4_0, c4_1, c4_2, c4_3, c4_4, c4_5, c4_6⟩ := cellsK7 y4
      clear y0 y1 y2 y3 y4
      go_wp2_with fail
      go_ret
      exact ⟨by first | rfl | (simp; omega), S.out.b⟩
  obtain ⟨⟨p0, p1⟩, p2, p3, p4, p5⟩ := so hx1 hx2 hx3 hx4
  obtain ⟨P, hP⟩ : ∃ P, P = x * secs := ⟨_, rfl⟩
  rw [← hP] at p0 p1 p2 p3
  have e5 : IntKind.i64.wrap (x * secs) = P := by rw [← hP]; exact IntWalk.i64_in _ (by omega)
  have e6 : IntKind.i64.wrap (ch - P) = ch - P := IntWalk.i64_in _ (by omega)
  obtain ⟨M, hM⟩ : ∃ M, M = max 0 (ch - P) := ⟨_, rfl⟩
  rw [← hM] at p2 p3
  have e7 := hM.symm
  clear so sl hP hM p0 p1
  have S := Lib.hid ((((Sg.start w).new (w.heap.size) (by simp) b.cells 26).new (w.heap.size + 1) (by simp) #[.int .i64 lo, .int .i64 hi, .int .i64 secs, .bool g, .int .i64 lim] 35).new (w.heap.size + 2) (by simp) #[.int .i64 ch, .int .i64 x] 44)
  go_enter Try.func6, Try.ntmps6
  obtain ⟨z0, y0⟩ := S.out.hd
  obtain ⟨c0_0, c0_1⟩ := cellsK2 y0
  obtain ⟨z1, y1⟩ := S.out.tl.hd
  obtain ⟨c1_0, c1_1, c1_2, c1_3, c1_4⟩ := cellsK5 y1
  obtain ⟨z2, y2⟩ := S.out.tl.tl.hd
  obtain ⟨c2_0, c2_1, c2_2, c2_3, c2_4, c2_5, c2_6⟩ := cellsK7 y2
  clear y0 y1 y2
  go_wp2_with fail
  go_quiet (fail)
  go_wp2_with fail
  refine (few10 b _).mono ?_
  rw [qf]
  rintro e w1 ⟨rfl, hb0⟩
  have S' := Lib.hid ((S.out.drewN _).bel hb0)
  clear hb0 S z0 c0_0 c0_1 z1 c1_0 c1_1 c1_2 c1_3 c1_4 z2 c2_0 c2_1 c2_2 c2_3 c2_4 c2_5 c2_6
  have S := S'
  clear S'
  obtain ⟨z0, y0⟩ := S.out.hd
  obtain ⟨c0_0, c0_1⟩ := cellsK2 y0
  obtain ⟨z1, y1⟩ := S.out.tl.hd
  obtain ⟨c1_0, c1_1, c1_2, c1_3, c1_4⟩ := cellsK5 y1
  obtain ⟨z2, y2⟩ := S.out.tl.tl.hd
  obtain ⟨c2_0, c2_1, c2_2, c2_3, c2_4, c2_5, c2_6⟩ := cellsK7 y2
  clear y0 y1 y2
  go_wp2_with fail
  refine (after16 b lo hi secs g _ (Hr.out.bel S.out.b)).mono ?_
  rw [HA.out.1, HA.out.2.1, HA.out.2.2]
  rintro e w2 ⟨rfl, hb0⟩
  have S' := Lib.hid ((S.out.bel hb0).new w2.heap.size rfl #[.int .i64 A, .int .i64 H] 24)
  clear hb0 S z0 c0_0 c0_1 z1 c1_0 c1_1 c1_2 c1_3 c1_4 z2 c2_0 c2_1 c2_2 c2_3 c2_4 c2_5 c2_6
  have S := S'
  clear S'
  obtain ⟨z0, y0⟩ := S.out.hd
  obtain ⟨c0_0, c0_1⟩ := cellsK2 y0
  obtain ⟨z1, y1⟩ := S.out.tl.hd
  obtain ⟨c1_0, c1_1⟩ := cellsK2 y1
  obtain ⟨z2, y2⟩ := S.out.tl.tl.hd
  obtain ⟨c2_0, c2_1, c2_2, c2_3, c2_4⟩ := cellsK5 y2
  obtain ⟨z3, y3⟩ := S.out.tl.tl.tl.hd
  obtain ⟨c3_0, c3_1, c3_2, c3_3, c3_4, c3_5, c3_6⟩ := cellsK7 y3
  clear y0 y1 y2 y3
  go_wp2_with fail
  refine (loss23 b g _).mono ?_
  rw [HL.out.1, HL.out.2]
  rintro e w3 ⟨rfl, hb0⟩
  have S' := Lib.hid ((S.out.bel hb0).new w3.heap.size rfl #[.int .i64 l, .int .i64 h] 24)
  clear hb0 S z0 c0_0 c0_1 z1 c1_0 c1_1 z2 c2_0 c2_1 c2_2 c2_3 c2_4 z3 c3_0 c3_1 c3_2 c3_3 c3_4 c3_5 c3_6
  have S := S'
  clear S'
  obtain ⟨z0, y0⟩ := S.out.hd
  obtain ⟨c0_0, c0_1⟩ := cellsK2 y0
  obtain ⟨z1, y1⟩ := S.out.tl.hd
  obtain ⟨c1_0, c1_1⟩ := cellsK2 y1
  obtain ⟨z2, y2⟩ := S.out.tl.tl.hd
  obtain ⟨c2_0, c2_1⟩ := cellsK2 y2
  obtain ⟨z3, y3⟩ := S.out.tl.tl.tl.hd
  obtain ⟨c3_0, c3_1, c3_2, c3_3, c3_4⟩ := cellsK5 y3
  obtain ⟨z4, y4⟩ := S.out.tl.tl.tl.tl.hd
  obtain ⟨c4_0, c4_1, c4_2, c4_3, c4_4, c4_5, c4_6⟩ := cellsK7 y4
  clear y0 y1 y2 y3 y4
  go_wp2_with fail
  refine (interval21 A H _).mono ?_
  rintro e w4 ⟨rfl, hb0⟩
  have S' := Lib.hid (S.out.bel hb0)
  clear hb0 S z0 c0_0 c0_1 z1 c1_0 c1_1 z2 c2_0 c2_1 z3 c3_0 c3_1 c3_2 c3_3 c3_4 z4 c4_0 c4_1 c4_2 c4_3 c4_4 c4_5 c4_6
  have S := S'
  clear S'
  obtain ⟨z0, y0⟩ := S.out.hd
  obtain ⟨c0_0, c0_1⟩ := cellsK2 y0
  obtain ⟨z1, y1⟩ := S.out.tl.hd
  obtain ⟨c1_0, c1_1⟩ := cellsK2 y1
  obtain ⟨z2, y2⟩ := S.out.tl.tl.hd
  obtain ⟨c2_0, c2_1⟩ := cellsK2 y2
  obtain ⟨z3, y3⟩ := S.out.tl.tl.tl.hd
  obtain ⟨c3_0, c3_1, c3_2, c3_3, c3_4⟩ := cellsK5 y3
  obtain ⟨z4, y4⟩ := S.out.tl.tl.tl.tl.hd
  obtain ⟨c4_0, c4_1, c4_2, c4_3, c4_4, c4_5, c4_6⟩ := cellsK7 y4
  clear y0 y1 y2 y3 y4
  go_wp2_with fail
  refine (interval21 lo hi _).mono ?_
  rintro e w5 ⟨rfl, hb0⟩
  have S' := Lib.hid (S.out.bel hb0)
  clear hb0 S z0 c0_0 c0_1 z1 c1_0 c1_1 z2 c2_0 c2_1 z3 c3_0 c3_1 c3_2 c3_3 c3_4 z4 c4_0 c4_1 c4_2 c4_3 c4_4 c4_5 c4_6
  have S := S'
  clear S'
  obtain ⟨z0, y0⟩ := S.out.hd
  obtain ⟨c0_0, c0_1⟩ := cellsK2 y0
  obtain ⟨z1, y1⟩ := S.out.tl.hd
  obtain ⟨c1_0, c1_1⟩ := cellsK2 y1
  obtain ⟨z2, y2⟩ := S.out.tl.tl.hd
  obtain ⟨c2_0, c2_1⟩ := cellsK2 y2
  obtain ⟨z3, y3⟩ := S.out.tl.tl.tl.hd
  obtain ⟨c3_0, c3_1, c3_2, c3_3, c3_4⟩ := cellsK5 y3
  obtain ⟨z4, y4⟩ := S.out.tl.tl.tl.tl.hd
  obtain ⟨c4_0, c4_1, c4_2, c4_3, c4_4, c4_5, c4_6⟩ := cellsK7 y4
  clear y0 y1 y2 y3 y4
  go_wp2_with fail
  refine (interval21 l h _).mono ?_
  rintro e w6 ⟨rfl, hb0⟩
  have S' := Lib.hid (S.out.bel hb0)
  clear hb0 S z0 c0_0 c0_1 z1 c1_0 c1_1 z2 c2_0 c2_1 z3 c3_0 c3_1 c3_2 c3_3 c3_4 z4 c4_0 c4_1 c4_2 c4_3 c4_4 c4_5 c4_6
  have S := S'
  clear S'
  obtain ⟨z0, y0⟩ := S.out.hd
  obtain ⟨c0_0, c0_1⟩ := cellsK2 y0
  obtain ⟨z1, y1⟩ := S.out.tl.hd
  obtain ⟨c1_0, c1_1⟩ := cellsK2 y1
  obtain ⟨z2, y2⟩ := S.out.tl.tl.hd
  obtain ⟨c2_0, c2_1⟩ := cellsK2 y2
  obtain ⟨z3, y3⟩ := S.out.tl.tl.tl.hd
  obtain ⟨c3_0, c3_1, c3_2, c3_3, c3_4⟩ := cellsK5 y3
  obtain ⟨z4, y4⟩ := S.out.tl.tl.tl.tl.hd
  obtain ⟨c4_0, c4_1, c4_2, c4_3, c4_4, c4_5, c4_6⟩ := cellsK7 y4
  clear y0 y1 y2 y3 y4
  go_wp2_with fail
  refine (awake_any _).mono ?_
  rintro e w7 ⟨rfl, hb0⟩
  have S' := Lib.hid (S.out.bel hb0)
  clear hb0 S z0 c0_0 c0_1 z1 c1_0 c1_1 z2 c2_0 c2_1 z3 c3_0 c3_1 c3_2 c3_3 c3_4 z4 c4_0 c4_1 c4_2 c4_3 c4_4 c4_5 c4_6
  have S := S'
  clear S'
  obtain ⟨z0, y0⟩ := S.out.hd
  obtain ⟨c0_0, c0_1⟩ := cellsK2 y0
  obtain ⟨z1, y1⟩ := S.out.tl.hd
  obtain ⟨c1_0, c1_1⟩ := cellsK2 y1
  obtain ⟨z2, y2⟩ := S.out.tl.tl.hd
  obtain ⟨c2_0, c2_1⟩ := cellsK2 y2
  obtain ⟨z3, y3⟩ := S.out.tl.tl.tl.hd
  obtain ⟨c3_0, c3_1, c3_2, c3_3, c3_4⟩ := cellsK5 y3
  obtain ⟨z4, y4⟩ := S.out.tl.tl.tl.tl.hd
  obtain ⟨c4_0, c4_1, c4_2, c4_3, c4_4, c4_5, c4_6⟩ := cellsK7 y4
  clear y0 y1 y2 y3 y4
  go_wp2_with fail
  go_ret
  exact ⟨by first | rfl | (simp; omega), S.out.b⟩
end Go.Proofs.Ytgcjjnmdbdllhaa
