/- The walks of the laws BatteryReads, BatteryLasts, BatteryLimits. -/
import Derived.Test.YtgcjjnmdbdllhaaBL0
namespace Go.Proofs.Ytgcjjnmdbdllhaa
open Go.RowKit
set_option maxHeartbeats 4000000
set_option maxRecDepth 100000
set_option linter.unusedVariables false

abbrev uv (lo hi secs : Int) (g : Bool) (lim : Int) : Value := .agg #[.int .i64 lo, .int .i64 hi, .int .i64 secs, .bool g, .int .i64 lim]
theorem law4_any (b : BD) (lo hi secs : Int) (g : Bool) (lim : Int) (w : World) (hr : b.rd w) : Calls Try.prog 4 #[b.val, uv lo hi secs g lim] w fun e w' => e = .returned (.bool true) ∧ Below w.heap.size w w' := by
  have Hr := Lib.hid hr
  clear hr
  by_cases hf : b.n ≤ 20 ∧ b.m ≤ 20
  case neg =>
    have qf := fewB_f hf
    clear hf
    have S := Lib.hid (((Sg.start w).new (w.heap.size) (by simp) b.cells 26).new (w.heap.size + 1) (by simp) #[.int .i64 lo, .int .i64 hi, .int .i64 secs, .bool g, .int .i64 lim] 35)
    go_enter Try.func4, Try.ntmps4
    go_wp2_with fail
    refine (few10 b _).mono ?_
    rw [qf]
    rintro e w1 ⟨rfl, hb0⟩
    have S' := Lib.hid (S.out.bel hb0)
    clear hb0 S
    have S := S'
    clear S'
    obtain ⟨z0, y0⟩ := S.out.hd
    obtain ⟨c0_0, c0_1, c0_2, c0_3, c0_4⟩ := cellsK5 y0
    obtain ⟨z1, y1⟩ := S.out.tl.hd
    obtain ⟨c1_0, c1_1, c1_2, c1_3, c1_4, c1_5, c1_6⟩ := cellsK7 y1
    clear y0 y1
    go_wp2_with fail
    refine (awake_any _).mono ?_
    rintro e w2 ⟨rfl, hb0⟩
    have S' := Lib.hid (S.out.bel hb0)
    clear hb0 S z0 c0_0 c0_1 c0_2 c0_3 c0_4 z1 c1_0 c1_1 c1_2 c1_3 c1_4 c1_5 c1_6
    have S := S'
    clear S'
    obtain ⟨z0, y0⟩ := S.out.hd
    obtain ⟨c0_0, c0_1, c0_2, c0_3, c0_4⟩ := cellsK5 y0
    obtain ⟨z1, y1⟩ := S.out.tl.hd
    obtain ⟨c1_0, c1_1, c1_2, c1_3, c1_4, c1_5, c1_6⟩ := cellsK7 y1
    clear y0 y1
    go_wp2_with fail
    go_ret
    exact ⟨by first | rfl | (simp; omega), S.out.b⟩
  have qf := fewB_t hf
  clear hf
  obtain ⟨A, hA⟩ : ∃ A, A = aftLo b lo hi secs g := ⟨_, rfl⟩
  obtain ⟨H, hH⟩ : ∃ H, H = aftHi b lo hi secs g := ⟨_, rfl⟩
  obtain ⟨E, hE⟩ : ∃ E, E = afE b lo hi secs := ⟨_, rfl⟩
  have HA := Lib.hid hA.symm
  have HH := Lib.hid hH.symm
  have HE := Lib.hid hE.symm
  clear hA hH hE
  have S := Lib.hid (((Sg.start w).new (w.heap.size) (by simp) b.cells 26).new (w.heap.size + 1) (by simp) #[.int .i64 lo, .int .i64 hi, .int .i64 secs, .bool g, .int .i64 lim] 35)
  go_enter Try.func4, Try.ntmps4
  go_wp2_with fail
  refine (few10 b _).mono ?_
  rw [qf]
  rintro e w1 ⟨rfl, hb0⟩
  have S' := Lib.hid (S.out.bel hb0)
  clear hb0 S
  have S := S'
  clear S'
  obtain ⟨z0, y0⟩ := S.out.hd
  obtain ⟨c0_0, c0_1, c0_2, c0_3, c0_4⟩ := cellsK5 y0
  obtain ⟨z1, y1⟩ := S.out.tl.hd
  obtain ⟨c1_0, c1_1, c1_2, c1_3, c1_4, c1_5, c1_6⟩ := cellsK7 y1
  clear y0 y1
  go_wp2_with fail
  refine (after16 b lo hi secs g _ (Hr.out.bel S.out.b)).mono ?_
  rw [HA.out, HH.out, HE.out]
  rintro e w2 ⟨rfl, hb0⟩
  have S' := Lib.hid ((S.out.bel hb0).new w2.heap.size rfl #[.int .i64 A, .int .i64 H] 24)
  clear hb0 S z0 c0_0 c0_1 c0_2 c0_3 c0_4 z1 c1_0 c1_1 c1_2 c1_3 c1_4 c1_5 c1_6
  have S := S'
  clear S'
  obtain ⟨z0, y0⟩ := S.out.hd
  obtain ⟨c0_0, c0_1⟩ := cellsK2 y0
  obtain ⟨z1, y1⟩ := S.out.tl.hd
  obtain ⟨c1_0, c1_1, c1_2, c1_3, c1_4⟩ := cellsK5 y1
  obtain ⟨z2, y2⟩ := S.out.tl.tl.hd
  obtain ⟨c2_0, c2_1, c2_2, c2_3, c2_4, c2_5, c2_6⟩ := cellsK7 y2
  clear y0 y1 y2
  go_wp2_with fail
  refine (after17 b lo hi secs g _ (Hr.out.bel S.out.b)).mono ?_
  rw [HA.out, HH.out, HE.out]
  rintro e w3 ⟨rfl, hb0⟩
  have S' := Lib.hid ((S.out.bel hb0).new w3.heap.size rfl #[.int .i64 A, .int .i64 H] 24)
  clear hb0 S z0 c0_0 c0_1 z1 c1_0 c1_1 c1_2 c1_3 c1_4 z2 c2_0 c2_1 c2_2 c2_3 c2_4 c2_5 c2_6
  have S := S'
  clear S'
  obtain ⟨z0, y0⟩ := S.out.hd
  obtain ⟨c0_0, c0_1⟩ := cellsK2 y0
  obtain ⟨z1, y1⟩ := S.out.tl.hd
  obtain ⟨c1_0, c1_1⟩ := cellsK2 y1
  obtain ⟨z2, y2⟩ := S.out.tl.tl.hd
  obtain ⟨c2_0, c2_1, c2_2, c2_3, c2_4⟩ := cellsK5 y2
  obtain ⟨z3, y3⟩ := S.out.tl.tl.tl.hd
  obtain ⟨c3_0, c3_1, c3_2, c3_3, c3_4, c3_5, c3_6⟩ := cellsK7 y3
  clear y0 y1 y2 y3
  go_wp2_with fail
  refine (until18 b lo hi lim g _ (Hr.out.bel S.out.b)).mono ?_
  rintro e w4 ⟨rfl, hb0⟩
  have S' := Lib.hid (S.out.bel hb0)
  clear hb0 S z0 c0_0 c0_1 z1 c1_0 c1_1 z2 c2_0 c2_1 c2_2 c2_3 c2_4 z3 c3_0 c3_1 c3_2 c3_3 c3_4 c3_5 c3_6
  have S := S'
  clear S'
  obtain ⟨z0, y0⟩ := S.out.hd
  obtain ⟨c0_0, c0_1⟩ := cellsK2 y0
  obtain ⟨z1, y1⟩ := S.out.tl.hd
  obtain ⟨c1_0, c1_1⟩ := cellsK2 y1
  obtain ⟨z2, y2⟩ := S.out.tl.tl.hd
  obtain ⟨c2_0, c2_1, c2_2, c2_3, c2_4⟩ := cellsK5 y2
  obtain ⟨z3, y3⟩ := S.out.tl.tl.tl.hd
  obtain ⟨c3_0, c3_1, c3_2, c3_3, c3_4, c3_5, c3_6⟩ := cellsK7 y3
  clear y0 y1 y2 y3
  go_wp2_with fail
  refine (until19 b lo hi lim g _ (Hr.out.bel S.out.b)).mono ?_
  rintro e w5 ⟨rfl, hb0⟩
  have S' := Lib.hid (S.out.bel hb0)
  clear hb0 S z0 c0_0 c0_1 z1 c1_0 c1_1 z2 c2_0 c2_1 c2_2 c2_3 c2_4 z3 c3_0 c3_1 c3_2 c3_3 c3_4 c3_5 c3_6
  have S := S'
  clear S'
  obtain ⟨z0, y0⟩ := S.out.hd
  obtain ⟨c0_0, c0_1⟩ := cellsK2 y0
  obtain ⟨z1, y1⟩ := S.out.tl.hd
  obtain ⟨c1_0, c1_1⟩ := cellsK2 y1
  obtain ⟨z2, y2⟩ := S.out.tl.tl.hd
  obtain ⟨c2_0, c2_1, c2_2, c2_3, c2_4⟩ := cellsK5 y2
  obtain ⟨z3, y3⟩ := S.out.tl.tl.tl.hd
  obtain ⟨c3_0, c3_1, c3_2, c3_3, c3_4, c3_5, c3_6⟩ := cellsK7 y3
  clear y0 y1 y2 y3
  go_wp2_with fail
  refine (awake_any _).mono ?_
  rintro e w6 ⟨rfl, hb0⟩
  have S' := Lib.hid (S.out.bel hb0)
  clear hb0 S z0 c0_0 c0_1 z1 c1_0 c1_1 z2 c2_0 c2_1 c2_2 c2_3 c2_4 z3 c3_0 c3_1 c3_2 c3_3 c3_4 c3_5 c3_6
  have S := S'
  clear S'
  obtain ⟨z0, y0⟩ := S.out.hd
  obtain ⟨c0_0, c0_1⟩ := cellsK2 y0
  obtain ⟨z1, y1⟩ := S.out.tl.hd
  obtain ⟨c1_0, c1_1⟩ := cellsK2 y1
  obtain ⟨z2, y2⟩ := S.out.tl.tl.hd
  obtain ⟨c2_0, c2_1, c2_2, c2_3, c2_4⟩ := cellsK5 y2
  obtain ⟨z3, y3⟩ := S.out.tl.tl.tl.hd
  obtain ⟨c3_0, c3_1, c3_2, c3_3, c3_4, c3_5, c3_6⟩ := cellsK7 y3
  clear y0 y1 y2 y3
  go_wp2_with fail
  go_ret
  exact ⟨by first | rfl | (simp; omega), S.out.b⟩

theorem law9_any (b : BD) (lo hi secs : Int) (g : Bool) (lim : Int) (w : World) (hr : b.rd w) : Calls Try.prog 9 #[b.val, uv lo hi secs g lim] w fun e w' => e = .returned (.bool true) ∧ Below w.heap.size w w' := by
  have Hr := Lib.hid hr
  clear hr
  by_cases hf : b.n ≤ 20 ∧ b.m ≤ 20
  case neg =>
    have qf := fewB_f hf
    clear hf
    have S := Lib.hid (((Sg.start w).new (w.heap.size) (by simp) b.cells 26).new (w.heap.size + 1) (by simp) #[.int .i64 lo, .int .i64 hi, .int .i64 secs, .bool g, .int .i64 lim] 35)
    go_enter Try.func9, Try.ntmps9
    go_wp2_with fail
    refine (few10 b _).mono ?_
    rw [qf]
    rintro e w1 ⟨rfl, hb0⟩
    have S' := Lib.hid (S.out.bel hb0)
    clear hb0 S
    have S := S'
    clear S'
    obtain ⟨z0, y0⟩ := S.out.hd
    obtain ⟨c0_0, c0_1, c0_2, c0_3, c0_4⟩ := cellsK5 y0
    obtain ⟨z1, y1⟩ := S.out.tl.hd
    obtain ⟨c1_0, c1_1, c1_2, c1_3, c1_4, c1_5, c1_6⟩ := cellsK7 y1
    clear y0 y1
    go_wp2_with fail
    refine (awake_any _).mono ?_
    rintro e w2 ⟨rfl, hb0⟩
    have S' := Lib.hid (S.out.bel hb0)
    clear hb0 S z0 c0_0 c0_1 c0_2 c0_3 c0_4 z1 c1_0 c1_1 c1_2 c1_3 c1_4 c1_5 c1_6
    have S := S'
    clear S'
    obtain ⟨z0, y0⟩ := S.out.hd
    obtain ⟨c0_0, c0_1, c0_2, c0_3, c0_4⟩ := cellsK5 y0
    obtain ⟨z1, y1⟩ := S.out.tl.hd
    obtain ⟨c1_0, c1_1, c1_2, c1_3, c1_4, c1_5, c1_6⟩ := cellsK7 y1
    clear y0 y1
    go_wp2_with fail
    go_ret
    exact ⟨by first | rfl | (simp; omega), S.out.b⟩
  have qf := fewB_t hf
  clear hf
  by_cases hE : unE b lo hi lim = 0
  case neg =>
    have HN := Lib.hid (show unN b lo hi lim g = 0 from if_neg hE)
    have qE : (unE b lo hi lim != 0) = true := by simpa using hE
    clear hE
    have S := Lib.hid (((Sg.start w).new (w.heap.size) (by simp) b.cells 26).new (w.heap.size + 1) (by simp) #[.int .i64 lo, .int .i64 hi, .int .i64 secs, .bool g, .int .i64 lim] 35)
    go_enter Try.func9, Try.ntmps9
    go_wp2_with fail
    refine (few10 b _).mono ?_
    rw [qf]
    rintro e w1 ⟨rfl, hb0⟩
    have S' := Lib.hid (S.out.bel hb0)
    clear hb0 S
    have S := S'
    clear S'
    obtain ⟨z0, y0⟩ := S.out.hd
    obtain ⟨c0_0, c0_1, c0_2, c0_3, c0_4⟩ := cellsK5 y0
    obtain ⟨z1, y1⟩ := S.out.tl.hd
    obtain ⟨c1_0, c1_1, c1_2, c1_3, c1_4, c1_5, c1_6⟩ := cellsK7 y1
    clear y0 y1
    go_wp2_with fail
    refine (until18 b lo hi lim g _ (Hr.out.bel S.out.b)).mono ?_
    rw [HN.out]
    rintro e w2 ⟨rfl, hb0⟩
    have S' := Lib.hid (S.out.bel hb0)
    clear hb0 S z0 c0_0 c0_1 c0_2 c0_3 c0_4 z1 c1_0 c1_1 c1_2 c1_3 c1_4 c1_5 c1_6
    have S := S'
    clear S'
    obtain ⟨z0, y0⟩ := S.out.hd
    obtain ⟨c0_0, c0_1, c0_2, c0_3, c0_4⟩ := cellsK5 y0
    obtain ⟨z1, y1⟩ := S.out.tl.hd
    obtain ⟨c1_0, c1_1, c1_2, c1_3, c1_4, c1_5, c1_6⟩ := cellsK7 y1
    clear y0 y1
    go_wp2_with fail
    refine (awake_any _).mono ?_
    rintro e w3 ⟨rfl, hb0⟩
    have S' := Lib.hid (S.out.bel hb0)
    clear hb0 S z0 c0_0 c0_1 c0_2 c0_3 c0_4 z1 c1_0 c1_1 c1_2 c1_3 c1_4 c1_5 c1_6
    have S := S'
    clear S'
    obtain ⟨z0, y0⟩ := S.out.hd
    obtain ⟨c0_0, c0_1, c0_2, c0_3, c0_4⟩ := cellsK5 y0
    obtain ⟨z1, y1⟩ := S.out.tl.hd
    obtain ⟨c1_0, c1_1, c1_2, c1_3, c1_4, c1_5, c1_6⟩ := cellsK7 y1
    clear y0 y1
    go_wp2_with fail
    go_ret
    exact ⟨by first | rfl | (simp; omega), S.out.b⟩
  obtain ⟨hc, hs, l0, l1⟩ := unE_ok hE
  have ok := chk_ok hc
  have sl := ls_sp ok g
  obtain ⟨⟨n0, n1⟩, t0, t1⟩ := holds (h := lsH b g) (lo := lo) (lim := lim) (Int.le_trans sl.1 sl.2.1) sl.2.2 l0 l1 (Int.le_trans hs.2.1 hs.2.2)
  have hN : unN b lo hi lim g = unT (lsH b g) lo lim := if_pos hE
  obtain ⟨N, hNN⟩ : ∃ N, N = unT (lsH b g) lo lim := ⟨_, rfl⟩
  rw [← hNN] at n0 n1 t0 t1 hN
  have hA1 := afE_mk hc hs ⟨n0, n1⟩
  have HU := Lib.hid (And.intro hE hN)
  have HA := Lib.hid (And.intro hA1 (show aftLo b lo hi N g = afL (lsH b g) lo N from if_pos hA1))
  obtain ⟨A, hA⟩ : ∃ A, A = afL (lsH b g) lo N := ⟨_, rfl⟩
  rw [← hA] at t0 HA
  clear hA hA1 hNN hN hE sl ok
  by_cases h9 : N = 4294943999
  case pos =>
    have q9 : (N == 4294943999) = true := by simpa using h9
    clear h9 t1 hc hs l0 l1
    have S := Lib.hid (((Sg.start w).new (w.heap.size) (by simp) b.cells 26).new (w.heap.size + 1) (by simp) #[.int .i64 lo, .int .i64 hi, .int .i64 secs, .bool g, .int .i64 lim] 35)
    go_enter Try.func9, Try.ntmps9
    go_wp2_with fail
    refine (few10 b _).mono ?_
    rw [qf]
    rintro e w1 ⟨rfl, hb0⟩
    have S' := Lib.hid (S.out.bel hb0)
    clear hb0 S
    have S := S'
    clear S'
    obtain ⟨z0, y0⟩ := S.out.hd
    obtain ⟨c0_0, c0_1, c0_2, c0_3, c0_4⟩ := cellsK5 y0
    obtain ⟨z1, y1⟩ := S.out.tl.hd
    obtain ⟨c1_0, c1_1, c1_2, c1_3, c1_4, c1_5, c1_6⟩ := cellsK7 y1
    clear y0 y1
    go_wp2_with fail
    refine (until18 b lo hi lim g _ (Hr.out.bel S.out.b)).mono ?_
    rw [HU.out.1, HU.out.2]
    rintro e w2 ⟨rfl, hb0⟩
    have S' := Lib.hid (S.out.bel hb0)
    clear hb0 S z0 c0_0 c0_1 c0_2 c0_3 c0_4 z1 c1_0 c1_1 c1_2 c1_3 c1_4 c1_5 c1_6
    have S := S'
    clear S'
    obtain ⟨z0, y0⟩ := S.out.hd
    obtain ⟨c0_0, c0_1, c0_2, c0_3, c0_4⟩ := cellsK5 y0
    obtain ⟨z1, y1⟩ := S.out.tl.hd
    obtain ⟨c1_0, c1_1, c1_2, c1_3, c1_4, c1_5, c1_6⟩ := cellsK7 y1
    clear y0 y1
    go_wp2_with fail
    refine (after16 b lo hi N g _ (Hr.out.bel S.out.b)).mono ?_
    rw [HA.out.1, HA.out.2]
    rintro e w3 ⟨rfl, hb0⟩
    have S' := Lib.hid ((S.out.bel hb0).new w3.heap.size rfl #[.int .i64 A, .int .i64 (aftHi b lo hi N g)] 24)
    clear hb0 S z0 c0_0 c0_1 c0_2 c0_3 c0_4 z1 c1_0 c1_1 c1_2 c1_3 c1_4 c1_5 c1_6
    have S := S'
    clear S'
    obtain ⟨z0, y0⟩ := S.out.hd
    obtain ⟨c0_0, c0_1⟩ := cellsK2 y0
    obtain ⟨z1, y1⟩ := S.out.tl.hd
    obtain ⟨c1_0, c1_1, c1_2, c1_3, c1_4⟩ := cellsK5 y1
    obtain ⟨z2, y2⟩ := S.out.tl.tl.hd
    obtain ⟨c2_0, c2_1, c2_2, c2_3, c2_4, c2_5, c2_6⟩ := cellsK7 y2
    clear y0 y1 y2
    go_wp2_with fail
    refine (awake_any _).mono ?_
    rintro e w4 ⟨rfl, hb0⟩
    have S' := Lib.hid (S.out.bel hb0)
    clear hb0 S z0 c0_0 c0_1 z1 c1_0 c1_1 c1_2 c1_3 c1_4 z2 c2_0 c2_1 c2_2 c2_3 c2_4 c2_5 c2_6
    have S := S'
    clear S'
    obtain ⟨z0, y0⟩ := S.out.hd
    obtain ⟨c0_0, c0_1⟩ := cellsK2 y0
    obtain ⟨z1, y1⟩ := S.out.tl.hd
    obtain ⟨c1_0, c1_1, c1_2, c1_3, c1_4⟩ := cellsK5 y1
    obtain ⟨z2, y2⟩ := S.out.tl.tl.hd
    obtain ⟨c2_0, c2_1, c2_2, c2_3, c2_4, c2_5, c2_6⟩ := cellsK7 y2
    clear y0 y1 y2
    go_wp2_with fail
    go_ret
    exact ⟨by first | rfl | (simp; omega), S.out.b⟩
  have q9 : (N == 4294943999) = false := by simpa using h9
  have hw : IntKind.i64.wrap (N + 1) = N + 1 := IntWalk.i64_in _ (by omega)
  have t2 := t1 h9
  have hA2 := afE_mk (s := N + 1) hc hs (by omega)
  have HA2 := Lib.hid (And.intro hA2 (show aftLo b lo hi (N + 1) g = afL (lsH b g) lo (N + 1) from if_pos hA2))
  obtain ⟨A2, hA⟩ : ∃ A, A = afL (lsH b g) lo (N + 1) := ⟨_, rfl⟩
  rw [← hA] at t2 HA2
  clear hA hA2 h9 t1 hc hs l0 l1
  have S := Lib.hid (((Sg.start w).new (w.heap.size) (by simp) b.cells 26).new (w.heap.size + 1) (by simp) #[.int .i64 lo, .int .i64 hi, .int .i64 secs, .bool g, .int .i64 lim] 35)
  go_enter Try.func9, Try.ntmps9
  go_wp2_with fail
  refine (few10 b _).mono ?_
  rw [qf]
  rintro e w1 ⟨rfl, hb0⟩
  have S' := Lib.hid (S.out.bel hb0)
  clear hb0 S
  have S := S'
  clear S'
  obtain ⟨z0, y0⟩ := S.out.hd
  obtain ⟨c0_0, c0_1, c0_2, c0_3, c0_4⟩ := cellsK5 y0
  obtain ⟨z1, y1⟩ := S.out.tl.hd
  obtain ⟨c1_0, c1_1, c1_2, c1_3, c1_4, c1_5, c1_6⟩ := cellsK7 y1
  clear y0 y1
  go_wp2_with fail
  refine (until18 b lo hi lim g _ (Hr.out.bel S.out.b)).mono ?_
  rw [HU.out.1, HU.out.2]
  rintro e w2 ⟨rfl, hb0⟩
  have S' := Lib.hid (S.out.bel hb0)
  clear hb0 S z0 c0_0 c0_1 c0_2 c0_3 c0_4 z1 c1_0 c1_1 c1_2 c1_3 c1_4 c1_5 c1_6
  have S := S'
  clear S'
  obtain ⟨z0, y0⟩ := S.out.hd
  obtain ⟨c0_0, c0_1, c0_2, c0_3, c0_4⟩ := cellsK5 y0
  obtain ⟨z1, y1⟩ := S.out.tl.hd
  obtain ⟨c1_0, c1_1, c1_2, c1_3, c1_4, c1_5, c1_6⟩ := cellsK7 y1
  clear y0 y1
  go_wp2_with fail
  refine (after16 b lo hi N g _ (Hr.out.bel S.out.b)).mono ?_
  rw [HA.out.1, HA.out.2]
  rintro e w3 ⟨rfl, hb0⟩
  have S' := Lib.hid ((S.out.bel hb0).new w3.heap.size rfl #[.int .i64 A, .int .i64 (aftHi b lo hi N g)] 24)
  clear hb0 S z0 c0_0 c0_1 c0_2 c0_3 c0_4 z1 c1_0 c1_1 c1_2 c1_3 c1_4 c1_5 c1_6
  have S := S'
  clear S'
  obtain ⟨z0, y0⟩ := S.out.hd
  obtain ⟨c0_0, c0_1⟩ := cellsK2 y0
  obtain ⟨z1, y1⟩ := S.out.tl.hd
  obtain ⟨c1_0, c1_1, c1_2, c1_3, c1_4⟩ := cellsK5 y1
  obtain ⟨z2, y2⟩ := S.out.tl.tl.hd
  obtain ⟨c2_0, c2_1, c2_2, c2_3, c2_4, c2_5, c2_6⟩ := cellsK7 y2
  clear y0 y1 y2
  go_wp2_with fail
  refine (after16 b lo hi (N + 1) g _ (Hr.out.bel S.out.b)).mono ?_
  rw [HA2.out.1, HA2.out.2]
  rintro e w4 ⟨rfl, hb0⟩
  have S' := Lib.hid ((S.out.bel hb0).new w4.heap.size rfl #[.int .i64 A2, .int .i64 (aftHi b lo hi (N + 1) g)] 24)
  clear hb0 S z0 c0_0 c0_1 z1 c1_0 c1_1 c1_2 c1_3 c1_4 z2 c2_0 c2_1 c2_2 c2_3 c2_4 c2_5 c2_6
  have S := S'
  clear S'
  obtain ⟨z0, y0⟩ := S.out.hd
  obtain ⟨c0_0, c0_1⟩ := cellsK2 y0
  obtain ⟨z1, y1⟩ := S.out.tl.hd
  obtain ⟨c1_0, c1_1⟩ := cellsK2 y1
  obtain ⟨z2, y2⟩ := S.out.tl.tl.hd
  obtain ⟨c2_0, c2_1, c2_2, c2_3, c2_4⟩ := cellsK5 y2
  obtain ⟨z3, y3⟩ := S.out.tl.tl.tl.hd
  obtain ⟨c3_0, c3_1, c3_2, c3_3, c3_4, c3_5, c3_6⟩ := cellsK7 y3
  clear y0 y1 y2 y3
  go_wp2_with fail
  refine (awake_any _).mono ?_
  rintro e w5 ⟨rfl, hb0⟩
  have S' := Lib.hid (S.out.bel hb0)
  clear hb0 S z0 c0_0 c0_1 z1 c1_0 c1_1 z2 c2_0 c2_1 c2_2 c2_3 c2_4 z3 c3_0 c3_1 c3_2 c3_3 c3_4 c3_5 c3_6
  have S := S'
  clear S'
  obtain ⟨z0, y0⟩ := S.out.hd
  obtain ⟨c0_0, c0_1⟩ := cellsK2 y0
  obtain ⟨z1, y1⟩ := S.out.tl.hd
  obtain ⟨c1_0, c1_1⟩ := cellsK2 y1
  obtain ⟨z2, y2⟩ := S.out.tl.tl.hd
  obtain ⟨c2_0, c2_1, c2_2, c2_3, c2_4⟩ := cellsK5 y2
  obtain ⟨z3, y3⟩ := S.out.tl.tl.tl.hd
  obtain ⟨c3_0, c3_1, c3_2, c3_3, c3_4, c3_5, c3_6⟩ := cellsK7 y3
  clear y0 y1 y2 y3
  go_wp2_with fail
  go_ret
  exact ⟨by first | rfl | (simp; omega), S.out.b⟩

theorem k3_of {w X : World} {b : BD} {p q1 q2 : Nat} {x y : Int} (h : Sg w [(q2, #[.int .i64 x, .int .i64 y]), (q1, #[.int .i64 x, .int .i64 y]), (p, b.cells)] X) : X.cell? ⟨q2, 0, none⟩ = some (.int .i64 x) ∧ X.cell? ⟨q2, 1, none⟩ = some (.int .i64 y) ∧ X.cell? ⟨q1, 0, none⟩ = some (.int .i64 x) ∧ X.cell? ⟨q1, 1, none⟩ = some (.int .i64 y) ∧ X.cell? ⟨p, 0, none⟩ = some (.slice b.A b.n b.c) ∧ X.cell? ⟨p, 1, none⟩ = some (.slice b.C b.m b.d) ∧ X.cell? ⟨p, 2, none⟩ = some (.int .i64 b.er) ∧ X.cell? ⟨p, 3, none⟩ = some (.int .i64 b.il) ∧ X.cell? ⟨p, 4, none⟩ = some (.int .i64 b.ih) ∧ X.cell? ⟨p, 5, none⟩ = some (.int .i64 b.rl) ∧ X.cell? ⟨p, 6, none⟩ = some (.int .i64 b.rh) ∧ Sg w [(q2, #[.int .i64 x, .int .i64 y]), (q1, #[.int .i64 x, .int .i64 y]), (p, b.cells)] X := by
  obtain ⟨a0, a1⟩ := cellsK2 h.hd.2
  obtain ⟨c0, c1⟩ := cellsK2 h.tl.hd.2
  obtain ⟨d0, d1, d2, d3, d4, d5, d6⟩ := cellsK7 h.tl.tl.hd.2
  exact ⟨a0, a1, c0, c1, d0, d1, d2, d3, d4, d5, d6, h⟩
theorem k3_sg {w X : World} {b : BD} {p q1 q2 : Nat} {x y : Int} (h : X.cell? ⟨q2, 0, none⟩ = some (.int .i64 x) ∧ X.cell? ⟨q2, 1, none⟩ = some (.int .i64 y) ∧ X.cell? ⟨q1, 0, none⟩ = some (.int .i64 x) ∧ X.cell? ⟨q1, 1, none⟩ = some (.int .i64 y) ∧ X.cell? ⟨p, 0, none⟩ = some (.slice b.A b.n b.c) ∧ X.cell? ⟨p, 1, none⟩ = some (.slice b.C b.m b.d) ∧ X.cell? ⟨p, 2, none⟩ = some (.int .i64 b.er) ∧ X.cell? ⟨p, 3, none⟩ = some (.int .i64 b.il) ∧ X.cell? ⟨p, 4, none⟩ = some (.int .i64 b.ih) ∧ X.cell? ⟨p, 5, none⟩ = some (.int .i64 b.rl) ∧ X.cell? ⟨p, 6, none⟩ = some (.int .i64 b.rh) ∧ Sg w [(q2, #[.int .i64 x, .int .i64 y]), (q1, #[.int .i64 x, .int .i64 y]), (p, b.cells)] X) : Sg w [(q2, #[.int .i64 x, .int .i64 y]), (q1, #[.int .i64 x, .int .i64 y]), (p, b.cells)] X := h.2.2.2.2.2.2.2.2.2.2.2
theorem k3_keep {w X Y : World} {b : BD} {p q1 q2 : Nat} {x y : Int} (h : X.cell? ⟨q2, 0, none⟩ = some (.int .i64 x) ∧ X.cell? ⟨q2, 1, none⟩ = some (.int .i64 y) ∧ X.cell? ⟨q1, 0, none⟩ = some (.int .i64 x) ∧ X.cell? ⟨q1, 1, none⟩ = some (.int .i64 y) ∧ X.cell? ⟨p, 0, none⟩ = some (.slice b.A b.n b.c) ∧ X.cell? ⟨p, 1, none⟩ = some (.slice b.C b.m b.d) ∧ X.cell? ⟨p, 2, none⟩ = some (.int .i64 b.er) ∧ X.cell? ⟨p, 3, none⟩ = some (.int .i64 b.il) ∧ X.cell? ⟨p, 4, none⟩ = some (.int .i64 b.ih) ∧ X.cell? ⟨p, 5, none⟩ = some (.int .i64 b.rl) ∧ X.cell? ⟨p, 6, none⟩ = some (.int .i64 b.rh) ∧ Sg w [(q2, #[.int .i64 x, .int .i64 y]), (q1, #[.int .i64 x, .int .i64 y]), (p, b.cells)] X) (hb : Below X.heap.size X Y) : Y.cell? ⟨q2, 0, none⟩ = some (.int .i64 x) ∧ Y.cell? ⟨q2, 1, none⟩ = some (.int .i64 y) ∧ Y.cell? ⟨q1, 0, none⟩ = some (.int .i64 x) ∧ Y.cell? ⟨q1, 1, none⟩ = some (.int .i64 y) ∧ Y.cell? ⟨p, 0, none⟩ = some (.slice b.A b.n b.c) ∧ Y.cell? ⟨p, 1, none⟩ = some (.slice b.C b.m b.d) ∧ Y.cell? ⟨p, 2, none⟩ = some (.int .i64 b.er) ∧ Y.cell? ⟨p, 3, none⟩ = some (.int .i64 b.il) ∧ Y.cell? ⟨p, 4, none⟩ = some (.int .i64 b.ih) ∧ Y.cell? ⟨p, 5, none⟩ = some (.int .i64 b.rl) ∧ Y.cell? ⟨p, 6, none⟩ = some (.int .i64 b.rh) ∧ Sg w [(q2, #[.int .i64 x, .int .i64 y]), (q1, #[.int .i64 x, .int .i64 y]), (p, b.cells)] Y := k3_of ((k3_sg h).bel hb)
theorem k3_rd {w X : World} {b : BD} {p q1 q2 : Nat} {x y : Int} (hr : b.rd w) (h : X.cell? ⟨q2, 0, none⟩ = some (.int .i64 x) ∧ X.cell? ⟨q2, 1, none⟩ = some (.int .i64 y) ∧ X.cell? ⟨q1, 0, none⟩ = some (.int .i64 x) ∧ X.cell? ⟨q1, 1, none⟩ = some (.int .i64 y) ∧ X.cell? ⟨p, 0, none⟩ = some (.slice b.A b.n b.c) ∧ X.cell? ⟨p, 1, none⟩ = some (.slice b.C b.m b.d) ∧ X.cell? ⟨p, 2, none⟩ = some (.int .i64 b.er) ∧ X.cell? ⟨p, 3, none⟩ = some (.int .i64 b.il) ∧ X.cell? ⟨p, 4, none⟩ = some (.int .i64 b.ih) ∧ X.cell? ⟨p, 5, none⟩ = some (.int .i64 b.rl) ∧ X.cell? ⟨p, 6, none⟩ = some (.int .i64 b.rh) ∧ Sg w [(q2, #[.int .i64 x, .int .i64 y]), (q1, #[.int .i64 x, .int .i64 y]), (p, b.cells)] X) : b.rd X := hr.bel (k3_sg h).b
theorem law3_any (b : BD) (r : Int) (w : World) (hr : b.rd w) : Calls Try.prog 3 #[b.val, .int .i64 r] w fun e w' => e = .returned (.bool true) ∧ Below w.heap.size w w' := by
  have Hr := Lib.hid hr
  clear hr
  by_cases hf : b.n ≤ 20 ∧ b.m ≤ 20
  case neg =>
    have qf := fewB_f hf
    clear hf
    have S := Lib.hid ((Sg.start w).new (w.heap.size) (by simp) b.cells 26)
    go_enter Try.func3, Try.ntmps3
    go_wp2_with fail
    refine (few10 b _).mono ?_
    rw [qf]
    rintro e w1 ⟨rfl, hb0⟩
    have S' := Lib.hid (S.out.bel hb0)
    clear hb0 S
    have S := S'
    clear S'
    obtain ⟨z0, y0⟩ := S.out.hd
    obtain ⟨c0_0, c0_1, c0_2, c0_3, c0_4, c0_5, c0_6⟩ := cellsK7 y0
    clear y0
    go_wp2_with fail
    refine (awake_any _).mono ?_
    rintro e w2 ⟨rfl, hb0⟩
    have S' := Lib.hid (S.out.bel hb0)
    clear hb0 S z0 c0_0 c0_1 c0_2 c0_3 c0_4 c0_5 c0_6
    have S := S'
    clear S'
    obtain ⟨z0, y0⟩ := S.out.hd
    obtain ⟨c0_0, c0_1, c0_2, c0_3, c0_4, c0_5, c0_6⟩ := cellsK7 y0
    clear y0
    go_wp2_with fail
    go_ret
    exact ⟨by first | rfl | (simp; omega), S.out.b⟩
  have qf := fewB_t hf
  clear hf
  obtain ⟨x, hx⟩ : ∃ x, x = chLo b r := ⟨_, rfl⟩
  obtain ⟨y, hy⟩ : ∃ y, y = chHi b r := ⟨_, rfl⟩
  have HX := Lib.hid hx.symm
  have HY := Lib.hid hy.symm
  clear hx hy
  have S := Lib.hid ((Sg.start w).new (w.heap.size) (by simp) b.cells 26)
  go_enter Try.func3, Try.ntmps3
  go_wp2_with fail
  refine (few10 b _).mono ?_
  rw [qf]
  rintro e w1 ⟨rfl, hb0⟩
  have S' := Lib.hid (S.out.bel hb0)
  clear hb0 S
  have S := S'
  clear S'
  obtain ⟨z0, y0⟩ := S.out.hd
  obtain ⟨c0_0, c0_1, c0_2, c0_3, c0_4, c0_5, c0_6⟩ := cellsK7 y0
  clear y0
  go_wp2_with fail
  refine (charge12 b r _ (Hr.out.bel S.out.b)).mono ?_
  rw [HX.out, HY.out]
  rintro e w2 ⟨rfl, hb0⟩
  have S' := Lib.hid ((S.out.bel hb0).new w2.heap.size rfl #[.int .i64 x, .int .i64 y] 24)
  clear hb0 S z0 c0_0 c0_1 c0_2 c0_3 c0_4 c0_5 c0_6
  have S := S'
  clear S'
  obtain ⟨z0, y0⟩ := S.out.hd
  obtain ⟨c0_0, c0_1⟩ := cellsK2 y0
  obtain ⟨z1, y1⟩ := S.out.tl.hd
  obtain ⟨c1_0, c1_1, c1_2, c1_3, c1_4, c1_5, c1_6⟩ := cellsK7 y1
  clear y0 y1
  go_wp2_with fail
  refine (charge13 b r _ (Hr.out.bel S.out.b)).mono ?_
  rw [HX.out, HY.out]
  rintro e w3 ⟨rfl, hb0⟩
  have S' := Lib.hid ((S.out.bel hb0).new w3.heap.size rfl #[.int .i64 x, .int .i64 y] 24)
  clear hb0 S z0 c0_0 c0_1 z1 c1_0 c1_1 c1_2 c1_3 c1_4 c1_5 c1_6
  have S := S'
  clear S'
  obtain ⟨z0, y0⟩ := S.out.hd
  obtain ⟨c0_0, c0_1⟩ := cellsK2 y0
  obtain ⟨z1, y1⟩ := S.out.tl.hd
  obtain ⟨c1_0, c1_1⟩ := cellsK2 y1
  obtain ⟨z2, y2⟩ := S.out.tl.tl.hd
  obtain ⟨c2_0, c2_1, c2_2, c2_3, c2_4, c2_5, c2_6⟩ := cellsK7 y2
  clear y0 y1 y2
  go_wp2_with fail
  clear z0 c0_0 c0_1 z1 c1_0 c1_1 z2 c2_0 c2_1 c2_2 c2_3 c2_4 c2_5 c2_6
  go_region_held3 (fun X => X.cell? ⟨w3.heap.size, 0, none⟩ = some (.int .i64 x) ∧ X.cell? ⟨w3.heap.size, 1, none⟩ = some (.int .i64 y) ∧ X.cell? ⟨w2.heap.size, 0, none⟩ = some (.int .i64 x) ∧ X.cell? ⟨w2.heap.size, 1, none⟩ = some (.int .i64 y) ∧ X.cell? ⟨w.heap.size, 0, none⟩ = some (.slice b.A b.n b.c) ∧ X.cell? ⟨w.heap.size, 1, none⟩ = some (.slice b.C b.m b.d) ∧ X.cell? ⟨w.heap.size, 2, none⟩ = some (.int .i64 b.er) ∧ X.cell? ⟨w.heap.size, 3, none⟩ = some (.int .i64 b.il) ∧ X.cell? ⟨w.heap.size, 4, none⟩ = some (.int .i64 b.ih) ∧ X.cell? ⟨w.heap.size, 5, none⟩ = some (.int .i64 b.rl) ∧ X.cell? ⟨w.heap.size, 6, none⟩ = some (.int .i64 b.rh) ∧ Sg w [(w3.heap.size, #[.int .i64 x, .int .i64 y]), (w2.heap.size, #[.int .i64 x, .int .i64 y]), (w.heap.size, b.cells)] X) (first | exact k3_of S.out.drew | exact k3_keep (by assumption) (by assumption)) (first | (go_at_call 14; refine (check14 b _ (k3_rd Hr.out (by assumption))).mono ?_; rintro e w8 ⟨rfl, hb0⟩) | (go_at_call 15; refine (check15 b _ (k3_rd Hr.out (by assumption))).mono ?_; rintro e w8 ⟨rfl, hb0⟩) | (go_at_call 11; refine (awake_any _).mono ?_; rintro e w8 ⟨rfl, hb0⟩))
  all_goals
    rename_i hH
    have BE := Lib.hid (k3_sg hH).b
    clear hH
    go_wp2_with fail
    go_ret
    exact ⟨by first | rfl | (simp; omega), BE.out⟩
end Go.Proofs.Ytgcjjnmdbdllhaa
