/- The walk of the law BatteryTrue. -/
import Derived.Test.YtgcjjnmdbdllhaaBL0
namespace Go.Proofs.Ytgcjjnmdbdllhaa
open Go.RowKit
set_option maxHeartbeats 4000000
set_option maxRecDepth 100000
set_option linter.unusedVariables false

abbrev wideB (b : BD) : BD := ⟨b.A, b.n, b.c, b.C, b.m, b.d, b.v, b.h, 1000, b.il, b.ih, b.rl, b.rh⟩
theorem wide_ok {b : BD} (h : OkB b) : OkB (wideB b) := ⟨h.nm, h.n2, h.n16, h.av, h.ah, h.rv, h.rh, h.h0, h.h1, by show (0 : Int) ≤ 1000 ∧ (1000 : Int) ≤ 1000; omega, h.idle, h.ride⟩
theorem ok_chk {b : BD} (h : OkB b) : chk b = 0 := chk0 (by have := h.nm; have := h.n2; have := h.n16; omega) ⟨h.av, h.ah⟩ ⟨h.rv, h.rh, h.h0, h.h1, h.er, h.idle, h.ride⟩
theorem law7_any (b : BD) (r v : Int) (w : World) (hr : b.rd w) : Calls Try.prog 7 #[b.val, .int .i64 r, .int .i64 v] w fun e w' => e = .returned (.bool true) ∧ Below w.heap.size w w' := by
  have Hr := Lib.hid hr
  clear hr
  by_cases hf : b.n ≤ 20 ∧ b.m ≤ 20
  case neg =>
    have qf := fewB_f hf
    clear hf
    have S := Lib.hid ((Sg.start w).new (w.heap.size) (by simp) b.cells 26)
    go_enter Try.func7, Try.ntmps7
    go_wp2_with fail
    refine (few10 b _).mono ?_
    rw [qf]
    rintro e w1 ⟨rfl, hb0⟩
    have S' := Lib.hid (S.out.bel hb0)
    clear hb0 S
    have S := S'
    clear S'
    obtain ⟨z0, y0⟩ := S.out.hd
    obtain ⟨c0_0, c0_1, c0_2, c0_3, c0_4, c0_5, c0_6⟩ := cellsK7 y0
    clear y0
    go_wp2_with fail
    refine (awake_any _).mono ?_
    rintro e w2 ⟨rfl, hb0⟩
    have S' := Lib.hid (S.out.bel hb0)
    clear hb0 S z0 c0_0 c0_1 c0_2 c0_3 c0_4 c0_5 c0_6
    have S := S'
    clear S'
    obtain ⟨z0, y0⟩ := S.out.hd
    obtain ⟨c0_0, c0_1, c0_2, c0_3, c0_4, c0_5, c0_6⟩ := cellsK7 y0
    clear y0
    go_wp2_with fail
    go_ret
    exact ⟨by first | rfl | (simp; omega), S.out.b⟩
  have qf := fewB_t hf
  clear hf
  by_cases hE : chE b r = 0
  case neg =>
    have HN := Lib.hid (show chLo b r = 0 ∧ chHi b r = 0 from ⟨if_neg hE, if_neg hE⟩)
    have qE : (chE b r != 0) = true := by simpa using hE
    clear hE
    have S := Lib.hid ((Sg.start w).new (w.heap.size) (by simp) b.cells 26)
    go_enter Try.func7, Try.ntmps7
    go_wp2_with fail
    refine (few10 b _).mono ?_
    rw [qf]
    rintro e w1 ⟨rfl, hb0⟩
    have S' := Lib.hid (S.out.bel hb0)
    clear hb0 S
    have S := S'
    clear S'
    obtain ⟨z0, y0⟩ := S.out.hd
    obtain ⟨c0_0, c0_1, c0_2, c0_3, c0_4, c0_5, c0_6⟩ := cellsK7 y0
    clear y0
    go_wp2_with fail
    refine (charge12 b r _ (Hr.out.bel S.out.b)).mono ?_
    rw [HN.out.1, HN.out.2]
    rintro e w2 ⟨rfl, hb0⟩
    have S' := Lib.hid ((S.out.bel hb0).new w2.heap.size rfl #[.int .i64 0, .int .i64 0] 24)
    clear hb0 S z0 c0_0 c0_1 c0_2 c0_3 c0_4 c0_5 c0_6
    have S := S'
    clear S'
    obtain ⟨z0, y0⟩ := S.out.hd
    obtain ⟨c0_0, c0_1⟩ := cellsK2 y0
    obtain ⟨z1, y1⟩ := S.out.tl.hd
    obtain ⟨c1_0, c1_1, c1_2, c1_3, c1_4, c1_5, c1_6⟩ := cellsK7 y1
    clear y0 y1
    go_wp2_with fail
    clear z0 c0_0 c0_1 z1 c1_0 c1_1 c1_2 c1_3 c1_4 c1_5 c1_6
    go_region_held3 (fun X => X.cell? ⟨w2.heap.size, 0, none⟩ = some (.int .i64 0) ∧ X.cell? ⟨w2.heap.size, 1, none⟩ = some (.int .i64 0) ∧ Sg w [(w2.heap.size, #[.int .i64 0, .int .i64 0]), (w.heap.size, b.cells)] X) (first | exact keep1_drew S.out | exact keep1 (by assumption) (by assumption)) (first | (go_at_call 22; refine (sp22 _ _ _).mono ?_; rintro e w8 ⟨rfl, hb0⟩) | (go_at_call 11; refine (awake_any _).mono ?_; rintro e w8 ⟨rfl, hb0⟩))
    all_goals
      rename_i hH
      have BE := Lib.hid hH.2.2.b
      clear hH
      go_wp2_with fail
      go_ret
      exact ⟨by first | rfl | (simp; omega), BE.out⟩
  obtain ⟨hc, r0, r1⟩ := chE_ok hE
  have ok := chk_ok hc
  have er := ok.er
  have hEw : chE (wideB b) r = 0 := by unfold chE; rw [if_pos (ok_chk (wide_ok ok)), if_pos ⟨r0, r1⟩]
  obtain ⟨x, hx⟩ : ∃ x, x = loAt b (r - b.er) := ⟨_, rfl⟩
  obtain ⟨y, hy⟩ : ∃ y, y = hiAt b (r + b.er) := ⟨_, rfl⟩
  have HX := Lib.hid (And.intro hE (And.intro (show chLo b r = x by rw [hx]; exact if_pos hE) (show chHi b r = y by rw [hy]; exact if_pos hE)))
  have sp : spP x y := by rw [hx, hy]; exact at_sp ok (by omega)
  have q1 := spB_t sp
  have HC := Lib.hid hc
  obtain ⟨wx, hwx⟩ : ∃ wx, wx = loAt b (r - 1000) := ⟨_, rfl⟩
  obtain ⟨wy, hwy⟩ : ∃ wy, wy = hiAt b (r + 1000) := ⟨_, rfl⟩
  have HW := Lib.hid (And.intro hEw (And.intro (show chLo (wideB b) r = wx by rw [hwx]; exact if_pos hEw) (show chHi (wideB b) r = wy by rw [hwy]; exact if_pos hEw)))
  have g1 : wx ≤ x := by rw [hwx, hx]; exact lo_mono ok (by omega)
  have g2 : y ≤ wy := by rw [hwy, hy]; exact hi_mono ok (by omega)
  have gv : chE b v = 0 → r ≤ v → x ≤ chLo b v ∧ y ≤ chHi b v := fun he hv => by
    rw [show chLo b v = loAt b (v - b.er) from if_pos he, show chHi b v = hiAt b (v + b.er) from if_pos he, hx, hy]
    exact ⟨lo_mono ok (by omega), hi_mono ok (by omega)⟩
  obtain ⟨E, hEv⟩ : ∃ E, E = chE b v := ⟨_, rfl⟩
  obtain ⟨t0, ht0⟩ : ∃ t, t = chLo b v := ⟨_, rfl⟩
  obtain ⟨t1, ht1⟩ : ∃ t, t = chHi b v := ⟨_, rfl⟩
  rw [← hEv, ← ht0, ← ht1] at gv
  have HV := Lib.hid (And.intro hEv.symm (And.intro ht0.symm ht1.symm))
  have f1 : IntKind.i64.wrap (r - b.er) = r - b.er := IntWalk.i64_in _ (by omega)
  have f2 : IntKind.i64.wrap (r + b.er) = r + b.er := IntWalk.i64_in _ (by omega)
  have hp : r - b.er ≤ v → v ≤ r + b.er → x * atQ b v ≤ atP b v ∧ atP b v ≤ y * atQ b v := fun h1 h2 => by
    rw [hx, hy]; exact ⟨lo_le_true ok h1, true_le_hi ok h2⟩
  have hb := at_bd ok v
  have hq := atQ_le ok v
  obtain ⟨P, hP⟩ : ∃ P, P = atP b v := ⟨_, rfl⟩
  obtain ⟨Q, hQ⟩ : ∃ Q, Q = atQ b v := ⟨_, rfl⟩
  rw [← hP, ← hQ] at hp hb
  rw [← hQ] at hq
  have HP := Lib.hid (And.intro hP.symm hQ.symm)
  have Hok := Lib.hid ok
  have Hz := Lib.hid (show r - b.er ≤ v → v ≤ r + b.er → -1000 ≤ v ∧ v ≤ 11000 from fun h1 h2 => by omega)
  have b1 : 0 ≤ x * Q := Int.mul_nonneg sp.1 (by omega)
  have b2 : x * Q ≤ 1000 * 10000 := Int.mul_le_mul (by have := sp.2; omega) hq (by omega) (by omega)
  have b3 : 0 ≤ y * Q := Int.mul_nonneg (by have := sp.2; have := sp.1; omega) (by omega)
  have b4 : y * Q ≤ 1000 * 10000 := Int.mul_le_mul (by have := sp.2; omega) hq (by omega) (by omega)
  have f3 : IntKind.i64.wrap (x * Q) = x * Q := IntWalk.i64_in _ (by omega)
  have f4 : IntKind.i64.wrap (y * Q) = y * Q := IntWalk.i64_in _ (by omega)
  have hcs : E ≠ 0 ∨ (E = 0 ∧ v < r) ∨ (E = 0 ∧ r ≤ v ∧ x ≤ t0 ∧ y ≤ t1) := by
    by_cases h1 : E = 0
    · by_cases h2 : v < r
      · exact .inr (.inl ⟨h1, h2⟩)
      · exact .inr (.inr ⟨h1, by omega, gv h1 (by omega)⟩)
    · exact .inl h1
  have hcv : v < r - b.er ∨ (r - b.er ≤ v ∧ r + b.er < v) ∨ (r - b.er ≤ v ∧ v ≤ r + b.er) := by omega
  clear hE hc er hEw hx hy sp hwx hwy gv hEv ht0 ht1 hb hq hP hQ b1 b2 b3 b4 r0 r1
  have e0 : 0 ≤ b.er := ok.er.1
  clear ok
  rcases hcs with h1 | ⟨h1, h2⟩ | ⟨h1, h2, h3, h4⟩
  ·
    have qE : (E == 0) = false := by simpa using h1
    clear h1
    rcases hcv with k1 | ⟨k1, k2⟩ | ⟨k1, k2⟩
    ·
      clear hp e0
      have S := Lib.hid ((Sg.start w).new (w.heap.size) (by simp) b.cells 26)
      go_enter Try.func7, Try.ntmps7
      go_wp2_with fail
      refine (few10 b _).mono ?_
      rw [qf]
      rintro e w1 ⟨rfl, hb0⟩
      have S' := Lib.hid (S.out.bel hb0)
      clear hb0 S
      have S := S'
      clear S'
      obtain ⟨z0, y0⟩ := S.out.hd
      obtain ⟨c0_0, c0_1, c0_2, c0_3, c0_4, c0_5, c0_6⟩ := cellsK7 y0
      clear y0
      go_wp2_with fail
      refine (charge12 b r _ (Hr.out.bel S.out.b)).mono ?_
      rw [HX.out.1, HX.out.2.1, HX.out.2.2]
      rintro e w2 ⟨rfl, hb0⟩
      have S' := Lib.hid ((S.out.bel hb0).new w2.heap.size rfl #[.int .i64 x, .int .i64 y] 24)
      clear hb0 S z0 c0_0 c0_1 c0_2 c0_3 c0_4 c0_5 c0_6
      have S := S'
      clear S'
      obtain ⟨z0, y0⟩ := S.out.hd
      obtain ⟨c0_0, c0_1⟩ := cellsK2 y0
      obtain ⟨z1, y1⟩ := S.out.tl.hd
      obtain ⟨c1_0, c1_1, c1_2, c1_3, c1_4, c1_5, c1_6⟩ := cellsK7 y1
      clear y0 y1
      go_wp2_with fail
      refine (interval21 x y _).mono ?_
      rintro e w3 ⟨rfl, hb0⟩
      have S' := Lib.hid (S.out.bel hb0)
      clear hb0 S z0 c0_0 c0_1 z1 c1_0 c1_1 c1_2 c1_3 c1_4 c1_5 c1_6
      have S := S'
      clear S'
      obtain ⟨z0, y0⟩ := S.out.hd
      obtain ⟨c0_0, c0_1⟩ := cellsK2 y0
      obtain ⟨z1, y1⟩ := S.out.tl.hd
      obtain ⟨c1_0, c1_1, c1_2, c1_3, c1_4, c1_5, c1_6⟩ := cellsK7 y1
      clear y0 y1
      go_wp2_with fail
      refine (check15 b _ (Hr.out.bel S.out.b)).mono ?_
      rw [HC.out]
      rintro e w4 ⟨rfl, hb0⟩
      have S' := Lib.hid (S.out.bel hb0)
      clear hb0 S z0 c0_0 c0_1 z1 c1_0 c1_1 c1_2 c1_3 c1_4 c1_5 c1_6
      have S := S'
      clear S'
      obtain ⟨z0, y0⟩ := S.out.hd
      obtain ⟨c0_0, c0_1⟩ := cellsK2 y0
      obtain ⟨z1, y1⟩ := S.out.tl.hd
      obtain ⟨c1_0, c1_1, c1_2, c1_3, c1_4, c1_5, c1_6⟩ := cellsK7 y1
      clear y0 y1
      go_wp2_with fail
      refine (charge12 b v _ (Hr.out.bel S.out.b)).mono ?_
      rw [HV.out.1, HV.out.2.1, HV.out.2.2]
      rintro e w5 ⟨rfl, hb0⟩
      have S' := Lib.hid ((S.out.bel hb0).new w5.heap.size rfl #[.int .i64 t0, .int .i64 t1] 24)
      clear hb0 S z0 c0_0 c0_1 z1 c1_0 c1_1 c1_2 c1_3 c1_4 c1_5 c1_6
      have S := S'
      clear S'
      obtain ⟨z0, y0⟩ := S.out.hd
      obtain ⟨c0_0, c0_1⟩ := cellsK2 y0
      obtain ⟨z1, y1⟩ := S.out.tl.hd
      obtain ⟨c1_0, c1_1⟩ := cellsK2 y1
      obtain ⟨z2, y2⟩ := S.out.tl.tl.hd
      obtain ⟨c2_0, c2_1, c2_2, c2_3, c2_4, c2_5, c2_6⟩ := cellsK7 y2
      clear y0 y1 y2
      go_wp2_with fail
      have S' := Lib.hid (S.out.alloc (.cells #[.slice b.A b.n b.c, .slice b.C b.m b.d, .int .i64 1000, .int .i64 b.il, .int .i64 b.ih, .int .i64 b.rl, .int .i64 b.rh] 26))
      clear S z0 c0_0 c0_1 z1 c1_0 c1_1 z2 c2_0 c2_1 c2_2 c2_3 c2_4 c2_5 c2_6
      have S := S'
      clear S'
      obtain ⟨z0, y0⟩ := S.out.hd
      obtain ⟨c0_0, c0_1⟩ := cellsK2 y0
      obtain ⟨z1, y1⟩ := S.out.tl.hd
      obtain ⟨c1_0, c1_1⟩ := cellsK2 y1
      obtain ⟨z2, y2⟩ := S.out.tl.tl.hd
      obtain ⟨c2_0, c2_1, c2_2, c2_3, c2_4, c2_5, c2_6⟩ := cellsK7 y2
      clear y0 y1 y2
      refine (charge12 (wideB b) r _ (Hr.out.bel S.out.b)).mono ?_
      rw [HW.out.1, HW.out.2.1, HW.out.2.2]
      rintro e w6 ⟨rfl, hb0⟩
      have S' := Lib.hid ((S.out.bel hb0).new w6.heap.size rfl #[.int .i64 wx, .int .i64 wy] 24)
      clear hb0 S z0 c0_0 c0_1 z1 c1_0 c1_1 z2 c2_0 c2_1 c2_2 c2_3 c2_4 c2_5 c2_6
      have S := S'
      clear S'
      obtain ⟨z0, y0⟩ := S.out.hd
      obtain ⟨c0_0, c0_1⟩ := cellsK2 y0
      obtain ⟨z1, y1⟩ := S.out.tl.hd
      obtain ⟨c1_0, c1_1⟩ := cellsK2 y1
      obtain ⟨z2, y2⟩ := S.out.tl.tl.hd
      obtain ⟨c2_0, c2_1⟩ := cellsK2 y2
      obtain ⟨z3, y3⟩ := S.out.tl.tl.tl.hd
      obtain ⟨c3_0, c3_1, c3_2, c3_3, c3_4, c3_5, c3_6⟩ := cellsK7 y3
      clear y0 y1 y2 y3
      go_wp2_with fail
      refine (awake_any _).mono ?_
      rintro e w7 ⟨rfl, hb0⟩
      have S' := Lib.hid (S.out.bel hb0)
      clear hb0 S z0 c0_0 c0_1 z1 c1_0 c1_1 z2 c2_0 c2_1 z3 c3_0 c3_1 c3_2 c3_3 c3_4 c3_5 c3_6
      have S := S'
      clear S'
      obtain ⟨z0, y0⟩ := S.out.hd
      obtain ⟨c0_0, c0_1⟩ := cellsK2 y0
      obtain ⟨z1, y1⟩ := S.out.tl.hd
      obtain ⟨c1_0, c1_1⟩ := cellsK2 y1
      obtain ⟨z2, y2⟩ := S.out.tl.tl.hd
      obtain ⟨c2_0, c2_1⟩ := cellsK2 y2
      obtain ⟨z3, y3⟩ := S.out.tl.tl.tl.hd
      obtain ⟨c3_0, c3_1, c3_2, c3_3, c3_4, c3_5, c3_6⟩ := cellsK7 y3
      clear y0 y1 y2 y3
      go_wp2_with fail
      go_ret
      exact ⟨by first | rfl | (simp; omega), S.out.b⟩
    ·
      clear hp e0
      have S := Lib.hid ((Sg.start w).new (w.heap.size) (by simp) b.cells 26)
      go_enter Try.func7, Try.ntmps7
      go_wp2_with fail
      refine (few10 b _).mono ?_
      rw [qf]
      rintro e w1 ⟨rfl, hb0⟩
      have S' := Lib.hid (S.out.bel hb0)
      clear hb0 S
      have S := S'
      clear S'
      obtain ⟨z0, y0⟩ := S.out.hd
      obtain ⟨c0_0, c0_1, c0_2, c0_3, c0_4, c0_5, c0_6⟩ := cellsK7 y0
      clear y0
      go_wp2_with fail
      refine (charge12 b r _ (Hr.out.bel S.out.b)).mono ?_
      rw [HX.out.1, HX.out.2.1, HX.out.2.2]
      rintro e w2 ⟨rfl, hb0⟩
      have S' := Lib.hid ((S.out.bel hb0).new w2.heap.size rfl #[.int .i64 x, .int .i64 y] 24)
      clear hb0 S z0 c0_0 c0_1 c0_2 c0_3 c0_4 c0_5 c0_6
      have S := S'
      clear S'
      obtain ⟨z0, y0⟩ := S.out.hd
      obtain ⟨c0_0, c0_1⟩ := cellsK2 y0
      obtain ⟨z1, y1⟩ := S.out.tl.hd
      obtain ⟨c1_0, c1_1, c1_2, c1_3, c1_4, c1_5, c1_6⟩ := cellsK7 y1
      clear y0 y1
      go_wp2_with fail
      refine (interval21 x y _).mono ?_
      rintro e w3 ⟨rfl, hb0⟩
      have S' := Lib.hid (S.out.bel hb0)
      clear hb0 S z0 c0_0 c0_1 z1 c1_0 c1_1 c1_2 c1_3 c1_4 c1_5 c1_6
      have S := S'
      clear S'
      obtain ⟨z0, y0⟩ := S.out.hd
      obtain ⟨c0_0, c0_1⟩ := cellsK2 y0
      obtain ⟨z1, y1⟩ := S.out.tl.hd
      obtain ⟨c1_0, c1_1, c1_2, c1_3, c1_4, c1_5, c1_6⟩ := cellsK7 y1
      clear y0 y1
      go_wp2_with fail
      refine (check15 b _ (Hr.out.bel S.out.b)).mono ?_
      rw [HC.out]
      rintro e w4 ⟨rfl, hb0⟩
      have S' := Lib.hid (S.out.bel hb0)
      clear hb0 S z0 c0_0 c0_1 z1 c1_0 c1_1 c1_2 c1_3 c1_4 c1_5 c1_6
      have S := S'
      clear S'
      obtain ⟨z0, y0⟩ := S.out.hd
      obtain ⟨c0_0, c0_1⟩ := cellsK2 y0
      obtain ⟨z1, y1⟩ := S.out.tl.hd
      obtain ⟨c1_0, c1_1, c1_2, c1_3, c1_4, c1_5, c1_6⟩ := cellsK7 y1
      clear y0 y1
      go_wp2_with fail
      refine (charge12 b v _ (Hr.out.bel S.out.b)).mono ?_
      rw [HV.out.1, HV.out.2.1, HV.out.2.2]
      rintro e w5 ⟨rfl, hb0⟩
      have S' := Lib.hid ((S.out.bel hb0).new w5.heap.size rfl #[.int .i64 t0, .int .i64 t1] 24)
      clear hb0 S z0 c0_0 c0_1 z1 c1_0 c1_1 c1_2 c1_3 c1_4 c1_5 c1_6
      have S := S'
      clear S'
      obtain ⟨z0, y0⟩ := S.out.hd
      obtain ⟨c0_0, c0_1⟩ := cellsK2 y0
      obtain ⟨z1, y1⟩ := S.out.tl.hd
      obtain ⟨c1_0, c1_1⟩ := cellsK2 y1
      obtain ⟨z2, y2⟩ := S.out.tl.tl.hd
      obtain ⟨c2_0, c2_1, c2_2, c2_3, c2_4, c2_5, c2_6⟩ := cellsK7 y2
      clear y0 y1 y2
      go_wp2_with fail
      have S' := Lib.hid (S.out.alloc (.cells #[.slice b.A b.n b.c, .slice b.C b.m b.d, .int .i64 1000, .int .i64 b.il, .int .i64 b.ih, .int .i64 b.rl, .int .i64 b.rh] 26))
      clear S z0 c0_0 c0_1 z1 c1_0 c1_1 z2 c2_0 c2_1 c2_2 c2_3 c2_4 c2_5 c2_6
      have S := S'
      clear S'
      obtain ⟨z0, y0⟩ := S.out.hd
      obtain ⟨c0_0, c0_1⟩ := cellsK2 y0
      obtain ⟨z1, y1⟩ := S.out.tl.hd
      obtain ⟨c1_0, c1_1⟩ := cellsK2 y1
      obtain ⟨z2, y2⟩ := S.out.tl.tl.hd
      obtain ⟨c2_0, c2_1, c2_2, c2_3, c2_4, c2_5, c2_6⟩ := cellsK7 y2
      clear y0 y1 y2
      refine (charge12 (wideB b) r _ (Hr.out.bel S.out.b)).mono ?_
      rw [HW.out.1, HW.out.2.1, HW.out.2.2]
      rintro e w6 ⟨rfl, hb0⟩
      have S' := Lib.hid ((S.out.bel hb0).new w6.heap.size rfl #[.int .i64 wx, .int .i64 wy] 24)
      clear hb0 S z0 c0_0 c0_1 z1 c1_0 c1_1 z2 c2_0 c2_1 c2_2 c2_3 c2_4 c2_5 c2_6
      have S := S'
      clear S'
      obtain ⟨z0, y0⟩ := S.out.hd
      obtain ⟨c0_0, c0_1⟩ := cellsK2 y0
      obtain ⟨z1, y1⟩ := S.out.tl.hd
      obtain ⟨c1_0, c1_1⟩ := cellsK2 y1
      obtain ⟨z2, y2⟩ := S.out.tl.tl.hd
      obtain ⟨c2_0, c2_1⟩ := cellsK2 y2
      obtain ⟨z3, y3⟩ := S.out.tl.tl.tl.hd
      obtain ⟨c3_0, c3_1, c3_2, c3_3, c3_4, c3_5, c3_6⟩ := cellsK7 y3
      clear y0 y1 y2 y3
      go_wp2_with fail
      refine (awake_any _).mono ?_
      rintro e w7 ⟨rfl, hb0⟩
      have S' := Lib.hid (S.out.bel hb0)
      clear hb0 S z0 c0_0 c0_1 z1 c1_0 c1_1 z2 c2_0 c2_1 z3 c3_0 c3_1 c3_2 c3_3 c3_4 c3_5 c3_6
      have S := S'
      clear S'
      obtain ⟨z0, y0⟩ := S.out.hd
      obtain ⟨c0_0, c0_1⟩ := cellsK2 y0
      obtain ⟨z1, y1⟩ := S.out.tl.hd
      obtain ⟨c1_0, c1_1⟩ := cellsK2 y1
      obtain ⟨z2, y2⟩ := S.out.tl.tl.hd
      obtain ⟨c2_0, c2_1⟩ := cellsK2 y2
      obtain ⟨z3, y3⟩ := S.out.tl.tl.tl.hd
      obtain ⟨c3_0, c3_1, c3_2, c3_3, c3_4, c3_5, c3_6⟩ := cellsK7 y3
      clear y0 y1 y2 y3
      go_wp2_with fail
      go_ret
      exact ⟨by first | rfl | (simp; omega), S.out.b⟩
    ·
      have HK := Lib.hid (hp k1 k2)
      have Hzz := Lib.hid (Hz.out k1 k2)
      clear hp e0
      have S := Lib.hid ((Sg.start w).new (w.heap.size) (by simp) b.cells 26)
      go_enter Try.func7, Try.ntmps7
      go_wp2_with fail
      refine (few10 b _).mono ?_
      rw [qf]
      rintro e w1 ⟨rfl, hb0⟩
      have S' := Lib.hid (S.out.bel hb0)
      clear hb0 S
      have S := S'
      clear S'
      obtain ⟨z0, y0⟩ := S.out.hd
      obtain ⟨c0_0, c0_1, c0_2, c0_3, c0_4, c0_5, c0_6⟩ := cellsK7 y0
      clear y0
      go_wp2_with fail
      refine (charge12 b r _ (Hr.out.bel S.out.b)).mono ?_
      rw [HX.out.1, HX.out.2.1, HX.out.2.2]
      rintro e w2 ⟨rfl, hb0⟩
      have S' := Lib.hid ((S.out.bel hb0).new w2.heap.size rfl #[.int .i64 x, .int .i64 y] 24)
      clear hb0 S z0 c0_0 c0_1 c0_2 c0_3 c0_4 c0_5 c0_6
      have S := S'
      clear S'
      obtain ⟨z0, y0⟩ := S.out.hd
      obtain ⟨c0_0, c0_1⟩ := cellsK2 y0
      obtain ⟨z1, y1⟩ := S.out.tl.hd
      obtain ⟨c1_0, c1_1, c1_2, c1_3, c1_4, c1_5, c1_6⟩ := cellsK7 y1
      clear y0 y1
      go_wp2_with fail
      refine (interval21 x y _).mono ?_
      rintro e w3 ⟨rfl, hb0⟩
      have S' := Lib.hid (S.out.bel hb0)
      clear hb0 S z0 c0_0 c0_1 z1 c1_0 c1_1 c1_2 c1_3 c1_4 c1_5 c1_6
      have S := S'
      clear S'
      obtain ⟨z0, y0⟩ := S.out.hd
      obtain ⟨c0_0, c0_1⟩ := cellsK2 y0
      obtain ⟨z1, y1⟩ := S.out.tl.hd
      obtain ⟨c1_0, c1_1, c1_2, c1_3, c1_4, c1_5, c1_6⟩ := cellsK7 y1
      clear y0 y1
      go_wp2_with fail
      refine (check15 b _ (Hr.out.bel S.out.b)).mono ?_
      rw [HC.out]
      rintro e w4 ⟨rfl, hb0⟩
      have S' := Lib.hid (S.out.bel hb0)
      clear hb0 S z0 c0_0 c0_1 z1 c1_0 c1_1 c1_2 c1_3 c1_4 c1_5 c1_6
      have S := S'
      clear S'
      obtain ⟨z0, y0⟩ := S.out.hd
      obtain ⟨c0_0, c0_1⟩ := cellsK2 y0
      obtain ⟨z1, y1⟩ := S.out.tl.hd
      obtain ⟨c1_0, c1_1, c1_2, c1_3, c1_4, c1_5, c1_6⟩ := cellsK7 y1
      clear y0 y1
      go_wp2_with fail
      refine (charge12 b v _ (Hr.out.bel S.out.b)).mono ?_
      rw [HV.out.1, HV.out.2.1, HV.out.2.2]
      rintro e w5 ⟨rfl, hb0⟩
      have S' := Lib.hid ((S.out.bel hb0).new w5.heap.size rfl #[.int .i64 t0, .int .i64 t1] 24)
      clear hb0 S z0 c0_0 c0_1 z1 c1_0 c1_1 c1_2 c1_3 c1_4 c1_5 c1_6
      have S := S'
      clear S'
      obtain ⟨z0, y0⟩ := S.out.hd
      obtain ⟨c0_0, c0_1⟩ := cellsK2 y0
      obtain ⟨z1, y1⟩ := S.out.tl.hd
      obtain ⟨c1_0, c1_1⟩ := cellsK2 y1
      obtain ⟨z2, y2⟩ := S.out.tl.tl.hd
      obtain ⟨c2_0, c2_1, c2_2, c2_3, c2_4, c2_5, c2_6⟩ := cellsK7 y2
      clear y0 y1 y2
      go_wp2_with fail
      have S' := Lib.hid (S.out.alloc (.cells #[.slice b.A b.n b.c, .slice b.C b.m b.d, .int .i64 1000, .int .i64 b.il, .int .i64 b.ih, .int .i64 b.rl, .int .i64 b.rh] 26))
      clear S z0 c0_0 c0_1 z1 c1_0 c1_1 z2 c2_0 c2_1 c2_2 c2_3 c2_4 c2_5 c2_6
      have S := S'
      clear S'
      obtain ⟨z0, y0⟩ := S.out.hd
      obtain ⟨c0_0, c0_1⟩ := cellsK2 y0
      obtain ⟨z1, y1⟩ := S.out.tl.hd
      obtain ⟨c1_0, c1_1⟩ := cellsK2 y1
      obtain ⟨z2, y2⟩ := S.out.tl.tl.hd
      obtain ⟨c2_0, c2_1, c2_2, c2_3, c2_4, c2_5, c2_6⟩ := cellsK7 y2
      clear y0 y1 y2
      refine (charge12 (wideB b) r _ (Hr.out.bel S.out.b)).mono ?_
      rw [HW.out.1, HW.out.2.1, HW.out.2.2]
      rintro e w6 ⟨rfl, hb0⟩
      have S' := Lib.hid ((S.out.bel hb0).new w6.heap.size rfl #[.int .i64 wx, .int .i64 wy] 24)
      clear hb0 S z0 c0_0 c0_1 z1 c1_0 c1_1 z2 c2_0 c2_1 c2_2 c2_3 c2_4 c2_5 c2_6
      have S := S'
      clear S'
      obtain ⟨z0, y0⟩ := S.out.hd
      obtain ⟨c0_0, c0_1⟩ := cellsK2 y0
      obtain ⟨z1, y1⟩ := S.out.tl.hd
      obtain ⟨c1_0, c1_1⟩ := cellsK2 y1
      obtain ⟨z2, y2⟩ := S.out.tl.tl.hd
      obtain ⟨c2_0, c2_1⟩ := cellsK2 y2
      obtain ⟨z3, y3⟩ := S.out.tl.tl.tl.hd
      obtain ⟨c3_0, c3_1, c3_2, c3_3, c3_4, c3_5, c3_6⟩ := cellsK7 y3
      clear y0 y1 y2 y3
      go_wp2_with fail
      refine (at24 b v _ (Hr.out.bel S.out.b) Hok.out Hzz.out.1 Hzz.out.2).mono ?_
      rw [HP.out.1, HP.out.2]
      rintro e w7 ⟨rfl, hb0⟩
      have S' := Lib.hid (S.out.bel hb0)
      clear hb0 S z0 c0_0 c0_1 z1 c1_0 c1_1 z2 c2_0 c2_1 z3 c3_0 c3_1 c3_2 c3_3 c3_4 c3_5 c3_6
      have S := S'
      clear S'
      obtain ⟨z0, y0⟩ := S.out.hd
      obtain ⟨c0_0, c0_1⟩ := cellsK2 y0
      obtain ⟨z1, y1⟩ := S.out.tl.hd
      obtain ⟨c1_0, c1_1⟩ := cellsK2 y1
      obtain ⟨z2, y2⟩ := S.out.tl.tl.hd
      obtain ⟨c2_0, c2_1⟩ := cellsK2 y2
      obtain ⟨z3, y3⟩ := S.out.tl.tl.tl.hd
      obtain ⟨c3_0, c3_1, c3_2, c3_3, c3_4, c3_5, c3_6⟩ := cellsK7 y3
      clear y0 y1 y2 y3
      obtain ⟨k3, k4⟩ := HK.out
      go_wp2_with fail
      refine (awake_any _).mono ?_
      rintro e w8 ⟨rfl, hb0⟩
      have S' := Lib.hid (S.out.bel hb0)
      clear hb0 S z0 c0_0 c0_1 z1 c1_0 c1_1 z2 c2_0 c2_1 z3 c3_0 c3_1 c3_2 c3_3 c3_4 c3_5 c3_6
      have S := S'
      clear S'
      obtain ⟨z0, y0⟩ := S.out.hd
      obtain ⟨c0_0, c0_1⟩ := cellsK2 y0
      obtain ⟨z1, y1⟩ := S.out.tl.hd
      obtain ⟨c1_0, c1_1⟩ := cellsK2 y1
      obtain ⟨z2, y2⟩ := S.out.tl.tl.hd
      obtain ⟨c2_0, c2_1⟩ := cellsK2 y2
      obtain ⟨z3, y3⟩ := S.out.tl.tl.tl.hd
      obtain ⟨c3_0, c3_1, c3_2, c3_3, c3_4, c3_5, c3_6⟩ := cellsK7 y3
      clear y0 y1 y2 y3
      go_wp2_with fail
      go_ret
      exact ⟨by first | rfl | (simp; omega), S.out.b⟩
  ·
    have qE : (E == 0) = true := by simpa using h1
    clear h1
    rcases hcv with k1 | ⟨k1, k2⟩ | ⟨k1, k2⟩
    ·
      clear hp e0
      have S := Lib.hid ((Sg.start w).new (w.heap.size) (by simp) b.cells 26)
      go_enter Try.func7, Try.ntmps7
      go_wp2_with fail
      refine (few10 b _).mono ?_
      rw [qf]
      rintro e w1 ⟨rfl, hb0⟩
      have S' := Lib.hid (S.out.bel hb0)
      clear hb0 S
      have S := S'
      clear S'
      obtain ⟨z0, y0⟩ := S.out.hd
      obtain ⟨c0_0, c0_1, c0_2, c0_3, c0_4, c0_5, c0_6⟩ := cellsK7 y0
      clear y0
      go_wp2_with fail
      refine (charge12 b r _ (Hr.out.bel S.out.b)).mono ?_
      rw [HX.out.1, HX.out.2.1, HX.out.2.2]
      rintro e w2 ⟨rfl, hb0⟩
      have S' := Lib.hid ((S.out.bel hb0).new w2.heap.size rfl #[.int .i64 x, .int .i64 y] 24)
      clear hb0 S z0 c0_0 c0_1 c0_2 c0_3 c0_4 c0_5 c0_6
      have S := S'
      clear S'
      obtain ⟨z0, y0⟩ := S.out.hd
      obtain ⟨c0_0, c0_1⟩ := cellsK2 y0
      obtain ⟨z1, y1⟩ := S.out.tl.hd
      obtain ⟨c1_0, c1_1, c1_2, c1_3, c1_4, c1_5, c1_6⟩ := cellsK7 y1
      clear y0 y1
      go_wp2_with fail
      refine (interval21 x y _).mono ?_
      rintro e w3 ⟨rfl, hb0⟩
      have S' := Lib.hid (S.out.bel hb0)
      clear hb0 S z0 c0_0 c0_1 z1 c1_0 c1_1 c1_2 c1_3 c1_4 c1_5 c1_6
      have S := S'
      clear S'
      obtain ⟨z0, y0⟩ := S.out.hd
      obtain ⟨c0_0, c0_1⟩ := cellsK2 y0
      obtain ⟨z1, y1⟩ := S.out.tl.hd
      obtain ⟨c1_0, c1_1, c1_2, c1_3, c1_4, c1_5, c1_6⟩ := cellsK7 y1
      clear y0 y1
      go_wp2_with fail
      refine (check15 b _ (Hr.out.bel S.out.b)).mono ?_
      rw [HC.out]
      rintro e w4 ⟨rfl, hb0⟩
      have S' := Lib.hid (S.out.bel hb0)
      clear hb0 S z0 c0_0 c0_1 z1 c1_0 c1_1 c1_2 c1_3 c1_4 c1_5 c1_6
      have S := S'
      clear S'
      obtain ⟨z0, y0⟩ := S.out.hd
      obtain ⟨c0_0, c0_1⟩ := cellsK2 y0
      obtain ⟨z1, y1⟩ := S.out.tl.hd
      obtain ⟨c1_0, c1_1, c1_2, c1_3, c1_4, c1_5, c1_6⟩ := cellsK7 y1
      clear y0 y1
      go_wp2_with fail
      refine (charge12 b v _ (Hr.out.bel S.out.b)).mono ?_
      rw [HV.out.1, HV.out.2.1, HV.out.2.2]
      rintro e w5 ⟨rfl, hb0⟩
      have S' := Lib.hid ((S.out.bel hb0).new w5.heap.size rfl #[.int .i64 t0, .int .i64 t1] 24)
      clear hb0 S z0 c0_0 c0_1 z1 c1_0 c1_1 c1_2 c1_3 c1_4 c1_5 c1_6
      have S := S'
      clear S'
      obtain ⟨z0, y0⟩ := S.out.hd
      obtain ⟨c0_0, c0_1⟩ := cellsK2 y0
      obtain ⟨z1, y1⟩ := S.out.tl.hd
      obtain ⟨c1_0, c1_1⟩ := cellsK2 y1
      obtain ⟨z2, y2⟩ := S.out.tl.tl.hd
      obtain ⟨c2_0, c2_1, c2_2, c2_3, c2_4, c2_5, c2_6⟩ := cellsK7 y2
      clear y0 y1 y2
      go_wp2_with fail
      have S' := Lib.hid (S.out.alloc (.cells #[.slice b.A b.n b.c, .slice b.C b.m b.d, .int .i64 1000, .int .i64 b.il, .int .i64 b.ih, .int .i64 b.rl, .int .i64 b.rh] 26))
      clear S z0 c0_0 c0_1 z1 c1_0 c1_1 z2 c2_0 c2_1 c2_2 c2_3 c2_4 c2_5 c2_6
      have S := S'
      clear S'
      obtain ⟨z0, y0⟩ := S.out.hd
      obtain ⟨c0_0, c0_1⟩ := cellsK2 y0
      obtain ⟨z1, y1⟩ := S.out.tl.hd
      obtain ⟨c1_0, c1_1⟩ := cellsK2 y1
      obtain ⟨z2, y2⟩ := S.out.tl.tl.hd
      obtain ⟨c2_0, c2_1, c2_2, c2_3, c2_4, c2_5, c2_6⟩ := cellsK7 y2
      clear y0 y1 y2
      refine (charge12 (wideB b) r _ (Hr.out.bel S.out.b)).mono ?_
      rw [HW.out.1, HW.out.2.1, HW.out.2.2]
      rintro e w6 ⟨rfl, hb0⟩
      have S' := Lib.hid ((S.out.bel hb0).new w6.heap.size rfl #[.int .i64 wx, .int .i64 wy] 24)
      clear hb0 S z0 c0_0 c0_1 z1 c1_0 c1_1 z2 c2_0 c2_1 c2_2 c2_3 c2_4 c2_5 c2_6
      have S := S'
      clear S'
      obtain ⟨z0, y0⟩ := S.out.hd
      obtain ⟨c0_0, c0_1⟩ := cellsK2 y0
      obtain ⟨z1, y1⟩ := S.out.tl.hd
      obtain ⟨c1_0, c1_1⟩ := cellsK2 y1
      obtain ⟨z2, y2⟩ := S.out.tl.tl.hd
      obtain ⟨c2_0, c2_1⟩ := cellsK2 y2
      obtain ⟨z3, y3⟩ := S.out.tl.tl.tl.hd
      obtain ⟨c3_0, c3_1, c3_2, c3_3, c3_4, c3_5, c3_6⟩ := cellsK7 y3
      clear y0 y1 y2 y3
      go_wp2_with fail
      refine (awake_any _).mono ?_
      rintro e w7 ⟨rfl, hb0⟩
      have S' := Lib.hid (S.out.bel hb0)
      clear hb0 S z0 c0_0 c0_1 z1 c1_0 c1_1 z2 c2_0 c2_1 z3 c3_0 c3_1 c3_2 c3_3 c3_4 c3_5 c3_6
      have S := S'
      clear S'
      obtain ⟨z0, y0⟩ := S.out.hd
      obtain ⟨c0_0, c0_1⟩ := cellsK2 y0
      obtain ⟨z1, y1⟩ := S.out.tl.hd
      obtain ⟨c1_0, c1_1⟩ := cellsK2 y1
      obtain ⟨z2, y2⟩ := S.out.tl.tl.hd
      obtain ⟨c2_0, c2_1⟩ := cellsK2 y2
      obtain ⟨z3, y3⟩ := S.out.tl.tl.tl.hd
      obtain ⟨c3_0, c3_1, c3_2, c3_3, c3_4, c3_5, c3_6⟩ := cellsK7 y3
      clear y0 y1 y2 y3
      go_wp2_with fail
      go_ret
      exact ⟨by first | rfl | (simp; omega), S.out.b⟩
    ·
      exfalso; omega
    ·
      have HK := Lib.hid (hp k1 k2)
      have Hzz := Lib.hid (Hz.out k1 k2)
      clear hp e0
      have S := Lib.hid ((Sg.start w).new (w.heap.size) (by simp) b.cells 26)
      go_enter Try.func7, Try.ntmps7
      go_wp2_with fail
      refine (few10 b _).mono ?_
      rw [qf]
      rintro e w1 ⟨rfl, hb0⟩
      have S' := Lib.hid (S.out.bel hb0)
      clear hb0 S
      have S := S'
      clear S'
      obtain ⟨z0, y0⟩ := S.out.hd
      obtain ⟨c0_0, c0_1, c0_2, c0_3, c0_4, c0_5, c0_6⟩ := cellsK7 y0
      clear y0
      go_wp2_with fail
      refine (charge12 b r _ (Hr.out.bel S.out.b)).mono ?_
      rw [HX.out.1, HX.out.2.1, HX.out.2.2]
      rintro e w2 ⟨rfl, hb0⟩
      have S' := Lib.hid ((S.out.bel hb0).new w2.heap.size rfl #[.int .i64 x, .int .i64 y] 24)
      clear hb0 S z0 c0_0 c0_1 c0_2 c0_3 c0_4 c0_5 c0_6
      have S := S'
      clear S'
      obtain ⟨z0, y0⟩ := S.out.hd
      obtain ⟨c0_0, c0_1⟩ := cellsK2 y0
      obtain ⟨z1, y1⟩ := S.out.tl.hd
      obtain ⟨c1_0, c1_1, c1_2, c1_3, c1_4, c1_5, c1_6⟩ := cellsK7 y1
      clear y0 y1
      go_wp2_with fail
      refine (interval21 x y _).mono ?_
      rintro e w3 ⟨rfl, hb0⟩
      have S' := Lib.hid (S.out.bel hb0)
      clear hb0 S z0 c0_0 c0_1 z1 c1_0 c1_1 c1_2 c1_3 c1_4 c1_5 c1_6
      have S := S'
      clear S'
      obtain ⟨z0, y0⟩ := S.out.hd
      obtain ⟨c0_0, c0_1⟩ := cellsK2 y0
      obtain ⟨z1, y1⟩ := S.out.tl.hd
      obtain ⟨c1_0, c1_1, c1_2, c1_3, c1_4, c1_5, c1_6⟩ := cellsK7 y1
      clear y0 y1
      go_wp2_with fail
      refine (check15 b _ (Hr.out.bel S.out.b)).mono ?_
      rw [HC.out]
      rintro e w4 ⟨rfl, hb0⟩
      have S' := Lib.hid (S.out.bel hb0)
      clear hb0 S z0 c0_0 c0_1 z1 c1_0 c1_1 c1_2 c1_3 c1_4 c1_5 c1_6
      have S := S'
      clear S'
      obtain ⟨z0, y0⟩ := S.out.hd
      obtain ⟨c0_0, c0_1⟩ := cellsK2 y0
      obtain ⟨z1, y1⟩ := S.out.tl.hd
      obtain ⟨c1_0, c1_1, c1_2, c1_3, c1_4, c1_5, c1_6⟩ := cellsK7 y1
      clear y0 y1
      go_wp2_with fail
      refine (charge12 b v _ (Hr.out.bel S.out.b)).mono ?_
      rw [HV.out.1, HV.out.2.1, HV.out.2.2]
      rintro e w5 ⟨rfl, hb0⟩
      have S' := Lib.hid ((S.out.bel hb0).new w5.heap.size rfl #[.int .i64 t0, .int .i64 t1] 24)
      clear hb0 S z0 c0_0 c0_1 z1 c1_0 c1_1 c1_2 c1_3 c1_4 c1_5 c1_6
      have S := S'
      clear S'
      obtain ⟨z0, y0⟩ := S.out.hd
      obtain ⟨c0_0, c0_1⟩ := cellsK2 y0
      obtain ⟨z1, y1⟩ := S.out.tl.hd
      obtain ⟨c1_0, c1_1⟩ := cellsK2 y1
      obtain ⟨z2, y2⟩ := S.out.tl.tl.hd
      obtain ⟨c2_0, c2_1, c2_2, c2_3, c2_4, c2_5, c2_6⟩ := cellsK7 y2
      clear y0 y1 y2
      go_wp2_with fail
      have S' := Lib.hid (S.out.alloc (.cells #[.slice b.A b.n b.c, .slice b.C b.m b.d, .int .i64 1000, .int .i64 b.il, .int .i64 b.ih, .int .i64 b.rl, .int .i64 b.rh] 26))
      clear S z0 c0_0 c0_1 z1 c1_0 c1_1 z2 c2_0 c2_1 c2_2 c2_3 c2_4 c2_5 c2_6
      have S := S'
      clear S'
      obtain ⟨z0, y0⟩ := S.out.hd
      obtain ⟨c0_0, c0_1⟩ := cellsK2 y0
      obtain ⟨z1, y1⟩ := S.out.tl.hd
      obtain ⟨c1_0, c1_1⟩ := cellsK2 y1
      obtain ⟨z2, y2⟩ := S.out.tl.tl.hd
      obtain ⟨c2_0, c2_1, c2_2, c2_3, c2_4, c2_5, c2_6⟩ := cellsK7 y2
      clear y0 y1 y2
      refine (charge12 (wideB b) r _ (Hr.out.bel S.out.b)).mono ?_
      rw [HW.out.1, HW.out.2.1, HW.out.2.2]
      rintro e w6 ⟨rfl, hb0⟩
      have S' := Lib.hid ((S.out.bel hb0).new w6.heap.size rfl #[.int .i64 wx, .int .i64 wy] 24)
      clear hb0 S z0 c0_0 c0_1 z1 c1_0 c1_1 z2 c2_0 c2_1 c2_2 c2_3 c2_4 c2_5 c2_6
      have S := S'
      clear S'
      obtain ⟨z0, y0⟩ := S.out.hd
      obtain ⟨c0_0, c0_1⟩ := cellsK2 y0
      obtain ⟨z1, y1⟩ := S.out.tl.hd
      obtain ⟨c1_0, c1_1⟩ := cellsK2 y1
      obtain ⟨z2, y2⟩ := S.out.tl.tl.hd
      obtain ⟨c2_0, c2_1⟩ := cellsK2 y2
      obtain ⟨z3, y3⟩ := S.out.tl.tl.tl.hd
      obtain ⟨c3_0, c3_1, c3_2, c3_3, c3_4, c3_5, c3_6⟩ := cellsK7 y3
      clear y0 y1 y2 y3
      go_wp2_with fail
      refine (at24 b v _ (Hr.out.bel S.out.b) Hok.out Hzz.out.1 Hzz.out.2).mono ?_
      rw [HP.out.1, HP.out.2]
      rintro e w7 ⟨rfl, hb0⟩
      have S' := Lib.hid (S.out.bel hb0)
      clear hb0 S z0 c0_0 c0_1 z1 c1_0 c1_1 z2 c2_0 c2_1 z3 c3_0 c3_1 c3_2 c3_3 c3_4 c3_5 c3_6
      have S := S'
      clear S'
      obtain ⟨z0, y0⟩ := S.out.hd
      obtain ⟨c0_0, c0_1⟩ := cellsK2 y0
      obtain ⟨z1, y1⟩ := S.out.tl.hd
      obtain ⟨c1_0, c1_1⟩ := cellsK2 y1
      obtain ⟨z2, y2⟩ := S.out.tl.tl.hd
      obtain ⟨c2_0, c2_1⟩ := cellsK2 y2
      obtain ⟨z3, y3⟩ := S.out.tl.tl.tl.hd
      obtain ⟨c3_0, c3_1, c3_2, c3_3, c3_4, c3_5, c3_6⟩ := cellsK7 y3
      clear y0 y1 y2 y3
      obtain ⟨k3, k4⟩ := HK.out
      go_wp2_with fail
      refine (awake_any _).mono ?_
      rintro e w8 ⟨rfl, hb0⟩
      have S' := Lib.hid (S.out.bel hb0)
      clear hb0 S z0 c0_0 c0_1 z1 c1_0 c1_1 z2 c2_0 c2_1 z3 c3_0 c3_1 c3_2 c3_3 c3_4 c3_5 c3_6
      have S := S'
      clear S'
      obtain ⟨z0, y0⟩ := S.out.hd
      obtain ⟨c0_0, c0_1⟩ := cellsK2 y0
      obtain ⟨z1, y1⟩ := S.out.tl.hd
      obtain ⟨c1_0, c1_1⟩ := cellsK2 y1
      obtain ⟨z2, y2⟩ := S.out.tl.tl.hd
      obtain ⟨c2_0, c2_1⟩ := cellsK2 y2
      obtain ⟨z3, y3⟩ := S.out.tl.tl.tl.hd
      obtain ⟨c3_0, c3_1, c3_2, c3_3, c3_4, c3_5, c3_6⟩ := cellsK7 y3
      clear y0 y1 y2 y3
      go_wp2_with fail
      go_ret
      exact ⟨by first | rfl | (simp; omega), S.out.b⟩
  ·
    have qE : (E == 0) = true := by simpa using h1
    clear h1
    rcases hcv with k1 | ⟨k1, k2⟩ | ⟨k1, k2⟩
    ·
      clear hp e0
      have S := Lib.hid ((Sg.start w).new (w.heap.size) (by simp) b.cells 26)
      go_enter Try.func7, Try.ntmps7
      go_wp2_with fail
      refine (few10 b _).mono ?_
      rw [qf]
      rintro e w1 ⟨rfl, hb0⟩
      have S' := Lib.hid (S.out.bel hb0)
      clear hb0 S
      have S := S'
      clear S'
      obtain ⟨z0, y0⟩ := S.out.hd
      obtain ⟨c0_0, c0_1, c0_2, c0_3, c0_4, c0_5, c0_6⟩ := cellsK7 y0
      clear y0
      go_wp2_with fail
      refine (charge12 b r _ (Hr.out.bel S.out.b)).mono ?_
      rw [HX.out.1, HX.out.2.1, HX.out.2.2]
      rintro e w2 ⟨rfl, hb0⟩
      have S' := Lib.hid ((S.out.bel hb0).new w2.heap.size rfl #[.int .i64 x, .int .i64 y] 24)
      clear hb0 S z0 c0_0 c0_1 c0_2 c0_3 c0_4 c0_5 c0_6
      have S := S'
      clear S'
      obtain ⟨z0, y0⟩ := S.out.hd
      obtain ⟨c0_0, c0_1⟩ := cellsK2 y0
      obtain ⟨z1, y1⟩ := S.out.tl.hd
      obtain ⟨c1_0, c1_1, c1_2, c1_3, c1_4, c1_5, c1_6⟩ := cellsK7 y1
      clear y0 y1
      go_wp2_with fail
      refine (interval21 x y _).mono ?_
      rintro e w3 ⟨rfl, hb0⟩
      have S' := Lib.hid (S.out.bel hb0)
      clear hb0 S z0 c0_0 c0_1 z1 c1_0 c1_1 c1_2 c1_3 c1_4 c1_5 c1_6
      have S := S'
      clear S'
      obtain ⟨z0, y0⟩ := S.out.hd
      obtain ⟨c0_0, c0_1⟩ := cellsK2 y0
      obtain ⟨z1, y1⟩ := S.out.tl.hd
      obtain ⟨c1_0, c1_1, c1_2, c1_3, c1_4, c1_5, c1_6⟩ := cellsK7 y1
      clear y0 y1
      go_wp2_with fail
      refine (check15 b _ (Hr.out.bel S.out.b)).mono ?_
      rw [HC.out]
      rintro e w4 ⟨rfl, hb0⟩
      have S' := Lib.hid (S.out.bel hb0)
      clear hb0 S z0 c0_0 c0_1 z1 c1_0 c1_1 c1_2 c1_3 c1_4 c1_5 c1_6
      have S := S'
      clear S'
      obtain ⟨z0, y0⟩ := S.out.hd
      obtain ⟨c0_0, c0_1⟩ := cellsK2 y0
      obtain ⟨z1, y1⟩ := S.out.tl.hd
      obtain ⟨c1_0, c1_1, c1_2, c1_3, c1_4, c1_5, c1_6⟩ := cellsK7 y1
      clear y0 y1
      go_wp2_with fail
      refine (charge12 b v _ (Hr.out.bel S.out.b)).mono ?_
      rw [HV.out.1, HV.out.2.1, HV.out.2.2]
      rintro e w5 ⟨rfl, hb0⟩
      have S' := Lib.hid ((S.out.bel hb0).new w5.heap.size rfl #[.int .i64 t0, .int .i64 t1] 24)
      clear hb0 S z0 c0_0 c0_1 z1 c1_0 c1_1 c1_2 c1_3 c1_4 c1_5 c1_6
      have S := S'
      clear S'
      obtain ⟨z0, y0⟩ := S.out.hd
      obtain ⟨c0_0, c0_1⟩ := cellsK2 y0
      obtain ⟨z1, y1⟩ := S.out.tl.hd
      obtain ⟨c1_0, c1_1⟩ := cellsK2 y1
      obtain ⟨z2, y2⟩ := S.out.tl.tl.hd
      obtain ⟨c2_0, c2_1, c2_2, c2_3, c2_4, c2_5, c2_6⟩ := cellsK7 y2
      clear y0 y1 y2
      go_wp2_with fail
      have S' := Lib.hid (S.out.alloc (.cells #[.slice b.A b.n b.c, .slice b.C b.m b.d, .int .i64 1000, .int .i64 b.il, .int .i64 b.ih, .int .i64 b.rl, .int .i64 b.rh] 26))
      clear S z0 c0_0 c0_1 z1 c1_0 c1_1 z2 c2_0 c2_1 c2_2 c2_3 c2_4 c2_5 c2_6
      have S := S'
      clear S'
      obtain ⟨z0, y0⟩ := S.out.hd
      obtain ⟨c0_0, c0_1⟩ := cellsK2 y0
      obtain ⟨z1, y1⟩ := S.out.tl.hd
      obtain ⟨c1_0, c1_1⟩ := cellsK2 y1
      obtain ⟨z2, y2⟩ := S.out.tl.tl.hd
      obtain ⟨c2_0, c2_1, c2_2, c2_3, c2_4, c2_5, c2_6⟩ := cellsK7 y2
      clear y0 y1 y2
      refine (charge12 (wideB b) r _ (Hr.out.bel S.out.b)).mono ?_
      rw [HW.out.1, HW.out.2.1, HW.out.2.2]
      rintro e w6 ⟨rfl, hb0⟩
      have S' := Lib.hid ((S.out.bel hb0).new w6.heap.size rfl #[.int .i64 wx, .int .i64 wy] 24)
      clear hb0 S z0 c0_0 c0_1 z1 c1_0 c1_1 z2 c2_0 c2_1 c2_2 c2_3 c2_4 c2_5 c2_6
      have S := S'
      clear S'
      obtain ⟨z0, y0⟩ := S.out.hd
      obtain ⟨c0_0, c0_1⟩ := cellsK2 y0
      obtain ⟨z1, y1⟩ := S.out.tl.hd
      obtain ⟨c1_0, c1_1⟩ := cellsK2 y1
      obtain ⟨z2, y2⟩ := S.out.tl.tl.hd
      obtain ⟨c2_0, c2_1⟩ := cellsK2 y2
      obtain ⟨z3, y3⟩ := S.out.tl.tl.tl.hd
      obtain ⟨c3_0, c3_1, c3_2, c3_3, c3_4, c3_5, c3_6⟩ := cellsK7 y3
      clear y0 y1 y2 y3
      go_wp2_with fail
      refine (awake_any _).mono ?_
      rintro e w7 ⟨rfl, hb0⟩
      have S' := Lib.hid (S.out.bel hb0)
      clear hb0 S z0 c0_0 c0_1 z1 c1_0 c1_1 z2 c2_0 c2_1 z3 c3_0 c3_1 c3_2 c3_3 c3_4 c3_5 c3_6
      have S := S'
      clear S'
      obtain ⟨z0, y0⟩ := S.out.hd
      obtain ⟨c0_0, c0_1⟩ := cellsK2 y0
      obtain ⟨z1, y1⟩ := S.out.tl.hd
      obtain ⟨c1_0, c1_1⟩ := cellsK2 y1
      obtain ⟨z2, y2⟩ := S.out.tl.tl.hd
      obtain ⟨c2_0, c2_1⟩ := cellsK2 y2
      obtain ⟨z3, y3⟩ := S.out.tl.tl.tl.hd
      obtain ⟨c3_0, c3_1, c3_2, c3_3, c3_4, c3_5, c3_6⟩ := cellsK7 y3
      clear y0 y1 y2 y3
      go_wp2_with fail
      go_ret
      exact ⟨by first | rfl | (simp; omega), S.out.b⟩
    ·
      clear hp e0
      have S := Lib.hid ((Sg.start w).new (w.heap.size) (by simp) b.cells 26)
      go_enter Try.func7, Try.ntmps7
      go_wp2_with fail
      refine (few10 b _).mono ?_
      rw [qf]
      rintro e w1 ⟨rfl, hb0⟩
      have S' := Lib.hid (S.out.bel hb0)
      clear hb0 S
      have S := S'
      clear S'
      obtain ⟨z0, y0⟩ := S.out.hd
      obtain ⟨c0_0, c0_1, c0_2, c0_3, c0_4, c0_5, c0_6⟩ := cellsK7 y0
      clear y0
      go_wp2_with fail
      refine (charge12 b r _ (Hr.out.bel S.out.b)).mono ?_
      rw [HX.out.1, HX.out.2.1, HX.out.2.2]
      rintro e w2 ⟨rfl, hb0⟩
      have S' := Lib.hid ((S.out.bel hb0).new w2.heap.size rfl #[.int .i64 x, .int .i64 y] 24)
      clear hb0 S z0 c0_0 c0_1 c0_2 c0_3 c0_4 c0_5 c0_6
      have S := S'
      clear S'
      obtain ⟨z0, y0⟩ := S.out.hd
      obtain ⟨c0_0, c0_1⟩ := cellsK2 y0
      obtain ⟨z1, y1⟩ := S.out.tl.hd
      obtain ⟨c1_0, c1_1, c1_2, c1_3, c1_4, c1_5, c1_6⟩ := cellsK7 y1
      clear y0 y1
      go_wp2_with fail
      refine (interval21 x y _).mono ?_
      rintro e w3 ⟨rfl, hb0⟩
      have S' := Lib.hid (S.out.bel hb0)
      clear hb0 S z0 c0_0 c0_1 z1 c1_0 c1_1 c1_2 c1_3 c1_4 c1_5 c1_6
      have S := S'
      clear S'
      obtain ⟨z0, y0⟩ := S.out.hd
      obtain ⟨c0_0, c0_1⟩ := cellsK2 y0
      obtain ⟨z1, y1⟩ := S.out.tl.hd
      obtain ⟨c1_0, c1_1, c1_2, c1_3, c1_4, c1_5, c1_6⟩ := cellsK7 y1
      clear y0 y1
      go_wp2_with fail
      refine (check15 b _ (Hr.out.bel S.out.b)).mono ?_
      rw [HC.out]
      rintro e w4 ⟨rfl, hb0⟩
      have S' := Lib.hid (S.out.bel hb0)
      clear hb0 S z0 c0_0 c0_1 z1 c1_0 c1_1 c1_2 c1_3 c1_4 c1_5 c1_6
      have S := S'
      clear S'
      obtain ⟨z0, y0⟩ := S.out.hd
      obtain ⟨c0_0, c0_1⟩ := cellsK2 y0
      obtain ⟨z1, y1⟩ := S.out.tl.hd
      obtain ⟨c1_0, c1_1, c1_2, c1_3, c1_4, c1_5, c1_6⟩ := cellsK7 y1
      clear y0 y1
      go_wp2_with fail
      refine (charge12 b v _ (Hr.out.bel S.out.b)).mono ?_
      rw [HV.out.1, HV.out.2.1, HV.out.2.2]
      rintro e w5 ⟨rfl, hb0⟩
      have S' := Lib.hid ((S.out.bel hb0).new w5.heap.size rfl #[.int .i64 t0, .int .i64 t1] 24)
      clear hb0 S z0 c0_0 c0_1 z1 c1_0 c1_1 c1_2 c1_3 c1_4 c1_5 c1_6
      have S := S'
      clear S'
      obtain ⟨z0, y0⟩ := S.out.hd
      obtain ⟨c0_0, c0_1⟩ := cellsK2 y0
      obtain ⟨z1, y1⟩ := S.out.tl.hd
      obtain ⟨c1_0, c1_1⟩ := cellsK2 y1
      obtain ⟨z2, y2⟩ := S.out.tl.tl.hd
      obtain ⟨c2_0, c2_1, c2_2, c2_3, c2_4, c2_5, c2_6⟩ := cellsK7 y2
      clear y0 y1 y2
      go_wp2_with fail
      have S' := Lib.hid (S.out.alloc (.cells #[.slice b.A b.n b.c, .slice b.C b.m b.d, .int .i64 1000, .int .i64 b.il, .int .i64 b.ih, .int .i64 b.rl, .int .i64 b.rh] 26))
      clear S z0 c0_0 c0_1 z1 c1_0 c1_1 z2 c2_0 c2_1 c2_2 c2_3 c2_4 c2_5 c2_6
      have S := S'
      clear S'
      obtain ⟨z0, y0⟩ := S.out.hd
      obtain ⟨c0_0, c0_1⟩ := cellsK2 y0
      obtain ⟨z1, y1⟩ := S.out.tl.hd
      obtain ⟨c1_0, c1_1⟩ := cellsK2 y1
      obtain ⟨z2, y2⟩ := S.out.tl.tl.hd
      obtain ⟨c2_0, c2_1, c2_2, c2_3, c2_4, c2_5, c2_6⟩ := cellsK7 y2
      clear y0 y1 y2
      refine (charge12 (wideB b) r _ (Hr.out.bel S.out.b)).mono ?_
      rw [HW.out.1, HW.out.2.1, HW.out.2.2]
      rintro e w6 ⟨rfl, hb0⟩
      have S' := Lib.hid ((S.out.bel hb0).new w6.heap.size rfl #[.int .i64 wx, .int .i64 wy] 24)
      clear hb0 S z0 c0_0 c0_1 z1 c1_0 c1_1 z2 c2_0 c2_1 c2_2 c2_3 c2_4 c2_5 c2_6
      have S := S'
      clear S'
      obtain ⟨z0, y0⟩ := S.out.hd
      obtain ⟨c0_0, c0_1⟩ := cellsK2 y0
      obtain ⟨z1, y1⟩ := S.out.tl.hd
      obtain ⟨c1_0, c1_1⟩ := cellsK2 y1
      obtain ⟨z2, y2⟩ := S.out.tl.tl.hd
      obtain ⟨c2_0, c2_1⟩ := cellsK2 y2
      obtain ⟨z3, y3⟩ := S.out.tl.tl.tl.hd
      obtain ⟨c3_0, c3_1, c3_2, c3_3, c3_4, c3_5, c3_6⟩ := cellsK7 y3
      clear y0 y1 y2 y3
      go_wp2_with fail
      refine (awake_any _).mono ?_
      rintro e w7 ⟨rfl, hb0⟩
      have S' := Lib.hid (S.out.bel hb0)
      clear hb0 S z0 c0_0 c0_1 z1 c1_0 c1_1 z2 c2_0 c2_1 z3 c3_0 c3_1 c3_2 c3_3 c3_4 c3_5 c3_6
      have S := S'
      clear S'
      obtain ⟨z0, y0⟩ := S.out.hd
      obtain ⟨c0_0, c0_1⟩ := cellsK2 y0
      obtain ⟨z1, y1⟩ := S.out.tl.hd
      obtain ⟨c1_0, c1_1⟩ := cellsK2 y1
      obtain ⟨z2, y2⟩ := S.out.tl.tl.hd
      obtain ⟨c2_0, c2_1⟩ := cellsK2 y2
      obtain ⟨z3, y3⟩ := S.out.tl.tl.tl.hd
      obtain ⟨c3_0, c3_1, c3_2, c3_3, c3_4, c3_5, c3_6⟩ := cellsK7 y3
      clear y0 y1 y2 y3
      go_wp2_with fail
      go_ret
      exact ⟨by first | rfl | (simp; omega), S.out.b⟩
    ·
      have HK := Lib.hid (hp k1 k2)
      have Hzz := Lib.hid (Hz.out k1 k2)
      clear hp e0
      have S := Lib.hid ((Sg.start w).new (w.heap.size) (by simp) b.cells 26)
      go_enter Try.func7, Try.ntmps7
      go_wp2_with fail
      refine (few10 b _).mono ?_
      rw [qf]
      rintro e w1 ⟨rfl, hb0⟩
      have S' := Lib.hid (S.out.bel hb0)
      clear hb0 S
      have S := S'
      clear S'
      obtain ⟨z0, y0⟩ := S.out.hd
      obtain ⟨c0_0, c0_1, c0_2, c0_3, c0_4, c0_5, c0_6⟩ := cellsK7 y0
      clear y0
      go_wp2_with fail
      refine (charge12 b r _ (Hr.out.bel S.out.b)).mono ?_
      rw [HX.out.1, HX.out.2.1, HX.out.2.2]
      rintro e w2 ⟨rfl, hb0⟩
      have S' := Lib.hid ((S.out.bel hb0).new w2.heap.size rfl #[.int .i64 x, .int .i64 y] 24)
      clear hb0 S z0 c0_0 c0_1 c0_2 c0_3 c0_4 c0_5 c0_6
      have S := S'
      clear S'
      obtain ⟨z0, y0⟩ := S.out.hd
      obtain ⟨c0_0, c0_1⟩ := cellsK2 y0
      obtain ⟨z1, y1⟩ := S.out.tl.hd
      obtain ⟨c1_0, c1_1, c1_2, c1_3, c1_4, c1_5, c1_6⟩ := cellsK7 y1
      clear y0 y1
      go_wp2_with fail
      refine (interval21 x y _).mono ?_
      rintro e w3 ⟨rfl, hb0⟩
      have S' := Lib.hid (S.out.bel hb0)
      clear hb0 S z0 c0_0 c0_1 z1 c1_0 c1_1 c1_2 c1_3 c1_4 c1_5 c1_6
      have S := S'
      clear S'
      obtain ⟨z0, y0⟩ := S.out.hd
      obtain ⟨c0_0, c0_1⟩ := cellsK2 y0
      obtain ⟨z1, y1⟩ := S.out.tl.hd
      obtain ⟨c1_0, c1_1, c1_2, c1_3, c1_4, c1_5, c1_6⟩ := cellsK7 y1
      clear y0 y1
      go_wp2_with fail
      refine (check15 b _ (Hr.out.bel S.out.b)).mono ?_
      rw [HC.out]
      rintro e w4 ⟨rfl, hb0⟩
      have S' := Lib.hid (S.out.bel hb0)
      clear hb0 S z0 c0_0 c0_1 z1 c1_0 c1_1 c1_2 c1_3 c1_4 c1_5 c1_6
      have S := S'
      clear S'
      obtain ⟨z0, y0⟩ := S.out.hd
      obtain ⟨c0_0, c0_1⟩ := cellsK2 y0
      obtain ⟨z1, y1⟩ := S.out.tl.hd
      obtain ⟨c1_0, c1_1, c1_2, c1_3, c1_4, c1_5, c1_6⟩ := cellsK7 y1
      clear y0 y1
      go_wp2_with fail
      refine (charge12 b v _ (Hr.out.bel S.out.b)).mono ?_
      rw [HV.out.1, HV.out.2.1, HV.out.2.2]
      rintro e w5 ⟨rfl, hb0⟩
      have S' := Lib.hid ((S.out.bel hb0).new w5.heap.size rfl #[.int .i64 t0, .int .i64 t1] 24)
      clear hb0 S z0 c0_0 c0_1 z1 c1_0 c1_1 c1_2 c1_3 c1_4 c1_5 c1_6
      have S := S'
      clear S'
      obtain ⟨z0, y0⟩ := S.out.hd
      obtain ⟨c0_0, c0_1⟩ := cellsK2 y0
      obtain ⟨z1, y1⟩ := S.out.tl.hd
      obtain ⟨c1_0, c1_1⟩ := cellsK2 y1
      obtain ⟨z2, y2⟩ := S.out.tl.tl.hd
      obtain ⟨c2_0, c2_1, c2_2, c2_3, c2_4, c2_5, c2_6⟩ := cellsK7 y2
      clear y0 y1 y2
      go_wp2_with fail
      have S' := Lib.hid (S.out.alloc (.cells #[.slice b.A b.n b.c, .slice b.C b.m b.d, .int .i64 1000, .int .i64 b.il, .int .i64 b.ih, .int .i64 b.rl, .int .i64 b.rh] 26))
      clear S z0 c0_0 c0_1 z1 c1_0 c1_1 z2 c2_0 c2_1 c2_2 c2_3 c2_4 c2_5 c2_6
      have S := S'
      clear S'
      obtain ⟨z0, y0⟩ := S.out.hd
      obtain ⟨c0_0, c0_1⟩ := cellsK2 y0
      obtain ⟨z1, y1⟩ := S.out.tl.hd
      obtain ⟨c1_0, c1_1⟩ := cellsK2 y1
      obtain ⟨z2, y2⟩ := S.out.tl.tl.hd
      obtain ⟨c2_0, c2_1, c2_2, c2_3, c2_4, c2_5, c2_6⟩ := cellsK7 y2
      clear y0 y1 y2
      refine (charge12 (wideB b) r _ (Hr.out.bel S.out.b)).mono ?_
      rw [HW.out.1, HW.out.2.1, HW.out.2.2]
      rintro e w6 ⟨rfl, hb0⟩
      have S' := Lib.hid ((S.out.bel hb0).new w6.heap.size rfl #[.int .i64 wx, .int .i64 wy] 24)
      clear hb0 S z0 c0_0 c0_1 z1 c1_0 c1_1 z2 c2_0 c2_1 c2_2 c2_3 c2_4 c2_5 c2_6
      have S := S'
      clear S'
      obtain ⟨z0, y0⟩ := S.out.hd
      obtain ⟨c0_0, c0_1⟩ := cellsK2 y0
      obtain ⟨z1, y1⟩ := S.out.tl.hd
      obtain ⟨c1_0, c1_1⟩ := cellsK2 y1
      obtain ⟨z2, y2⟩ := S.out.tl.tl.hd
      obtain ⟨c2_0, c2_1⟩ := cellsK2 y2
      obtain ⟨z3, y3⟩ := S.out.tl.tl.tl.hd
      obtain ⟨c3_0, c3_1, c3_2, c3_3, c3_4, c3_5, c3_6⟩ := cellsK7 y3
      clear y0 y1 y2 y3
      go_wp2_with fail
      refine (at24 b v _ (Hr.out.bel S.out.b) Hok.out Hzz.out.1 Hzz.out.2).mono ?_
      rw [HP.out.1, HP.out.2]
      rintro e w7 ⟨rfl, hb0⟩
      have S' := Lib.hid (S.out.bel hb0)
      clear hb0 S z0 c0_0 c0_1 z1 c1_0 c1_1 z2 c2_0 c2_1 z3 c3_0 c3_1 c3_2 c3_3 c3_4 c3_5 c3_6
      have S := S'
      clear S'
      obtain ⟨z0, y0⟩ := S.out.hd
      obtain ⟨c0_0, c0_1⟩ := cellsK2 y0
      obtain ⟨z1, y1⟩ := S.out.tl.hd
      obtain ⟨c1_0, c1_1⟩ := cellsK2 y1
      obtain ⟨z2, y2⟩ := S.out.tl.tl.hd
      obtain ⟨c2_0, c2_1⟩ := cellsK2 y2
      obtain ⟨z3, y3⟩ := S.out.tl.tl.tl.hd
      obtain ⟨c3_0, c3_1, c3_2, c3_3, c3_4, c3_5, c3_6⟩ := cellsK7 y3
      clear y0 y1 y2 y3
      obtain ⟨k3, k4⟩ := HK.out
      go_wp2_with fail
      refine (awake_any _).mono ?_
      rintro e w8 ⟨rfl, hb0⟩
      have S' := Lib.hid (S.out.bel hb0)
      clear hb0 S z0 c0_0 c0_1 z1 c1_0 c1_1 z2 c2_0 c2_1 z3 c3_0 c3_1 c3_2 c3_3 c3_4 c3_5 c3_6
      have S := S'
      clear S'
      obtain ⟨z0, y0⟩ := S.out.hd
      obtain ⟨c0_0, c0_1⟩ := cellsK2 y0
      obtain ⟨z1, y1⟩ := S.out.tl.hd
      obtain ⟨c1_0, c1_1⟩ := cellsK2 y1
      obtain ⟨z2, y2⟩ := S.out.tl.tl.hd
      obtain ⟨c2_0, c2_1⟩ := cellsK2 y2
      obtain ⟨z3, y3⟩ := S.out.tl.tl.tl.hd
      obtain ⟨c3_0, c3_1, c3_2, c3_3, c3_4, c3_5, c3_6⟩ := cellsK7 y3
      clear y0 y1 y2 y3
      go_wp2_with fail
      go_ret
      exact ⟨by first | rfl | (simp; omega), S.out.b⟩
end Go.Proofs.Ytgcjjnmdbdllhaa
