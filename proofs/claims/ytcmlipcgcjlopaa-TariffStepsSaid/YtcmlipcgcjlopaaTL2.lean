/- The walk of the law TariffSteps. -/
import Derived.Test.YtcmlipcgcjlopaaTS
namespace Go.Proofs.Ytcmlipcgcjlopaa
open Go.RowKit
set_option maxHeartbeats 2000000
set_option maxRecDepth 100000
set_option linter.unusedVariables false

theorem law6_any (f u s r p q secs : Int) (w : World) :
    Calls Try.prog 6 #[tv f u s r p q, .int .i64 secs] w fun e w' => e = .returned (.bool true) ∧ Below w.heap.size w w' := by
  by_cases hc : codeT (oneT u s r p q) secs (costT s (secs - r) p) = 0
  case neg =>
    have H2 := Lib.hid (valT_bad hc)
    obtain ⟨C, hC⟩ : ∃ C, codeT (oneT u s r p q) secs (costT s (secs - r) p) = C := ⟨_, rfl⟩
    have hcb : (C != 0) = true := by rw [← hC]; simpa using hc
    have HC := Lib.hid hC
    clear hc hC
    have Hk := Lib.hid (fun w1 h => one_block w #[.int .i64 f, .int .i64 u, .int .i64 s, .int .i64 r, .int .i64 p, .int .i64 q] 30 w1 h)
    go_enter Try.func6, Try.ntmps6
    go_wp2_with fail
    refine (time15 f u s r p q secs _).mono ?_
    rw [H2.out, HC.out]
    rintro e w1 ⟨rfl, hb⟩
    have B : Hid (Below (w.heap.size + 1) (w.alloc (.cells #[.int .i64 f, .int .i64 u, .int .i64 s, .int .i64 r, .int .i64 p, .int .i64 q] 30)) w1) := Lib.hid (hb.mono (by simp))
    clear hb
    have ka := Hk.out w1 B.out
    have k0 := ka 0
    have k1 := ka 1
    have k2 := ka 2
    have k3 := ka 3
    have k4 := ka 4
    have k5 := ka 5
    simp only [List.getElem?_toArray, List.getElem?_cons_zero, List.getElem?_cons_succ] at k0 k1 k2 k3 k4 k5
    clear ka
    have hz : w.heap.size + 1 ≤ w1.heap.size := by have := B.out.size; simpa using this
    go_wp2_with fail
    refine (awake_any _).mono ?_
    rintro e w9 ⟨rfl, hb⟩
    have B9 := Lib.hid (Below.trans (box_bel w _) ((B.out.trans (hb.mono hz)).mono (by omega)))
    clear hb
    go_wp2_with fail
    go_ret
    exact ⟨rfl, B9.out⟩
  obtain ⟨h1, h2, h3, h4⟩ := codeT_zero hc
  have hr := ranged_bd (oneT_zero h1)
  have hcb := cost_bd (s := s) (paid := secs - r) (each := p) (by omega) (by omega) (by omega) (by omega) (by omega)
  have V1 := Lib.hid (valT_ok hc)
  have HC := Lib.hid hc
  have H1 := Lib.hid h1
  have hz0 : secs = 0 → costT s (secs - r) p = 0 := fun h => by rw [h]; exact cost_zero (by omega) (by omega)
  have hB := fun ha hm => cost_begin (s := s) (a := secs - r) (each := p) (by omega) ha hm
  have hS := fun h => cost_same (s := s) (a := secs - r) (each := p) (by omega) h
  rw [show secs - r + 1 = secs + 1 - r by omega] at hB hS
  obtain ⟨X, hX⟩ : ∃ X, costT s (secs - r) p = X := ⟨_, rfl⟩
  obtain ⟨Y, hY⟩ : ∃ Y, costT s (secs + 1 - r) p = Y := ⟨_, rfl⟩
  rw [hX] at hcb h4 hz0 hB hS
  rw [hY] at hB hS
  have HX := Lib.hid hX
  have HY := Lib.hid hY
  have hzb : secs = 0 → (X != 0) = false := fun h => by rw [hz0 h]; rfl
  clear hc hX hY h1
  by_cases h0 : secs = 0
  · have hX0 := hz0 h0
    have hzz : (secs == 0) = true := by simpa using h0
    have hxx : (X != 0) = false := hzb h0
    clear hz0 hzb
    have Hx0 := Lib.hid hX0
    have Hs0 := Lib.hid h0
    have hs0 : secs ≤ 0 := by omega
    clear hX0 h0
    by_cases hm : 4294943999 < secs
    · omega
    have t1 : secs + 1 ≤ 4294944000 := by omega
    by_cases g1 : r ≤ secs
    · by_cases g2 : (secs - r) % s = 0
      · have hYX := hB (by omega) g2
        have g2b : ((secs - r) % s == 0) = true := by simpa using g2
        by_cases hy : 1000000000000 < Y
        · have D := Lib.hid (show codeT (oneT u s r p q) (secs + 1) (costT s (secs + 1 - r) p) = 2 from codeT_two H1.out (by omega) t1 (by rw [HY.out]; exact hy))
          have E := Lib.hid (show valT (oneT u s r p q) (secs + 1) (costT s (secs + 1 - r) p) = 0 from valT_bad (by rw [D.out]; decide))
          have hxp : 1000000000000 < X + p := by omega
          clear hB hS g2 hYX
          have Hk := Lib.hid (fun w1 h => one_block w #[.int .i64 f, .int .i64 u, .int .i64 s, .int .i64 r, .int .i64 p, .int .i64 q] 30 w1 h)
          go_enter Try.func6, Try.ntmps6
          go_wp2_with fail
          refine (time15 f u s r p q secs _).mono ?_
          rw [V1.out, HC.out, HX.out]
          rintro e w1 ⟨rfl, hb⟩
          have B : Hid (Below (w.heap.size + 1) (w.alloc (.cells #[.int .i64 f, .int .i64 u, .int .i64 s, .int .i64 r, .int .i64 p, .int .i64 q] 30)) w1) := Lib.hid (hb.mono (by simp))
          clear hb
          have ka := Hk.out w1 B.out
          have k0 := ka 0
          have k1 := ka 1
          have k2 := ka 2
          have k3 := ka 3
          have k4 := ka 4
          have k5 := ka 5
          simp only [List.getElem?_toArray, List.getElem?_cons_zero, List.getElem?_cons_succ] at k0 k1 k2 k3 k4 k5
          clear ka
          have hz : w.heap.size + 1 ≤ w1.heap.size := by have := B.out.size; simpa using this
          go_wp2_with fail
          refine (one21 f u s r p q _).mono ?_
          rw [H1.out]
          rintro e w2 ⟨rfl, hb⟩
          have B' := Lib.hid (B.out.trans (hb.mono hz))
          clear B k0 k1 k2 k3 k4 k5 hz
          have B := B'
          clear B'
          clear hb
          have ka := Hk.out w2 B.out
          have k0 := ka 0
          have k1 := ka 1
          have k2 := ka 2
          have k3 := ka 3
          have k4 := ka 4
          have k5 := ka 5
          simp only [List.getElem?_toArray, List.getElem?_cons_zero, List.getElem?_cons_succ] at k0 k1 k2 k3 k4 k5
          clear ka
          have hz : w.heap.size + 1 ≤ w2.heap.size := by have := B.out.size; simpa using this
          go_wp2_with fail
          refine (time15 f u s r p q (secs + 1) _).mono ?_
          rw [E.out, D.out]
          rintro e w3 ⟨rfl, hb⟩
          have B' := Lib.hid (B.out.trans (hb.mono hz))
          clear B k0 k1 k2 k3 k4 k5 hz
          have B := B'
          clear B'
          clear hb
          have ka := Hk.out w3 B.out
          have k0 := ka 0
          have k1 := ka 1
          have k2 := ka 2
          have k3 := ka 3
          have k4 := ka 4
          have k5 := ka 5
          simp only [List.getElem?_toArray, List.getElem?_cons_zero, List.getElem?_cons_succ] at k0 k1 k2 k3 k4 k5
          clear ka
          have hz : w.heap.size + 1 ≤ w3.heap.size := by have := B.out.size; simpa using this
          go_wp2_with fail
          refine (awake_any _).mono ?_
          rintro e w9 ⟨rfl, hb⟩
          have B9 := Lib.hid (Below.trans (box_bel w _) ((B.out.trans (hb.mono hz)).mono (by omega)))
          clear hb
          go_wp2_with fail
          go_ret
          exact ⟨rfl, B9.out⟩
        · have D := Lib.hid (show codeT (oneT u s r p q) (secs + 1) (costT s (secs + 1 - r) p) = 0 from codeT_ok H1.out (by omega) t1 (by rw [HY.out]; omega))
          have E := Lib.hid (show valT (oneT u s r p q) (secs + 1) (costT s (secs + 1 - r) p) = X + p by rw [valT_ok D.out, HY.out]; exact hYX)
          clear hB hS g2 hYX
          have Hk := Lib.hid (fun w1 h => one_block w #[.int .i64 f, .int .i64 u, .int .i64 s, .int .i64 r, .int .i64 p, .int .i64 q] 30 w1 h)
          go_enter Try.func6, Try.ntmps6
          go_wp2_with fail
          refine (time15 f u s r p q secs _).mono ?_
          rw [V1.out, HC.out, HX.out]
          rintro e w1 ⟨rfl, hb⟩
          have B : Hid (Below (w.heap.size + 1) (w.alloc (.cells #[.int .i64 f, .int .i64 u, .int .i64 s, .int .i64 r, .int .i64 p, .int .i64 q] 30)) w1) := Lib.hid (hb.mono (by simp))
          clear hb
          have ka := Hk.out w1 B.out
          have k0 := ka 0
          have k1 := ka 1
          have k2 := ka 2
          have k3 := ka 3
          have k4 := ka 4
          have k5 := ka 5
          simp only [List.getElem?_toArray, List.getElem?_cons_zero, List.getElem?_cons_succ] at k0 k1 k2 k3 k4 k5
          clear ka
          have hz : w.heap.size + 1 ≤ w1.heap.size := by have := B.out.size; simpa using this
          go_wp2_with fail
          refine (one21 f u s r p q _).mono ?_
          rw [H1.out]
          rintro e w2 ⟨rfl, hb⟩
          have B' := Lib.hid (B.out.trans (hb.mono hz))
          clear B k0 k1 k2 k3 k4 k5 hz
          have B := B'
          clear B'
          clear hb
          have ka := Hk.out w2 B.out
          have k0 := ka 0
          have k1 := ka 1
          have k2 := ka 2
          have k3 := ka 3
          have k4 := ka 4
          have k5 := ka 5
          simp only [List.getElem?_toArray, List.getElem?_cons_zero, List.getElem?_cons_succ] at k0 k1 k2 k3 k4 k5
          clear ka
          have hz : w.heap.size + 1 ≤ w2.heap.size := by have := B.out.size; simpa using this
          go_wp2_with fail
          refine (time15 f u s r p q (secs + 1) _).mono ?_
          rw [E.out, D.out]
          rintro e w3 ⟨rfl, hb⟩
          have B' := Lib.hid (B.out.trans (hb.mono hz))
          clear B k0 k1 k2 k3 k4 k5 hz
          have B := B'
          clear B'
          clear hb
          have ka := Hk.out w3 B.out
          have k0 := ka 0
          have k1 := ka 1
          have k2 := ka 2
          have k3 := ka 3
          have k4 := ka 4
          have k5 := ka 5
          simp only [List.getElem?_toArray, List.getElem?_cons_zero, List.getElem?_cons_succ] at k0 k1 k2 k3 k4 k5
          clear ka
          have hz : w.heap.size + 1 ≤ w3.heap.size := by have := B.out.size; simpa using this
          go_wp2_with fail
          refine (awake_any _).mono ?_
          rintro e w9 ⟨rfl, hb⟩
          have B9 := Lib.hid (Below.trans (box_bel w _) ((B.out.trans (hb.mono hz)).mono (by omega)))
          clear hb
          go_wp2_with fail
          go_ret
          exact ⟨rfl, B9.out⟩
      · have hYX := hS (.inr ⟨by omega, g2⟩)
        have g2b : ((secs - r) % s == 0) = false := by simpa using g2
        have D := Lib.hid (show codeT (oneT u s r p q) (secs + 1) (costT s (secs + 1 - r) p) = 0 from codeT_ok H1.out (by omega) t1 (by rw [HY.out]; omega))
        have E := Lib.hid (show valT (oneT u s r p q) (secs + 1) (costT s (secs + 1 - r) p) = X by rw [valT_ok D.out, HY.out]; exact hYX)
        clear hB hS g2 hYX
        have Hk := Lib.hid (fun w1 h => one_block w #[.int .i64 f, .int .i64 u, .int .i64 s, .int .i64 r, .int .i64 p, .int .i64 q] 30 w1 h)
        go_enter Try.func6, Try.ntmps6
        go_wp2_with fail
        refine (time15 f u s r p q secs _).mono ?_
        rw [V1.out, HC.out, HX.out]
        rintro e w1 ⟨rfl, hb⟩
        have B : Hid (Below (w.heap.size + 1) (w.alloc (.cells #[.int .i64 f, .int .i64 u, .int .i64 s, .int .i64 r, .int .i64 p, .int .i64 q] 30)) w1) := Lib.hid (hb.mono (by simp))
        clear hb
        have ka := Hk.out w1 B.out
        have k0 := ka 0
        have k1 := ka 1
        have k2 := ka 2
        have k3 := ka 3
        have k4 := ka 4
        have k5 := ka 5
        simp only [List.getElem?_toArray, List.getElem?_cons_zero, List.getElem?_cons_succ] at k0 k1 k2 k3 k4 k5
        clear ka
        have hz : w.heap.size + 1 ≤ w1.heap.size := by have := B.out.size; simpa using this
        go_wp2_with fail
        refine (one21 f u s r p q _).mono ?_
        rw [H1.out]
        rintro e w2 ⟨rfl, hb⟩
        have B' := Lib.hid (B.out.trans (hb.mono hz))
        clear B k0 k1 k2 k3 k4 k5 hz
        have B := B'
        clear B'
        clear hb
        have ka := Hk.out w2 B.out
        have k0 := ka 0
        have k1 := ka 1
        have k2 := ka 2
        have k3 := ka 3
        have k4 := ka 4
        have k5 := ka 5
        simp only [List.getElem?_toArray, List.getElem?_cons_zero, List.getElem?_cons_succ] at k0 k1 k2 k3 k4 k5
        clear ka
        have hz : w.heap.size + 1 ≤ w2.heap.size := by have := B.out.size; simpa using this
        go_wp2_with fail
        refine (time15 f u s r p q (secs + 1) _).mono ?_
        rw [E.out, D.out]
        rintro e w3 ⟨rfl, hb⟩
        have B' := Lib.hid (B.out.trans (hb.mono hz))
        clear B k0 k1 k2 k3 k4 k5 hz
        have B := B'
        clear B'
        clear hb
        have ka := Hk.out w3 B.out
        have k0 := ka 0
        have k1 := ka 1
        have k2 := ka 2
        have k3 := ka 3
        have k4 := ka 4
        have k5 := ka 5
        simp only [List.getElem?_toArray, List.getElem?_cons_zero, List.getElem?_cons_succ] at k0 k1 k2 k3 k4 k5
        clear ka
        have hz : w.heap.size + 1 ≤ w3.heap.size := by have := B.out.size; simpa using this
        go_wp2_with fail
        refine (awake_any _).mono ?_
        rintro e w9 ⟨rfl, hb⟩
        have B9 := Lib.hid (Below.trans (box_bel w _) ((B.out.trans (hb.mono hz)).mono (by omega)))
        clear hb
        go_wp2_with fail
        go_ret
        exact ⟨rfl, B9.out⟩
    · have hYX := hS (.inl (by omega))
      have D := Lib.hid (show codeT (oneT u s r p q) (secs + 1) (costT s (secs + 1 - r) p) = 0 from codeT_ok H1.out (by omega) t1 (by rw [HY.out]; omega))
      have E := Lib.hid (show valT (oneT u s r p q) (secs + 1) (costT s (secs + 1 - r) p) = X by rw [valT_ok D.out, HY.out]; exact hYX)
      clear hB hS hYX
      have Hk := Lib.hid (fun w1 h => one_block w #[.int .i64 f, .int .i64 u, .int .i64 s, .int .i64 r, .int .i64 p, .int .i64 q] 30 w1 h)
      go_enter Try.func6, Try.ntmps6
      go_wp2_with fail
      refine (time15 f u s r p q secs _).mono ?_
      rw [V1.out, HC.out, HX.out]
      rintro e w1 ⟨rfl, hb⟩
      have B : Hid (Below (w.heap.size + 1) (w.alloc (.cells #[.int .i64 f, .int .i64 u, .int .i64 s, .int .i64 r, .int .i64 p, .int .i64 q] 30)) w1) := Lib.hid (hb.mono (by simp))
      clear hb
      have ka := Hk.out w1 B.out
      have k0 := ka 0
      have k1 := ka 1
      have k2 := ka 2
      have k3 := ka 3
      have k4 := ka 4
      have k5 := ka 5
      simp only [List.getElem?_toArray, List.getElem?_cons_zero, List.getElem?_cons_succ] at k0 k1 k2 k3 k4 k5
      clear ka
      have hz : w.heap.size + 1 ≤ w1.heap.size := by have := B.out.size; simpa using this
      go_wp2_with fail
      refine (one21 f u s r p q _).mono ?_
      rw [H1.out]
      rintro e w2 ⟨rfl, hb⟩
      have B' := Lib.hid (B.out.trans (hb.mono hz))
      clear B k0 k1 k2 k3 k4 k5 hz
      have B := B'
      clear B'
      clear hb
      have ka := Hk.out w2 B.out
      have k0 := ka 0
      have k1 := ka 1
      have k2 := ka 2
      have k3 := ka 3
      have k4 := ka 4
      have k5 := ka 5
      simp only [List.getElem?_toArray, List.getElem?_cons_zero, List.getElem?_cons_succ] at k0 k1 k2 k3 k4 k5
      clear ka
      have hz : w.heap.size + 1 ≤ w2.heap.size := by have := B.out.size; simpa using this
      go_wp2_with fail
      refine (time15 f u s r p q (secs + 1) _).mono ?_
      rw [E.out, D.out]
      rintro e w3 ⟨rfl, hb⟩
      have B' := Lib.hid (B.out.trans (hb.mono hz))
      clear B k0 k1 k2 k3 k4 k5 hz
      have B := B'
      clear B'
      clear hb
      have ka := Hk.out w3 B.out
      have k0 := ka 0
      have k1 := ka 1
      have k2 := ka 2
      have k3 := ka 3
      have k4 := ka 4
      have k5 := ka 5
      simp only [List.getElem?_toArray, List.getElem?_cons_zero, List.getElem?_cons_succ] at k0 k1 k2 k3 k4 k5
      clear ka
      have hz : w.heap.size + 1 ≤ w3.heap.size := by have := B.out.size; simpa using this
      go_wp2_with fail
      refine (awake_any _).mono ?_
      rintro e w9 ⟨rfl, hb⟩
      have B9 := Lib.hid (Below.trans (box_bel w _) ((B.out.trans (hb.mono hz)).mono (by omega)))
      clear hb
      go_wp2_with fail
      go_ret
      exact ⟨rfl, B9.out⟩
  · have hzz : (secs == 0) = false := by simpa using h0
    clear hz0 hzb h0
    by_cases hm : 4294943999 < secs
    · clear hB hS
      have Hk := Lib.hid (fun w1 h => one_block w #[.int .i64 f, .int .i64 u, .int .i64 s, .int .i64 r, .int .i64 p, .int .i64 q] 30 w1 h)
      go_enter Try.func6, Try.ntmps6
      go_wp2_with fail
      refine (time15 f u s r p q secs _).mono ?_
      rw [V1.out, HC.out, HX.out]
      rintro e w1 ⟨rfl, hb⟩
      have B : Hid (Below (w.heap.size + 1) (w.alloc (.cells #[.int .i64 f, .int .i64 u, .int .i64 s, .int .i64 r, .int .i64 p, .int .i64 q] 30)) w1) := Lib.hid (hb.mono (by simp))
      clear hb
      have ka := Hk.out w1 B.out
      have k0 := ka 0
      have k1 := ka 1
      have k2 := ka 2
      have k3 := ka 3
      have k4 := ka 4
      have k5 := ka 5
      simp only [List.getElem?_toArray, List.getElem?_cons_zero, List.getElem?_cons_succ] at k0 k1 k2 k3 k4 k5
      clear ka
      have hz : w.heap.size + 1 ≤ w1.heap.size := by have := B.out.size; simpa using this
      go_wp2_with fail
      refine (one21 f u s r p q _).mono ?_
      rw [H1.out]
      rintro e w2 ⟨rfl, hb⟩
      have B' := Lib.hid (B.out.trans (hb.mono hz))
      clear B k0 k1 k2 k3 k4 k5 hz
      have B := B'
      clear B'
      clear hb
      have ka := Hk.out w2 B.out
      have k0 := ka 0
      have k1 := ka 1
      have k2 := ka 2
      have k3 := ka 3
      have k4 := ka 4
      have k5 := ka 5
      simp only [List.getElem?_toArray, List.getElem?_cons_zero, List.getElem?_cons_succ] at k0 k1 k2 k3 k4 k5
      clear ka
      have hz : w.heap.size + 1 ≤ w2.heap.size := by have := B.out.size; simpa using this
      go_wp2_with fail
      refine (awake_any _).mono ?_
      rintro e w9 ⟨rfl, hb⟩
      have B9 := Lib.hid (Below.trans (box_bel w _) ((B.out.trans (hb.mono hz)).mono (by omega)))
      clear hb
      go_wp2_with fail
      go_ret
      exact ⟨rfl, B9.out⟩
    have t1 : secs + 1 ≤ 4294944000 := by omega
    by_cases g1 : r ≤ secs
    · by_cases g2 : (secs - r) % s = 0
      · have hYX := hB (by omega) g2
        have g2b : ((secs - r) % s == 0) = true := by simpa using g2
        by_cases hy : 1000000000000 < Y
        · have D := Lib.hid (show codeT (oneT u s r p q) (secs + 1) (costT s (secs + 1 - r) p) = 2 from codeT_two H1.out (by omega) t1 (by rw [HY.out]; exact hy))
          have E := Lib.hid (show valT (oneT u s r p q) (secs + 1) (costT s (secs + 1 - r) p) = 0 from valT_bad (by rw [D.out]; decide))
          have hxp : 1000000000000 < X + p := by omega
          clear hB hS g2 hYX
          have Hk := Lib.hid (fun w1 h => one_block w #[.int .i64 f, .int .i64 u, .int .i64 s, .int .i64 r, .int .i64 p, .int .i64 q] 30 w1 h)
          go_enter Try.func6, Try.ntmps6
          go_wp2_with fail
          refine (time15 f u s r p q secs _).mono ?_
          rw [V1.out, HC.out, HX.out]
          rintro e w1 ⟨rfl, hb⟩
          have B : Hid (Below (w.heap.size + 1) (w.alloc (.cells #[.int .i64 f, .int .i64 u, .int .i64 s, .int .i64 r, .int .i64 p, .int .i64 q] 30)) w1) := Lib.hid (hb.mono (by simp))
          clear hb
          have ka := Hk.out w1 B.out
          have k0 := ka 0
          have k1 := ka 1
          have k2 := ka 2
          have k3 := ka 3
          have k4 := ka 4
          have k5 := ka 5
          simp only [List.getElem?_toArray, List.getElem?_cons_zero, List.getElem?_cons_succ] at k0 k1 k2 k3 k4 k5
          clear ka
          have hz : w.heap.size + 1 ≤ w1.heap.size := by have := B.out.size; simpa using this
          go_wp2_with fail
          refine (one21 f u s r p q _).mono ?_
          rw [H1.out]
          rintro e w2 ⟨rfl, hb⟩
          have B' := Lib.hid (B.out.trans (hb.mono hz))
          clear B k0 k1 k2 k3 k4 k5 hz
          have B := B'
          clear B'
          clear hb
          have ka := Hk.out w2 B.out
          have k0 := ka 0
          have k1 := ka 1
          have k2 := ka 2
          have k3 := ka 3
          have k4 := ka 4
          have k5 := ka 5
          simp only [List.getElem?_toArray, List.getElem?_cons_zero, List.getElem?_cons_succ] at k0 k1 k2 k3 k4 k5
          clear ka
          have hz : w.heap.size + 1 ≤ w2.heap.size := by have := B.out.size; simpa using this
          go_wp2_with fail
          refine (time15 f u s r p q (secs + 1) _).mono ?_
          rw [E.out, D.out]
          rintro e w3 ⟨rfl, hb⟩
          have B' := Lib.hid (B.out.trans (hb.mono hz))
          clear B k0 k1 k2 k3 k4 k5 hz
          have B := B'
          clear B'
          clear hb
          have ka := Hk.out w3 B.out
          have k0 := ka 0
          have k1 := ka 1
          have k2 := ka 2
          have k3 := ka 3
          have k4 := ka 4
          have k5 := ka 5
          simp only [List.getElem?_toArray, List.getElem?_cons_zero, List.getElem?_cons_succ] at k0 k1 k2 k3 k4 k5
          clear ka
          have hz : w.heap.size + 1 ≤ w3.heap.size := by have := B.out.size; simpa using this
          go_wp2_with fail
          refine (awake_any _).mono ?_
          rintro e w9 ⟨rfl, hb⟩
          have B9 := Lib.hid (Below.trans (box_bel w _) ((B.out.trans (hb.mono hz)).mono (by omega)))
          clear hb
          go_wp2_with fail
          go_ret
          exact ⟨rfl, B9.out⟩
        · have D := Lib.hid (show codeT (oneT u s r p q) (secs + 1) (costT s (secs + 1 - r) p) = 0 from codeT_ok H1.out (by omega) t1 (by rw [HY.out]; omega))
          have E := Lib.hid (show valT (oneT u s r p q) (secs + 1) (costT s (secs + 1 - r) p) = X + p by rw [valT_ok D.out, HY.out]; exact hYX)
          clear hB hS g2 hYX
          have Hk := Lib.hid (fun w1 h => one_block w #[.int .i64 f, .int .i64 u, .int .i64 s, .int .i64 r, .int .i64 p, .int .i64 q] 30 w1 h)
          go_enter Try.func6, Try.ntmps6
          go_wp2_with fail
          refine (time15 f u s r p q secs _).mono ?_
          rw [V1.out, HC.out, HX.out]
          rintro e w1 ⟨rfl, hb⟩
          have B : Hid (Below (w.heap.size + 1) (w.alloc (.cells #[.int .i64 f, .int .i64 u, .int .i64 s, .int .i64 r, .int .i64 p, .int .i64 q] 30)) w1) := Lib.hid (hb.mono (by simp))
          clear hb
          have ka := Hk.out w1 B.out
          have k0 := ka 0
          have k1 := ka 1
          have k2 := ka 2
          have k3 := ka 3
          have k4 := ka 4
          have k5 := ka 5
          simp only [List.getElem?_toArray, List.getElem?_cons_zero, List.getElem?_cons_succ] at k0 k1 k2 k3 k4 k5
          clear ka
          have hz : w.heap.size + 1 ≤ w1.heap.size := by have := B.out.size; simpa using this
          go_wp2_with fail
          refine (one21 f u s r p q _).mono ?_
          rw [H1.out]
          rintro e w2 ⟨rfl, hb⟩
          have B' := Lib.hid (B.out.trans (hb.mono hz))
          clear B k0 k1 k2 k3 k4 k5 hz
          have B := B'
          clear B'
          clear hb
          have ka := Hk.out w2 B.out
          have k0 := ka 0
          have k1 := ka 1
          have k2 := ka 2
          have k3 := ka 3
          have k4 := ka 4
          have k5 := ka 5
          simp only [List.getElem?_toArray, List.getElem?_cons_zero, List.getElem?_cons_succ] at k0 k1 k2 k3 k4 k5
          clear ka
          have hz : w.heap.size + 1 ≤ w2.heap.size := by have := B.out.size; simpa using this
          go_wp2_with fail
          refine (time15 f u s r p q (secs + 1) _).mono ?_
          rw [E.out, D.out]
          rintro e w3 ⟨rfl, hb⟩
          have B' := Lib.hid (B.out.trans (hb.mono hz))
          clear B k0 k1 k2 k3 k4 k5 hz
          have B := B'
          clear B'
          clear hb
          have ka := Hk.out w3 B.out
          have k0 := ka 0
          have k1 := ka 1
          have k2 := ka 2
          have k3 := ka 3
          have k4 := ka 4
          have k5 := ka 5
          simp only [List.getElem?_toArray, List.getElem?_cons_zero, List.getElem?_cons_succ] at k0 k1 k2 k3 k4 k5
          clear ka
          have hz : w.heap.size + 1 ≤ w3.heap.size := by have := B.out.size; simpa using this
          go_wp2_with fail
          refine (awake_any _).mono ?_
          rintro e w9 ⟨rfl, hb⟩
          have B9 := Lib.hid (Below.trans (box_bel w _) ((B.out.trans (hb.mono hz)).mono (by omega)))
          clear hb
          go_wp2_with fail
          go_ret
          exact ⟨rfl, B9.out⟩
      · have hYX := hS (.inr ⟨by omega, g2⟩)
        have g2b : ((secs - r) % s == 0) = false := by simpa using g2
        have D := Lib.hid (show codeT (oneT u s r p q) (secs + 1) (costT s (secs + 1 - r) p) = 0 from codeT_ok H1.out (by omega) t1 (by rw [HY.out]; omega))
        have E := Lib.hid (show valT (oneT u s r p q) (secs + 1) (costT s (secs + 1 - r) p) = X by rw [valT_ok D.out, HY.out]; exact hYX)
        clear hB hS g2 hYX
        have Hk := Lib.hid (fun w1 h => one_block w #[.int .i64 f, .int .i64 u, .int .i64 s, .int .i64 r, .int .i64 p, .int .i64 q] 30 w1 h)
        go_enter Try.func6, Try.ntmps6
        go_wp2_with fail
        refine (time15 f u s r p q secs _).mono ?_
        rw [V1.out, HC.out, HX.out]
        rintro e w1 ⟨rfl, hb⟩
        have B : Hid (Below (w.heap.size + 1) (w.alloc (.cells #[.int .i64 f, .int .i64 u, .int .i64 s, .int .i64 r, .int .i64 p, .int .i64 q] 30)) w1) := Lib.hid (hb.mono (by simp))
        clear hb
        have ka := Hk.out w1 B.out
        have k0 := ka 0
        have k1 := ka 1
        have k2 := ka 2
        have k3 := ka 3
        have k4 := ka 4
        have k5 := ka 5
        simp only [List.getElem?_toArray, List.getElem?_cons_zero, List.getElem?_cons_succ] at k0 k1 k2 k3 k4 k5
        clear ka
        have hz : w.heap.size + 1 ≤ w1.heap.size := by have := B.out.size; simpa using this
        go_wp2_with fail
        refine (one21 f u s r p q _).mono ?_
        rw [H1.out]
        rintro e w2 ⟨rfl, hb⟩
        have B' := Lib.hid (B.out.trans (hb.mono hz))
        clear B k0 k1 k2 k3 k4 k5 hz
        have B := B'
        clear B'
        clear hb
        have ka := Hk.out w2 B.out
        have k0 := ka 0
        have k1 := ka 1
        have k2 := ka 2
        have k3 := ka 3
        have k4 := ka 4
        have k5 := ka 5
        simp only [List.getElem?_toArray, List.getElem?_cons_zero, List.getElem?_cons_succ] at k0 k1 k2 k3 k4 k5
        clear ka
        have hz : w.heap.size + 1 ≤ w2.heap.size := by have := B.out.size; simpa using this
        go_wp2_with fail
        refine (time15 f u s r p q (secs + 1) _).mono ?_
        rw [E.out, D.out]
        rintro e w3 ⟨rfl, hb⟩
        have B' := Lib.hid (B.out.trans (hb.mono hz))
        clear B k0 k1 k2 k3 k4 k5 hz
        have B := B'
        clear B'
        clear hb
        have ka := Hk.out w3 B.out
        have k0 := ka 0
        have k1 := ka 1
        have k2 := ka 2
        have k3 := ka 3
        have k4 := ka 4
        have k5 := ka 5
        simp only [List.getElem?_toArray, List.getElem?_cons_zero, List.getElem?_cons_succ] at k0 k1 k2 k3 k4 k5
        clear ka
        have hz : w.heap.size + 1 ≤ w3.heap.size := by have := B.out.size; simpa using this
        go_wp2_with fail
        refine (awake_any _).mono ?_
        rintro e w9 ⟨rfl, hb⟩
        have B9 := Lib.hid (Below.trans (box_bel w _) ((B.out.trans (hb.mono hz)).mono (by omega)))
        clear hb
        go_wp2_with fail
        go_ret
        exact ⟨rfl, B9.out⟩
    · have hYX := hS (.inl (by omega))
      have D := Lib.hid (show codeT (oneT u s r p q) (secs + 1) (costT s (secs + 1 - r) p) = 0 from codeT_ok H1.out (by omega) t1 (by rw [HY.out]; omega))
      have E := Lib.hid (show valT (oneT u s r p q) (secs + 1) (costT s (secs + 1 - r) p) = X by rw [valT_ok D.out, HY.out]; exact hYX)
      clear hB hS hYX
      have Hk := Lib.hid (fun w1 h => one_block w #[.int .i64 f, .int .i64 u, .int .i64 s, .int .i64 r, .int .i64 p, .int .i64 q] 30 w1 h)
      go_enter Try.func6, Try.ntmps6
      go_wp2_with fail
      refine (time15 f u s r p q secs _).mono ?_
      rw [V1.out, HC.out, HX.out]
      rintro e w1 ⟨rfl, hb⟩
      have B : Hid (Below (w.heap.size + 1) (w.alloc (.cells #[.int .i64 f, .int .i64 u, .int .i64 s, .int .i64 r, .int .i64 p, .int .i64 q] 30)) w1) := Lib.hid (hb.mono (by simp))
      clear hb
      have ka := Hk.out w1 B.out
      have k0 := ka 0
      have k1 := ka 1
      have k2 := ka 2
      have k3 := ka 3
      have k4 := ka 4
      have k5 := ka 5
      simp only [List.getElem?_toArray, List.getElem?_cons_zero, List.getElem?_cons_succ] at k0 k1 k2 k3 k4 k5
      clear ka
      have hz : w.heap.size + 1 ≤ w1.heap.size := by have := B.out.size; simpa using this
      go_wp2_with fail
      refine (one21 f u s r p q _).mono ?_
      rw [H1.out]
      rintro e w2 ⟨rfl, hb⟩
      have B' := Lib.hid (B.out.trans (hb.mono hz))
      clear B k0 k1 k2 k3 k4 k5 hz
      have B := B'
      clear B'
      clear hb
      have ka := Hk.out w2 B.out
      have k0 := ka 0
      have k1 := ka 1
      have k2 := ka 2
      have k3 := ka 3
      have k4 := ka 4
      have k5 := ka 5
      simp only [List.getElem?_toArray, List.getElem?_cons_zero, List.getElem?_cons_succ] at k0 k1 k2 k3 k4 k5
      clear ka
      have hz : w.heap.size + 1 ≤ w2.heap.size := by have := B.out.size; simpa using this
      go_wp2_with fail
      refine (time15 f u s r p q (secs + 1) _).mono ?_
      rw [E.out, D.out]
      rintro e w3 ⟨rfl, hb⟩
      have B' := Lib.hid (B.out.trans (hb.mono hz))
      clear B k0 k1 k2 k3 k4 k5 hz
      have B := B'
      clear B'
      clear hb
      have ka := Hk.out w3 B.out
      have k0 := ka 0
      have k1 := ka 1
      have k2 := ka 2
      have k3 := ka 3
      have k4 := ka 4
      have k5 := ka 5
      simp only [List.getElem?_toArray, List.getElem?_cons_zero, List.getElem?_cons_succ] at k0 k1 k2 k3 k4 k5
      clear ka
      have hz : w.heap.size + 1 ≤ w3.heap.size := by have := B.out.size; simpa using this
      go_wp2_with fail
      refine (awake_any _).mono ?_
      rintro e w9 ⟨rfl, hb⟩
      have B9 := Lib.hid (Below.trans (box_bel w _) ((B.out.trans (hb.mono hz)).mono (by omega)))
      clear hb
      go_wp2_with fail
      go_ret
      exact ⟨rfl, B9.out⟩
end Go.Proofs.Ytcmlipcgcjlopaa
