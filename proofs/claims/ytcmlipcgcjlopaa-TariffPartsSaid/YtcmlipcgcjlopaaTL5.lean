/- The walk of the law TariffParts. -/
import Derived.Test.YtcmlipcgcjlopaaTL4
namespace Go.Proofs.Ytcmlipcgcjlopaa
open Go.RowKit
set_option maxHeartbeats 2000000
set_option maxRecDepth 100000
set_option linter.unusedVariables false

/-- begun steps -/
def stepsT (s a : Int) : Int := (max 0 a + s - 1) / s
theorem stepsT_le {s a m : Int} (hs : 1 ≤ s) (hm : 0 ≤ m) : stepsT s a ≤ m ↔ a ≤ m * s := steps_le hs hm
theorem stepsT_nn {s a : Int} (hs : 1 ≤ s) : 0 ≤ stepsT s a := Int.ediv_nonneg (by omega) (by omega)
theorem stepsT_self {s a : Int} (hs : 1 ≤ s) : a ≤ stepsT s a * s := (stepsT_le hs (stepsT_nn hs)).mp (Int.le_refl _)
theorem stepsT_mono {s a b : Int} (hs : 1 ≤ s) (h : a ≤ b) : stepsT s a ≤ stepsT s b := (stepsT_le hs (stepsT_nn hs)).mpr (Int.le_trans h (stepsT_self hs))
theorem stepsT_add {s a b : Int} (hs : 1 ≤ s) : stepsT s (a + b) ≤ stepsT s a + stepsT s b := by
  refine (stepsT_le hs (by have := stepsT_nn (s := s) (a := a) hs; have := stepsT_nn (s := s) (a := b) hs; omega)).mpr ?_
  rw [Int.add_mul]
  have := stepsT_self (s := s) (a := a) hs
  have := stepsT_self (s := s) (a := b) hs
  omega
theorem cost_mono {s a b p : Int} (hs : 1 ≤ s) (hp : 0 ≤ p) (h : a ≤ b) : costT s a p ≤ costT s b p := Int.mul_le_mul_of_nonneg_left (stepsT_mono hs h) hp
theorem cost_add {s a b p : Int} (hs : 1 ≤ s) (hp : 0 ≤ p) : costT s (a + b) p ≤ costT s a p + costT s b p := by
  have h : p * stepsT s (a + b) ≤ p * (stepsT s a + stepsT s b) := Int.mul_le_mul_of_nonneg_left (stepsT_add hs) hp
  rw [Int.mul_add] at h
  exact h
theorem cost_nn {s a p : Int} (hs : 1 ≤ s) (hp : 0 ≤ p) : 0 ≤ costT s a p := Int.mul_nonneg hp (stepsT_nn hs)
theorem ranged_free {f u s r p q : Int} (h : rangedB f u s r p q = true) : rangedB f u s 0 p q = true := by
  simp only [rangedB, Bool.and_eq_true, inB_iff] at h ⊢; omega
theorem oneT_free {u s r p q : Int} (h : oneT u s r p q = 0) : oneT u s 0 p q = 0 := by
  unfold oneT; rw [if_pos (ranged_free (oneT_zero h))]
theorem rides_law {u s r p q a b : Int} (a0 : 0 ≤ a) (b0 : 0 ≤ b) (ab : a + b ≤ 4294943999) (h : codeT (oneT u s r p q) (a + b) (costT s (a + b - r) p) = 0) :
    codeT (oneT u s r p q) a (costT s (a - r) p) = 0 ∧ codeT (oneT u s r p q) b (costT s (b - r) p) = 0 ∧
    valT (oneT u s r p q) a (costT s (a - r) p) ≤ valT (oneT u s r p q) (a + b) (costT s (a + b - r) p) ∧
    valT (oneT u s r p q) b (costT s (b - r) p) ≤ valT (oneT u s r p q) (a + b) (costT s (a + b - r) p) ∧
    0 ≤ valT (oneT u s r p q) a (costT s (a - r) p) ∧ valT (oneT u s r p q) (a + b) (costT s (a + b - r) p) ≤ 1000000000000 ∧
    (codeT (oneT u s 0 p q) b (costT s (b - 0) p) = 0 → valT (oneT u s r p q) (a + b) (costT s (a + b - r) p) ≤ valT (oneT u s r p q) a (costT s (a - r) p) + valT (oneT u s 0 p q) b (costT s (b - 0) p) ∧ 0 ≤ valT (oneT u s 0 p q) b (costT s (b - 0) p) ∧ valT (oneT u s 0 p q) b (costT s (b - 0) p) ≤ 1000000000000) := by
  obtain ⟨h1, h2, h3, h4⟩ := codeT_zero h
  have hr := ranged_bd (oneT_zero h1)
  have m1 : costT s (a - r) p ≤ costT s (a + b - r) p := cost_mono (by omega) (by omega) (by omega)
  have m2 : costT s (b - r) p ≤ costT s (a + b - r) p := cost_mono (by omega) (by omega) (by omega)
  have m3 : 0 ≤ costT s (a - r) p := cost_nn (by omega) (by omega)
  have c1 : codeT (oneT u s r p q) a (costT s (a - r) p) = 0 := codeT_ok h1 a0 (by omega) (by omega)
  have c2 : codeT (oneT u s r p q) b (costT s (b - r) p) = 0 := codeT_ok h1 b0 (by omega) (by omega)
  rw [valT_ok c1, valT_ok c2, valT_ok h]
  refine ⟨c1, c2, m1, m2, m3, h4, fun hk => ?_⟩
  rw [valT_ok hk]
  obtain ⟨_, _, _, k4⟩ := codeT_zero hk
  have m4 : costT s (a - r + b) p ≤ costT s (a - r) p + costT s b p := cost_add (by omega) (by omega)
  rw [show a - r + b = a + b - r by omega] at m4
  rw [show b - 0 = b by omega] at k4 ⊢
  exact ⟨m4, cost_nn (by omega) (by omega), k4⟩
theorem pauses_law {u s r p q a b : Int} (a0 : 0 ≤ a) (b0 : 0 ≤ b) (ab : a + b ≤ 4294943999) (h : codeT (oneT u s r p q) (a + b) (costT s (a + b) q) = 0) :
    codeT (oneT u s r p q) a (costT s a q) = 0 ∧ codeT (oneT u s r p q) b (costT s b q) = 0 ∧
    valT (oneT u s r p q) a (costT s a q) ≤ valT (oneT u s r p q) (a + b) (costT s (a + b) q) ∧
    valT (oneT u s r p q) b (costT s b q) ≤ valT (oneT u s r p q) (a + b) (costT s (a + b) q) ∧
    0 ≤ valT (oneT u s r p q) a (costT s a q) ∧ 0 ≤ valT (oneT u s r p q) b (costT s b q) ∧ valT (oneT u s r p q) (a + b) (costT s (a + b) q) ≤ 1000000000000 ∧
    valT (oneT u s r p q) (a + b) (costT s (a + b) q) ≤ valT (oneT u s r p q) a (costT s a q) + valT (oneT u s r p q) b (costT s b q) := by
  obtain ⟨h1, h2, h3, h4⟩ := codeT_zero h
  have hr := ranged_bd (oneT_zero h1)
  have m1 : costT s a q ≤ costT s (a + b) q := cost_mono (by omega) (by omega) (by omega)
  have m2 : costT s b q ≤ costT s (a + b) q := cost_mono (by omega) (by omega) (by omega)
  have c1 : codeT (oneT u s r p q) a (costT s a q) = 0 := codeT_ok h1 a0 (by omega) (by omega)
  have c2 : codeT (oneT u s r p q) b (costT s b q) = 0 := codeT_ok h1 b0 (by omega) (by omega)
  rw [valT_ok c1, valT_ok c2, valT_ok h]
  exact ⟨c1, c2, m1, m2, cost_nn (by omega) (by omega), cost_nn (by omega) (by omega), h4, cost_add (by omega) (by omega)⟩

theorem law9_any (f u s r p q a b : Int) (w : World) (ra : -9223372036854775808 ≤ a ∧ a ≤ 9223372036854775807) (rb : -9223372036854775808 ≤ b ∧ b ≤ 9223372036854775807) :
    Calls Try.prog 9 #[tv f u s r p q, .agg #[.int .i64 a, .int .i64 b]] w fun e w' => e = .returned (.bool true) ∧ Below w.heap.size w w' := by
  have Hk := Lib.hid (fun w1 h => two_blocks w #[.int .i64 f, .int .i64 u, .int .i64 s, .int .i64 r, .int .i64 p, .int .i64 q] #[.int .i64 a, .int .i64 b] 30 36 w1 h)
  by_cases ha : 0 ≤ a ∧ a ≤ 4294943999
  case neg =>
    rcases (show a < 0 ∨ 4294943999 < a by omega) with h | h
    all_goals
      obtain ⟨ka, kb, kf, kz⟩ := Hk.out ((w.alloc (.cells #[.int .i64 f, .int .i64 u, .int .i64 s, .int .i64 r, .int .i64 p, .int .i64 q] 30)).alloc (.cells #[.int .i64 a, .int .i64 b] 36)) (Below.refl _ _)
      have k0 := ka 0
      have k1 := ka 1
      have k2 := ka 2
      have k3 := ka 3
      have k4 := ka 4
      have k5 := ka 5
      have j0 := kb 0
      have j1 := kb 1
      simp only [List.getElem?_toArray, List.getElem?_cons_zero, List.getElem?_cons_succ] at k0 k1 k2 k3 k4 k5 j0 j1
      clear ka kb kf
      go_enter Try.func9, Try.ntmps9
      go_wp2_with fail
      go_quiet (fail)
      go_wp2_with fail
      all_goals
        refine (awake_any _).mono ?_
        rintro e w9 ⟨rfl, hb⟩
        have B9 := Lib.hid (below_drewN ((box_bel w _).trans ((box_bel (w.alloc (.cells #[.int .i64 f, .int .i64 u, .int .i64 s, .int .i64 r, .int .i64 p, .int .i64 q] 30)) (.cells #[.int .i64 a, .int .i64 b] 36)).mono (by simp))) nq)
        have B8 := Lib.hid (B9.out.trans (hb.mono B9.out.size))
        clear hb
        go_wp2_with fail
        go_ret
        exact ⟨rfl, B8.out⟩
  obtain ⟨a0, a1⟩ := ha
  have hwa : IntKind.i64.wrap (4294943999 - a) = 4294943999 - a := IntWalk.i64_in _ (by omega)
  by_cases hb0 : b < 0
  · obtain ⟨ka, kb, kf, kz⟩ := Hk.out ((w.alloc (.cells #[.int .i64 f, .int .i64 u, .int .i64 s, .int .i64 r, .int .i64 p, .int .i64 q] 30)).alloc (.cells #[.int .i64 a, .int .i64 b] 36)) (Below.refl _ _)
    have k0 := ka 0
    have k1 := ka 1
    have k2 := ka 2
    have k3 := ka 3
    have k4 := ka 4
    have k5 := ka 5
    have j0 := kb 0
    have j1 := kb 1
    simp only [List.getElem?_toArray, List.getElem?_cons_zero, List.getElem?_cons_succ] at k0 k1 k2 k3 k4 k5 j0 j1
    clear ka kb kf
    go_enter Try.func9, Try.ntmps9
    go_wp2_with fail
    go_quiet (fail)
    go_wp2_with fail
    all_goals
      refine (awake_any _).mono ?_
      rintro e w9 ⟨rfl, hb⟩
      have B9 := Lib.hid (below_drewN ((box_bel w _).trans ((box_bel (w.alloc (.cells #[.int .i64 f, .int .i64 u, .int .i64 s, .int .i64 r, .int .i64 p, .int .i64 q] 30)) (.cells #[.int .i64 a, .int .i64 b] 36)).mono (by simp))) nq)
      have B8 := Lib.hid (B9.out.trans (hb.mono B9.out.size))
      clear hb
      go_wp2_with fail
      go_ret
      exact ⟨rfl, B8.out⟩
  have b0 : 0 ≤ b := by omega
  by_cases hab : 4294943999 - a < b
  · obtain ⟨ka, kb, kf, kz⟩ := Hk.out ((w.alloc (.cells #[.int .i64 f, .int .i64 u, .int .i64 s, .int .i64 r, .int .i64 p, .int .i64 q] 30)).alloc (.cells #[.int .i64 a, .int .i64 b] 36)) (Below.refl _ _)
    have k0 := ka 0
    have k1 := ka 1
    have k2 := ka 2
    have k3 := ka 3
    have k4 := ka 4
    have k5 := ka 5
    have j0 := kb 0
    have j1 := kb 1
    simp only [List.getElem?_toArray, List.getElem?_cons_zero, List.getElem?_cons_succ] at k0 k1 k2 k3 k4 k5 j0 j1
    clear ka kb kf
    go_enter Try.func9, Try.ntmps9
    go_wp2_with fail
    go_quiet (fail)
    go_wp2_with fail
    all_goals
      refine (awake_any _).mono ?_
      rintro e w9 ⟨rfl, hb⟩
      have B9 := Lib.hid (below_drewN ((box_bel w _).trans ((box_bel (w.alloc (.cells #[.int .i64 f, .int .i64 u, .int .i64 s, .int .i64 r, .int .i64 p, .int .i64 q] 30)) (.cells #[.int .i64 a, .int .i64 b] 36)).mono (by simp))) nq)
      have B8 := Lib.hid (B9.out.trans (hb.mono B9.out.size))
      clear hb
      go_wp2_with fail
      go_ret
      exact ⟨rfl, B8.out⟩
  have ab : a + b ≤ 4294943999 := by omega
  have hwab : IntKind.i64.wrap (a + b) = a + b := IntWalk.i64_in _ (by omega)
  clear hb0 ra rb
  have hR := fun h => rides_law (u := u) (s := s) (r := r) (p := p) (q := q) a0 b0 ab h
  have hP := fun h => pauses_law (u := u) (s := s) (r := r) (p := p) (q := q) a0 b0 ab h
  obtain ⟨v1, hv1⟩ : ∃ x, valT (oneT u s r p q) a (costT s (a - r) p) = x := ⟨_, rfl⟩
  obtain ⟨c1, hc1⟩ : ∃ x, codeT (oneT u s r p q) a (costT s (a - r) p) = x := ⟨_, rfl⟩
  obtain ⟨v2, hv2⟩ : ∃ x, valT (oneT u s r p q) b (costT s (b - r) p) = x := ⟨_, rfl⟩
  obtain ⟨c2, hc2⟩ : ∃ x, codeT (oneT u s r p q) b (costT s (b - r) p) = x := ⟨_, rfl⟩
  obtain ⟨v3, hv3⟩ : ∃ x, valT (oneT u s r p q) (a + b) (costT s (a + b - r) p) = x := ⟨_, rfl⟩
  obtain ⟨c3, hc3⟩ : ∃ x, codeT (oneT u s r p q) (a + b) (costT s (a + b - r) p) = x := ⟨_, rfl⟩
  obtain ⟨v4, hv4⟩ : ∃ x, valT (oneT u s r p q) a (costT s a q) = x := ⟨_, rfl⟩
  obtain ⟨c4, hc4⟩ : ∃ x, codeT (oneT u s r p q) a (costT s a q) = x := ⟨_, rfl⟩
  obtain ⟨v5, hv5⟩ : ∃ x, valT (oneT u s r p q) b (costT s b q) = x := ⟨_, rfl⟩
  obtain ⟨c5, hc5⟩ : ∃ x, codeT (oneT u s r p q) b (costT s b q) = x := ⟨_, rfl⟩
  obtain ⟨v6, hv6⟩ : ∃ x, valT (oneT u s r p q) (a + b) (costT s (a + b) q) = x := ⟨_, rfl⟩
  obtain ⟨c6, hc6⟩ : ∃ x, codeT (oneT u s r p q) (a + b) (costT s (a + b) q) = x := ⟨_, rfl⟩
  obtain ⟨v7, hv7⟩ : ∃ x, valT (oneT u s 0 p q) b (costT s (b - 0) p) = x := ⟨_, rfl⟩
  obtain ⟨c7, hc7⟩ : ∃ x, codeT (oneT u s 0 p q) b (costT s (b - 0) p) = x := ⟨_, rfl⟩
  rw [hv1, hc1, hv2, hc2, hv3, hc3, hv7, hc7] at hR
  rw [hv4, hc4, hv5, hc5, hv6, hc6] at hP
  have HV1 := Lib.hid hv1
  have HC1 := Lib.hid hc1
  have HV2 := Lib.hid hv2
  have HC2 := Lib.hid hc2
  have HV3 := Lib.hid hv3
  have HC3 := Lib.hid hc3
  have HV4 := Lib.hid hv4
  have HC4 := Lib.hid hc4
  have HV5 := Lib.hid hv5
  have HC5 := Lib.hid hc5
  have HV6 := Lib.hid hv6
  have HC6 := Lib.hid hc6
  have HV7 := Lib.hid hv7
  have HC7 := Lib.hid hc7
  clear hv1 hc1 hv2 hc2 hv3 hc3 hv4 hc4 hv5 hc5 hv6 hc6 hv7 hc7
  by_cases hg : c3 = 0
  · subst hg
    obtain ⟨rfl, rfl, p1, p2, p3, p4, p5⟩ := hR rfl
    by_cases hk : c7 = 0
    · subst hk
      obtain ⟨p6, p7, p8⟩ := p5 rfl
      have hwp : IntKind.i64.wrap (v1 + v7) = v1 + v7 := IntWalk.i64_in _ (by omega)
      by_cases hj : c6 = 0
      · subst hj
        obtain ⟨rfl, rfl, q1, q2, q3, q4, q5, q6⟩ := hP rfl
        have hwq : IntKind.i64.wrap (v4 + v5) = v4 + v5 := IntWalk.i64_in _ (by omega)
        obtain ⟨ka, kb, kf, kz⟩ := Hk.out ((w.alloc (.cells #[.int .i64 f, .int .i64 u, .int .i64 s, .int .i64 r, .int .i64 p, .int .i64 q] 30)).alloc (.cells #[.int .i64 a, .int .i64 b] 36)) (Below.refl _ _)
        have k0 := ka 0
        have k1 := ka 1
        have k2 := ka 2
        have k3 := ka 3
        have k4 := ka 4
        have k5 := ka 5
        have j0 := kb 0
        have j1 := kb 1
        simp only [List.getElem?_toArray, List.getElem?_cons_zero, List.getElem?_cons_succ] at k0 k1 k2 k3 k4 k5 j0 j1
        clear ka kb kf
        go_enter Try.func9, Try.ntmps9
        go_wp2_with fail
        go_quiet (fail)
        go_wp2_with fail
        refine (time15 f u s r p q a _).mono ?_
        rw [HV1.out, HC1.out]
        rintro e w1 ⟨rfl, hb⟩
        have B : Hid (Below (w.heap.size + 2) ((w.alloc (.cells #[.int .i64 f, .int .i64 u, .int .i64 s, .int .i64 r, .int .i64 p, .int .i64 q] 30)).alloc (.cells #[.int .i64 a, .int .i64 b] 36)) w1) := Lib.hid ((below_drewN (Below.refl (w.heap.size + 2) ((w.alloc (.cells #[.int .i64 f, .int .i64 u, .int .i64 s, .int .i64 r, .int .i64 p, .int .i64 q] 30)).alloc (.cells #[.int .i64 a, .int .i64 b] 36))) _).trans (hb.mono (show w.heap.size + 2 ≤ _ by simp)))
        clear hb k0 k1 k2 k3 k4 k5 j0 j1 kz
        obtain ⟨ka, kb, kf, kz⟩ := Hk.out w1 B.out
        have k0 := ka 0
        have k1 := ka 1
        have k2 := ka 2
        have k3 := ka 3
        have k4 := ka 4
        have k5 := ka 5
        have j0 := kb 0
        have j1 := kb 1
        simp only [List.getElem?_toArray, List.getElem?_cons_zero, List.getElem?_cons_succ] at k0 k1 k2 k3 k4 k5 j0 j1
        clear ka kb kf
        go_wp2_with fail
        refine (time15 f u s r p q b _).mono ?_
        rw [HV2.out, HC2.out]
        rintro e w2 ⟨rfl, hb⟩
        have B' := Lib.hid (B.out.trans (hb.mono kz))
        clear B
        have B := B'
        clear B'
        clear hb k0 k1 k2 k3 k4 k5 j0 j1 kz
        obtain ⟨ka, kb, kf, kz⟩ := Hk.out w2 B.out
        have k0 := ka 0
        have k1 := ka 1
        have k2 := ka 2
        have k3 := ka 3
        have k4 := ka 4
        have k5 := ka 5
        have j0 := kb 0
        have j1 := kb 1
        simp only [List.getElem?_toArray, List.getElem?_cons_zero, List.getElem?_cons_succ] at k0 k1 k2 k3 k4 k5 j0 j1
        clear ka kb kf
        go_wp2_with fail
        refine (time15 f u s r p q (a + b) _).mono ?_
        rw [HV3.out, HC3.out]
        rintro e w3 ⟨rfl, hb⟩
        have B' := Lib.hid (B.out.trans (hb.mono kz))
        clear B
        have B := B'
        clear B'
        clear hb k0 k1 k2 k3 k4 k5 j0 j1 kz
        obtain ⟨ka, kb, kf, kz⟩ := Hk.out w3 B.out
        have k0 := ka 0
        have k1 := ka 1
        have k2 := ka 2
        have k3 := ka 3
        have k4 := ka 4
        have k5 := ka 5
        have j0 := kb 0
        have j1 := kb 1
        simp only [List.getElem?_toArray, List.getElem?_cons_zero, List.getElem?_cons_succ] at k0 k1 k2 k3 k4 k5 j0 j1
        clear ka kb kf
        go_wp2_with fail
        refine (pauses17 f u s r p q a _).mono ?_
        rw [HV4.out, HC4.out]
        rintro e w4 ⟨rfl, hb⟩
        have B' := Lib.hid (B.out.trans (hb.mono kz))
        clear B
        have B := B'
        clear B'
        clear hb k0 k1 k2 k3 k4 k5 j0 j1 kz
        obtain ⟨ka, kb, kf, kz⟩ := Hk.out w4 B.out
        have k0 := ka 0
        have k1 := ka 1
        have k2 := ka 2
        have k3 := ka 3
        have k4 := ka 4
        have k5 := ka 5
        have j0 := kb 0
        have j1 := kb 1
        simp only [List.getElem?_toArray, List.getElem?_cons_zero, List.getElem?_cons_succ] at k0 k1 k2 k3 k4 k5 j0 j1
        clear ka kb kf
        go_wp2_with fail
        refine (pauses17 f u s r p q b _).mono ?_
        rw [HV5.out, HC5.out]
        rintro e w5 ⟨rfl, hb⟩
        have B' := Lib.hid (B.out.trans (hb.mono kz))
        clear B
        have B := B'
        clear B'
        clear hb k0 k1 k2 k3 k4 k5 j0 j1 kz
        obtain ⟨ka, kb, kf, kz⟩ := Hk.out w5 B.out
        have k0 := ka 0
        have k1 := ka 1
        have k2 := ka 2
        have k3 := ka 3
        have k4 := ka 4
        have k5 := ka 5
        have j0 := kb 0
        have j1 := kb 1
        simp only [List.getElem?_toArray, List.getElem?_cons_zero, List.getElem?_cons_succ] at k0 k1 k2 k3 k4 k5 j0 j1
        clear ka kb kf
        go_wp2_with fail
        refine (pauses17 f u s r p q (a + b) _).mono ?_
        rw [HV6.out, HC6.out]
        rintro e w6 ⟨rfl, hb⟩
        have B' := Lib.hid (B.out.trans (hb.mono kz))
        clear B
        have B := B'
        clear B'
        clear hb k0 k1 k2 k3 k4 k5 j0 j1 kz
        obtain ⟨ka, kb, kf, kz⟩ := Hk.out w6 B.out
        have k0 := ka 0
        have k1 := ka 1
        have k2 := ka 2
        have k3 := ka 3
        have k4 := ka 4
        have k5 := ka 5
        have j0 := kb 0
        have j1 := kb 1
        simp only [List.getElem?_toArray, List.getElem?_cons_zero, List.getElem?_cons_succ] at k0 k1 k2 k3 k4 k5 j0 j1
        clear ka kb kf
        go_wp2_with fail
        refine (time15 f u s 0 p q b _).mono ?_
        rw [HV7.out, HC7.out]
        rintro e w7 ⟨rfl, hb⟩
        have B' := Lib.hid (B.out.trans (((Below.refl (w.heap.size + 2) w6).alloc kz _).trans (hb.mono (by simp; omega))))
        clear B
        have B := B'
        clear B'
        clear hb k0 k1 k2 k3 k4 k5 j0 j1
        have kz' := (Hk.out w7 B.out).2.2.2
        go_wp2_with fail
        refine (awake_any _).mono ?_
        rintro e w9 ⟨rfl, hb⟩
        have B9 := Lib.hid ((box_bel w _).trans ((box_bel (w.alloc (.cells #[.int .i64 f, .int .i64 u, .int .i64 s, .int .i64 r, .int .i64 p, .int .i64 q] 30)) (.cells #[.int .i64 a, .int .i64 b] 36)).mono (by simp)))
        have B8 := Lib.hid (B9.out.trans ((B.out.trans (hb.mono kz')).mono (by omega)))
        clear hb
        go_wp2_with fail
        go_ret
        exact ⟨rfl, B8.out⟩
      · have hjb : (c6 == 0) = false := by simpa using hj
        clear hj hP
        obtain ⟨ka, kb, kf, kz⟩ := Hk.out ((w.alloc (.cells #[.int .i64 f, .int .i64 u, .int .i64 s, .int .i64 r, .int .i64 p, .int .i64 q] 30)).alloc (.cells #[.int .i64 a, .int .i64 b] 36)) (Below.refl _ _)
        have k0 := ka 0
        have k1 := ka 1
        have k2 := ka 2
        have k3 := ka 3
        have k4 := ka 4
        have k5 := ka 5
        have j0 := kb 0
        have j1 := kb 1
        simp only [List.getElem?_toArray, List.getElem?_cons_zero, List.getElem?_cons_succ] at k0 k1 k2 k3 k4 k5 j0 j1
        clear ka kb kf
        go_enter Try.func9, Try.ntmps9
        go_wp2_with fail
        go_quiet (fail)
        go_wp2_with fail
        refine (time15 f u s r p q a _).mono ?_
        rw [HV1.out, HC1.out]
        rintro e w1 ⟨rfl, hb⟩
        have B : Hid (Below (w.heap.size + 2) ((w.alloc (.cells #[.int .i64 f, .int .i64 u, .int .i64 s, .int .i64 r, .int .i64 p, .int .i64 q] 30)).alloc (.cells #[.int .i64 a, .int .i64 b] 36)) w1) := Lib.hid ((below_drewN (Below.refl (w.heap.size + 2) ((w.alloc (.cells #[.int .i64 f, .int .i64 u, .int .i64 s, .int .i64 r, .int .i64 p, .int .i64 q] 30)).alloc (.cells #[.int .i64 a, .int .i64 b] 36))) _).trans (hb.mono (show w.heap.size + 2 ≤ _ by simp)))
        clear hb k0 k1 k2 k3 k4 k5 j0 j1 kz
        obtain ⟨ka, kb, kf, kz⟩ := Hk.out w1 B.out
        have k0 := ka 0
        have k1 := ka 1
        have k2 := ka 2
        have k3 := ka 3
        have k4 := ka 4
        have k5 := ka 5
        have j0 := kb 0
        have j1 := kb 1
        simp only [List.getElem?_toArray, List.getElem?_cons_zero, List.getElem?_cons_succ] at k0 k1 k2 k3 k4 k5 j0 j1
        clear ka kb kf
        go_wp2_with fail
        refine (time15 f u s r p q b _).mono ?_
        rw [HV2.out, HC2.out]
        rintro e w2 ⟨rfl, hb⟩
        have B' := Lib.hid (B.out.trans (hb.mono kz))
        clear B
        have B := B'
        clear B'
        clear hb k0 k1 k2 k3 k4 k5 j0 j1 kz
        obtain ⟨ka, kb, kf, kz⟩ := Hk.out w2 B.out
        have k0 := ka 0
        have k1 := ka 1
        have k2 := ka 2
        have k3 := ka 3
        have k4 := ka 4
        have k5 := ka 5
        have j0 := kb 0
        have j1 := kb 1
        simp only [List.getElem?_toArray, List.getElem?_cons_zero, List.getElem?_cons_succ] at k0 k1 k2 k3 k4 k5 j0 j1
        clear ka kb kf
        go_wp2_with fail
        refine (time15 f u s r p q (a + b) _).mono ?_
        rw [HV3.out, HC3.out]
        rintro e w3 ⟨rfl, hb⟩
        have B' := Lib.hid (B.out.trans (hb.mono kz))
        clear B
        have B := B'
        clear B'
        clear hb k0 k1 k2 k3 k4 k5 j0 j1 kz
        obtain ⟨ka, kb, kf, kz⟩ := Hk.out w3 B.out
        have k0 := ka 0
        have k1 := ka 1
        have k2 := ka 2
        have k3 := ka 3
        have k4 := ka 4
        have k5 := ka 5
        have j0 := kb 0
        have j1 := kb 1
        simp only [List.getElem?_toArray, List.getElem?_cons_zero, List.getElem?_cons_succ] at k0 k1 k2 k3 k4 k5 j0 j1
        clear ka kb kf
        go_wp2_with fail
        refine (pauses17 f u s r p q a _).mono ?_
        rw [HV4.out, HC4.out]
        rintro e w4 ⟨rfl, hb⟩
        have B' := Lib.hid (B.out.trans (hb.mono kz))
        clear B
        have B := B'
        clear B'
        clear hb k0 k1 k2 k3 k4 k5 j0 j1 kz
        obtain ⟨ka, kb, kf, kz⟩ := Hk.out w4 B.out
        have k0 := ka 0
        have k1 := ka 1
        have k2 := ka 2
        have k3 := ka 3
        have k4 := ka 4
        have k5 := ka 5
        have j0 := kb 0
        have j1 := kb 1
        simp only [List.getElem?_toArray, List.getElem?_cons_zero, List.getElem?_cons_succ] at k0 k1 k2 k3 k4 k5 j0 j1
        clear ka kb kf
        go_wp2_with fail
        refine (pauses17 f u s r p q b _).mono ?_
        rw [HV5.out, HC5.out]
        rintro e w5 ⟨rfl, hb⟩
        have B' := Lib.hid (B.out.trans (hb.mono kz))
        clear B
        have B := B'
        clear B'
        clear hb k0 k1 k2 k3 k4 k5 j0 j1 kz
        obtain ⟨ka, kb, kf, kz⟩ := Hk.out w5 B.out
        have k0 := ka 0
        have k1 := ka 1
        have k2 := ka 2
        have k3 := ka 3
        have k4 := ka 4
        have k5 := ka 5
        have j0 := kb 0
        have j1 := kb 1
        simp only [List.getElem?_toArray, List.getElem?_cons_zero, List.getElem?_cons_succ] at k0 k1 k2 k3 k4 k5 j0 j1
        clear ka kb kf
        go_wp2_with fail
        refine (pauses17 f u s r p q (a + b) _).mono ?_
        rw [HV6.out, HC6.out]
        rintro e w6 ⟨rfl, hb⟩
        have B' := Lib.hid (B.out.trans (hb.mono kz))
        clear B
        have B := B'
        clear B'
        clear hb k0 k1 k2 k3 k4 k5 j0 j1 kz
        obtain ⟨ka, kb, kf, kz⟩ := Hk.out w6 B.out
        have k0 := ka 0
        have k1 := ka 1
        have k2 := ka 2
        have k3 := ka 3
        have k4 := ka 4
        have k5 := ka 5
        have j0 := kb 0
        have j1 := kb 1
        simp only [List.getElem?_toArray, List.getElem?_cons_zero, List.getElem?_cons_succ] at k0 k1 k2 k3 k4 k5 j0 j1
        clear ka kb kf
        go_wp2_with fail
        refine (time15 f u s 0 p q b _).mono ?_
        rw [HV7.out, HC7.out]
        rintro e w7 ⟨rfl, hb⟩
        have B' := Lib.hid (B.out.trans (((Below.refl (w.heap.size + 2) w6).alloc kz _).trans (hb.mono (by simp; omega))))
        clear B
        have B := B'
        clear B'
        clear hb k0 k1 k2 k3 k4 k5 j0 j1
        have kz' := (Hk.out w7 B.out).2.2.2
        go_wp2_with fail
        refine (awake_any _).mono ?_
        rintro e w9 ⟨rfl, hb⟩
        have B9 := Lib.hid ((box_bel w _).trans ((box_bel (w.alloc (.cells #[.int .i64 f, .int .i64 u, .int .i64 s, .int .i64 r, .int .i64 p, .int .i64 q] 30)) (.cells #[.int .i64 a, .int .i64 b] 36)).mono (by simp)))
        have B8 := Lib.hid (B9.out.trans ((B.out.trans (hb.mono kz')).mono (by omega)))
        clear hb
        go_wp2_with fail
        go_ret
        exact ⟨rfl, B8.out⟩
    · have hkb : (c7 == 0) = false := by simpa using hk
      clear hk p5
      by_cases hj : c6 = 0
      · subst hj
        obtain ⟨rfl, rfl, q1, q2, q3, q4, q5, q6⟩ := hP rfl
        have hwq : IntKind.i64.wrap (v4 + v5) = v4 + v5 := IntWalk.i64_in _ (by omega)
        obtain ⟨ka, kb, kf, kz⟩ := Hk.out ((w.alloc (.cells #[.int .i64 f, .int .i64 u, .int .i64 s, .int .i64 r, .int .i64 p, .int .i64 q] 30)).alloc (.cells #[.int .i64 a, .int .i64 b] 36)) (Below.refl _ _)
        have k0 := ka 0
        have k1 := ka 1
        have k2 := ka 2
        have k3 := ka 3
        have k4 := ka 4
        have k5 := ka 5
        have j0 := kb 0
        have j1 := kb 1
        simp only [List.getElem?_toArray, List.getElem?_cons_zero, List.getElem?_cons_succ] at k0 k1 k2 k3 k4 k5 j0 j1
        clear ka kb kf
        go_enter Try.func9, Try.ntmps9
        go_wp2_with fail
        go_quiet (fail)
        go_wp2_with fail
        refine (time15 f u s r p q a _).mono ?_
        rw [HV1.out, HC1.out]
        rintro e w1 ⟨rfl, hb⟩
        have B : Hid (Below (w.heap.size + 2) ((w.alloc (.cells #[.int .i64 f, .int .i64 u, .int .i64 s, .int .i64 r, .int .i64 p, .int .i64 q] 30)).alloc (.cells #[.int .i64 a, .int .i64 b] 36)) w1) := Lib.hid ((below_drewN (Below.refl (w.heap.size + 2) ((w.alloc (.cells #[.int .i64 f, .int .i64 u, .int .i64 s, .int .i64 r, .int .i64 p, .int .i64 q] 30)).alloc (.cells #[.int .i64 a, .int .i64 b] 36))) _).trans (hb.mono (show w.heap.size + 2 ≤ _ by simp)))
        clear hb k0 k1 k2 k3 k4 k5 j0 j1 kz
        obtain ⟨ka, kb, kf, kz⟩ := Hk.out w1 B.out
        have k0 := ka 0
        have k1 := ka 1
        have k2 := ka 2
        have k3 := ka 3
        have k4 := ka 4
        have k5 := ka 5
        have j0 := kb 0
        have j1 := kb 1
        simp only [List.getElem?_toArray, List.getElem?_cons_zero, List.getElem?_cons_succ] at k0 k1 k2 k3 k4 k5 j0 j1
        clear ka kb kf
        go_wp2_with fail
        refine (time15 f u s r p q b _).mono ?_
        rw [HV2.out, HC2.out]
        rintro e w2 ⟨rfl, hb⟩
        have B' := Lib.hid (B.out.trans (hb.mono kz))
        clear B
        have B := B'
        clear B'
        clear hb k0 k1 k2 k3 k4 k5 j0 j1 kz
        obtain ⟨ka, kb, kf, kz⟩ := Hk.out w2 B.out
        have k0 := ka 0
        have k1 := ka 1
        have k2 := ka 2
        have k3 := ka 3
        have k4 := ka 4
        have k5 := ka 5
        have j0 := kb 0
        have j1 := kb 1
        simp only [List.getElem?_toArray, List.getElem?_cons_zero, List.getElem?_cons_succ] at k0 k1 k2 k3 k4 k5 j0 j1
        clear ka kb kf
        go_wp2_with fail
        refine (time15 f u s r p q (a + b) _).mono ?_
        rw [HV3.out, HC3.out]
        rintro e w3 ⟨rfl, hb⟩
        have B' := Lib.hid (B.out.trans (hb.mono kz))
        clear B
        have B := B'
        clear B'
        clear hb k0 k1 k2 k3 k4 k5 j0 j1 kz
        obtain ⟨ka, kb, kf, kz⟩ := Hk.out w3 B.out
        have k0 := ka 0
        have k1 := ka 1
        have k2 := ka 2
        have k3 := ka 3
        have k4 := ka 4
        have k5 := ka 5
        have j0 := kb 0
        have j1 := kb 1
        simp only [List.getElem?_toArray, List.getElem?_cons_zero, List.getElem?_cons_succ] at k0 k1 k2 k3 k4 k5 j0 j1
        clear ka kb kf
        go_wp2_with fail
        refine (pauses17 f u s r p q a _).mono ?_
        rw [HV4.out, HC4.out]
        rintro e w4 ⟨rfl, hb⟩
        have B' := Lib.hid (B.out.trans (hb.mono kz))
        clear B
        have B := B'
        clear B'
        clear hb k0 k1 k2 k3 k4 k5 j0 j1 kz
        obtain ⟨ka, kb, kf, kz⟩ := Hk.out w4 B.out
        have k0 := ka 0
        have k1 := ka 1
        have k2 := ka 2
        have k3 := ka 3
        have k4 := ka 4
        have k5 := ka 5
        have j0 := kb 0
        have j1 := kb 1
        simp only [List.getElem?_toArray, List.getElem?_cons_zero, List.getElem?_cons_succ] at k0 k1 k2 k3 k4 k5 j0 j1
        clear ka kb kf
        go_wp2_with fail
        refine (pauses17 f u s r p q b _).mono ?_
        rw [HV5.out, HC5.out]
        rintro e w5 ⟨rfl, hb⟩
        have B' := Lib.hid (B.out.trans (hb.mono kz))
        clear B
        have B := B'
        clear B'
        clear hb k0 k1 k2 k3 k4 k5 j0 j1 kz
        obtain ⟨ka, kb, kf, kz⟩ := Hk.out w5 B.out
        have k0 := ka 0
        have k1 := ka 1
        have k2 := ka 2
        have k3 := ka 3
        have k4 := ka 4
        have k5 := ka 5
        have j0 := kb 0
        have j1 := kb 1
        simp only [List.getElem?_toArray, List.getElem?_cons_zero, List.getElem?_cons_succ] at k0 k1 k2 k3 k4 k5 j0 j1
        clear ka kb kf
        go_wp2_with fail
        refine (pauses17 f u s r p q (a + b) _).mono ?_
        rw [HV6.out, HC6.out]
        rintro e w6 ⟨rfl, hb⟩
        have B' := Lib.hid (B.out.trans (hb.mono kz))
        clear B
        have B := B'
        clear B'
        clear hb k0 k1 k2 k3 k4 k5 j0 j1 kz
        obtain ⟨ka, kb, kf, kz⟩ := Hk.out w6 B.out
        have k0 := ka 0
        have k1 := ka 1
        have k2 := ka 2
        have k3 := ka 3
        have k4 := ka 4
        have k5 := ka 5
        have j0 := kb 0
        have j1 := kb 1
        simp only [List.getElem?_toArray, List.getElem?_cons_zero, List.getElem?_cons_succ] at k0 k1 k2 k3 k4 k5 j0 j1
        clear ka kb kf
        go_wp2_with fail
        refine (time15 f u s 0 p q b _).mono ?_
        rw [HV7.out, HC7.out]
        rintro e w7 ⟨rfl, hb⟩
        have B' := Lib.hid (B.out.trans (((Below.refl (w.heap.size + 2) w6).alloc kz _).trans (hb.mono (by simp; omega))))
        clear B
        have B := B'
        clear B'
        clear hb k0 k1 k2 k3 k4 k5 j0 j1
        have kz' := (Hk.out w7 B.out).2.2.2
        go_wp2_with fail
        refine (awake_any _).mono ?_
        rintro e w9 ⟨rfl, hb⟩
        have B9 := Lib.hid ((box_bel w _).trans ((box_bel (w.alloc (.cells #[.int .i64 f, .int .i64 u, .int .i64 s, .int .i64 r, .int .i64 p, .int .i64 q] 30)) (.cells #[.int .i64 a, .int .i64 b] 36)).mono (by simp)))
        have B8 := Lib.hid (B9.out.trans ((B.out.trans (hb.mono kz')).mono (by omega)))
        clear hb
        go_wp2_with fail
        go_ret
        exact ⟨rfl, B8.out⟩
      · have hjb : (c6 == 0) = false := by simpa using hj
        clear hj hP
        obtain ⟨ka, kb, kf, kz⟩ := Hk.out ((w.alloc (.cells #[.int .i64 f, .int .i64 u, .int .i64 s, .int .i64 r, .int .i64 p, .int .i64 q] 30)).alloc (.cells #[.int .i64 a, .int .i64 b] 36)) (Below.refl _ _)
        have k0 := ka 0
        have k1 := ka 1
        have k2 := ka 2
        have k3 := ka 3
        have k4 := ka 4
        have k5 := ka 5
        have j0 := kb 0
        have j1 := kb 1
        simp only [List.getElem?_toArray, List.getElem?_cons_zero, List.getElem?_cons_succ] at k0 k1 k2 k3 k4 k5 j0 j1
        clear ka kb kf
        go_enter Try.func9, Try.ntmps9
        go_wp2_with fail
        go_quiet (fail)
        go_wp2_with fail
        refine (time15 f u s r p q a _).mono ?_
        rw [HV1.out, HC1.out]
        rintro e w1 ⟨rfl, hb⟩
        have B : Hid (Below (w.heap.size + 2) ((w.alloc (.cells #[.int .i64 f, .int .i64 u, .int .i64 s, .int .i64 r, .int .i64 p, .int .i64 q] 30)).alloc (.cells #[.int .i64 a, .int .i64 b] 36)) w1) := Lib.hid ((below_drewN (Below.refl (w.heap.size + 2) ((w.alloc (.cells #[.int .i64 f, .int .i64 u, .int .i64 s, .int .i64 r, .int .i64 p, .int .i64 q] 30)).alloc (.cells #[.int .i64 a, .int .i64 b] 36))) _).trans (hb.mono (show w.heap.size + 2 ≤ _ by simp)))
        clear hb k0 k1 k2 k3 k4 k5 j0 j1 kz
        obtain ⟨ka, kb, kf, kz⟩ := Hk.out w1 B.out
        have k0 := ka 0
        have k1 := ka 1
        have k2 := ka 2
        have k3 := ka 3
        have k4 := ka 4
        have k5 := ka 5
        have j0 := kb 0
        have j1 := kb 1
        simp only [List.getElem?_toArray, List.getElem?_cons_zero, List.getElem?_cons_succ] at k0 k1 k2 k3 k4 k5 j0 j1
        clear ka kb kf
        go_wp2_with fail
        refine (time15 f u s r p q b _).mono ?_
        rw [HV2.out, HC2.out]
        rintro e w2 ⟨rfl, hb⟩
        have B' := Lib.hid (B.out.trans (hb.mono kz))
        clear B
        have B := B'
        clear B'
        clear hb k0 k1 k2 k3 k4 k5 j0 j1 kz
        obtain ⟨ka, kb, kf, kz⟩ := Hk.out w2 B.out
        have k0 := ka 0
        have k1 := ka 1
        have k2 := ka 2
        have k3 := ka 3
        have k4 := ka 4
        have k5 := ka 5
        have j0 := kb 0
        have j1 := kb 1
        simp only [List.getElem?_toArray, List.getElem?_cons_zero, List.getElem?_cons_succ] at k0 k1 k2 k3 k4 k5 j0 j1
        clear ka kb kf
        go_wp2_with fail
        refine (time15 f u s r p q (a + b) _).mono ?_
        rw [HV3.out, HC3.out]
        rintro e w3 ⟨rfl, hb⟩
        have B' := Lib.hid (B.out.trans (hb.mono kz))
        clear B
        have B := B'
        clear B'
        clear hb k0 k1 k2 k3 k4 k5 j0 j1 kz
        obtain ⟨ka, kb, kf, kz⟩ := Hk.out w3 B.out
        have k0 := ka 0
        have k1 := ka 1
        have k2 := ka 2
        have k3 := ka 3
        have k4 := ka 4
        have k5 := ka 5
        have j0 := kb 0
        have j1 := kb 1
        simp only [List.getElem?_toArray, List.getElem?_cons_zero, List.getElem?_cons_succ] at k0 k1 k2 k3 k4 k5 j0 j1
        clear ka kb kf
        go_wp2_with fail
        refine (pauses17 f u s r p q a _).mono ?_
        rw [HV4.out, HC4.out]
        rintro e w4 ⟨rfl, hb⟩
        have B' := Lib.hid (B.out.trans (hb.mono kz))
        clear B
        have B := B'
        clear B'
        clear hb k0 k1 k2 k3 k4 k5 j0 j1 kz
        obtain ⟨ka, kb, kf, kz⟩ := Hk.out w4 B.out
        have k0 := ka 0
        have k1 := ka 1
        have k2 := ka 2
        have k3 := ka 3
        have k4 := ka 4
        have k5 := ka 5
        have j0 := kb 0
        have j1 := kb 1
        simp only [List.getElem?_toArray, List.getElem?_cons_zero, List.getElem?_cons_succ] at k0 k1 k2 k3 k4 k5 j0 j1
        clear ka kb kf
        go_wp2_with fail
        refine (pauses17 f u s r p q b _).mono ?_
        rw [HV5.out, HC5.out]
        rintro e w5 ⟨rfl, hb⟩
        have B' := Lib.hid (B.out.trans (hb.mono kz))
        clear B
        have B := B'
        clear B'
        clear hb k0 k1 k2 k3 k4 k5 j0 j1 kz
        obtain ⟨ka, kb, kf, kz⟩ := Hk.out w5 B.out
        have k0 := ka 0
        have k1 := ka 1
        have k2 := ka 2
        have k3 := ka 3
        have k4 := ka 4
        have k5 := ka 5
        have j0 := kb 0
        have j1 := kb 1
        simp only [List.getElem?_toArray, List.getElem?_cons_zero, List.getElem?_cons_succ] at k0 k1 k2 k3 k4 k5 j0 j1
        clear ka kb kf
        go_wp2_with fail
        refine (pauses17 f u s r p q (a + b) _).mono ?_
        rw [HV6.out, HC6.out]
        rintro e w6 ⟨rfl, hb⟩
        have B' := Lib.hid (B.out.trans (hb.mono kz))
        clear B
        have B := B'
        clear B'
        clear hb k0 k1 k2 k3 k4 k5 j0 j1 kz
        obtain ⟨ka, kb, kf, kz⟩ := Hk.out w6 B.out
        have k0 := ka 0
        have k1 := ka 1
        have k2 := ka 2
        have k3 := ka 3
        have k4 := ka 4
        have k5 := ka 5
        have j0 := kb 0
        have j1 := kb 1
        simp only [List.getElem?_toArray, List.getElem?_cons_zero, List.getElem?_cons_succ] at k0 k1 k2 k3 k4 k5 j0 j1
        clear ka kb kf
        go_wp2_with fail
        refine (time15 f u s 0 p q b _).mono ?_
        rw [HV7.out, HC7.out]
        rintro e w7 ⟨rfl, hb⟩
        have B' := Lib.hid (B.out.trans (((Below.refl (w.heap.size + 2) w6).alloc kz _).trans (hb.mono (by simp; omega))))
        clear B
        have B := B'
        clear B'
        clear hb k0 k1 k2 k3 k4 k5 j0 j1
        have kz' := (Hk.out w7 B.out).2.2.2
        go_wp2_with fail
        refine (awake_any _).mono ?_
        rintro e w9 ⟨rfl, hb⟩
        have B9 := Lib.hid ((box_bel w _).trans ((box_bel (w.alloc (.cells #[.int .i64 f, .int .i64 u, .int .i64 s, .int .i64 r, .int .i64 p, .int .i64 q] 30)) (.cells #[.int .i64 a, .int .i64 b] 36)).mono (by simp)))
        have B8 := Lib.hid (B9.out.trans ((B.out.trans (hb.mono kz')).mono (by omega)))
        clear hb
        go_wp2_with fail
        go_ret
        exact ⟨rfl, B8.out⟩
  · have hgb : (c3 == 0) = false := by simpa using hg
    clear hg hR
    by_cases hj : c6 = 0
    · subst hj
      obtain ⟨rfl, rfl, q1, q2, q3, q4, q5, q6⟩ := hP rfl
      have hwq : IntKind.i64.wrap (v4 + v5) = v4 + v5 := IntWalk.i64_in _ (by omega)
      obtain ⟨ka, kb, kf, kz⟩ := Hk.out ((w.alloc (.cells #[.int .i64 f, .int .i64 u, .int .i64 s, .int .i64 r, .int .i64 p, .int .i64 q] 30)).alloc (.cells #[.int .i64 a, .int .i64 b] 36)) (Below.refl _ _)
      have k0 := ka 0
      have k1 := ka 1
      have k2 := ka 2
      have k3 := ka 3
      have k4 := ka 4
      have k5 := ka 5
      have j0 := kb 0
      have j1 := kb 1
      simp only [List.getElem?_toArray, List.getElem?_cons_zero, List.getElem?_cons_succ] at k0 k1 k2 k3 k4 k5 j0 j1
      clear ka kb kf
      go_enter Try.func9, Try.ntmps9
      go_wp2_with fail
      go_quiet (fail)
      go_wp2_with fail
      refine (time15 f u s r p q a _).mono ?_
      rw [HV1.out, HC1.out]
      rintro e w1 ⟨rfl, hb⟩
      have B : Hid (Below (w.heap.size + 2) ((w.alloc (.cells #[.int .i64 f, .int .i64 u, .int .i64 s, .int .i64 r, .int .i64 p, .int .i64 q] 30)).alloc (.cells #[.int .i64 a, .int .i64 b] 36)) w1) := Lib.hid ((below_drewN (Below.refl (w.heap.size + 2) ((w.alloc (.cells #[.int .i64 f, .int .i64 u, .int .i64 s, .int .i64 r, .int .i64 p, .int .i64 q] 30)).alloc (.cells #[.int .i64 a, .int .i64 b] 36))) _).trans (hb.mono (show w.heap.size + 2 ≤ _ by simp)))
      clear hb k0 k1 k2 k3 k4 k5 j0 j1 kz
      obtain ⟨ka, kb, kf, kz⟩ := Hk.out w1 B.out
      have k0 := ka 0
      have k1 := ka 1
      have k2 := ka 2
      have k3 := ka 3
      have k4 := ka 4
      have k5 := ka 5
      have j0 := kb 0
      have j1 := kb 1
      simp only [List.getElem?_toArray, List.getElem?_cons_zero, List.getElem?_cons_succ] at k0 k1 k2 k3 k4 k5 j0 j1
      clear ka kb kf
      go_wp2_with fail
      refine (time15 f u s r p q b _).mono ?_
      rw [HV2.out, HC2.out]
      rintro e w2 ⟨rfl, hb⟩
      have B' := Lib.hid (B.out.trans (hb.mono kz))
      clear B
      have B := B'
      clear B'
      clear hb k0 k1 k2 k3 k4 k5 j0 j1 kz
      obtain ⟨ka, kb, kf, kz⟩ := Hk.out w2 B.out
      have k0 := ka 0
      have k1 := ka 1
      have k2 := ka 2
      have k3 := ka 3
      have k4 := ka 4
      have k5 := ka 5
      have j0 := kb 0
      have j1 := kb 1
      simp only [List.getElem?_toArray, List.getElem?_cons_zero, List.getElem?_cons_succ] at k0 k1 k2 k3 k4 k5 j0 j1
      clear ka kb kf
      go_wp2_with fail
      refine (time15 f u s r p q (a + b) _).mono ?_
      rw [HV3.out, HC3.out]
      rintro e w3 ⟨rfl, hb⟩
      have B' := Lib.hid (B.out.trans (hb.mono kz))
      clear B
      have B := B'
      clear B'
      clear hb k0 k1 k2 k3 k4 k5 j0 j1 kz
      obtain ⟨ka, kb, kf, kz⟩ := Hk.out w3 B.out
      have k0 := ka 0
      have k1 := ka 1
      have k2 := ka 2
      have k3 := ka 3
      have k4 := ka 4
      have k5 := ka 5
      have j0 := kb 0
      have j1 := kb 1
      simp only [List.getElem?_toArray, List.getElem?_cons_zero, List.getElem?_cons_succ] at k0 k1 k2 k3 k4 k5 j0 j1
      clear ka kb kf
      go_wp2_with fail
      refine (pauses17 f u s r p q a _).mono ?_
      rw [HV4.out, HC4.out]
      rintro e w4 ⟨rfl, hb⟩
      have B' := Lib.hid (B.out.trans (hb.mono kz))
      clear B
      have B := B'
      clear B'
      clear hb k0 k1 k2 k3 k4 k5 j0 j1 kz
      obtain ⟨ka, kb, kf, kz⟩ := Hk.out w4 B.out
      have k0 := ka 0
      have k1 := ka 1
      have k2 := ka 2
      have k3 := ka 3
      have k4 := ka 4
      have k5 := ka 5
      have j0 := kb 0
      have j1 := kb 1
      simp only [List.getElem?_toArray, List.getElem?_cons_zero, List.getElem?_cons_succ] at k0 k1 k2 k3 k4 k5 j0 j1
      clear ka kb kf
      go_wp2_with fail
      refine (pauses17 f u s r p q b _).mono ?_
      rw [HV5.out, HC5.out]
      rintro e w5 ⟨rfl, hb⟩
      have B' := Lib.hid (B.out.trans (hb.mono kz))
      clear B
      have B := B'
      clear B'
      clear hb k0 k1 k2 k3 k4 k5 j0 j1 kz
      obtain ⟨ka, kb, kf, kz⟩ := Hk.out w5 B.out
      have k0 := ka 0
      have k1 := ka 1
      have k2 := ka 2
      have k3 := ka 3
      have k4 := ka 4
      have k5 := ka 5
      have j0 := kb 0
      have j1 := kb 1
      simp only [List.getElem?_toArray, List.getElem?_cons_zero, List.getElem?_cons_succ] at k0 k1 k2 k3 k4 k5 j0 j1
      clear ka kb kf
      go_wp2_with fail
      refine (pauses17 f u s r p q (a + b) _).mono ?_
      rw [HV6.out, HC6.out]
      rintro e w6 ⟨rfl, hb⟩
      have B' := Lib.hid (B.out.trans (hb.mono kz))
      clear B
      have B := B'
      clear B'
      clear hb k0 k1 k2 k3 k4 k5 j0 j1 kz
      obtain ⟨ka, kb, kf, kz⟩ := Hk.out w6 B.out
      have k0 := ka 0
      have k1 := ka 1
      have k2 := ka 2
      have k3 := ka 3
      have k4 := ka 4
      have k5 := ka 5
      have j0 := kb 0
      have j1 := kb 1
      simp only [List.getElem?_toArray, List.getElem?_cons_zero, List.getElem?_cons_succ] at k0 k1 k2 k3 k4 k5 j0 j1
      clear ka kb kf
      go_wp2_with fail
      refine (awake_any _).mono ?_
      rintro e w9 ⟨rfl, hb⟩
      have B9 := Lib.hid ((box_bel w _).trans ((box_bel (w.alloc (.cells #[.int .i64 f, .int .i64 u, .int .i64 s, .int .i64 r, .int .i64 p, .int .i64 q] 30)) (.cells #[.int .i64 a, .int .i64 b] 36)).mono (by simp)))
      have B8 := Lib.hid (B9.out.trans ((B.out.trans (hb.mono kz)).mono (by omega)))
      clear hb
      go_wp2_with fail
      go_ret
      exact ⟨rfl, B8.out⟩
    · have hjb : (c6 == 0) = false := by simpa using hj
      clear hj hP
      obtain ⟨ka, kb, kf, kz⟩ := Hk.out ((w.alloc (.cells #[.int .i64 f, .int .i64 u, .int .i64 s, .int .i64 r, .int .i64 p, .int .i64 q] 30)).alloc (.cells #[.int .i64 a, .int .i64 b] 36)) (Below.refl _ _)
      have k0 := ka 0
      have k1 := ka 1
      have k2 := ka 2
      have k3 := ka 3
      have k4 := ka 4
      have k5 := ka 5
      have j0 := kb 0
      have j1 := kb 1
      simp only [List.getElem?_toArray, List.getElem?_cons_zero, List.getElem?_cons_succ] at k0 k1 k2 k3 k4 k5 j0 j1
      clear ka kb kf
      go_enter Try.func9, Try.ntmps9
      go_wp2_with fail
      go_quiet (fail)
      go_wp2_with fail
      refine (time15 f u s r p q a _).mono ?_
      rw [HV1.out, HC1.out]
      rintro e w1 ⟨rfl, hb⟩
      have B : Hid (Below (w.heap.size + 2) ((w.alloc (.cells #[.int .i64 f, .int .i64 u, .int .i64 s, .int .i64 r, .int .i64 p, .int .i64 q] 30)).alloc (.cells #[.int .i64 a, .int .i64 b] 36)) w1) := Lib.hid ((below_drewN (Below.refl (w.heap.size + 2) ((w.alloc (.cells #[.int .i64 f, .int .i64 u, .int .i64 s, .int .i64 r, .int .i64 p, .int .i64 q] 30)).alloc (.cells #[.int .i64 a, .int .i64 b] 36))) _).trans (hb.mono (show w.heap.size + 2 ≤ _ by simp)))
      clear hb k0 k1 k2 k3 k4 k5 j0 j1 kz
      obtain ⟨ka, kb, kf, kz⟩ := Hk.out w1 B.out
      have k0 := ka 0
      have k1 := ka 1
      have k2 := ka 2
      have k3 := ka 3
      have k4 := ka 4
      have k5 := ka 5
      have j0 := kb 0
      have j1 := kb 1
      simp only [List.getElem?_toArray, List.getElem?_cons_zero, List.getElem?_cons_succ] at k0 k1 k2 k3 k4 k5 j0 j1
      clear ka kb kf
      go_wp2_with fail
      refine (time15 f u s r p q b _).mono ?_
      rw [HV2.out, HC2.out]
      rintro e w2 ⟨rfl, hb⟩
      have B' := Lib.hid (B.out.trans (hb.mono kz))
      clear B
      have B := B'
      clear B'
      clear hb k0 k1 k2 k3 k4 k5 j0 j1 kz
      obtain ⟨ka, kb, kf, kz⟩ := Hk.out w2 B.out
      have k0 := ka 0
      have k1 := ka 1
      have k2 := ka 2
      have k3 := ka 3
      have k4 := ka 4
      have k5 := ka 5
      have j0 := kb 0
      have j1 := kb 1
      simp only [List.getElem?_toArray, List.getElem?_cons_zero, List.getElem?_cons_succ] at k0 k1 k2 k3 k4 k5 j0 j1
      clear ka kb kf
      go_wp2_with fail
      refine (time15 f u s r p q (a + b) _).mono ?_
      rw [HV3.out, HC3.out]
      rintro e w3 ⟨rfl, hb⟩
      have B' := Lib.hid (B.out.trans (hb.mono kz))
      clear B
      have B := B'
      clear B'
      clear hb k0 k1 k2 k3 k4 k5 j0 j1 kz
      obtain ⟨ka, kb, kf, kz⟩ := Hk.out w3 B.out
      have k0 := ka 0
      have k1 := ka 1
      have k2 := ka 2
      have k3 := ka 3
      have k4 := ka 4
      have k5 := ka 5
      have j0 := kb 0
      have j1 := kb 1
      simp only [List.getElem?_toArray, List.getElem?_cons_zero, List.getElem?_cons_succ] at k0 k1 k2 k3 k4 k5 j0 j1
      clear ka kb kf
      go_wp2_with fail
      refine (pauses17 f u s r p q a _).mono ?_
      rw [HV4.out, HC4.out]
      rintro e w4 ⟨rfl, hb⟩
      have B' := Lib.hid (B.out.trans (hb.mono kz))
      clear B
      have B := B'
      clear B'
      clear hb k0 k1 k2 k3 k4 k5 j0 j1 kz
      obtain ⟨ka, kb, kf, kz⟩ := Hk.out w4 B.out
      have k0 := ka 0
      have k1 := ka 1
      have k2 := ka 2
      have k3 := ka 3
      have k4 := ka 4
      have k5 := ka 5
      have j0 := kb 0
      have j1 := kb 1
      simp only [List.getElem?_toArray, List.getElem?_cons_zero, List.getElem?_cons_succ] at k0 k1 k2 k3 k4 k5 j0 j1
      clear ka kb kf
      go_wp2_with fail
      refine (pauses17 f u s r p q b _).mono ?_
      rw [HV5.out, HC5.out]
      rintro e w5 ⟨rfl, hb⟩
      have B' := Lib.hid (B.out.trans (hb.mono kz))
      clear B
      have B := B'
      clear B'
      clear hb k0 k1 k2 k3 k4 k5 j0 j1 kz
      obtain ⟨ka, kb, kf, kz⟩ := Hk.out w5 B.out
      have k0 := ka 0
      have k1 := ka 1
      have k2 := ka 2
      have k3 := ka 3
      have k4 := ka 4
      have k5 := ka 5
      have j0 := kb 0
      have j1 := kb 1
      simp only [List.getElem?_toArray, List.getElem?_cons_zero, List.getElem?_cons_succ] at k0 k1 k2 k3 k4 k5 j0 j1
      clear ka kb kf
      go_wp2_with fail
      refine (pauses17 f u s r p q (a + b) _).mono ?_
      rw [HV6.out, HC6.out]
      rintro e w6 ⟨rfl, hb⟩
      have B' := Lib.hid (B.out.trans (hb.mono kz))
      clear B
      have B := B'
      clear B'
      clear hb k0 k1 k2 k3 k4 k5 j0 j1 kz
      obtain ⟨ka, kb, kf, kz⟩ := Hk.out w6 B.out
      have k0 := ka 0
      have k1 := ka 1
      have k2 := ka 2
      have k3 := ka 3
      have k4 := ka 4
      have k5 := ka 5
      have j0 := kb 0
      have j1 := kb 1
      simp only [List.getElem?_toArray, List.getElem?_cons_zero, List.getElem?_cons_succ] at k0 k1 k2 k3 k4 k5 j0 j1
      clear ka kb kf
      go_wp2_with fail
      refine (awake_any _).mono ?_
      rintro e w9 ⟨rfl, hb⟩
      have B9 := Lib.hid ((box_bel w _).trans ((box_bel (w.alloc (.cells #[.int .i64 f, .int .i64 u, .int .i64 s, .int .i64 r, .int .i64 p, .int .i64 q] 30)) (.cells #[.int .i64 a, .int .i64 b] 36)).mono (by simp)))
      have B8 := Lib.hid (B9.out.trans ((B.out.trans (hb.mono kz)).mono (by omega)))
      clear hb
      go_wp2_with fail
      go_ret
      exact ⟨rfl, B8.out⟩
end Go.Proofs.Ytcmlipcgcjlopaa
