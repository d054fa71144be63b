/- The walks of the laws TargetMirror, TargetConvex. -/
import Derived.Test.YtnfgbghjdmimgaaGD
namespace Go.Proofs.Ytnfgbghjdmimgaa
open Go.RowKit
set_option maxHeartbeats 4000000
set_option maxRecDepth 100000
set_option linter.unusedVariables false
/-- the steps the other way round, as the program has them -/
def negF (g : Nat → Int) : Nat → Int := fun i => IntKind.i64.wrap (-(g i))
theorem neg_of {x : Int} (h1 : -9223372036854775808 ≤ x) (h2 : x ≤ 9223372036854775807) : IntKind.i64.wrap (-x) = -x ∨ (x = -9223372036854775808 ∧ IntKind.i64.wrap (-x) = -9223372036854775808) := by
  by_cases h : x = -9223372036854775808
  · subst h; exact .inr ⟨rfl, by decide⟩
  · exact .inl (IntWalk.i64_in _ (by omega))
theorem negF_ok {g : Nat → Int} (hb : ∀ i, -9223372036854775808 ≤ g i ∧ g i ≤ 9223372036854775807) (n : Nat) : okB (negF g) n = okB g n := by
  cases hq : okB g n with
  | true => exact okB_of (fun i hi => by
      have h1 := okB_all hq i hi
      have h2 := neg_of (hb i).1 (hb i).2
      unfold negF; omega)
  | false =>
    cases hc : okB (negF g) n with
    | false => rfl
    | true =>
      rw [okB_of (fun i hi => by
        have h1 := okB_all hc i hi
        unfold negF at h1
        have h2 := neg_of (hb i).1 (hb i).2
        omega)] at hq
      cases hq
theorem negF_code {g : Nat → Int} (hb : ∀ i, -9223372036854775808 ≤ g i ∧ g i ≤ 9223372036854775807) (d l : Int) (n : Nat) : codeLs d (d - l) n (negF g) = codeLs d l n g ∧ valLs d (d - l) n (negF g) = valLs d l n g := by
  have e1 : codeLs d (d - l) n (negF g) = codeLs d l n g := by
    rw [← code_mirror d l n g]
    unfold codeLs errC
    rw [negF_ok hb, ok_mirror]
  refine ⟨e1, ?_⟩
  unfold valLs
  rw [e1]
  by_cases h : codeLs d l n g = 0
  · rw [if_pos h, if_pos h, ← lost_mirror d n g l]
    have hok := (errC_zero (codeLs_zero h).2.2.2.2).2
    exact lost_congr d n _ _ _ (fun i hi => by
      have h1 := okB_all hok i hi
      have h2 := neg_of (hb i).1 (hb i).2
      unfold negF; omega)
  · rw [if_neg h, if_neg h]

theorem law8_any (d l : Int) (A : Option Addr) (n c : Nat) (g : Nat → Int) (w : World) (hr : SlI w A n g) (m1 : n ≤ 9223372036854775807) (hbd : ∀ i, -9223372036854775808 ≤ g i ∧ g i ≤ 9223372036854775807) :
    Calls Try.prog 8 #[.int .i64 d, .int .i64 l, .slice A n c] w fun e w' => e = .returned (.bool true) ∧ Below w.heap.size w w' := by
  have Hr := Lib.hid hr
  have Hm := Lib.hid (negF_code hbd d l n)
  clear hr hbd
  have B := Lib.hid (Below.refl w.heap.size w)
  by_cases ho : 100 < n ∨ d < 0 ∨ 100 < d ∨ l < 0 ∨ 200 < l
  · rcases (show 100 < n ∨ (n ≤ 100 ∧ d < 0) ∨ (n ≤ 100 ∧ 0 ≤ d ∧ 100 < d) ∨ (n ≤ 100 ∧ 0 ≤ d ∧ d ≤ 100 ∧ l < 0) ∨ (n ≤ 100 ∧ 0 ≤ d ∧ d ≤ 100 ∧ 0 ≤ l ∧ 200 < l) by omega) with h | ⟨h, h'⟩ | ⟨h, h', h2⟩ | ⟨h, h', h2, h3⟩ | ⟨h, h', h2, h3, h4⟩
    all_goals
      clear ho
      go_enter Try.func8, Try.ntmps8
      go_wp2_with fail
      refine (awake_any _).mono ?_
      rintro e w9 ⟨rfl, hb⟩
      have B9 := Lib.hid (B.out.trans (hb.mono B.out.size))
      clear hb
      go_wp2_with fail
      go_ret
      exact ⟨rfl, B9.out⟩
  have n1 : n ≤ 100 := by omega
  have d0 : 0 ≤ d := by omega
  have d1 : d ≤ 100 := by omega
  have l0 : 0 ≤ l := by omega
  have l1 : l ≤ 200 := by omega
  clear ho
  have hw : IntKind.i64.wrap (d - l) = d - l := IntWalk.i64_in _ (by omega)
  go_enter Try.func8, Try.ntmps8
  go_wp2_with fail
  go_loopw [8, 7] (fun i v wr => ∃ k : Nat, k ≤ n ∧ i = .int .i64 k ∧ Hid (OwnI wr w.heap.size 3 v k (negF g)) ∧ Hid (Below w.heap.size w wr)) (fun i _ _ => n - (intOf i).toNat)
  case atStart => exact ⟨0, by omega, rfl, Lib.hid (OwnI.nil _ _ _ _), B⟩
  clear B
  case round =>
    obtain ⟨k, hk, rfl, Ho, B⟩ := hrel
    by_cases hlt : k < n
    · obtain ⟨b, o, rfl, _, z⟩ := (Hr.out.bel B.out).at_ k hlt
      obtain ⟨y, hy⟩ : ∃ y, IntKind.i64.wrap (-(g k)) = y := ⟨_, rfl⟩
      have Hy := Lib.hid hy
      have hsz := B.out.size
      go_wp2_with (at_builtin; refine app_int wr rfl (.tmp 39) (.tmp 45) 22 rfl Try.underlying22 isInt3 rfl _ rfl Ho.out (by omega) hsz Hy.out ?_; intro v' w5 hown5 hg5 hloc5)
      go_wp2
      go_roundw
      case rel => exact ⟨k + 1, by omega, by go_num, Lib.hid hown5, Lib.hid (B.out.trans (grown_bel hg5 B.out.size (fun j hj => (Ho.out.lt j hj).1)))⟩
      case measure => simp [intOf]; omega
    · have hkn : k = n := by omega
      subst hkn
      obtain ⟨A2, c2, rfl, hs2, _, hc2⟩ := Ho.out.form
      have S2 := Lib.hid hs2
      clear hs2
      go_wp2_with fail
      refine (lost11 A k c g d l _ (Hr.out.bel B.out) m1).mono ?_
      rintro e w1 ⟨rfl, hb⟩
      have B' := Lib.hid (B.out.trans (hb.mono B.out.size))
      clear B
      have B := B'
      clear B'
      have S2 := Lib.hid (S2.out.bel hb)
      clear hb
      go_wp2_with fail
      refine (lost11 A2 k c2 (negF g) d (d - l) _ S2.out m1).mono ?_
      rw [Hm.out.1, Hm.out.2]
      rintro e w2 ⟨rfl, hb⟩
      have B' := Lib.hid (B.out.trans (hb.mono B.out.size))
      clear B
      have B := B'
      clear B'
      clear hb
      go_wp2_with fail
      refine (awake_any _).mono ?_
      rintro e w9 ⟨rfl, hb⟩
      have B9 := Lib.hid (B.out.trans (hb.mono B.out.size))
      clear hb
      go_wp2_with fail
      go_ret
      exact ⟨rfl, B9.out⟩

theorem cost_slope {D : Nat} {n : Nat} {f : Cs} (hD : 1 ≤ (D : Int)) (h : scanC f n = 0) (k k1 : Nat) (hk : k1 + 1 = k) (hkD : k ≤ D) : -(n : Int) ≤ costF D n f k - costF D n f k1 ∧ costF D n f k - costF D n f k1 ≤ n := by
  have := sum_slope D hD f k1 (by omega) (by omega) n h
  rw [show (k1 : Int) + 1 = k by omega] at this
  exact this
theorem cost_convex {D : Nat} {n : Nat} {f : Cs} (hD : 1 ≤ (D : Int)) (h : scanC f n = 0) (k k1 k2 : Nat) (hk : k1 + 1 = k) (hk2 : k2 + 1 = k1) (hkD : k ≤ D) : costF D n f k1 - costF D n f k2 ≤ costF D n f k - costF D n f k1 := by
  have := sum_convex D hD f k1 (by omega) (by omega) n h
  rw [show (k1 : Int) + 1 = k by omega, show (k1 : Int) - 1 = k2 by omega] at this
  exact this
theorem cost_bd {D : Nat} {n : Nat} {f : Cs} (h : scanC f n = 0) (hn : n ≤ 32) (k : Nat) : 0 ≤ costF D n f k ∧ costF D n f k ≤ 2048 := by
  have := sumC_bd D f k n h
  unfold costF; omega

theorem law6_any (d : Int) (A : Option Addr) (n c : Nat) (f : Cs) (w : World) (hr : Elems RowV w A n f) (m1 : n ≤ 9223372036854775807) :
    Calls Try.prog 6 #[.int .i64 d, .slice A n c] w fun e w' => e = .returned (.bool true) ∧ Below w.heap.size w w' := by
  have Hr := Lib.hid hr
  clear hr
  have B := Lib.hid (Below.refl w.heap.size w)
  cases hq : fewB n f 40
  · have Hq := Lib.hid hq
    clear hq
    go_enter Try.func6, Try.ntmps6
    go_wp2_with fail
    refine (few13 A n c f 40 w Hr.out m1).mono ?_
    rw [Hq.out]
    rintro e w1 ⟨rfl, hb⟩
    have B' := Lib.hid (B.out.trans (hb.mono B.out.size))
    clear B
    have B := B'
    clear B'
    clear hb
    go_wp2_with fail
    refine (awake_any _).mono ?_
    rintro e w9 ⟨rfl, hb⟩
    have B9 := Lib.hid (B.out.trans (hb.mono B.out.size))
    clear hb
    go_wp2_with fail
    go_ret
    exact ⟨rfl, B9.out⟩
  have Hq := Lib.hid hq
  clear hq
  by_cases hc : codeCs d n f = 0
  case neg =>
    have hcb : (codeCs d n f != 0) = true := by simpa using hc
    have Hl := Lib.hid (show lenCs d n f = 0 from if_neg hc)
    have H2 := Lib.hid (show valB d n f = 0 from if_neg hc)
    clear hc
    go_enter Try.func6, Try.ntmps6
    go_wp2_with fail
    refine (few13 A n c f 40 w Hr.out m1).mono ?_
    rw [Hq.out]
    rintro e w1 ⟨rfl, hb⟩
    have B' := Lib.hid (B.out.trans (hb.mono B.out.size))
    clear B
    have B := B'
    clear B'
    clear hb
    go_wp2_with fail
    refine (costs14 A n c f d _ (Hr.out.bel rowV_stays B.out) m1).mono ?_
    rintro e w2 ⟨⟨v, rfl, hl⟩, hb⟩
    have B' := Lib.hid (B.out.trans (hb.mono B.out.size))
    clear B
    have B := B'
    clear B'
    rw [Hl.out] at hl
    obtain ⟨A2, c2, rfl, hs2, hm2, hc2⟩ := hl
    clear hb
    go_wp2_with fail
    refine (best16 A n c f d _ (Hr.out.bel rowV_stays B.out) m1).mono ?_
    rw [H2.out]
    rintro e w4 ⟨rfl, hb⟩
    have B' := Lib.hid (B.out.trans (hb.mono B.out.size))
    clear B
    have B := B'
    clear B'
    clear hb
    go_wp2_with fail
    refine (awake_any _).mono ?_
    rintro e w9 ⟨rfl, hb⟩
    have B9 := Lib.hid (B.out.trans (hb.mono B.out.size))
    clear hb
    go_wp2_with fail
    go_ret
    exact ⟨rfl, B9.out⟩
  obtain ⟨d1, d2, n32, hsc⟩ := codeCs_zero hc
  obtain ⟨D, rfl⟩ : ∃ D : Nat, d = D := ⟨d.toNat, by omega⟩
  have Hl := Lib.hid (show lenCs D n f = D + 1 by unfold lenCs; rw [if_pos hc]; rfl)
  have hbl := bestN_lt (costF D n f) (D + 1)
  have Hbest := Lib.hid (bestN_least (costF D n f) (D + 1))
  have HV := Lib.hid (show valB D n f = bestN (costF D n f) (D + 1) by unfold valB; rw [if_pos hc]; rfl)
  have HC := Lib.hid hc
  have Hsl := Lib.hid (fun k k1 h1 h2 => cost_slope (D := D) d1 hsc k k1 h1 h2)
  have Hcv := Lib.hid (fun k k1 k2 h1 h2 h3 => cost_convex (D := D) d1 hsc k k1 k2 h1 h2 h3)
  have Hbd := Lib.hid (fun k => cost_bd (D := D) hsc n32 k)
  obtain ⟨K, hK⟩ : ∃ K, bestN (costF D n f) (D + 1) = K := ⟨_, rfl⟩
  rw [hK] at hbl
  have HK := Lib.hid hK
  obtain ⟨F, hF⟩ : ∃ F, costF D n f = F := ⟨_, rfl⟩
  have HF := Lib.hid hF
  have hw1 : IntKind.i64.wrap ((D : Int) + 1) = D + 1 := IntWalk.i64_in _ (by omega)
  have hw2 : IntKind.i64.wrap (-(n : Int)) = -n := IntWalk.i64_in _ (by omega)
  have hne : (((D : Int) + 1) != (D : Int) + 1) = false := by simp
  have kd : (K : Int) ≤ D := by omega
  have hKD : K < D + 1 := by omega
  clear hc hK hsc hF
  have DD : D + 1 ≤ 9223372036854775807 := by omega
  go_enter Try.func6, Try.ntmps6
  go_wp2_with fail
  refine (few13 A n c f 40 w Hr.out m1).mono ?_
  rw [Hq.out]
  rintro e w1 ⟨rfl, hb⟩
  have B' := Lib.hid (B.out.trans (hb.mono B.out.size))
  clear B
  have B := B'
  clear B'
  clear hb
  go_wp2_with fail
  refine (costs14 A n c f D _ (Hr.out.bel rowV_stays B.out) m1).mono ?_
  rintro e w2 ⟨⟨v, rfl, hl⟩, hb⟩
  have B' := Lib.hid (B.out.trans (hb.mono B.out.size))
  clear B
  have B := B'
  clear B'
  rw [HC.out]
  rw [Hl.out, HF.out] at hl
  obtain ⟨A2, c2, rfl, hs2, hm2, hc2⟩ := hl
  have S2 := Lib.hid hs2
  clear hs2
  clear hb
  go_wp2_with fail
  refine (best16 A n c f D _ (Hr.out.bel rowV_stays B.out) m1).mono ?_
  rw [HV.out, HC.out, HK.out]
  rintro e w4 ⟨rfl, hb⟩
  have B' := Lib.hid (B.out.trans (hb.mono B.out.size))
  clear B
  have B := B'
  clear B'
  have S2 := Lib.hid (S2.out.bel hb)
  clear hb
  go_wp2_with fail
  go_loopw [9] (fun i wr => ∃ k : Nat, 1 ≤ k ∧ k ≤ D + 1 ∧ i = .int .i64 k ∧ Hid (SlI wr A2 (D + 1) F) ∧ Hid (Below w.heap.size w wr)) (fun i _ => D + 1 - (intOf i).toNat)
  case atStart => exact ⟨1, by omega, by omega, rfl, S2, B⟩
  clear B S2
  case round =>
    obtain ⟨k, hk1, hk, rfl, S2, B⟩ := hrel
    by_cases hlt : k < D + 1
    · obtain ⟨k1, hk1'⟩ : ∃ k1, k1 + 1 = k := ⟨k - 1, by omega⟩
      obtain ⟨b, o, rfl, _, z0⟩ := S2.out.at_ k hlt
      have z1 := S2.out.cell k1 (by omega)
      have s1 := Hsl.out k k1 hk1' (by omega)
      have e1 := Hbd.out k
      have e2 := Hbd.out k1
      rw [HF.out] at s1 e1 e2
      obtain ⟨S, hS⟩ : ∃ S, F k - F k1 = S := ⟨_, rfl⟩
      have hw3 : IntKind.i64.wrap (F k - F k1) = S := by rw [← hS]; exact IntWalk.i64_in _ (by omega)
      have hw4 : IntKind.i64.wrap ((k : Int) - 1) = k1 := by rw [show (k : Int) - 1 = k1 by omega]; exact IntWalk.i64_in _ (by omega)
      rw [hS] at s1
      obtain ⟨s2, s3⟩ := s1
      have g1 : decide (S < -(n : Int)) = false := by simp; omega
      have g2 : decide ((n : Int) < S) = false := by simp; omega
      by_cases h2 : 1 < k
      · obtain ⟨k2, hk2'⟩ : ∃ k2, k2 + 1 = k1 := ⟨k1 - 1, by omega⟩
        have z2 := S2.out.cell k2 (by omega)
        have s4 := Hcv.out k k1 k2 hk1' hk2' (by omega)
        have e3 := Hbd.out k2
        rw [HF.out] at s4 e3
        obtain ⟨T, hT⟩ : ∃ T, F k1 - F k2 = T := ⟨_, rfl⟩
        have hw5 : IntKind.i64.wrap (F k1 - F k2) = T := by rw [← hT]; exact IntWalk.i64_in _ (by omega)
        have hw6 : IntKind.i64.wrap ((k : Int) - 2) = k2 := by rw [show (k : Int) - 2 = k2 by omega]; exact IntWalk.i64_in _ (by omega)
        rw [hS, hT] at s4
        have h2i : (1 : Int) < k := by omega
        have g3 : decide ((1 : Int) < k) = true := by simp; omega
        have g4 : decide (S < T) = false := by simp; omega
        have q1 : k1 < D + 1 := by omega
        have q2 : k2 < D + 1 := by omega
        have Hk1 := Lib.hid hk1'
        clear hS hT e1 e2 e3 hk1' hk2'
        go_wp2_with fail
        go_quiet (fail)
        go_wp2_with fail
        go_quiet (fail)
        go_wp2_with fail
        go_roundw
        case rel => exact ⟨k + 1, by omega, by omega, by go_num, S2, Lib.hid (below_drewN B.out _)⟩
        case measure => simp [intOf]; omega
      · have g3 : decide ((1 : Int) < k) = false := by simp; omega
        have q1 : k1 < D + 1 := by omega
        clear hS e1 e2 h2 hk1'
        go_wp2_with fail
        go_quiet (fail)
        go_wp2_with fail
        go_quiet (fail)
        go_wp2_with fail
        go_roundw
        case rel => exact ⟨k + 1, by omega, by omega, by go_num, S2, Lib.hid (below_drewN B.out _)⟩
        case measure => simp [intOf]; omega
    · have hkn : k = D + 1 := by omega
      subst hkn
      go_wp2_with fail
      obtain ⟨wo, hwo⟩ : ∃ wo, wo = wr := ⟨_, rfl⟩
      subst hwo
      go_loopw [11] (fun i wi => ∃ j : Nat, j ≤ D + 1 ∧ i = .int .i64 j ∧ Hid (SlI wi A2 (D + 1) F) ∧ Hid (Below w.heap.size w wi)) (fun i _ => D + 1 - (intOf i).toNat)
      case atStart => exact ⟨0, by omega, rfl, S2, B⟩
      clear B S2
      case round =>
        obtain ⟨j, hj, rfl, S2, B⟩ := hrel
        by_cases hlt : j < D + 1
        · obtain ⟨b, o, rfl, _, z0⟩ := S2.out.at_ j hlt
          have z1 := S2.out.cell K hKD
          have t1 := Hbest.out.1 j (by omega)
          rw [HK.out, HF.out] at t1
          by_cases hjK : j < K
          · have t2 := Hbest.out.2 j (by rw [HK.out]; exact hjK)
            rw [HK.out, HF.out] at t2
            have t3 : (F j == F K) = false := by simp; omega
            have t4 : decide ((j : Int) < K) = true := by simp; omega
            have t5 : decide (F j < F K) = false := by simp; omega
            go_wp2_with fail
            go_quiet (fail)
            go_wp2_with fail
            go_roundw
            case rel => exact ⟨j + 1, by omega, by go_num, S2, Lib.hid (below_drewN B.out _)⟩
            case measure => simp [intOf]; omega
          · have t4 : decide ((j : Int) < K) = false := by simp; omega
            have t5 : decide (F j < F K) = false := by simp; omega
            go_wp2_with fail
            go_quiet (fail)
            go_wp2_with fail
            go_roundw
            case rel => exact ⟨j + 1, by omega, by go_num, S2, Lib.hid (below_drewN B.out _)⟩
            case measure => simp [intOf]; omega
        · go_wp2_with fail
          refine (awake_any _).mono ?_
          rintro e w9 ⟨rfl, hb⟩
          have B9 := Lib.hid (B.out.trans (hb.mono B.out.size))
          clear hb
          go_wp2_with fail
          go_ret
          exact ⟨rfl, B9.out⟩
end Go.Proofs.Ytnfgbghjdmimgaa
