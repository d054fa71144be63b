/- The walk of the law DaycapGrows. -/
import Derived.Test.YtfdidnfkcmbgiaaRd
namespace Go.Proofs.Ytfdidnfkcmbgiaa
open Go.RowKit
open Dc
set_option maxHeartbeats 1000000
set_option maxRecDepth 100000
set_option linter.unusedVariables false

theorem chk_lim {p q : Int} {n : Nat} {r d a : Nat → Int} (hp : inB p 0 1000000000000 = true) (hq : inB q 0 1000000000000 = true) : chk p n n n r d a = chk q n n n r d a := by
  unfold chk; rw [hp, hq]
theorem len_lim {p q : Int} {n : Nat} {r d a : Nat → Int} (hp : inB p 0 1000000000000 = true) (hq : inB q 0 1000000000000 = true) : outLen p n n n r d a = outLen q n n n r d a := by
  unfold outLen; rw [chk_lim hp hq]
/-- from here on the two limits are in order -/
theorem law8_any (x y : Int) (A : Option Addr) (n c : Nat) (r d a : Nat → Int) (w : World) (hr : SlR w A n r d a) (m1 : n ≤ 9223372036854775807)
   (hx : -9223372036854775808 ≤ x ∧ x ≤ 9223372036854775807) (hy : -9223372036854775808 ≤ y ∧ y ≤ 9223372036854775807) :
    Calls Try.prog 8 #[.agg #[.int .i64 x, .int .i64 y], .slice A n c] w fun e w' => e = .returned (.bool true) ∧ Below w.heap.size w w' := by
  have Hr := Lib.hid hr
  clear hr
  have hb0 : Below w.heap.size w (w.alloc (.cells #[.int .i64 x, .int .i64 y] 40)) := (Below.refl _ _).alloc (Nat.le_refl _) _
  have b0 := Lib.hid hb0
  have R0 := Lib.hid (Hr.out.bel hb0)
  clear hb0
  rcases Int.lt_trichotomy x y with hxy | hxy | hxy
  · by_cases h1 : 300 < n
    · go_enter Try.func8, Try.ntmps8
      go_wp2
      go_region
      go_wp2_with fail
      refine (awake_any _).mono ?_
      rintro e w1 ⟨rfl, hb⟩
      have b9 := Lib.hid ((Below.drew b0.out).trans (hb.mono b0.out.size))
      clear hb
      go_wp2_with fail
      go_ret
      exact ⟨rfl, b9.out⟩
    by_cases h2 : x < 1
    · go_enter Try.func8, Try.ntmps8
      go_wp2
      go_region
      go_wp2_with fail
      refine (awake_any _).mono ?_
      rintro e w1 ⟨rfl, hb⟩
      have b9 := Lib.hid ((Below.drew b0.out).trans (hb.mono b0.out.size))
      clear hb
      go_wp2_with fail
      go_ret
      exact ⟨rfl, b9.out⟩
    by_cases h3 : 1000000000000 < y
    · go_enter Try.func8, Try.ntmps8
      go_wp2
      go_region
      go_wp2_with fail
      refine (awake_any _).mono ?_
      rintro e w1 ⟨rfl, hb⟩
      have b9 := Lib.hid ((Below.drew b0.out).trans (hb.mono b0.out.size))
      clear hb
      go_wp2_with fail
      go_ret
      exact ⟨rfl, b9.out⟩
    have m2 : n ≤ 300 := by omega
    have hp1 : inB x 0 1000000000000 = true := inB_iff.2 (by omega)
    have hq1 : inB y 0 1000000000000 = true := inB_iff.2 (by omega)
    have hz1 : inB 0 0 1000000000000 = true := inB_iff.2 (by omega)
    obtain ⟨C, hC⟩ : ∃ C, chk 0 n n n r d a = C := ⟨_, rfl⟩
    obtain ⟨L, hL⟩ : ∃ L, outLen 0 n n n r d a = L := ⟨_, rfl⟩
    have Cp := Lib.hid ((chk_lim hp1 hz1).trans hC)
    have Cq := Lib.hid ((chk_lim hq1 hz1).trans hC)
    have Lp := Lib.hid ((len_lim hp1 hz1).trans hL)
    have Lq := Lib.hid ((len_lim hq1 hz1).trans hL)
    have hLn : L ≤ n ∧ (C = 0 → L = n) ∧ (0 < L → C = 0) := by
      by_cases h : chk 0 n n n r d a = 0
      · rw [outLen_pos h] at hL; omega
      · rw [outLen_neg h] at hL; omega
    have Cz := Lib.hid hC
    have Lz := Lib.hid hL
    have HL := Lib.hid hLn
    have hLe : L ≤ 300 := by omega
    clear hp1 hq1 hz1 hC hL hLn h1
    go_enter Try.func8, Try.ntmps8
    go_wp2
    go_region
    go_wp2_with fail
    refine (lists_any A n c r d a _ (by exact R0.out) m2).mono ?_
    rintro e w1 ⟨A1, c1, A2, c2, A3, c3, rfl, s1, s2, s3, e1, e2, e3, hb1⟩
    have b1 := Lib.hid ((Below.drew b0.out).trans (hb1.mono b0.out.size))
    have S1 := Lib.hid s1
    have S2 := Lib.hid s2
    have S3 := Lib.hid s3
    clear s1 s2 s3 e1 e2 e3 hb1
    go_wp2_with fail
    refine (papply_any x A1 A2 A3 n n n c1 c2 c3 r d a w1 S1.out S2.out S3.out m1 m1 m1).mono ?_
    unfold ApPost
    rw [Lp.out, Cp.out]
    rintro e w2 ⟨A4, c4, rfl, s4, hb, e4⟩
    have b2 := Lib.hid (b1.out.trans (hb.mono b1.out.size))
    have S1 := Lib.hid (S1.out.bel hb)
    have S2 := Lib.hid (S2.out.bel hb)
    have S3 := Lib.hid (S3.out.bel hb)
    have S4 := Lib.hid s4
    clear hb s4 e4
    go_wp2_with fail
    refine (papply_any y A1 A2 A3 n n n c1 c2 c3 r d a w2 S1.out S2.out S3.out m1 m1 m1).mono ?_
    unfold ApPost
    rw [Lq.out, Cq.out]
    rintro e w3 ⟨A5, c5, rfl, s5, hb, e5⟩
    have b3 := Lib.hid (b2.out.trans (hb.mono b2.out.size))
    have S1 := Lib.hid (S1.out.bel hb)
    have S2 := Lib.hid (S2.out.bel hb)
    have S3 := Lib.hid (S3.out.bel hb)
    have S4 := Lib.hid (S4.out.bel hb)
    have S5 := Lib.hid s5
    clear hb s5 e5
    go_wp2_with fail
    refine (papply_any 0 A1 A2 A3 n n n c1 c2 c3 r d a w3 S1.out S2.out S3.out m1 m1 m1).mono ?_
    unfold ApPost
    rw [Lz.out, Cz.out]
    rintro e w4 ⟨A6, c6, rfl, s6, hb, e6⟩
    have b4 := Lib.hid (b3.out.trans (hb.mono b3.out.size))
    have S4 := Lib.hid (S4.out.bel hb)
    have S5 := Lib.hid (S5.out.bel hb)
    have S6 := Lib.hid s6
    have R4 := Lib.hid (Hr.out.bel b4.out)
    clear hb s6 e6
    go_wp2_with fail
    go_loopw [16] (fun i wr => ∃ i' m : Nat, i' ≤ L ∧ i = .int .i64 i' ∧ wr = w4.drewN m) (fun i _ => L - (intOf i).toNat)
    case atStart => exact ⟨0, 0, by omega, rfl, rfl⟩
    case round =>
      obtain ⟨i, mi, hi, rfl, rfl⟩ := hrel
      by_cases hiL : i < L
      · have hC0 : C = 0 := HL.out.2.2 (by omega)
        have hLn := HL.out.1
        have V := (chk_zero (Cp.out.trans hC0)).2.2
        have hg := pay_grows x y (by omega) (by omega) r d a i (fun j hj => V.a0 j (by omega))
        have f1 : decide (pay y r d a i < pay x r d a i) = false := by first | (simp; done) | (simp; omega)
        have f2 : decide (pay 0 r d a i < pay y r d a i) = false := by first | (simp; done) | (simp; omega)
        have f3 : (pay 0 r d a i != a i) = false := by first | (simp; done) | (simp; omega)
        obtain ⟨rb, ro, rfl, hrb, y1, y2, y3⟩ := R4.out.at_ i (by omega)
        obtain ⟨pb4, po4, rfl, hpb4, y4⟩ := S4.out.at_ i hiL
        obtain ⟨pb5, po5, rfl, hpb5, y5⟩ := S5.out.at_ i hiL
        obtain ⟨pb6, po6, rfl, hpb6, y6⟩ := S6.out.at_ i hiL
        have hiI : (i : Int) < (L : Int) := by omega
        have hiN : (i : Int) < (n : Int) := by omega
        clear V hg hC0 hLn y1 y2
        go_wp2
        go_quiet (fail)
        go_wp2
        go_roundw
        case rel => exact ⟨i + 1, _, by omega, by go_num, rfl⟩
        case measure => simp [intOf]; omega
      · have hiL' : i = L := by omega
        subst hiL'
        have b5 := Lib.hid (below_drewN b4.out mi)
        have hLn := HL.out.2.1
        by_cases hC0 : C = 0
        · have hLn' := hLn hC0
          subst hC0
          subst hLn'
          clear hLn
          go_wp2_with fail
          refine (awake_any _).mono ?_
          rintro e w6 ⟨rfl, hb⟩
          have b6 := Lib.hid (b5.out.trans (hb.mono b5.out.size))
          clear hb
          go_wp2_with fail
          go_ret
          exact ⟨rfl, b6.out⟩
        · have hcb : (C != 0) = true := by simpa using hC0
          clear hLn hC0
          go_wp2_with fail
          refine (awake_any _).mono ?_
          rintro e w6 ⟨rfl, hb⟩
          have b6 := Lib.hid (b5.out.trans (hb.mono b5.out.size))
          clear hb
          go_wp2_with fail
          go_ret
          exact ⟨rfl, b6.out⟩
  · subst hxy
    by_cases h1 : 300 < n
    · go_enter Try.func8, Try.ntmps8
      go_wp2
      go_region
      go_wp2_with fail
      refine (awake_any _).mono ?_
      rintro e w1 ⟨rfl, hb⟩
      have b9 := Lib.hid ((Below.drew b0.out).trans (hb.mono b0.out.size))
      clear hb
      go_wp2_with fail
      go_ret
      exact ⟨rfl, b9.out⟩
    by_cases h2 : x < 1
    · go_enter Try.func8, Try.ntmps8
      go_wp2
      go_region
      go_wp2_with fail
      refine (awake_any _).mono ?_
      rintro e w1 ⟨rfl, hb⟩
      have b9 := Lib.hid ((Below.drew b0.out).trans (hb.mono b0.out.size))
      clear hb
      go_wp2_with fail
      go_ret
      exact ⟨rfl, b9.out⟩
    by_cases h3 : 1000000000000 < x
    · go_enter Try.func8, Try.ntmps8
      go_wp2
      go_region
      go_wp2_with fail
      refine (awake_any _).mono ?_
      rintro e w1 ⟨rfl, hb⟩
      have b9 := Lib.hid ((Below.drew b0.out).trans (hb.mono b0.out.size))
      clear hb
      go_wp2_with fail
      go_ret
      exact ⟨rfl, b9.out⟩
    have m2 : n ≤ 300 := by omega
    have hp1 : inB x 0 1000000000000 = true := inB_iff.2 (by omega)
    have hq1 : inB x 0 1000000000000 = true := inB_iff.2 (by omega)
    have hz1 : inB 0 0 1000000000000 = true := inB_iff.2 (by omega)
    obtain ⟨C, hC⟩ : ∃ C, chk 0 n n n r d a = C := ⟨_, rfl⟩
    obtain ⟨L, hL⟩ : ∃ L, outLen 0 n n n r d a = L := ⟨_, rfl⟩
    have Cp := Lib.hid ((chk_lim hp1 hz1).trans hC)
    have Cq := Lib.hid ((chk_lim hq1 hz1).trans hC)
    have Lp := Lib.hid ((len_lim hp1 hz1).trans hL)
    have Lq := Lib.hid ((len_lim hq1 hz1).trans hL)
    have hLn : L ≤ n ∧ (C = 0 → L = n) ∧ (0 < L → C = 0) := by
      by_cases h : chk 0 n n n r d a = 0
      · rw [outLen_pos h] at hL; omega
      · rw [outLen_neg h] at hL; omega
    have Cz := Lib.hid hC
    have Lz := Lib.hid hL
    have HL := Lib.hid hLn
    have hLe : L ≤ 300 := by omega
    clear hp1 hq1 hz1 hC hL hLn h1
    go_enter Try.func8, Try.ntmps8
    go_wp2
    go_region
    go_wp2_with fail
    refine (lists_any A n c r d a _ (by exact R0.out) m2).mono ?_
    rintro e w1 ⟨A1, c1, A2, c2, A3, c3, rfl, s1, s2, s3, e1, e2, e3, hb1⟩
    have b1 := Lib.hid ((Below.drew b0.out).trans (hb1.mono b0.out.size))
    have S1 := Lib.hid s1
    have S2 := Lib.hid s2
    have S3 := Lib.hid s3
    clear s1 s2 s3 e1 e2 e3 hb1
    go_wp2_with fail
    refine (papply_any x A1 A2 A3 n n n c1 c2 c3 r d a w1 S1.out S2.out S3.out m1 m1 m1).mono ?_
    unfold ApPost
    rw [Lp.out, Cp.out]
    rintro e w2 ⟨A4, c4, rfl, s4, hb, e4⟩
    have b2 := Lib.hid (b1.out.trans (hb.mono b1.out.size))
    have S1 := Lib.hid (S1.out.bel hb)
    have S2 := Lib.hid (S2.out.bel hb)
    have S3 := Lib.hid (S3.out.bel hb)
    have S4 := Lib.hid s4
    clear hb s4 e4
    go_wp2_with fail
    refine (papply_any x A1 A2 A3 n n n c1 c2 c3 r d a w2 S1.out S2.out S3.out m1 m1 m1).mono ?_
    unfold ApPost
    rw [Lq.out, Cq.out]
    rintro e w3 ⟨A5, c5, rfl, s5, hb, e5⟩
    have b3 := Lib.hid (b2.out.trans (hb.mono b2.out.size))
    have S1 := Lib.hid (S1.out.bel hb)
    have S2 := Lib.hid (S2.out.bel hb)
    have S3 := Lib.hid (S3.out.bel hb)
    have S4 := Lib.hid (S4.out.bel hb)
    have S5 := Lib.hid s5
    clear hb s5 e5
    go_wp2_with fail
    refine (papply_any 0 A1 A2 A3 n n n c1 c2 c3 r d a w3 S1.out S2.out S3.out m1 m1 m1).mono ?_
    unfold ApPost
    rw [Lz.out, Cz.out]
    rintro e w4 ⟨A6, c6, rfl, s6, hb, e6⟩
    have b4 := Lib.hid (b3.out.trans (hb.mono b3.out.size))
    have S4 := Lib.hid (S4.out.bel hb)
    have S5 := Lib.hid (S5.out.bel hb)
    have S6 := Lib.hid s6
    have R4 := Lib.hid (Hr.out.bel b4.out)
    clear hb s6 e6
    go_wp2_with fail
    go_loopw [16] (fun i wr => ∃ i' m : Nat, i' ≤ L ∧ i = .int .i64 i' ∧ wr = w4.drewN m) (fun i _ => L - (intOf i).toNat)
    case atStart => exact ⟨0, 0, by omega, rfl, rfl⟩
    case round =>
      obtain ⟨i, mi, hi, rfl, rfl⟩ := hrel
      by_cases hiL : i < L
      · have hC0 : C = 0 := HL.out.2.2 (by omega)
        have hLn := HL.out.1
        have V := (chk_zero (Cp.out.trans hC0)).2.2
        have hg := pay_grows x x (by omega) (by omega) r d a i (fun j hj => V.a0 j (by omega))
        have f1 : decide (pay x r d a i < pay x r d a i) = false := by first | (simp; done) | (simp; omega)
        have f2 : decide (pay 0 r d a i < pay x r d a i) = false := by first | (simp; done) | (simp; omega)
        have f3 : (pay 0 r d a i != a i) = false := by first | (simp; done) | (simp; omega)
        obtain ⟨rb, ro, rfl, hrb, y1, y2, y3⟩ := R4.out.at_ i (by omega)
        obtain ⟨pb4, po4, rfl, hpb4, y4⟩ := S4.out.at_ i hiL
        obtain ⟨pb5, po5, rfl, hpb5, y5⟩ := S5.out.at_ i hiL
        obtain ⟨pb6, po6, rfl, hpb6, y6⟩ := S6.out.at_ i hiL
        have hiI : (i : Int) < (L : Int) := by omega
        have hiN : (i : Int) < (n : Int) := by omega
        clear V hg hC0 hLn y1 y2
        go_wp2
        go_quiet (fail)
        go_wp2
        go_roundw
        case rel => exact ⟨i + 1, _, by omega, by go_num, rfl⟩
        case measure => simp [intOf]; omega
      · have hiL' : i = L := by omega
        subst hiL'
        have b5 := Lib.hid (below_drewN b4.out mi)
        have hLn := HL.out.2.1
        by_cases hC0 : C = 0
        · have hLn' := hLn hC0
          subst hC0
          subst hLn'
          clear hLn
          go_wp2_with fail
          refine (awake_any _).mono ?_
          rintro e w6 ⟨rfl, hb⟩
          have b6 := Lib.hid (b5.out.trans (hb.mono b5.out.size))
          clear hb
          go_wp2_with fail
          go_ret
          exact ⟨rfl, b6.out⟩
        · have hcb : (C != 0) = true := by simpa using hC0
          clear hLn hC0
          go_wp2_with fail
          refine (awake_any _).mono ?_
          rintro e w6 ⟨rfl, hb⟩
          have b6 := Lib.hid (b5.out.trans (hb.mono b5.out.size))
          clear hb
          go_wp2_with fail
          go_ret
          exact ⟨rfl, b6.out⟩
  · by_cases h1 : 300 < n
    · go_enter Try.func8, Try.ntmps8
      go_wp2
      go_region
      go_wp2_with fail
      refine (awake_any _).mono ?_
      rintro e w1 ⟨rfl, hb⟩
      have b9 := Lib.hid ((Below.drew b0.out).trans (hb.mono b0.out.size))
      clear hb
      go_wp2_with fail
      go_ret
      exact ⟨rfl, b9.out⟩
    by_cases h2 : y < 1
    · go_enter Try.func8, Try.ntmps8
      go_wp2
      go_region
      go_wp2_with fail
      refine (awake_any _).mono ?_
      rintro e w1 ⟨rfl, hb⟩
      have b9 := Lib.hid ((Below.drew b0.out).trans (hb.mono b0.out.size))
      clear hb
      go_wp2_with fail
      go_ret
      exact ⟨rfl, b9.out⟩
    by_cases h3 : 1000000000000 < x
    · go_enter Try.func8, Try.ntmps8
      go_wp2
      go_region
      go_wp2_with fail
      refine (awake_any _).mono ?_
      rintro e w1 ⟨rfl, hb⟩
      have b9 := Lib.hid ((Below.drew b0.out).trans (hb.mono b0.out.size))
      clear hb
      go_wp2_with fail
      go_ret
      exact ⟨rfl, b9.out⟩
    have m2 : n ≤ 300 := by omega
    have hp1 : inB y 0 1000000000000 = true := inB_iff.2 (by omega)
    have hq1 : inB x 0 1000000000000 = true := inB_iff.2 (by omega)
    have hz1 : inB 0 0 1000000000000 = true := inB_iff.2 (by omega)
    obtain ⟨C, hC⟩ : ∃ C, chk 0 n n n r d a = C := ⟨_, rfl⟩
    obtain ⟨L, hL⟩ : ∃ L, outLen 0 n n n r d a = L := ⟨_, rfl⟩
    have Cp := Lib.hid ((chk_lim hp1 hz1).trans hC)
    have Cq := Lib.hid ((chk_lim hq1 hz1).trans hC)
    have Lp := Lib.hid ((len_lim hp1 hz1).trans hL)
    have Lq := Lib.hid ((len_lim hq1 hz1).trans hL)
    have hLn : L ≤ n ∧ (C = 0 → L = n) ∧ (0 < L → C = 0) := by
      by_cases h : chk 0 n n n r d a = 0
      · rw [outLen_pos h] at hL; omega
      · rw [outLen_neg h] at hL; omega
    have Cz := Lib.hid hC
    have Lz := Lib.hid hL
    have HL := Lib.hid hLn
    have hLe : L ≤ 300 := by omega
    clear hp1 hq1 hz1 hC hL hLn h1
    go_enter Try.func8, Try.ntmps8
    go_wp2
    go_region
    go_wp2_with fail
    refine (lists_any A n c r d a _ (by exact R0.out) m2).mono ?_
    rintro e w1 ⟨A1, c1, A2, c2, A3, c3, rfl, s1, s2, s3, e1, e2, e3, hb1⟩
    have b1 := Lib.hid ((Below.drew b0.out).trans (hb1.mono b0.out.size))
    have S1 := Lib.hid s1
    have S2 := Lib.hid s2
    have S3 := Lib.hid s3
    clear s1 s2 s3 e1 e2 e3 hb1
    go_wp2_with fail
    refine (papply_any y A1 A2 A3 n n n c1 c2 c3 r d a w1 S1.out S2.out S3.out m1 m1 m1).mono ?_
    unfold ApPost
    rw [Lp.out, Cp.out]
    rintro e w2 ⟨A4, c4, rfl, s4, hb, e4⟩
    have b2 := Lib.hid (b1.out.trans (hb.mono b1.out.size))
    have S1 := Lib.hid (S1.out.bel hb)
    have S2 := Lib.hid (S2.out.bel hb)
    have S3 := Lib.hid (S3.out.bel hb)
    have S4 := Lib.hid s4
    clear hb s4 e4
    go_wp2_with fail
    refine (papply_any x A1 A2 A3 n n n c1 c2 c3 r d a w2 S1.out S2.out S3.out m1 m1 m1).mono ?_
    unfold ApPost
    rw [Lq.out, Cq.out]
    rintro e w3 ⟨A5, c5, rfl, s5, hb, e5⟩
    have b3 := Lib.hid (b2.out.trans (hb.mono b2.out.size))
    have S1 := Lib.hid (S1.out.bel hb)
    have S2 := Lib.hid (S2.out.bel hb)
    have S3 := Lib.hid (S3.out.bel hb)
    have S4 := Lib.hid (S4.out.bel hb)
    have S5 := Lib.hid s5
    clear hb s5 e5
    go_wp2_with fail
    refine (papply_any 0 A1 A2 A3 n n n c1 c2 c3 r d a w3 S1.out S2.out S3.out m1 m1 m1).mono ?_
    unfold ApPost
    rw [Lz.out, Cz.out]
    rintro e w4 ⟨A6, c6, rfl, s6, hb, e6⟩
    have b4 := Lib.hid (b3.out.trans (hb.mono b3.out.size))
    have S4 := Lib.hid (S4.out.bel hb)
    have S5 := Lib.hid (S5.out.bel hb)
    have S6 := Lib.hid s6
    have R4 := Lib.hid (Hr.out.bel b4.out)
    clear hb s6 e6
    go_wp2_with fail
    go_loopw [16] (fun i wr => ∃ i' m : Nat, i' ≤ L ∧ i = .int .i64 i' ∧ wr = w4.drewN m) (fun i _ => L - (intOf i).toNat)
    case atStart => exact ⟨0, 0, by omega, rfl, rfl⟩
    case round =>
      obtain ⟨i, mi, hi, rfl, rfl⟩ := hrel
      by_cases hiL : i < L
      · have hC0 : C = 0 := HL.out.2.2 (by omega)
        have hLn := HL.out.1
        have V := (chk_zero (Cp.out.trans hC0)).2.2
        have hg := pay_grows y x (by omega) (by omega) r d a i (fun j hj => V.a0 j (by omega))
        have f1 : decide (pay x r d a i < pay y r d a i) = false := by first | (simp; done) | (simp; omega)
        have f2 : decide (pay 0 r d a i < pay x r d a i) = false := by first | (simp; done) | (simp; omega)
        have f3 : (pay 0 r d a i != a i) = false := by first | (simp; done) | (simp; omega)
        obtain ⟨rb, ro, rfl, hrb, y1, y2, y3⟩ := R4.out.at_ i (by omega)
        obtain ⟨pb4, po4, rfl, hpb4, y4⟩ := S4.out.at_ i hiL
        obtain ⟨pb5, po5, rfl, hpb5, y5⟩ := S5.out.at_ i hiL
        obtain ⟨pb6, po6, rfl, hpb6, y6⟩ := S6.out.at_ i hiL
        have hiI : (i : Int) < (L : Int) := by omega
        have hiN : (i : Int) < (n : Int) := by omega
        clear V hg hC0 hLn y1 y2
        go_wp2
        go_quiet (fail)
        go_wp2
        go_roundw
        case rel => exact ⟨i + 1, _, by omega, by go_num, rfl⟩
        case measure => simp [intOf]; omega
      · have hiL' : i = L := by omega
        subst hiL'
        have b5 := Lib.hid (below_drewN b4.out mi)
        have hLn := HL.out.2.1
        by_cases hC0 : C = 0
        · have hLn' := hLn hC0
          subst hC0
          subst hLn'
          clear hLn
          go_wp2_with fail
          refine (awake_any _).mono ?_
          rintro e w6 ⟨rfl, hb⟩
          have b6 := Lib.hid (b5.out.trans (hb.mono b5.out.size))
          clear hb
          go_wp2_with fail
          go_ret
          exact ⟨rfl, b6.out⟩
        · have hcb : (C != 0) = true := by simpa using hC0
          clear hLn hC0
          go_wp2_with fail
          refine (awake_any _).mono ?_
          rintro e w6 ⟨rfl, hb⟩
          have b6 := Lib.hid (b5.out.trans (hb.mono b5.out.size))
          clear hb
          go_wp2_with fail
          go_ret
          exact ⟨rfl, b6.out⟩
end Go.Proofs.Ytfdidnfkcmbgiaa
