/- The walks of the laws TargetLost, TargetCosts, TargetMoves, TargetServed. -/
import Derived.Test.YtnfgbghjdmimgaaGD
namespace Go.Proofs.Ytnfgbghjdmimgaa
open Go.RowKit
set_option maxHeartbeats 4000000
set_option maxRecDepth 100000
set_option linter.unusedVariables false
theorem same_self (n : Nat) (f : Nat → Int) : sameB n n f f = true := by simp [sameB]

theorem law3_any (d l : Int) (A : Option Addr) (n c : Nat) (g : Nat → Int) (w : World) (hr : SlI w A n g) (m1 : n ≤ 9223372036854775807) :
    Calls Try.prog 3 #[.int .i64 d, .int .i64 l, .slice A n c] w fun e w' => e = .returned (.bool true) ∧ Below w.heap.size w w' := by
  have Hr := Lib.hid hr
  clear hr
  have B := Lib.hid (Below.refl w.heap.size w)
  by_cases h1 : 100 < n
  · go_enter Try.func3, Try.ntmps3
    go_wp2_with fail
    refine (awake_any _).mono ?_
    rintro e w9 ⟨rfl, hb⟩
    have B9 := Lib.hid (B.out.trans (hb.mono B.out.size))
    clear hb
    go_wp2_with fail
    go_ret
    exact ⟨rfl, B9.out⟩
  go_enter Try.func3, Try.ntmps3
  go_wp2_with fail
  refine (lost11 A n c g d l w Hr.out m1).mono ?_
  rintro e w1 ⟨rfl, hb⟩
  have B' := Lib.hid (B.out.trans (hb.mono B.out.size))
  clear B
  have B := B'
  clear B'
  clear hb
  go_wp2_with fail
  refine (lost12 A n c g d l _ (Hr.out.bel B.out) m1).mono ?_
  rintro e w2 ⟨rfl, hb⟩
  have B' := Lib.hid (B.out.trans (hb.mono B.out.size))
  clear B
  have B := B'
  clear B'
  clear hb
  go_wp2_with fail
  refine (awake_any _).mono ?_
  rintro e w9 ⟨rfl, hb⟩
  have B9 := Lib.hid (B.out.trans (hb.mono B.out.size))
  clear hb
  go_wp2_with fail
  go_ret
  exact ⟨rfl, B9.out⟩

theorem law4_any (d : Int) (A : Option Addr) (n c : Nat) (f : Cs) (w : World) (hr : Elems RowV w A n f) (m1 : n ≤ 9223372036854775807) :
    Calls Try.prog 4 #[.int .i64 d, .slice A n c] w fun e w' => e = .returned (.bool true) ∧ Below w.heap.size w w' := by
  have Hr := Lib.hid hr
  clear hr
  have B := Lib.hid (Below.refl w.heap.size w)
  cases hq : fewB n f 40
  · have Hq := Lib.hid hq
    clear hq
    go_enter Try.func4, Try.ntmps4
    go_wp2_with fail
    refine (few13 A n c f 40 w Hr.out m1).mono ?_
    rw [Hq.out]
    rintro e w1 ⟨rfl, hb⟩
    have B' := Lib.hid (B.out.trans (hb.mono B.out.size))
    clear B
    have B := B'
    clear B'
    clear hb
    go_wp2_with fail
    refine (awake_any _).mono ?_
    rintro e w9 ⟨rfl, hb⟩
    have B9 := Lib.hid (B.out.trans (hb.mono B.out.size))
    clear hb
    go_wp2_with fail
    go_ret
    exact ⟨rfl, B9.out⟩
  have Hq := Lib.hid hq
  clear hq
  go_enter Try.func4, Try.ntmps4
  go_wp2_with fail
  refine (few13 A n c f 40 w Hr.out m1).mono ?_
  rw [Hq.out]
  rintro e w1 ⟨rfl, hb⟩
  have B' := Lib.hid (B.out.trans (hb.mono B.out.size))
  clear B
  have B := B'
  clear B'
  clear hb
  go_wp2_with fail
  refine (costs14 A n c f d _ (Hr.out.bel rowV_stays B.out) m1).mono ?_
  rintro e w2 ⟨⟨v, rfl, A2, c2, rfl, hs2, hm2, hc2⟩, hb⟩
  have B' := Lib.hid (B.out.trans (hb.mono B.out.size))
  clear B
  have B := B'
  clear B'
  have S2 := Lib.hid hs2
  clear hs2
  clear hb
  go_wp2_with fail
  refine (costs15 A n c f d _ (Hr.out.bel rowV_stays B.out) m1).mono ?_
  rintro e w3 ⟨⟨v, rfl, A3, c3, rfl, hs3, hm3, hc3⟩, hb⟩
  have B' := Lib.hid (B.out.trans (hb.mono B.out.size))
  clear B
  have B := B'
  clear B'
  have S2 := Lib.hid (S2.out.bel hb)
  have S3 := Lib.hid hs3
  clear hs3
  clear hb
  go_wp2_with fail
  refine (best16 A n c f d _ (Hr.out.bel rowV_stays B.out) m1).mono ?_
  rintro e w4 ⟨rfl, hb⟩
  have B' := Lib.hid (B.out.trans (hb.mono B.out.size))
  clear B
  have B := B'
  clear B'
  have S2 := Lib.hid (S2.out.bel hb)
  have S3 := Lib.hid (S3.out.bel hb)
  clear hb
  go_wp2_with fail
  refine (best17 A n c f d _ (Hr.out.bel rowV_stays B.out) m1).mono ?_
  rintro e w5 ⟨rfl, hb⟩
  have B' := Lib.hid (B.out.trans (hb.mono B.out.size))
  clear B
  have B := B'
  clear B'
  have S2 := Lib.hid (S2.out.bel hb)
  have S3 := Lib.hid (S3.out.bel hb)
  clear hb
  go_wp2_with fail
  refine (ints18 A2 A3 _ _ c2 c3 _ _ _ S2.out S3.out (by omega) (by omega)).mono ?_
  rw [same_self]
  rintro e w6 ⟨rfl, hb⟩
  have B' := Lib.hid (B.out.trans (hb.mono B.out.size))
  clear B
  have B := B'
  clear B'
  clear hb
  go_wp2_with fail
  refine (awake_any _).mono ?_
  rintro e w9 ⟨rfl, hb⟩
  have B9 := Lib.hid (B.out.trans (hb.mono B.out.size))
  clear hb
  go_wp2_with fail
  go_ret
  exact ⟨rfl, B9.out⟩

theorem law5_any (A1 A2 A3 : Option Addr) (n m k c1 c2 c3 : Nat) (dk nw : Nat → Int) (cs : Nat → Nat × Cs) (w : World) (hr1 : SlI w A1 n dk) (hr2 : SlI w A2 m nw) (hr3 : Elems RowsV w A3 k cs)
    (m1 : n ≤ 9223372036854775807) (m2 : m ≤ 9223372036854775807) (m3 : k ≤ 9223372036854775807) :
    Calls Try.prog 5 #[.slice A1 n c1, .slice A2 m c2, .slice A3 k c3] w fun e w' => e = .returned (.bool true) ∧ Below w.heap.size w w' := by
  have Hr1 := Lib.hid hr1
  have Hr2 := Lib.hid hr2
  have Hr3 := Lib.hid hr3
  clear hr1 hr2 hr3
  have B := Lib.hid (Below.refl w.heap.size w)
  by_cases hl : 40 < n ∨ 40 < m ∨ 40 < k
  · rcases (show 40 < n ∨ (n ≤ 40 ∧ 40 < m) ∨ (n ≤ 40 ∧ m ≤ 40 ∧ 40 < k) by omega) with h | ⟨h, h'⟩ | ⟨h, h', h''⟩
    all_goals
      clear hl
      go_enter Try.func5, Try.ntmps5
      go_wp2_with fail
      refine (awake_any _).mono ?_
      rintro e w9 ⟨rfl, hb⟩
      have B9 := Lib.hid (B.out.trans (hb.mono B.out.size))
      clear hb
      go_wp2_with fail
      go_ret
      exact ⟨rfl, B9.out⟩
  have l1 : n ≤ 40 := by omega
  have l2 : m ≤ 40 := by omega
  have l3 : k ≤ 40 := by omega
  clear hl
  go_enter Try.func5, Try.ntmps5
  go_wp2_with fail
  go_loopw [7] (fun i wr => ∃ j : Nat, j ≤ k ∧ i = .int .i64 j ∧ Hid (Below w.heap.size w wr)) (fun i _ => k - (intOf i).toNat)
  case atStart => exact ⟨0, by omega, rfl, B⟩
  clear B
  case round =>
    obtain ⟨j, hj, rfl, B⟩ := hrel
    by_cases hlt : j < k
    · obtain ⟨b3, o3, u, rfl, _, z3, A4, c4, rfl, hel, m4⟩ := (Hr3.out.bel rowsV_stays B.out).at_ j hlt
      have Hel := Lib.hid hel
      clear hel
      cases hq : fewB (cs j).1 (cs j).2 6
      · have Hq := Lib.hid hq
        clear hq
        go_wp2_with fail
        refine (few13 A4 _ c4 _ 6 _ Hel.out m4).mono ?_
        rw [Hq.out]
        rintro e w1 ⟨rfl, hb⟩
        have B' := Lib.hid (B.out.trans (hb.mono B.out.size))
        clear B
        have B := B'
        clear B'
        clear hb
        go_wp2_with fail
        refine (awake_any _).mono ?_
        rintro e w9 ⟨rfl, hb⟩
        have B9 := Lib.hid (B.out.trans (hb.mono B.out.size))
        clear hb
        go_wp2_with fail
        go_ret
        exact ⟨rfl, B9.out⟩
      · have Hq := Lib.hid hq
        clear hq
        go_wp2_with fail
        refine (few13 A4 _ c4 _ 6 _ Hel.out m4).mono ?_
        rw [Hq.out]
        rintro e w1 ⟨rfl, hb⟩
        have B' := Lib.hid (B.out.trans (hb.mono B.out.size))
        clear B
        have B := B'
        clear B'
        clear hb
        go_wp2_with fail
        go_roundw
        case rel => exact ⟨j + 1, by omega, by go_num, B⟩
        case measure => simp [intOf]; omega
    · go_wp2_with fail
      refine (moves19 A1 A2 A3 n m k c1 c2 c3 dk nw cs _ (Hr1.out.bel B.out) (Hr2.out.bel B.out) (Hr3.out.bel rowsV_stays B.out) m1 m2 m3).mono ?_
      rintro e w2 ⟨⟨v, rfl, A5, c5, rfl, hs2, hm2, hc5⟩, hb⟩
      have B' := Lib.hid (B.out.trans (hb.mono B.out.size))
      clear B
      have B := B'
      clear B'
      have S2 := Lib.hid hs2
      clear hs2
      clear hb
      go_wp2_with fail
      refine (moves20 A1 A2 A3 n m k c1 c2 c3 dk nw cs _ (Hr1.out.bel B.out) (Hr2.out.bel B.out) (Hr3.out.bel rowsV_stays B.out) m1 m2 m3).mono ?_
      rintro e w3 ⟨⟨v, rfl, A6, c6, rfl, hs3, hm3, hc6⟩, hb⟩
      have B' := Lib.hid (B.out.trans (hb.mono B.out.size))
      clear B
      have B := B'
      clear B'
      have S2 := Lib.hid (S2.out.bel hb)
      have S3 := Lib.hid hs3
      clear hs3
      clear hb
      go_wp2_with fail
      refine (ints18 A5 A6 _ _ c5 c6 _ _ _ S2.out S3.out (by omega) (by omega)).mono ?_
      rw [same_self]
      rintro e w6 ⟨rfl, hb⟩
      have B' := Lib.hid (B.out.trans (hb.mono B.out.size))
      clear B
      have B := B'
      clear B'
      clear hb
      go_wp2_with fail
      refine (awake_any _).mono ?_
      rintro e w9 ⟨rfl, hb⟩
      have B9 := Lib.hid (B.out.trans (hb.mono B.out.size))
      clear hb
      go_wp2_with fail
      go_ret
      exact ⟨rfl, B9.out⟩

def ServedAt (d l : Int) (n : Nat) (g : Nat → Int) (k : Nat) (b : Bool) (a : Int) : Prop :=
  -(k : Int) ≤ a ∧ a ≤ 32 + k ∧ (b = true → 0 ≤ a ∧ a ≤ d ∧ lostR d (n - k) (fun i => g (i + k)) a = lostR d n g l) ∧ (b = false → 0 < lostR d n g l)
theorem ServedAt.zero {d l : Int} {n : Nat} {g : Nat → Int} (h0 : 0 ≤ l) (h1 : l ≤ d) (h2 : d ≤ 32) : ServedAt d l n g 0 true l := ⟨by omega, by omega, fun _ => ⟨h0, h1, rfl⟩, fun h => by cases h⟩
theorem ServedAt.stay {d l : Int} {n : Nat} {g : Nat → Int} {k : Nat} {a y : Int} (h : ServedAt d l n g k false a) (hy : y = 1 ∨ y = -1) : ServedAt d l n g (k + 1) false (a + y) := by
  obtain ⟨a1, a2, _, a4⟩ := h
  exact ⟨by omega, by omega, (fun h => by cases h), a4⟩
theorem ServedAt.in_ {d l : Int} {n : Nat} {g : Nat → Int} {k : Nat} {a y : Int} (h : ServedAt d l n g k true a) (hk : k < n) (hg : g k = y) (hy : y = 1 ∨ y = -1) (h0 : 0 ≤ a + y) (h1 : a + y ≤ d) : ServedAt d l n g (k + 1) true (a + y) := by
  obtain ⟨a1, a2, a3, _⟩ := h
  obtain ⟨b1, b2, b3⟩ := a3 rfl
  rw [lost_step d n k g a hk, hg, if_neg (by omega)] at b3
  exact ⟨by omega, by omega, fun _ => ⟨h0, h1, b3⟩, fun h => by cases h⟩
theorem ServedAt.out_ {d l : Int} {n : Nat} {g : Nat → Int} {k : Nat} {a y : Int} (h : ServedAt d l n g k true a) (hk : k < n) (hg : g k = y) (hy : y = 1 ∨ y = -1) (h0 : a + y < 0 ∨ d < a + y) : ServedAt d l n g (k + 1) false (a + y) := by
  obtain ⟨a1, a2, a3, _⟩ := h
  obtain ⟨b1, b2, b3⟩ := a3 rfl
  rw [lost_step d n k g a hk, hg, if_pos h0] at b3
  have := lost_bd d (n - (k + 1)) (fun i => g (i + (k + 1))) a
  exact ⟨by omega, by omega, (fun h => by cases h), fun _ => by omega⟩
theorem ServedAt.end_ {d l : Int} {n : Nat} {g : Nat → Int} {b : Bool} {a : Int} (h : ServedAt d l n g n b a) : (b = true → lostR d n g l = 0) ∧ (b = false → 0 < lostR d n g l) := by
  obtain ⟨a1, a2, a3, a4⟩ := h
  exact ⟨fun hb => by have := (a3 hb).2.2; rw [lost_end] at this; exact this.symm, a4⟩

theorem law7_any (d l : Int) (A : Option Addr) (n c : Nat) (g : Nat → Int) (w : World) (hr : SlI w A n g) (m1 : n ≤ 9223372036854775807) :
    Calls Try.prog 7 #[.int .i64 d, .int .i64 l, .slice A n c] w fun e w' => e = .returned (.bool true) ∧ Below w.heap.size w w' := by
  have Hr := Lib.hid hr
  clear hr
  have B := Lib.hid (Below.refl w.heap.size w)
  by_cases h1 : 100 < n
  · go_enter Try.func7, Try.ntmps7
    go_wp2_with fail
    refine (awake_any _).mono ?_
    rintro e w9 ⟨rfl, hb⟩
    have B9 := Lib.hid (B.out.trans (hb.mono B.out.size))
    clear hb
    go_wp2_with fail
    go_ret
    exact ⟨rfl, B9.out⟩
  by_cases hc : codeLs d l n g = 0
  case neg =>
    have hcb : (codeLs d l n g != 0) = true := by simpa using hc
    have H2 := Lib.hid (show valLs d l n g = 0 from if_neg hc)
    clear hc
    go_enter Try.func7, Try.ntmps7
    go_wp2_with fail
    refine (lost11 A n c g d l w Hr.out m1).mono ?_
    rw [H2.out]
    rintro e w1 ⟨rfl, hb⟩
    have B' := Lib.hid (B.out.trans (hb.mono B.out.size))
    clear B
    have B := B'
    clear B'
    clear hb
    go_wp2_with fail
    refine (awake_any _).mono ?_
    rintro e w9 ⟨rfl, hb⟩
    have B9 := Lib.hid (B.out.trans (hb.mono B.out.size))
    clear hb
    go_wp2_with fail
    go_ret
    exact ⟨rfl, B9.out⟩
  obtain ⟨d1, d2, l0, l1, he⟩ := codeLs_zero hc
  obtain ⟨n64, hok⟩ := errC_zero he
  have Hok := Lib.hid (okB_all hok)
  have HV := Lib.hid (show valLs d l n g = lostR d n g l from if_pos hc)
  have HC := Lib.hid hc
  have hbd := lost_bd d n g l
  obtain ⟨X, hX⟩ : ∃ X, lostR d n g l = X := ⟨_, rfl⟩
  rw [hX] at hbd
  obtain ⟨x0, x1⟩ := hbd
  have HX := Lib.hid hX
  clear hc he hok hX
  go_enter Try.func7, Try.ntmps7
  go_wp2_with fail
  refine (lost11 A n c g d l w Hr.out m1).mono ?_
  rw [HC.out, HV.out, HX.out]
  rintro e w1 ⟨rfl, hb⟩
  have B' := Lib.hid (B.out.trans (hb.mono B.out.size))
  clear B
  have B := B'
  clear B'
  clear hb
  go_wp2_with fail
  go_loopw [11, 9, 10] (fun i b a wr => ∃ (k : Nat) (bb : Bool) (aa : Int), k ≤ n ∧ i = .int .i64 k ∧ b = .bool bb ∧ a = .int .i64 aa ∧ Hid (ServedAt d l n g k bb aa) ∧ Hid (Below w.heap.size w wr)) (fun i _ _ _ => n - (intOf i).toNat)
  case atStart => exact ⟨0, true, l, by omega, rfl, rfl, rfl, Lib.hid (ServedAt.zero l0 l1 d2), B⟩
  clear B
  case round =>
    obtain ⟨k, bb, aa, hk, rfl, rfl, rfl, Hs, B⟩ := hrel
    obtain ⟨s1, s2, s3, _⟩ := Hs.out
    by_cases hlt : k < n
    · obtain ⟨b, o, rfl, _, z⟩ := (Hr.out.bel B.out).at_ k hlt
      obtain ⟨y, hy⟩ : ∃ y, g k = y := ⟨_, rfl⟩
      have hy2 := Hok.out k hlt
      rw [hy] at z hy2
      have Hy := Lib.hid hy
      have Hy2 := Lib.hid hy2
      have hw : IntKind.i64.wrap (aa + y) = aa + y := IntWalk.i64_in _ (by omega)
      clear hy
      cases bb
      · clear s3 hy2
        go_wp2_with fail
        go_roundw
        case rel => exact ⟨k + 1, false, aa + y, by omega, by go_num, rfl, rfl, Lib.hid (Hs.out.stay Hy2.out), B⟩
        case measure => simp [intOf]; omega
      · obtain ⟨s4, s5, _⟩ := s3 rfl
        by_cases hi : 0 ≤ aa + y ∧ aa + y ≤ d
        · obtain ⟨i1, i2⟩ := hi
          clear hy2 s3
          go_wp2_with fail
          go_roundw
          case rel => exact ⟨k + 1, true, aa + y, by omega, by go_num, by simp [*], rfl, Lib.hid (Hs.out.in_ hlt Hy.out Hy2.out i1 i2), B⟩
          case measure => simp [intOf]; omega
        · have ho : aa + y < 0 ∨ d < aa + y := by omega
          have Ho := Lib.hid ho
          clear hy2 s3 hi
          rcases ho with ho | ho
          · go_wp2_with fail
            go_roundw
            case rel => exact ⟨k + 1, false, aa + y, by omega, by go_num, by simp [*], rfl, Lib.hid (Hs.out.out_ hlt Hy.out Hy2.out Ho.out), B⟩
            case measure => simp [intOf]; omega
          · by_cases hz : 0 ≤ aa + y
            · go_wp2_with fail
              go_roundw
              case rel => exact ⟨k + 1, false, aa + y, by omega, by go_num, by simp [*], rfl, Lib.hid (Hs.out.out_ hlt Hy.out Hy2.out Ho.out), B⟩
              case measure => simp [intOf]; omega
            · omega
    · have hkn : k = n := by omega
      subst hkn
      obtain ⟨e1, e2⟩ := Hs.out.end_
      rw [HX.out] at e1 e2
      cases bb
      · have e3 := e2 rfl
        have e4 : (X == 0) = false := by simp; omega
        clear e1 e2 s3
        go_wp2_with fail
        refine (awake_any _).mono ?_
        rintro e w9 ⟨rfl, hb⟩
        have B9 := Lib.hid (B.out.trans (hb.mono B.out.size))
        clear hb
        go_wp2_with fail
        go_ret
        exact ⟨rfl, B9.out⟩
      · have e3 := e1 rfl
        subst e3
        clear e1 e2 s3
        go_wp2_with fail
        refine (awake_any _).mono ?_
        rintro e w9 ⟨rfl, hb⟩
        have B9 := Lib.hid (B.out.trans (hb.mono B.out.size))
        clear hb
        go_wp2_with fail
        go_ret
        exact ⟨rfl, B9.out⟩
end Go.Proofs.Ytnfgbghjdmimgaa
