/- The walk of the law TargetSums. -/
import Derived.Test.YtnfgbghjdmimgaaGD
import Derived.Test.YtnfgbghjdmimgaaAppRow
namespace Go.Proofs.Ytnfgbghjdmimgaa
open Go.RowKit
set_option maxHeartbeats 4000000
set_option maxRecDepth 100000
set_option linter.unusedVariables false
theorem isRow22 : IsRow Try.prog 22 := by unfold IsRow; kernel_rfl
theorem few_most {n : Nat} {f : Cs} {most : Int} (h : fewB n f most = true) : (n : Int) ≤ most := by
  unfold fewB at h
  simp only [Bool.and_eq_true, decide_eq_true_eq] at h
  exact h.2
theorem both_code {d : Int} {n m : Nat} {f h : Cs} (hn : n ≤ 16) (hm : m ≤ 16) : (codeCs d n f = 0 ∧ codeCs d m h = 0 → codeCs d (n + m) (bothC n f h) = 0) ∧ (codeCs d n f ≠ 0 ∨ codeCs d m h ≠ 0 → codeCs d (n + m) (bothC n f h) ≠ 0) := by
  unfold codeCs
  by_cases hd : d < 1 ∨ 32 < d
  · rw [if_pos hd, if_pos hd, if_pos hd]; exact ⟨fun h => h.1, fun _ => by decide⟩
  · rw [if_neg hd, if_neg hd, if_neg hd, if_neg (by omega), if_neg (by omega), if_neg (by omega), scan_both]
    by_cases h0 : scanC f n = 0
    · rw [if_pos h0]; exact ⟨fun h => h.2, fun h => by rcases h with h | h; exact absurd h0 h; exact h⟩
    · rw [if_neg h0]; exact ⟨fun h => absurd h.1 h0, fun _ => h0⟩
theorem both_rows {w : World} {n1 n2 : Nat} {f1 f2 : Cs} {L1 L2 : List Value} (h1 : L1.length = n1) (h2 : L2.length = n2) (e1 : ∀ j, j < n1 → ∃ u, L1[j]? = some u ∧ RowV w (f1 j) u) (e2 : ∀ j, j < n2 → ∃ u, L2[j]? = some u ∧ RowV w (f2 j) u)
    {w' : World} (hb : Below w.heap.size w w') : ∀ i, i < n1 + n2 → ∃ u, (L1 ++ L2)[i]? = some u ∧ RowV w' (bothC n1 f1 f2 i) u := by
  intro i hi
  by_cases hl : i < n1
  · obtain ⟨u, hu, hr⟩ := e1 i hl
    refine ⟨u, by rw [List.getElem?_append_left (by omega)]; exact hu, ?_⟩
    unfold bothC; rw [if_pos hl]; exact rowV_stays _ _ _ _ hr hb
  · obtain ⟨u, hu, hr⟩ := e2 (i - n1) (by omega)
    refine ⟨u, by rw [List.getElem?_append_right (by omega), h1]; exact hu, ?_⟩
    unfold bothC; rw [if_neg hl]; exact rowV_stays _ _ _ _ hr hb

theorem law9_any (d : Int) (A1 A2 : Option Addr) (n1 n2 c1 c2 : Nat) (f1 f2 : Cs) (w : World) (hr1 : Elems RowV w A1 n1 f1) (hr2 : Elems RowV w A2 n2 f2) (m1 : n1 ≤ 9223372036854775807) (m2 : n2 ≤ 9223372036854775807)
    (z1 : A1 = none → c1 = 0) (z2 : A2 = none → c2 = 0) :
    Calls Try.prog 9 #[.int .i64 d, .slice A1 n1 c1, .slice A2 n2 c2] w fun e w' => e = .returned (.bool true) ∧ Below w.heap.size w w' := by
  have Hr1 := Lib.hid hr1
  have Hr2 := Lib.hid hr2
  have Z1 := Lib.hid z1
  have Z2 := Lib.hid z2
  obtain ⟨L1, l1, x1, y1, o1⟩ := hr1.list
  obtain ⟨L2, l2, x2, y2, o2⟩ := hr2.list
  have K1 := Lib.hid l1
  have K2 := Lib.hid l2
  have X1 := Lib.hid x1
  have X2 := Lib.hid x2
  have Y1 := Lib.hid y1
  have Y2 := Lib.hid y2
  have O1 := Lib.hid o1
  have O2 := Lib.hid o2
  clear hr1 hr2 z1 z2 l1 l2 x1 x2 y1 y2 o1 o2
  have B := Lib.hid (Below.refl w.heap.size w)
  cases hq1 : fewB n1 f1 16
  · have Hq1 := Lib.hid hq1
    clear hq1
    go_enter Try.func9, Try.ntmps9
    go_wp2_with fail
    refine (few13 A1 n1 c1 f1 16 _ Hr1.out m1).mono ?_
    rw [Hq1.out]
    rintro e w1 ⟨rfl, hb⟩
    have B' := Lib.hid (B.out.trans (hb.mono B.out.size))
    clear B
    have B := B'
    clear B'
    clear hb
    go_wp2_with fail
    refine (awake_any _).mono ?_
    rintro e w9 ⟨rfl, hb⟩
    have B9 := Lib.hid (B.out.trans (hb.mono B.out.size))
    clear hb
    go_wp2_with fail
    go_ret
    exact ⟨rfl, B9.out⟩
  have Hq1 := Lib.hid hq1
  clear hq1
  cases hq2 : fewB n2 f2 16
  · have Hq2 := Lib.hid hq2
    clear hq2
    go_enter Try.func9, Try.ntmps9
    go_wp2_with fail
    refine (few13 A1 n1 c1 f1 16 _ Hr1.out m1).mono ?_
    rw [Hq1.out]
    rintro e w1 ⟨rfl, hb⟩
    have B' := Lib.hid (B.out.trans (hb.mono B.out.size))
    clear B
    have B := B'
    clear B'
    clear hb
    go_wp2_with fail
    refine (few13 A2 n2 c2 f2 16 _ (Hr2.out.bel rowV_stays B.out) m2).mono ?_
    rw [Hq2.out]
    rintro e w2 ⟨rfl, hb⟩
    have B' := Lib.hid (B.out.trans (hb.mono B.out.size))
    clear B
    have B := B'
    clear B'
    clear hb
    go_wp2_with fail
    refine (awake_any _).mono ?_
    rintro e w9 ⟨rfl, hb⟩
    have B9 := Lib.hid (B.out.trans (hb.mono B.out.size))
    clear hb
    go_wp2_with fail
    go_ret
    exact ⟨rfl, B9.out⟩
  have Hq2 := Lib.hid hq2
  clear hq2
  have N1 : n1 ≤ 16 := by have := few_most Hq1.out; omega
  have N2 : n2 ≤ 16 := by have := few_most Hq2.out; omega
  have hboth := both_code (d := d) (f := f1) (h := f2) N1 N2
  by_cases h1 : codeCs d n1 f1 = 0
  case neg =>
    have h3 := hboth.2 (.inl h1)
    have g1 : (codeCs d n1 f1 != 0) = true := by simpa using h1
    have g3 : (codeCs d (n1 + n2) (bothC n1 f1 f2) != 0) = true := by simpa using h3
    have J3 := Lib.hid (show lenCs d (n1 + n2) (bothC n1 f1 f2) = 0 from if_neg h3)
    clear h1 h3 hboth
    go_enter Try.func9, Try.ntmps9
    go_wp2_with fail
    refine (few13 A1 n1 c1 f1 16 _ Hr1.out m1).mono ?_
    rw [Hq1.out]
    rintro e w1 ⟨rfl, hb⟩
    have B' := Lib.hid (B.out.trans (hb.mono B.out.size))
    clear B
    have B := B'
    clear B'
    clear hb
    go_wp2_with fail
    refine (few13 A2 n2 c2 f2 16 _ (Hr2.out.bel rowV_stays B.out) m2).mono ?_
    rw [Hq2.out]
    rintro e w2 ⟨rfl, hb⟩
    have B' := Lib.hid (B.out.trans (hb.mono B.out.size))
    clear B
    have B := B'
    clear B'
    clear hb
    go_wp2_with fail
    refine (costs14 A1 n1 c1 f1 d _ (Hr1.out.bel rowV_stays B.out) m1).mono ?_
    rintro e w3 ⟨⟨v1, rfl, hl1⟩, hb⟩
    have B' := Lib.hid (B.out.trans (hb.mono B.out.size))
    clear B
    have B := B'
    clear B'
    obtain ⟨A5, c5, rfl, hs5, hm5, hc5⟩ := hl1
    have S5 := Lib.hid hs5
    clear hs5
    clear hb
    go_wp2_with fail
    refine (costs14 A2 n2 c2 f2 d _ (Hr2.out.bel rowV_stays B.out) m2).mono ?_
    rintro e w4 ⟨⟨v2, rfl, hl2⟩, hb⟩
    have B' := Lib.hid (B.out.trans (hb.mono B.out.size))
    clear B
    have B := B'
    clear B'
    obtain ⟨A6, c6, rfl, hs6, hm6, hc6⟩ := hl2
    have S5 := Lib.hid (S5.out.bel hb)
    have S6 := Lib.hid hs6
    clear hs6
    clear hb
    have H0 := Lib.hid (World.ownsRow_lit (base := w4.heap.size) (e := 22) (size := 1) w4 #[] 0 (Nat.le_refl _) (by decide) rfl)
    have B1 := Lib.hid ((Below.refl w4.heap.size w4).alloc (Nat.le_refl _) (.cells #[] 22))
    go_wp2_with (at_builtin; first
      | (refine app_rows _ rfl (.tmp 37) (.tmp 38) 28 rfl Try.underlying28 isRow22 rfl H0.out rfl L1 K1.out (X1.out _ (B.out.trans (B1.out.mono B.out.size))) Z1.out O1.out (by omega) B1.out.size ?_; intro v7 w7 hown7 hb7; have B7 := Lib.hid (B1.out.trans hb7))
      | (refine app_rows w7 rfl (.tmp 39) (.tmp 40) 28 rfl Try.underlying28 isRow22 rfl hown7 rfl L2 K2.out (X2.out _ (B.out.trans (B7.out.mono B.out.size))) Z2.out O2.out (by omega) B7.out.size ?_; intro v8 w8 hown8 hb8; have B8 := Lib.hid (B7.out.trans hb8)))
    rw [Nat.zero_add] at hown8
    have hown8' : w8.ownsRow w4.heap.size 22 1 v8 (n1 + n2) (L1 ++ L2) := hown8
    obtain ⟨A8, c8, rfl, hel8⟩ := own_elems hown8' (bothC n1 f1 f2) (both_rows K1.out K2.out Y1.out Y2.out (B.out.trans (B8.out.mono B.out.size)))
    have E8 := Lib.hid hel8
    have S5 := Lib.hid (S5.out.bel B8.out)
    have S6 := Lib.hid (S6.out.bel B8.out)
    have B' := Lib.hid (B.out.trans (B8.out.mono B.out.size))
    clear B H0 B1 hown7 hb7 hown8 hown8' hel8 hb8 B7 B8
    have B := B'
    clear B'
    go_wp2_with fail
    refine (costs14 A8 (n1 + n2) c8 (bothC n1 f1 f2) d _ E8.out (by omega)).mono ?_
    rintro e w9 ⟨⟨v3, rfl, hl3⟩, hb⟩
    have B' := Lib.hid (B.out.trans (hb.mono B.out.size))
    clear B
    have B := B'
    clear B'
    rw [J3.out] at hl3
    obtain ⟨A9, c9, rfl, hs9, hm9, hc9⟩ := hl3
    have S5 := Lib.hid (S5.out.bel hb)
    have S6 := Lib.hid (S6.out.bel hb)
    have S9 := Lib.hid hs9
    clear hs9 E8
    clear hb
    go_wp2_with fail
    refine (awake_any _).mono ?_
    rintro e wz ⟨rfl, hb⟩
    have Bz := Lib.hid (B.out.trans (hb.mono B.out.size))
    clear hb
    go_wp2_with fail
    go_ret
    exact ⟨rfl, Bz.out⟩
  by_cases h2 : codeCs d n2 f2 = 0
  case neg =>
    have h3 := hboth.2 (.inr h2)
    have g2 : (codeCs d n2 f2 != 0) = true := by simpa using h2
    have g3 : (codeCs d (n1 + n2) (bothC n1 f1 f2) != 0) = true := by simpa using h3
    have J3 := Lib.hid (show lenCs d (n1 + n2) (bothC n1 f1 f2) = 0 from if_neg h3)
    have C1 := Lib.hid h1
    clear h1 h2 h3 hboth
    go_enter Try.func9, Try.ntmps9
    go_wp2_with fail
    refine (few13 A1 n1 c1 f1 16 _ Hr1.out m1).mono ?_
    rw [Hq1.out]
    rintro e w1 ⟨rfl, hb⟩
    have B' := Lib.hid (B.out.trans (hb.mono B.out.size))
    clear B
    have B := B'
    clear B'
    clear hb
    go_wp2_with fail
    refine (few13 A2 n2 c2 f2 16 _ (Hr2.out.bel rowV_stays B.out) m2).mono ?_
    rw [Hq2.out]
    rintro e w2 ⟨rfl, hb⟩
    have B' := Lib.hid (B.out.trans (hb.mono B.out.size))
    clear B
    have B := B'
    clear B'
    clear hb
    go_wp2_with fail
    refine (costs14 A1 n1 c1 f1 d _ (Hr1.out.bel rowV_stays B.out) m1).mono ?_
    rintro e w3 ⟨⟨v1, rfl, hl1⟩, hb⟩
    have B' := Lib.hid (B.out.trans (hb.mono B.out.size))
    clear B
    have B := B'
    clear B'
    rw [C1.out]
    obtain ⟨A5, c5, rfl, hs5, hm5, hc5⟩ := hl1
    have S5 := Lib.hid hs5
    clear hs5
    clear hb
    go_wp2_with fail
    refine (costs14 A2 n2 c2 f2 d _ (Hr2.out.bel rowV_stays B.out) m2).mono ?_
    rintro e w4 ⟨⟨v2, rfl, hl2⟩, hb⟩
    have B' := Lib.hid (B.out.trans (hb.mono B.out.size))
    clear B
    have B := B'
    clear B'
    obtain ⟨A6, c6, rfl, hs6, hm6, hc6⟩ := hl2
    have S5 := Lib.hid (S5.out.bel hb)
    have S6 := Lib.hid hs6
    clear hs6
    clear hb
    have H0 := Lib.hid (World.ownsRow_lit (base := w4.heap.size) (e := 22) (size := 1) w4 #[] 0 (Nat.le_refl _) (by decide) rfl)
    have B1 := Lib.hid ((Below.refl w4.heap.size w4).alloc (Nat.le_refl _) (.cells #[] 22))
    go_wp2_with (at_builtin; first
      | (refine app_rows _ rfl (.tmp 37) (.tmp 38) 28 rfl Try.underlying28 isRow22 rfl H0.out rfl L1 K1.out (X1.out _ (B.out.trans (B1.out.mono B.out.size))) Z1.out O1.out (by omega) B1.out.size ?_; intro v7 w7 hown7 hb7; have B7 := Lib.hid (B1.out.trans hb7))
      | (refine app_rows w7 rfl (.tmp 39) (.tmp 40) 28 rfl Try.underlying28 isRow22 rfl hown7 rfl L2 K2.out (X2.out _ (B.out.trans (B7.out.mono B.out.size))) Z2.out O2.out (by omega) B7.out.size ?_; intro v8 w8 hown8 hb8; have B8 := Lib.hid (B7.out.trans hb8)))
    rw [Nat.zero_add] at hown8
    have hown8' : w8.ownsRow w4.heap.size 22 1 v8 (n1 + n2) (L1 ++ L2) := hown8
    obtain ⟨A8, c8, rfl, hel8⟩ := own_elems hown8' (bothC n1 f1 f2) (both_rows K1.out K2.out Y1.out Y2.out (B.out.trans (B8.out.mono B.out.size)))
    have E8 := Lib.hid hel8
    have S5 := Lib.hid (S5.out.bel B8.out)
    have S6 := Lib.hid (S6.out.bel B8.out)
    have B' := Lib.hid (B.out.trans (B8.out.mono B.out.size))
    clear B H0 B1 hown7 hb7 hown8 hown8' hel8 hb8 B7 B8
    have B := B'
    clear B'
    go_wp2_with fail
    refine (costs14 A8 (n1 + n2) c8 (bothC n1 f1 f2) d _ E8.out (by omega)).mono ?_
    rintro e w9 ⟨⟨v3, rfl, hl3⟩, hb⟩
    have B' := Lib.hid (B.out.trans (hb.mono B.out.size))
    clear B
    have B := B'
    clear B'
    rw [J3.out] at hl3
    obtain ⟨A9, c9, rfl, hs9, hm9, hc9⟩ := hl3
    have S5 := Lib.hid (S5.out.bel hb)
    have S6 := Lib.hid (S6.out.bel hb)
    have S9 := Lib.hid hs9
    clear hs9 E8
    clear hb
    go_wp2_with fail
    refine (awake_any _).mono ?_
    rintro e wz ⟨rfl, hb⟩
    have Bz := Lib.hid (B.out.trans (hb.mono B.out.size))
    clear hb
    go_wp2_with fail
    go_ret
    exact ⟨rfl, Bz.out⟩
  have h3 := hboth.1 ⟨h1, h2⟩
  obtain ⟨d1, d2, _, t1⟩ := codeCs_zero h1
  obtain ⟨_, _, _, t2⟩ := codeCs_zero h2
  obtain ⟨D, rfl⟩ : ∃ D : Nat, d = D := ⟨d.toNat, by omega⟩
  have J1 := Lib.hid (show lenCs D n1 f1 = D + 1 by unfold lenCs; rw [if_pos h1]; rfl)
  have J2 := Lib.hid (show lenCs D n2 f2 = D + 1 by unfold lenCs; rw [if_pos h2]; rfl)
  have J3 := Lib.hid (show lenCs D (n1 + n2) (bothC n1 f1 f2) = D + 1 by unfold lenCs; rw [if_pos h3]; rfl)
  have C1 := Lib.hid h1
  have C2 := Lib.hid h2
  have C3 := Lib.hid h3
  have T := Lib.hid (fun (k : Nat) => And.intro (sumC_bd D f1 k n1 t1) (And.intro (sumC_bd D f2 k n2 t2) (sum_both D n1 f1 f2 k n2)))
  clear h1 h2 h3 hboth t1 t2
  go_enter Try.func9, Try.ntmps9
  go_wp2_with fail
  refine (few13 A1 n1 c1 f1 16 _ Hr1.out m1).mono ?_
  rw [Hq1.out]
  rintro e w1 ⟨rfl, hb⟩
  have B' := Lib.hid (B.out.trans (hb.mono B.out.size))
  clear B
  have B := B'
  clear B'
  clear hb
  go_wp2_with fail
  refine (few13 A2 n2 c2 f2 16 _ (Hr2.out.bel rowV_stays B.out) m2).mono ?_
  rw [Hq2.out]
  rintro e w2 ⟨rfl, hb⟩
  have B' := Lib.hid (B.out.trans (hb.mono B.out.size))
  clear B
  have B := B'
  clear B'
  clear hb
  go_wp2_with fail
  refine (costs14 A1 n1 c1 f1 D _ (Hr1.out.bel rowV_stays B.out) m1).mono ?_
  rintro e w3 ⟨⟨v1, rfl, hl1⟩, hb⟩
  have B' := Lib.hid (B.out.trans (hb.mono B.out.size))
  clear B
  have B := B'
  clear B'
  rw [C1.out]
  rw [J1.out] at hl1
  obtain ⟨A5, c5, rfl, hs5, hm5, hc5⟩ := hl1
  have S5 := Lib.hid hs5
  clear hs5
  clear hb
  go_wp2_with fail
  refine (costs14 A2 n2 c2 f2 D _ (Hr2.out.bel rowV_stays B.out) m2).mono ?_
  rintro e w4 ⟨⟨v2, rfl, hl2⟩, hb⟩
  have B' := Lib.hid (B.out.trans (hb.mono B.out.size))
  clear B
  have B := B'
  clear B'
  rw [C2.out]
  rw [J2.out] at hl2
  obtain ⟨A6, c6, rfl, hs6, hm6, hc6⟩ := hl2
  have S5 := Lib.hid (S5.out.bel hb)
  have S6 := Lib.hid hs6
  clear hs6
  clear hb
  have H0 := Lib.hid (World.ownsRow_lit (base := w4.heap.size) (e := 22) (size := 1) w4 #[] 0 (Nat.le_refl _) (by decide) rfl)
  have B1 := Lib.hid ((Below.refl w4.heap.size w4).alloc (Nat.le_refl _) (.cells #[] 22))
  go_wp2_with (at_builtin; first
    | (refine app_rows _ rfl (.tmp 37) (.tmp 38) 28 rfl Try.underlying28 isRow22 rfl H0.out rfl L1 K1.out (X1.out _ (B.out.trans (B1.out.mono B.out.size))) Z1.out O1.out (by omega) B1.out.size ?_; intro v7 w7 hown7 hb7; have B7 := Lib.hid (B1.out.trans hb7))
    | (refine app_rows w7 rfl (.tmp 39) (.tmp 40) 28 rfl Try.underlying28 isRow22 rfl hown7 rfl L2 K2.out (X2.out _ (B.out.trans (B7.out.mono B.out.size))) Z2.out O2.out (by omega) B7.out.size ?_; intro v8 w8 hown8 hb8; have B8 := Lib.hid (B7.out.trans hb8)))
  rw [Nat.zero_add] at hown8
  have hown8' : w8.ownsRow w4.heap.size 22 1 v8 (n1 + n2) (L1 ++ L2) := hown8
  obtain ⟨A8, c8, rfl, hel8⟩ := own_elems hown8' (bothC n1 f1 f2) (both_rows K1.out K2.out Y1.out Y2.out (B.out.trans (B8.out.mono B.out.size)))
  have E8 := Lib.hid hel8
  have S5 := Lib.hid (S5.out.bel B8.out)
  have S6 := Lib.hid (S6.out.bel B8.out)
  have B' := Lib.hid (B.out.trans (B8.out.mono B.out.size))
  clear B H0 B1 hown7 hb7 hown8 hown8' hel8 hb8 B7 B8
  have B := B'
  clear B'
  go_wp2_with fail
  refine (costs14 A8 (n1 + n2) c8 (bothC n1 f1 f2) D _ E8.out (by omega)).mono ?_
  rintro e w9 ⟨⟨v3, rfl, hl3⟩, hb⟩
  have B' := Lib.hid (B.out.trans (hb.mono B.out.size))
  clear B
  have B := B'
  clear B'
  rw [C3.out]
  rw [J3.out] at hl3
  obtain ⟨A9, c9, rfl, hs9, hm9, hc9⟩ := hl3
  have S5 := Lib.hid (S5.out.bel hb)
  have S6 := Lib.hid (S6.out.bel hb)
  have S9 := Lib.hid hs9
  clear hs9 E8
  clear hb
  go_wp2_with fail
  go_loopw [13] (fun i wr => ∃ j : Nat, j ≤ D + 1 ∧ i = .int .i64 j ∧ Hid (SlI wr A5 (D + 1) (costF D n1 f1)) ∧ Hid (SlI wr A6 (D + 1) (costF D n2 f2)) ∧ Hid (SlI wr A9 (D + 1) (costF D (n1 + n2) (bothC n1 f1 f2))) ∧ Hid (Below w.heap.size w wr)) (fun i _ => D + 1 - (intOf i).toNat)
  case atStart => exact ⟨0, by omega, rfl, S5, S6, S9, B⟩
  clear B S5 S6 S9
  case round =>
    obtain ⟨j, hj, rfl, S5, S6, S9, B⟩ := hrel
    by_cases hlt : j < D + 1
    · obtain ⟨b5, o5, rfl, _, p5⟩ := S5.out.at_ j hlt
      obtain ⟨b6, o6, rfl, _, p6⟩ := S6.out.at_ j hlt
      obtain ⟨b9, o9, rfl, _, p9⟩ := S9.out.at_ j hlt
      obtain ⟨q1, q2, q3⟩ := T.out j
      rw [show costF D n1 f1 j = sumC D f1 n1 j from rfl] at p5
      rw [show costF D n2 f2 j = sumC D f2 n2 j from rfl] at p6
      rw [show costF D (n1 + n2) (bothC n1 f1 f2) j = sumC D (bothC n1 f1 f2) (n1 + n2) j from rfl, q3] at p9
      obtain ⟨X, hX⟩ : ∃ X, sumC D f1 n1 j = X := ⟨_, rfl⟩
      obtain ⟨Y, hY⟩ : ∃ Y, sumC D f2 n2 j = Y := ⟨_, rfl⟩
      rw [hX] at q1 p5 p9
      rw [hY] at q2 p6 p9
      have hw : IntKind.i64.wrap (X + Y) = X + Y := IntWalk.i64_in _ (by omega)
      have hne : ((X + Y) != (X + Y)) = false := by simp
      clear q1 q2 q3 hX hY
      go_wp2_with fail
      go_quiet (fail)
      go_wp2_with fail
      go_roundw
      case rel => exact ⟨j + 1, by omega, by go_num, S5, S6, S9, Lib.hid (below_drewN B.out _)⟩
      case measure => simp [intOf]; omega
    · go_wp2_with fail
      refine (awake_any _).mono ?_
      rintro e wz ⟨rfl, hb⟩
      have Bz := Lib.hid (B.out.trans (hb.mono B.out.size))
      clear hb
      go_wp2_with fail
      go_ret
      exact ⟨rfl, Bz.out⟩
end Go.Proofs.Ytnfgbghjdmimgaa
