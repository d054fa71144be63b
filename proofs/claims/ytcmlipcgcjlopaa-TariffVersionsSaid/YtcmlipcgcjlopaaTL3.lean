/- The walk of the law TariffVersions. -/
import Derived.Test.YtcmlipcgcjlopaaTG
namespace Go.Proofs.Ytcmlipcgcjlopaa
open Go.RowKit
set_option maxHeartbeats 2000000
set_option maxRecDepth 100000
set_option linter.unusedVariables false

theorem at_law (g : Nat → Nat → Int) (t : Int) (h0 : g 0 0 ≤ t) : ∀ k, 0 < k → ∃ K : Nat, atT g t k = K ∧ K < k ∧ g K 0 ≤ t ∧ (K + 1 = k ∨ t < g (K + 1) 0) := by
  intro k
  induction k with
  | zero => intro h; omega
  | succ k ih =>
    intro _
    by_cases h : g k 0 ≤ t
    · exact ⟨k, if_pos h, by omega, h, .inl rfl⟩
    · have hk : 0 < k := by
        rcases Nat.eq_zero_or_pos k with hk | hk
        · subst hk; exact absurd h0 h
        · exact hk
      obtain ⟨K, e, hK, hl, hx⟩ := ih hk
      refine ⟨K, by rw [← e]; exact if_neg h, by omega, hl, ?_⟩
      rcases hx with hx | hx
      · exact .inr (by rw [hx]; omega)
      · exact .inr hx
theorem first_zero {g : Nat → Nat → Int} {n : Nat} (h : scan g n = 0) (hn : 0 < n) : g 0 0 = 0 := by
  have := (scan_zero g n h 0 hn).2
  unfold errAt at this
  split at this
  · cases this
  · split at this
    · cases this
    · rename_i h2; by_cases hz : g 0 0 = 0
      · exact hz
      · exact absurd (Or.inl ⟨rfl, hz⟩) h2

theorem law7_any (A : Option Addr) (n c : Nat) (g : Nat → Nat → Int) (t : Int) (w : World) (hr : FlatRd w A n 6 g) (m1 : n ≤ 9223372036854775807) :
    Calls Try.prog 7 #[.slice A n c, .int .i64 t] w fun e w' => e = .returned (.bool true) ∧ Below w.heap.size w w' := by
  have Hr := Lib.hid hr
  clear hr
  by_cases h12 : 12 < n
  · go_enter Try.func7, Try.ntmps7
    go_wp2_with fail
    refine (awake_any w).mono ?_
    rintro e w1 ⟨rfl, hb⟩
    go_wp2_with fail
    go_ret
    exact ⟨rfl, hb⟩
  by_cases hc : chkT n g = 0
  case neg =>
    have hcb : (chkT n g != 0) = true := by simpa using hc
    have hce : (chkT n g == chkT n g) = true := by simp
    have h1 := Lib.hid (show codeA n g t = chkT n g from if_pos hc)
    have h2 := Lib.hid (show valA n g t = 0 by unfold valA; rw [h1.out, if_neg hc])
    clear hc
    go_enter Try.func7, Try.ntmps7
    go_wp2_with fail
    refine (at11 A n c g t w Hr.out m1).mono ?_
    rw [h1.out, h2.out]
    rintro e w1 ⟨rfl, hb⟩
    have B := Lib.hid hb
    clear hb
    go_wp2_with fail
    refine (check13 A n c g w1 (Hr.out.bel B.out) m1).mono ?_
    rintro e w2 ⟨rfl, hb⟩
    have B := Lib.hid (B.out.trans (hb.mono B.out.size))
    clear hb
    go_wp2_with fail
    refine (awake_any w2).mono ?_
    rintro e w5 ⟨rfl, hb⟩
    have B := Lib.hid (B.out.trans (hb.mono B.out.size))
    clear hb
    go_wp2_with fail
    go_ret
    exact ⟨rfl, B.out⟩
  have Hc := Lib.hid hc
  obtain ⟨hn0, hn8, hsc⟩ := chkT_zero hc
  have hg0 := first_zero hsc hn0
  by_cases ht : t < 0 ∨ 4294943999 < t
  · have h1 := Lib.hid (show codeA n g t = 1 by unfold codeA; rw [if_neg (by simpa using hc), if_pos ht])
    have h2 := Lib.hid (show valA n g t = 0 by unfold valA; rw [h1.out]; rfl)
    clear hc hsc hg0
    rcases ht with ht | ht
    all_goals
      go_enter Try.func7, Try.ntmps7
      go_wp2_with fail
      refine (at11 A n c g t w Hr.out m1).mono ?_
      rw [h1.out, h2.out]
      rintro e w1 ⟨rfl, hb⟩
      have B := Lib.hid hb
      clear hb
      go_wp2_with fail
      refine (check13 A n c g w1 (Hr.out.bel B.out) m1).mono ?_
      rw [Hc.out]
      rintro e w2 ⟨rfl, hb⟩
      have B := Lib.hid (B.out.trans (hb.mono B.out.size))
      clear hb
      go_wp2_with fail
      refine (check13 A n c g w2 (Hr.out.bel B.out) m1).mono ?_
      rw [Hc.out]
      rintro e w3 ⟨rfl, hb⟩
      have B := Lib.hid (B.out.trans (hb.mono B.out.size))
      clear hb
      go_wp2_with fail
      refine (awake_any w3).mono ?_
      rintro e w5 ⟨rfl, hb⟩
      have B := Lib.hid (B.out.trans (hb.mono B.out.size))
      clear hb
      go_wp2_with fail
      go_ret
      exact ⟨rfl, B.out⟩
  have h1 := Lib.hid (show codeA n g t = 0 by unfold codeA; rw [if_neg (by simpa using hc), if_neg ht])
  obtain ⟨K, hK, hKn, hl, hx⟩ := at_law g t (by omega) n hn0
  have h2 := Lib.hid (show valA n g t = K by unfold valA; rw [h1.out]; exact hK)
  clear hc hsc hK ht
  obtain ⟨b, o, rfl, hbw⟩ := Hr.out.at_ hn0
  have hw : IntKind.i64.wrap ((K : Int) + 1) = K + 1 := IntWalk.i64_in _ (by omega)
  have hd1 : ¬ ((n : Int) ≤ K) := by omega
  rcases Nat.lt_or_ge (K + 1) n with hk | hk
  · have hx1 : t < g (K + 1) 0 := by
      rcases hx with h | h
      · omega
      · exact h
    have hne : (((K : Int) + 1) == (n : Int)) = false := by simp; omega
    clear hx
    go_enter Try.func7, Try.ntmps7
    go_wp2_with fail
    refine (at11 _ n c g t w Hr.out m1).mono ?_
    rw [h1.out, h2.out]
    rintro e w1 ⟨rfl, hb⟩
    have B := Lib.hid hb
    clear hb
    go_wp2_with fail
    refine (check13 _ n c g w1 (Hr.out.bel B.out) m1).mono ?_
    rw [Hc.out]
    rintro e w2 ⟨rfl, hb⟩
    have B := Lib.hid (B.out.trans (hb.mono B.out.size))
    clear hb
    have z0 := Hr.out.cells B.out 0 hn0 0 (by omega)
    have zK := Hr.out.cells B.out K hKn 0 (by omega)
    have zL := Hr.out.cells B.out (K + 1) hk 0 (by omega)
    rw [hg0] at z0
    simp only [Nat.add_zero, Nat.zero_mul] at z0 zK zL
    go_wp2_with fail
    refine (awake_any w2).mono ?_
    rintro e w5 ⟨rfl, hb⟩
    have B := Lib.hid (B.out.trans (hb.mono B.out.size))
    clear hb
    go_wp2_with fail
    go_ret
    exact ⟨rfl, B.out⟩
  · have hne : (((K : Int) + 1) == (n : Int)) = true := by simp; omega
    clear hx
    go_enter Try.func7, Try.ntmps7
    go_wp2_with fail
    refine (at11 _ n c g t w Hr.out m1).mono ?_
    rw [h1.out, h2.out]
    rintro e w1 ⟨rfl, hb⟩
    have B := Lib.hid hb
    clear hb
    go_wp2_with fail
    refine (check13 _ n c g w1 (Hr.out.bel B.out) m1).mono ?_
    rw [Hc.out]
    rintro e w2 ⟨rfl, hb⟩
    have B := Lib.hid (B.out.trans (hb.mono B.out.size))
    clear hb
    have z0 := Hr.out.cells B.out 0 hn0 0 (by omega)
    have zK := Hr.out.cells B.out K hKn 0 (by omega)
    rw [hg0] at z0
    simp only [Nat.add_zero, Nat.zero_mul] at z0 zK
    go_wp2_with fail
    refine (awake_any w2).mono ?_
    rintro e w5 ⟨rfl, hb⟩
    have B := Lib.hid (B.out.trans (hb.mono B.out.size))
    clear hb
    go_wp2_with fail
    go_ret
    exact ⟨rfl, B.out⟩
end Go.Proofs.Ytcmlipcgcjlopaa
