/- The walks of Same and of End of the program. -/
import Derived.Test.YtmfkkmonedgdnaaRE
namespace Go.Proofs.Ytmfkkmonedgdnaa
open Go.RowKit
set_option maxHeartbeats 4000000
set_option maxRecDepth 100000
set_option linter.unusedVariables false

theorem same16 (A C : Option Addr) (n c m d : Nat) (g g' : Nat → Nat → Int) (w : World) (hr : FlatRd w A n 5 g) (hr' : FlatRd w C m 5 g') (m1 : n ≤ 9223372036854775807) (m2 : m ≤ 9223372036854775807) :
    Calls Try.prog 16 #[.slice A n c, .slice C m d] w fun x w' => x = .returned (.bool (sameB n m g g')) ∧ Below w.heap.size w w' := by
  have Hr := Lib.hid hr
  have Hr' := Lib.hid hr'
  clear hr hr'
  by_cases hnm : n = m
  case neg =>
    have HN := Lib.hid (sameB_f (n := n) (m := m) (g := g) (g' := g') (fun h => hnm h.1))
    have q : ((n : Int) != (m : Int)) = true := by simp; omega
    go_enter Try.func16, Try.ntmps16
    go_wp2_with fail
    go_ret
    exact ⟨ret_bool HN.out.symm, Below.refl _ _⟩
  subst hnm
  have q : ((n : Int) != (n : Int)) = false := by simp
  go_enter Try.func16, Try.ntmps16
  go_wp2_with fail
  go_loopw [5] (fun i wr => ∃ k : Nat, k ≤ n ∧ i = .int .i64 k ∧ Hid (∀ i, i < k → eqRow g g' i) ∧ Hid (Below w.heap.size w wr)) (fun i _ => n - (intOf i).toNat)
  case atStart => exact ⟨0, by omega, rfl, Lib.hid (fun i hi => absurd hi (by omega)), Lib.hid (Below.refl _ _)⟩
  case round =>
    obtain ⟨k, hk, rfl, Hs, Hb⟩ := hrel
    by_cases hlt : k < n
    case neg =>
      have HN := Lib.hid (sameB_t (m := n) rfl (fun i hi => Hs.out i (by omega)))
      have hltI : ¬ (k : Int) < (n : Int) := by omega
      go_wp2_with fail
      go_ret
      exact ⟨ret_bool HN.out.symm, Hb.out⟩
    obtain ⟨b, o, rfl, hbw⟩ := Hr.out.at_ (by omega)
    obtain ⟨b', o', rfl, hbw'⟩ := Hr'.out.at_ (by omega)
    have HR := Lib.hid (Hr.out.bel Hb.out)
    have HR' := Lib.hid (Hr'.out.bel Hb.out)
    obtain ⟨r0, r1, r2, r3, r4⟩ := HR.out.row k hlt
    obtain ⟨s0, s1, s2, s3, s4⟩ := HR'.out.row k hlt
    have hltI : (k : Int) < (n : Int) := by omega
    by_cases he : eqRow g g' k
    · have HN : Hid (∀ i, i < k + 1 → eqRow g g' i) := Lib.hid (fun i hi => by
        by_cases hik : i = k
        · subst hik; exact he
        · exact Hs.out i (by omega))
      obtain ⟨h0, h1, h2, h3, h4⟩ := he
      have q0 : (g k 0 == g' k 0) = true := by simpa using h0
      have q1 : (g k 1 == g' k 1) = true := by simpa using h1
      have q2 : (g k 2 == g' k 2) = true := by simpa using h2
      have q3 : (g k 3 == g' k 3) = true := by simpa using h3
      have q4 : (g k 4 == g' k 4) = true := by simpa using h4
      clear h0 h1 h2 h3 h4
      go_wp2_with fail
      go_quiet (fail)
      go_wp2_with fail
      go_roundw
      case rel => exact ⟨k + 1, by omega, by go_num, HN, Lib.hid (below_drewN Hb.out _)⟩
      case measure => simp [intOf]; omega
    · have HN := Lib.hid (sameB_f (n := n) (m := n) (g := g) (g' := g') (fun h => he (h.2 k hlt)))
      have hc : (g k 0 == g' k 0) = false ∨ ((g k 0 == g' k 0) = true ∧ (g k 1 == g' k 1) = false) ∨ ((g k 0 == g' k 0) = true ∧ (g k 1 == g' k 1) = true ∧ (g k 2 == g' k 2) = false) ∨ ((g k 0 == g' k 0) = true ∧ (g k 1 == g' k 1) = true ∧ (g k 2 == g' k 2) = true ∧ (g k 3 == g' k 3) = false) ∨ ((g k 0 == g' k 0) = true ∧ (g k 1 == g' k 1) = true ∧ (g k 2 == g' k 2) = true ∧ (g k 3 == g' k 3) = true ∧ (g k 4 == g' k 4) = false) := by
        unfold eqRow at he
        simp only [beq_iff_eq, beq_eq_false_iff_ne]
        omega
      clear he
      rcases hc with q0 | ⟨q0, q1⟩ | ⟨q0, q1, q2⟩ | ⟨q0, q1, q2, q3⟩ | ⟨q0, q1, q2, q3, q4⟩
      all_goals
        go_wp2_with fail
        go_quiet (fail)
        go_wp2_with fail
        go_ret
        exact ⟨ret_bool HN.out.symm, below_drewN Hb.out _⟩
end Go.Proofs.Ytmfkkmonedgdnaa
