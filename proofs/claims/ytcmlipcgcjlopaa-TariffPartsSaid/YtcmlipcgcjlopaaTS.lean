/- Plain laws of the tariff's prices, for the laws without the reference. -/
import Derived.Test.YtcmlipcgcjlopaaTG
namespace Go.Proofs.Ytcmlipcgcjlopaa
open Go.RowKit
set_option maxHeartbeats 2000000
set_option maxRecDepth 100000
set_option linter.unusedVariables false

theorem max_pos {a : Int} (h : 0 ≤ a) : max 0 a = a := by omega
theorem max_neg {a : Int} (h : a ≤ 0) : max 0 a = 0 := by omega
theorem steps_begin {s a : Int} (hs : 1 ≤ s) (ha : 0 ≤ a) (hm : a % s = 0) : (max 0 (a + 1) + s - 1) / s = (max 0 a + s - 1) / s + 1 := by
  rw [max_pos ha, max_pos (by omega : 0 ≤ a + 1)]
  obtain ⟨d, hd⟩ : ∃ d, a / s = d := ⟨_, rfl⟩
  have h1 : a = s * d := by have := Int.mul_ediv_add_emod a s; rw [hd] at this; omega
  have hx : s * (d + 1) = s * d + s := by rw [Int.mul_add, Int.mul_one]
  have e1 : a + 1 + s - 1 = s * (d + 1) := by rw [hx]; omega
  have e2 : a + s - 1 = (s - 1) + s * d := by omega
  have z : (s - 1) / s = 0 := Int.ediv_eq_zero_of_lt (by omega) (by omega)
  rw [e1, e2, Int.mul_ediv_cancel_left _ (by omega), Int.add_mul_ediv_left _ _ (by omega), z]
  omega
theorem steps_same {s a : Int} (hs : 1 ≤ s) (h : a < 0 ∨ (0 ≤ a ∧ a % s ≠ 0)) : (max 0 (a + 1) + s - 1) / s = (max 0 a + s - 1) / s := by
  rcases h with h | ⟨h0, hm⟩
  · rw [max_neg (by omega : a ≤ 0), max_neg (by omega : a + 1 ≤ 0)]
  · rw [max_pos h0, max_pos (by omega : 0 ≤ a + 1)]
    obtain ⟨d, hd⟩ : ∃ d, a / s = d := ⟨_, rfl⟩
    obtain ⟨m, hmm⟩ : ∃ m, a % s = m := ⟨_, rfl⟩
    have hlt : m < s := by rw [← hmm]; exact Int.emod_lt_of_pos a (show 0 < s by omega)
    have hnn : 0 ≤ m := by rw [← hmm]; exact Int.emod_nonneg a (show s ≠ 0 by omega)
    have h1 : a = s * d + m := by have := Int.mul_ediv_add_emod a s; rw [hd, hmm] at this; omega
    rw [hmm] at hm
    have hx : s * (d + 1) = s * d + s := by rw [Int.mul_add, Int.mul_one]
    have e1 : a + 1 + s - 1 = m + s * (d + 1) := by rw [hx]; omega
    have e2 : a + s - 1 = (m - 1) + s * (d + 1) := by rw [hx]; omega
    have z1 : m / s = 0 := Int.ediv_eq_zero_of_lt (by omega) (by omega)
    have z2 : (m - 1) / s = 0 := Int.ediv_eq_zero_of_lt (by omega) (by omega)
    rw [e1, e2, Int.add_mul_ediv_left _ _ (by omega), Int.add_mul_ediv_left _ _ (by omega), z1, z2]
theorem cost_begin {s a each : Int} (hs : 1 ≤ s) (ha : 0 ≤ a) (hm : a % s = 0) : costT s (a + 1) each = costT s a each + each := by
  unfold costT; rw [steps_begin hs ha hm, Int.mul_add, Int.mul_one]
theorem cost_same {s a each : Int} (hs : 1 ≤ s) (h : a < 0 ∨ (0 ≤ a ∧ a % s ≠ 0)) : costT s (a + 1) each = costT s a each := by
  unfold costT; rw [steps_same hs h]
theorem codeT_zero {e secs x : Int} (h : codeT e secs x = 0) : e = 0 ∧ 0 ≤ secs ∧ secs ≤ 4294944000 ∧ x ≤ 1000000000000 := by
  unfold codeT at h
  by_cases h1 : e ≠ 0
  · rw [if_pos h1] at h; exact absurd h h1
  rw [if_neg h1] at h
  by_cases h2 : secs < 0 ∨ 4294944000 < secs
  · rw [if_pos h2] at h; cases h
  rw [if_neg h2] at h
  by_cases h3 : 1000000000000 < x
  · rw [if_pos h3] at h; cases h
  omega
theorem codeT_ok {e secs x : Int} (h1 : e = 0) (h2 : 0 ≤ secs) (h3 : secs ≤ 4294944000) (h4 : x ≤ 1000000000000) : codeT e secs x = 0 := by
  unfold codeT; rw [if_neg (by omega), if_neg (by omega), if_neg (by omega)]
theorem codeT_two {e secs x : Int} (h1 : e = 0) (h2 : 0 ≤ secs) (h3 : secs ≤ 4294944000) (h4 : 1000000000000 < x) : codeT e secs x = 2 := by
  unfold codeT; rw [if_neg (by omega), if_neg (by omega), if_pos h4]
theorem valT_ok {e secs x : Int} (h : codeT e secs x = 0) : valT e secs x = x := if_pos h
theorem valT_bad {e secs x : Int} (h : ¬ codeT e secs x = 0) : valT e secs x = 0 := if_neg h
theorem cost_zero {s r p : Int} (hs : 1 ≤ s) (hr : 0 ≤ r) : costT s (0 - r) p = 0 := by
  unfold costT; rw [max_neg (by omega), Int.zero_add, Int.ediv_eq_zero_of_lt (by omega) (by omega), Int.mul_zero]
end Go.Proofs.Ytcmlipcgcjlopaa
