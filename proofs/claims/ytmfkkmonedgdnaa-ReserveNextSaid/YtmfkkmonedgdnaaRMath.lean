/- Plain mathematics of the reservations: ranges, collisions, the check. No program in sight. -/
import Derived.Test.YtmfkkmonedgdnaaOpen
namespace Go.Proofs.Ytmfkkmonedgdnaa
set_option linter.unusedVariables false

/-- a reservation: its id, bicycle, rider, begin and end -/
def rngP (a b c d e : Int) : Prop := 1 ≤ a ∧ a ≤ 1000000 ∧ 0 ≤ b ∧ b < 128 ∧ 0 ≤ c ∧ c < 128 ∧ 0 ≤ d ∧ d < e ∧ e ≤ 4294944000
def rngB (a b c d e : Int) : Bool := decide (1 ≤ a ∧ a ≤ 1000000 ∧ 0 ≤ b ∧ b < 128 ∧ 0 ≤ c ∧ c < 128 ∧ 0 ≤ d ∧ d < e ∧ e ≤ 4294944000)
theorem rngB_t {a b c d e : Int} (h : rngP a b c d e) : rngB a b c d e = true := decide_eq_true h
theorem rngB_f {a b c d e : Int} (h : ¬ rngP a b c d e) : rngB a b c d e = false := decide_eq_false h
def metB (d e f g : Int) : Bool := decide (d < g ∧ f < e)
def colP (b c d e b' c' d' e' : Int) : Prop := (b = b' ∨ c = c') ∧ d < e' ∧ d' < e
def colB (b c d e b' c' d' e' : Int) : Bool := decide ((b = b' ∨ c = c') ∧ d < e' ∧ d' < e)
theorem colB_t {b c d e b' c' d' e' : Int} (h : colP b c d e b' c' d' e') : colB b c d e b' c' d' e' = true := decide_eq_true h
theorem colB_f {b c d e b' c' d' e' : Int} (h : ¬ colP b c d e b' c' d' e') : colB b c d e b' c' d' e' = false := decide_eq_false h
/-- the reference's form of a collision -/
def rcolB (b c d e b' c' d' e' : Int) : Bool := decide ((b = b' ∨ c = c') ∧ max d d' < min e e')
theorem rcol_eq {b c d e b' c' d' e' : Int} (h : d < e) (h' : d' < e') : rcolB b c d e b' c' d' e' = colB b c d e b' c' d' e' := by
  unfold rcolB colB
  rw [decide_eq_decide]
  omega

abbrev rngG (g : Nat → Nat → Int) (i : Nat) : Prop := rngP (g i 0) (g i 1) (g i 2) (g i 3) (g i 4)
abbrev colG (g : Nat → Nat → Int) (k i : Nat) : Prop := colP (g k 1) (g k 2) (g k 3) (g k 4) (g i 1) (g i 2) (g i 3) (g i 4)

open Classical in
/-- the error of the i-th one, where those ahead of it are right -/
noncomputable def rowE (g : Nat → Nat → Int) (i : Nat) : Int :=
  if ¬ rngG g i then 1 else if ∃ k, k < i ∧ g k 0 = g i 0 then 6 else if ∃ k, k < i ∧ colG g k i then 22 else 0
noncomputable def scanR (g : Nat → Nat → Int) : Nat → Int
  | 0 => 0
  | k + 1 => if scanR g k = 0 then rowE g k else scanR g k
noncomputable def chkH (n : Nat) (g : Nat → Nat → Int) : Int := if 512 < n then 8 else scanR g n

theorem rowE_1 {g : Nat → Nat → Int} {i : Nat} (h : ¬ rngG g i) : rowE g i = 1 := if_pos h
theorem rowE_6 {g : Nat → Nat → Int} {i : Nat} (h : rngG g i) {k : Nat} (h1 : k < i) (h2 : g k 0 = g i 0) : rowE g i = 6 := by unfold rowE; rw [if_neg (fun x => x h), if_pos ⟨k, h1, h2⟩]
theorem rowE_22 {g : Nat → Nat → Int} {i : Nat} (h : rngG g i) (h6 : ∀ k, k < i → g k 0 ≠ g i 0) {k : Nat} (h1 : k < i) (h2 : colG g k i) : rowE g i = 22 := by
  unfold rowE; rw [if_neg (fun x => x h), if_neg (fun ⟨k, a, b⟩ => h6 k a b), if_pos ⟨k, h1, h2⟩]
theorem rowE_0 {g : Nat → Nat → Int} {i : Nat} (h : rngG g i) (h6 : ∀ k, k < i → g k 0 ≠ g i 0) (h22 : ∀ k, k < i → ¬ colG g k i) : rowE g i = 0 := by
  unfold rowE; rw [if_neg (fun x => x h), if_neg (fun ⟨k, a, b⟩ => h6 k a b), if_neg (fun ⟨k, a, b⟩ => h22 k a b)]
theorem rowE_ok {g : Nat → Nat → Int} {i : Nat} (h : rowE g i = 0) : rngG g i ∧ (∀ k, k < i → g k 0 ≠ g i 0) ∧ ∀ k, k < i → ¬ colG g k i := by
  unfold rowE at h
  split at h
  · omega
  · rename_i h1
    split at h
    · omega
    · rename_i h2
      split at h
      · omega
      · rename_i h3
        exact ⟨Classical.not_not.1 h1, fun k a b => h2 ⟨k, a, b⟩, fun k a b => h3 ⟨k, a, b⟩⟩
theorem scanR_next {g : Nat → Nat → Int} {k : Nat} (h : scanR g k = 0) (h2 : rowE g k = 0) : scanR g (k + 1) = 0 := by
  show (if scanR g k = 0 then rowE g k else scanR g k) = 0
  rw [if_pos h, h2]
theorem scanR_stay {g : Nat → Nat → Int} {k : Nat} (h : scanR g k ≠ 0) : ∀ m, scanR g (k + m) = scanR g k := by
  intro m
  induction m with
  | zero => rfl
  | succ m ih =>
    show (if scanR g (k + m) = 0 then rowE g (k + m) else scanR g (k + m)) = scanR g k
    rw [ih, if_neg h]
theorem scanR_hit {g : Nat → Nat → Int} {k n : Nat} (hk : k < n) (h : scanR g k = 0) {e : Int} (he : rowE g k = e) (h0 : e ≠ 0) : scanR g n = e := by
  have h1 : scanR g (k + 1) = e := by
    show (if scanR g k = 0 then rowE g k else scanR g k) = e
    rw [if_pos h, he]
  obtain ⟨m, rfl⟩ : ∃ m, n = (k + 1) + m := ⟨n - (k + 1), by omega⟩
  rw [scanR_stay (by rw [h1]; exact h0) m, h1]
theorem scanR_ok {g : Nat → Nat → Int} : ∀ {n : Nat}, scanR g n = 0 → ∀ i, i < n → rowE g i = 0 := by
  intro n
  induction n with
  | zero => intro _ i hi; omega
  | succ n ih =>
    intro h i hi
    have h' : (if scanR g n = 0 then rowE g n else scanR g n) = 0 := h
    split at h'
    · rename_i h1
      by_cases hin : i = n
      · subst hin; exact h'
      · exact ih h1 i (by omega)
    · rename_i h1; exact absurd h' h1
theorem scanR_mk {g : Nat → Nat → Int} : ∀ {n : Nat}, (∀ i, i < n → rowE g i = 0) → scanR g n = 0 := by
  intro n
  induction n with
  | zero => intro _; rfl
  | succ n ih => intro h; exact scanR_next (ih (fun i hi => h i (by omega))) (h n (by omega))
open Classical in
theorem scanR_congr {g g' : Nat → Nat → Int} : ∀ (n : Nat), (∀ i, i < n → ∀ j, j < 5 → g i j = g' i j) → scanR g n = scanR g' n := by
  intro n
  induction n with
  | zero => intro _; rfl
  | succ n ih =>
    intro h
    have e1 := ih (fun i hi => h i (by omega))
    have e2 : rowE g n = rowE g' n := by
      have q0 := h n (by omega) 0 (by omega)
      have q1 := h n (by omega) 1 (by omega)
      have q2 := h n (by omega) 2 (by omega)
      have q3 := h n (by omega) 3 (by omega)
      have q4 := h n (by omega) 4 (by omega)
      have r : rngG g n = rngG g' n := by unfold rngG; rw [q0, q1, q2, q3, q4]
      have s : (∃ k, k < n ∧ g k 0 = g n 0) = (∃ k, k < n ∧ g' k 0 = g' n 0) := by
        refine propext ⟨fun ⟨k, a, b⟩ => ⟨k, a, ?_⟩, fun ⟨k, a, b⟩ => ⟨k, a, ?_⟩⟩
        · rw [← h k (by omega) 0 (by omega), ← q0]; exact b
        · rw [h k (by omega) 0 (by omega), q0]; exact b
      have t : (∃ k, k < n ∧ colG g k n) = (∃ k, k < n ∧ colG g' k n) := by
        refine propext ⟨fun ⟨k, a, b⟩ => ⟨k, a, ?_⟩, fun ⟨k, a, b⟩ => ⟨k, a, ?_⟩⟩
        · unfold colG at b ⊢; rw [← h k (by omega) 1 (by omega), ← h k (by omega) 2 (by omega), ← h k (by omega) 3 (by omega), ← h k (by omega) 4 (by omega), ← q1, ← q2, ← q3, ← q4]; exact b
        · unfold colG at b ⊢; rw [h k (by omega) 1 (by omega), h k (by omega) 2 (by omega), h k (by omega) 3 (by omega), h k (by omega) 4 (by omega), q1, q2, q3, q4]; exact b
      unfold rowE
      exact ite_congr (congrArg Not r) (fun _ => rfl) (fun _ => ite_congr s (fun _ => rfl) (fun _ => ite_congr t (fun _ => rfl) (fun _ => rfl)))
    show (if scanR g n = 0 then rowE g n else scanR g n) = (if scanR g' n = 0 then rowE g' n else scanR g' n)
    rw [e1, e2]
/-- what a list that is right has -/
structure OkH (n : Nat) (g : Nat → Nat → Int) : Prop where
  len : n ≤ 512
  rng : ∀ i, i < n → rngG g i
  ids : ∀ k i, k < i → i < n → g k 0 ≠ g i 0
  col : ∀ k i, k < i → i < n → ¬ colG g k i
theorem chkH_ok {n : Nat} {g : Nat → Nat → Int} (h : chkH n g = 0) : OkH n g := by
  unfold chkH at h
  split at h
  · omega
  · have hr := scanR_ok h
    exact ⟨by omega, fun i hi => (rowE_ok (hr i hi)).1, fun k i hk hi => (rowE_ok (hr i hi)).2.1 k hk, fun k i hk hi => (rowE_ok (hr i hi)).2.2 k hk⟩
theorem chkH_mk {n : Nat} {g : Nat → Nat → Int} (h : OkH n g) : chkH n g = 0 := by
  unfold chkH
  rw [if_neg (by have := h.len; omega)]
  exact scanR_mk (fun i hi => rowE_0 (h.rng i hi) (fun k hk => h.ids k i hk hi) (fun k hk => h.col k i hk hi))
end Go.Proofs.Ytmfkkmonedgdnaa
