/- Plain mathematics of the reservations: Clear and Next. No program in sight. -/
import Derived.Test.YtmfkkmonedgdnaaRM2
namespace Go.Proofs.Ytmfkkmonedgdnaa
set_option linter.unusedVariables false

/-- the i-th keeps the bicycle in a moment of the s ones from t on -/
def mt (g : Nat → Nat → Int) (bike t s : Int) (i : Nat) : Prop := g i 1 = bike ∧ g i 3 < t + s ∧ t < g i 4
instance (g : Nat → Nat → Int) (bike t s : Int) (i : Nat) : Decidable (mt g bike t s i) := by unfold mt; infer_instance
def clrP (n : Nat) (g : Nat → Nat → Int) (bike t s : Int) : Prop := ∀ i, i < n → ¬ mt g bike t s i
open Classical in
/-- Clear as the reference says it -/
noncomputable def clrB (n : Nat) (g : Nat → Nat → Int) (bike t s : Int) : Bool := decide (∀ i, i < n → ¬ (g i 1 = bike ∧ max (g i 3) t < min (g i 4) (t + s)))
open Classical in
theorem clrB_t {n : Nat} {g : Nat → Nat → Int} {bike t s : Int} (h : ∀ i, i < n → ¬ (g i 1 = bike ∧ max (g i 3) t < min (g i 4) (t + s))) : clrB n g bike t s = true := decide_eq_true h
open Classical in
theorem clrB_f {n : Nat} {g : Nat → Nat → Int} {bike t s : Int} {i : Nat} (hi : i < n) (h : g i 1 = bike ∧ max (g i 3) t < min (g i 4) (t + s)) : clrB n g bike t s = false := decide_eq_false (fun x => x i hi h)
theorem clr_row {g : Nat → Nat → Int} {bike t s : Int} {i : Nat} (hd : g i 3 < g i 4) (hs : 1 ≤ s) : (g i 1 = bike ∧ max (g i 3) t < min (g i 4) (t + s)) ↔ mt g bike t s i := by
  unfold mt
  constructor
  · rintro ⟨h1, h2⟩; exact ⟨h1, by omega, by omega⟩
  · rintro ⟨h1, h2, h3⟩; exact ⟨h1, by omega⟩
open Classical in
theorem clrB_iff {n : Nat} {g : Nat → Nat → Int} {bike t s : Int} (hd : ∀ i, i < n → g i 3 < g i 4) (hs : 1 ≤ s) : clrB n g bike t s = true ↔ clrP n g bike t s := by
  unfold clrB clrP
  rw [decide_eq_true_eq]
  constructor
  · intro h i hi hm; exact h i hi ((clr_row (hd i hi) hs).2 hm)
  · intro h i hi hm; exact h i hi ((clr_row (hd i hi) hs).1 hm)

/-- x is the first moment from t on at which the bicycle is free for s seconds -/
structure NextP (n : Nat) (g : Nat → Nat → Int) (bike t s x : Int) : Prop where
  ge : t ≤ x
  clr : clrP n g bike x s
  least : ∀ y, t ≤ y → y < x → ¬ clrP n g bike y s
  end_ : x = t ∨ ∃ i, i < n ∧ g i 1 = bike ∧ g i 4 = x
theorem NextP.uniq {n : Nat} {g : Nat → Nat → Int} {bike t s x y : Int} (h : NextP n g bike t s x) (k : NextP n g bike t s y) : x = y := by
  by_cases h1 : x < y
  · exact absurd h.clr (k.least x h.ge h1)
  · by_cases h2 : y < x
    · exact absurd k.clr (h.least y k.ge h2)
    · omega
/-- what holds of a moment that the search has reached -/
structure Reach (n : Nat) (g : Nat → Nat → Int) (bike t s x : Int) : Prop where
  ge : t ≤ x
  least : ∀ y, t ≤ y → y < x → ¬ clrP n g bike y s
  end_ : x = t ∨ ∃ i, i < n ∧ g i 1 = bike ∧ g i 4 = x
theorem Reach.start (n : Nat) (g : Nat → Nat → Int) (bike t s : Int) : Reach n g bike t s t := ⟨Int.le_refl _, fun y h1 h2 => by omega, .inl rfl⟩
theorem Reach.step {n : Nat} {g : Nat → Nat → Int} {bike t s x : Int} (h : Reach n g bike t s x) {i : Nat} (hi : i < n) (hm : mt g bike x s i) : Reach n g bike t s (g i 4) := by
  obtain ⟨m1, m2, m3⟩ := hm
  refine ⟨by have := h.ge; omega, fun y h1 h2 => ?_, .inr ⟨i, hi, m1, rfl⟩⟩
  by_cases hy : y < x
  · exact h.least y h1 hy
  · exact fun hc => hc i hi ⟨m1, by omega, h2⟩
theorem Reach.next {n : Nat} {g : Nat → Nat → Int} {bike t s x : Int} (h : Reach n g bike t s x) (hc : clrP n g bike x s) : NextP n g bike t s x := ⟨h.ge, hc, h.least, h.end_⟩

open Classical in
theorem next_ex (n : Nat) (g : Nat → Nat → Int) (bike t s : Int) : ∃ x, NextP n g bike t s x := by
  have hb : ∃ M : Int, ∀ i, i < n → g i 4 ≤ M := by
    induction n with
    | zero => exact ⟨0, fun i hi => absurd hi (by omega)⟩
    | succ n ih =>
      obtain ⟨M, hM⟩ := ih
      refine ⟨max M (g n 4), fun i hi => ?_⟩
      by_cases hin : i = n
      · subst hin; omega
      · have := hM i (by omega); omega
  obtain ⟨M, hM⟩ := hb
  rcases firstI_cases (fun m => decide (clrP n g bike (t + (m : Int)) s)) ((M - t).toNat + 1) with ⟨h1, h2⟩ | ⟨h1, h2, h3⟩
  · have := h2 (M - t).toNat (by omega)
    simp only [decide_eq_false_iff_not] at this
    exact absurd (fun i hi hm => by have := hM i hi; have := hm.2.2; omega) this
  · simp only [decide_eq_true_eq] at h2
    generalize firstI (fun m => decide (clrP n g bike (t + (m : Int)) s)) ((M - t).toNat + 1) = k at h1 h2 h3
    have hl : ∀ y, t ≤ y → y < t + (k : Int) → ¬ clrP n g bike y s := fun y y1 y2 => by
      have := h3 (y - t).toNat (by omega)
      simp only [decide_eq_false_iff_not] at this
      rw [show t + ((y - t).toNat : Int) = y by omega] at this
      exact this
    refine ⟨t + k, by omega, h2, hl, ?_⟩
    by_cases hk : k = 0
    · exact .inl (by omega)
    · have hn := hl (t + k - 1) (by omega) (by omega)
      have : ∃ i, i < n ∧ mt g bike (t + k - 1) s i := by
        by_cases h : ∃ i, i < n ∧ mt g bike (t + k - 1) s i
        · exact h
        · exact absurd (fun i hi hm => h ⟨i, hi, hm⟩) hn
      obtain ⟨i, hi, m1, m2, m3⟩ := this
      have hc := h2 i hi
      refine .inr ⟨i, hi, m1, ?_⟩
      by_cases he : t + (k : Int) < g i 4
      · exact absurd ⟨m1, by omega, he⟩ hc
      · omega
noncomputable def nextX (n : Nat) (g : Nat → Nat → Int) (bike t s : Int) : Int := Classical.choose (next_ex n g bike t s)
theorem nextX_spec (n : Nat) (g : Nat → Nat → Int) (bike t s : Int) : NextP n g bike t s (nextX n g bike t s) := Classical.choose_spec (next_ex n g bike t s)
theorem nextX_eq {n : Nat} {g : Nat → Nat → Int} {bike t s x : Int} (h : NextP n g bike t s x) : nextX n g bike t s = x := (nextX_spec n g bike t s).uniq h

noncomputable def neE (n : Nat) (g : Nat → Nat → Int) (bike t s : Int) : Int :=
  if chkH n g = 0 then (if bike < 0 ∨ 128 ≤ bike then 7 else if t < 0 ∨ 4294943999 < t ∨ s < 1 ∨ 86400 < s then 1 else if 4294944000 < nextX n g bike t s + s then 10 else 0) else chkH n g
noncomputable def neT (n : Nat) (g : Nat → Nat → Int) (bike t s : Int) : Int := if neE n g bike t s = 0 then nextX n g bike t s else 0
end Go.Proofs.Ytmfkkmonedgdnaa
