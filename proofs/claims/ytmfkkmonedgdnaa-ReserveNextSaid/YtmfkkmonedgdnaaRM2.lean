/- Plain mathematics of the reservations: the first and the last place, By, Same, End, Make. No program in sight. -/
import Derived.Test.YtmfkkmonedgdnaaRMath
namespace Go.Proofs.Ytmfkkmonedgdnaa
set_option linter.unusedVariables false

/-- the first place below n at which p holds (n if there is none) -/
def firstI (p : Nat → Bool) : Nat → Nat
  | 0 => 0
  | k + 1 => if firstI p k < k then firstI p k else if p k = true then k else k + 1
theorem firstI_none {p : Nat → Bool} : ∀ {n : Nat}, (∀ i, i < n → p i = false) → firstI p n = n := by
  intro n
  induction n with
  | zero => intro _; rfl
  | succ n ih =>
    intro h
    unfold firstI
    rw [ih (fun i hi => h i (by omega)), if_neg (by omega), if_neg (by rw [h n (by omega)]; decide)]
theorem firstI_hit {p : Nat → Bool} {k : Nat} (h1 : ∀ i, i < k → p i = false) (h2 : p k = true) : ∀ {n : Nat}, k < n → firstI p n = k := by
  intro n
  induction n with
  | zero => intro h; omega
  | succ n ih =>
    intro h
    unfold firstI
    by_cases hk : k < n
    · rw [ih hk, if_pos hk]
    · have : k = n := by omega
      subst this
      rw [firstI_none h1, if_neg (by omega), if_pos h2]
theorem firstI_cases (p : Nat → Bool) (n : Nat) : (firstI p n = n ∧ ∀ i, i < n → p i = false) ∨ (firstI p n < n ∧ p (firstI p n) = true ∧ ∀ i, i < firstI p n → p i = false) := by
  induction n with
  | zero => exact .inl ⟨rfl, fun i hi => absurd hi (by omega)⟩
  | succ n ih =>
    rcases ih with ⟨h1, h2⟩ | ⟨h1, h2, h3⟩
    · by_cases hp : p n = true
      · have : firstI p (n + 1) = n := firstI_hit h2 hp (by omega)
        exact .inr ⟨by omega, by rw [this]; exact hp, by rw [this]; exact h2⟩
      · have h2' : ∀ i, i < n + 1 → p i = false := fun i hi => by
          by_cases hin : i = n
          · subst hin; simpa using hp
          · exact h2 i (by omega)
        exact .inl ⟨firstI_none h2', h2'⟩
    · have : firstI p (n + 1) = firstI p n := by
        show (if firstI p n < n then firstI p n else if p n = true then n else n + 1) = firstI p n
        rw [if_pos h1]
      rw [this]
      exact .inr ⟨by omega, h2, h3⟩

/-- the last place below n at which p holds (-1 if there is none) -/
def lastI (p : Nat → Bool) : Nat → Int
  | 0 => -1
  | k + 1 => if p k = true then (k : Int) else lastI p k
theorem lastI_cases (p : Nat → Bool) (n : Nat) : (lastI p n = -1 ∧ ∀ i, i < n → p i = false) ∨ ∃ k : Nat, lastI p n = (k : Int) ∧ k < n ∧ p k = true ∧ ∀ i, k < i → i < n → p i = false := by
  induction n with
  | zero => exact .inl ⟨rfl, fun i hi => absurd hi (by omega)⟩
  | succ n ih =>
    by_cases hp : p n = true
    · exact .inr ⟨n, if_pos hp, by omega, hp, fun i h1 h2 => absurd h1 (by omega)⟩
    · have hl : lastI p (n + 1) = lastI p n := if_neg hp
      have hf : p n = false := by simpa using hp
      rw [hl]
      rcases ih with ⟨h1, h2⟩ | ⟨k, h1, h2, h3, h4⟩
      · refine .inl ⟨h1, fun i hi => ?_⟩
        by_cases hin : i = n
        · subst hin; exact hf
        · exact h2 i (by omega)
      · refine .inr ⟨k, h1, by omega, h3, fun i hi hi2 => ?_⟩
        by_cases hin : i = n
        · subst hin; exact hf
        · exact h4 i hi (by omega)

/-- does the i-th reserve the bicycle at t? -/
def hitB (g : Nat → Nat → Int) (bike t : Int) (i : Nat) : Bool := decide (g i 1 = bike ∧ g i 3 ≤ t ∧ t < g i 4)
theorem hitB_t {g : Nat → Nat → Int} {bike t : Int} {i : Nat} (h : g i 1 = bike ∧ g i 3 ≤ t ∧ t < g i 4) : hitB g bike t i = true := decide_eq_true h
theorem hitB_f {g : Nat → Nat → Int} {bike t : Int} {i : Nat} (h : ¬ (g i 1 = bike ∧ g i 3 ≤ t ∧ t < g i 4)) : hitB g bike t i = false := decide_eq_false h
def byR (n : Nat) (g : Nat → Nat → Int) (bike t : Int) : Int := if firstI (hitB g bike t) n < n then g (firstI (hitB g bike t) n) 2 else 0
def byF (n : Nat) (g : Nat → Nat → Int) (bike t : Int) : Bool := decide (firstI (hitB g bike t) n < n)
theorem by_none {n : Nat} {g : Nat → Nat → Int} {bike t : Int} (h : ∀ i, i < n → hitB g bike t i = false) : byR n g bike t = 0 ∧ byF n g bike t = false := by
  unfold byR byF
  rw [firstI_none h]
  simp
theorem by_hit {n k : Nat} {g : Nat → Nat → Int} {bike t : Int} (h : ∀ i, i < k → hitB g bike t i = false) (hk : hitB g bike t k = true) (hn : k < n) : byR n g bike t = g k 2 ∧ byF n g bike t = true := by
  unfold byR byF
  rw [firstI_hit h hk hn]
  simp [hn]

/-- are two rows one? -/
def eqRow (g g' : Nat → Nat → Int) (i : Nat) : Prop := g i 0 = g' i 0 ∧ g i 1 = g' i 1 ∧ g i 2 = g' i 2 ∧ g i 3 = g' i 3 ∧ g i 4 = g' i 4
theorem eqRow_all {g g' : Nat → Nat → Int} {i : Nat} (h : eqRow g g' i) : ∀ j, j < 5 → g i j = g' i j := by
  intro j hj
  obtain ⟨h0, h1, h2, h3, h4⟩ := h
  match j, hj with
  | 0, _ => exact h0
  | 1, _ => exact h1
  | 2, _ => exact h2
  | 3, _ => exact h3
  | 4, _ => exact h4
open Classical in
noncomputable def sameB (n m : Nat) (g g' : Nat → Nat → Int) : Bool := decide (n = m ∧ ∀ i, i < n → eqRow g g' i)
open Classical in
theorem sameB_t {n m : Nat} {g g' : Nat → Nat → Int} (h1 : n = m) (h : ∀ i, i < n → eqRow g g' i) : sameB n m g g' = true := decide_eq_true ⟨h1, h⟩
open Classical in
theorem sameB_f {n m : Nat} {g g' : Nat → Nat → Int} (h : ¬ (n = m ∧ ∀ i, i < n → eqRow g g' i)) : sameB n m g g' = false := decide_eq_false h

/-- the list with one more -/
def addG (n : Nat) (g : Nat → Nat → Int) (a b c d e : Int) (i j : Nat) : Int :=
  if i < n then g i j else match j with | 0 => a | 1 => b | 2 => c | 3 => d | _ => e
noncomputable def mkE (n : Nat) (g : Nat → Nat → Int) (a b c d e : Int) : Int := if chkH n g = 0 then chkH (n + 1) (addG n g a b c d e) else chkH n g

/-- the place of an id -/
def idB (g : Nat → Nat → Int) (id : Int) (i : Nat) : Bool := g i 0 == id
noncomputable def endE (n : Nat) (g : Nat → Nat → Int) (id t : Int) : Int :=
  if chkH n g = 0 then (if lastI (idB g id) n < 0 then 7 else if t < 0 ∨ 4294943999 < t then 1 else if g (lastI (idB g id) n).toNat 4 < t then 19 else 0) else chkH n g
/-- the list without its k-th -/
def cutG (k : Nat) (g : Nat → Nat → Int) (i j : Nat) : Int := if i < k then g i j else g (i + 1) j
/-- the list with another end of its k-th -/
def toG (k : Nat) (g : Nat → Nat → Int) (t : Int) (i j : Nat) : Int := if i = k ∧ j = 4 then t else g i j
end Go.Proofs.Ytmfkkmonedgdnaa
