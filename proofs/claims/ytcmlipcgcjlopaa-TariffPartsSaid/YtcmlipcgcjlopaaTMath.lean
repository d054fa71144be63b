/- Plain laws of the tariff: no program in sight. -/
namespace Go.Proofs.Ytcmlipcgcjlopaa
set_option linter.unusedVariables false
def inB (n lo hi : Int) : Bool := decide (lo ≤ n) && decide (n ≤ hi)
theorem inB_iff {n lo hi : Int} : inB n lo hi = true ↔ lo ≤ n ∧ n ≤ hi := by simp [inB]
/-- fields: from, unlock, step, free, price, pause -/
def rangedB (f u s r p q : Int) : Bool := inB f 0 4294943999 && inB u 0 1000000 && inB p 0 1000000 && inB q 0 1000000 && inB s 1 86400 && inB r 0 86400
def rangedG (g : Nat → Nat → Int) (i : Nat) : Bool := rangedB (g i 0) (g i 1) (g i 2) (g i 3) (g i 4) (g i 5)
/-- the error of the version at place i -/
def errAt (g : Nat → Nat → Int) (i : Nat) : Int :=
  if rangedG g i = false then 1 else if (i = 0 ∧ g i 0 ≠ 0) ∨ (0 < i ∧ g i 0 ≤ g (i - 1) 0) then 9 else 0
/-- the first error among the first k versions -/
def scan (g : Nat → Nat → Int) : Nat → Int
  | 0 => 0
  | k + 1 => if scan g k = 0 then errAt g k else scan g k
theorem scan_stay (g : Nat → Nat → Int) (k m : Nat) (h : scan g k ≠ 0) : scan g (k + m) = scan g k := by
  induction m with
  | zero => rfl
  | succ m ih => show (if scan g (k + m) = 0 then errAt g (k + m) else scan g (k + m)) = _; rw [ih, if_neg h]
theorem scan_hit (g : Nat → Nat → Int) (k n : Nat) (hk : k < n) (h0 : scan g k = 0) (h1 : errAt g k ≠ 0) : scan g n = errAt g k := by
  have e : scan g (k + 1) = errAt g k := by show (if scan g k = 0 then _ else _) = _; rw [if_pos h0]
  have := scan_stay g (k + 1) (n - (k + 1)) (by rw [e]; exact h1)
  rw [show k + 1 + (n - (k + 1)) = n by omega, e] at this
  exact this
theorem scan_next (g : Nat → Nat → Int) (k : Nat) (h0 : scan g k = 0) (h1 : errAt g k = 0) : scan g (k + 1) = 0 := by
  show (if scan g k = 0 then _ else _) = _; rw [if_pos h0, h1]
theorem scan_zero (g : Nat → Nat → Int) (n : Nat) (h : scan g n = 0) : ∀ i, i < n → scan g i = 0 ∧ errAt g i = 0 := by
  induction n with
  | zero => intro i hi; omega
  | succ n ih =>
    intro i hi
    have hn : scan g n = 0 := by
      show scan g n = 0
      by_cases h0 : scan g n = 0
      · exact h0
      · have : scan g (n + 1) = scan g n := by show (if scan g n = 0 then _ else _) = _; rw [if_neg h0]
        rw [this] at h; exact h
    by_cases hin : i < n
    · exact ih hn i hin
    · have : i = n := by omega
      subst this
      refine ⟨hn, ?_⟩
      have e : scan g (i + 1) = errAt g i := by show (if scan g i = 0 then _ else _) = _; rw [if_pos hn]
      rw [← e]; exact h
def chkT (n : Nat) (g : Nat → Nat → Int) : Int := if n = 0 then 10 else if 8 < n then 8 else scan g n
theorem chkT_zero {n : Nat} {g : Nat → Nat → Int} (h : chkT n g = 0) : 0 < n ∧ n ≤ 8 ∧ scan g n = 0 := by
  unfold chkT at h
  split at h
  · cases h
  · split at h
    · cases h
    · exact ⟨by omega, by omega, h⟩
/-- the last version that begins at t or before, among the first k -/
def atT (g : Nat → Nat → Int) (t : Int) : Nat → Int
  | 0 => 0
  | k + 1 => if g k 0 ≤ t then k else atT g t k
def oneT (u s r p q : Int) : Int := if rangedB 0 u s r p q = true then 0 else 1
theorem oneT_zero {u s r p q : Int} (h : oneT u s r p q = 0) : rangedB 0 u s r p q = true := by
  unfold oneT at h; split at h
  · assumption
  · cases h
theorem ranged_bd {f u s r p q : Int} (h : rangedB f u s r p q = true) : 0 ≤ f ∧ f ≤ 4294943999 ∧ 0 ≤ u ∧ u ≤ 1000000 ∧ 1 ≤ s ∧ s ≤ 86400 ∧ 0 ≤ r ∧ r ≤ 86400 ∧ 0 ≤ p ∧ p ≤ 1000000 ∧ 0 ≤ q ∧ q ≤ 1000000 := by
  simp only [rangedB, Bool.and_eq_true, inB_iff] at h; omega
/-- the price of so many seconds in begun steps -/
def costT (s paid each : Int) : Int := each * ((max 0 paid + s - 1) / s)
/-- the error, and the price -/
def codeT (e secs x : Int) : Int := if e ≠ 0 then e else if secs < 0 ∨ 4294944000 < secs then 1 else if 1000000000000 < x then 2 else 0
def valT (e secs x : Int) : Int := if codeT e secs x = 0 then x else 0
/-- how long -/
def codeL (e amount : Int) : Int := if e ≠ 0 then e else if amount < 0 ∨ 1000000000000 < amount then 1 else 0
def valL (e amount s r p : Int) : Int := if codeL e amount = 0 then (if p = 0 then 4294944000 else min (r + amount / p * s) 4294944000) else 0
theorem steps_bd {s paid : Int} (hs : 1 ≤ s) (hs2 : s ≤ 86400) (hp : paid ≤ 4294944000) : 0 ≤ (max 0 paid + s - 1) / s ∧ (max 0 paid + s - 1) / s ≤ 4294944000 := by
  have h0 : 0 ≤ max 0 paid := by omega
  refine ⟨Int.ediv_nonneg (by omega) (by omega), ?_⟩
  have h1 : (max 0 paid + s - 1) / s * s ≤ max 0 paid + s - 1 := Int.ediv_mul_le _ (by omega)
  by_cases h : (max 0 paid + s - 1) / s ≤ 4294944000
  · exact h
  · have h2 : 4294944001 ≤ (max 0 paid + s - 1) / s := by omega
    have h3 : 4294944001 * s ≤ (max 0 paid + s - 1) / s * s := Int.mul_le_mul_of_nonneg_right h2 (by omega)
    omega
theorem cost_bd {s paid each : Int} (hs : 1 ≤ s) (hs2 : s ≤ 86400) (hp : paid ≤ 4294944000) (h0 : 0 ≤ each) (h1 : each ≤ 1000000) : 0 ≤ costT s paid each ∧ costT s paid each ≤ 4294944000000000 := by
  have h := steps_bd hs hs2 hp
  unfold costT
  refine ⟨Int.mul_nonneg h0 h.1, ?_⟩
  have := Int.mul_le_mul h1 h.2 h.1 (by omega)
  omega
end Go.Proofs.Ytcmlipcgcjlopaa
