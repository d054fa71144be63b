/- Plain laws of the target numbers: no program in sight. -/
namespace Go.Proofs.Ytnfgbghjdmimgaa
set_option linter.unusedVariables false
/-- how many of the m steps are lost from a level on -/
def lostR (d : Int) : Nat → (Nat → Int) → Int → Int
  | 0, _, _ => 0
  | m + 1, g, l => if l + g 0 < 0 ∨ d < l + g 0 then 1 + lostR d m (fun i => g (i + 1)) l else lostR d m (fun i => g (i + 1)) (l + g 0)
theorem lost_step (d : Int) (n k : Nat) (g : Nat → Int) (l : Int) (hk : k < n) :
    lostR d (n - k) (fun i => g (i + k)) l = if l + g k < 0 ∨ d < l + g k then 1 + lostR d (n - (k + 1)) (fun i => g (i + (k + 1))) l else lostR d (n - (k + 1)) (fun i => g (i + (k + 1))) (l + g k) := by
  obtain ⟨m, hm⟩ : ∃ m, n - k = m + 1 := ⟨n - k - 1, by omega⟩
  have h1 : n - (k + 1) = m := by omega
  have h2 : (fun i => g (i + 1 + k)) = (fun i => g (i + (k + 1))) := by funext i; rw [Nat.add_right_comm, Nat.add_assoc]
  rw [hm, h1, ← h2]
  show (if l + g (0 + k) < 0 ∨ d < l + g (0 + k) then _ else _) = _
  simp only [Nat.zero_add]
theorem lost_end (d : Int) (n : Nat) (g : Nat → Int) (l : Int) : lostR d (n - n) g l = 0 := by rw [Nat.sub_self]; rfl
theorem lost_bd (d : Int) : ∀ (n : Nat) (g : Nat → Int) (l : Int), 0 ≤ lostR d n g l ∧ lostR d n g l ≤ n := by
  intro n
  induction n with
  | zero => intro g l; exact ⟨Int.le_refl _, Int.le_refl _⟩
  | succ n ih =>
    intro g l
    unfold lostR
    split
    · have := ih (fun i => g (i + 1)) l; omega
    · have := ih (fun i => g (i + 1)) (l + g 0); omega
theorem lost_congr (d : Int) : ∀ (n : Nat) (g h : Nat → Int) (l : Int), (∀ i, i < n → g i = h i) → lostR d n g l = lostR d n h l := by
  intro n
  induction n with
  | zero => intro g h l _; rfl
  | succ n ih =>
    intro g h l hgh
    unfold lostR
    rw [hgh 0 (by omega), ih (fun i => g (i + 1)) (fun i => h (i + 1)) l (fun i hi => hgh (i + 1) (by omega)), ih (fun i => g (i + 1)) (fun i => h (i + 1)) (l + h 0) (fun i hi => hgh (i + 1) (by omega))]
/-- the steps are of one bicycle -/
def okB (g : Nat → Int) : Nat → Bool
  | 0 => true
  | k + 1 => okB g k && (g k == 1 || g k == -1)
theorem okB_all {g : Nat → Int} : ∀ {n : Nat}, okB g n = true → ∀ i, i < n → g i = 1 ∨ g i = -1 := by
  intro n
  induction n with
  | zero => intro _ i hi; omega
  | succ n ih =>
    intro h i hi
    simp only [okB, Bool.and_eq_true, Bool.or_eq_true, beq_iff_eq] at h
    by_cases hin : i < n
    · exact ih h.1 i hin
    · have : i = n := by omega
      subst this; exact h.2
theorem okB_next {g : Nat → Int} {k : Nat} (h : okB g k = true) (h2 : g k = 1 ∨ g k = -1) : okB g (k + 1) = true := by
  simp only [okB, Bool.and_eq_true, Bool.or_eq_true, beq_iff_eq]; exact ⟨h, h2⟩
theorem okB_of {g : Nat → Int} : ∀ {n : Nat}, (∀ i, i < n → g i = 1 ∨ g i = -1) → okB g n = true := by
  intro n
  induction n with
  | zero => intro _; rfl
  | succ n ih => intro h; exact okB_next (ih (fun i hi => h i (by omega))) (h n (by omega))
theorem okB_bad {g : Nat → Int} {n k : Nat} (hk : k < n) (h : ¬ (g k = 1 ∨ g k = -1)) : okB g n = false := by
  cases hb : okB g n with
  | false => rfl
  | true => exact absurd (okB_all hb k hk) h
/-- the error of the steps -/
def errC (n : Nat) (g : Nat → Int) : Int := if 64 < n then 8 else if okB g n = true then 0 else 3
def codeLs (d l : Int) (n : Nat) (g : Nat → Int) : Int := if d < 1 ∨ 32 < d ∨ l < 0 ∨ d < l then 1 else errC n g
def valLs (d l : Int) (n : Nat) (g : Nat → Int) : Int := if codeLs d l n g = 0 then lostR d n g l else 0
theorem errC_zero {n : Nat} {g : Nat → Int} (h : errC n g = 0) : n ≤ 64 ∧ okB g n = true := by
  unfold errC at h
  split at h
  · cases h
  · split at h
    · exact ⟨by omega, by assumption⟩
    · cases h
theorem codeLs_zero {d l : Int} {n : Nat} {g : Nat → Int} (h : codeLs d l n g = 0) : 1 ≤ d ∧ d ≤ 32 ∧ 0 ≤ l ∧ l ≤ d ∧ errC n g = 0 := by
  unfold codeLs at h
  split at h
  · cases h
  · exact ⟨by omega, by omega, by omega, by omega, h⟩
theorem codeLs_in {d l : Int} {n : Nat} {g : Nat → Int} (h1 : 1 ≤ d) (h2 : d ≤ 32) (h3 : 0 ≤ l) (h4 : l ≤ d) : codeLs d l n g = errC n g := by
  unfold codeLs; rw [if_neg (by omega)]

/-- scenarios: how many steps, and which -/
abbrev Cs := Nat → Nat × (Nat → Int)
/-- the sum over the first k scenarios of what is lost -/
def sumC (d : Int) (f : Cs) : Nat → Int → Int
  | 0, _ => 0
  | k + 1, l => sumC d f k l + lostR d (f k).1 (f k).2 l
/-- the first error among the first k scenarios -/
def scanC (f : Cs) : Nat → Int
  | 0 => 0
  | k + 1 => if scanC f k = 0 then errC (f k).1 (f k).2 else scanC f k
theorem scanC_stay (f : Cs) (k m : Nat) (h : scanC f k ≠ 0) : scanC f (k + m) = scanC f k := by
  induction m with
  | zero => rfl
  | succ m ih => show (if scanC f (k + m) = 0 then _ else scanC f (k + m)) = _; rw [ih, if_neg h]
theorem scanC_hit (f : Cs) (k n : Nat) (hk : k < n) (h0 : scanC f k = 0) (h1 : errC (f k).1 (f k).2 ≠ 0) : scanC f n = errC (f k).1 (f k).2 := by
  have e : scanC f (k + 1) = errC (f k).1 (f k).2 := by show (if scanC f k = 0 then _ else _) = _; rw [if_pos h0]
  have := scanC_stay f (k + 1) (n - (k + 1)) (by rw [e]; exact h1)
  rw [show k + 1 + (n - (k + 1)) = n by omega, e] at this
  exact this
theorem scanC_next (f : Cs) (k : Nat) (h0 : scanC f k = 0) (h1 : errC (f k).1 (f k).2 = 0) : scanC f (k + 1) = 0 := by
  show (if scanC f k = 0 then _ else _) = _; rw [if_pos h0, h1]
theorem scanC_zero (f : Cs) : ∀ n, scanC f n = 0 → ∀ i, i < n → errC (f i).1 (f i).2 = 0 := by
  intro n
  induction n with
  | zero => intro _ i hi; omega
  | succ n ih =>
    intro h i hi
    have hn : scanC f n = 0 := by
      by_cases h0 : scanC f n = 0
      · exact h0
      · have e : scanC f (n + 1) = scanC f n := by show (if scanC f n = 0 then _ else _) = _; rw [if_neg h0]
        rw [e] at h; exact h
    by_cases hin : i < n
    · exact ih hn i hin
    · have : i = n := by omega
      subst this
      have e : scanC f (i + 1) = errC (f i).1 (f i).2 := by show (if scanC f i = 0 then _ else _) = _; rw [if_pos hn]
      rw [← e]; exact h
theorem scanC_of (f : Cs) : ∀ n, (∀ i, i < n → errC (f i).1 (f i).2 = 0) → scanC f n = 0 := by
  intro n
  induction n with
  | zero => intro _; rfl
  | succ n ih => intro h; exact scanC_next f n (ih (fun i hi => h i (by omega))) (h n (by omega))
theorem sumC_bd (d : Int) (f : Cs) (l : Int) : ∀ k, scanC f k = 0 → 0 ≤ sumC d f k l ∧ sumC d f k l ≤ 64 * k := by
  intro k
  induction k with
  | zero => intro _; exact ⟨Int.le_refl _, Int.le_refl _⟩
  | succ k ih =>
    intro h
    have hk : scanC f k = 0 := scanC_of f k (fun i hi => scanC_zero f (k + 1) h i (by omega))
    have h1 := ih hk
    have h2 := lost_bd d (f k).1 (f k).2 l
    have h3 := (errC_zero (scanC_zero f (k + 1) h k (by omega))).1
    unfold sumC
    omega
def codeCs (d : Int) (n : Nat) (f : Cs) : Int := if d < 1 ∨ 32 < d then 1 else if 32 < n then 8 else scanC f n
theorem codeCs_zero {d : Int} {n : Nat} {f : Cs} (h : codeCs d n f = 0) : 1 ≤ d ∧ d ≤ 32 ∧ n ≤ 32 ∧ scanC f n = 0 := by
  unfold codeCs at h
  split at h
  · cases h
  · split at h
    · cases h
    · exact ⟨by omega, by omega, by omega, h⟩
/-- how many levels there are costs of -/
def lenCs (d : Int) (n : Nat) (f : Cs) : Nat := if codeCs d n f = 0 then (d + 1).toNat else 0
/-- the first of the least ones -/
def bestN (F : Nat → Int) : Nat → Nat
  | 0 => 0
  | k + 1 => if F k < F (bestN F k) then k else bestN F k
theorem bestN_lt (F : Nat → Int) : ∀ k, bestN F k ≤ k - 1 := by
  intro k
  induction k with
  | zero => exact Nat.le_refl _
  | succ k ih => unfold bestN; split <;> omega
theorem bestN_one (F : Nat → Int) : bestN F 1 = 0 := by unfold bestN; split <;> rfl
theorem bestN_least (F : Nat → Int) : ∀ k, (∀ i, i < k → F (bestN F k) ≤ F i) ∧ (∀ i, i < bestN F k → F (bestN F k) < F i) := by
  intro k
  induction k with
  | zero => exact ⟨fun i hi => by omega, fun i hi => by simp [bestN] at hi⟩
  | succ k ih =>
    obtain ⟨h1, h2⟩ := ih
    have hb := bestN_lt F k
    unfold bestN
    split
    · rename_i hlt
      refine ⟨fun i hi => ?_, fun i hi => ?_⟩
      · by_cases hik : i < k
        · have := h1 i hik; omega
        · have : i = k := by omega
          subst this; exact Int.le_refl _
      · have := h1 i hi; omega
    · rename_i hlt
      refine ⟨fun i hi => ?_, h2⟩
      by_cases hik : i < k
      · exact h1 i hik
      · have : i = k := by omega
        subst this; omega
theorem bestN_congr (F G : Nat → Int) : ∀ k, (∀ i, i < k → F i = G i) → bestN F k = bestN G k := by
  intro k
  induction k with
  | zero => intro _; rfl
  | succ k ih =>
    intro h
    have e := ih (fun i hi => h i (by omega))
    unfold bestN
    have hb := bestN_lt G k
    rw [e, h k (by omega)]
    rcases Nat.eq_zero_or_pos k with h0 | h0
    · subst h0
      have : F (bestN G 0) = G (bestN G 0) := h _ (by show (0 : Nat) < 1; omega)
      rw [this]
    · rw [h (bestN G k) (by omega)]
def costF (d : Int) (n : Nat) (f : Cs) : Nat → Int := fun l => sumC d f n l
def valB (d : Int) (n : Nat) (f : Cs) : Int := if codeCs d n f = 0 then (bestN (costF d n f) (d + 1).toNat : Int) else 0
/-- few scenarios of few steps -/
def fewB (n : Nat) (f : Cs) (most : Int) : Bool := decide (∀ i, i < n → (f i).1 ≤ 100) && decide ((n : Int) ≤ most)

/-- stations: docks, scenarios -/
def scanM (dk : Nat → Int) (cs : Nat → Nat × Cs) : Nat → Int
  | 0 => 0
  | k + 1 => if scanM dk cs k = 0 then codeCs (dk k) (cs k).1 (cs k).2 else scanM dk cs k
theorem scanM_stay (dk : Nat → Int) (cs : Nat → Nat × Cs) (k m : Nat) (h : scanM dk cs k ≠ 0) : scanM dk cs (k + m) = scanM dk cs k := by
  induction m with
  | zero => rfl
  | succ m ih => show (if scanM dk cs (k + m) = 0 then _ else scanM dk cs (k + m)) = _; rw [ih, if_neg h]
theorem scanM_hit (dk : Nat → Int) (cs : Nat → Nat × Cs) (k n : Nat) (hk : k < n) (h0 : scanM dk cs k = 0) (h1 : codeCs (dk k) (cs k).1 (cs k).2 ≠ 0) : scanM dk cs n = codeCs (dk k) (cs k).1 (cs k).2 := by
  have e : scanM dk cs (k + 1) = codeCs (dk k) (cs k).1 (cs k).2 := by show (if scanM dk cs k = 0 then _ else _) = _; rw [if_pos h0]
  have := scanM_stay dk cs (k + 1) (n - (k + 1)) (by rw [e]; exact h1)
  rw [show k + 1 + (n - (k + 1)) = n by omega, e] at this
  exact this
theorem scanM_next (dk : Nat → Int) (cs : Nat → Nat × Cs) (k : Nat) (h0 : scanM dk cs k = 0) (h1 : codeCs (dk k) (cs k).1 (cs k).2 = 0) : scanM dk cs (k + 1) = 0 := by
  show (if scanM dk cs k = 0 then _ else _) = _; rw [if_pos h0, h1]
/-- the numbers now are in their ranges -/
def nowB (dk nw : Nat → Int) : Nat → Bool
  | 0 => true
  | k + 1 => nowB dk nw k && decide (0 ≤ nw k ∧ nw k ≤ dk k)
theorem nowB_next {dk nw : Nat → Int} {k : Nat} (h : nowB dk nw k = true) (h2 : 0 ≤ nw k ∧ nw k ≤ dk k) : nowB dk nw (k + 1) = true := by
  simp only [nowB, Bool.and_eq_true, decide_eq_true_eq]; exact ⟨h, h2⟩
theorem nowB_all {dk nw : Nat → Int} : ∀ {n : Nat}, nowB dk nw n = true → ∀ i, i < n → 0 ≤ nw i ∧ nw i ≤ dk i := by
  intro n
  induction n with
  | zero => intro _ i hi; omega
  | succ n ih =>
    intro h i hi
    simp only [nowB, Bool.and_eq_true, decide_eq_true_eq] at h
    by_cases hin : i < n
    · exact ih h.1 i hin
    · have : i = n := by omega
      subst this; exact h.2
theorem nowB_bad {dk nw : Nat → Int} {n k : Nat} (hk : k < n) (h : ¬ (0 ≤ nw k ∧ nw k ≤ dk k)) : nowB dk nw n = false := by
  cases hb : nowB dk nw n with
  | false => rfl
  | true => exact absurd (nowB_all hb k hk) h
def codeM (n m k : Nat) (dk nw : Nat → Int) (cs : Nat → Nat × Cs) : Int := if n ≠ m ∨ n ≠ k then 3 else if 32 < n then 8 else if scanM dk cs n ≠ 0 then scanM dk cs n else if nowB dk nw n = true then 0 else 1
def lenM (n m k : Nat) (dk nw : Nat → Int) (cs : Nat → Nat × Cs) : Nat := if codeM n m k dk nw cs = 0 then n else 0
def valM (dk nw : Nat → Int) (cs : Nat → Nat × Cs) : Nat → Int := fun i => nw i - valB (dk i) (cs i).1 (cs i).2

/-! ### the laws -/
theorem lost_slope (d : Int) (hd : 1 ≤ d) : ∀ (n : Nat) (g : Nat → Int), okB g n = true → ∀ l, 0 ≤ l → l < d → -1 ≤ lostR d n g (l + 1) - lostR d n g l ∧ lostR d n g (l + 1) - lostR d n g l ≤ 1 := by
  intro n
  induction n with
  | zero => intro g _ l _ _; simp [lostR]
  | succ n ih =>
    intro g hg l h0 h1
    have ok : okB (fun i => g (i + 1)) n = true := okB_of (fun i hi => okB_all hg (i + 1) (by omega))
    have I := ih _ ok
    unfold lostR
    rcases okB_all hg 0 (by omega) with e | e
    · rw [e, if_neg (by omega : ¬ (l + 1 < 0 ∨ d < l + 1))]
      by_cases h2 : l + 1 < d
      · rw [if_neg (by omega)]; exact I (l + 1) (by omega) h2
      · rw [if_pos (by omega)]; omega
    · rw [e, if_neg (by omega : ¬ (l + 1 + -1 < 0 ∨ d < l + 1 + -1)), show l + 1 + -1 = l by omega]
      by_cases h2 : 0 < l
      · rw [if_neg (by omega), show l + -1 = l - 1 by omega]
        have := I (l - 1) (by omega) (by omega)
        rw [show l - 1 + 1 = l by omega] at this; exact this
      · rw [if_pos (by omega)]; omega
theorem lost_convex (d : Int) (hd : 1 ≤ d) : ∀ (n : Nat) (g : Nat → Int), okB g n = true → ∀ l, 1 ≤ l → l < d → lostR d n g l - lostR d n g (l - 1) ≤ lostR d n g (l + 1) - lostR d n g l := by
  intro n
  induction n with
  | zero => intro g _ l _ _; simp [lostR]
  | succ n ih =>
    intro g hg l h0 h1
    have ok : okB (fun i => g (i + 1)) n = true := okB_of (fun i hi => okB_all hg (i + 1) (by omega))
    have I := ih _ ok
    have S := lost_slope d hd n _ ok
    unfold lostR
    rcases okB_all hg 0 (by omega) with e | e
    · rw [e, if_neg (by omega : ¬ (l + 1 < 0 ∨ d < l + 1)), if_neg (by omega : ¬ (l - 1 + 1 < 0 ∨ d < l - 1 + 1)), show l - 1 + 1 = l by omega]
      by_cases h2 : l + 1 < d
      · rw [if_neg (by omega)]
        have := I (l + 1) (by omega) h2
        rw [show l + 1 - 1 = l by omega] at this; exact this
      · rw [if_pos (by omega)]
        have := S l (by omega) h1; omega
    · rw [e, if_neg (by omega : ¬ (l + 1 + -1 < 0 ∨ d < l + 1 + -1)), if_neg (by omega : ¬ (l + -1 < 0 ∨ d < l + -1)), show l + 1 + -1 = l by omega, show l + -1 = l - 1 by omega]
      by_cases h2 : 1 < l
      · rw [if_neg (by omega), show l - 1 + -1 = l - 1 - 1 by omega]
        have := I (l - 1) (by omega) (by omega)
        rw [show l - 1 + 1 = l by omega] at this; exact this
      · rw [if_pos (by omega)]
        have := S (l - 1) (by omega) (by omega)
        rw [show l - 1 + 1 = l by omega] at this; omega
theorem sum_slope (d : Int) (hd : 1 ≤ d) (f : Cs) (l : Int) (h0 : 0 ≤ l) (h1 : l < d) : ∀ n : Nat, scanC f n = 0 → -n ≤ sumC d f n (l + 1) - sumC d f n l ∧ sumC d f n (l + 1) - sumC d f n l ≤ n := by
  intro n
  induction n with
  | zero => intro _; simp [sumC]
  | succ n ih =>
    intro h
    have hz := scanC_zero f (n + 1) h
    have I := ih (scanC_of f n (fun i hi => hz i (by omega)))
    have S := lost_slope d hd _ _ (errC_zero (hz n (by omega))).2 l h0 h1
    unfold sumC
    omega
theorem sum_convex (d : Int) (hd : 1 ≤ d) (f : Cs) (l : Int) (h0 : 1 ≤ l) (h1 : l < d) : ∀ n : Nat, scanC f n = 0 → sumC d f n l - sumC d f n (l - 1) ≤ sumC d f n (l + 1) - sumC d f n l := by
  intro n
  induction n with
  | zero => intro _; simp [sumC]
  | succ n ih =>
    intro h
    have hz := scanC_zero f (n + 1) h
    have I := ih (scanC_of f n (fun i hi => hz i (by omega)))
    have S := lost_convex d hd _ _ (errC_zero (hz n (by omega))).2 l h0 h1
    unfold sumC
    omega
theorem lost_mirror (d : Int) : ∀ (n : Nat) (g : Nat → Int) (l : Int), lostR d n (fun i => - g i) (d - l) = lostR d n g l := by
  intro n
  induction n with
  | zero => intro g l; rfl
  | succ n ih =>
    intro g l
    unfold lostR
    have e1 := ih (fun i => g (i + 1)) l
    have e2 := ih (fun i => g (i + 1)) (l + g 0)
    rw [show d - (l + g 0) = d - l + - g 0 by omega] at e2
    dsimp only at e1 e2 ⊢
    rw [e1, e2]
    by_cases h : l + g 0 < 0 ∨ d < l + g 0
    · rw [if_pos h, if_pos (by omega)]
    · rw [if_neg h, if_neg (by omega)]
theorem ok_mirror (g : Nat → Int) (n : Nat) : okB (fun i => - g i) n = okB g n := by
  cases hb : okB g n with
  | true => exact okB_of (fun i hi => by have := okB_all hb i hi; omega)
  | false =>
    cases hc : okB (fun i => - g i) n with
    | false => rfl
    | true => rw [okB_of (fun i hi => by have := okB_all hc i hi; omega)] at hb; cases hb
theorem code_mirror (d l : Int) (n : Nat) (g : Nat → Int) : codeLs d (d - l) n (fun i => - g i) = codeLs d l n g := by
  unfold codeLs errC
  rw [ok_mirror]
  by_cases h : d < 1 ∨ 32 < d ∨ l < 0 ∨ d < l
  · rw [if_pos h, if_pos (by omega)]
  · rw [if_neg h, if_neg (by omega)]
theorem val_mirror (d l : Int) (n : Nat) (g : Nat → Int) : valLs d (d - l) n (fun i => - g i) = valLs d l n g := by
  unfold valLs
  rw [code_mirror, lost_mirror]
/-- two lists of scenarios -/
def bothC (n : Nat) (f h : Cs) : Cs := fun i => if i < n then f i else h (i - n)
theorem sumC_congr (d : Int) (f h : Cs) (l : Int) : ∀ n, (∀ i, i < n → f i = h i) → sumC d f n l = sumC d h n l := by
  intro n
  induction n with
  | zero => intro _; rfl
  | succ n ih => intro e; unfold sumC; rw [ih (fun i hi => e i (by omega)), e n (by omega)]
theorem scanC_congr (f h : Cs) : ∀ n, (∀ i, i < n → f i = h i) → scanC f n = scanC h n := by
  intro n
  induction n with
  | zero => intro _; rfl
  | succ n ih => intro e; unfold scanC; rw [ih (fun i hi => e i (by omega)), e n (by omega)]
theorem sum_both (d : Int) (n : Nat) (f h : Cs) (l : Int) : ∀ m, sumC d (bothC n f h) (n + m) l = sumC d f n l + sumC d h m l := by
  intro m
  induction m with
  | zero =>
    show sumC d (bothC n f h) n l = sumC d f n l + 0
    rw [sumC_congr d (bothC n f h) f l n (fun i hi => if_pos hi)]; omega
  | succ m ih =>
    show sumC d (bothC n f h) (n + m) l + lostR d (bothC n f h (n + m)).1 (bothC n f h (n + m)).2 l = sumC d f n l + (sumC d h m l + lostR d (h m).1 (h m).2 l)
    have e : bothC n f h (n + m) = h m := by unfold bothC; rw [if_neg (by omega), Nat.add_sub_cancel_left]
    rw [ih, e]; omega
theorem scan_both (n : Nat) (f h : Cs) : ∀ m, scanC (bothC n f h) (n + m) = if scanC f n = 0 then scanC h m else scanC f n := by
  intro m
  induction m with
  | zero =>
    show scanC (bothC n f h) n = if scanC f n = 0 then 0 else scanC f n
    rw [scanC_congr (bothC n f h) f n (fun i hi => if_pos hi)]
    split <;> simp [*]
  | succ m ih =>
    have e : bothC n f h (n + m) = h m := by unfold bothC; rw [if_neg (by omega), Nat.add_sub_cancel_left]
    show (if scanC (bothC n f h) (n + m) = 0 then errC (bothC n f h (n + m)).1 (bothC n f h (n + m)).2 else scanC (bothC n f h) (n + m)) = _
    rw [ih, e]
    by_cases h0 : scanC f n = 0
    · rw [if_pos h0, if_pos h0]; rfl
    · rw [if_neg h0, if_neg h0, if_neg h0]
end Go.Proofs.Ytnfgbghjdmimgaa
