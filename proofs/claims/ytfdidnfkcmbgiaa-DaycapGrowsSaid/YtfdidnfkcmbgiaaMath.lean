/- Plain laws on what a group of rides has paid: no program in sight. -/
set_option linter.unusedVariables false
namespace Go.Proofs.Ytfdidnfkcmbgiaa.Dc
/-- whole sum of a group over the first k rides -/
def sumG (r d f : Nat → Int) : Nat → Int → Int → Int
  | 0, _, _ => 0
  | k + 1, x, y => sumG r d f k x y + if r k = x ∧ d k = y then f k else 0

/-- what has been paid per group after k rides -/
def paidG (lim : Int) (r d a : Nat → Int) : Nat → Int → Int → Int
  | 0, _, _ => 0
  | k + 1, x, y => paidG lim r d a k x y + if r k = x ∧ d k = y then (if 0 < lim then min (a k) (lim - paidG lim r d a k (r k) (d k)) else a k) else 0

def pay (lim : Int) (r d a : Nat → Int) (k : Nat) : Int :=
  if 0 < lim then min (a k) (lim - paidG lim r d a k (r k) (d k)) else a k

theorem paidG_succ (lim : Int) (r d a : Nat → Int) (k : Nat) (x y : Int) :
    paidG lim r d a (k + 1) x y = paidG lim r d a k x y + if r k = x ∧ d k = y then pay lim r d a k else 0 := rfl

theorem paidG_eq_sumG (lim : Int) (r d a : Nat → Int) (k : Nat) (x y : Int) :
    paidG lim r d a k x y = sumG r d (pay lim r d a) k x y := by
  induction k with
  | zero => rfl
  | succ k ih => rw [paidG_succ, sumG, ih]

/-- after k rides with amounts ≥ 0: the lesser one of the sum and the limit -/
theorem paidG_val (lim : Int) (r d a : Nat → Int) (hl : 0 ≤ lim) (k : Nat) (ha : ∀ j, j < k → 0 ≤ a j) (x y : Int) :
    0 ≤ sumG r d a k x y ∧ paidG lim r d a k x y = if 0 < lim then min (sumG r d a k x y) lim else sumG r d a k x y := by
  induction k with
  | zero => simp only [sumG, paidG]; refine ⟨Int.le_refl _, ?_⟩; split <;> omega
  | succ k ih =>
    obtain ⟨h0, h1⟩ := ih (fun j hj => ha j (by omega))
    have hk := ha k (by omega)
    rw [paidG_succ, sumG]
    by_cases hg : r k = x ∧ d k = y
    · rw [if_pos hg, if_pos hg]
      obtain ⟨rfl, rfl⟩ := hg
      unfold pay
      rw [h1]
      by_cases hp : 0 < lim
      · simp only [hp, if_true] at h1 ⊢; omega
      · simp only [hp, if_false] at h1 ⊢; exact ⟨by omega, trivial⟩
    · rw [if_neg hg, if_neg hg, h1]
      exact ⟨by omega, by simp⟩

theorem paidG_bd (lim : Int) (r d a : Nat → Int) (hl : 0 ≤ lim) (k : Nat) (ha : ∀ j, j < k → 0 ≤ a j) (x y : Int) :
    0 ≤ paidG lim r d a k x y ∧ (0 < lim → paidG lim r d a k x y ≤ lim) := by
  obtain ⟨h0, h1⟩ := paidG_val lim r d a hl k ha x y
  rw [h1]; split <;> omega

theorem pay_bd (lim : Int) (r d a : Nat → Int) (hl : 0 ≤ lim) (k : Nat) (ha : ∀ j, j ≤ k → 0 ≤ a j) :
    0 ≤ pay lim r d a k ∧ pay lim r d a k ≤ a k ∧ (lim = 0 → pay lim r d a k = a k) := by
  have h := paidG_bd lim r d a hl k (fun j hj => ha j (by omega)) (r k) (d k)
  have hk := ha k (by omega)
  unfold pay; split <;> omega

theorem sumG_le (r d f : Nat → Int) (M : Int) (k : Nat) (hf : ∀ j, j < k → 0 ≤ f j ∧ f j ≤ M) (x y : Int) :
    0 ≤ sumG r d f k x y ∧ sumG r d f k x y ≤ k * M := by
  induction k with
  | zero => simp [sumG]
  | succ k ih =>
    have h := ih (fun j hj => hf j (by omega))
    have hk := hf k (by omega)
    rw [sumG]
    have : ((k + 1 : Nat) : Int) * M = k * M + M := by rw [Int.natCast_add, Int.add_mul]; simp
    rw [this]
    split <;> omega

theorem sumG_congr {r d f r' d' f' : Nat → Int} (k : Nat) (h : ∀ j, j < k → r j = r' j ∧ d j = d' j ∧ f j = f' j) (x y : Int) :
    sumG r d f k x y = sumG r' d' f' k x y := by
  induction k with
  | zero => rfl
  | succ k ih =>
    obtain ⟨h1, h2, h3⟩ := h k (by omega)
    rw [sumG, sumG, ih (fun j hj => h j (by omega)), h1, h2, h3]

theorem paidG_congr {lim : Int} {r d a r' d' a' : Nat → Int} (k : Nat) (h : ∀ j, j < k → r j = r' j ∧ d j = d' j ∧ a j = a' j) (x y : Int) :
    paidG lim r d a k x y = paidG lim r' d' a' k x y := by
  induction k generalizing x y with
  | zero => rfl
  | succ k ih =>
    obtain ⟨h1, h2, h3⟩ := h k (by omega)
    simp only [paidG]
    rw [ih (fun j hj => h j (by omega)), ih (fun j hj => h j (by omega)), h1, h2, h3]

theorem pay_congr {lim : Int} {r d a r' d' a' : Nat → Int} (k : Nat) (h : ∀ j, j ≤ k → r j = r' j ∧ d j = d' j ∧ a j = a' j) :
    pay lim r d a k = pay lim r' d' a' k := by
  obtain ⟨h1, h2, h3⟩ := h k (by omega)
  unfold pay
  rw [paidG_congr k (fun j hj => h j (by omega)), h1, h2, h3]

/-- once less than an amount was paid, nothing more is -/
theorem pay_stops (lim : Int) (r d a : Nat → Int) (hl : 0 ≤ lim) (i : Nat) (ha : ∀ j, j ≤ i → 0 ≤ a j) (k : Nat) (hk : k < i)
    (hr : r k = r i) (hd : d k = d i) (hlt : pay lim r d a k < a k) : pay lim r d a i = 0 := by
  have hmono : ∀ j, k + 1 ≤ j → j ≤ i → (0 < lim ∧ lim ≤ paidG lim r d a j (r i) (d i)) := by
    intro j h1 h2
    induction j with
    | zero => omega
    | succ j ih =>
      by_cases hj : j = k
      · subst hj
        rw [paidG_succ, if_pos ⟨hr, hd⟩]
        unfold pay at hlt ⊢
        rw [hr, hd] at hlt ⊢
        by_cases hp : 0 < lim
        · simp only [if_pos hp] at hlt ⊢; omega
        · simp only [if_neg hp] at hlt; omega
      · have := ih (by omega) (by omega)
        rw [paidG_succ]
        have hb := pay_bd lim r d a hl j (fun m hm => ha m (by omega))
        split <;> omega
  have h := hmono i (by omega) (by omega)
  have hb := paidG_bd lim r d a hl i (fun j hj => ha j (by omega)) (r i) (d i)
  have hi := ha i (by omega)
  unfold pay
  rw [if_pos h.1]; omega

/-- greater limits -/
theorem pay_grows (p q : Int) (hp : 0 < p) (hpq : p ≤ q) (r d a : Nat → Int) (i : Nat) (ha : ∀ j, j ≤ i → 0 ≤ a j) :
    pay p r d a i ≤ pay q r d a i ∧ pay q r d a i ≤ pay 0 r d a i ∧ pay 0 r d a i = a i := by
  have h1 := (paidG_val p r d a (by omega) i (fun j hj => ha j (by omega)) (r i) (d i))
  have h2 := (paidG_val q r d a (by omega) i (fun j hj => ha j (by omega)) (r i) (d i))
  unfold pay
  rw [if_pos hp, if_pos (by omega : 0 < q), if_neg (by omega : ¬ (0:Int) < 0), h1.2, h2.2, if_pos hp, if_pos (by omega : 0 < q)]
  have := ha i (by omega)
  omega

/-- the sequence numbers (as a list of indexes) of a group -/
def idx (r d : Nat → Int) (x y : Int) : Nat → List Nat
  | 0 => []
  | k + 1 => idx r d x y k ++ if r k = x ∧ d k = y then [k] else []

theorem idx_lt (r d : Nat → Int) (x y : Int) (k j : Nat) (h : j ∈ idx r d x y k) : j < k := by
  induction k with
  | zero => simp [idx] at h
  | succ k ih =>
    rw [idx, List.mem_append] at h
    rcases h with h | h
    · have := ih h; omega
    · split at h <;> simp at h; omega

theorem idx_mem (r d : Nat → Int) (x y : Int) (k j : Nat) (h : j ∈ idx r d x y k) : r j = x ∧ d j = y := by
  induction k with
  | zero => simp [idx] at h
  | succ k ih =>
    rw [idx, List.mem_append] at h
    rcases h with h | h
    · exact ih h
    · split at h
      · rename_i hh; simp at h; subst h; exact hh
      · simp at h

/-- over the sublist of one group the sums are the same -/
theorem paidG_group (lim : Int) (r d a : Nat → Int) (x y : Int) (k : Nat) (g : Nat → Nat) (hg : ∀ m, m < (idx r d x y k).length → (idx r d x y k)[m]? = some (g m)) :
    paidG lim (fun m => r (g m)) (fun m => d (g m)) (fun m => a (g m)) (idx r d x y k).length x y = paidG lim r d a k x y := by
  induction k with
  | zero => rfl
  | succ k ih =>
    have ih' := ih (fun m hm => by
      have := hg m (by rw [idx, List.length_append]; omega)
      rwa [idx, List.getElem?_append_left hm] at this)
    rw [paidG_succ]
    by_cases hh : r k = x ∧ d k = y
    · have hlen : (idx r d x y (k + 1)).length = (idx r d x y k).length + 1 := by rw [idx, if_pos hh]; simp
      have hlast : g (idx r d x y k).length = k := by
        have := hg (idx r d x y k).length (by rw [hlen]; omega)
        rw [idx, if_pos hh, List.getElem?_append_right (Nat.le_refl _)] at this
        simp at this; exact this.symm
      rw [hlen, paidG_succ, ih', if_pos hh, hlast, if_pos hh]
      unfold pay
      simp only [hlast, hh.1, hh.2, ih']
    · have hlen : idx r d x y (k + 1) = idx r d x y k := by rw [idx, if_neg hh]; simp
      rw [hlen, ih', if_neg hh]; simp

/-- the last one of a group, paid alone with its group -/
theorem pay_group (lim : Int) (r d a : Nat → Int) (k : Nat) (g : Nat → Nat)
    (hg : ∀ m, m < (idx r d (r k) (d k) (k + 1)).length → (idx r d (r k) (d k) (k + 1))[m]? = some (g m)) :
    (idx r d (r k) (d k) (k + 1)).length = (idx r d (r k) (d k) k).length + 1 ∧
    pay lim (fun m => r (g m)) (fun m => d (g m)) (fun m => a (g m)) (idx r d (r k) (d k) k).length = pay lim r d a k := by
  have hlen : (idx r d (r k) (d k) (k + 1)).length = (idx r d (r k) (d k) k).length + 1 := by rw [idx, if_pos ⟨rfl, rfl⟩]; simp
  have hlast : g (idx r d (r k) (d k) k).length = k := by
    have := hg (idx r d (r k) (d k) k).length (by rw [hlen]; omega)
    rw [idx, if_pos ⟨rfl, rfl⟩, List.getElem?_append_right (Nat.le_refl _)] at this
    simp at this; exact this.symm
  refine ⟨hlen, ?_⟩
  have h := paidG_group lim r d a (r k) (d k) k g (fun m hm => by
      have := hg m (by rw [hlen]; omega)
      rwa [idx, List.getElem?_append_left hm] at this)
  unfold pay
  dsimp only
  rw [hlast, h]

end Go.Proofs.Ytfdidnfkcmbgiaa.Dc
