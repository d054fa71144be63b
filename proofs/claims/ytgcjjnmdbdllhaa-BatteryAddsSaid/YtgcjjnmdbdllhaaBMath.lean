/- Plain mathematics of the battery: the check, the line, the losses. No program in sight. -/
import Derived.Test.YtgcjjnmdbdllhaaOpen
import Derived.Below
namespace Go.Proofs.Ytgcjjnmdbdllhaa
open Go.RowKit
set_option linter.unusedVariables false

/-- a battery as the machine holds it -/
structure BD where
  A : Option Addr
  n : Nat
  c : Nat
  C : Option Addr
  m : Nat
  d : Nat
  v : Nat → Int
  h : Nat → Int
  er : Int
  il : Int
  ih : Int
  rl : Int
  rh : Int

abbrev BD.val (b : BD) : Value := .agg #[.slice b.A b.n b.c, .slice b.C b.m b.d, .int .i64 b.er, .int .i64 b.il, .int .i64 b.ih, .int .i64 b.rl, .int .i64 b.rh]
abbrev BD.cells (b : BD) : Array Value := #[.slice b.A b.n b.c, .slice b.C b.m b.d, .int .i64 b.er, .int .i64 b.il, .int .i64 b.ih, .int .i64 b.rl, .int .i64 b.rh]
abbrev sv (lo hi : Int) : Value := .agg #[.int .i64 lo, .int .i64 hi]

def BD.rd (b : BD) (w : World) : Prop := SlI w b.A b.n b.v ∧ SlI w b.C b.m b.h ∧ b.n ≤ 9223372036854775807 ∧ b.m ≤ 9223372036854775807
theorem BD.rd.bel {b : BD} {w w' : World} (h : b.rd w) (hb : Below w.heap.size w w') : b.rd w' := ⟨h.1.bel hb, h.2.1.bel hb, h.2.2⟩

def ascP (f : Nat → Int) (n : Nat) : Prop := ∀ i, i + 1 < n → f i < f (i + 1)
def inP (f : Nat → Int) (lo hi : Int) (n : Nat) : Prop := ∀ i, i < n → lo ≤ f i ∧ f i ≤ hi
def spP (lo hi : Int) : Prop := 0 ≤ lo ∧ lo ≤ hi ∧ hi ≤ 1000
instance (lo hi : Int) : Decidable (spP lo hi) := by unfold spP; infer_instance
def spB (lo hi : Int) : Bool := decide (0 ≤ lo ∧ lo ≤ hi ∧ hi ≤ 1000)
def inB (n most : Int) : Bool := decide (0 ≤ n ∧ n ≤ most)
def fewB (b : BD) : Bool := decide (b.n ≤ 20 ∧ b.m ≤ 20)
theorem spB_t {lo hi : Int} (h : spP lo hi) : spB lo hi = true := decide_eq_true h
theorem spB_f {lo hi : Int} (h : ¬ spP lo hi) : spB lo hi = false := decide_eq_false h
theorem inB_t {n most : Int} (h : 0 ≤ n ∧ n ≤ most) : inB n most = true := decide_eq_true h
theorem inB_f {n most : Int} (h : ¬ (0 ≤ n ∧ n ≤ most)) : inB n most = false := decide_eq_false h
theorem fewB_t {b : BD} (h : b.n ≤ 20 ∧ b.m ≤ 20) : fewB b = true := decide_eq_true h
theorem fewB_f {b : BD} (h : ¬ (b.n ≤ 20 ∧ b.m ≤ 20)) : fewB b = false := decide_eq_false h

open Classical in
noncomputable def ascB (f : Nat → Int) (n : Nat) : Bool := decide (ascP f n)
open Classical in
noncomputable def inrB (f : Nat → Int) (lo hi : Int) (n : Nat) : Bool := decide (inP f lo hi n)
open Classical in
theorem ascB_t {f : Nat → Int} {n : Nat} (h : ascP f n) : ascB f n = true := decide_eq_true h
open Classical in
theorem ascB_f {f : Nat → Int} {n : Nat} (h : ¬ ascP f n) : ascB f n = false := decide_eq_false h
open Classical in
theorem inrB_t {f : Nat → Int} {lo hi : Int} {n : Nat} (h : inP f lo hi n) : inrB f lo hi n = true := decide_eq_true h
open Classical in
theorem inrB_f {f : Nat → Int} {lo hi : Int} {n : Nat} (h : ¬ inP f lo hi n) : inrB f lo hi n = false := decide_eq_false h
open Classical in
noncomputable def chk (b : BD) : Int :=
  if b.n ≠ b.m ∨ b.n < 2 ∨ 16 < b.n then 3
  else if ¬ (ascP b.v b.n ∧ ascP b.h b.n) then 9
  else if ¬ (inP b.v 0 10000 b.n ∧ inP b.h 0 1000 b.n ∧ b.h 0 = 0 ∧ b.h (b.n - 1) = 1000 ∧ (0 ≤ b.er ∧ b.er ≤ 1000) ∧ spP b.il b.ih ∧ spP b.rl b.rh) then 1
  else 0

theorem chk3 {b : BD} (h : b.n ≠ b.m ∨ b.n < 2 ∨ 16 < b.n) : chk b = 3 := if_pos h
theorem chk9 {b : BD} (h : ¬ (b.n ≠ b.m ∨ b.n < 2 ∨ 16 < b.n)) (h2 : ¬ (ascP b.v b.n ∧ ascP b.h b.n)) : chk b = 9 := by unfold chk; rw [if_neg h, if_pos h2]
theorem chk1 {b : BD} (h : ¬ (b.n ≠ b.m ∨ b.n < 2 ∨ 16 < b.n)) (h2 : ascP b.v b.n ∧ ascP b.h b.n) (h3 : ¬ (inP b.v 0 10000 b.n ∧ inP b.h 0 1000 b.n ∧ b.h 0 = 0 ∧ b.h (b.n - 1) = 1000 ∧ (0 ≤ b.er ∧ b.er ≤ 1000) ∧ spP b.il b.ih ∧ spP b.rl b.rh)) : chk b = 1 := by
  unfold chk; rw [if_neg h, if_neg (fun x => x h2), if_pos h3]
theorem chk0 {b : BD} (h : ¬ (b.n ≠ b.m ∨ b.n < 2 ∨ 16 < b.n)) (h2 : ascP b.v b.n ∧ ascP b.h b.n) (h3 : inP b.v 0 10000 b.n ∧ inP b.h 0 1000 b.n ∧ b.h 0 = 0 ∧ b.h (b.n - 1) = 1000 ∧ (0 ≤ b.er ∧ b.er ≤ 1000) ∧ spP b.il b.ih ∧ spP b.rl b.rh) : chk b = 0 := by
  unfold chk; rw [if_neg h, if_neg (fun x => x h2), if_neg (fun x => x h3)]
structure OkB (b : BD) : Prop where
  nm : b.m = b.n
  n2 : 2 ≤ b.n
  n16 : b.n ≤ 16
  av : ascP b.v b.n
  ah : ascP b.h b.n
  rv : inP b.v 0 10000 b.n
  rh : inP b.h 0 1000 b.n
  h0 : b.h 0 = 0
  h1 : b.h (b.n - 1) = 1000
  er : 0 ≤ b.er ∧ b.er ≤ 1000
  idle : spP b.il b.ih
  ride : spP b.rl b.rh
theorem chk_ok {b : BD} (h : chk b = 0) : OkB b := by
  unfold chk at h
  split at h
  · omega
  · split at h
    · omega
    · split at h
      · omega
      · rename_i h1 h2 h3
        have h2 := Classical.not_not.1 h2
        have h3 := Classical.not_not.1 h3
        exact ⟨by omega, by omega, by omega, h2.1, h2.2, h3.1, h3.2.1, h3.2.2.1, h3.2.2.2.1, h3.2.2.2.2.1, h3.2.2.2.2.2.1, h3.2.2.2.2.2.2⟩

theorem asc_le {f : Nat → Int} {n : Nat} (h : ascP f n) (i : Nat) : ∀ j, i ≤ j → j < n → f i ≤ f j := by
  intro j
  induction j with
  | zero => intro h1 _; have : i = 0 := by omega
            subst this; exact Int.le_refl _
  | succ j ih =>
    intro h1 h2
    by_cases hij : i = j + 1
    · subst hij; exact Int.le_refl _
    · exact Int.le_trans (ih (by omega) (by omega)) (Int.le_of_lt (h j h2))

/-- the greatest place at most k whose value is at most x (0 if there is none) -/
def seg (v : Nat → Int) : Nat → Int → Nat
  | 0, _ => 0
  | k + 1, x => if v (k + 1) ≤ x then k + 1 else seg v k x
theorem seg_le (v : Nat → Int) (x : Int) : ∀ k, seg v k x ≤ k := by
  intro k
  induction k with
  | zero => exact Nat.le_refl _
  | succ k ih => unfold seg; split <;> omega
theorem seg_lo {v : Nat → Int} {x : Int} (h0 : v 0 ≤ x) : ∀ k, v (seg v k x) ≤ x := by
  intro k
  induction k with
  | zero => exact h0
  | succ k ih => unfold seg; split <;> assumption
theorem seg_hi {v : Nat → Int} {x : Int} : ∀ k, ∀ j, seg v k x < j → j ≤ k → x < v j := by
  intro k
  induction k with
  | zero => intro j h1 h2; unfold seg at h1; omega
  | succ k ih =>
    intro j h1 h2
    unfold seg at h1
    split at h1
    · omega
    · by_cases hj : j = k + 1
      · subst hj; omega
      · exact ih j h1 (by omega)
theorem seg_eq {v : Nat → Int} {x : Int} {n i : Nat} (ha : ascP v n) (hi : i + 1 < n) (h1 : v i ≤ x) (h2 : x < v (i + 1)) : seg v (n - 1) x = i := by
  have a0 : v 0 ≤ x := Int.le_trans (asc_le ha 0 i (by omega) (by omega)) h1
  have a1 := seg_lo a0 (n - 1)
  have a2 := seg_le v x (n - 1)
  by_cases hlt : seg v (n - 1) x < i
  · have := seg_hi (n - 1) i hlt (by omega); omega
  · by_cases hgt : i < seg v (n - 1) x
    · have := asc_le ha (i + 1) (seg v (n - 1) x) (by omega) (by omega); omega
    · omega

/-- the charge at a voltage as a fraction -/
def atP (b : BD) (x : Int) : Int :=
  if x ≤ b.v 0 then 0 else if b.v (b.n - 1) ≤ x then 1000 else
    b.h (seg b.v (b.n - 1) x) * (b.v (seg b.v (b.n - 1) x + 1) - b.v (seg b.v (b.n - 1) x)) + (b.h (seg b.v (b.n - 1) x + 1) - b.h (seg b.v (b.n - 1) x)) * (x - b.v (seg b.v (b.n - 1) x))
def atQ (b : BD) (x : Int) : Int :=
  if x ≤ b.v 0 then 1 else if b.v (b.n - 1) ≤ x then 1 else b.v (seg b.v (b.n - 1) x + 1) - b.v (seg b.v (b.n - 1) x)
def loAt (b : BD) (x : Int) : Int := atP b x / atQ b x
def hiAt (b : BD) (x : Int) : Int := (atP b x + atQ b x - 1) / atQ b x

theorem at_first {b : BD} {x : Int} (h : x ≤ b.v 0) : atP b x = 0 ∧ atQ b x = 1 := by unfold atP atQ; rw [if_pos h, if_pos h]; exact ⟨rfl, rfl⟩
theorem at_last {b : BD} {x : Int} (h : ¬ x ≤ b.v 0) (h2 : b.v (b.n - 1) ≤ x) : atP b x = 1000 ∧ atQ b x = 1 := by unfold atP atQ; rw [if_neg h, if_neg h, if_pos h2, if_pos h2]; exact ⟨rfl, rfl⟩
theorem at_mid {b : BD} {x : Int} (h : ¬ x ≤ b.v 0) (h2 : ¬ b.v (b.n - 1) ≤ x) {i : Nat} (ha : ascP b.v b.n) (hi : i + 1 < b.n) (h3 : b.v i ≤ x) (h4 : x < b.v (i + 1)) :
    atP b x = b.h i * (b.v (i + 1) - b.v i) + (b.h (i + 1) - b.h i) * (x - b.v i) ∧ atQ b x = b.v (i + 1) - b.v i := by
  unfold atP atQ
  rw [if_neg h, if_neg h, if_neg h2, if_neg h2, seg_eq ha hi h3 h4]
  exact ⟨rfl, rfl⟩
/-- a place between the first and the last voltage has a segment -/
theorem mid_seg {b : BD} {x : Int} (hb : OkB b) (h : ¬ x ≤ b.v 0) (h2 : ¬ b.v (b.n - 1) ≤ x) : ∃ i, i + 1 < b.n ∧ b.v i ≤ x ∧ x < b.v (i + 1) := by
  have hn := hb.n2
  have a1 := seg_lo (v := b.v) (x := x) (by omega) (b.n - 1)
  have a2 := seg_le b.v x (b.n - 1)
  have hne : seg b.v (b.n - 1) x ≠ b.n - 1 := fun he => by rw [he] at a1; omega
  exact ⟨seg b.v (b.n - 1) x, by omega, a1, seg_hi (b.n - 1) _ (Nat.lt_succ_self _) (by omega)⟩

/-- what a piece of the line gives -/
theorem piece {h0 h1 d y : Int} (hh : h0 < h1) (hd : 0 < d) (y0 : 0 ≤ y) (y1 : y < d) : h0 * d ≤ h0 * d + (h1 - h0) * y ∧ h0 * d + (h1 - h0) * y ≤ h1 * d := by
  have a1 : 0 ≤ (h1 - h0) * y := Int.mul_nonneg (by omega) y0
  have a2 : (h1 - h0) * y ≤ (h1 - h0) * d := Int.mul_le_mul_of_nonneg_left (by omega) (by omega)
  have a3 : (h1 - h0) * d = h1 * d - h0 * d := Int.sub_mul _ _ _
  omega

theorem at_bd {b : BD} (hb : OkB b) (x : Int) : 1 ≤ atQ b x ∧ 0 ≤ atP b x ∧ atP b x ≤ 1000 * atQ b x := by
  by_cases h : x ≤ b.v 0
  · rw [(at_first h).1, (at_first h).2]; omega
  · by_cases h2 : b.v (b.n - 1) ≤ x
    · rw [(at_last h h2).1, (at_last h h2).2]; omega
    · obtain ⟨i, hi, h3, h4⟩ := mid_seg hb h h2
      rw [(at_mid h h2 hb.av hi h3 h4).1, (at_mid h h2 hb.av hi h3 h4).2]
      have hp := piece (hb.ah i hi) (show 0 < b.v (i + 1) - b.v i by omega) (show 0 ≤ x - b.v i by omega) (by omega)
      have r0 := hb.rh i (by omega)
      have r1 := hb.rh (i + 1) hi
      have e0 : 0 ≤ b.h i * (b.v (i + 1) - b.v i) := Int.mul_nonneg r0.1 (by omega)
      have e1 : b.h (i + 1) * (b.v (i + 1) - b.v i) ≤ 1000 * (b.v (i + 1) - b.v i) := Int.mul_le_mul_of_nonneg_right r1.2 (by omega)
      omega

theorem atQ_le {b : BD} (hb : OkB b) (x : Int) : atQ b x ≤ 10000 := by
  by_cases h : x ≤ b.v 0
  · rw [(at_first h).2]; omega
  · by_cases h2 : b.v (b.n - 1) ≤ x
    · rw [(at_last h h2).2]; omega
    · obtain ⟨i, hi, h3, h4⟩ := mid_seg hb h h2
      rw [(at_mid h h2 hb.av hi h3 h4).2]
      have := hb.rv i (by omega)
      have := hb.rv (i + 1) hi
      omega

theorem at_mono {b : BD} (hb : OkB b) {x y : Int} (hxy : x ≤ y) : atP b x * atQ b y ≤ atP b y * atQ b x := by
  obtain ⟨q1, p0, p1⟩ := at_bd hb x
  obtain ⟨q1', p0', p1'⟩ := at_bd hb y
  by_cases h : x ≤ b.v 0
  · rw [(at_first h).1, Int.zero_mul]
    exact Int.mul_nonneg p0' (by omega)
  · by_cases k2 : b.v (b.n - 1) ≤ y
    · rw [(at_last (by omega) k2).1, (at_last (by omega) k2).2, Int.mul_one]; exact p1
    · have h2 : ¬ b.v (b.n - 1) ≤ x := by omega
      have k : ¬ y ≤ b.v 0 := by omega
      obtain ⟨i, hi, h3, h4⟩ := mid_seg hb h h2
      obtain ⟨j, hj, k3, k4⟩ := mid_seg hb k k2
      have hij : i ≤ j := by
        by_cases hij : j < i
        · have := asc_le hb.av (j + 1) i (by omega) (by omega); omega
        · omega
      rw [(at_mid h h2 hb.av hi h3 h4).1, (at_mid h h2 hb.av hi h3 h4).2, (at_mid k k2 hb.av hj k3 k4).1, (at_mid k k2 hb.av hj k3 k4).2]
      by_cases he : i = j
      · subst he
        refine Int.mul_le_mul_of_nonneg_right ?_ (by omega)
        have := Int.mul_le_mul_of_nonneg_left (show x - b.v i ≤ y - b.v i by omega) (show 0 ≤ b.h (i + 1) - b.h i by have := hb.ah i hi; omega)
        omega
      · have hp := piece (hb.ah i hi) (show 0 < b.v (i + 1) - b.v i by omega) (show 0 ≤ x - b.v i by omega) (by omega)
        have hp' := piece (hb.ah j hj) (show 0 < b.v (j + 1) - b.v j by omega) (show 0 ≤ y - b.v j by omega) (by omega)
        have hh := asc_le hb.ah (i + 1) j (by omega) (by omega)
        have s1 := Int.mul_le_mul_of_nonneg_right hp.2 (show 0 ≤ b.v (j + 1) - b.v j by omega)
        have s2 := Int.mul_le_mul_of_nonneg_right hp'.1 (show 0 ≤ b.v (i + 1) - b.v i by omega)
        have s3 : b.h (i + 1) * ((b.v (i + 1) - b.v i) * (b.v (j + 1) - b.v j)) ≤ b.h j * ((b.v (i + 1) - b.v i) * (b.v (j + 1) - b.v j)) :=
          Int.mul_le_mul_of_nonneg_right hh (Int.mul_nonneg (by omega) (by omega))
        refine Int.le_trans s1 (Int.le_trans ?_ s2)
        rw [Int.mul_assoc, Int.mul_assoc (b.h j), Int.mul_comm (b.v (j + 1) - b.v j)]
        exact s3

theorem floor_le {p q : Int} (hq : 1 ≤ q) : p / q * q ≤ p := Int.ediv_mul_le p (by omega)
theorem ceil_ge {p q : Int} (hq : 1 ≤ q) : p ≤ (p + q - 1) / q * q := by
  have h := Int.emod_add_mul_ediv (p + q - 1) q
  have h2 := Int.emod_lt_of_pos (p + q - 1) (show 0 < q by omega)
  rw [Int.mul_comm q] at h
  omega
theorem ceil_le {p q k : Int} (hq : 1 ≤ q) (h : p ≤ k * q) : (p + q - 1) / q ≤ k := by
  have : (p + q - 1) / q < k + 1 := Int.ediv_lt_of_lt_mul (by omega) (by rw [Int.add_mul]; omega)
  omega
theorem le_floor {p q k : Int} (hq : 1 ≤ q) (h : k * q ≤ p) : k ≤ p / q := (Int.le_ediv_iff_mul_le (by omega)).2 h
theorem mul_cut {a b c : Int} (hc : 1 ≤ c) (h : a * c ≤ b * c) : a ≤ b := Int.le_of_mul_le_mul_right h (by omega)

theorem lo_le_true {b : BD} (hb : OkB b) {x y : Int} (hxy : x ≤ y) : loAt b x * atQ b y ≤ atP b y := by
  have q1 := (at_bd hb x).1
  have q2 := (at_bd hb y).1
  refine mul_cut q1 ?_
  have h1 := Int.mul_le_mul_of_nonneg_right (floor_le q1 (p := atP b x)) (show 0 ≤ atQ b y by omega)
  have h2 := at_mono hb hxy
  unfold loAt
  rw [Int.mul_assoc, Int.mul_comm (atQ b y), ← Int.mul_assoc]
  exact Int.le_trans h1 h2
theorem true_le_hi {b : BD} (hb : OkB b) {x y : Int} (hxy : x ≤ y) : atP b x ≤ hiAt b y * atQ b x := by
  have q1 := (at_bd hb x).1
  have q2 := (at_bd hb y).1
  refine mul_cut q2 ?_
  have h1 := Int.mul_le_mul_of_nonneg_right (ceil_ge q2 (p := atP b y)) (show 0 ≤ atQ b x by omega)
  have h2 := at_mono hb hxy
  unfold hiAt
  rw [Int.mul_assoc, Int.mul_comm (atQ b x), ← Int.mul_assoc]
  exact Int.le_trans h2 h1
theorem lo_mono {b : BD} (hb : OkB b) {x y : Int} (hxy : x ≤ y) : loAt b x ≤ loAt b y := le_floor (at_bd hb y).1 (lo_le_true hb hxy)
theorem hi_mono {b : BD} (hb : OkB b) {x y : Int} (hxy : x ≤ y) : hiAt b x ≤ hiAt b y := ceil_le (at_bd hb x).1 (true_le_hi hb hxy)
theorem lo_le_hi {b : BD} (hb : OkB b) {x y : Int} (hxy : x ≤ y) : loAt b x ≤ hiAt b y := by
  have h1 := lo_le_true hb hxy
  have h2 := true_le_hi hb (Int.le_refl y)
  exact mul_cut (at_bd hb y).1 (Int.le_trans h1 h2)
theorem lo_ge {b : BD} (hb : OkB b) (x : Int) : 0 ≤ loAt b x := Int.ediv_nonneg (at_bd hb x).2.1 (by have := (at_bd hb x).1; omega)
theorem hi_le {b : BD} (hb : OkB b) (x : Int) : hiAt b x ≤ 1000 := ceil_le (at_bd hb x).1 (at_bd hb x).2.2
theorem at_sp {b : BD} (hb : OkB b) {x y : Int} (hxy : x ≤ y) : spP (loAt b x) (hiAt b y) := ⟨lo_ge hb x, lo_le_hi hb hxy, hi_le hb y⟩

/-- the program's form of both numbers -/
theorem code_lo {a w r : Int} (hw : 0 < w) : (a * w + r) / w = a + r / w := by
  rw [Int.add_comm, Int.add_mul_ediv_right _ _ (by omega), Int.add_comm]
theorem code_hi {a w r : Int} (hw : 0 < w) : (a * w + r + w - 1) / w = a + (r + w - 1) / w := by
  rw [show a * w + r + w - 1 = (r + w - 1) + a * w by omega, Int.add_mul_ediv_right _ _ (by omega), Int.add_comm]

/-- the error and the results of Charge -/
noncomputable def chE (b : BD) (r : Int) : Int := if chk b = 0 then (if 0 ≤ r ∧ r ≤ 10000 then 0 else 1) else chk b
noncomputable def chLo (b : BD) (r : Int) : Int := if chE b r = 0 then loAt b (r - b.er) else 0
noncomputable def chHi (b : BD) (r : Int) : Int := if chE b r = 0 then hiAt b (r + b.er) else 0
theorem chE_ok {b : BD} {r : Int} (h : chE b r = 0) : chk b = 0 ∧ 0 ≤ r ∧ r ≤ 10000 := by
  unfold chE at h
  split at h
  · rename_i h1
    split at h
    · rename_i h2; exact ⟨h1, h2⟩
    · omega
  · rename_i h1; exact absurd h h1

/-- losses -/
def lsL (b : BD) (g : Bool) : Int := if g then b.rl else b.il
def lsH (b : BD) (g : Bool) : Int := if g then b.rh else b.ih
theorem ls_sp {b : BD} (hb : OkB b) (g : Bool) : spP (lsL b g) (lsH b g) := by cases g; exact hb.idle; exact hb.ride

noncomputable def afE (b : BD) (lo hi s : Int) : Int := if chk b = 0 then (if spP lo hi ∧ 0 ≤ s ∧ s ≤ 4294943999 then 0 else 1) else chk b
def afL (h lo s : Int) : Int := max 0 (lo - (h * s + 3599) / 3600)
def afH (l hi s : Int) : Int := max 0 (hi - l * s / 3600)
noncomputable def aftLo (b : BD) (lo hi s : Int) (g : Bool) : Int := if afE b lo hi s = 0 then afL (lsH b g) lo s else 0
noncomputable def aftHi (b : BD) (lo hi s : Int) (g : Bool) : Int := if afE b lo hi s = 0 then afH (lsL b g) hi s else 0
theorem afE_ok {b : BD} {lo hi s : Int} (h : afE b lo hi s = 0) : chk b = 0 ∧ spP lo hi ∧ 0 ≤ s ∧ s ≤ 4294943999 := by
  unfold afE at h
  split at h
  · rename_i h1
    split at h
    · rename_i h2; exact ⟨h1, h2⟩
    · omega
  · rename_i h1; exact absurd h h1
theorem afE_mk {b : BD} {lo hi s : Int} (h : chk b = 0) (h1 : spP lo hi) (h2 : 0 ≤ s ∧ s ≤ 4294943999) : afE b lo hi s = 0 := by
  unfold afE; rw [if_pos h, if_pos ⟨h1, h2⟩]

noncomputable def unE (b : BD) (lo hi lim : Int) : Int := if chk b = 0 then (if spP lo hi ∧ 0 ≤ lim ∧ lim ≤ 1000 then (if lo < lim then 10 else 0) else 1) else chk b
def unT (h lo lim : Int) : Int := if lim = 0 ∨ h = 0 then 4294943999 else (lo - lim) * 3600 / h
noncomputable def unN (b : BD) (lo hi lim : Int) (g : Bool) : Int := if unE b lo hi lim = 0 then unT (lsH b g) lo lim else 0
theorem unE_ok {b : BD} {lo hi lim : Int} (h : unE b lo hi lim = 0) : chk b = 0 ∧ spP lo hi ∧ 0 ≤ lim ∧ lim ≤ lo := by
  unfold unE at h
  split at h
  · rename_i h1
    split at h
    · rename_i h2
      split at h
      · omega
      · exact ⟨h1, h2.1, h2.2.1, by omega⟩
    · omega
  · rename_i h1; exact absurd h h1
theorem unT_small {h lo lim : Int} (h1 : ¬ (lim = 0 ∨ h = 0)) (h2 : 0 ≤ h) (h3 : 0 ≤ lo - lim) (h4 : lo - lim ≤ 1000) : 0 ≤ (lo - lim) * 3600 / h ∧ (lo - lim) * 3600 / h ≤ 3600000 := by
  have a := Int.ediv_nonneg (show 0 ≤ (lo - lim) * 3600 by omega) h2
  have c := Int.ediv_le_self h (show 0 ≤ (lo - lim) * 3600 by omega)
  omega

noncomputable def meE (a0 a1 b0 b1 : Int) : Int := if spP a0 a1 ∧ spP b0 b1 then (if min a1 b1 < max a0 b0 then 10 else 0) else 1
noncomputable def meLo (a0 a1 b0 b1 : Int) : Int := if meE a0 a1 b0 b1 = 0 then max a0 b0 else 0
noncomputable def meHi (a0 a1 b0 b1 : Int) : Int := if meE a0 a1 b0 b1 = 0 then min a1 b1 else 0

/-- products of a loss and some seconds -/
theorem ls_bd {l s : Int} (h0 : 0 ≤ l) (h1 : l ≤ 1000) (s0 : 0 ≤ s) (s1 : s ≤ 4294944000) : 0 ≤ l * s ∧ l * s ≤ 4294944000000 := by
  have a := Int.mul_nonneg h0 s0
  have c := Int.mul_le_mul h1 s1 s0 (by omega)
  omega
theorem af_sp {l h lo hi s : Int} (hl : spP l h) (hs : spP lo hi) (s0 : 0 ≤ s) (s1 : s ≤ 4294943999) : spP (afL h lo s) (afH l hi s) := by
  obtain ⟨a, c, d⟩ := hl
  obtain ⟨a', c', d'⟩ := hs
  have e1 := ls_bd a (by omega) s0 (by omega)
  have e2 := ls_bd (show 0 ≤ h by omega) d s0 (by omega)
  have e3 : l * s ≤ h * s := Int.mul_le_mul_of_nonneg_right c s0
  unfold spP afL afH
  omega

theorem sound {l h lo hi s ch x : Int} (hl : spP l h) (hs : spP lo hi) (s0 : 0 ≤ s) (s1 : s ≤ 4294943999) (c0 : 3600 * lo ≤ ch) (c1 : ch ≤ 3600 * hi) (x0 : l ≤ x) (x1 : x ≤ h) :
    (0 ≤ x * s ∧ x * s ≤ 4294944000000) ∧ 3600 * afL h lo s ≤ max 0 (ch - x * s) ∧ max 0 (ch - x * s) ≤ 3600 * afH l hi s ∧ afH l hi s ≤ hi ∧ afL h lo s ≤ lo := by
  obtain ⟨a, c, d⟩ := hl
  obtain ⟨a', c', d'⟩ := hs
  have e1 := ls_bd a (by omega) s0 (show s ≤ 4294944000 by omega)
  have e2 := ls_bd (show 0 ≤ h by omega) d s0 (show s ≤ 4294944000 by omega)
  have e5 := ls_bd (show 0 ≤ x by omega) (by omega) s0 (show s ≤ 4294944000 by omega)
  have e3 : l * s ≤ x * s := Int.mul_le_mul_of_nonneg_right x0 s0
  have e4 : x * s ≤ h * s := Int.mul_le_mul_of_nonneg_right x1 s0
  unfold afL afH
  omega

theorem adds {l h lo hi s t : Int} (hl : spP l h) (hs : spP lo hi) (s0 : 0 ≤ s) (t0 : 0 ≤ t) (s1 : s + t ≤ 4294943999) :
    afL h (afL h lo s) t ≤ afL h lo (s + t) ∧ afH l hi (s + t) ≤ afH l (afH l hi s) t := by
  obtain ⟨a, c, d⟩ := hl
  obtain ⟨a', c', d'⟩ := hs
  have e1 := ls_bd a (by omega) s0 (show s ≤ 4294944000 by omega)
  have e2 := ls_bd (show 0 ≤ h by omega) d s0 (show s ≤ 4294944000 by omega)
  have e3 := ls_bd a (by omega) t0 (show t ≤ 4294944000 by omega)
  have e4 := ls_bd (show 0 ≤ h by omega) d t0 (show t ≤ 4294944000 by omega)
  unfold afL afH
  rw [Int.mul_add, Int.mul_add]
  omega
theorem inner {l h lo hi s x y : Int} (hx : lo ≤ x) (hy : y ≤ hi) : afL h lo s ≤ afL h x s ∧ afH l y s ≤ afH l hi s := by
  unfold afL afH
  omega

theorem holds {h lo lim : Int} (h0 : 0 ≤ h) (h1 : h ≤ 1000) (l0 : 0 ≤ lim) (l1 : lim ≤ lo) (l2 : lo ≤ 1000) :
    (0 ≤ unT h lo lim ∧ unT h lo lim ≤ 4294943999) ∧ lim ≤ afL h lo (unT h lo lim) ∧ (unT h lo lim ≠ 4294943999 → afL h lo (unT h lo lim + 1) < lim) := by
  unfold unT
  by_cases hc : lim = 0 ∨ h = 0
  · rw [if_pos hc]
    refine ⟨by omega, ?_, fun hne => absurd rfl hne⟩
    unfold afL
    rcases hc with rfl | rfl
    · omega
    · rw [Int.zero_mul]; omega
  · rw [if_neg hc]
    have hb := unT_small hc h0 (show 0 ≤ lo - lim by omega) (by omega)
    have hm := Int.ediv_mul_le ((lo - lim) * 3600) (show h ≠ 0 by omega)
    have hm2 := Int.lt_ediv_add_one_mul_self ((lo - lim) * 3600) (show 0 < h by omega)
    refine ⟨by omega, ?_, fun _ => ?_⟩
    · unfold afL
      rw [Int.mul_comm h]
      omega
    · unfold afL
      rw [Int.mul_comm h]
      omega
end Go.Proofs.Ytgcjjnmdbdllhaa
