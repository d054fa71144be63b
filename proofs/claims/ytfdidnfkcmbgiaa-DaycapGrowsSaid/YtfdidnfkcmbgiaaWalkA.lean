/- The walks of the functions that only read: in, from, check, Check, Same. -/
import Derived.Test.YtfdidnfkcmbgiaaProg
import Derived.Test.YtfdidnfkcmbgiaaBase
namespace Go.Proofs.Ytfdidnfkcmbgiaa
open Go.RowKit
set_option maxHeartbeats 400000
set_option linter.unusedVariables false
def inB (n lo hi : Int) : Bool := decide (lo ≤ n) && decide (n ≤ hi)
theorem in_any (n lo hi : Int) (w : World) :
    Calls Try.prog 22 #[.int .i64 n, .int .i64 lo, .int .i64 hi] w fun e w' => e = .returned (.bool (inB n lo hi)) ∧ w = w' := by
  go_enter Try.func22, Try.ntmps22
  go_wp2
  all_goals go_ret
  all_goals (unfold inB; simp [*])
  omega
theorem from_any (n hi : Int) (w : World) :
    Calls Try.prog 21 #[.int .i64 n, .int .i64 hi] w fun e w' => e = .returned (.bool (inB n 0 hi)) ∧ w = w' := by
  go_enter Try.func21, Try.ntmps21
  go_wp2
  all_goals go_ret
  all_goals (unfold inB; simp [*])
  omega
def sameB (n m : Nat) (f g : Nat → Int) : Bool := decide (n = m ∧ ∀ i, i < n → f i = g i)
theorem same_any (A B : Option Addr) (n m c1 c2 : Nat) (f g : Nat → Int) (w : World) (ha : SlI w A n f) (hb : SlI w B m g) (m1 : n ≤ 9223372036854775807) (m2 : m ≤ 9223372036854775807) :
    Calls Try.prog 12 #[.slice A n c1, .slice B m c2] w fun e w' => e = .returned (.bool (sameB n m f g)) ∧ Below w.heap.size w w' := by
  have Ha := Lib.hid ha
  have Hb := Lib.hid hb
  clear ha hb
  by_cases h0 : n = m
  case neg =>
    have h1 : sameB n m f g = false := by simp [sameB, h0]
    go_enter Try.func12, Try.ntmps12
    go_wp2
    go_ret
    exact ⟨ret_bool h1.symm, Below.refl _ _⟩
  subst h0
  go_enter Try.func12, Try.ntmps12
  go_wp2
  go_loopw [5] (fun i wr => ∃ k : Nat, k ≤ n ∧ i = .int .i64 k ∧ Hid (∀ j, j < k → f j = g j) ∧ Hid (Below w.heap.size w wr)) (fun i _ => n - (intOf i).toNat)
  case atStart => exact ⟨0, by omega, rfl, Lib.hid (fun j hj => absurd hj (by omega)), Lib.hid (Below.refl _ _)⟩
  case round =>
    obtain ⟨k, hk, rfl, hg, hbel⟩ := hrel
    by_cases hlt : k < n
    · obtain ⟨b1, o1, rfl, _, hc1⟩ := (Ha.out.bel hbel.out).at_ k hlt
      obtain ⟨b2, o2, rfl, _, hc2⟩ := (Hb.out.bel hbel.out).at_ k hlt
      go_wp2
      go_quiet (fail)
      go_wp2
      · go_ret
        have h5 : (f k != g k) = true := by assumption
        have h1 : sameB n n f g = false := by
          simp only [bne_iff_ne] at h5
          simp only [sameB, decide_eq_false_iff_not]; rintro ⟨_, h⟩; exact h5 (h k hlt)
        exact ⟨ret_bool h1.symm, below_drewN hbel.out _⟩
      · go_roundw
        have h5 : (f k != g k) = false := by assumption
        case rel => exact ⟨k + 1, by omega, by go_num, Lib.hid (fun j hj => by rcases Nat.lt_succ_iff_lt_or_eq.1 hj with h | rfl; exact hg.out j h; simpa using h5), Lib.hid (below_drewN hbel.out _)⟩
        case measure => simp [intOf]; omega
    · go_wp2
      go_ret
      have hg2 := hg.out
      have h1 : sameB n n f g = true := by simp only [sameB, decide_eq_true_eq]; exact ⟨trivial, fun j hj => hg2 j (by omega)⟩
      exact ⟨ret_bool h1.symm, hbel.out⟩

def good (r d a : Nat → Int) (i : Nat) : Bool := inB (r i) 0 127 && inB (d i) 0 49709 && inB (a i) 0 1000000000000
def chk (lim : Int) (nr nd na : Nat) (r d a : Nat → Int) : Int :=
  if inB lim 0 1000000000000 = false then 1 else if nr ≠ nd ∨ nr ≠ na then 3 else if 256 < nr then 8 else if ∀ i, i < nr → good r d a i = true then 0 else 1
theorem chk_bad {lim : Int} {n : Nat} {r d a : Nat → Int} (h1 : inB lim 0 1000000000000 = true) (m4 : n ≤ 256) (k : Nat) (hk : k < n) (h : good r d a k = false) : chk lim n n n r d a = 1 := by
  unfold chk
  rw [if_neg (by simp [h1]), if_neg (by omega), if_neg (by omega), if_neg (fun g => by rw [g k hk] at h; cases h)]
theorem chk_ok {lim : Int} {n : Nat} {r d a : Nat → Int} (h1 : inB lim 0 1000000000000 = true) (m4 : n ≤ 256) (h : ∀ k, k < n → good r d a k = true) : chk lim n n n r d a = 0 := by
  unfold chk
  rw [if_neg (by simp [h1]), if_neg (by omega), if_neg (by omega), if_pos h]

theorem check_any (lim : Int) (A B C : Option Addr) (nr nd na c1 c2 c3 : Nat) (r d a : Nat → Int) (w : World) (hr : SlI w A nr r) (hd : SlI w B nd d) (ha : SlI w C na a)
   (m1 : nr ≤ 9223372036854775807) (m2 : nd ≤ 9223372036854775807) (m3 : na ≤ 9223372036854775807) :
    Calls Try.prog 19 #[.int .i64 lim, .slice A nr c1, .slice B nd c2, .slice C na c3] w fun e w' => e = .returned (.int .i64 (chk lim nr nd na r d a)) ∧ w = w' := by
  have Hr := Lib.hid hr
  have Hd := Lib.hid hd
  have Ha := Lib.hid ha
  clear hr hd ha
  by_cases h1 : inB lim 0 1000000000000 = true
  case neg =>
    go_enter Try.func19, Try.ntmps19
    go_wp2_with (go_at_call 22; refine (in_any _ _ _ _).mono ?_; rintro e w' ⟨rfl, rfl⟩)
    go_ret
    simp [chk, h1]
  by_cases h2 : nr = nd
  case neg =>
    go_enter Try.func19, Try.ntmps19
    go_wp2_with (go_at_call 22; refine (in_any _ _ _ _).mono ?_; rintro e w' ⟨rfl, rfl⟩)
    go_ret
    simp [chk, h1, h2]
  by_cases h3 : nr = na
  case neg =>
    subst h2
    go_enter Try.func19, Try.ntmps19
    go_wp2_with (go_at_call 22; refine (in_any _ _ _ _).mono ?_; rintro e w' ⟨rfl, rfl⟩)
    go_ret
    simp [chk, h1, h3]
  subst h2
  subst h3
  by_cases h4 : 256 < nr
  · go_enter Try.func19, Try.ntmps19
    go_wp2_with (go_at_call 22; refine (in_any _ _ _ _).mono ?_; rintro e w' ⟨rfl, rfl⟩)
    go_ret
    simp [chk, h1, h4]
  · have m4 : nr ≤ 256 := by omega
    clear h4
    go_enter Try.func19, Try.ntmps19
    go_wp2_with (go_at_call 22; refine (in_any _ _ _ _).mono ?_; rintro e w' ⟨rfl, rfl⟩)
    go_loop [33] (fun i => ∃ k : Nat, k ≤ nr ∧ i = .int .i64 k ∧ Hid (∀ j, j < k → good r d a j = true)) (fun i => nr - (intOf i).toNat)
    case atStart => exact ⟨0, by omega, rfl, Lib.hid (fun j hj => absurd hj (by omega))⟩
    case round =>
      obtain ⟨k, hk, rfl, hg⟩ := hrel
      by_cases hlt : k < nr
      · obtain ⟨b1, o1, rfl, _, hr2⟩ := Hr.out.at_ k hlt
        obtain ⟨b2, o2, rfl, _, hd2⟩ := Hd.out.at_ k hlt
        obtain ⟨b3, o3, rfl, _, ha2⟩ := Ha.out.at_ k hlt
        go_wp2_with (go_at_call 22; refine (in_any _ _ _ _).mono ?_; rintro e w' ⟨rfl, rfl⟩)
        · go_ret
          have h5 : (!inB (a k) 0 1000000000000) = true := by assumption
          have hb : good r d a k = false := by simp only [Bool.not_eq_true'] at h5; simp [good, h5]
          exact ⟨ret_int (by rw [chk_bad h1 m4 k hlt hb]), rfl⟩
        · go_round
          have h3 : inB (r k) 0 127 = true := by assumption
          have h4 : inB (d k) 0 49709 = true := by assumption
          have h5 : (!inB (a k) 0 1000000000000) = false := by assumption
          have hb : good r d a k = true := by simp only [Bool.not_eq_false'] at h5; simp [good, h3, h4, h5]
          case rel => exact ⟨k + 1, by omega, by go_num, Lib.hid (fun j hj => by rcases Nat.lt_succ_iff_lt_or_eq.1 hj with h | rfl; exact hg.out j h; exact hb)⟩
          case measure => simp [intOf]; omega
        · go_ret
          have h5 : ¬ inB (d k) 0 49709 = true := by assumption
          have hb : good r d a k = false := by simp at h5; simp [good, h5]
          exact ⟨ret_int (by rw [chk_bad h1 m4 k hlt hb]), rfl⟩
        · go_ret
          have h5 : ¬ inB (r k) 0 127 = true := by assumption
          have hb : good r d a k = false := by simp at h5; simp [good, h5]
          exact ⟨ret_int (by rw [chk_bad h1 m4 k hlt hb]), rfl⟩
      · go_wp2
        go_ret
        have hg2 := hg.out
        exact ⟨ret_int (by rw [chk_ok h1 m4 (fun j hj => hg2 j (by omega))]), rfl⟩

theorem rcheck_any (lim : Int) (A B C : Option Addr) (nr nd na c1 c2 c3 : Nat) (r d a : Nat → Int) (w : World) (hr : SlI w A nr r) (hd : SlI w B nd d) (ha : SlI w C na a)
   (m1 : nr ≤ 9223372036854775807) (m2 : nd ≤ 9223372036854775807) (m3 : na ≤ 9223372036854775807) :
    Calls Try.prog 18 #[.int .i64 lim, .slice A nr c1, .slice B nd c2, .slice C na c3] w fun e w' => e = .returned (.int .i64 (chk lim nr nd na r d a)) ∧ w = w' := by
  have Hr := Lib.hid hr
  have Hd := Lib.hid hd
  have Ha := Lib.hid ha
  clear hr hd ha
  by_cases h1 : inB lim 0 1000000000000 = true
  case neg =>
    go_enter Try.func18, Try.ntmps18
    go_wp2_with (go_at_call 21; refine (from_any _ _ _).mono ?_; rintro e w' ⟨rfl, rfl⟩)
    go_ret
    simp [chk, h1]
  by_cases h2 : nr = nd
  case neg =>
    go_enter Try.func18, Try.ntmps18
    go_wp2_with (go_at_call 21; refine (from_any _ _ _).mono ?_; rintro e w' ⟨rfl, rfl⟩)
    go_ret
    simp [chk, h1, h2]
  by_cases h3 : nr = na
  case neg =>
    subst h2
    go_enter Try.func18, Try.ntmps18
    go_wp2_with (go_at_call 21; refine (from_any _ _ _).mono ?_; rintro e w' ⟨rfl, rfl⟩)
    go_ret
    simp [chk, h1, h3]
  subst h2
  subst h3
  by_cases h4 : 256 < nr
  · go_enter Try.func18, Try.ntmps18
    go_wp2_with (go_at_call 21; refine (from_any _ _ _).mono ?_; rintro e w' ⟨rfl, rfl⟩)
    go_ret
    simp [chk, h1, h4]
  · have m4 : nr ≤ 256 := by omega
    clear h4
    go_enter Try.func18, Try.ntmps18
    go_wp2_with (go_at_call 21; refine (from_any _ _ _).mono ?_; rintro e w' ⟨rfl, rfl⟩)
    go_loop [9] (fun i => ∃ k : Nat, k ≤ nr ∧ i = .int .i64 k ∧ Hid (∀ j, j < k → good r d a j = true)) (fun i => nr - (intOf i).toNat)
    case atStart => exact ⟨0, by omega, rfl, Lib.hid (fun j hj => absurd hj (by omega))⟩
    case round =>
      obtain ⟨k, hk, rfl, hg⟩ := hrel
      by_cases hlt : k < nr
      · obtain ⟨b1, o1, rfl, _, hr2⟩ := Hr.out.at_ k hlt
        obtain ⟨b2, o2, rfl, _, hd2⟩ := Hd.out.at_ k hlt
        obtain ⟨b3, o3, rfl, _, ha2⟩ := Ha.out.at_ k hlt
        go_wp2_with (go_at_call 21; refine (from_any _ _ _).mono ?_; rintro e w' ⟨rfl, rfl⟩)
        · go_ret
          have h5 : (!inB (a k) 0 1000000000000) = true := by assumption
          have hb : good r d a k = false := by simp only [Bool.not_eq_true'] at h5; simp [good, h5]
          exact ⟨ret_int (by rw [chk_bad h1 m4 k hlt hb]), rfl⟩
        · go_round
          have h3 : inB (r k) 0 127 = true := by assumption
          have h4 : inB (d k) 0 49709 = true := by assumption
          have h5 : (!inB (a k) 0 1000000000000) = false := by assumption
          have hb : good r d a k = true := by simp only [Bool.not_eq_false'] at h5; simp [good, h3, h4, h5]
          case rel => exact ⟨k + 1, by omega, by go_num, Lib.hid (fun j hj => by rcases Nat.lt_succ_iff_lt_or_eq.1 hj with h | rfl; exact hg.out j h; exact hb)⟩
          case measure => simp [intOf]; omega
        · go_ret
          have h5 : ¬ inB (d k) 0 49709 = true := by assumption
          have hb : good r d a k = false := by simp at h5; simp [good, h5]
          exact ⟨ret_int (by rw [chk_bad h1 m4 k hlt hb]), rfl⟩
        · go_ret
          have h5 : ¬ inB (r k) 0 127 = true := by assumption
          have hb : good r d a k = false := by simp at h5; simp [good, h5]
          exact ⟨ret_int (by rw [chk_bad h1 m4 k hlt hb]), rfl⟩
      · go_wp2
        go_ret
        have hg2 := hg.out
        exact ⟨ret_int (by rw [chk_ok h1 m4 (fun j hj => hg2 j (by omega))]), rfl⟩
end Go.Proofs.Ytfdidnfkcmbgiaa
