/- The walks of Lost, of the program and of the reference; of Few and Ints. -/
import Derived.Test.YtnfgbghjdmimgaaProg
import Derived.Test.YtnfgbghjdmimgaaBase
import Derived.Test.YtnfgbghjdmimgaaNest
import Derived.Test.YtnfgbghjdmimgaaGMath
namespace Go.Proofs.Ytnfgbghjdmimgaa
open Go.RowKit
set_option maxHeartbeats 2000000
set_option maxRecDepth 100000
set_option linter.unusedVariables false

/-- where the loop of Lost stands -/
def LostAt (d l0 : Int) (n : Nat) (g : Nat → Int) (k : Nat) (lost lv : Int) : Prop :=
  okB g k = true ∧ 0 ≤ lv ∧ lv ≤ d ∧ 0 ≤ lost ∧ lost ≤ k ∧ lost + lostR d (n - k) (fun i => g (i + k)) lv = lostR d n g l0
theorem LostAt.zero {d l0 : Int} {n : Nat} {g : Nat → Int} (h0 : 0 ≤ l0) (h1 : l0 ≤ d) : LostAt d l0 n g 0 0 l0 := ⟨rfl, h0, h1, Int.le_refl _, Int.le_refl _, Int.zero_add _⟩
theorem LostAt.in_ {d l0 : Int} {n : Nat} {g : Nat → Int} {k : Nat} {lost lv y : Int} (h : LostAt d l0 n g k lost lv) (hk : k < n) (hy : g k = y) (h1 : y = 1 ∨ y = -1) (h2 : 0 ≤ lv + y) (h3 : lv + y ≤ d) : LostAt d l0 n g (k + 1) lost (lv + y) := by
  obtain ⟨a, b, c, e, f, s⟩ := h
  rw [lost_step d n k g lv hk, hy, if_neg (by omega)] at s
  exact ⟨okB_next a (by rw [hy]; exact h1), h2, h3, e, by omega, s⟩
theorem LostAt.out_ {d l0 : Int} {n : Nat} {g : Nat → Int} {k : Nat} {lost lv y : Int} (h : LostAt d l0 n g k lost lv) (hk : k < n) (hy : g k = y) (h1 : y = 1 ∨ y = -1) (h2 : lv + y < 0 ∨ d < lv + y) : LostAt d l0 n g (k + 1) (lost + 1) lv := by
  obtain ⟨a, b, c, e, f, s⟩ := h
  rw [lost_step d n k g lv hk, hy, if_pos h2] at s
  exact ⟨okB_next a (by rw [hy]; exact h1), b, c, by omega, by omega, by rw [← s]; omega⟩
theorem LostAt.end_ {d l0 : Int} {n : Nat} {g : Nat → Int} {lost lv : Int} (h : LostAt d l0 n g n lost lv) : okB g n = true ∧ lost = lostR d n g l0 := by
  obtain ⟨a, b, c, e, f, s⟩ := h
  rw [lost_end] at s
  exact ⟨a, by omega⟩

theorem lost11 (A : Option Addr) (n c : Nat) (g : Nat → Int) (d l : Int) (w : World) (hr : SlI w A n g) (m1 : n ≤ 9223372036854775807) :
    Calls Try.prog 11 #[.int .i64 d, .int .i64 l, .slice A n c] w fun e w' => e = .returned (.tuple #[.int .i64 (valLs d l n g), .int .i64 (codeLs d l n g)]) ∧ Below w.heap.size w w' := by
  have Hr := Lib.hid hr
  clear hr
  by_cases hd : d < 1 ∨ 32 < d ∨ l < 0 ∨ d < l
  · have h1 := Lib.hid (show codeLs d l n g = 1 from if_pos hd)
    have h2 := Lib.hid (show valLs d l n g = 0 by unfold valLs; rw [h1.out]; rfl)
    rcases (show d < 1 ∨ (1 ≤ d ∧ 32 < d) ∨ (1 ≤ d ∧ d ≤ 32 ∧ l < 0) ∨ (1 ≤ d ∧ d ≤ 32 ∧ 0 ≤ l ∧ d < l) by omega) with h | ⟨h, h'⟩ | ⟨h, h', h''⟩ | ⟨h, h', h'', h'''⟩
    all_goals
      clear hd
      go_enter Try.func11, Try.ntmps11
      go_wp2_with fail
      go_ret2
      exact ⟨by rw [h1.out, h2.out]; rfl, Below.refl _ _⟩
  have d1 : 1 ≤ d := by omega
  have d2 : d ≤ 32 := by omega
  have l0 : 0 ≤ l := by omega
  have l1 : l ≤ d := by omega
  have hcode := codeLs_in (n := n) (g := g) d1 d2 l0 l1
  clear hd
  by_cases hn : 64 < n
  · have h1 := Lib.hid (show codeLs d l n g = 8 by rw [hcode]; exact if_pos hn)
    have h2 := Lib.hid (show valLs d l n g = 0 by unfold valLs; rw [h1.out]; rfl)
    clear hcode
    go_enter Try.func11, Try.ntmps11
    go_wp2_with fail
    go_ret2
    exact ⟨by rw [h1.out, h2.out]; rfl, Below.refl _ _⟩
  have Hcode := Lib.hid hcode
  clear hcode
  go_enter Try.func11, Try.ntmps11
  go_wp2_with fail
  go_loopw [31, 1, 8] (fun i a b wr => ∃ (k : Nat) (lost lv : Int), k ≤ n ∧ i = .int .i64 k ∧ a = .int .i64 lv ∧ b = .int .i64 lost ∧ Hid (LostAt d l n g k lost lv) ∧ Hid (Below w.heap.size w wr)) (fun i _ _ _ => n - (intOf i).toNat)
  case atStart => exact ⟨0, 0, l, by omega, rfl, rfl, rfl, Lib.hid (LostAt.zero l0 l1), Lib.hid (Below.refl _ _)⟩
  case round =>
    obtain ⟨k, lost, lv, hk, rfl, rfl, rfl, Ha, Hb⟩ := hrel
    obtain ⟨_, v0, v1, s0, s1, _⟩ := Ha.out
    by_cases hlt : k < n
    · obtain ⟨b, o, rfl, hbw, z⟩ := (Hr.out.bel Hb.out).at_ k hlt
      by_cases hg : g k = 1 ∨ g k = -1
      · have hwl : IntKind.i64.wrap (lost + 1) = lost + 1 := IntWalk.i64_in _ (by omega)
        rcases hg with hg | hg
        · rw [hg] at z
          have Hg := Lib.hid hg
          have hw : IntKind.i64.wrap (lv + 1) = lv + 1 := IntWalk.i64_in _ (by omega)
          clear hg
          by_cases ho : d < lv + 1
          · go_wp2
            go_roundw
            case rel => exact ⟨k + 1, lost + 1, lv, by omega, by go_num, rfl, rfl, Lib.hid (Ha.out.out_ hlt Hg.out (.inl rfl) (.inr ho)), Hb⟩
            case measure => simp [intOf]; omega
          · go_wp2
            go_roundw
            case rel => exact ⟨k + 1, lost, lv + 1, by omega, by go_num, rfl, rfl, Lib.hid (Ha.out.in_ hlt Hg.out (.inl rfl) (by omega) (by omega)), Hb⟩
            case measure => simp [intOf]; omega
        · rw [hg] at z
          have Hg := Lib.hid hg
          have hw : IntKind.i64.wrap (lv + -1) = lv + -1 := IntWalk.i64_in _ (by omega)
          clear hg
          by_cases ho : lv + -1 < 0
          · go_wp2
            go_roundw
            case rel => exact ⟨k + 1, lost + 1, lv, by omega, by go_num, rfl, rfl, Lib.hid (Ha.out.out_ hlt Hg.out (.inr rfl) (.inl ho)), Hb⟩
            case measure => simp [intOf]; omega
          · go_wp2
            go_roundw
            case rel => exact ⟨k + 1, lost, lv + -1, by omega, by go_num, rfl, rfl, Lib.hid (Ha.out.in_ hlt Hg.out (.inr rfl) (by omega) (by omega)), Hb⟩
            case measure => simp [intOf]; omega
      · have h1 := Lib.hid (show codeLs d l n g = 3 by rw [Hcode.out]; unfold errC; rw [if_neg hn, okB_bad hlt hg]; rfl)
        have h2 := Lib.hid (show valLs d l n g = 0 by unfold valLs; rw [h1.out]; rfl)
        have b1 : (g k != 1) = true := by simp; omega
        have b2 : (g k != -1) = true := by simp; omega
        clear hg
        go_wp2
        go_ret2
        exact ⟨by rw [h1.out, h2.out]; rfl, Hb.out⟩
    · have hkn : k = n := by omega
      subst hkn
      obtain ⟨e1, e2⟩ := Ha.out.end_
      have h1 := Lib.hid (show codeLs d l k g = 0 by rw [Hcode.out]; unfold errC; rw [if_neg hn, if_pos e1])
      have h2 := Lib.hid (show valLs d l k g = lost by unfold valLs; rw [if_pos h1.out, e2])
      clear e1 e2
      go_wp2
      go_ret2
      exact ⟨by rw [h1.out, h2.out]; rfl, Hb.out⟩

theorem lost12 (A : Option Addr) (n c : Nat) (g : Nat → Int) (d l : Int) (w : World) (hr : SlI w A n g) (m1 : n ≤ 9223372036854775807) :
    Calls Try.prog 12 #[.int .i64 d, .int .i64 l, .slice A n c] w fun e w' => e = .returned (.tuple #[.int .i64 (valLs d l n g), .int .i64 (codeLs d l n g)]) ∧ Below w.heap.size w w' := by
  have Hr := Lib.hid hr
  clear hr
  by_cases hd : d < 1 ∨ 32 < d ∨ l < 0 ∨ d < l
  · have h1 := Lib.hid (show codeLs d l n g = 1 from if_pos hd)
    have h2 := Lib.hid (show valLs d l n g = 0 by unfold valLs; rw [h1.out]; rfl)
    rcases (show d < 1 ∨ (1 ≤ d ∧ 32 < d) ∨ (1 ≤ d ∧ d ≤ 32 ∧ l < 0) ∨ (1 ≤ d ∧ d ≤ 32 ∧ 0 ≤ l ∧ d < l) by omega) with h | ⟨h, h'⟩ | ⟨h, h', h''⟩ | ⟨h, h', h'', h'''⟩
    all_goals
      clear hd
      go_enter Try.func12, Try.ntmps12
      go_wp2_with fail
      go_ret2
      exact ⟨by rw [h1.out, h2.out]; rfl, Below.refl _ _⟩
  have d1 : 1 ≤ d := by omega
  have d2 : d ≤ 32 := by omega
  have l0 : 0 ≤ l := by omega
  have l1 : l ≤ d := by omega
  have hcode := codeLs_in (n := n) (g := g) d1 d2 l0 l1
  clear hd
  by_cases hn : 64 < n
  · have h1 := Lib.hid (show codeLs d l n g = 8 by rw [hcode]; exact if_pos hn)
    have h2 := Lib.hid (show valLs d l n g = 0 by unfold valLs; rw [h1.out]; rfl)
    clear hcode
    go_enter Try.func12, Try.ntmps12
    go_wp2_with fail
    go_ret2
    exact ⟨by rw [h1.out, h2.out]; rfl, Below.refl _ _⟩
  have Hcode := Lib.hid hcode
  clear hcode
  go_enter Try.func12, Try.ntmps12
  go_wp2_with fail
  go_loopw [9, 1, 8] (fun i a b wr => ∃ (k : Nat) (lost lv : Int), k ≤ n ∧ i = .int .i64 k ∧ a = .int .i64 lv ∧ b = .int .i64 lost ∧ Hid (LostAt d l n g k lost lv) ∧ Hid (Below w.heap.size w wr)) (fun i _ _ _ => n - (intOf i).toNat)
  case atStart => exact ⟨0, 0, l, by omega, rfl, rfl, rfl, Lib.hid (LostAt.zero l0 l1), Lib.hid (Below.refl _ _)⟩
  case round =>
    obtain ⟨k, lost, lv, hk, rfl, rfl, rfl, Ha, Hb⟩ := hrel
    obtain ⟨_, v0, v1, s0, s1, _⟩ := Ha.out
    by_cases hlt : k < n
    · obtain ⟨b, o, rfl, hbw, z⟩ := (Hr.out.bel Hb.out).at_ k hlt
      by_cases hg : g k = 1 ∨ g k = -1
      · have hwl : IntKind.i64.wrap (lost + 1) = lost + 1 := IntWalk.i64_in _ (by omega)
        rcases hg with hg | hg
        · rw [hg] at z
          have Hg := Lib.hid hg
          have hw : IntKind.i64.wrap (lv + 1) = lv + 1 := IntWalk.i64_in _ (by omega)
          clear hg
          by_cases ho : d < lv + 1
          · go_wp2
            go_roundw
            case rel => exact ⟨k + 1, lost + 1, lv, by omega, by go_num, rfl, rfl, Lib.hid (Ha.out.out_ hlt Hg.out (.inl rfl) (.inr ho)), Hb⟩
            case measure => simp [intOf]; omega
          · go_wp2
            go_roundw
            case rel => exact ⟨k + 1, lost, lv + 1, by omega, by go_num, rfl, rfl, Lib.hid (Ha.out.in_ hlt Hg.out (.inl rfl) (by omega) (by omega)), Hb⟩
            case measure => simp [intOf]; omega
        · rw [hg] at z
          have Hg := Lib.hid hg
          have hw : IntKind.i64.wrap (lv + -1) = lv + -1 := IntWalk.i64_in _ (by omega)
          clear hg
          by_cases ho : lv + -1 < 0
          · go_wp2
            go_roundw
            case rel => exact ⟨k + 1, lost + 1, lv, by omega, by go_num, rfl, rfl, Lib.hid (Ha.out.out_ hlt Hg.out (.inr rfl) (.inl ho)), Hb⟩
            case measure => simp [intOf]; omega
          · go_wp2
            go_roundw
            case rel => exact ⟨k + 1, lost, lv + -1, by omega, by go_num, rfl, rfl, Lib.hid (Ha.out.in_ hlt Hg.out (.inr rfl) (by omega) (by omega)), Hb⟩
            case measure => simp [intOf]; omega
      · have h1 := Lib.hid (show codeLs d l n g = 3 by rw [Hcode.out]; unfold errC; rw [if_neg hn, okB_bad hlt hg]; rfl)
        have h2 := Lib.hid (show valLs d l n g = 0 by unfold valLs; rw [h1.out]; rfl)
        have b1 : (g k != 1) = true := by simp; omega
        have b2 : (g k != -1) = true := by simp; omega
        clear hg
        go_wp2
        go_ret2
        exact ⟨by rw [h1.out, h2.out]; rfl, Hb.out⟩
    · have hkn : k = n := by omega
      subst hkn
      obtain ⟨e1, e2⟩ := Ha.out.end_
      have h1 := Lib.hid (show codeLs d l k g = 0 by rw [Hcode.out]; unfold errC; rw [if_neg hn, if_pos e1])
      have h2 := Lib.hid (show valLs d l k g = lost by unfold valLs; rw [if_pos h1.out, e2])
      clear e1 e2
      go_wp2
      go_ret2
      exact ⟨by rw [h1.out, h2.out]; rfl, Hb.out⟩

theorem few13 (A : Option Addr) (n c : Nat) (f : Cs) (most : Int) (w : World) (hr : Elems RowV w A n f) (m1 : n ≤ 9223372036854775807) :
    Calls Try.prog 13 #[.slice A n c, .int .i64 most] w fun e w' => e = .returned (.bool (fewB n f most)) ∧ Below w.heap.size w w' := by
  have Hr := Lib.hid hr
  clear hr
  go_enter Try.func13, Try.ntmps13
  go_wp2_with fail
  go_loopw [5] (fun i wr => ∃ k : Nat, k ≤ n ∧ i = .int .i64 k ∧ Hid (∀ j, j < k → (f j).1 ≤ 100) ∧ Hid (Below w.heap.size w wr)) (fun i _ => n - (intOf i).toNat)
  case atStart => exact ⟨0, by omega, rfl, Lib.hid (fun j hj => by omega), Lib.hid (Below.refl _ _)⟩
  case round =>
    obtain ⟨k, hk, rfl, Hf, Hb⟩ := hrel
    by_cases hlt : k < n
    · obtain ⟨b, o, u, rfl, hbw, z, A2, c2, rfl, _, m2⟩ := (Hr.out.bel rowV_stays Hb.out).at_ k hlt
      by_cases h1 : 100 < (f k).1
      · have h2 := Lib.hid (show fewB n f most = false by unfold fewB; simp only [Bool.and_eq_false_iff, decide_eq_false_iff_not]; exact .inl (fun h => by have := h k hlt; omega))
        go_wp2
        go_ret
        exact ⟨by rw [h2.out]; rfl, Hb.out⟩
      · go_wp2
        go_roundw
        case rel => exact ⟨k + 1, by omega, by go_num, Lib.hid (fun j hj => by rcases Nat.lt_succ_iff_lt_or_eq.1 hj with h | rfl; exact Hf.out j h; omega), Hb⟩
        case measure => simp [intOf]; omega
    · have hkn : k = n := by omega
      subst hkn
      have h2 := Lib.hid (show fewB k f most = decide ((k : Int) ≤ most) by unfold fewB; rw [decide_eq_true Hf.out]; rfl)
      go_wp2
      all_goals
        go_ret
        exact ⟨by rw [h2.out]; simp [*], Hb.out⟩

def sameB (n m : Nat) (f g : Nat → Int) : Bool := decide (n = m ∧ ∀ i, i < n → f i = g i)
theorem ints18 (A B : Option Addr) (n m c1 c2 : Nat) (f g : Nat → Int) (w : World) (ha : SlI w A n f) (hb : SlI w B m g) (m1 : n ≤ 9223372036854775807) (m2 : m ≤ 9223372036854775807) :
    Calls Try.prog 18 #[.slice A n c1, .slice B m c2] w fun e w' => e = .returned (.bool (sameB n m f g)) ∧ Below w.heap.size w w' := by
  have Ha := Lib.hid ha
  have Hb := Lib.hid hb
  clear ha hb
  by_cases h0 : n = m
  case neg =>
    have h1 : sameB n m f g = false := by simp [sameB, h0]
    go_enter Try.func18, Try.ntmps18
    go_wp2
    go_ret
    exact ⟨ret_bool h1.symm, Below.refl _ _⟩
  subst h0
  go_enter Try.func18, Try.ntmps18
  go_wp2
  go_loopw [5] (fun i wr => ∃ k : Nat, k ≤ n ∧ i = .int .i64 k ∧ Hid (∀ j, j < k → f j = g j) ∧ Hid (Below w.heap.size w wr)) (fun i _ => n - (intOf i).toNat)
  case atStart => exact ⟨0, by omega, rfl, Lib.hid (fun j hj => absurd hj (by omega)), Lib.hid (Below.refl _ _)⟩
  case round =>
    obtain ⟨k, hk, rfl, hg, hbel⟩ := hrel
    by_cases hlt : k < n
    · obtain ⟨b1, o1, rfl, _, hc1⟩ := (Ha.out.bel hbel.out).at_ k hlt
      obtain ⟨b2, o2, rfl, _, hc2⟩ := (Hb.out.bel hbel.out).at_ k hlt
      go_wp2
      go_quiet (fail)
      go_wp2
      · go_ret
        have h5 : (f k != g k) = true := by assumption
        have h1 : sameB n n f g = false := by
          simp only [bne_iff_ne] at h5
          simp only [sameB, decide_eq_false_iff_not]; rintro ⟨_, h⟩; exact h5 (h k hlt)
        exact ⟨ret_bool h1.symm, below_drewN hbel.out _⟩
      · go_roundw
        have h5 : (f k != g k) = false := by assumption
        case rel => exact ⟨k + 1, by omega, by go_num, Lib.hid (fun j hj => by rcases Nat.lt_succ_iff_lt_or_eq.1 hj with h | rfl; exact hg.out j h; simpa using h5), Lib.hid (below_drewN hbel.out _)⟩
        case measure => simp [intOf]; omega
    · go_wp2
      go_ret
      have hkn : k = n := by omega
      subst hkn
      have h1 : sameB k k f g = true := by simp [sameB]; exact hg.out
      exact ⟨ret_bool h1.symm, hbel.out⟩
end Go.Proofs.Ytnfgbghjdmimgaa
