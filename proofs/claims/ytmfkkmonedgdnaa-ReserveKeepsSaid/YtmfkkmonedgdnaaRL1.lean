/- The walks of the laws ReserveMakes, ReserveEnds, ReserveAsks. -/
import Derived.Test.YtmfkkmonedgdnaaRM
import Derived.Test.YtmfkkmonedgdnaaRK
namespace Go.Proofs.Ytmfkkmonedgdnaa
open Go.RowKit
set_option maxHeartbeats 4000000
set_option maxRecDepth 100000
set_option linter.unusedVariables false

theorem same_refl (n : Nat) (g : Nat → Nat → Int) : sameB n n g g = true := sameB_t rfl (fun i hi => ⟨rfl, rfl, rfl, rfl, rfl⟩)
theorem mkN_le (n : Nat) (E : Int) : mkN n E ≤ n + 1 := by unfold mkN; split <;> omega
theorem enN_le (n : Nat) (g : Nat → Nat → Int) (id t E : Int) : enN n g id t E ≤ n := by unfold enN; split <;> (try split) <;> omega

theorem law3_any (A : Option Addr) (n c : Nat) (g : Nat → Nat → Int) (a b d e f : Int) (w : World) (hr : FlatRd w A n 5 g) (m1 : n ≤ 9223372036854775807) (hnc : n ≤ c) (hA : A = none → c = 0) :
    Calls Try.prog 3 #[.slice A n c, hv a b d e f] w fun x w' => x = .returned (.bool true) ∧ Below w.heap.size w w' := by
  have Hr := Lib.hid hr
  clear hr
  have B0 := Lib.hid (box_bel w (.cells #[.int .i64 a, .int .i64 b, .int .i64 d, .int .i64 e, .int .i64 f] 26))
  have K0 := Lib.hid (K5.new w a b d e f 26)
  by_cases hf : n ≤ 60 ∨ (512 < n ∧ n ≤ 520)
  case neg =>
    have qf : decide (n ≤ 60 ∨ (512 < n ∧ n ≤ 520)) = false := decide_eq_false hf
    clear hf
    go_enter Try.func3, Try.ntmps3
    go_wp2_with fail
    refine (few10 A n c _).mono ?_
    rw [qf]
    rintro x w1 ⟨rfl, rfl⟩
    go_wp2_with fail
    refine (awake_any _).mono ?_
    rintro x w2 ⟨rfl, hb0⟩
    have B1 := Lib.hid (bel_tr B0.out hb0 (Nat.le_refl _))
    clear hb0
    go_wp2_with fail
    go_ret
    exact ⟨rfl, B1.out⟩
  have qf : decide (n ≤ 60 ∨ (512 < n ∧ n ≤ 520)) = true := decide_eq_true hf
  have hn : n ≤ 520 := by omega
  clear hf
  obtain ⟨E, hE⟩ : ∃ E, E = mkE n g a b d e f := ⟨_, rfl⟩
  obtain ⟨N, hN⟩ : ∃ N, N = mkN n E := ⟨_, rfl⟩
  have hN2 : N ≤ 521 := by rw [hN]; have := mkN_le n E; omega
  have HE := Lib.hid hE.symm
  have HN := Lib.hid hN.symm
  clear hE hN
  go_enter Try.func3, Try.ntmps3
  go_wp2_with fail
  refine (few10 A n c _).mono ?_
  rw [qf]
  rintro x w1 ⟨rfl, rfl⟩
  go_wp2_with fail
  refine (make12 A n c g a b d e f _ (Hr.out.bel B0.out) m1 hnc).mono ?_
  rw [HE.out, HN.out]
  rintro x w2 ⟨⟨A1, c1, rfl, hrd, hc1⟩, hb0⟩
  have B1 := Lib.hid (bel_tr B0.out hb0 (Nat.le_refl _))
  have K1 := Lib.hid (K0.out.bel hb0)
  have R1 := Lib.hid hrd
  clear hb0 hrd B0 K0
  obtain ⟨z, k0, k1, k2, k3, k4⟩ := K1.out
  go_wp2_with fail
  refine (make13 A n c g a b d e f _ (Hr.out.bel B1.out) m1 hA).mono ?_
  rw [HE.out, HN.out]
  rintro x w3 ⟨⟨A2, c2, rfl, hrd, hc2⟩, hb0⟩
  have B2 := Lib.hid (bel_tr B1.out hb0 (Nat.le_refl _))
  have R1' := Lib.hid (R1.out.bel hb0)
  have R2 := Lib.hid hrd
  clear hb0 hrd B1 K1 R1 z k0 k1 k2 k3 k4
  go_wp2_with fail
  refine (check14 A n c g _ (Hr.out.bel B2.out) m1 hnc).mono ?_
  rintro x w4 ⟨rfl, hb0⟩
  have B3 := Lib.hid (bel_tr B2.out hb0 (Nat.le_refl _))
  have R3 := Lib.hid (R1'.out.bel hb0)
  have R4 := Lib.hid (R2.out.bel hb0)
  clear hb0 R1' R2 B2
  go_wp2_with fail
  refine (check15 A n c g _ (Hr.out.bel B3.out) m1).mono ?_
  rintro x w5 ⟨rfl, hb0⟩
  have B4 := Lib.hid (bel_tr B3.out hb0 (Nat.le_refl _))
  have R5 := Lib.hid (R3.out.bel hb0)
  have R6 := Lib.hid (R4.out.bel hb0)
  clear hb0 R3 R4 B3
  go_wp2_with fail
  refine (same16 A1 A2 N c1 N c2 (addG n g a b d e f) (addG n g a b d e f) _ R5.out R6.out (by omega) (by omega)).mono ?_
  rw [same_refl]
  rintro x w6 ⟨rfl, hb0⟩
  have B5 := Lib.hid (bel_tr B4.out hb0 (Nat.le_refl _))
  clear hb0 B4
  go_wp2_with fail
  refine (awake_any _).mono ?_
  rintro x w7 ⟨rfl, hb0⟩
  have B6 := Lib.hid (bel_tr B5.out hb0 (Nat.le_refl _))
  clear hb0
  go_wp2_with fail
  go_ret
  exact ⟨by first | rfl | simp, B6.out⟩

theorem law4_any (A : Option Addr) (n c : Nat) (g : Nat → Nat → Int) (id t : Int) (w : World) (hr : FlatRd w A n 5 g) (m1 : n ≤ 9223372036854775807) (hnc : n ≤ c) :
    Calls Try.prog 4 #[.slice A n c, .int .i64 id, .int .i64 t] w fun x w' => x = .returned (.bool true) ∧ Below w.heap.size w w' := by
  have Hr := Lib.hid hr
  clear hr
  by_cases hf : n ≤ 60 ∨ (512 < n ∧ n ≤ 520)
  case neg =>
    have qf : decide (n ≤ 60 ∨ (512 < n ∧ n ≤ 520)) = false := decide_eq_false hf
    clear hf
    go_enter Try.func4, Try.ntmps4
    go_wp2_with fail
    refine (few10 A n c _).mono ?_
    rw [qf]
    rintro x w1 ⟨rfl, rfl⟩
    go_wp2_with fail
    refine (awake_any _).mono ?_
    rintro x w2 ⟨rfl, hb0⟩
    have B1 := Lib.hid hb0
    clear hb0
    go_wp2_with fail
    go_ret
    exact ⟨rfl, B1.out⟩
  have qf : decide (n ≤ 60 ∨ (512 < n ∧ n ≤ 520)) = true := decide_eq_true hf
  have hn : n ≤ 520 := by omega
  clear hf
  obtain ⟨E, hE⟩ : ∃ E, E = endE n g id t := ⟨_, rfl⟩
  obtain ⟨N, hN⟩ : ∃ N, N = enN n g id t E := ⟨_, rfl⟩
  have hN2 : N ≤ 521 := by rw [hN]; have := enN_le n g id t E; omega
  have HE := Lib.hid hE.symm
  have HN := Lib.hid hN.symm
  clear hE hN
  go_enter Try.func4, Try.ntmps4
  go_wp2_with fail
  refine (few10 A n c _).mono ?_
  rw [qf]
  rintro x w1 ⟨rfl, rfl⟩
  go_wp2_with fail
  refine (end17 A n c g id t _ Hr.out m1 hnc).mono ?_
  rw [HE.out, HN.out]
  rintro x w2 ⟨⟨A1, c1, rfl, hrd, hc1⟩, hb0⟩
  have B1 := Lib.hid hb0
  have R1 := Lib.hid hrd
  clear hb0 hrd
  go_wp2_with fail
  refine (end18 A n c g id t _ (Hr.out.bel B1.out) m1).mono ?_
  rw [HE.out, HN.out]
  rintro x w3 ⟨⟨A2, c2, rfl, hrd, hc2⟩, hb0⟩
  have B2 := Lib.hid (bel_tr B1.out hb0 (Nat.le_refl _))
  have R3 := Lib.hid (R1.out.bel hb0)
  have R4 := Lib.hid hrd
  clear hb0 hrd B1 R1
  go_wp2_with fail
  refine (same16 A1 A2 N c1 N c2 (enG n g id t) (enG n g id t) _ R3.out R4.out (by omega) (by omega)).mono ?_
  rw [same_refl]
  rintro x w6 ⟨rfl, hb0⟩
  have B5 := Lib.hid (bel_tr B2.out hb0 (Nat.le_refl _))
  clear hb0 B2
  go_wp2_with fail
  refine (awake_any _).mono ?_
  rintro x w7 ⟨rfl, hb0⟩
  have B6 := Lib.hid (bel_tr B5.out hb0 (Nat.le_refl _))
  clear hb0
  go_wp2_with fail
  go_ret
  exact ⟨by first | rfl | simp, B6.out⟩

theorem arr2 {w w1 : World} {x y : Value} {t : TypeId} (h : Below (w.alloc (.cells #[x, y] t)).heap.size (w.alloc (.cells #[x, y] t)) w1) : w1.cell? ⟨w.heap.size, 0, none⟩ = some x ∧ w1.cell? ⟨w.heap.size, 1, none⟩ = some y := by
  have h1 := fun i => (h.cell (p := ⟨w.heap.size, i, none⟩) (by simp)).trans (new_cell w #[x, y] t i)
  exact ⟨h1 0, h1 1⟩
theorem law5_any (A : Option Addr) (n c : Nat) (g : Nat → Nat → Int) (bike t s : Int) (w : World) (hr : FlatRd w A n 5 g) (m1 : n ≤ 9223372036854775807) (hnc : n ≤ c) :
    Calls Try.prog 5 #[.slice A n c, .int .i64 bike, .agg #[.int .i64 t, .int .i64 s]] w fun x w' => x = .returned (.bool true) ∧ Below w.heap.size w w' := by
  have Hr := Lib.hid hr
  clear hr
  have B0 := Lib.hid (box_bel w (.cells #[.int .i64 t, .int .i64 s] 37))
  by_cases hf : n ≤ 60 ∨ (512 < n ∧ n ≤ 520)
  case neg =>
    have qf : decide (n ≤ 60 ∨ (512 < n ∧ n ≤ 520)) = false := decide_eq_false hf
    clear hf
    go_enter Try.func5, Try.ntmps5
    go_wp2_with fail
    refine (few10 A n c _).mono ?_
    rw [qf]
    rintro x w1 ⟨rfl, rfl⟩
    go_wp2_with fail
    refine (awake_any _).mono ?_
    rintro x w2 ⟨rfl, hb0⟩
    have B1 := Lib.hid (bel_tr B0.out hb0 (Nat.le_refl _))
    clear hb0
    go_wp2_with fail
    go_ret
    exact ⟨rfl, B1.out⟩
  have qf : decide (n ≤ 60 ∨ (512 < n ∧ n ≤ 520)) = true := decide_eq_true hf
  clear hf
  go_enter Try.func5, Try.ntmps5
  go_wp2_with fail
  refine (few10 A n c _).mono ?_
  rw [qf]
  rintro x w1 ⟨rfl, rfl⟩
  go_wp2_with fail
  refine (by19 A n c g bike t _ (Hr.out.bel B0.out) m1).mono ?_
  rintro x w2 ⟨rfl, hb0⟩
  have H1 := Lib.hid hb0
  clear hb0
  have B1 := Lib.hid (bel_tr B0.out H1.out (Nat.le_refl _))
  obtain ⟨k0, k1⟩ := arr2 H1.out
  go_wp2_with fail
  refine (by20 A n c g bike t _ (Hr.out.bel B1.out) m1).mono ?_
  rintro x w3 ⟨rfl, hb0⟩
  have H2 := Lib.hid (bel_tr H1.out hb0 (Nat.le_refl _))
  have B2 := Lib.hid (bel_tr B1.out hb0 (Nat.le_refl _))
  clear hb0 H1 B1 k0 k1
  obtain ⟨k0, k1⟩ := arr2 H2.out
  go_wp2_with fail
  refine (next21 A n c g bike t s _ (Hr.out.bel B2.out) m1 hnc).mono ?_
  rintro x w4 ⟨rfl, hb0⟩
  have H3 := Lib.hid (bel_tr H2.out hb0 (Nat.le_refl _))
  have B3 := Lib.hid (bel_tr B2.out hb0 (Nat.le_refl _))
  clear hb0 H2 B2 k0 k1
  obtain ⟨k0, k1⟩ := arr2 H3.out
  go_wp2_with fail
  refine (next22 A n c g bike t s _ (Hr.out.bel B3.out) m1).mono ?_
  rintro x w5 ⟨rfl, hb0⟩
  have B4 := Lib.hid (bel_tr B3.out hb0 (Nat.le_refl _))
  clear hb0 H3 B3 k0 k1
  go_wp2_with fail
  refine (awake_any _).mono ?_
  rintro x w6 ⟨rfl, hb0⟩
  have B5 := Lib.hid (bel_tr B4.out hb0 (Nat.le_refl _))
  clear hb0
  go_wp2_with fail
  go_ret
  exact ⟨by first | rfl | simp, B5.out⟩
end Go.Proofs.Ytmfkkmonedgdnaa
