/- The walks of the small functions: ranged, meet, collide, Collide, hold, By (both), Clear. -/
import Derived.Test.YtmfkkmonedgdnaaProg
import Derived.Test.YtmfkkmonedgdnaaRMath
import Derived.Lib.MinMax
namespace Go.Proofs.Ytmfkkmonedgdnaa
open Go.RowKit
set_option maxHeartbeats 2000000
set_option maxRecDepth 100000
set_option linter.unusedVariables false

theorem box_bel (w : World) (o : Obj) : Below w.heap.size w (w.alloc o) := (Below.refl _ _).alloc (Nat.le_refl _) _
theorem new_cell (w : World) (cs : Array Value) (t : TypeId) (i : Nat) : (w.alloc (.cells cs t)).cell? ⟨w.heap.size, i, none⟩ = cs[i]? := cell_of_row _ w.heap.size i cs t (0, 0) (heap_alloc_new w _)
abbrev hv (a b c d e : Int) : Value := .agg #[.int .i64 a, .int .i64 b, .int .i64 c, .int .i64 d, .int .i64 e]
abbrev wv (d e : Int) : Value := .agg #[.int .i64 d, .int .i64 e]

/-- the block p of the world w holds a reservation -/
def K5 (w : World) (p : Nat) (a b c d e : Int) : Prop := p < w.heap.size ∧ w.cell? ⟨p, 0, none⟩ = some (.int .i64 a) ∧ w.cell? ⟨p, 1, none⟩ = some (.int .i64 b) ∧ w.cell? ⟨p, 2, none⟩ = some (.int .i64 c) ∧ w.cell? ⟨p, 3, none⟩ = some (.int .i64 d) ∧ w.cell? ⟨p, 4, none⟩ = some (.int .i64 e)
theorem K5.bel {w w' : World} {p : Nat} {a b c d e : Int} (h : K5 w p a b c d e) (hb : Below w.heap.size w w') : K5 w' p a b c d e :=
  ⟨Nat.lt_of_lt_of_le h.1 hb.size, (hb.cell (p := ⟨p, 0, none⟩) h.1).trans h.2.1, (hb.cell (p := ⟨p, 1, none⟩) h.1).trans h.2.2.1, (hb.cell (p := ⟨p, 2, none⟩) h.1).trans h.2.2.2.1, (hb.cell (p := ⟨p, 3, none⟩) h.1).trans h.2.2.2.2.1, (hb.cell (p := ⟨p, 4, none⟩) h.1).trans h.2.2.2.2.2⟩
theorem K5.new (w : World) (a b c d e : Int) (t : TypeId) : K5 (w.alloc (.cells #[.int .i64 a, .int .i64 b, .int .i64 c, .int .i64 d, .int .i64 e] t)) w.heap.size a b c d e := ⟨by simp, new_cell w _ t 0, new_cell w _ t 1, new_cell w _ t 2, new_cell w _ t 3, new_cell w _ t 4⟩
theorem K5.alloc {w : World} {p : Nat} {a b c d e : Int} (h : K5 w p a b c d e) (o : Obj) : K5 (w.alloc o) p a b c d e := h.bel (box_bel w o)

/-- the rows of a list that is read -/
theorem FlatRd.at_ {w : World} {A : Option Addr} {n k : Nat} {g : Nat → Nat → Int} (h : FlatRd w A n k g) (hn : 0 < n) : ∃ b o, A = some ⟨b, o, none⟩ ∧ b < w.heap.size := by
  obtain ⟨b', o', h1, h2, h3⟩ := h hn
  exact ⟨b', o', h1, h2⟩
theorem FlatRd.bel {w w' : World} {A : Option Addr} {n k : Nat} {g : Nat → Nat → Int} (h : FlatRd w A n k g) (hb : Below w.heap.size w w') : FlatRd w' A n k g := fun hn => by
  obtain ⟨b, o, h1, h2, h3⟩ := h hn
  exact ⟨b, o, h1, Nat.lt_of_lt_of_le h2 hb.size, fun i hi j hj => (hb.cell (p := ⟨b, _, none⟩) h2).trans (h3 i hi j hj)⟩
theorem FlatRd.drewN {w : World} {A : Option Addr} {n k : Nat} {g : Nat → Nat → Int} (h : FlatRd w A n k g) (m : Nat) : FlatRd (w.drewN m) A n k g := h
theorem FlatRd.row {w : World} {b o n : Nat} {g : Nat → Nat → Int} (h : FlatRd w (some ⟨b, o, none⟩) n 5 g) (i : Nat) (hi : i < n) :
    w.cell? ⟨b, o + i * 5, none⟩ = some (.int .i64 (g i 0)) ∧ w.cell? ⟨b, o + i * 5 + 1, none⟩ = some (.int .i64 (g i 1)) ∧ w.cell? ⟨b, o + i * 5 + 2, none⟩ = some (.int .i64 (g i 2)) ∧ w.cell? ⟨b, o + i * 5 + 3, none⟩ = some (.int .i64 (g i 3)) ∧ w.cell? ⟨b, o + i * 5 + 4, none⟩ = some (.int .i64 (g i 4)) := by
  obtain ⟨b', o', h1, h2, h3⟩ := h (by omega)
  injection h1 with h1; injection h1 with h4 h5; subst h4 h5
  exact ⟨h3 i hi 0 (by omega), h3 i hi 1 (by omega), h3 i hi 2 (by omega), h3 i hi 3 (by omega), h3 i hi 4 (by omega)⟩

theorem ranged27 (a b c d e : Int) (w : World) : Calls Try.prog 27 #[hv a b c d e] w fun x w' => x = .returned (.bool (rngB a b c d e)) ∧ Below w.heap.size w w' := by
  go_enter Try.func27, Try.ntmps27
  go_wp2
  all_goals go_ret
  all_goals exact ⟨ret_bool (by unfold rngB; symm; first | (rw [decide_eq_decide]; omega) | (rw [decide_eq_true_eq]; omega) | (rw [decide_eq_false_iff_not]; omega)), box_bel _ _⟩
theorem meet30 (d e f g : Int) (w : World) : Calls Try.prog 30 #[wv d e, wv f g] w fun x w' => x = .returned (.bool (metB d e f g)) ∧ Below w.heap.size w w' := by
  go_enter Try.func30, Try.ntmps30
  go_wp2
  all_goals go_ret
  all_goals exact ⟨ret_bool (by unfold metB; symm; first | (rw [decide_eq_decide]; omega) | (rw [decide_eq_true_eq]; omega) | (rw [decide_eq_false_iff_not]; omega)), (box_bel _ _).alloc (by simp) _⟩
theorem collide28 (a b c d e a' b' c' d' e' : Int) (w : World) : Calls Try.prog 28 #[hv a b c d e, hv a' b' c' d' e'] w fun x w' => x = .returned (.bool (colB b c d e b' c' d' e')) ∧ Below w.heap.size w w' := by
  by_cases h1 : b = b'
  · have q1 : (b == b') = true := by simpa using h1
    have HQ := Lib.hid (show metB d e d' e' = colB b c d e b' c' d' e' by unfold metB colB; rw [decide_eq_decide]; omega)
    clear h1
    go_enter Try.func28, Try.ntmps28
    go_wp2_with fail
    refine (meet30 _ _ _ _ _).mono ?_
    rw [HQ.out]
    rintro x w1 ⟨rfl, hb0⟩
    have B := Lib.hid (((box_bel w (.cells #[.int .i64 a, .int .i64 b, .int .i64 c, .int .i64 d, .int .i64 e] 26)).alloc (by simp) (.cells #[.int .i64 a', .int .i64 b', .int .i64 c', .int .i64 d', .int .i64 e'] 26)).trans (hb0.mono (by simp; omega)))
    clear hb0
    go_wp2_with fail
    go_ret
    exact ⟨rfl, B.out⟩
  · have q1 : (b == b') = false := by simpa using h1
    by_cases h2 : c = c'
    · have q2 : (c == c') = true := by simpa using h2
      have HQ := Lib.hid (show metB d e d' e' = colB b c d e b' c' d' e' by unfold metB colB; rw [decide_eq_decide]; omega)
      clear h1 h2
      go_enter Try.func28, Try.ntmps28
      go_wp2_with fail
      refine (meet30 _ _ _ _ _).mono ?_
      rw [HQ.out]
      rintro x w1 ⟨rfl, hb0⟩
      have B := Lib.hid (((box_bel w (.cells #[.int .i64 a, .int .i64 b, .int .i64 c, .int .i64 d, .int .i64 e] 26)).alloc (by simp) (.cells #[.int .i64 a', .int .i64 b', .int .i64 c', .int .i64 d', .int .i64 e'] 26)).trans (hb0.mono (by simp; omega)))
      clear hb0
      go_wp2_with fail
      go_ret
      exact ⟨rfl, B.out⟩
    · have q2 : (c == c') = false := by simpa using h2
      have HQ := Lib.hid (show colB b c d e b' c' d' e' = false by unfold colB; rw [decide_eq_false_iff_not]; omega)
      clear h1 h2
      go_enter Try.func28, Try.ntmps28
      go_wp2_with fail
      go_ret
      exact ⟨ret_bool HQ.out.symm, (box_bel _ _).alloc (by simp) _⟩
theorem collide29 (a b c d e a' b' c' d' e' : Int) (w : World) : Calls Try.prog 29 #[hv a b c d e, hv a' b' c' d' e'] w fun x w' => x = .returned (.bool (rcolB b c d e b' c' d' e')) ∧ Below w.heap.size w w' := by
  by_cases h1 : b = b'
  · have q1 : (b == b') = true := by simpa using h1
    have HQ := Lib.hid (show decide (max d d' < min e e') = rcolB b c d e b' c' d' e' by unfold rcolB; rw [decide_eq_decide]; omega)
    clear h1
    go_enter Try.func29, Try.ntmps29
    go_wp2_with fail
    go_ret
    exact ⟨ret_bool HQ.out, (box_bel _ _).alloc (by simp) _⟩
  · have q1 : (b == b') = false := by simpa using h1
    by_cases h2 : c = c'
    · have q2 : (c == c') = true := by simpa using h2
      have HQ := Lib.hid (show decide (max d d' < min e e') = rcolB b c d e b' c' d' e' by unfold rcolB; rw [decide_eq_decide]; omega)
      clear h1 h2
      go_enter Try.func29, Try.ntmps29
      go_wp2_with fail
      go_ret
      exact ⟨ret_bool HQ.out, (box_bel _ _).alloc (by simp) _⟩
    · have q2 : (c == c') = false := by simpa using h2
      have HQ := Lib.hid (show rcolB b c d e b' c' d' e' = false by unfold rcolB; rw [decide_eq_false_iff_not]; omega)
      clear h1 h2
      go_enter Try.func29, Try.ntmps29
      go_wp2_with fail
      go_ret
      exact ⟨ret_bool HQ.out.symm, (box_bel _ _).alloc (by simp) _⟩
theorem hold25 (a b c d e : Int) (w : World) : Calls Try.prog 25 #[.int .i64 a, .int .i64 b, .int .i64 c, .int .i64 d, .int .i64 e] w fun x w' => x = .returned (hv a b c d e) ∧ Below w.heap.size w w' := by
  go_enter Try.func25, Try.ntmps25
  go_wp2_with fail
  refine bodyPost_ret (v := hv a b c d e) (by simp [results, Try.results25, go_sem]) rfl ⟨rfl, ?_⟩
  exact box_bel _ _
end Go.Proofs.Ytmfkkmonedgdnaa
