/- The walks of Plain and awake. -/
import Derived.Test.YtcmlipcgcjlopaaTF
namespace Go.Proofs.Ytcmlipcgcjlopaa
open Go.RowKit
set_option maxHeartbeats 2000000
set_option maxRecDepth 100000
set_option linter.unusedVariables false

theorem plain22 (w : World) : Calls Try.prog 22 #[] w fun e w' => e = .returned (tv 0 100 60 120 15 5) ∧ Below w.heap.size w w' := by
  go_enter Try.func22, Try.ntmps22
  go_wp2
  refine bodyPost_ret (v := tv 0 100 60 120 15 5) (by simp [results, Try.results22, go_sem]) rfl ⟨rfl, box_bel _ _⟩

def twoG : Nat → Nat → Int := fun i j => ([[0, 100, 60, 120, 15, 5], [1000, 100, 60, 120, 15, 5]].getD i []).getD j 0
theorem two_rd (w : World) (m : Nat) (hm : m = w.heap.size) : FlatRd (w.alloc (.cells #[.int .i64 0, .int .i64 100, .int .i64 60, .int .i64 120, .int .i64 15, .int .i64 5, .int .i64 1000, .int .i64 100, .int .i64 60, .int .i64 120, .int .i64 15, .int .i64 5] 30)) (some ⟨m, 0, none⟩) 2 6 twoG := fun _ => by
  subst hm
  refine ⟨_, 0, rfl, by simp, fun i hi j hj => ?_⟩
  rw [new_cell]
  match i, hi, j, hj with
  | 0, _, 0, _ => rfl
  | 0, _, 1, _ => rfl
  | 0, _, 2, _ => rfl
  | 0, _, 3, _ => rfl
  | 0, _, 4, _ => rfl
  | 0, _, 5, _ => rfl
  | 1, _, 0, _ => rfl
  | 1, _, 1, _ => rfl
  | 1, _, 2, _ => rfl
  | 1, _, 3, _ => rfl
  | 1, _, 4, _ => rfl
  | 1, _, 5, _ => rfl
theorem xe1 : valT (oneT 100 60 120 15 5) 120 (costT 60 (120 - 120) 15) = 0 ∧ codeT (oneT 100 60 120 15 5) 120 (costT 60 (120 - 120) 15) = 0 := by decide
theorem xe2 : valT (oneT 100 60 120 15 5) 121 (costT 60 (121 - 120) 15) = 15 ∧ codeT (oneT 100 60 120 15 5) 121 (costT 60 (121 - 120) 15) = 0 := by decide
theorem xe3 : valT (oneT 100 60 120 15 5) 181 (costT 60 (181 - 120) 15) = 30 ∧ codeT (oneT 100 60 120 15 5) 181 (costT 60 (181 - 120) 15) = 0 := by decide
theorem xe4 : valL (oneT 100 60 120 15 5) 29 60 120 15 = 180 ∧ codeL (oneT 100 60 120 15 5) 29 = 0 := by decide
theorem xe5 : valA 2 twoG 999 = 0 ∧ codeA 2 twoG 999 = 0 := by decide
theorem xe6 : valA 2 twoG 1000 = 1 ∧ codeA 2 twoG 1000 = 0 := by decide
theorem xe7 : valT (oneT 100 60 120 15 5) 61 (costT 60 61 5) = 10 ∧ codeT (oneT 100 60 120 15 5) 61 (costT 60 61 5) = 0 := by decide

/-- two blocks of the call's own, still there -/
theorem own_two {w w0 w1 : World} {g : Nat} {A B : Array Value} {ta tb : TypeId} (hA : w0.heap[g]? = some (.cells A ta (0, 0))) (hB : w0.heap[g + 1]? = some (.cells B tb (0, 0))) (h : Below w0.heap.size w0 w1) :
    w1.heap[g]? = some (.cells A ta (0, 0)) ∧ w1.heap[g + 1]? = some (.cells B tb (0, 0)) := by
  exact ⟨(h.block g (Array.getElem?_eq_some_iff.1 hA).1).trans hA, (h.block (g + 1) (Array.getElem?_eq_some_iff.1 hB).1).trans hB⟩
theorem own_cells {w1 : World} {g : Nat} {f u s r p q : Int} {ta : TypeId} (h : w1.heap[g]? = some (.cells #[.int .i64 f, .int .i64 u, .int .i64 s, .int .i64 r, .int .i64 p, .int .i64 q] ta (0, 0))) :
    w1.cell? ⟨g, 0, none⟩ = some (.int .i64 f) ∧ w1.cell? ⟨g, 1, none⟩ = some (.int .i64 u) ∧ w1.cell? ⟨g, 2, none⟩ = some (.int .i64 s) ∧ w1.cell? ⟨g, 3, none⟩ = some (.int .i64 r) ∧ w1.cell? ⟨g, 4, none⟩ = some (.int .i64 p) ∧ w1.cell? ⟨g, 5, none⟩ = some (.int .i64 q) := by
  have hc := fun i => cell_of_row w1 g i _ ta (0, 0) h
  exact ⟨hc 0, hc 1, hc 2, hc 3, hc 4, hc 5⟩

theorem plain_cells (w0 w1 : World) (h : Below (w0.heap.size + 2) ((w0.alloc (.cells #[.int .i64 0, .int .i64 100, .int .i64 60, .int .i64 120, .int .i64 15, .int .i64 5] 30)).alloc (.cells #[.int .i64 1000, .int .i64 100, .int .i64 60, .int .i64 120, .int .i64 15, .int .i64 5] 30)) w1) : (w1.cell? ⟨w0.heap.size, 0, none⟩ = some (.int .i64 0) ∧ w1.cell? ⟨w0.heap.size, 1, none⟩ = some (.int .i64 100) ∧ w1.cell? ⟨w0.heap.size, 2, none⟩ = some (.int .i64 60) ∧ w1.cell? ⟨w0.heap.size, 3, none⟩ = some (.int .i64 120) ∧ w1.cell? ⟨w0.heap.size, 4, none⟩ = some (.int .i64 15) ∧ w1.cell? ⟨w0.heap.size, 5, none⟩ = some (.int .i64 5) ∧ w1.cell? ⟨w0.heap.size + 1, 0, none⟩ = some (.int .i64 1000) ∧ w1.cell? ⟨w0.heap.size + 1, 1, none⟩ = some (.int .i64 100) ∧ w1.cell? ⟨w0.heap.size + 1, 2, none⟩ = some (.int .i64 60) ∧ w1.cell? ⟨w0.heap.size + 1, 3, none⟩ = some (.int .i64 120) ∧ w1.cell? ⟨w0.heap.size + 1, 4, none⟩ = some (.int .i64 15) ∧ w1.cell? ⟨w0.heap.size + 1, 5, none⟩ = some (.int .i64 5)) ∧ w0.heap.size + 2 ≤ w1.heap.size := by
  obtain ⟨ka, kb, _, kz⟩ := two_blocks w0 #[.int .i64 0, .int .i64 100, .int .i64 60, .int .i64 120, .int .i64 15, .int .i64 5] #[.int .i64 1000, .int .i64 100, .int .i64 60, .int .i64 120, .int .i64 15, .int .i64 5] 30 30 w1 h
  exact ⟨⟨ka 0, ka 1, ka 2, ka 3, ka 4, ka 5, kb 0, kb 1, kb 2, kb 3, kb 4, kb 5⟩, kz⟩

theorem awake_any (w : World) : Calls Try.prog 10 #[] w fun e w' => e = .returned (.bool true) ∧ Below w.heap.size w w' := by
  go_enter Try.func10, Try.ntmps10
  go_wp2_with fail
  refine (plain22 w).mono ?_
  rintro e w0 ⟨rfl, hb⟩
  have B0 := Lib.hid hb
  clear hb
  go_wp2_with fail
  refine (time15 0 100 60 120 15 5 120 _).mono ?_
  rw [xe1.1, xe1.2]
  rintro e w1 ⟨rfl, hb⟩
  have Hb : Hid (Below (w0.heap.size + 2) ((w0.alloc (.cells #[.int .i64 0, .int .i64 100, .int .i64 60, .int .i64 120, .int .i64 15, .int .i64 5] 30)).alloc (.cells #[.int .i64 1000, .int .i64 100, .int .i64 60, .int .i64 120, .int .i64 15, .int .i64 5] 30)) w1) := Lib.hid (hb.mono (by simp))
  clear hb
  obtain ⟨⟨k0, k1, k2, k3, k4, k5, l0, l1, l2, l3, l4, l5⟩, kz⟩ := plain_cells w0 w1 Hb.out
  go_wp2_with fail
  refine (time15 0 100 60 120 15 5 121 _).mono ?_
  rw [xe2.1, xe2.2]
  rintro e w2 ⟨rfl, hb⟩
  have Hc := Lib.hid (Hb.out.trans (hb.mono kz))
  clear hb kz k0 k1 k2 k3 k4 k5 l0 l1 l2 l3 l4 l5 Hb
  have Hb := Hc
  clear Hc
  obtain ⟨⟨k0, k1, k2, k3, k4, k5, l0, l1, l2, l3, l4, l5⟩, kz⟩ := plain_cells w0 w2 Hb.out
  go_wp2_with fail
  refine (time15 0 100 60 120 15 5 181 _).mono ?_
  rw [xe3.1, xe3.2]
  rintro e w3 ⟨rfl, hb⟩
  have Hc := Lib.hid (Hb.out.trans (hb.mono kz))
  clear hb kz k0 k1 k2 k3 k4 k5 l0 l1 l2 l3 l4 l5 Hb
  have Hb := Hc
  clear Hc
  obtain ⟨⟨k0, k1, k2, k3, k4, k5, l0, l1, l2, l3, l4, l5⟩, kz⟩ := plain_cells w0 w3 Hb.out
  go_wp2_with fail
  refine (longest19 0 100 60 120 15 5 29 _).mono ?_
  rw [xe4.1, xe4.2]
  rintro e w4 ⟨rfl, hb⟩
  have Hc := Lib.hid (Hb.out.trans (hb.mono kz))
  clear hb kz k0 k1 k2 k3 k4 k5 l0 l1 l2 l3 l4 l5 Hb
  have Hb := Hc
  clear Hc
  obtain ⟨⟨k0, k1, k2, k3, k4, k5, l0, l1, l2, l3, l4, l5⟩, kz⟩ := plain_cells w0 w4 Hb.out
  go_wp2_with fail
  refine (at11 _ 2 2 twoG 999 _ (by exact two_rd w4 _ rfl) (by omega)).mono ?_
  rw [xe5.1, xe5.2]
  rintro e w5 ⟨rfl, hb⟩
  have Hc := Lib.hid ((Hb.out.alloc kz (.cells #[.int .i64 0, .int .i64 100, .int .i64 60, .int .i64 120, .int .i64 15, .int .i64 5, .int .i64 1000, .int .i64 100, .int .i64 60, .int .i64 120, .int .i64 15, .int .i64 5] 30)).trans (hb.mono (by simp; omega)))
  clear hb kz k0 k1 k2 k3 k4 k5 l0 l1 l2 l3 l4 l5 Hb
  have Hb := Hc
  clear Hc
  obtain ⟨⟨k0, k1, k2, k3, k4, k5, l0, l1, l2, l3, l4, l5⟩, kz⟩ := plain_cells w0 w5 Hb.out
  go_wp2_with fail
  refine (at11 _ 2 2 twoG 1000 _ (by exact two_rd w5 _ rfl) (by omega)).mono ?_
  rw [xe6.1, xe6.2]
  rintro e w6 ⟨rfl, hb⟩
  have Hc := Lib.hid ((Hb.out.alloc kz (.cells #[.int .i64 0, .int .i64 100, .int .i64 60, .int .i64 120, .int .i64 15, .int .i64 5, .int .i64 1000, .int .i64 100, .int .i64 60, .int .i64 120, .int .i64 15, .int .i64 5] 30)).trans (hb.mono (by simp; omega)))
  clear hb kz k0 k1 k2 k3 k4 k5 l0 l1 l2 l3 l4 l5 Hb
  have Hb := Hc
  clear Hc
  obtain ⟨⟨k0, k1, k2, k3, k4, k5, l0, l1, l2, l3, l4, l5⟩, kz⟩ := plain_cells w0 w6 Hb.out
  go_wp2_with fail
  refine (pauses17 0 100 60 120 15 5 61 _).mono ?_
  rw [xe7.1, xe7.2]
  rintro e w7 ⟨rfl, hb⟩
  have Hc := Lib.hid (Hb.out.trans (hb.mono kz))
  clear hb kz k0 k1 k2 k3 k4 k5 l0 l1 l2 l3 l4 l5 Hb
  have Hb := Hc
  clear Hc
  obtain ⟨⟨k0, k1, k2, k3, k4, k5, l0, l1, l2, l3, l4, l5⟩, kz⟩ := plain_cells w0 w7 Hb.out
  go_wp2_with fail
  go_ret
  exact ⟨rfl, Below.trans (B0.out.trans ((((Below.refl w0.heap.size w0).alloc (Nat.le_refl _) (.cells #[.int .i64 0, .int .i64 100, .int .i64 60, .int .i64 120, .int .i64 15, .int .i64 5] 30)).alloc (by simp) (.cells #[.int .i64 1000, .int .i64 100, .int .i64 60, .int .i64 120, .int .i64 15, .int .i64 5] 30)).mono B0.out.size)) (Hb.out.mono (by have := B0.out.size; omega))⟩
end Go.Proofs.Ytcmlipcgcjlopaa
