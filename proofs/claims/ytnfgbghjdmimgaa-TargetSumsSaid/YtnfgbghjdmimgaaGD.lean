/- The walks of cases and awake. -/
import Derived.Test.YtnfgbghjdmimgaaGC
namespace Go.Proofs.Ytnfgbghjdmimgaa
open Go.RowKit
set_option maxHeartbeats 4000000
set_option maxRecDepth 100000
set_option linter.unusedVariables false
theorem box_bel (w : World) (o : Obj) : Below w.heap.size w (w.alloc o) := (Below.refl _ _).alloc (Nat.le_refl _) _
theorem new_cell (w : World) (cs : Array Value) (t : TypeId) (i : Nat) : (w.alloc (.cells cs t)).cell? ⟨w.heap.size, i, none⟩ = cs[i]? := cell_of_row _ w.heap.size i cs t (0, 0) (heap_alloc_new w _)
def litF (l : List Int) : Nat → Int := fun i => l.getD i 0
theorem lit_sl (w : World) (l : List Int) (t : TypeId) (cs : Array Value) (hc : cs = (l.map (Value.int .i64)).toArray) (n : Nat) (hn : n = l.length) (m : Nat) (hm : m = w.heap.size) : SlI (w.alloc (.cells cs t)) (some ⟨m, 0, none⟩) n (litF l) := fun _ => by
  subst hm hc hn
  refine ⟨w.heap.size, 0, rfl, by simp, fun j hj => ?_⟩
  rw [Nat.zero_add, new_cell]
  simp [litF, hj]
def exC : Cs := fun i => if i = 0 then (2, litF [-1, -1]) else (1, litF [1])
theorem lit_rows (w : World) (A1 A2 : Option Addr) (c1 c2 : Nat) (h1 : Elems RowV w A1 2 exC) (h2 : Elems RowV w A2 2 exC) (m : Nat) (hm : m = w.heap.size) (t : TypeId) :
    Elems RowsV (w.alloc (.cells #[.slice A1 2 c1, .slice A2 2 c2] t)) (some ⟨m, 0, none⟩) 2 (fun _ => (2, exC)) := fun _ => by
  subst hm
  refine ⟨w.heap.size, 0, rfl, by simp, fun j hj => ?_⟩
  rw [Nat.zero_add, new_cell]
  match j, hj with
  | 0, _ => exact ⟨_, rfl, A1, c1, rfl, h1.bel rowV_stays (box_bel w _), by show 2 ≤ 9223372036854775807; omega⟩
  | 1, _ => exact ⟨_, rfl, A2, c2, rfl, h2.bel rowV_stays (box_bel w _), by show 2 ≤ 9223372036854775807; omega⟩
theorem cases_el (w : World) :
    Elems RowV (((w.alloc (.cells #[.int .i64 (-1), .int .i64 (-1)] 3)).alloc (.cells #[.int .i64 1] 3)).alloc (.cells #[.slice (some ⟨w.heap.size, 0, none⟩) 2 2, .slice (some ⟨w.heap.size + 1, 0, none⟩) 1 1] 22)) (some ⟨w.heap.size + 2, 0, none⟩) 2 exC := fun _ => by
  have s1 : SlI (w.alloc (.cells #[.int .i64 (-1), .int .i64 (-1)] 3)) (some ⟨w.heap.size, 0, none⟩) 2 (litF [-1, -1]) := lit_sl w [-1, -1] 3 _ rfl 2 rfl _ rfl
  have s2 : SlI ((w.alloc (.cells #[.int .i64 (-1), .int .i64 (-1)] 3)).alloc (.cells #[.int .i64 1] 3)) (some ⟨w.heap.size + 1, 0, none⟩) 1 (litF [1]) := lit_sl _ [1] 3 _ rfl 1 rfl _ (by simp)
  refine ⟨w.heap.size + 2, 0, rfl, by simp, fun j hj => ?_⟩
  have e : w.heap.size + 2 = ((w.alloc (.cells #[.int .i64 (-1), .int .i64 (-1)] 3)).alloc (.cells #[.int .i64 1] 3)).heap.size := by simp
  rw [Nat.zero_add, e, new_cell]
  match j, hj with
  | 0, _ => exact ⟨_, rfl, _, _, rfl, (s1.bel (box_bel _ _)).bel (box_bel _ _), by show 2 ≤ 9223372036854775807; omega⟩
  | 1, _ => exact ⟨_, rfl, _, _, rfl, s2.bel (box_bel _ _), by show 1 ≤ 9223372036854775807; omega⟩
theorem cases21 (w : World) : Calls Try.prog 21 #[] w fun e w' => (∃ A c, e = .returned (.slice A 2 c) ∧ Elems RowV w' A 2 exC) ∧ Below w.heap.size w w' := by
  go_enter Try.func21, Try.ntmps21
  go_wp2
  go_ret
  exact ⟨⟨_, _, rfl, cases_el w⟩, (((Below.refl _ w).alloc (Nat.le_refl _) _).alloc (by simp) _).alloc (by simp; omega) _⟩

theorem xe1 : valLs 2 1 3 (litF [1, 1, -1]) = 1 ∧ codeLs 2 1 3 (litF [1, 1, -1]) = 0 := by decide
theorem xe2 : codeCs 2 2 exC = 0 ∧ lenCs 2 2 exC = 3 := by decide
theorem xe3 : sameB 3 3 (costF 2 2 exC) (litF [2, 1, 1]) = true := by decide
theorem xe4 : valB 2 2 exC = 1 := by decide
theorem xe5 : codeM 2 2 2 (litF [2, 2]) (litF [2, 0]) (fun _ => (2, exC)) = 0 ∧ lenM 2 2 2 (litF [2, 2]) (litF [2, 0]) (fun _ => (2, exC)) = 2 := by decide
theorem xe6 : sameB 2 2 (valM (litF [2, 2]) (litF [2, 0]) (fun _ => (2, exC))) (litF [1, -1]) = true := by decide
theorem xe7 : codeLs 2 3 0 (litF []) = 1 ∧ valLs 2 3 0 (litF []) = 0 := by decide

theorem awake_any (w : World) : Calls Try.prog 10 #[] w fun e w' => e = .returned (.bool true) ∧ Below w.heap.size w w' := by
  go_enter Try.func10, Try.ntmps10
  go_wp2_with fail
  refine (lost11 _ 3 3 (litF [1, 1, -1]) 2 1 _ (by exact lit_sl w [1, 1, -1] 3 _ rfl 3 rfl _ rfl) (by omega)).mono ?_
  rw [xe1.1, xe1.2]
  rintro e w1 ⟨rfl, hb⟩
  have B1 := Lib.hid ((box_bel w _).trans (hb.mono (by simp)))
  clear hb
  go_wp2_with fail
  refine (cases21 _).mono ?_
  rintro e w2 ⟨⟨A2, c2, rfl, hel2⟩, hb⟩
  have B2 := Lib.hid (B1.out.trans (hb.mono B1.out.size))
  clear hb
  go_wp2_with fail
  refine (costs14 A2 2 c2 exC 2 _ hel2 (by omega)).mono ?_
  rw [show CostsPost w2 2 2 exC = fun e w' => (∃ v, e = .returned (.tuple #[v, .int .i64 0]) ∧ ListAt w2 w' v 3 (costF 2 2 exC)) ∧ Below w2.heap.size w2 w' by unfold CostsPost; rw [xe2.1, xe2.2]]
  rintro e w3 ⟨⟨v, rfl, A3, c3, rfl, hs3, _, hc3⟩, hb⟩
  have B3 := Lib.hid (B2.out.trans (hb.mono B2.out.size))
  have S3 := Lib.hid hs3
  clear hb hs3
  go_wp2_with fail
  refine (cases21 _).mono ?_
  rintro e w4 ⟨⟨A4, c4, rfl, hel4⟩, hb⟩
  have B4 := Lib.hid (B3.out.trans (hb.mono B3.out.size))
  have S4 := Lib.hid (S3.out.bel hb)
  clear hb
  go_wp2_with fail
  refine (best16 A4 2 c4 exC 2 _ hel4 (by omega)).mono ?_
  rw [xe4, xe2.1]
  rintro e w5 ⟨rfl, hb⟩
  have B5 := Lib.hid (B4.out.trans (hb.mono B4.out.size))
  have S5 := Lib.hid (S4.out.bel hb)
  clear hb
  have L1 := lit_sl w5 [2, 2] 3 #[.int .i64 2, .int .i64 2] rfl 2 rfl w5.heap.size rfl
  have L2 := lit_sl (w5.alloc (.cells #[.int .i64 2, .int .i64 2] 3)) [2, 0] 3 #[.int .i64 2, .int .i64 0] rfl 2 rfl (w5.heap.size + 1) (by simp)
  have L1' := Lib.hid (L1.bel (box_bel _ (.cells #[.int .i64 2, .int .i64 0] 3)))
  have L2' := Lib.hid L2
  have B6 := Lib.hid (B5.out.trans ((((Below.refl _ w5).alloc (Nat.le_refl _) (.cells #[.int .i64 2, .int .i64 2] 3)).alloc (by simp) (.cells #[.int .i64 2, .int .i64 0] 3)).mono B5.out.size))
  have S6 := Lib.hid (S5.out.bel (((Below.refl _ w5).alloc (Nat.le_refl _) (.cells #[.int .i64 2, .int .i64 2] 3)).alloc (by simp) (.cells #[.int .i64 2, .int .i64 0] 3)))
  clear L1 L2
  obtain ⟨w6, hw6⟩ : ∃ w6, (w5.alloc (.cells #[.int .i64 2, .int .i64 2] 3)).alloc (.cells #[.int .i64 2, .int .i64 0] 3) = w6 := ⟨_, rfl⟩
  have H6 := Lib.hid hw6
  rw [hw6] at L1' L2' B6 S6
  clear hw6
  go_wp2_with fail
  rw [H6.out]
  refine (cases21 _).mono ?_
  rintro e w7 ⟨⟨A7, c7, rfl, hel7⟩, hb⟩
  have B7 := Lib.hid (B6.out.trans (hb.mono B6.out.size))
  have S7 := Lib.hid (S6.out.bel hb)
  have L17 := Lib.hid (L1'.out.bel hb)
  have L27 := Lib.hid (L2'.out.bel hb)
  clear hb
  go_wp2_with fail
  refine (cases21 _).mono ?_
  rintro e w8 ⟨⟨A8, c8, rfl, hel8⟩, hb⟩
  have B8 := Lib.hid (B7.out.trans (hb.mono B7.out.size))
  have S8 := Lib.hid (S7.out.bel hb)
  have L18 := Lib.hid (L17.out.bel hb)
  have L28 := Lib.hid (L27.out.bel hb)
  have E7 := Lib.hid (hel7.bel rowV_stays hb)
  have E8 := Lib.hid hel8
  clear hb hel7 hel8
  go_wp2_with fail
  refine (moves19 _ _ _ 2 2 2 2 2 2 (litF [2, 2]) (litF [2, 0]) (fun _ => (2, exC)) _ (by exact L18.out.bel (box_bel _ _)) (by exact L28.out.bel (box_bel _ _)) (by exact lit_rows w8 A7 A8 c7 c8 E7.out E8.out _ rfl 28) (by omega) (by omega) (by omega)).mono ?_
  rintro e w9 ⟨⟨v, rfl, hl⟩, hb⟩
  rw [xe5.1]
  rw [xe5.2] at hl
  obtain ⟨A9, c9, rfl, hs9, _, hc9⟩ := hl
  have hb' := (box_bel w8 (.cells #[.slice A7 2 c7, .slice A8 2 c8] 28)).trans (hb.mono (by simp))
  have B9 := Lib.hid (B8.out.trans (hb'.mono B8.out.size))
  have S9 := Lib.hid (S8.out.bel hb')
  have M9 := Lib.hid hs9
  clear hb hb' hs9
  go_wp2_with fail
  refine (lost11 none 0 0 (litF []) 2 3 _ SlI.nil (by omega)).mono ?_
  rw [xe7.1, xe7.2]
  rintro e w10 ⟨rfl, hb⟩
  have B10 := Lib.hid (B9.out.trans (hb.mono B9.out.size))
  have S10 := Lib.hid (S9.out.bel hb)
  have M10 := Lib.hid (M9.out.bel hb)
  clear hb
  go_wp2_with fail
  refine (ints18 _ _ 3 3 _ _ (costF 2 2 exC) (litF [2, 1, 1]) _ (by exact S10.out.bel (box_bel _ _)) (by exact lit_sl w10 [2, 1, 1] 3 _ rfl 3 rfl _ rfl) (by omega) (by omega)).mono ?_
  rw [xe3]
  rintro e w11 ⟨rfl, hb⟩
  have hb' := (box_bel w10 (.cells #[.int .i64 2, .int .i64 1, .int .i64 1] 3)).trans (hb.mono (by simp))
  have B11 := Lib.hid (B10.out.trans (hb'.mono B10.out.size))
  have M11 := Lib.hid (M10.out.bel hb')
  clear hb hb'
  go_wp2_with fail
  refine (ints18 _ _ 2 2 _ _ _ (litF [1, -1]) _ (by exact M11.out.bel (box_bel _ _)) (by exact lit_sl w11 [1, -1] 3 _ rfl 2 rfl _ rfl) (by omega) (by omega)).mono ?_
  rw [xe6]
  rintro e w12 ⟨rfl, hb⟩
  have hb' := (box_bel w11 (.cells #[.int .i64 1, .int .i64 (-1)] 3)).trans (hb.mono (by simp))
  have B12 := Lib.hid (B11.out.trans (hb'.mono B11.out.size))
  clear hb hb'
  go_wp2_with fail
  go_ret
  exact ⟨rfl, B12.out⟩
end Go.Proofs.Ytnfgbghjdmimgaa
