/- The walks of Same and of the chapter's examples. -/
import Derived.Test.YtdallemhhdfemaaDJ
namespace Go.Proofs.Ytdallemhhdfemaa
open Go.RowKit
set_option maxHeartbeats 4000000
set_option maxRecDepth 100000
set_option linter.unusedVariables false

theorem same23 (A C : Option Addr) (m c d : Nat) (f : Nat → Int) (w : World) (ha : SlI w A m f) (hc : SlI w C m f) (m1 : m ≤ 9223372036854775807) :
    Calls Try.prog 23 #[.slice A m c, .slice C m d] w fun x w' => x = .returned (.bool true) ∧ Below w.heap.size w w' := by
  have HA := Lib.hid ha
  have HC := Lib.hid hc
  clear ha hc
  have q : ((m : Int) != (m : Int)) = false := by simp
  go_enter Try.func23, Try.ntmps23
  go_wp2_with fail
  go_loopw [5] (fun i wr => ∃ k : Nat, k ≤ m ∧ i = .int .i64 k ∧ Hid (Below w.heap.size w wr)) (fun i _ => m - (intOf i).toNat)
  case atStart => exact ⟨0, by omega, rfl, Lib.hid (Below.refl _ _)⟩
  case round =>
    obtain ⟨k, hk, rfl, Hb⟩ := hrel
    by_cases hlt : k < m
    case neg =>
      have hltI : ¬ (k : Int) < (m : Int) := by omega
      go_wp2_with fail
      go_ret
      exact ⟨rfl, Hb.out⟩
    obtain ⟨b, o, rfl, hbw, r0⟩ := (HA.out.bel Hb.out).at_ k hlt
    obtain ⟨b', o', rfl, hbw', s0⟩ := (HC.out.bel Hb.out).at_ k hlt
    have hltI : (k : Int) < (m : Int) := by omega
    have q2 : (f k != f k) = false := by simp
    go_wp2_with fail
    go_quiet (fail)
    go_wp2_with fail
    go_roundw
    case rel => exact ⟨k + 1, by omega, by go_num, Lib.hid (below_drewN Hb.out _)⟩
    case measure => simp [intOf]; omega

theorem alloc_size (w : World) (o : Obj) : (w.alloc o).heap.size = w.heap.size + 1 := by simp
/-- where the call stands: the station p, and what the call began with -/
structure At (w0 w : World) (p n : Nat) (D : Dk) : Prop where
  sta : Sta w p n D
  bel : Below w0.heap.size w0 w
  lo : w0.heap.size ≤ p
theorem At.left {w0 w w' : World} {p n : Nat} {D D' : Dk} (h : At w0 w p n D) (hl : LeftAt w p n D' w') : At w0 w' p n D' :=
  ⟨hl.1, h.bel.trans (hl.bel h.lo h.bel.size), h.lo⟩
theorem At.go {w0 w w' : World} {p n : Nat} {D : Dk} (h : At w0 w p n D) (hb : Below w.heap.size w w') : At w0 w' p n D :=
  ⟨h.sta.bel hb, bel_tr h.bel hb (Nat.le_refl _), h.lo⟩
theorem At.of_new {w w' : World} {n : Nat} {D : Dk} (hs : Sta w' w.heap.size n D) (hb : Below w.heap.size w w') : At w w' w.heap.size n D := ⟨hs, hb, Nat.le_refl _⟩

def ListN (w0 : World) (l : List Int) (m : Nat) (e : Ending) (w' : World) : Prop := ∃ A c, e = .returned (.slice A m c) ∧ SlI w' A m (getI l) ∧ m ≤ c ∧ Below w0.heap.size w0 w'
theorem ListPost.to {w0 : World} {l l' : List Int} {m : Nat} {e : Ending} {w' : World} (h : ListPost w0 l e w') (hl : l = l') (hm : l'.length = m) : ListN w0 l' m e w' := by
  subst hl hm; exact h
theorem free20N (p n : Nat) (D : Dk) (l : List Int) (m : Nat) (w : World) (h : Sta w p n D) (hl : freeL D n = l) (hm : l.length = m) : Calls Try.prog 20 #[ptr p] w (ListN w l m) :=
  (free20 p n D w h).mono fun _ _ h => h.to hl hm
theorem bikes21N (p n : Nat) (D : Dk) (l : List Int) (m : Nat) (w : World) (h : Sta w p n D) (hl : bikesL D n = l) (hm : l.length = m) : Calls Try.prog 21 #[ptr p] w (ListN w l m) :=
  (bikes21 p n D w h).mono fun _ _ h => h.to hl hm
theorem own_two (w : World) (x y : Int) : SlI (w.alloc (.cells #[.int .i64 x, .int .i64 y] 3)) (some ⟨w.heap.size, 0, none⟩) 2 (getI [x, y]) := fun _ => ⟨w.heap.size, 0, rfl, by rw [alloc_size]; omega, fun j hj => by
  rw [cell_of_row _ _ _ _ _ _ (heap_alloc_new w _), Nat.zero_add]
  match j, hj with
  | 0, _ => rfl
  | 1, _ => rfl⟩
theorem own_one (w : World) (x : Int) : SlI (w.alloc (.cells #[.int .i64 x] 3)) (some ⟨w.heap.size, 0, none⟩) 1 (getI [x]) := fun _ => ⟨w.heap.size, 0, rfl, by rw [alloc_size]; omega, fun j hj => by
  rw [cell_of_row _ _ _ _ _ _ (heap_alloc_new w _), Nat.zero_add]
  match j, hj with
  | 0, _ => rfl⟩

abbrev D1 : Dk := insD 3 zeroD 1 7
abbrev D2 : Dk := insD 3 D1 1 8
abbrev D3 : Dk := insD 3 D2 0 7
abbrev D4 : Dk := ordD 3 D3 1 false
abbrev D5 : Dk := remD 3 D4 1
theorem e1 : insE 3 zeroD 1 7 = 0 := by decide
theorem e2 : insE 3 D1 1 8 = 22 := by decide
theorem e3 : insE 3 D2 0 7 = 6 := by decide
theorem e4 : freeL D3 3 = [0, 2] := by decide
theorem e5 : bikesL D3 3 = [7] := by decide
theorem e6 : fiN 3 D3 7 = 1 ∧ fiF 3 D3 7 = true := by decide
theorem e7 : canE 3 1 = 0 := by decide
theorem e8 : bikesL D4 3 = [] := by decide
theorem e9 : freeL D4 3 = [0, 2] := by decide
theorem e10 : remN 3 D4 1 = 7 ∧ remE 3 D4 1 = 0 := by decide
theorem e11 : insE 3 D5 1 7 = 12 := by decide

theorem awake_any (w : World) : Calls Try.prog 9 #[] w fun x w' => x = .returned (.bool true) ∧ Below w.heap.size w w' := by
  go_enter Try.func9, Try.ntmps9
  go_wp2_with fail
  refine (new22 3 w (by omega) (by omega)).mono ?_
  rintro x w1 ⟨rfl, hs, hb⟩
  obtain ⟨p, hp⟩ : ∃ p, w.heap.size = p := ⟨_, rfl⟩
  have A1 := Lib.hid (At.of_new hs hb)
  rw [hp] at A1 ⊢
  clear hs hb hp
  go_wp2_with fail
  refine (insert18 p 3 zeroD 1 7 _ A1.out.sta).mono ?_
  rw [e1]
  rintro x w2 ⟨rfl, hl⟩
  have A2 := Lib.hid (A1.out.left hl)
  clear hl A1
  go_wp2_with fail
  refine (insert18 p 3 D1 1 8 _ A2.out.sta).mono ?_
  rw [e2]
  rintro x w3 ⟨rfl, hl⟩
  have A3 := Lib.hid (A2.out.left hl)
  clear hl A2
  go_wp2_with fail
  refine (insert18 p 3 D2 0 7 _ A3.out.sta).mono ?_
  rw [e3]
  rintro x w4 ⟨rfl, hl⟩
  have A4 := Lib.hid (A3.out.left hl)
  clear hl A3
  go_wp2_with fail
  refine (free20N p 3 D3 _ 2 _ A4.out.sta e4 rfl).mono ?_
  rintro x w5 ⟨Af, cf, rfl, hs, _, hb⟩
  have A5 := Lib.hid (A4.out.go hb)
  have F5 := Lib.hid hs
  clear hb hs A4
  go_wp2_with fail
  refine (bikes21N p 3 D3 _ 1 _ A5.out.sta e5 rfl).mono ?_
  rintro x w6 ⟨Ab, cb, rfl, hs, _, hb⟩
  have A6 := Lib.hid (A5.out.go hb)
  have F6 := Lib.hid (F5.out.bel hb)
  have G6 := Lib.hid hs
  clear hb hs A5 F5
  go_wp2_with fail
  refine (find17 p 3 D3 7 _ A6.out.sta).mono ?_
  rw [e6.1, e6.2]
  rintro x w7 ⟨rfl, rfl⟩
  go_wp2_with fail
  refine (same23 Af (some ⟨w6.heap.size, 0, none⟩) 2 cf 2 (getI [0, 2]) _ (F6.out.bel (box_bel w6 _)) (own_two w6 0 2) (by omega)).mono ?_
  rintro x w7 ⟨rfl, hb⟩
  have hb1 := bel_tr (box_bel w6 _) hb (Nat.le_refl _)
  have A7 := Lib.hid (A6.out.go hb1)
  have G7 := Lib.hid (G6.out.bel hb1)
  clear hb hb1 A6 F6 G6
  go_wp2_with fail
  refine (same23 Ab (some ⟨w7.heap.size, 0, none⟩) 1 cb 1 (getI [7]) _ (G7.out.bel (box_bel w7 _)) (own_one w7 7) (by omega)).mono ?_
  rintro x w8 ⟨rfl, hb⟩
  have A8 := Lib.hid (A7.out.go (bel_tr (box_bel w7 _) hb (Nat.le_refl _)))
  clear hb A7 G7
  go_wp2_with fail
  refine (order19 p 3 D3 1 false _ A8.out.sta).mono ?_
  rw [e7]
  rintro x w9 ⟨rfl, hl⟩
  have A9 := Lib.hid (A8.out.left hl)
  clear hl A8
  go_wp2_with fail
  refine (bikes21N p 3 D4 _ 0 _ A9.out.sta e8 rfl).mono ?_
  rintro x w10 ⟨Ac, cc, rfl, _, _, hb⟩
  have A10 := Lib.hid (A9.out.go hb)
  clear hb A9
  go_wp2_with fail
  refine (free20N p 3 D4 _ 2 _ A10.out.sta e9 rfl).mono ?_
  rintro x w11 ⟨Ad, cd, rfl, _, _, hb⟩
  have A11 := Lib.hid (A10.out.go hb)
  clear hb A10
  go_wp2_with fail
  refine (remove15 p 3 D4 1 _ A11.out.sta).mono ?_
  rw [e10.1, e10.2]
  rintro x w12 ⟨rfl, hl⟩
  have A12 := Lib.hid (A11.out.left hl)
  clear hl A11
  go_wp2_with fail
  refine (insert18 p 3 D5 1 7 _ A12.out.sta).mono ?_
  rw [e11]
  rintro x w13 ⟨rfl, hl⟩
  have A13 := Lib.hid (A12.out.left hl)
  clear hl A12
  go_wp2_with fail
  go_ret
  exact ⟨rfl, A13.out.bel⟩
end Go.Proofs.Ytdallemhhdfemaa
