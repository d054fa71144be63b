/- The walk of the chapter's examples. -/
import Derived.Test.YtmfkkmonedgdnaaRL
import Derived.Test.YtmfkkmonedgdnaaRApp
namespace Go.Proofs.Ytmfkkmonedgdnaa
open Go.RowKit
set_option maxHeartbeats 4000000
set_option maxRecDepth 100000
set_option linter.unusedVariables false

/-- the list of two, and what End made of it -/
structure Big (w : World) (p : Nat) (Ax : Option Addr) (cx : Nat) (Ay : Option Addr) (cy : Nat) (X : World) : Prop where
  b : Below w.heap.size w X
  l : OwnF X w.heap.size p 2 gTwo
  x : FlatRd X Ax 2 5 (toG 0 gTwo 150)
  y : FlatRd X Ay 1 5 (cutG 0 gTwo)
theorem Big.bel {w X Y : World} {p : Nat} {Ax Ay : Option Addr} {cx cy : Nat} (h : Big w p Ax cx Ay cy X) (hb : Below X.heap.size X Y) : Big w p Ax cx Ay cy Y := ⟨bel_tr h.b hb (Nat.le_refl _), h.l.bel hb, h.x.bel hb, h.y.bel hb⟩
theorem s11_of {w X : World} {p : Nat} {Ax Ay : Option Addr} {cx cy : Nat} (h : Big w p Ax cx Ay cy X) : X.cell? ⟨p, 5, none⟩ = some (.int .i64 2) ∧ X.cell? ⟨p, 6, none⟩ = some (.int .i64 5) ∧ X.cell? ⟨p, 7, none⟩ = some (.int .i64 3) ∧ X.cell? ⟨p, 8, none⟩ = some (.int .i64 250) ∧ X.cell? ⟨p, 9, none⟩ = some (.int .i64 300) ∧ Big w p Ax cx Ay cy X := ⟨h.l.cell 1 0 (by omega) (by omega), h.l.cell 1 1 (by omega) (by omega), h.l.cell 1 2 (by omega) (by omega), h.l.cell 1 3 (by omega) (by omega), h.l.cell 1 4 (by omega) (by omega), h⟩
theorem s11_big {w X : World} {p : Nat} {Ax Ay : Option Addr} {cx cy : Nat} (h : X.cell? ⟨p, 5, none⟩ = some (.int .i64 2) ∧ X.cell? ⟨p, 6, none⟩ = some (.int .i64 5) ∧ X.cell? ⟨p, 7, none⟩ = some (.int .i64 3) ∧ X.cell? ⟨p, 8, none⟩ = some (.int .i64 250) ∧ X.cell? ⟨p, 9, none⟩ = some (.int .i64 300) ∧ Big w p Ax cx Ay cy X) : Big w p Ax cx Ay cy X := h.2.2.2.2.2
theorem s11_bel {w X Y : World} {p : Nat} {Ax Ay : Option Addr} {cx cy : Nat} (h : X.cell? ⟨p, 5, none⟩ = some (.int .i64 2) ∧ X.cell? ⟨p, 6, none⟩ = some (.int .i64 5) ∧ X.cell? ⟨p, 7, none⟩ = some (.int .i64 3) ∧ X.cell? ⟨p, 8, none⟩ = some (.int .i64 250) ∧ X.cell? ⟨p, 9, none⟩ = some (.int .i64 300) ∧ Big w p Ax cx Ay cy X) (hb : Below X.heap.size X Y) : Y.cell? ⟨p, 5, none⟩ = some (.int .i64 2) ∧ Y.cell? ⟨p, 6, none⟩ = some (.int .i64 5) ∧ Y.cell? ⟨p, 7, none⟩ = some (.int .i64 3) ∧ Y.cell? ⟨p, 8, none⟩ = some (.int .i64 250) ∧ Y.cell? ⟨p, 9, none⟩ = some (.int .i64 300) ∧ Big w p Ax cx Ay cy Y := s11_of ((s11_big h).bel hb)
theorem s11_alloc {w X : World} {p : Nat} {Ax Ay : Option Addr} {cx cy : Nat} (h : X.cell? ⟨p, 5, none⟩ = some (.int .i64 2) ∧ X.cell? ⟨p, 6, none⟩ = some (.int .i64 5) ∧ X.cell? ⟨p, 7, none⟩ = some (.int .i64 3) ∧ X.cell? ⟨p, 8, none⟩ = some (.int .i64 250) ∧ X.cell? ⟨p, 9, none⟩ = some (.int .i64 300) ∧ Big w p Ax cx Ay cy X) (ob : Obj) : (X.alloc ob).cell? ⟨p, 5, none⟩ = some (.int .i64 2) ∧ (X.alloc ob).cell? ⟨p, 6, none⟩ = some (.int .i64 5) ∧ (X.alloc ob).cell? ⟨p, 7, none⟩ = some (.int .i64 3) ∧ (X.alloc ob).cell? ⟨p, 8, none⟩ = some (.int .i64 250) ∧ (X.alloc ob).cell? ⟨p, 9, none⟩ = some (.int .i64 300) ∧ Big w p Ax cx Ay cy (X.alloc ob) := s11_of ((s11_big h).bel (box_bel X ob))
theorem tail_two {X : World} {B p : Nat} (h : OwnF X B p 2 gTwo) : FlatRd X (some ⟨p, 5, none⟩) 1 5 (fun i j => gTwo (1 + i) j) := h.from 1

theorem awake_any (w : World) : Calls Try.prog 11 #[] w fun x w' => x = .returned (.bool true) ∧ Below w.heap.size w w' := by
  go_enter Try.func11, Try.ntmps11
  go_wp2_with fail
  refine (two24 w).mono ?_
  rintro x w1 ⟨p, rfl, hown, hb0⟩
  have B := Lib.hid hb0
  have O := Lib.hid hown
  clear hb0 hown
  go_wp2_with fail
  refine (by19 (some ⟨p, 0, none⟩) 2 2 gTwo 5 199 _ O.out.rd (by omega)).mono ?_
  rw [two_by1.1, two_by1.2]
  rintro x w2 ⟨rfl, hb0⟩
  have B' := Lib.hid (bel_tr B.out hb0 (Nat.le_refl _))
  have O' := Lib.hid (O.out.bel hb0)
  clear hb0 B O
  have B := B'
  have O := O'
  clear B' O'
  go_wp2_with fail
  refine (by19 (some ⟨p, 0, none⟩) 2 2 gTwo 5 200 _ O.out.rd (by omega)).mono ?_
  rw [two_by2.1, two_by2.2]
  rintro x w3 ⟨rfl, hb0⟩
  have B' := Lib.hid (bel_tr B.out hb0 (Nat.le_refl _))
  have O' := Lib.hid (O.out.bel hb0)
  clear hb0 B O
  have B := B'
  have O := O'
  clear B' O'
  go_wp2_with fail
  refine (hold25 _ _ _ _ _ _).mono ?_
  rintro x w4 ⟨rfl, hb0⟩
  have B' := Lib.hid (bel_tr B.out hb0 (Nat.le_refl _))
  have O' := Lib.hid (O.out.bel hb0)
  clear hb0 B O
  have B := B'
  have O := O'
  clear B' O'
  go_wp2_with fail
  refine (make12 (some ⟨p, 0, none⟩) 2 2 gTwo 3 6 2 150 160 _ O.out.rd (by omega) (by omega)).mono ?_
  rw [two_mk]
  rintro x w5 ⟨⟨A0, c0, rfl, hrd, hc0⟩, hb0⟩
  have B' := Lib.hid (bel_tr B.out hb0 (Nat.le_refl _))
  have O' := Lib.hid (O.out.bel hb0)
  clear hrd hc0
  clear hb0 B O
  have B := B'
  have O := O'
  clear B' O'
  go_wp2_with fail
  refine (next21 (some ⟨p, 0, none⟩) 2 2 gTwo 5 120 50 _ O.out.rd (by omega) (by omega)).mono ?_
  rw [two_ne1.1, two_ne1.2]
  rintro x w6 ⟨rfl, hb0⟩
  have B' := Lib.hid (bel_tr B.out hb0 (Nat.le_refl _))
  have O' := Lib.hid (O.out.bel hb0)
  clear hb0 B O
  have B := B'
  have O := O'
  clear B' O'
  go_wp2_with fail
  refine (next21 (some ⟨p, 0, none⟩) 2 2 gTwo 5 120 51 _ O.out.rd (by omega) (by omega)).mono ?_
  rw [two_ne2.1, two_ne2.2]
  rintro x w7 ⟨rfl, hb0⟩
  have B' := Lib.hid (bel_tr B.out hb0 (Nat.le_refl _))
  have O' := Lib.hid (O.out.bel hb0)
  clear hb0 B O
  have B := B'
  have O := O'
  clear B' O'
  go_wp2_with fail
  refine (end17 (some ⟨p, 0, none⟩) 2 2 gTwo 1 150 _ O.out.rd (by omega) (by omega)).mono ?_
  rw [two_e1.1, two_e1.2.1, two_e1.2.2]
  rintro x w8 ⟨⟨Ax, cx, rfl, hrd, hcx⟩, hb0⟩
  have B' := Lib.hid (bel_tr B.out hb0 (Nat.le_refl _))
  have O' := Lib.hid (O.out.bel hb0)
  have RX := Lib.hid hrd
  clear hrd hcx
  clear hb0 B O
  have B := B'
  have O := O'
  clear B' O'
  go_wp2_with fail
  refine (end17 (some ⟨p, 0, none⟩) 2 2 gTwo 1 100 _ O.out.rd (by omega) (by omega)).mono ?_
  rw [two_e2.1, two_e2.2.1, two_e2.2.2]
  rintro x w9 ⟨⟨Ay, cy, rfl, hrd, hcy⟩, hb0⟩
  have B' := Lib.hid (bel_tr B.out hb0 (Nat.le_refl _))
  have O' := Lib.hid (O.out.bel hb0)
  have RY := Lib.hid hrd
  have RX' := Lib.hid (RX.out.bel hb0)
  clear hrd hcy RX
  have RX := RX'
  clear RX'
  clear hb0 B O
  have B := B'
  have O := O'
  clear B' O'
  go_wp2_with fail
  refine (end17 (some ⟨p, 0, none⟩) 2 2 gTwo 1 201 _ O.out.rd (by omega) (by omega)).mono ?_
  rw [two_e3.1, two_e3.2]
  rintro x w10 ⟨⟨Az, cz, rfl, hrd, hcz⟩, hb0⟩
  have B' := Lib.hid (bel_tr B.out hb0 (Nat.le_refl _))
  have O' := Lib.hid (O.out.bel hb0)
  have RY' := Lib.hid (RY.out.bel hb0)
  have RX' := Lib.hid (RX.out.bel hb0)
  clear hrd hcz RX RY
  have RX := RX'
  have RY := RY'
  clear RX' RY'
  clear hb0 B O
  have B := B'
  have O := O'
  clear B' O'
  have G := Lib.hid (show Big w p Ax cx Ay cy w10 from ⟨B.out, O.out, RX.out, RY.out⟩)
  have GD := Lib.hid (s11_of (G.out.bel (Below.refl _ _).drew))
  clear B O RX RY G
  go_wp2_with fail
  go_region_held3 (fun X => X.cell? ⟨p, 5, none⟩ = some (.int .i64 2) ∧ X.cell? ⟨p, 6, none⟩ = some (.int .i64 5) ∧ X.cell? ⟨p, 7, none⟩ = some (.int .i64 3) ∧ X.cell? ⟨p, 8, none⟩ = some (.int .i64 250) ∧ X.cell? ⟨p, 9, none⟩ = some (.int .i64 300) ∧ Big w p Ax cx Ay cy X) (first | exact GD.out | exact s11_bel (by assumption) (by assumption) | exact s11_alloc (by assumption) _)
    (first
      | (go_at_call 25; refine (hold25 _ _ _ _ _ _).mono ?_; rintro x w30 ⟨rfl, hb0⟩)
      | (go_at_call_of 16 Ax; refine (same16 Ax (some ⟨w30.heap.size, 0, none⟩) 2 cx 2 2 (toG 0 gTwo 150) gThr _ (s11_big (by assumption)).x (own_thr w30).rd (by omega) (by omega)).mono ?_; rw [two_s1]; rintro x w31 ⟨rfl, hb0⟩)
      | (go_at_call_of 16 Ay; refine (same16 Ay (some ⟨p, 5, none⟩) 1 cy 1 1 (cutG 0 gTwo) _ _ (s11_big (by assumption)).y (tail_two (s11_big (by assumption)).l) (by omega) (by omega)).mono ?_; rw [two_s2]; rintro x w32 ⟨rfl, hb0⟩))
  all_goals
    rename_i hH
    have BE := Lib.hid (s11_big hH).b
    clear hH GD
    go_wp2_with fail
    go_ret
    exact ⟨rfl, BE.out⟩
end Go.Proofs.Ytmfkkmonedgdnaa
