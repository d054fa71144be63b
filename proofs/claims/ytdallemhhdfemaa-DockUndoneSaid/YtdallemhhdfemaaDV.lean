/- The walk of the laws' own is: a station and the reference's station that agree. -/
import Derived.Test.YtdallemhhdfemaaDU
import Derived.Deep.RegionHeld3
namespace Go.Proofs.Ytdallemhhdfemaa
open Go.RowKit
set_option maxHeartbeats 4000000
set_option maxRecDepth 100000
set_option linter.unusedVariables false

/-- what stays in the call: the parameter's block, both stations -/
structure Bi (w : World) (p : Nat) (A : Option Addr) (c : Nat) (A' : Option Addr) (c' n : Nat) (D : Dk) (X : World) : Prop where
  bp : X.heap[w.heap.size]? = some (rO A c A' c' n)
  sta : Sta X p n D
  rf : Rf X A A' n D
  bel : Below w.heap.size w X
section
variable {w X Y : World} {p : Nat} {A A' : Option Addr} {c c' n : Nat} {D : Dk}
theorem Bi.start (hs : Sta w p n D) (hr : Rf w A A' n D) : Bi w p A c A' c' n D (w.alloc (rO A c A' c' n)) := ⟨heap_alloc_new w _, hs.bel (box_bel w _), hr.bel (box_bel w _), box_bel w _⟩
theorem Bi.go (h : Bi w p A c A' c' n D X) (hb : Below X.heap.size X Y) : Bi w p A c A' c' n D Y :=
  ⟨(hb.block _ (Array.getElem?_eq_some_iff.1 h.bp).1).trans h.bp, h.sta.bel hb, h.rf.bel hb, bel_tr h.bel hb (Nat.le_refl _)⟩
theorem Bi.drew (h : Bi w p A c A' c' n D X) : Bi w p A c A' c' n D X.drew := h.go (Below.refl _ _).drew
theorem Bi.cc (h : Bi w p A c A' c' n D X) : X.cell? ⟨w.heap.size, 0, none⟩ = some (.slice A n c) ∧ X.cell? ⟨w.heap.size, 1, none⟩ = some (.slice A' n c') :=
  ⟨by rw [cell_of_row _ _ _ _ _ _ h.bp]; rfl, by rw [cell_of_row _ _ _ _ _ _ h.bp]; rfl⟩
theorem s14 (h : Bi w p A c A' c' n D X) : X.cell? ⟨w.heap.size, 0, none⟩ = some (.slice A n c) ∧ X.cell? ⟨w.heap.size, 1, none⟩ = some (.slice A' n c') ∧ Bi w p A c A' c' n D X := ⟨h.cc.1, h.cc.2, h⟩
theorem s14b (h : X.cell? ⟨w.heap.size, 0, none⟩ = some (.slice A n c) ∧ X.cell? ⟨w.heap.size, 1, none⟩ = some (.slice A' n c') ∧ Bi w p A c A' c' n D X) : Bi w p A c A' c' n D X := h.2.2
theorem s14_bel (hb : Below X.heap.size X Y) (h : X.cell? ⟨w.heap.size, 0, none⟩ = some (.slice A n c) ∧ X.cell? ⟨w.heap.size, 1, none⟩ = some (.slice A' n c') ∧ Bi w p A c A' c' n D X) : Y.cell? ⟨w.heap.size, 0, none⟩ = some (.slice A n c) ∧ Y.cell? ⟨w.heap.size, 1, none⟩ = some (.slice A' n c') ∧ Bi w p A c A' c' n D Y := s14 (h.2.2.go hb)
end
theorem free29N (A A' : Option Addr) (c c' n : Nat) (D : Dk) (l : List Int) (m : Nat) (w : World) (h : Rf w A A' n D) (hi : Inv n D) (h2 : n ≤ 32) (hl : freeL D n = l) (hm : l.length = m) : Calls Try.prog 29 #[rV A c A' c' n] w (ListN w l m) :=
  (free29 A A' c c' n D w h hi h2).mono fun _ _ h => h.to hl hm
theorem bikes30N (A A' : Option Addr) (c c' n : Nat) (D : Dk) (l : List Int) (m : Nat) (w : World) (h : Rf w A A' n D) (hi : Inv n D) (h2 : n ≤ 32) (hl : bikesL D n = l) (hm : l.length = m) : Calls Try.prog 30 #[rV A c A' c' n] w (ListN w l m) :=
  (bikes30 A A' c c' n D w h hi h2).mono fun _ _ h => h.to hl hm

theorem is14 (p : Nat) (A A' : Option Addr) (c c' n : Nat) (D : Dk) (d bike : Int) (w : World) (hs : Sta w p n D) (hr : Rf w A A' n D) (hi : Inv n D) :
    Calls Try.prog 14 #[ptr p, rV A c A' c' n, .int .i64 d, .int .i64 bike] w fun x w' => x = .returned (.bool true) ∧ Below w.heap.size w w' := by
  have h1 := hs.n1
  have h2 := hs.n2
  have G0 := Lib.hid (Bi.start (c := c) (c' := c') hs hr)
  have HI := Lib.hid hi
  clear hs hr hi
  have hl1 := freeL_len D n
  have hl2 := bikesL_len D n
  obtain ⟨l1, HL1⟩ : ∃ l, Hid (freeL D n = l) := ⟨_, Lib.hid rfl⟩
  obtain ⟨l2, HL2⟩ : ∃ l, Hid (bikesL D n = l) := ⟨_, Lib.hid rfl⟩
  obtain ⟨m1, HM1⟩ : ∃ m, Hid (l1.length = m) := ⟨_, Lib.hid rfl⟩
  obtain ⟨m2, HM2⟩ : ∃ m, Hid (l2.length = m) := ⟨_, Lib.hid rfl⟩
  rw [HL1.out, HM1.out] at hl1
  rw [HL2.out, HM2.out] at hl2
  go_enter Try.func14, Try.ntmps14
  go_wp2_with fail
  go_loopw [9] (fun i wr => ∃ k : Nat, k ≤ n + 2 ∧ i = .int .i64 ((k : Int) - 1) ∧ Hid (Bi w p A c A' c' n D wr)) (fun i _ => n + 2 - (intOf i + 1).toNat)
  case atStart => exact ⟨0, by omega, rfl, G0⟩
  case round =>
    obtain ⟨k, hk, rfl, G⟩ := hrel
    obtain ⟨p0, p1⟩ := G.out.cc
    by_cases hlt : k < n + 2
    · have hltI : (k : Int) - 1 ≤ (n : Int) := by omega
      go_wp2_with fail
      refine (bike16 p n D ((k : Int) - 1) wr G.out.sta).mono ?_
      rintro x w1 ⟨rfl, hb⟩
      have G1 := Lib.hid (G.out.go hb)
      clear hb p0 p1 G
      obtain ⟨p0, p1⟩ := G1.out.cc
      go_wp2_with fail
      refine (bike27 A A' c c' n D ((k : Int) - 1) w1 G1.out.rf HI.out h2).mono ?_
      rintro x w2 ⟨rfl, hb⟩
      have G2 := Lib.hid (G1.out.go hb)
      clear hb p0 p1 G1
      go_wp2_with fail
      go_roundw
      case rel => exact ⟨k + 1, by omega, by first | (congr 1; omega) | (go_num), G2⟩
      case measure => simp [intOf]; omega
    have hkn : k = n + 2 := by omega
    subst hkn
    have hltI : ¬ ((n + 2 : Nat) : Int) - 1 ≤ (n : Int) := by omega
    go_wp2_with fail
    clear p0 p1
    refine (bike16 p n D d wr G.out.sta).mono ?_
    rintro x w1 ⟨rfl, hb⟩
    have G1 := Lib.hid (G.out.go hb)
    clear hb G
    obtain ⟨p0, p1⟩ := G1.out.cc
    go_wp2_with fail
    refine (bike27 A A' c c' n D d w1 G1.out.rf HI.out h2).mono ?_
    rintro x w2 ⟨rfl, hb⟩
    have G2 := Lib.hid (G1.out.go hb)
    clear hb p0 p1 G1
    go_wp2_with fail
    refine (find17 p n D bike w2 G2.out.sta).mono ?_
    rintro x w3 ⟨rfl, rfl⟩
    obtain ⟨p0, p1⟩ := G2.out.cc
    go_wp2_with fail
    refine (find28 A A' c c' n D bike w2 G2.out.rf HI.out h2).mono ?_
    rintro x w3 ⟨rfl, hb⟩
    have G3 := Lib.hid (G2.out.go hb)
    clear hb p0 p1 G2
    have GD := Lib.hid (s14 G3.out.drew)
    obtain ⟨x1, hx1⟩ : ∃ x, x = bikN n D d := ⟨_, rfl⟩
    obtain ⟨x2, hx2⟩ : ∃ x, x = bikF n D d := ⟨_, rfl⟩
    obtain ⟨x3, hx3⟩ : ∃ x, x = fiN n D bike := ⟨_, rfl⟩
    obtain ⟨x4, hx4⟩ : ∃ x, x = fiF n D bike := ⟨_, rfl⟩
    go_wp2_with fail
    rw [← hx1, ← hx2, ← hx3, ← hx4]
    clear hx1 hx2 hx3 hx4
    go_region_held3 (fun X => X.cell? ⟨w.heap.size, 0, none⟩ = some (.slice A n c) ∧ X.cell? ⟨w.heap.size, 1, none⟩ = some (.slice A' n c') ∧ Bi w p A c A' c' n D X) (first | exact GD.out | exact s14_bel (by assumption) (by assumption))
      (first
        | (go_at_call 20; refine (free20N p n D l1 m1 _ (s14b (by assumption)).sta HL1.out HM1.out).mono ?_; rintro x w20 ⟨A20, c20, rfl, hs20, _, hb20⟩; have S20 := Lib.hid hs20; clear hs20)
        | (go_at_call 29; refine (free29N A A' c c' n D l1 m1 _ (s14b (by assumption)).rf HI.out h2 HL1.out HM1.out).mono ?_; rintro x w29 ⟨A29, c29, rfl, hs29, _, hb29⟩; have S29 := Lib.hid hs29; have S20' := Lib.hid (S20.out.bel hb29); clear hs29 S20)
        | (go_at_call_of 23 A20; refine (same23 A20 A29 m1 c20 c29 (getI l1) _ S20'.out S29.out (by omega)).mono ?_; rintro x w23 ⟨rfl, hb23⟩)
        | (go_at_call 21; refine (bikes21N p n D l2 m2 _ (s14b (by assumption)).sta HL2.out HM2.out).mono ?_; rintro x w21 ⟨A21, c21, rfl, hs21, _, hb21⟩; have S21 := Lib.hid hs21; clear hs21)
        | (go_at_call 30; refine (bikes30N A A' c c' n D l2 m2 _ (s14b (by assumption)).rf HI.out h2 HL2.out HM2.out).mono ?_; rintro x w30 ⟨A30, c30, rfl, hs30, _, hb30⟩; have S30 := Lib.hid hs30; have S21' := Lib.hid (S21.out.bel hb30); clear hs30 S21)
        | (go_at_call_of 23 A21; refine (same23 A21 A30 m2 c21 c30 (getI l2) _ S21'.out S30.out (by omega)).mono ?_; rintro x w24 ⟨rfl, hb24⟩))
    all_goals
      rename_i hH
      have B5 := Lib.hid (s14b hH).bel
      clear hH
      go_wp2_with fail
      go_ret
      exact ⟨rfl, B5.out⟩
end Go.Proofs.Ytdallemhhdfemaa
