/- The walks of Make and of Same. -/
import Derived.Test.YtmfkkmonedgdnaaRD
import Derived.Test.YtmfkkmonedgdnaaRB
namespace Go.Proofs.Ytmfkkmonedgdnaa
open Go.RowKit
set_option maxHeartbeats 4000000
set_option maxRecDepth 100000
set_option linter.unusedVariables false

/-- a list of n reservations and an error were returned -/
def ListPost (w : World) (n : Nat) (g : Nat → Nat → Int) (E : Int) (x : Ending) (w' : World) : Prop :=
  (∃ A c, x = .returned (.tuple #[.slice A n c, .int .i64 E]) ∧ FlatRd w' A n 5 g ∧ n ≤ c) ∧ Below w.heap.size w w'
theorem ListPost.mk {w : World} {n : Nat} {g : Nat → Nat → Int} {E : Int} {x : Ending} {w' : World} {A : Option Addr} {c : Nat} (hx : x = .returned (.tuple #[.slice A n c, .int .i64 E])) (hr : FlatRd w' A n 5 g) (hc : n ≤ c) (hb : Below w.heap.size w w') : ListPost w n g E x w' :=
  ⟨⟨A, c, hx, hr, hc⟩, hb⟩
theorem ListPost.nil {w : World} {g : Nat → Nat → Int} {E E' : Int} {n : Nat} {x : Ending} {w' : World} (hn : n = 0) (hE : E = E') (hx : x = .returned (.tuple #[.slice none 0 0, .int .i64 E'])) (hb : Below w.heap.size w w') : ListPost w n g E x w' := by
  subst hn hE
  exact ⟨⟨none, 0, hx, fun h => absurd h (by omega), Nat.le_refl _⟩, hb⟩
noncomputable def mkN (n : Nat) (E : Int) : Nat := if E = 0 then n + 1 else 0

theorem make12 (A : Option Addr) (n c : Nat) (g : Nat → Nat → Int) (a b d e f : Int) (w : World) (hr : FlatRd w A n 5 g) (m1 : n ≤ 9223372036854775807) (hnc : n ≤ c) :
    Calls Try.prog 12 #[.slice A n c, hv a b d e f] w (ListPost w (mkN n (mkE n g a b d e f)) (addG n g a b d e f) (mkE n g a b d e f)) := by
  have Hr := Lib.hid hr
  clear hr
  have BX := Lib.hid (box_bel w (.cells #[.int .i64 a, .int .i64 b, .int .i64 d, .int .i64 e, .int .i64 f] 26))
  have KX := Lib.hid (K5.new w a b d e f 26)
  obtain ⟨w0, hw0⟩ : ∃ w0, w0 = w.alloc (.cells #[.int .i64 a, .int .i64 b, .int .i64 d, .int .i64 e, .int .i64 f] 26) := ⟨_, rfl⟩
  rw [← hw0] at BX KX
  have HW := Lib.hid hw0
  clear hw0
  by_cases hc : chkH n g = 0
  case neg =>
    have HE := Lib.hid (show mkE n g a b d e f = chkH n g from if_neg hc)
    have HN := Lib.hid (show mkN n (mkE n g a b d e f) = 0 by rw [HE.out]; exact if_neg hc)
    have qc : (chkH n g != 0) = true := by simpa using hc
    clear hc
    go_enter Try.func12, Try.ntmps12
    go_wp2_with fail
    rw [← HW.out]
    refine (check14 A n c g w0 (Hr.out.bel BX.out) m1 hnc).mono ?_
    rintro x w1 ⟨rfl, hb0⟩
    have B1 := Lib.hid (bel_tr BX.out hb0 (Nat.le_refl _))
    clear hb0
    go_wp2_with fail
    go_ret2
    exact ListPost.nil HN.out HE.out rfl B1.out
  have okc := chkH_ok hc
  have hn := okc.len
  have HC := Lib.hid hc
  have HE := Lib.hid (show mkE n g a b d e f = chkH (n + 1) (addG n g a b d e f) from if_pos hc)
  clear okc hc
  go_enter Try.func12, Try.ntmps12
  go_wp2_with fail
  rw [← HW.out]
  refine (check14 A n c g w0 (Hr.out.bel BX.out) m1 hnc).mono ?_
  rw [HC.out]
  rintro x w1 ⟨rfl, hb0⟩
  have B1 := Lib.hid (bel_tr BX.out hb0 (Nat.le_refl _))
  have K1 := Lib.hid (KX.out.bel hb0)
  clear hb0
  go_wp2_with fail
  refine (own26 A n c 1 g w1 (Hr.out.bel B1.out) (by omega) (by omega)).mono ?_
  rintro x w2 ⟨rfl, hown, hb0⟩
  have B2 := Lib.hid (bel_tr B1.out hb0 (Nat.le_refl _))
  have K2 := Lib.hid (K1.out.bel hb0)
  have O2 := Lib.hid hown
  have hpz : w.heap.size ≤ w1.heap.size := B1.out.size
  have hp2 : w1.heap.size < w2.heap.size := O2.out.lt
  clear hb0 hown
  have z0 := O2.out.cell n 0 (by omega) (by omega)
  have z1 := O2.out.cell n 1 (by omega) (by omega)
  have z2 := O2.out.cell n 2 (by omega) (by omega)
  have z3 := O2.out.cell n 3 (by omega) (by omega)
  have z4 := O2.out.cell n 4 (by omega) (by omega)
  rw [Nat.add_zero] at z0
  have f0 := O2.out.thaw (n * 5)
  have f1 := O2.out.thaw (n * 5 + 1)
  have f2 := O2.out.thaw (n * 5 + 2)
  have f3 := O2.out.thaw (n * 5 + 3)
  have f4 := O2.out.thaw (n * 5 + 4)
  obtain ⟨zz, k0, k1, k2, k3, k4⟩ := K2.out
  have hnI : (n : Int) < (n : Int) + 1 := by omega
  have hO3 := ((((O2.out.set n 0 (n * 5) (by omega) (by omega) (by omega) a).set n 1 (n * 5 + 1) (by omega) (by omega) (by omega) b).set n 2 (n * 5 + 2) (by omega) (by omega) (by omega) d).set n 3 (n * 5 + 3) (by omega) (by omega) (by omega) e).set n 4 (n * 5 + 4) (by omega) (by omega) (by omega) f
  have hO4 := hO3.congr (g' := addG n g a b d e f) (fun i j hi hj => by
    unfold addG
    by_cases hin : i < n
    · have : ¬ i = n := by omega
      simp [hin, this]
    · have : i = n := by omega
      subst this
      match j, hj with
      | 0, _ => simp
      | 1, _ => simp
      | 2, _ => simp
      | 3, _ => simp
      | 4, _ => simp)
  have hB3 := ((((B2.out.setCell (p := ⟨w1.heap.size, n * 5, none⟩) hpz (.int .i64 a)).setCell (p := ⟨w1.heap.size, n * 5 + 1, none⟩) hpz (.int .i64 b)).setCell (p := ⟨w1.heap.size, n * 5 + 2, none⟩) hpz (.int .i64 d)).setCell (p := ⟨w1.heap.size, n * 5 + 3, none⟩) hpz (.int .i64 e)).setCell (p := ⟨w1.heap.size, n * 5 + 4, none⟩) hpz (.int .i64 f)
  obtain ⟨w3, hw3⟩ : ∃ w3, w3 = ((((w2.setCell ⟨w1.heap.size, n * 5, none⟩ (.int .i64 a)).setCell ⟨w1.heap.size, n * 5 + 1, none⟩ (.int .i64 b)).setCell ⟨w1.heap.size, n * 5 + 2, none⟩ (.int .i64 d)).setCell ⟨w1.heap.size, n * 5 + 3, none⟩ (.int .i64 e)).setCell ⟨w1.heap.size, n * 5 + 4, none⟩ (.int .i64 f) := ⟨_, rfl⟩
  rw [← hw3] at hO4 hB3
  have O4 := Lib.hid hO4
  have B3 := Lib.hid hB3
  have HW3 := Lib.hid hw3
  clear hO3 hO4 hB3 hw3
  go_wp2_with fail
  rw [← HW3.out]
  refine (check14 (some ⟨w1.heap.size, 0, none⟩) (n + 1) (n + 1) (addG n g a b d e f) w3 O4.out.rd (by omega) (Nat.le_refl _)).mono ?_
  rintro x w4 ⟨rfl, hb0⟩
  have B4 := Lib.hid (bel_tr B3.out hb0 (Nat.le_refl _))
  have O5 := Lib.hid (O4.out.bel hb0)
  clear hb0 z0 z1 z2 z3 z4 f0 f1 f2 f3 f4 k0 k1 k2 k3 k4
  by_cases h2 : chkH (n + 1) (addG n g a b d e f) = 0
  · have q2 : (chkH (n + 1) (addG n g a b d e f) != 0) = false := by simpa using h2
    have HE2 := Lib.hid (HE.out.trans h2)
    have HN := Lib.hid (show mkN n (mkE n g a b d e f) = n + 1 by rw [HE2.out]; rfl)
    clear h2
    go_wp2_with fail
    go_ret2
    rw [HN.out, HE2.out]
    exact ListPost.mk rfl O5.out.rd (Nat.le_refl _) B4.out
  · have q2 : (chkH (n + 1) (addG n g a b d e f) != 0) = true := by simpa using h2
    have HN := Lib.hid (show mkN n (mkE n g a b d e f) = 0 by rw [HE.out]; exact if_neg h2)
    clear h2
    go_wp2_with fail
    go_ret2
    exact ListPost.nil HN.out HE.out rfl B4.out
end Go.Proofs.Ytmfkkmonedgdnaa
