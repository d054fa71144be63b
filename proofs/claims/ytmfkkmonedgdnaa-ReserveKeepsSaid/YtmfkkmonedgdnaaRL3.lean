/- The walk of the law ReserveKeeps. -/
import Derived.Test.YtmfkkmonedgdnaaRM
import Derived.Test.YtmfkkmonedgdnaaRM4
import Derived.Test.YtmfkkmonedgdnaaRL1
namespace Go.Proofs.Ytmfkkmonedgdnaa
open Go.RowKit
set_option maxHeartbeats 40000000
set_option maxRecDepth 100000
set_option linter.unusedVariables false

theorem same_cut {n : Nat} {g : Nat → Nat → Int} {a b d e f : Int} : sameB n n (cutG n (addG n g a b d e f)) g = true := sameB_t rfl (fun i hi => cut_add hi)
/-- the block of the new reservation, and the block of the question -/
theorem two_boxes {w w1 : World} {a b d e f x y : Int} (h : Below ((w.alloc (.cells #[.int .i64 a, .int .i64 b, .int .i64 d, .int .i64 e, .int .i64 f] 26)).alloc (.cells #[.int .i64 x, .int .i64 y] 37)).heap.size ((w.alloc (.cells #[.int .i64 a, .int .i64 b, .int .i64 d, .int .i64 e, .int .i64 f] 26)).alloc (.cells #[.int .i64 x, .int .i64 y] 37)) w1) :
    K5 w1 w.heap.size a b d e f := ((K5.new w a b d e f 26).alloc _).bel h

theorem law7_any (A : Option Addr) (n c : Nat) (g : Nat → Nat → Int) (a b d e f bike t : Int) (w : World) (hr : FlatRd w A n 5 g) (m1 : n ≤ 9223372036854775807) (hnc : n ≤ c) :
    Calls Try.prog 7 #[.slice A n c, hv a b d e f, .agg #[.int .i64 bike, .int .i64 t]] w fun x w' => x = .returned (.bool true) ∧ Below w.heap.size w w' := by
  have Hr := Lib.hid hr
  clear hr
  have B00 := Lib.hid ((box_bel w (.cells #[.int .i64 a, .int .i64 b, .int .i64 d, .int .i64 e, .int .i64 f] 26)).alloc (by simp) (.cells #[.int .i64 bike, .int .i64 t] 37))
  have K00 := Lib.hid ((K5.new w a b d e f 26).alloc (.cells #[.int .i64 bike, .int .i64 t] 37))
  obtain ⟨w0, hw0⟩ : ∃ w0, w0 = (w.alloc (.cells #[.int .i64 a, .int .i64 b, .int .i64 d, .int .i64 e, .int .i64 f] 26)).alloc (.cells #[.int .i64 bike, .int .i64 t] 37) := ⟨_, rfl⟩
  have q0 := new_cell (w.alloc (.cells #[.int .i64 a, .int .i64 b, .int .i64 d, .int .i64 e, .int .i64 f] 26)) #[.int .i64 bike, .int .i64 t] 37 0
  have q1 := new_cell (w.alloc (.cells #[.int .i64 a, .int .i64 b, .int .i64 d, .int .i64 e, .int .i64 f] 26)) #[.int .i64 bike, .int .i64 t] 37 1
  have hsz : (w.alloc (.cells #[.int .i64 a, .int .i64 b, .int .i64 d, .int .i64 e, .int .i64 f] 26)).heap.size = w.heap.size + 1 := by simp
  rw [hsz] at q0 q1
  simp only [List.getElem?_toArray, List.getElem?_cons_zero, List.getElem?_cons_succ] at q0 q1
  rw [← hw0] at B00 K00 q0 q1
  have HW0 := Lib.hid hw0
  clear hw0
  clear hsz
  by_cases h60 : 60 < n
  case pos =>
    go_enter Try.func7, Try.ntmps7
    go_wp2_with fail
    rw [← HW0.out]
    go_quiet (fail)
    go_wp2_with fail
    refine (awake_any _).mono ?_
    rintro x w2 ⟨rfl, hb0⟩
    have B1 := Lib.hid (bel_tr (below_drewN B00.out _) hb0 (Nat.le_refl _))
    clear hb0
    go_wp2_with fail
    go_ret
    exact ⟨rfl, B1.out⟩
  have hn : n ≤ 60 := by omega
  clear h60
  by_cases hE : mkE n g a b d e f = 0
  case neg =>
    have HN := Lib.hid (show mkN n (mkE n g a b d e f) = 0 from if_neg hE)
    have qE : (mkE n g a b d e f != 0) = true := by simpa using hE
    clear hE
    go_enter Try.func7, Try.ntmps7
    go_wp2_with fail
    rw [← HW0.out]
    go_quiet (fail)
    obtain ⟨z, k0, k1, k2, k3, k4⟩ := K00.out
    go_wp2_with fail
    refine (make12 A n c g a b d e f _ ((Hr.out.bel B00.out).drewN _) m1 hnc).mono ?_
    rw [HN.out]
    rintro x w1 ⟨⟨A1, c1, rfl, hrd, hc1⟩, hb0⟩
    have B1 := Lib.hid (bel_tr (below_drewN B00.out _) hb0 (Nat.le_refl _))
    clear hb0 hrd
    go_wp2_with fail
    refine (awake_any _).mono ?_
    rintro x w2 ⟨rfl, hb0⟩
    have B2 := Lib.hid (bel_tr B1.out hb0 (Nat.le_refl _))
    clear hb0
    go_wp2_with fail
    go_ret
    exact ⟨rfl, B2.out⟩
  obtain ⟨ok0, ok1⟩ := mkE_ok hE
  have HE := Lib.hid (And.intro hE (show mkN n 0 = n + 1 from rfl))
  have Hok1 := Lib.hid ok1
  obtain ⟨e1, e2⟩ := keeps_end ok1
  have HF := Lib.hid (And.intro e1 (And.intro (show enN (n + 1) (addG n g a b d e f) a e 0 = n by unfold enN; rw [if_pos rfl, e2, if_pos (Int.le_refl _)]; rfl) (show enG (n + 1) (addG n g a b d e f) a e = cutG n (addG n g a b d e f) by unfold enG; rw [e2, if_pos (Int.le_refl _), last_new, Int.toNat_natCast])))
  have HC1 := Lib.hid (chkH_mk ok1)
  have hcs : ∃ (W : Int) (H : Bool), Hid (byR (n + 1) (addG n g a b d e f) bike t = W ∧ byF (n + 1) (addG n g a b d e f) bike t = H) ∧ (((bike == b) = true ∧ e ≤ t ∧ t < f ∧ W = d ∧ H = true) ∨ (((bike == b) = false ∨ ((bike == b) = true ∧ t < e) ∨ ((bike == b) = true ∧ e ≤ t ∧ f ≤ t)) ∧ W = byR n g bike t ∧ H = byF n g bike t)) := by
    by_cases hb : bike = b
    · have qb : (bike == b) = true := by simpa using hb
      by_cases h1 : e ≤ t
      · by_cases h2 : t < f
        · refine ⟨d, true, Lib.hid ?_, .inl ⟨qb, h1, h2, rfl, rfl⟩⟩
          rw [hb]; exact keeps_t ok1 h1 h2
        · exact ⟨_, _, Lib.hid (keeps_f (fun x => h2 x.2.2)), .inr ⟨.inr (.inr ⟨qb, h1, by omega⟩), rfl, rfl⟩⟩
      · exact ⟨_, _, Lib.hid (keeps_f (fun x => h1 x.2.1)), .inr ⟨.inr (.inl ⟨qb, by omega⟩), rfl, rfl⟩⟩
    · exact ⟨_, _, Lib.hid (keeps_f (fun x => hb x.1)), .inr ⟨.inl (by simpa using hb), rfl, rfl⟩⟩
  clear hE ok0 ok1 e1 e2
  obtain ⟨W, H, HW, hcs⟩ := hcs
  have hcs2 : ((bike == b) = true ∧ e ≤ t ∧ t < f ∧ W = d ∧ H = true) ∨ ((bike == b) = false ∧ W = byR n g bike t ∧ H = byF n g bike t) ∨ ((bike == b) = true ∧ t < e ∧ W = byR n g bike t ∧ H = byF n g bike t) ∨ ((bike == b) = true ∧ e ≤ t ∧ f ≤ t ∧ W = byR n g bike t ∧ H = byF n g bike t) := by
    rcases hcs with h | ⟨h | h | h, h2, h3⟩
    · exact .inl h
    · exact .inr (.inl ⟨h, h2, h3⟩)
    · exact .inr (.inr (.inl ⟨h.1, h.2, h2, h3⟩))
    · exact .inr (.inr (.inr ⟨h.1, h.2.1, h.2.2, h2, h3⟩))
  clear hcs
  rcases hcs2 with ⟨p1, p2, p3, p4, p5⟩ | ⟨p1, p4, p5⟩ | ⟨p1, p2, p4, p5⟩ | ⟨p1, p2, p3, p4, p5⟩
  all_goals
    have p4' := p4.symm
    subst p4'
    subst p5
    go_enter Try.func7, Try.ntmps7
    go_wp2_with fail
    rw [← HW0.out]
    go_quiet (fail)
    obtain ⟨z, k0, k1, k2, k3, k4⟩ := K00.out
    go_wp2_with fail
    refine (make12 A n c g a b d e f _ ((Hr.out.bel B00.out).drewN _) m1 hnc).mono ?_
    rw [HE.out.1, HE.out.2]
    rintro x w1 ⟨⟨A1, c1, rfl, hrd, hc1⟩, hb0⟩
    have B1 := Lib.hid (bel_tr (below_drewN B00.out _) hb0 (Nat.le_refl _))
    have K1 := Lib.hid ((K00.out.bel (below_drewN (Below.refl _ _) _)).bel hb0)
    have R1 := Lib.hid hrd
    clear hb0 hrd z k0 k1 k2 k3 k4
    go_wp2_with fail
    refine (by19 A n c g bike t _ (Hr.out.bel B1.out) m1).mono ?_
    rintro x w2 ⟨rfl, hb0⟩
    have B2 := Lib.hid (bel_tr B1.out hb0 (Nat.le_refl _))
    have K2 := Lib.hid (K1.out.bel hb0)
    have R2 := Lib.hid (R1.out.bel hb0)
    clear hb0 B1 K1 R1
    go_wp2_with fail
    refine (by19 A1 (n + 1) c1 (addG n g a b d e f) bike t _ R2.out (by omega)).mono ?_
    rw [HW.out.1, HW.out.2]
    rintro x w3 ⟨rfl, hb0⟩
    have B3 := Lib.hid (bel_tr B2.out hb0 (Nat.le_refl _))
    have K3' := Lib.hid (K2.out.bel hb0)
    have R3 := Lib.hid (R2.out.bel hb0)
    clear hb0 B2 K2 R2
    obtain ⟨z, k0, k1, k2, k3, k4⟩ := K3'.out
    go_wp2_with fail
    refine (end17 A1 (n + 1) c1 (addG n g a b d e f) a e _ R3.out (by omega) hc1).mono ?_
    rw [HF.out.1, HF.out.2.1, HF.out.2.2]
    rintro x w4 ⟨⟨A2, c2, rfl, hrd, hc2⟩, hb0⟩
    have B4 := Lib.hid (bel_tr B3.out hb0 (Nat.le_refl _))
    have R4 := Lib.hid (R3.out.bel hb0)
    have S4 := Lib.hid hrd
    clear hb0 hrd B3 R3 K3' z k0 k1 k2 k3 k4
    go_wp2_with fail
    refine (check14 A1 (n + 1) c1 (addG n g a b d e f) _ R4.out (by omega) hc1).mono ?_
    rw [HC1.out]
    rintro x w5 ⟨rfl, hb0⟩
    have B5 := Lib.hid (bel_tr B4.out hb0 (Nat.le_refl _))
    have S5 := Lib.hid (S4.out.bel hb0)
    clear hb0 B4 R4 S4
    go_wp2_with fail
    refine (same16 A2 A n c2 n c (cutG n (addG n g a b d e f)) g _ S5.out (Hr.out.bel B5.out) (by omega) m1).mono ?_
    rw [same_cut]
    rintro x w6 ⟨rfl, hb0⟩
    have B6 := Lib.hid (bel_tr B5.out hb0 (Nat.le_refl _))
    clear hb0 B5 S5
    go_wp2_with fail
    refine (awake_any _).mono ?_
    rintro x w7 ⟨rfl, hb0⟩
    have B7 := Lib.hid (bel_tr B6.out hb0 (Nat.le_refl _))
    clear hb0
    go_wp2_with fail
    go_ret
    exact ⟨by first | rfl | simp, B7.out⟩
end Go.Proofs.Ytmfkkmonedgdnaa
