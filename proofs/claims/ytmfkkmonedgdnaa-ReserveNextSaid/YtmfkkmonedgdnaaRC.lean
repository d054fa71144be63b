/- The walk of Check of the reference. -/
import Derived.Test.YtmfkkmonedgdnaaRB
import Derived.Deep.RegionWith
namespace Go.Proofs.Ytmfkkmonedgdnaa
open Go.RowKit
set_option maxHeartbeats 4000000
set_option maxRecDepth 100000
set_option linter.unusedVariables false

/-- whether one of the first r collides with the k-th -/
def BusyP (bz : Bool) (g : Nat → Nat → Int) (r k : Nat) : Prop := bz = true ↔ ∃ j, j < r ∧ colG g j k
theorem busy_0 (g : Nat → Nat → Int) (k : Nat) : BusyP false g 0 k := ⟨fun h => (by cases h), fun ⟨j, hj, _⟩ => absurd hj (by omega)⟩
theorem busy_t {g : Nat → Nat → Int} {r k : Nat} (h : colG g r k) : BusyP true g (r + 1) k := ⟨fun _ => ⟨r, by omega, h⟩, fun _ => rfl⟩
theorem busy_keep {g : Nat → Nat → Int} {r k : Nat} (h : BusyP true g r k) : BusyP true g (r + 1) k := ⟨fun _ => (by obtain ⟨j, hj, hc⟩ := h.1 rfl; exact ⟨j, by omega, hc⟩), fun _ => rfl⟩
theorem busy_f {g : Nat → Nat → Int} {r k : Nat} (h : BusyP false g r k) (hc : ¬ colG g r k) : BusyP false g (r + 1) k := by
  refine ⟨fun h => (by cases h), fun ⟨j, hj, hjc⟩ => ?_⟩
  by_cases he : j = r
  · subst he; exact absurd hjc hc
  · exact h.2 ⟨j, by omega, hjc⟩

theorem check15 (A : Option Addr) (n c : Nat) (g : Nat → Nat → Int) (w : World) (hr : FlatRd w A n 5 g) (m1 : n ≤ 9223372036854775807) :
    Calls Try.prog 15 #[.slice A n c] w fun x w' => x = .returned (.int .i64 (chkH n g)) ∧ Below w.heap.size w w' := by
  have Hr := Lib.hid hr
  clear hr
  by_cases h512 : 512 < n
  · have HC := Lib.hid (show chkH n g = 8 from if_pos h512)
    go_enter Try.func15, Try.ntmps15
    go_wp2_with fail
    go_ret
    exact ⟨ret_int HC.out.symm, Below.refl _ _⟩
  have HC := Lib.hid (show chkH n g = scanR g n from if_neg h512)
  have hn : n ≤ 512 := by omega
  clear h512
  go_enter Try.func15, Try.ntmps15
  go_wp2_with fail
  go_loopw [3] (fun i wr => ∃ k : Nat, k ≤ n ∧ i = .int .i64 k ∧ Hid (scanR g k = 0) ∧ Hid (Below w.heap.size w wr)) (fun i _ => n - (intOf i).toNat)
  case atStart => exact ⟨0, by omega, rfl, Lib.hid rfl, Lib.hid (Below.refl _ _)⟩
  case round =>
    obtain ⟨k, hk, rfl, Hs, Hb⟩ := hrel
    by_cases hlt : k < n
    case neg =>
      have hkn : k = n := by omega
      subst hkn
      go_wp2_with fail
      go_ret
      exact ⟨ret_int (by rw [HC.out, Hs.out]), Hb.out⟩
    obtain ⟨b, o, rfl, hbw⟩ := Hr.out.at_ (by omega)
    have HR := Lib.hid (Hr.out.bel Hb.out)
    obtain ⟨r0, r1, r2, r3, r4⟩ := HR.out.row k hlt
    have hltI : (k : Int) < (n : Int) := by omega
    obtain ⟨wo, hwo⟩ : ∃ wo, wo = wr := ⟨_, rfl⟩
    subst hwo
    have B1 := Lib.hid (Hb.out.alloc Hb.out.size (.cells #[.int .i64 (g k 0), .int .i64 (g k 1), .int .i64 (g k 2), .int .i64 (g k 3), .int .i64 (g k 4)] 26))
    by_cases hg : rngG g k
    case neg =>
      have HE := Lib.hid (scanR_hit hlt Hs.out (rowE_1 hg) (by omega))
      have hd : g k 0 < 1 ∨ (1 ≤ g k 0 ∧ 1000000 < g k 0) ∨ (1 ≤ g k 0 ∧ g k 0 ≤ 1000000 ∧ g k 1 < 0) ∨ (1 ≤ g k 0 ∧ g k 0 ≤ 1000000 ∧ 0 ≤ g k 1 ∧ 128 ≤ g k 1) ∨ (1 ≤ g k 0 ∧ g k 0 ≤ 1000000 ∧ 0 ≤ g k 1 ∧ g k 1 < 128 ∧ g k 2 < 0) ∨ (1 ≤ g k 0 ∧ g k 0 ≤ 1000000 ∧ 0 ≤ g k 1 ∧ g k 1 < 128 ∧ 0 ≤ g k 2 ∧ 128 ≤ g k 2) ∨ (1 ≤ g k 0 ∧ g k 0 ≤ 1000000 ∧ 0 ≤ g k 1 ∧ g k 1 < 128 ∧ 0 ≤ g k 2 ∧ g k 2 < 128 ∧ g k 3 < 0) ∨ (1 ≤ g k 0 ∧ g k 0 ≤ 1000000 ∧ 0 ≤ g k 1 ∧ g k 1 < 128 ∧ 0 ≤ g k 2 ∧ g k 2 < 128 ∧ 0 ≤ g k 3 ∧ g k 4 ≤ g k 3) ∨ (1 ≤ g k 0 ∧ g k 0 ≤ 1000000 ∧ 0 ≤ g k 1 ∧ g k 1 < 128 ∧ 0 ≤ g k 2 ∧ g k 2 < 128 ∧ 0 ≤ g k 3 ∧ g k 3 < g k 4 ∧ 4294944000 < g k 4) := by
        unfold rngG rngP at hg; omega
      clear hg
      rcases hd with d1 | ⟨d1, d2⟩ | ⟨d1, d2, d3⟩ | ⟨d1, d2, d3, d4⟩ | ⟨d1, d2, d3, d4, d5⟩ | ⟨d1, d2, d3, d4, d5, d6⟩ | ⟨d1, d2, d3, d4, d5, d6, d7⟩ | ⟨d1, d2, d3, d4, d5, d6, d7, d8⟩ | ⟨d1, d2, d3, d4, d5, d6, d7, d8, d9⟩
      all_goals
        go_wp2_with fail
        go_ret
        exact ⟨ret_int (by rw [HC.out, HE.out]), B1.out⟩
    have Hg := Lib.hid hg
    obtain ⟨d1, d2, d3, d4, d5, d6, d7, d8, d9⟩ := hg
    have KH := Lib.hid (K5.new wo (g k 0) (g k 1) (g k 2) (g k 3) (g k 4) 26)
    go_wp2_with fail
    clear d1 d2 d3 d4 d5 d6 d7 d9
    clear r0 r1 r2 r3 r4
    obtain ⟨w2, hw2⟩ : ∃ w2, w2 = wo.alloc (.cells #[.int .i64 (g k 0), .int .i64 (g k 1), .int .i64 (g k 2), .int .i64 (g k 3), .int .i64 (g k 4)] 26) := ⟨_, rfl⟩
    rw [← hw2] at B1 KH
    try rw [← hw2]
    clear hw2
    go_loopw [6, 5] (fun i v wr => ∃ r : Nat, r ≤ k ∧ i = .int .i64 r ∧ (∃ bz : Bool, v = .bool bz ∧ Hid (BusyP bz g r k)) ∧ Hid (∀ j, j < r → g j 0 ≠ g k 0) ∧ Hid (Below w2.heap.size w2 wr)) (fun i _ _ => k - (intOf i).toNat)
    case atStart => exact ⟨0, by omega, rfl, ⟨false, rfl, Lib.hid (busy_0 g k)⟩, Lib.hid (fun j hj => absurd hj (by omega)), Lib.hid (Below.refl _ _)⟩
    case round =>
      obtain ⟨r, hrk, rfl, ⟨bz, rfl, Hz⟩, Ht, Hi⟩ := hrel
      by_cases hlr : r < k
      case neg =>
        have hrk2 : r = k := by omega
        subst hrk2
        cases bz with
        | true =>
          obtain ⟨j, hj, hjc⟩ := Hz.out.1 rfl
          have HE := Lib.hid (scanR_hit hlt Hs.out (rowE_22 Hg.out Ht.out hj hjc) (by omega))
          have B3 := Lib.hid (bel_tr B1.out Hi.out (Nat.le_refl _))
          clear hjc
          go_wp2_with fail
          go_ret
          exact ⟨ret_int (by rw [HC.out, HE.out]), B3.out⟩
        | false =>
          have HE := Lib.hid (scanR_next Hs.out (rowE_0 Hg.out Ht.out (fun j hj hc => by have := Hz.out.2 ⟨j, hj, hc⟩; cases this)))
          go_wp2_with fail
          go_roundw
          case rel => exact ⟨r + 1, by omega, by go_num, HE, Lib.hid (bel_tr B1.out Hi.out (Nat.le_refl _))⟩
          case measure => simp [intOf]; omega
      have HR2 := Lib.hid (Hr.out.bel (bel_tr B1.out Hi.out (Nat.le_refl _)))
      obtain ⟨r0, r1, r2, r3, r4⟩ := HR2.out.row r (by omega)
      have hlrI : (r : Int) < (k : Int) := by omega
      have hlrN : (r : Int) < (n : Int) := by omega
      obtain ⟨z, e0, e1, e2, e3, e4⟩ := KH.out.bel Hi.out
      by_cases h6 : g r 0 = g k 0
      case pos =>
        have q6 : (g r 0 == g k 0) = true := by simpa using h6
        have HE := Lib.hid (scanR_hit hlt Hs.out (rowE_6 Hg.out hlr h6) (by omega))
        have B3 := Lib.hid (bel_tr B1.out Hi.out (Nat.le_refl _))
        clear h6
        go_wp2_with fail
        go_quiet (fail)
        go_wp2_with fail
        go_ret
        exact ⟨ret_int (by rw [HC.out, HE.out]), below_drewN B3.out _⟩
      have q6 : (g r 0 == g k 0) = false := by simpa using h6
      have H6 : Hid (∀ j, j < r + 1 → g j 0 ≠ g k 0) := Lib.hid (fun j hj => by by_cases he : j = r; · subst he; exact h6
                                                                                · exact Ht.out j (by omega))
      clear h6
      cases bz with
      | true =>
        have HZ := Lib.hid (busy_keep Hz.out)
        go_wp2_with fail
        go_quiet (fail)
        go_wp2_with fail
        go_quiet (fail)
        go_wp2_with fail
        go_roundw
        case rel => exact ⟨r + 1, by omega, by go_num, ⟨true, rfl, HZ⟩, H6, Lib.hid (below_drewN Hi.out _)⟩
        case measure => simp [intOf]; omega
      | false =>
        have hrr := (rowE_ok (scanR_ok Hs.out r (by omega))).1
        have HQ := Lib.hid (rcol_eq (b := g r 1) (c := g r 2) (b' := g k 1) (c' := g k 2) hrr.2.2.2.2.2.2.2.1 d8)
        by_cases hc : colG g r k
        · have QC := Lib.hid (colB_t hc)
          have HZ := Lib.hid (busy_t hc)
          clear hc hrr
          go_wp2_with fail
          go_quiet (fail)
          go_wp2_with fail
          go_region_with ((go_at_call 29; refine (collide29 _ _ _ _ _ _ _ _ _ _ _).mono ?_; rw [HQ.out, QC.out]; rintro x w4 ⟨rfl, hb0⟩; have B4 := Lib.hid (bel_tr (below_drewN Hi.out _).drew hb0 (Nat.le_refl _)); clear hb0))
          all_goals
            go_wp2_with fail
            go_roundw
            case rel => exact ⟨r + 1, by omega, by go_num, ⟨true, rfl, HZ⟩, H6, B4⟩
            case measure => simp [intOf]; omega
        · have QC := Lib.hid (colB_f hc)
          have HZ := Lib.hid (busy_f Hz.out hc)
          clear hc hrr
          go_wp2_with fail
          go_quiet (fail)
          go_wp2_with fail
          go_region_with ((go_at_call 29; refine (collide29 _ _ _ _ _ _ _ _ _ _ _).mono ?_; rw [HQ.out, QC.out]; rintro x w4 ⟨rfl, hb0⟩; have B4 := Lib.hid (bel_tr (below_drewN Hi.out _).drew hb0 (Nat.le_refl _)); clear hb0))
          all_goals
            go_wp2_with fail
            go_roundw
            case rel => exact ⟨r + 1, by omega, by go_num, ⟨false, rfl, HZ⟩, H6, B4⟩
            case measure => simp [intOf]; omega
end Go.Proofs.Ytmfkkmonedgdnaa
