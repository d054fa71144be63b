/- The walk of the law ReserveOnce. -/
import Derived.Test.YtmfkkmonedgdnaaRM
import Derived.Test.YtmfkkmonedgdnaaRM4
namespace Go.Proofs.Ytmfkkmonedgdnaa
open Go.RowKit
set_option maxHeartbeats 4000000
set_option maxRecDepth 100000
set_option linter.unusedVariables false

theorem law6_any (A : Option Addr) (n c : Nat) (g : Nat → Nat → Int) (t : Int) (w : World) (hr : FlatRd w A n 5 g) (m1 : n ≤ 9223372036854775807) (hnc : n ≤ c) :
    Calls Try.prog 6 #[.slice A n c, .int .i64 t] w fun x w' => x = .returned (.bool true) ∧ Below w.heap.size w w' := by
  have Hr := Lib.hid hr
  clear hr
  by_cases h60 : 60 < n
  case pos =>
    go_enter Try.func6, Try.ntmps6
    go_wp2_with fail
    refine (awake_any _).mono ?_
    rintro x w2 ⟨rfl, hb0⟩
    have B1 := Lib.hid hb0
    clear hb0
    go_wp2_with fail
    go_ret
    exact ⟨rfl, B1.out⟩
  have hn : n ≤ 60 := by omega
  clear h60
  by_cases hc : chkH n g = 0
  case neg =>
    have qc : (chkH n g != 0) = true := by simpa using hc
    clear hc
    go_enter Try.func6, Try.ntmps6
    go_wp2_with fail
    refine (check14 A n c g w Hr.out m1 hnc).mono ?_
    rintro x w1 ⟨rfl, hb0⟩
    have B1 := Lib.hid hb0
    clear hb0
    go_wp2_with fail
    refine (awake_any _).mono ?_
    rintro x w2 ⟨rfl, hb0⟩
    have B2 := Lib.hid (bel_tr B1.out hb0 (Nat.le_refl _))
    clear hb0
    go_wp2_with fail
    go_ret
    exact ⟨rfl, B2.out⟩
  have Hok := Lib.hid (chkH_ok hc)
  have HC := Lib.hid hc
  clear hc
  go_enter Try.func6, Try.ntmps6
  go_wp2_with fail
  refine (check14 A n c g w Hr.out m1 hnc).mono ?_
  rw [HC.out]
  rintro x w1 ⟨rfl, hb0⟩
  have B1 := Lib.hid hb0
  clear hb0
  go_wp2_with fail
  go_loopw [5] (fun i wr => ∃ k : Nat, k ≤ n ∧ i = .int .i64 k ∧ Hid (Below w.heap.size w wr)) (fun i _ => n - (intOf i).toNat)
  case atStart => exact ⟨0, by omega, rfl, B1⟩
  case round =>
    obtain ⟨k, hk, rfl, Hb⟩ := hrel
    by_cases hlt : k < n
    case neg =>
      have hkn : k = n := by omega
      subst hkn
      have hltI : ¬ (k : Int) < (k : Int) := by omega
      go_wp2_with fail
      refine (awake_any _).mono ?_
      rintro x w2 ⟨rfl, hb0⟩
      have B2 := Lib.hid (bel_tr Hb.out hb0 (Nat.le_refl _))
      clear hb0
      go_wp2_with fail
      go_ret
      exact ⟨rfl, B2.out⟩
    obtain ⟨b, o, rfl, hbw⟩ := Hr.out.at_ (by omega)
    obtain ⟨wo, hwo⟩ : ∃ wo, wo = wr := ⟨_, rfl⟩
    subst hwo
    have HR := Lib.hid (Hr.out.bel Hb.out)
    have B2 := Lib.hid (Hb.out.alloc Hb.out.size (.cells #[.int .i64 (g k 3), .int .i64 (g k 4)] 24))
    have HRa := Lib.hid (Hr.out.bel B2.out)
    obtain ⟨r0, r1, r2, r3, r4⟩ := HR.out.row k hlt
    obtain ⟨s0, s1, s2, s3, s4⟩ := HRa.out.row k hlt
    have hltI : (k : Int) < (n : Int) := by omega
    obtain ⟨d1, d2, -, -, -, -, d7, d8, d9⟩ := Hok.out.rng k hlt
    have hcs : t < g k 3 ∨ (g k 3 ≤ t ∧ g k 4 ≤ t) ∨ (g k 3 ≤ t ∧ t < g k 4) := by omega
    rcases hcs with h1 | ⟨h1, h2⟩ | ⟨h1, h2⟩
    · go_wp2_with fail
      go_roundw
      case rel => exact ⟨k + 1, by omega, by go_num, B2⟩
      case measure => simp [intOf]; omega
    · go_wp2_with fail
      go_roundw
      case rel => exact ⟨k + 1, by omega, by go_num, B2⟩
      case measure => simp [intOf]; omega
    have HBy := Lib.hid (once_by Hok.out hlt h1 h2)
    go_wp2_with fail
    refine (by19 (some ⟨b, o, none⟩) n c g (g k 1) t _ HRa.out m1).mono ?_
    rw [HBy.out.1, HBy.out.2]
    rintro x w3 ⟨rfl, hb0⟩
    have B3 := Lib.hid (bel_tr B2.out hb0 (Nat.le_refl _))
    have HRb := Lib.hid (HRa.out.bel hb0)
    clear hb0 r0 r1 r2 r3 r4 s0 s1 s2 s3 s4
    obtain ⟨r0, r1, r2, r3, r4⟩ := HRb.out.row k hlt
    go_wp2_with fail
    clear r0 r1 r2 r3 r4
    go_loopw [9] (fun i wr => ∃ q : Nat, q ≤ k ∧ i = .int .i64 q ∧ Hid (Below w.heap.size w wr)) (fun i _ => k - (intOf i).toNat)
    case atStart => exact ⟨0, by omega, rfl, B3⟩
    case round =>
      obtain ⟨q, hqk, rfl, Hi⟩ := hrel
      by_cases hlq : q < k
      case neg =>
        have hq2 : q = k := by omega
        subst hq2
        have hlqI : ¬ (q : Int) < (q : Int) := by omega
        go_wp2_with fail
        go_roundw
        case rel => exact ⟨q + 1, by omega, by go_num, Hi⟩
        case measure => simp [intOf]; omega
      have HRc := Lib.hid (Hr.out.bel Hi.out)
      obtain ⟨r0, r1, r2, r3, r4⟩ := HRc.out.row k hlt
      obtain ⟨s0, s1, s2, s3, s4⟩ := HRc.out.row q (by omega)
      have hlqI : (q : Int) < (k : Int) := by omega
      have hlqN : (q : Int) < (n : Int) := by omega
      have hno : ¬ ((g q 1 = g k 1 ∨ g q 2 = g k 2) ∧ g q 3 ≤ t ∧ t < g q 4) := fun hx => by
        have := one_at Hok.out (i := q) (k := k) (by omega) hlt hx.2 ⟨h1, h2⟩ hx.1
        omega
      have hcs : ((g q 1 == g k 1) = false ∧ (g q 2 == g k 2) = false) ∨ (((g q 1 == g k 1) = true ∨ ((g q 1 == g k 1) = false ∧ (g q 2 == g k 2) = true)) ∧ (decide (g q 3 ≤ t) = false ∨ (decide (g q 3 ≤ t) = true ∧ decide (t < g q 4) = false))) := by
        by_cases e1 : g q 1 = g k 1
        · refine .inr ⟨.inl (by simpa using e1), ?_⟩
          by_cases e3 : g q 3 ≤ t
          · exact .inr ⟨decide_eq_true e3, decide_eq_false (fun e4 => hno ⟨.inl e1, e3, e4⟩)⟩
          · exact .inl (decide_eq_false e3)
        · by_cases e2 : g q 2 = g k 2
          · refine .inr ⟨.inr ⟨by simpa using e1, by simpa using e2⟩, ?_⟩
            by_cases e3 : g q 3 ≤ t
            · exact .inr ⟨decide_eq_true e3, decide_eq_false (fun e4 => hno ⟨.inr e2, e3, e4⟩)⟩
            · exact .inl (decide_eq_false e3)
          · exact .inl ⟨by simpa using e1, by simpa using e2⟩
      clear hno
      rcases hcs with ⟨p1, p2⟩ | ⟨p1 | ⟨p1, p2⟩, p3 | ⟨p3, p4⟩⟩
      all_goals
        go_wp2_with fail
        go_quiet (fail)
        go_wp2_with fail
        go_roundw
        case rel => exact ⟨q + 1, by omega, by go_num, Lib.hid (below_drewN Hi.out _)⟩
        case measure => simp [intOf]; omega
end Go.Proofs.Ytmfkkmonedgdnaa
