/- The walks of Check, of the program and of the reference. -/
import Derived.Test.YtcmlipcgcjlopaaTA
namespace Go.Proofs.Ytcmlipcgcjlopaa
open Go.RowKit
set_option maxHeartbeats 2000000
set_option maxRecDepth 100000
set_option linter.unusedVariables false

theorem FlatRd.cells {w w' : World} {b o n k : Nat} {g : Nat → Nat → Int} (h : FlatRd w (some ⟨b, o, none⟩) n k g) (hb : Below w.heap.size w w') (i : Nat) (hi : i < n) (j : Nat) (hj : j < k) :
    w'.cell? ⟨b, o + i * k + j, none⟩ = some (.int .i64 (g i j)) := by
  obtain ⟨b', o', h1, h2, h3⟩ := h (by omega)
  injection h1 with h1; injection h1 with h4 h5; subst h4 h5
  exact (hb.cell (p := ⟨b, _, none⟩) h2).trans (h3 i hi j hj)
theorem FlatRd.at_ {w : World} {A : Option Addr} {n k : Nat} {g : Nat → Nat → Int} (h : FlatRd w A n k g) (hn : 0 < n) : ∃ b o, A = some ⟨b, o, none⟩ ∧ b < w.heap.size := by
  obtain ⟨b', o', h1, h2, h3⟩ := h hn
  exact ⟨b', o', h1, h2⟩
theorem FlatRd.bel {w w' : World} {A : Option Addr} {n k : Nat} {g : Nat → Nat → Int} (h : FlatRd w A n k g) (hb : Below w.heap.size w w') : FlatRd w' A n k g := fun hn => by
  obtain ⟨b, o, h1, h2, h3⟩ := h hn
  exact ⟨b, o, h1, Nat.lt_of_lt_of_le h2 hb.size, fun i hi j hj => (hb.cell (p := ⟨b, _, none⟩) h2).trans (h3 i hi j hj)⟩
theorem new_cell (w : World) (cs : Array Value) (t : TypeId) (i : Nat) : (w.alloc (.cells cs t)).cell? ⟨w.heap.size, i, none⟩ = cs[i]? := cell_of_row _ w.heap.size i cs t (0, 0) (heap_alloc_new w _)
theorem err_one {g : Nat → Nat → Int} {k : Nat} (h : rangedG g k = false) : errAt g k = 1 := if_pos h
theorem err_nine {g : Nat → Nat → Int} {k : Nat} (h : rangedG g k = true) (h2 : (k = 0 ∧ g k 0 ≠ 0) ∨ (0 < k ∧ g k 0 ≤ g (k - 1) 0)) : errAt g k = 9 := by
  unfold errAt; rw [if_neg (by simp [h]), if_pos h2]
theorem err_ok {g : Nat → Nat → Int} {k : Nat} (h : rangedG g k = true) (h2 : ¬ ((k = 0 ∧ g k 0 ≠ 0) ∨ (0 < k ∧ g k 0 ≤ g (k - 1) 0))) : errAt g k = 0 := by
  unfold errAt; rw [if_neg (by simp [h]), if_neg h2]

theorem check13 (A : Option Addr) (n c : Nat) (g : Nat → Nat → Int) (w : World) (hr : FlatRd w A n 6 g) (m1 : n ≤ 9223372036854775807) :
    Calls Try.prog 13 #[.slice A n c] w fun e w' => e = .returned (.int .i64 (chkT n g)) ∧ Below w.heap.size w w' := by
  have Hr := Lib.hid hr
  clear hr
  by_cases h0 : n = 0
  · subst h0
    go_enter Try.func13, Try.ntmps13
    go_wp2
    go_ret
    exact ⟨rfl, Below.refl _ _⟩
  have h0b : ((n : Int) == 0) = false := by simp; omega
  by_cases h8 : 8 < n
  · have hc := Lib.hid (show chkT n g = 8 by unfold chkT; rw [if_neg h0, if_pos h8])
    go_enter Try.func13, Try.ntmps13
    go_wp2
    go_ret
    exact ⟨ret_int hc.out.symm, Below.refl _ _⟩
  have m8 : n ≤ 8 := by omega
  have hc := Lib.hid (show chkT n g = scan g n by unfold chkT; rw [if_neg h0, if_neg h8])
  obtain ⟨b, o, rfl, hb⟩ := Hr.out.at_ (by omega)
  clear h0 h8
  go_enter Try.func13, Try.ntmps13
  go_wp2
  go_loopw [15] (fun i wr => ∃ k : Nat, k ≤ n ∧ i = .int .i64 k ∧ Hid (scan g k = 0) ∧ Hid (Below w.heap.size w wr)) (fun i _ => n - (intOf i).toNat)
  case atStart => exact ⟨0, by omega, rfl, Lib.hid rfl, Lib.hid (Below.refl _ _)⟩
  case round =>
    obtain ⟨k, hk, rfl, Hs, Hb⟩ := hrel
    by_cases hlt : k < n
    · have z0 := Hr.out.cells Hb.out k hlt 0 (by omega)
      have z1 := Hr.out.cells Hb.out k hlt 1 (by omega)
      have z2 := Hr.out.cells Hb.out k hlt 2 (by omega)
      have z3 := Hr.out.cells Hb.out k hlt 3 (by omega)
      have z4 := Hr.out.cells Hb.out k hlt 4 (by omega)
      have z5 := Hr.out.cells Hb.out k hlt 5 (by omega)
      rw [Nat.add_zero] at z0
      have hltI : (k : Int) < (n : Int) := by omega
      have hbw : b < wr.heap.size := by have := Hb.out.size; omega
      by_cases hk0 : k = 0
      · subst hk0
        simp only [Nat.zero_mul, Nat.add_zero] at z0 z1 z2 z3 z4 z5
        have ht : rangedB (g (0) 0) (g (0) 1) (g (0) 2) (g (0) 3) (g (0) 4) (g (0) 5) = rangedG g (0) := rfl
        by_cases hg : rangedG g (0) = true
        case neg =>
          have HE := Lib.hid (err_one (show rangedG g (0) = false by simpa using hg))
          have hgf : rangedB (g (0) 0) (g (0) 1) (g (0) 2) (g (0) 3) (g (0) 4) (g (0) 5) = false := by rw [ht]; simpa using hg
          clear hg ht
          go_wp2_with (go_at_call 24; refine (ranged_any _ _ _ _ _ _ _).mono ?_; rintro e w1 ⟨rfl, hb1⟩; have B1 := Lib.hid (Below.trans (Hb.out.alloc Hb.out.size (.cells #[.int .i64 (g 0 0), .int .i64 (g 0 1), .int .i64 (g 0 2), .int .i64 (g 0 3), .int .i64 (g 0 4), .int .i64 (g 0 5)] 30)) (hb1.mono (by have := Hb.out.size; simp; omega))); have y0 := (hb1.cell (p := ⟨wr.heap.size, 0, none⟩) (by simp)).trans (new_cell wr _ 30 0); clear hb1)
          go_ret
          refine ⟨ret_int ?_, B1.out⟩
          rw [hc.out, scan_hit g (0) n (by omega) Hs.out (by rw [HE.out]; decide), HE.out]
        have Hg := Lib.hid hg
        have hgt : rangedB (g (0) 0) (g (0) 1) (g (0) 2) (g (0) 3) (g (0) 4) (g (0) 5) = true := by rw [ht]; exact hg
        clear hg ht
        by_cases h9 : g 0 0 ≠ 0
        · have q9 : (g 0 0 != 0) = true := by simpa using h9
          have HE := Lib.hid (err_nine Hg.out (.inl ⟨rfl, h9⟩))
          clear h9
          go_wp2_with (go_at_call 24; refine (ranged_any _ _ _ _ _ _ _).mono ?_; rintro e w1 ⟨rfl, hb1⟩; have B1 := Lib.hid (Below.trans (Hb.out.alloc Hb.out.size (.cells #[.int .i64 (g 0 0), .int .i64 (g 0 1), .int .i64 (g 0 2), .int .i64 (g 0 3), .int .i64 (g 0 4), .int .i64 (g 0 5)] 30)) (hb1.mono (by have := Hb.out.size; simp; omega))); have y0 := (hb1.cell (p := ⟨wr.heap.size, 0, none⟩) (by simp)).trans (new_cell wr _ 30 0); clear hb1)
          go_quiet (fail)
          go_wp2
          go_ret
          refine ⟨ret_int ?_, below_drewN B1.out _⟩
          rw [hc.out, scan_hit g 0 n (by omega) Hs.out (by rw [HE.out]; decide), HE.out]
        · have q9 : (g 0 0 != 0) = false := by simpa using h9
          have HE := Lib.hid (err_ok Hg.out (fun h => by rcases h with h | h; exact h9 h.2; exact absurd h.1 (by omega)))
          clear h9
          go_wp2_with (go_at_call 24; refine (ranged_any _ _ _ _ _ _ _).mono ?_; rintro e w1 ⟨rfl, hb1⟩; have B1 := Lib.hid (Below.trans (Hb.out.alloc Hb.out.size (.cells #[.int .i64 (g 0 0), .int .i64 (g 0 1), .int .i64 (g 0 2), .int .i64 (g 0 3), .int .i64 (g 0 4), .int .i64 (g 0 5)] 30)) (hb1.mono (by have := Hb.out.size; simp; omega))); have y0 := (hb1.cell (p := ⟨wr.heap.size, 0, none⟩) (by simp)).trans (new_cell wr _ 30 0); clear hb1)
          go_quiet (fail)
          go_wp2
          go_roundw
          case rel => exact ⟨0 + 1, by omega, by go_num, Lib.hid (scan_next g 0 Hs.out HE.out), Lib.hid (below_drewN B1.out _)⟩
          case measure => simp [intOf]; omega
      · obtain ⟨kp, hkk⟩ : ∃ kp, k = kp + 1 := ⟨k - 1, by omega⟩
        have Hkk := Lib.hid hkk
        have hkp : k - 1 = kp := by omega
        have Hkp := Lib.hid hkp
        clear hkk hkp hk0
        have hw1 : IntKind.i64.wrap ((k : Int) - 1) = (kp : Int) := by have := Hkk.out; rw [show (k : Int) - 1 = (kp : Int) by omega]; exact IntWalk.i64_in _ (by omega)
        have hw2 : ((k : Int) == 0) = false := by have := Hkk.out; simp; omega
        have hw3 : (0 : Int) < (k : Int) := by have := Hkk.out; omega
        have hw5 : 0 < k := by have := Hkk.out; omega
        have hw4 : (kp : Int) < (n : Int) := by have := Hkk.out; omega
        have ht : rangedB (g k 0) (g k 1) (g k 2) (g k 3) (g k 4) (g k 5) = rangedG g k := rfl
        by_cases hg : rangedG g k = true
        case neg =>
          have HE := Lib.hid (err_one (show rangedG g k = false by simpa using hg))
          have hgf : rangedB (g k 0) (g k 1) (g k 2) (g k 3) (g k 4) (g k 5) = false := by rw [ht]; simpa using hg
          clear hg ht
          go_wp2_with (go_at_call 24; refine (ranged_any _ _ _ _ _ _ _).mono ?_; rintro e w1 ⟨rfl, hb1⟩; have B1 := Lib.hid (Below.trans (Hb.out.alloc Hb.out.size (.cells #[.int .i64 (g k 0), .int .i64 (g k 1), .int .i64 (g k 2), .int .i64 (g k 3), .int .i64 (g k 4), .int .i64 (g k 5)] 30)) (hb1.mono (by have := Hb.out.size; simp; omega))); have y0 := (hb1.cell (p := ⟨wr.heap.size, 0, none⟩) (by simp)).trans (new_cell wr _ 30 0); clear hb1)
          go_ret
          refine ⟨ret_int ?_, B1.out⟩
          rw [hc.out, scan_hit g k n (by omega) Hs.out (by rw [HE.out]; decide), HE.out]
        have Hg := Lib.hid hg
        have hgt : rangedB (g k 0) (g k 1) (g k 2) (g k 3) (g k 4) (g k 5) = true := by rw [ht]; exact hg
        clear hg ht
        by_cases h9 : g k 0 ≤ g kp 0
        · have q9 : decide (g k 0 ≤ g kp 0) = true := by simpa using h9
          have HE := Lib.hid (err_nine Hg.out (.inr ⟨by have := Hkk.out; omega, by rw [Hkp.out]; exact h9⟩))
          clear h9
          go_wp2_with (go_at_call 24; refine (ranged_any _ _ _ _ _ _ _).mono ?_; rintro e w1 ⟨rfl, hb1⟩; have B1 := Lib.hid (Below.trans (Hb.out.alloc Hb.out.size (.cells #[.int .i64 (g k 0), .int .i64 (g k 1), .int .i64 (g k 2), .int .i64 (g k 3), .int .i64 (g k 4), .int .i64 (g k 5)] 30)) (hb1.mono (by have := Hb.out.size; simp; omega))); have y0 := (hb1.cell (p := ⟨wr.heap.size, 0, none⟩) (by simp)).trans (new_cell wr _ 30 0); clear hb1)
          have yp := Hr.out.cells B1.out kp (by have := Hkk.out; omega) 0 (by omega)
          rw [Nat.add_zero] at yp
          go_quiet (fail)
          go_wp2
          go_ret
          refine ⟨ret_int ?_, below_drewN B1.out _⟩
          rw [hc.out, scan_hit g k n (by omega) Hs.out (by rw [HE.out]; decide), HE.out]
        · have q9 : decide (g k 0 ≤ g kp 0) = false := by simpa using h9
          have HE := Lib.hid (err_ok Hg.out (fun h => by rcases h with h | h; exact absurd h.1 (by have := Hkk.out; omega); rw [Hkp.out] at h; exact h9 h.2))
          clear h9
          go_wp2_with (go_at_call 24; refine (ranged_any _ _ _ _ _ _ _).mono ?_; rintro e w1 ⟨rfl, hb1⟩; have B1 := Lib.hid (Below.trans (Hb.out.alloc Hb.out.size (.cells #[.int .i64 (g k 0), .int .i64 (g k 1), .int .i64 (g k 2), .int .i64 (g k 3), .int .i64 (g k 4), .int .i64 (g k 5)] 30)) (hb1.mono (by have := Hb.out.size; simp; omega))); have y0 := (hb1.cell (p := ⟨wr.heap.size, 0, none⟩) (by simp)).trans (new_cell wr _ 30 0); clear hb1)
          have yp := Hr.out.cells B1.out kp (by have := Hkk.out; omega) 0 (by omega)
          rw [Nat.add_zero] at yp
          go_quiet (fail)
          go_wp2
          go_roundw
          case rel => exact ⟨k + 1, by omega, by go_num, Lib.hid (scan_next g k Hs.out HE.out), Lib.hid (below_drewN B1.out _)⟩
          case measure => simp [intOf]; omega
    · have hkn : k = n := by omega
      subst hkn
      go_wp2
      go_ret
      exact ⟨ret_int (by rw [hc.out, Hs.out]), Hb.out⟩

theorem check14 (A : Option Addr) (n c : Nat) (g : Nat → Nat → Int) (w : World) (hr : FlatRd w A n 6 g) (m1 : n ≤ 9223372036854775807) :
    Calls Try.prog 14 #[.slice A n c] w fun e w' => e = .returned (.int .i64 (chkT n g)) ∧ Below w.heap.size w w' := by
  have Hr := Lib.hid hr
  clear hr
  by_cases h0 : n = 0
  · subst h0
    go_enter Try.func14, Try.ntmps14
    go_wp2
    go_ret
    exact ⟨rfl, Below.refl _ _⟩
  have h0b : ((n : Int) == 0) = false := by simp; omega
  by_cases h8 : 8 < n
  · have hc := Lib.hid (show chkT n g = 8 by unfold chkT; rw [if_neg h0, if_pos h8])
    go_enter Try.func14, Try.ntmps14
    go_wp2
    go_ret
    exact ⟨ret_int hc.out.symm, Below.refl _ _⟩
  have m8 : n ≤ 8 := by omega
  have hc := Lib.hid (show chkT n g = scan g n by unfold chkT; rw [if_neg h0, if_neg h8])
  obtain ⟨b, o, rfl, hb⟩ := Hr.out.at_ (by omega)
  clear h0 h8
  go_enter Try.func14, Try.ntmps14
  go_wp2
  go_loopw [3] (fun i wr => ∃ k : Nat, k ≤ n ∧ i = .int .i64 k ∧ Hid (scan g k = 0) ∧ Hid (Below w.heap.size w wr)) (fun i _ => n - (intOf i).toNat)
  case atStart => exact ⟨0, by omega, rfl, Lib.hid rfl, Lib.hid (Below.refl _ _)⟩
  case round =>
    obtain ⟨k, hk, rfl, Hs, Hb⟩ := hrel
    by_cases hlt : k < n
    · have z0 := Hr.out.cells Hb.out k hlt 0 (by omega)
      have z1 := Hr.out.cells Hb.out k hlt 1 (by omega)
      have z2 := Hr.out.cells Hb.out k hlt 2 (by omega)
      have z3 := Hr.out.cells Hb.out k hlt 3 (by omega)
      have z4 := Hr.out.cells Hb.out k hlt 4 (by omega)
      have z5 := Hr.out.cells Hb.out k hlt 5 (by omega)
      rw [Nat.add_zero] at z0
      have hltI : (k : Int) < (n : Int) := by omega
      have hbw : b < wr.heap.size := by have := Hb.out.size; omega
      by_cases hk0 : k = 0
      · subst hk0
        simp only [Nat.zero_mul, Nat.add_zero] at z0 z1 z2 z3 z4 z5
        have ht : rangedB (g (0) 0) (g (0) 1) (g (0) 2) (g (0) 3) (g (0) 4) (g (0) 5) = rangedG g (0) := rfl
        by_cases hg : rangedG g (0) = true
        case neg =>
          have HE := Lib.hid (err_one (show rangedG g (0) = false by simpa using hg))
          have HG := Lib.hid hg
          clear hg ht
          go_wp2_with (go_at_call 23; refine (in23 _ _ _ _).mono ?_; rintro e w' ⟨rfl, rfl⟩)
          all_goals
            first
            | (go_ret
               refine ⟨ret_int ?_, Hb.out.alloc Hb.out.size _⟩
               rw [hc.out, scan_hit g (0) n (by omega) Hs.out (by rw [HE.out]; decide), HE.out])
            | (exfalso
               apply HG.out
               simp only [rangedG, rangedB, Bool.and_eq_true]
               simp_all)
        have Hg := Lib.hid hg
        have hgt : rangedB (g (0) 0) (g (0) 1) (g (0) 2) (g (0) 3) (g (0) 4) (g (0) 5) = true := by rw [ht]; exact hg
        obtain ⟨r0, r1, r2, r3, r4, r5⟩ : inB (g (0) 0) 0 4294943999 = true ∧ inB (g (0) 1) 0 1000000 = true ∧ inB (g (0) 4) 0 1000000 = true ∧ inB (g (0) 5) 0 1000000 = true ∧ inB (g (0) 2) 1 86400 = true ∧ inB (g (0) 3) 0 86400 = true := by
          simp only [rangedB, Bool.and_eq_true] at hgt; simp [hgt]
        clear hgt
        clear hg ht
        by_cases h9 : g 0 0 ≠ 0
        · have q9 : (g 0 0 != 0) = true := by simpa using h9
          have HE := Lib.hid (err_nine Hg.out (.inl ⟨rfl, h9⟩))
          clear h9
          go_wp2_with (go_at_call 23; refine (in23 _ _ _ _).mono ?_; rintro e w' ⟨rfl, rfl⟩)
          go_quiet (fail)
          go_wp2
          go_ret
          refine ⟨ret_int ?_, below_drewN (Hb.out.alloc Hb.out.size _) _⟩
          rw [hc.out, scan_hit g 0 n (by omega) Hs.out (by rw [HE.out]; decide), HE.out]
        · have q9 : (g 0 0 != 0) = false := by simpa using h9
          have HE := Lib.hid (err_ok Hg.out (fun h => by rcases h with h | h; exact h9 h.2; exact absurd h.1 (by omega)))
          clear h9
          go_wp2_with (go_at_call 23; refine (in23 _ _ _ _).mono ?_; rintro e w' ⟨rfl, rfl⟩)
          go_quiet (fail)
          go_wp2
          go_roundw
          case rel => exact ⟨0 + 1, by omega, by go_num, Lib.hid (scan_next g 0 Hs.out HE.out), Lib.hid (below_drewN (Hb.out.alloc Hb.out.size _) _)⟩
          case measure => simp [intOf]; omega
      · obtain ⟨kp, hkk⟩ : ∃ kp, k = kp + 1 := ⟨k - 1, by omega⟩
        have Hkk := Lib.hid hkk
        have hkp : k - 1 = kp := by omega
        have Hkp := Lib.hid hkp
        clear hkk hkp hk0
        have yp := Hr.out.cells Hb.out kp (by have := Hkk.out; omega) 0 (by omega)
        rw [Nat.add_zero] at yp
        have hw1 : IntKind.i64.wrap ((k : Int) - 1) = (kp : Int) := by have := Hkk.out; rw [show (k : Int) - 1 = (kp : Int) by omega]; exact IntWalk.i64_in _ (by omega)
        have hw2 : ((k : Int) == 0) = false := by have := Hkk.out; simp; omega
        have hw3 : (0 : Int) < (k : Int) := by have := Hkk.out; omega
        have hw5 : 0 < k := by have := Hkk.out; omega
        have hw4 : (kp : Int) < (n : Int) := by have := Hkk.out; omega
        have ht : rangedB (g k 0) (g k 1) (g k 2) (g k 3) (g k 4) (g k 5) = rangedG g k := rfl
        by_cases hg : rangedG g k = true
        case neg =>
          have HE := Lib.hid (err_one (show rangedG g k = false by simpa using hg))
          have HG := Lib.hid hg
          clear hg ht
          go_wp2_with (go_at_call 23; refine (in23 _ _ _ _).mono ?_; rintro e w' ⟨rfl, rfl⟩)
          all_goals
            first
            | (go_ret
               refine ⟨ret_int ?_, Hb.out.alloc Hb.out.size _⟩
               rw [hc.out, scan_hit g k n (by omega) Hs.out (by rw [HE.out]; decide), HE.out])
            | (exfalso
               apply HG.out
               simp only [rangedG, rangedB, Bool.and_eq_true]
               simp_all)
        have Hg := Lib.hid hg
        have hgt : rangedB (g k 0) (g k 1) (g k 2) (g k 3) (g k 4) (g k 5) = true := by rw [ht]; exact hg
        obtain ⟨r0, r1, r2, r3, r4, r5⟩ : inB (g k 0) 0 4294943999 = true ∧ inB (g k 1) 0 1000000 = true ∧ inB (g k 4) 0 1000000 = true ∧ inB (g k 5) 0 1000000 = true ∧ inB (g k 2) 1 86400 = true ∧ inB (g k 3) 0 86400 = true := by
          simp only [rangedB, Bool.and_eq_true] at hgt; simp [hgt]
        clear hgt
        clear hg ht
        by_cases h9 : g k 0 ≤ g kp 0
        · have q9 : decide (g k 0 ≤ g kp 0) = true := by simpa using h9
          have HE := Lib.hid (err_nine Hg.out (.inr ⟨by have := Hkk.out; omega, by rw [Hkp.out]; exact h9⟩))
          clear h9
          go_wp2_with (go_at_call 23; refine (in23 _ _ _ _).mono ?_; rintro e w' ⟨rfl, rfl⟩)
          go_quiet (fail)
          go_wp2
          go_ret
          refine ⟨ret_int ?_, below_drewN (Hb.out.alloc Hb.out.size _) _⟩
          rw [hc.out, scan_hit g k n (by omega) Hs.out (by rw [HE.out]; decide), HE.out]
        · have q9 : decide (g k 0 ≤ g kp 0) = false := by simpa using h9
          have HE := Lib.hid (err_ok Hg.out (fun h => by rcases h with h | h; exact absurd h.1 (by have := Hkk.out; omega); rw [Hkp.out] at h; exact h9 h.2))
          clear h9
          go_wp2_with (go_at_call 23; refine (in23 _ _ _ _).mono ?_; rintro e w' ⟨rfl, rfl⟩)
          go_quiet (fail)
          go_wp2
          go_roundw
          case rel => exact ⟨k + 1, by omega, by go_num, Lib.hid (scan_next g k Hs.out HE.out), Lib.hid (below_drewN (Hb.out.alloc Hb.out.size _) _)⟩
          case measure => simp [intOf]; omega
    · have hkn : k = n := by omega
      subst hkn
      go_wp2
      go_ret
      exact ⟨ret_int (by rw [hc.out, Hs.out]), Hb.out⟩
end Go.Proofs.Ytcmlipcgcjlopaa
