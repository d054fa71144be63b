/- The walk of Check of the program. -/
import Derived.Test.YtgcjjnmdbdllhaaBA
namespace Go.Proofs.Ytgcjjnmdbdllhaa
open Go.RowKit
set_option maxHeartbeats 2000000
set_option maxRecDepth 100000
set_option linter.unusedVariables false

theorem kcells {w1 : World} {m : Nat} {b : BD} (ka : ∀ i, w1.cell? ⟨m, i, none⟩ = b.cells[i]?) :
    w1.cell? ⟨m, 0, none⟩ = some (.slice b.A b.n b.c) ∧ w1.cell? ⟨m, 1, none⟩ = some (.slice b.C b.m b.d) ∧ w1.cell? ⟨m, 2, none⟩ = some (.int .i64 b.er) ∧ w1.cell? ⟨m, 3, none⟩ = some (.int .i64 b.il) ∧
    w1.cell? ⟨m, 4, none⟩ = some (.int .i64 b.ih) ∧ w1.cell? ⟨m, 5, none⟩ = some (.int .i64 b.rl) ∧ w1.cell? ⟨m, 6, none⟩ = some (.int .i64 b.rh) := by
  refine ⟨ka 0, ka 1, ka 2, ka 3, ka 4, ka 5, ka 6⟩

theorem check14 (b : BD) (w : World) (hr : b.rd w) : Calls Try.prog 14 #[b.val] w fun e w' => e = .returned (.int .i64 (chk b)) ∧ Below w.heap.size w w' := by
  obtain ⟨hv, hc, m1, m2⟩ := hr
  have HB := Lib.hid (rfl : b = b)
  by_cases h3 : b.n ≠ b.m ∨ b.n < 2 ∨ 16 < b.n
  · have HC := Lib.hid (chk3 h3)
    obtain ⟨A, n, c, C, m, d, v, h, er, il, ih, rl, rh⟩ := b
    dsimp only at h3 m1 m2
    clear HB hv hc
    by_cases h4 : n = m
    · subst h4
      have q1 : ((n : Int) != (n : Int)) = false := by simp
      have h5 : n < 2 ∨ 16 < n := by omega
      rcases h5 with h5 | h5
      all_goals
        go_enter Try.func14, Try.ntmps14
        go_wp2_with fail
        go_ret
        exact ⟨ret_int HC.out.symm, box_bel _ _⟩
    · have q1 : ((n : Int) != (m : Int)) = true := by simp; omega
      clear h3
      go_enter Try.func14, Try.ntmps14
      go_wp2_with fail
      go_ret
      exact ⟨ret_int HC.out.symm, box_bel _ _⟩
  obtain ⟨A, n, c, C, m, d, v, h, er, il, ih, rl, rh⟩ := b
  dsimp only at h3 m1 m2 hv hc
  obtain rfl : n = m := by omega
  have H3 := Lib.hid h3
  have n2 : 2 ≤ n := by omega
  have n16 : n ≤ 16 := by omega
  have q1 : ((n : Int) != (n : Int)) = false := by simp
  clear h3 m2 HB
  obtain ⟨b1, o1, rfl, hb1, hz1⟩ := hv.at_ 0 (by omega)
  obtain ⟨b2, o2, rfl, hb2, hz2⟩ := hc.at_ 0 (by omega)
  clear hz1 hz2
  have HV := Lib.hid hv
  have HH := Lib.hid hc
  clear hv hc
  have hw1 : IntKind.i64.wrap ((n : Int) - 1) = (n : Int) - 1 := IntWalk.i64_in _ (by omega)
  have Hk := Lib.hid (fun w1 hh => kcells (b := ⟨some ⟨b1, o1, none⟩, n, c, some ⟨b2, o2, none⟩, n, d, v, h, er, il, ih, rl, rh⟩) (one_block w _ 26 w1 hh))
  have Hbb : Hid (∀ wr, Below (w.heap.size + 1) (w.alloc (.cells #[.slice (some ⟨b1, o1, none⟩) n c, .slice (some ⟨b2, o2, none⟩) n d, .int .i64 er, .int .i64 il, .int .i64 ih, .int .i64 rl, .int .i64 rh] 26)) wr → Below w.heap.size w wr) :=
    Lib.hid (fun wr hb => (box_bel w _).trans (hb.mono (by simp)))
  go_enter Try.func14, Try.ntmps14
  go_wp2_with fail
  go_loopw [24] (fun i wr => ∃ k : Nat, k + 1 ≤ n ∧ i = .int .i64 k ∧ Hid (∀ j, j < k → v j < v (j + 1) ∧ h j < h (j + 1)) ∧ Hid (Below (w.heap.size + 1) (w.alloc (.cells #[.slice (some ⟨b1, o1, none⟩) n c, .slice (some ⟨b2, o2, none⟩) n d, .int .i64 er, .int .i64 il, .int .i64 ih, .int .i64 rl, .int .i64 rh] 26)) wr)) (fun i _ => n - (intOf i).toNat)
  case atStart => exact ⟨0, by omega, rfl, Lib.hid (fun j hj => absurd hj (by omega)), Lib.hid (Below.refl _ _)⟩
  case round =>
    obtain ⟨k, hk, rfl, Hs, Hb⟩ := hrel
    obtain ⟨k0, k1, k2, k3, k4, k5, k6⟩ := Hk.out wr Hb.out
    by_cases hlt : k + 1 < n
    · have HV' := Lib.hid (HV.out.bel (Hbb.out wr Hb.out))
      have HH' := Lib.hid (HH.out.bel (Hbb.out wr Hb.out))
      have z0 := HV'.out.cell k (by omega)
      have z1 := HV'.out.cell (k + 1) hlt
      have y0 := HH'.out.cell k (by omega)
      have y1 := HH'.out.cell (k + 1) hlt
      have hltI : (k : Int) < (n : Int) - 1 := by omega
      have hltJ : (k : Int) + 1 < (n : Int) := by omega
      have hltK : (k : Int) < (n : Int) := by omega
      have hw2 : IntKind.i64.wrap ((k : Int) + 1) = (k : Int) + 1 := IntWalk.i64_in _ (by omega)
      by_cases h8 : v (k + 1) ≤ v k
      · have q8 : decide (v (k + 1) ≤ v k) = true := by simpa using h8
        have HC := Lib.hid (chk9 (b := ⟨some ⟨b1, o1, none⟩, n, c, some ⟨b2, o2, none⟩, n, d, v, h, er, il, ih, rl, rh⟩) H3.out (fun hh => by have := hh.1 k hlt; dsimp only at this; omega))
        clear h8
        go_wp2_with fail
        go_quiet (fail)
        go_wp2_with fail
        go_ret
        exact ⟨ret_int HC.out.symm, below_drewN (Hbb.out _ Hb.out) _⟩
      · have q8 : decide (v (k + 1) ≤ v k) = false := by simpa using h8
        by_cases h9 : h (k + 1) ≤ h k
        · have q9 : decide (h (k + 1) ≤ h k) = true := by simpa using h9
          have HC := Lib.hid (chk9 (b := ⟨some ⟨b1, o1, none⟩, n, c, some ⟨b2, o2, none⟩, n, d, v, h, er, il, ih, rl, rh⟩) H3.out (fun hh => by have := hh.2 k hlt; dsimp only at this; omega))
          clear h8 h9
          go_wp2_with fail
          go_quiet (fail)
          go_wp2_with fail
          go_ret
          exact ⟨ret_int HC.out.symm, below_drewN (Hbb.out _ Hb.out) _⟩
        · have q9 : decide (h (k + 1) ≤ h k) = false := by simpa using h9
          have HE := Lib.hid (show v k < v (k + 1) ∧ h k < h (k + 1) by omega)
          clear h8 h9
          go_wp2_with fail
          go_quiet (fail)
          go_wp2_with fail
          go_roundw
          case rel => exact ⟨k + 1, by omega, by go_num, Lib.hid (fun j hj => by by_cases he : j = k; · subst he; exact HE.out
                                                                                 · exact Hs.out j (by omega)), Lib.hid (below_drewN Hb.out _)⟩
          case measure => simp [intOf]; omega
    · have HA := Lib.hid (show ascP v n ∧ ascP h n from ⟨fun i hi => (Hs.out i (by omega)).1, fun i hi => (Hs.out i (by omega)).2⟩)
      have hltI : ¬ (k : Int) < (n : Int) - 1 := by omega
      have hB0 := Hb
      obtain ⟨wo, hwo⟩ : ∃ wo, wo = wr := ⟨_, rfl⟩
      subst hwo
      clear Hs k0 k1 k2 k3 k4 k5 k6
      go_wp2_with fail
      go_loopw [55] (fun i wr => ∃ k : Nat, k ≤ n ∧ i = .int .i64 k ∧ Hid (∀ j, j < k → (0 ≤ v j ∧ v j ≤ 10000) ∧ (0 ≤ h j ∧ h j ≤ 1000)) ∧ Hid (Below (w.heap.size + 1) (w.alloc (.cells #[.slice (some ⟨b1, o1, none⟩) n c, .slice (some ⟨b2, o2, none⟩) n d, .int .i64 er, .int .i64 il, .int .i64 ih, .int .i64 rl, .int .i64 rh] 26)) wr)) (fun i _ => n - (intOf i).toNat)
      case atStart => exact ⟨0, by omega, rfl, Lib.hid (fun j hj => absurd hj (by omega)), hB0⟩
      case round =>
        clear hltI hlt
        obtain ⟨r, hrn, rfl, Hs, Hb⟩ := hrel
        obtain ⟨k0, k1, k2, k3, k4, k5, k6⟩ := Hk.out wr Hb.out
        have HV' := Lib.hid (HV.out.bel (Hbb.out wr Hb.out))
        have HH' := Lib.hid (HH.out.bel (Hbb.out wr Hb.out))
        by_cases hlt : r < n
        · have z0 := HV'.out.cell r (by omega)
          have y0 := HH'.out.cell r (by omega)
          have hltK : (r : Int) < (n : Int) := by omega
          by_cases h8 : 0 ≤ v r ∧ v r ≤ 10000
          · have q8 := inB_t h8
            by_cases h9 : 0 ≤ h r ∧ h r ≤ 1000
            · have q9 := inB_t h9
              have HE := Lib.hid (And.intro h8 h9)
              clear h8 h9
              go_wp2_with (go_at_call 26; refine (in26 _ _ _).mono ?_; rintro e w1 ⟨rfl, rfl⟩)
              go_roundw
              case rel => exact ⟨r + 1, by omega, by go_num, Lib.hid (fun j hj => by by_cases he : j = r; · subst he; exact HE.out
                                                                                     · exact Hs.out j (by omega)), Lib.hid Hb.out⟩
              case measure => simp [intOf]; omega
            · have q9 := inB_f h9
              have HC := Lib.hid (chk1 (b := ⟨some ⟨b1, o1, none⟩, n, c, some ⟨b2, o2, none⟩, n, d, v, h, er, il, ih, rl, rh⟩) H3.out HA.out (fun hh => h9 (hh.2.1 r hlt)))
              clear h8 h9
              go_wp2_with (go_at_call 26; refine (in26 _ _ _).mono ?_; rintro e w1 ⟨rfl, rfl⟩)
              go_ret
              exact ⟨ret_int HC.out.symm, Hbb.out _ Hb.out⟩
          · have q8 := inB_f h8
            have HC := Lib.hid (chk1 (b := ⟨some ⟨b1, o1, none⟩, n, c, some ⟨b2, o2, none⟩, n, d, v, h, er, il, ih, rl, rh⟩) H3.out HA.out (fun hh => h8 (hh.1 r hlt)))
            clear h8
            go_wp2_with (go_at_call 26; refine (in26 _ _ _).mono ?_; rintro e w1 ⟨rfl, rfl⟩)
            go_ret
            exact ⟨ret_int HC.out.symm, Hbb.out _ Hb.out⟩
        · have HR := Lib.hid (show inP v 0 10000 n ∧ inP h 0 1000 n from ⟨fun i hi => (Hs.out i (by omega)).1, fun i hi => (Hs.out i (by omega)).2⟩)
          have hltK : ¬ (r : Int) < (n : Int) := by omega
          have y0 := HH'.out.cell 0 (by omega)
          have y1 := HH'.out.cell (n - 1) (by omega)
          rw [Nat.add_zero] at y0
          have hn1 : ((n : Int) - 1).toNat = n - 1 := by omega
          have n0 : (0 : Int) < (n : Int) := by omega
          have hn2 : (0 : Int) ≤ (n : Int) - 1 := by omega
          have hn3 : (n : Int) - 1 < (n : Int) := by omega
          have HN : Hid (chk ⟨some ⟨b1, o1, none⟩, n, c, some ⟨b2, o2, none⟩, n, d, v, h, er, il, ih, rl, rh⟩ = if h 0 = 0 ∧ h (n - 1) = 1000 ∧ (0 ≤ er ∧ er ≤ 1000) ∧ spP il ih ∧ spP rl rh then 0 else 1) := Lib.hid (by
            by_cases hh : h 0 = 0 ∧ h (n - 1) = 1000 ∧ (0 ≤ er ∧ er ≤ 1000) ∧ spP il ih ∧ spP rl rh
            · rw [if_pos hh, chk0 H3.out HA.out ⟨HR.out.1, HR.out.2, hh⟩]
            · rw [if_neg hh, chk1 H3.out HA.out (fun x => hh x.2.2)])
          clear k0 Hs hlt HV'
          by_cases e0 : h 0 = 0
          case neg =>
            have q0 : (h 0 != 0) = true := by simpa using e0
            have HC := Lib.hid (HN.out.trans (if_neg (fun x => e0 x.1)))
            clear e0
            go_wp2_with fail
            go_ret
            exact ⟨ret_int HC.out.symm, Hbb.out _ Hb.out⟩
          have q0 : (h 0 != 0) = false := by simpa using e0
          by_cases e1 : h (n - 1) = 1000
          case neg =>
            have q2 : (h (n - 1) != 1000) = true := by simpa using e1
            have HC := Lib.hid (HN.out.trans (if_neg (fun x => e1 x.2.1)))
            clear e0 e1
            go_wp2_with fail
            go_ret
            exact ⟨ret_int HC.out.symm, Hbb.out _ Hb.out⟩
          have q2 : (h (n - 1) != 1000) = false := by simpa using e1
          by_cases e2 : 0 ≤ er ∧ er ≤ 1000
          case neg =>
            have q3 := inB_f e2
            have HC := Lib.hid (HN.out.trans (if_neg (fun x => e2 x.2.2.1)))
            clear e0 e1 e2
            go_wp2_with (go_at_call 26; refine (in26 _ _ _).mono ?_; rintro e w1 ⟨rfl, rfl⟩)
            go_ret
            exact ⟨ret_int HC.out.symm, Hbb.out _ Hb.out⟩
          have q3 := inB_t e2
          by_cases e3 : spP il ih
          case neg =>
            have q4 := spB_f e3
            have HC := Lib.hid (HN.out.trans (if_neg (fun x => e3 x.2.2.2.1)))
            clear e0 e1 e2 e3
            go_wp2_with (first | (go_at_call 26; refine (in26 _ _ _).mono ?_; rintro e w1 ⟨rfl, rfl⟩) | (go_at_call 28; refine (within28 _ _ _).mono ?_; rintro e w1 ⟨rfl, hb1⟩; have B1 := Lib.hid (bel1 Hb.out hb1); clear hb1))
            go_ret
            exact ⟨ret_int HC.out.symm, Hbb.out _ B1.out⟩
          have q4 := spB_t e3
          by_cases e4 : spP rl rh
          case neg =>
            have q5 := spB_f e4
            have HC := Lib.hid (HN.out.trans (if_neg (fun x => e4 x.2.2.2.2)))
            clear e0 e1 e2 e3 e4
            go_wp2_with (first | (go_at_call 26; refine (in26 _ _ _).mono ?_; rintro e w1 ⟨rfl, rfl⟩) | (go_at_call 28; refine (within28 _ _ _).mono ?_; rintro e w1 ⟨rfl, hb1⟩; have Hb := Lib.hid (bel1 Hb.out hb1); clear hb1; obtain ⟨k0, k1, k2, k3, k4, k5, k6⟩ := Hk.out w1 Hb.out; clear k0 k1 k2))
            go_ret
            exact ⟨ret_int HC.out.symm, Hbb.out _ Hb.out⟩
          have q5 := spB_t e4
          have HC := Lib.hid (HN.out.trans (if_pos ⟨e0, e1, e2, e3, e4⟩))
          clear e0 e1 e2 e3 e4
          go_wp2_with (first | (go_at_call 26; refine (in26 _ _ _).mono ?_; rintro e w1 ⟨rfl, rfl⟩) | (go_at_call 28; refine (within28 _ _ _).mono ?_; rintro e w1 ⟨rfl, hb1⟩; have Hb := Lib.hid (bel1 Hb.out hb1); clear hb1; obtain ⟨k0, k1, k2, k3, k4, k5, k6⟩ := Hk.out w1 Hb.out; clear k0 k1 k2))
          go_ret
          exact ⟨ret_int HC.out.symm, Hbb.out _ Hb.out⟩
end Go.Proofs.Ytgcjjnmdbdllhaa
