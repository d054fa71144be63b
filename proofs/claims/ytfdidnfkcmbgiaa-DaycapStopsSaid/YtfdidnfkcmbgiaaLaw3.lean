/- The walk of the law DaycapStops. -/
import Derived.Test.YtfdidnfkcmbgiaaRd
namespace Go.Proofs.Ytfdidnfkcmbgiaa
open Go.RowKit
open Dc
set_option maxHeartbeats 1000000
set_option maxRecDepth 100000
set_option linter.unusedVariables false

theorem law6_any (lim : Int) (A : Option Addr) (n c : Nat) (r d a : Nat → Int) (w : World) (hr : SlR w A n r d a) (m1 : n ≤ 9223372036854775807) :
    Calls Try.prog 6 #[.int .i64 lim, .slice A n c] w fun e w' => e = .returned (.bool true) ∧ Below w.heap.size w w' := by
  have Hr := Lib.hid hr
  clear hr
  by_cases h1 : 300 < n
  · go_enter Try.func6, Try.ntmps6
    go_wp2_with fail
    refine (awake_any w).mono ?_
    rintro e w1 ⟨rfl, hb⟩
    go_wp2_with fail
    go_ret
    exact ⟨rfl, hb⟩
  have m2 : n ≤ 300 := by omega
  clear h1
  by_cases hc : chk lim n n n r d a = 0
  case neg =>
    have hcb : (chk lim n n n r d a != 0) = true := by simpa using hc
    have Hc := Lib.hid hc
    clear hc
    go_enter Try.func6, Try.ntmps6
    go_wp2_with fail
    refine (lists_any A n c r d a w Hr.out m2).mono ?_
    rintro e w1 ⟨A1, c1, A2, c2, A3, c3, rfl, s1, s2, s3, e1, e2, e3, hb1⟩
    have b1 := Lib.hid hb1
    have S1 := Lib.hid s1
    have S2 := Lib.hid s2
    have S3 := Lib.hid s3
    clear s1 s2 s3 e1 e2 e3 hb1
    go_wp2_with fail
    refine (papply_any lim A1 A2 A3 n n n c1 c2 c3 r d a w1 S1.out S2.out S3.out m1 m1 m1).mono ?_
    unfold ApPost
    rw [outLen_neg Hc.out]
    rintro e w2 ⟨A4, c4, rfl, s4, hb, e4⟩
    have b2 := Lib.hid (b1.out.trans (hb.mono b1.out.size))
    clear hb s4 e4
    go_wp2_with fail
    refine (awake_any w2).mono ?_
    rintro e w6 ⟨rfl, hb⟩
    have b6 := Lib.hid (b2.out.trans (hb.mono b2.out.size))
    clear hb
    go_wp2_with fail
    go_ret
    exact ⟨rfl, b6.out⟩
  obtain ⟨_, _, V⟩ := chk_zero hc
  have HV := Lib.hid V
  have Hc := Lib.hid hc
  have mn := V.len
  have hl0 := V.lim0
  clear V hc
  go_enter Try.func6, Try.ntmps6
  go_wp2_with fail
  refine (lists_any A n c r d a w Hr.out m2).mono ?_
  rintro e w1 ⟨A1, c1, A2, c2, A3, c3, rfl, s1, s2, s3, e1, e2, e3, hb1⟩
  have b1 := Lib.hid hb1
  have S1 := Lib.hid s1
  have S2 := Lib.hid s2
  have S3 := Lib.hid s3
  clear s1 s2 s3 e1 e2 e3 hb1
  go_wp2_with fail
  refine (papply_any lim A1 A2 A3 n n n c1 c2 c3 r d a w1 S1.out S2.out S3.out m1 m1 m1).mono ?_
  unfold ApPost
  rw [outLen_pos Hc.out, Hc.out]
  rintro e w2 ⟨A4, c4, rfl, s4, hb, e4⟩
  have b2 := Lib.hid (b1.out.trans (hb.mono b1.out.size))
  have S4 := Lib.hid s4
  have R2 := Lib.hid (Hr.out.bel b2.out)
  clear hb s4 e4
  go_wp2_with fail
  go_loopw [10] (fun i wr => ∃ i' m : Nat, i' ≤ n ∧ i = .int .i64 i' ∧ wr = w2.drewN m) (fun i _ => n - (intOf i).toNat)
  case atStart => exact ⟨0, 0, by omega, rfl, rfl⟩
  case round =>
    obtain ⟨i, mi, hi, rfl, rfl⟩ := hrel
    by_cases hin : i < n
    · obtain ⟨rb, ro, rfl, hrb, y1, y2, y3⟩ := R2.out.at_ i hin
      obtain ⟨pb, po, rfl, hpb, y4⟩ := S4.out.at_ i hin
      have V := HV.out
      have hpi := (pay_bd lim r d a hl0 i (fun j hj => V.a0 j (by omega))).2.2
      have hst := fun k hk => pay_stops lim r d a hl0 i (fun j hj => V.a0 j (by omega)) k hk
      have Hst := Lib.hid hst
      have hiI : (i : Int) < (n : Int) := by omega
      have H0 := Lib.hid hpi
      clear V hst hpi
      by_cases h0 : lim = 0
      · have h0b : (lim == 0) = true := by simpa using h0
        have h5b : (pay lim r d a i != a i) = false := by rw [H0.out h0]; simp
        clear h0
        go_wp2
        go_quiet (fail)
        go_wp2_with fail
        go_loopw [11] (fun j wi => ∃ j' m : Nat, j' ≤ i ∧ j = .int .i64 j' ∧ wi = w2.drewN m) (fun j _ => i - (intOf j).toNat)
        case atStart => exact ⟨0, _, by omega, rfl, by first | rfl | exact World.drewN_drewN _ _ _⟩
        case round =>
          obtain ⟨j, m, hj, rfl, rfl⟩ := hrel
          by_cases hji : j < i
          · obtain ⟨z1, z2, z3⟩ := R2.out.cell j (by omega)
            have z4 := S4.out.cell j (by omega)
            have hjI : (j : Int) < (n : Int) := by omega
            have hjI2 : (j : Int) < (i : Int) := by omega
            by_cases g1 : r j = r i
            · have g1b : (r j == r i) = true := by simpa using g1
              by_cases g2 : d j = d i
              · have g2b : (d j == d i) = true := by simpa using g2
                by_cases g3 : pay lim r d a j < a j
                · have g3b : decide (pay lim r d a j < a j) = true := by simpa using g3
                  have g4b : (pay lim r d a i != 0) = false := by rw [Hst.out j hji g1 g2 g3]; rfl
                  clear g1 g2 g3
                  go_wp2
                  go_quiet (fail)
                  go_wp2
                  go_roundw
                  case rel => exact ⟨j + 1, _, by omega, by go_num, rfl⟩
                  case measure => simp [intOf]; omega
                · have g3b : decide (pay lim r d a j < a j) = false := by simpa using g3
                  clear g1 g2 g3
                  go_wp2
                  go_quiet (fail)
                  go_wp2
                  go_roundw
                  case rel => exact ⟨j + 1, _, by omega, by go_num, rfl⟩
                  case measure => simp [intOf]; omega
              · have g2b : (d j == d i) = false := by simpa using g2
                clear g1 g2
                go_wp2
                go_quiet (fail)
                go_wp2
                go_roundw
                case rel => exact ⟨j + 1, _, by omega, by go_num, rfl⟩
                case measure => simp [intOf]; omega
            · have g1b : (r j == r i) = false := by simpa using g1
              clear g1
              go_wp2
              go_quiet (fail)
              go_wp2
              go_roundw
              case rel => exact ⟨j + 1, _, by omega, by go_num, rfl⟩
              case measure => simp [intOf]; omega
          · have hji' : j = i := by omega
            subst hji'
            go_wp2
            go_roundw
            case rel => exact ⟨j + 1, _, by omega, by go_num, rfl⟩
            case measure => simp [intOf]; omega
      · have h0b : (lim == 0) = false := by simpa using h0
        clear h0
        go_wp2
        go_quiet (fail)
        go_wp2_with fail
        go_loopw [11] (fun j wi => ∃ j' m : Nat, j' ≤ i ∧ j = .int .i64 j' ∧ wi = w2.drewN m) (fun j _ => i - (intOf j).toNat)
        case atStart => exact ⟨0, _, by omega, rfl, by first | rfl | exact World.drewN_drewN _ _ _⟩
        case round =>
          obtain ⟨j, m, hj, rfl, rfl⟩ := hrel
          by_cases hji : j < i
          · obtain ⟨z1, z2, z3⟩ := R2.out.cell j (by omega)
            have z4 := S4.out.cell j (by omega)
            have hjI : (j : Int) < (n : Int) := by omega
            have hjI2 : (j : Int) < (i : Int) := by omega
            by_cases g1 : r j = r i
            · have g1b : (r j == r i) = true := by simpa using g1
              by_cases g2 : d j = d i
              · have g2b : (d j == d i) = true := by simpa using g2
                by_cases g3 : pay lim r d a j < a j
                · have g3b : decide (pay lim r d a j < a j) = true := by simpa using g3
                  have g4b : (pay lim r d a i != 0) = false := by rw [Hst.out j hji g1 g2 g3]; rfl
                  clear g1 g2 g3
                  go_wp2
                  go_quiet (fail)
                  go_wp2
                  go_roundw
                  case rel => exact ⟨j + 1, _, by omega, by go_num, rfl⟩
                  case measure => simp [intOf]; omega
                · have g3b : decide (pay lim r d a j < a j) = false := by simpa using g3
                  clear g1 g2 g3
                  go_wp2
                  go_quiet (fail)
                  go_wp2
                  go_roundw
                  case rel => exact ⟨j + 1, _, by omega, by go_num, rfl⟩
                  case measure => simp [intOf]; omega
              · have g2b : (d j == d i) = false := by simpa using g2
                clear g1 g2
                go_wp2
                go_quiet (fail)
                go_wp2
                go_roundw
                case rel => exact ⟨j + 1, _, by omega, by go_num, rfl⟩
                case measure => simp [intOf]; omega
            · have g1b : (r j == r i) = false := by simpa using g1
              clear g1
              go_wp2
              go_quiet (fail)
              go_wp2
              go_roundw
              case rel => exact ⟨j + 1, _, by omega, by go_num, rfl⟩
              case measure => simp [intOf]; omega
          · have hji' : j = i := by omega
            subst hji'
            go_wp2
            go_roundw
            case rel => exact ⟨j + 1, _, by omega, by go_num, rfl⟩
            case measure => simp [intOf]; omega
    · have hin' : i = n := by omega
      subst hin'
      go_wp2_with fail
      refine (awake_any _).mono ?_
      rintro e w6 ⟨rfl, hb⟩
      have b6 := Lib.hid ((below_drewN b2.out mi).trans (hb.mono b2.out.size))
      clear hb
      go_wp2_with fail
      go_ret
      exact ⟨rfl, b6.out⟩
end Go.Proofs.Ytfdidnfkcmbgiaa
