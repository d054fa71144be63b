/- The walk of the law DaycapExact. -/
import Derived.Test.YtfdidnfkcmbgiaaRd
import Derived.Deep.RegionHeld3
namespace Go.Proofs.Ytfdidnfkcmbgiaa
open Go.RowKit
open Dc
set_option maxHeartbeats 400000
set_option maxRecDepth 100000
set_option linter.unusedVariables false

set_option maxHeartbeats 4000000 in
theorem law5_any (lim : Int) (A : Option Addr) (n c : Nat) (r d a : Nat → Int) (w : World) (hr : SlR w A n r d a) (m1 : n ≤ 9223372036854775807) :
    Calls Try.prog 5 #[.int .i64 lim, .slice A n c] w fun e w' => e = .returned (.bool true) ∧ Below w.heap.size w w' := by
  have Hr := Lib.hid hr
  clear hr
  by_cases h1 : 300 < n
  · go_enter Try.func5, Try.ntmps5
    go_wp2_with fail
    refine (awake_any w).mono ?_
    rintro e w1 ⟨rfl, hb⟩
    go_wp2_with fail
    go_ret
    exact ⟨rfl, hb⟩
  have m2 : n ≤ 300 := by omega
  clear h1
  by_cases hc : chk lim n n n r d a = 0
  case neg =>
    have hcb : (chk lim n n n r d a != 0) = true := by simpa using hc
    have Hc := Lib.hid hc
    clear hc
    go_enter Try.func5, Try.ntmps5
    go_wp2_with fail
    refine (lists_any A n c r d a w Hr.out m2).mono ?_
    rintro e w1 ⟨A1, c1, A2, c2, A3, c3, rfl, s1, s2, s3, e1, e2, e3, hb1⟩
    have b1 := Lib.hid hb1
    have S1 := Lib.hid s1
    have S2 := Lib.hid s2
    have S3 := Lib.hid s3
    clear s1 s2 s3 e1 e2 e3 hb1
    go_wp2_with fail
    refine (papply_any lim A1 A2 A3 n n n c1 c2 c3 r d a w1 S1.out S2.out S3.out m1 m1 m1).mono ?_
    unfold ApPost
    rw [outLen_neg Hc.out]
    rintro e w2 ⟨A4, c4, rfl, s4, hb, e4⟩
    have b2 := Lib.hid (b1.out.trans (hb.mono b1.out.size))
    have S1 := Lib.hid (S1.out.bel hb)
    have S2 := Lib.hid (S2.out.bel hb)
    have S3 := Lib.hid (S3.out.bel hb)
    clear hb s4 e4
    go_wp2_with fail
    refine (rcheck_any lim A1 A2 A3 n n n c1 c2 c3 r d a w2 S1.out S2.out S3.out m1 m1 m1).mono ?_
    rintro e w3 ⟨rfl, rfl⟩
    go_wp2_with fail
    refine (awake_any w2).mono ?_
    rintro e w6 ⟨rfl, hb⟩
    have b6 := Lib.hid (b2.out.trans (hb.mono b2.out.size))
    clear hb
    go_wp2_with fail
    go_ret
    exact ⟨rfl, b6.out⟩
  obtain ⟨_, _, V⟩ := chk_zero hc
  have HV := Lib.hid V
  have Hc := Lib.hid hc
  have mn := V.len
  have hl0 := V.lim0
  have hl1 := V.lim1
  clear V hc
  go_enter Try.func5, Try.ntmps5
  go_wp2_with fail
  refine (lists_any A n c r d a w Hr.out m2).mono ?_
  rintro e w1 ⟨A1, c1, A2, c2, A3, c3, rfl, s1, s2, s3, e1, e2, e3, hb1⟩
  have b1 := Lib.hid hb1
  have S1 := Lib.hid s1
  have S2 := Lib.hid s2
  have S3 := Lib.hid s3
  clear s1 s2 s3 e1 e2 e3 hb1
  go_wp2_with fail
  refine (papply_any lim A1 A2 A3 n n n c1 c2 c3 r d a w1 S1.out S2.out S3.out m1 m1 m1).mono ?_
  unfold ApPost
  rw [outLen_pos Hc.out, Hc.out]
  rintro e w2 ⟨A4, c4, rfl, s4, hb, e4⟩
  have b2 := Lib.hid (b1.out.trans (hb.mono b1.out.size))
  have S1 := Lib.hid (S1.out.bel hb)
  have S2 := Lib.hid (S2.out.bel hb)
  have S3 := Lib.hid (S3.out.bel hb)
  have S4 := Lib.hid s4
  have R2 := Lib.hid (Hr.out.bel b2.out)
  clear hb s4 e4
  go_wp2_with fail
  refine (rcheck_any lim A1 A2 A3 n n n c1 c2 c3 r d a w2 S1.out S2.out S3.out m1 m1 m1).mono ?_
  rw [Hc.out]
  rintro e w3 ⟨rfl, rfl⟩
  go_wp2_with fail
  go_loopw [11] (fun i wr => ∃ i' : Nat, i' ≤ n ∧ i = .int .i64 i' ∧ Hid (Below w2.heap.size w2 wr)) (fun i _ => n - (intOf i).toNat)
  case atStart => exact ⟨0, by omega, rfl, Lib.hid (Below.refl _ _)⟩
  case round =>
    obtain ⟨i, hi, rfl, Hb⟩ := hrel
    by_cases hin : i < n
    · obtain ⟨wo, hwo⟩ : ∃ wo : World, wo = wr := ⟨_, rfl⟩
      subst hwo
      have V := HV.out
      have hbd := fun k (hk : k ≤ n) => sumG_le r d a 1000000000000 k (fun j hj => ⟨V.a0 j (by omega), V.a1 j (by omega)⟩) (r i) (d i)
      have hpd := fun k (hk : k ≤ n) => V.paid k hk (r i) (d i)
      have hpy := fun k (hk : k < n) => pay_bd lim r d a V.lim0 k (fun j hj => V.a0 j (by omega))
      have Hbd := Lib.hid hbd
      have Hpd := Lib.hid hpd
      have Hpy := Lib.hid hpy
      have hva := V.a1
      have Hva := Lib.hid hva
      have Hva0 := Lib.hid V.a0
      have T1 := Lib.hid (S1.out.bel Hb.out)
      have T2 := Lib.hid (S2.out.bel Hb.out)
      have T3 := Lib.hid (S3.out.bel Hb.out)
      have T4 := Lib.hid (S4.out.bel Hb.out)
      have TR := Lib.hid (R2.out.bel Hb.out)
      clear V hbd hpd hpy hva
      obtain ⟨rb, ro, rfl, hrb, y1, y2, y3⟩ := TR.out.at_ i hin
      obtain ⟨pb, po, rfl, hpb, y4⟩ := T4.out.at_ i hin
      clear y3 y4
      go_wp2_with fail
      go_loopw [14, 12, 13] (fun j s p wi => ∃ j' m : Nat, j' ≤ n ∧ j = .int .i64 j' ∧ s = .int .i64 (sumG r d a j' (r i) (d i)) ∧ p = .int .i64 (paidG lim r d a j' (r i) (d i)) ∧ wi = wo.drewN m) (fun j _ _ _ => n - (intOf j).toNat)
      case atStart => exact ⟨0, 0, by omega, rfl, rfl, rfl, rfl⟩
      case round =>
        obtain ⟨j, m, hj, rfl, rfl, rfl, rfl⟩ := hrel
        by_cases hjn : j < n
        · obtain ⟨z1, z2, z3⟩ := TR.out.cell j hjn
          have z4 := T4.out.cell j hjn
          have q1 := Hbd.out j (by omega)
          have q2 := Hpd.out j (by omega)
          have q3 := Hpy.out j hjn
          have q4 := Hva.out j hjn
          have q4' := Hva0.out j hjn
          have hjI : (j : Int) < (n : Int) := by omega
          have hiI : (i : Int) < (n : Int) := by omega
          have hd1 : decide (pay lim r d a j < 0) = false := by simp; omega
          have hd2 : decide (a j < pay lim r d a j) = false := by simp; omega
          have e1 : (i : Int).toNat = i := rfl
          have Hs1 := Lib.hid (show sumG r d a (j + 1) (r i) (d i) = sumG r d a j (r i) (d i) + if r j = r i ∧ d j = d i then a j else 0 from rfl)
          have Hs2 := Lib.hid (paidG_succ lim r d a j (r i) (d i))
          have q5 : 0 ≤ pay lim r d a j ∧ pay lim r d a j ≤ 1000000000000 := by omega
          have q6 : (j : Int) * 1000000000000 ≤ 300000000000000 := by omega
          clear q3
          by_cases g1 : r j = r i
          · have g1b : (r j == r i) = true := by simpa using g1
            have G1 := Lib.hid g1
            by_cases g2 : d j = d i
            · have g2b : (d j == d i) = true := by simpa using g2
              have G2 := Lib.hid g2
              have hw1 : IntKind.i64.wrap (sumG r d a j (r i) (d i) + a j) = sumG r d a j (r i) (d i) + a j := IntWalk.i64_in _ (by omega)
              have hw2 : IntKind.i64.wrap (paidG lim r d a j (r i) (d i) + pay lim r d a j) = paidG lim r d a j (r i) (d i) + pay lim r d a j := IntWalk.i64_in _ (by omega)
              clear g1 g2 e1
              go_wp2
              go_quiet (fail)
              go_wp2
              go_quiet (fail)
              go_wp2
              go_quiet (fail)
              go_wp2
              go_roundw
              case rel => exact ⟨j + 1, _, by omega, by go_num, by rw [Hs1.out, if_pos ⟨G1.out, G2.out⟩], by rw [Hs2.out, if_pos ⟨G1.out, G2.out⟩], rfl⟩
              case measure => simp [intOf]; omega
            · have g2b : (d j == d i) = false := by simpa using g2
              have G2 := Lib.hid g2
              clear g1 g2 e1
              go_wp2
              go_quiet (fail)
              go_wp2
              go_quiet (fail)
              go_wp2
              go_roundw
              case rel => exact ⟨j + 1, _, by omega, by go_num, by rw [Hs1.out, if_neg (fun h => G2.out h.2), Int.add_zero], by rw [Hs2.out, if_neg (fun h => G2.out h.2), Int.add_zero], rfl⟩
              case measure => simp [intOf]; omega
          · have g1b : (r j == r i) = false := by simpa using g1
            have G1 := Lib.hid g1
            clear g1 e1
            go_wp2
            go_quiet (fail)
            go_wp2
            go_quiet (fail)
            go_wp2
            go_roundw
            case rel => exact ⟨j + 1, _, by omega, by go_num, by rw [Hs1.out, if_neg (fun h => G1.out h.1), Int.add_zero], by rw [Hs2.out, if_neg (fun h => G1.out h.1), Int.add_zero], rfl⟩
            case measure => simp [intOf]; omega
        · have hjn' : j = n := by omega
          subst hjn'
          have hiI : (i : Int) < (j : Int) := by omega
          have V := HV.out
          have hval := (paidG_val lim r d a hl0 j (fun k hk => V.a0 k hk) (r i) (d i)).2
          have x1 := V.r0 i hin
          have x2 := V.r1 i hin
          have x3 := V.d0 i hin
          have x4 := V.d1 i hin
          have q1 := Hbd.out j (Nat.le_refl _)
          have q2 := Hpd.out j (Nat.le_refl _)
          have Hpr := Lib.hid (show paidR lim j j j r d a (r i) (d i) = paidG lim r d a j (r i) (d i) from if_pos Hc.out)
          have Hval := Lib.hid hval
          clear V hval
          by_cases hp : 0 < lim
          · have hlr : leftR lim j j j r d a (r i) (d i) = lim - paidG lim r d a j (r i) (d i) := by rw [leftR, if_pos Hc.out, if_neg (by omega)]
            have Hlr := Lib.hid hlr
            have hl0b : (lim == 0) = false := by simp; omega
            clear hlr
            by_cases hq : sumG r d a j (r i) (d i) ≤ lim
            · have hb1 : (paidG lim r d a j (r i) (d i) != sumG r d a j (r i) (d i)) = false := by
                have := Hval.out; rw [if_pos hp] at this; simp; omega
              go_wp2
              go_region_held3 (fun w' => w'.cell? ⟨rb, ro + i * 3, none⟩ = some (.int .i64 (r i)) ∧ w'.cell? ⟨rb, ro + i * 3 + 1, none⟩ = some (.int .i64 (d i))) (first | exact ⟨y1, y2⟩ | exact ⟨z1, z2⟩ | exact ⟨z1', z2'⟩ | go_keep) (first | (go_at_call 14; refine (ppaid_any lim A1 A2 A3 j j j c1 c2 c3 r d a (r i) (d i) _ (by exact T1.out) (by exact T2.out) (by exact T3.out) m1 m1 m1 (by omega) (by omega)).mono ?_; rw [Hc.out, Hpr.out]; rintro e w7 ⟨rfl, hb7⟩; have Hb7 := Lib.hid hb7; have U1 := Lib.hid (SlI.bel (A := A1) (n := j) (f := r) (by exact T1.out) hb7); have U2 := Lib.hid (SlI.bel (A := A2) (n := j) (f := d) (by exact T2.out) hb7); have U3 := Lib.hid (SlI.bel (A := A3) (n := j) (f := a) (by exact T3.out) hb7); have z1 := (hb7.cell (p := ⟨rb, ro + i * 3, none⟩) hrb).trans y1; have z2 := (hb7.cell (p := ⟨rb, ro + i * 3 + 1, none⟩) hrb).trans y2; clear hb7))
              all_goals
                go_wp2
                go_region_held3 (fun w' => w'.cell? ⟨rb, ro + i * 3, none⟩ = some (.int .i64 (r i)) ∧ w'.cell? ⟨rb, ro + i * 3 + 1, none⟩ = some (.int .i64 (d i))) (first | exact ⟨y1, y2⟩ | exact ⟨z1, z2⟩ | exact ⟨z1', z2'⟩ | go_keep) (first | (go_at_call 16; refine (pleft_any lim A1 A2 A3 j j j c1 c2 c3 r d a (r i) (d i) _ (by exact U1.out) (by exact U2.out) (by exact U3.out) m1 m1 m1 (by omega) (by omega)).mono ?_; rw [Hc.out, Hlr.out]; rintro e w8 ⟨rfl, hb8⟩; have Hb8 := Lib.hid (Below.trans (Below.drew ((below_drewN Hb.out (m + 1)).trans (Hb7.out.mono Hb.out.size))) (hb8.mono (Nat.le_trans Hb.out.size Hb7.out.size))); have z1' := (hb8.cell (p := ⟨rb, ro + i * 3, none⟩) (Nat.lt_of_lt_of_le hrb Hb7.out.size)).trans z1; have z2' := (hb8.cell (p := ⟨rb, ro + i * 3 + 1, none⟩) (Nat.lt_of_lt_of_le hrb Hb7.out.size)).trans z2; clear hb8))
              all_goals
                go_wp2
                go_roundw
                case rel => exact ⟨i + 1, by omega, by go_num, Hb8⟩
                case measure => simp [intOf]; omega
            · have hb1 : (paidG lim r d a j (r i) (d i) != lim) = false := by
                have := Hval.out; rw [if_pos hp] at this; simp; omega
              go_wp2
              go_region_held3 (fun w' => w'.cell? ⟨rb, ro + i * 3, none⟩ = some (.int .i64 (r i)) ∧ w'.cell? ⟨rb, ro + i * 3 + 1, none⟩ = some (.int .i64 (d i))) (first | exact ⟨y1, y2⟩ | exact ⟨z1, z2⟩ | exact ⟨z1', z2'⟩ | go_keep) (first | (go_at_call 14; refine (ppaid_any lim A1 A2 A3 j j j c1 c2 c3 r d a (r i) (d i) _ (by exact T1.out) (by exact T2.out) (by exact T3.out) m1 m1 m1 (by omega) (by omega)).mono ?_; rw [Hc.out, Hpr.out]; rintro e w7 ⟨rfl, hb7⟩; have Hb7 := Lib.hid hb7; have U1 := Lib.hid (SlI.bel (A := A1) (n := j) (f := r) (by exact T1.out) hb7); have U2 := Lib.hid (SlI.bel (A := A2) (n := j) (f := d) (by exact T2.out) hb7); have U3 := Lib.hid (SlI.bel (A := A3) (n := j) (f := a) (by exact T3.out) hb7); have z1 := (hb7.cell (p := ⟨rb, ro + i * 3, none⟩) hrb).trans y1; have z2 := (hb7.cell (p := ⟨rb, ro + i * 3 + 1, none⟩) hrb).trans y2; clear hb7))
              all_goals
                go_wp2
                go_region_held3 (fun w' => w'.cell? ⟨rb, ro + i * 3, none⟩ = some (.int .i64 (r i)) ∧ w'.cell? ⟨rb, ro + i * 3 + 1, none⟩ = some (.int .i64 (d i))) (first | exact ⟨y1, y2⟩ | exact ⟨z1, z2⟩ | exact ⟨z1', z2'⟩ | go_keep) (first | (go_at_call 16; refine (pleft_any lim A1 A2 A3 j j j c1 c2 c3 r d a (r i) (d i) _ (by exact U1.out) (by exact U2.out) (by exact U3.out) m1 m1 m1 (by omega) (by omega)).mono ?_; rw [Hc.out, Hlr.out]; rintro e w8 ⟨rfl, hb8⟩; have Hb8 := Lib.hid (Below.trans (Below.drew ((below_drewN Hb.out (m + 1)).trans (Hb7.out.mono Hb.out.size))) (hb8.mono (Nat.le_trans Hb.out.size Hb7.out.size))); have z1' := (hb8.cell (p := ⟨rb, ro + i * 3, none⟩) (Nat.lt_of_lt_of_le hrb Hb7.out.size)).trans z1; have z2' := (hb8.cell (p := ⟨rb, ro + i * 3 + 1, none⟩) (Nat.lt_of_lt_of_le hrb Hb7.out.size)).trans z2; clear hb8))
              all_goals
                go_wp2
                go_roundw
                case rel => exact ⟨i + 1, by omega, by go_num, Hb8⟩
                case measure => simp [intOf]; omega
          · have hlr : leftR lim j j j r d a (r i) (d i) = 1000000000000 := by rw [leftR, if_pos Hc.out, if_pos (by omega)]
            have Hlr := Lib.hid hlr
            have hl0b : (lim == 0) = true := by simp; omega
            have hb1 : (paidG lim r d a j (r i) (d i) != sumG r d a j (r i) (d i)) = false := by
              have := Hval.out; rw [if_neg hp] at this; simp; omega
            clear hlr
            go_wp2
            go_region_held3 (fun w' => w'.cell? ⟨rb, ro + i * 3, none⟩ = some (.int .i64 (r i)) ∧ w'.cell? ⟨rb, ro + i * 3 + 1, none⟩ = some (.int .i64 (d i))) (first | exact ⟨y1, y2⟩ | exact ⟨z1, z2⟩ | exact ⟨z1', z2'⟩ | go_keep) (first | (go_at_call 14; refine (ppaid_any lim A1 A2 A3 j j j c1 c2 c3 r d a (r i) (d i) _ (by exact T1.out) (by exact T2.out) (by exact T3.out) m1 m1 m1 (by omega) (by omega)).mono ?_; rw [Hc.out, Hpr.out]; rintro e w7 ⟨rfl, hb7⟩; have Hb7 := Lib.hid hb7; have U1 := Lib.hid (SlI.bel (A := A1) (n := j) (f := r) (by exact T1.out) hb7); have U2 := Lib.hid (SlI.bel (A := A2) (n := j) (f := d) (by exact T2.out) hb7); have U3 := Lib.hid (SlI.bel (A := A3) (n := j) (f := a) (by exact T3.out) hb7); have z1 := (hb7.cell (p := ⟨rb, ro + i * 3, none⟩) hrb).trans y1; have z2 := (hb7.cell (p := ⟨rb, ro + i * 3 + 1, none⟩) hrb).trans y2; clear hb7))
            all_goals
              go_wp2
              go_region_held3 (fun w' => w'.cell? ⟨rb, ro + i * 3, none⟩ = some (.int .i64 (r i)) ∧ w'.cell? ⟨rb, ro + i * 3 + 1, none⟩ = some (.int .i64 (d i))) (first | exact ⟨y1, y2⟩ | exact ⟨z1, z2⟩ | exact ⟨z1', z2'⟩ | go_keep) (first | (go_at_call 16; refine (pleft_any lim A1 A2 A3 j j j c1 c2 c3 r d a (r i) (d i) _ (by exact U1.out) (by exact U2.out) (by exact U3.out) m1 m1 m1 (by omega) (by omega)).mono ?_; rw [Hc.out, Hlr.out]; rintro e w8 ⟨rfl, hb8⟩; have Hb8 := Lib.hid (Below.trans (Below.drew ((below_drewN Hb.out (m + 1)).trans (Hb7.out.mono Hb.out.size))) (hb8.mono (Nat.le_trans Hb.out.size Hb7.out.size))); have z1' := (hb8.cell (p := ⟨rb, ro + i * 3, none⟩) (Nat.lt_of_lt_of_le hrb Hb7.out.size)).trans z1; have z2' := (hb8.cell (p := ⟨rb, ro + i * 3 + 1, none⟩) (Nat.lt_of_lt_of_le hrb Hb7.out.size)).trans z2; clear hb8))
            all_goals
              go_wp2
              go_roundw
              case rel => exact ⟨i + 1, by omega, by go_num, Hb8⟩
              case measure => simp [intOf]; omega
    · have hin' : i = n := by omega
      subst hin'
      go_wp2_with fail
      refine (awake_any wr).mono ?_
      rintro e w6 ⟨rfl, hb⟩
      have b6 := Lib.hid (b2.out.trans (Hb.out.mono b2.out.size) |>.trans (hb.mono (Nat.le_trans b2.out.size Hb.out.size)))
      clear hb
      go_wp2_with fail
      go_ret
      exact ⟨rfl, b6.out⟩
end Go.Proofs.Ytfdidnfkcmbgiaa
