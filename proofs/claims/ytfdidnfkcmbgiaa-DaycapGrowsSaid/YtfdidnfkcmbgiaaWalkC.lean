/- The walks of Apply, the program's and the reference's; Paid, Left of the program. -/
import Derived.Test.YtfdidnfkcmbgiaaWalkB
namespace Go.Proofs.Ytfdidnfkcmbgiaa
open Go.RowKit
open Dc
set_option maxHeartbeats 400000
set_option linter.unusedVariables false

theorem inB_iff {n lo hi : Int} : inB n lo hi = true ↔ lo ≤ n ∧ n ≤ hi := by simp [inB]
theorem chk_zero {lim : Int} {nr nd na : Nat} {r d a : Nat → Int} (h : chk lim nr nd na r d a = 0) : nd = na ∧ nr = na ∧ Valid lim na r d a := by
  unfold chk at h
  by_cases h1 : inB lim 0 1000000000000 = false
  · rw [if_pos h1] at h; cases h
  rw [if_neg h1] at h
  by_cases h2 : nr ≠ nd ∨ nr ≠ na
  · rw [if_pos h2] at h; cases h
  rw [if_neg h2] at h
  by_cases h3 : 256 < nr
  · rw [if_pos h3] at h; cases h
  rw [if_neg h3] at h
  by_cases h4 : ∀ i, i < nr → good r d a i = true
  · have h5 : inB lim 0 1000000000000 = true := by simpa using h1
    rw [inB_iff] at h5
    have e1 : nr = nd := by omega
    have e2 : nr = na := by omega
    subst e1 e2
    refine ⟨rfl, rfl, ⟨h5.1, h5.2, by omega, ?_, ?_, ?_, ?_, ?_, ?_⟩⟩
    all_goals
      intro i hi
      have h6 := h4 i hi
      simp only [good, Bool.and_eq_true, inB_iff] at h6
      omega
  · rw [if_neg h4] at h; cases h

def outLen (lim : Int) (nr nd na : Nat) (r d a : Nat → Int) : Nat := if chk lim nr nd na r d a = 0 then na else 0
theorem outLen_pos {lim : Int} {nr nd na : Nat} {r d a : Nat → Int} (h : chk lim nr nd na r d a = 0) : outLen lim nr nd na r d a = na := if_pos h
theorem outLen_neg {lim : Int} {nr nd na : Nat} {r d a : Nat → Int} (h : ¬ chk lim nr nd na r d a = 0) : outLen lim nr nd na r d a = 0 := if_neg h
theorem outLen_le (lim : Int) (nr nd na : Nat) (r d a : Nat → Int) : outLen lim nr nd na r d a ≤ 256 := by
  by_cases h : chk lim nr nd na r d a = 0
  · rw [outLen_pos h]; exact (chk_zero h).2.2.len
  · rw [outLen_neg h]; omega

/-- what Apply returns -/
def ApPost (lim : Int) (nr nd na : Nat) (r d a : Nat → Int) (w : World) (e : Ending) (w' : World) : Prop :=
  ∃ A c, e = .returned (.tuple #[.slice A (outLen lim nr nd na r d a) c, .int .i64 (chk lim nr nd na r d a)]) ∧ SlI w' A (outLen lim nr nd na r d a) (pay lim r d a) ∧ Below w.heap.size w w' ∧ outLen lim nr nd na r d a ≤ c

theorem papply_any (lim : Int) (A B C : Option Addr) (nr nd na c1 c2 c3 : Nat) (r d a : Nat → Int) (w : World) (hr : SlI w A nr r) (hd : SlI w B nd d) (ha : SlI w C na a)
   (m1 : nr ≤ 9223372036854775807) (m2 : nd ≤ 9223372036854775807) (m3 : na ≤ 9223372036854775807) :
    Calls Try.prog 10 #[.int .i64 lim, .slice A nr c1, .slice B nd c2, .slice C na c3] w (ApPost lim nr nd na r d a w) := by
  have Hr := Lib.hid hr
  have Hd := Lib.hid hd
  have Ha := Lib.hid ha
  clear hr hd ha
  by_cases hc : chk lim nr nd na r d a = 0
  · obtain ⟨rfl, rfl, V⟩ := chk_zero hc
    have HV := Lib.hid V
    have Hc := Lib.hid hc
    clear V hc
    go_enter Try.func10, Try.ntmps10
    go_wp2_with fail
    refine (check_any lim A B C nr nr nr c1 c2 c3 r d a w Hr.out Hd.out Ha.out m1 m2 m3).mono ?_
    rw [Hc.out]
    rintro e w' ⟨rfl, rfl⟩
    go_wp2_with fail
    refine (apply_any lim A B C nr c1 c2 c3 r d a w Hr.out Hd.out Ha.out HV.out).mono ?_
    rintro e w1 ⟨A1, c, rfl, hs, hm, hb, hcap⟩
    have Hcap := Lib.hid hcap
    have Hs := Lib.hid hs
    have Hb := Lib.hid hb
    clear hs hm hb hcap
    go_wp2_with fail
    go_ret2
    have e1 := outLen_pos Hc.out
    exact ⟨A1, c, by rw [e1, Hc.out]; rfl, by rw [e1]; exact Hs.out, Hb.out, by rw [e1]; exact Hcap.out⟩
  · have hcb : (chk lim nr nd na r d a != 0) = true := by simpa using hc
    have Hc := Lib.hid hc
    clear hc
    go_enter Try.func10, Try.ntmps10
    go_wp2_with fail
    refine (check_any lim A B C nr nd na c1 c2 c3 r d a w Hr.out Hd.out Ha.out m1 m2 m3).mono ?_
    rintro e w' ⟨rfl, rfl⟩
    go_wp2_with fail
    go_ret2
    have e1 := outLen_neg Hc.out
    exact ⟨none, 0, by rw [e1]; rfl, by rw [e1]; exact SlI.nil, Below.refl _ _, by omega⟩

/-- what the reference's inner loop has summed -/
theorem ref_step (lim : Int) (r d a : Nat → Int) (i j : Nat) :
    sumG r d (pay lim r d a) (j + 1) (r i) (d i) = sumG r d (pay lim r d a) j (r i) (d i) + if r j = r i ∧ d j = d i then pay lim r d a j else 0 := rfl

set_option maxHeartbeats 1000000 in
theorem rapply_any (lim : Int) (A B C : Option Addr) (nr nd na c1 c2 c3 : Nat) (r d a : Nat → Int) (w : World) (hr : SlI w A nr r) (hd : SlI w B nd d) (ha : SlI w C na a)
   (m1 : nr ≤ 9223372036854775807) (m2 : nd ≤ 9223372036854775807) (m3 : na ≤ 9223372036854775807) :
    Calls Try.prog 11 #[.int .i64 lim, .slice A nr c1, .slice B nd c2, .slice C na c3] w (ApPost lim nr nd na r d a w) := by
  have Hr := Lib.hid hr
  have Hd := Lib.hid hd
  have Ha := Lib.hid ha
  clear hr hd ha
  by_cases hc : chk lim nr nd na r d a = 0
  case neg =>
    have hcb : (chk lim nr nd na r d a != 0) = true := by simpa using hc
    have Hc := Lib.hid hc
    clear hc
    go_enter Try.func11, Try.ntmps11
    go_wp2_with fail
    refine (rcheck_any lim A B C nr nd na c1 c2 c3 r d a w Hr.out Hd.out Ha.out m1 m2 m3).mono ?_
    rintro e w' ⟨rfl, rfl⟩
    go_wp2_with fail
    go_ret2
    have e1 := outLen_neg Hc.out
    exact ⟨none, 0, by rw [e1]; rfl, by rw [e1]; exact SlI.nil, Below.refl _ _, by omega⟩
  obtain ⟨rfl, rfl, V⟩ := chk_zero hc
  have HV := Lib.hid V
  have Hc := Lib.hid hc
  have mn := V.len
  have hl0 := V.lim0
  have hl1 := V.lim1
  clear V hc
  go_enter Try.func11, Try.ntmps11
  go_wp2_with fail
  refine (rcheck_any lim A B C nr nr nr c1 c2 c3 r d a w Hr.out Hd.out Ha.out m1 m2 m3).mono ?_
  rw [Hc.out]
  rintro e w' ⟨rfl, rfl⟩
  go_wp2_with fail
  go_loopw [12, 11] (fun i v wr => ∃ k : Nat, k ≤ nr ∧ i = .int .i64 k ∧ Hid (OwnI wr w.heap.size 3 v k (pay lim r d a)) ∧ Hid (Below w.heap.size w wr)) (fun i _ _ => nr - (intOf i).toNat)
  case atStart => exact ⟨0, by omega, rfl, Lib.hid (OwnI.nil _ _ _ _), Lib.hid (Below.refl _ _)⟩
  case round =>
    obtain ⟨k, hk, rfl, Hown, Hbel⟩ := hrel
    by_cases hlt : k < nr
    · obtain ⟨A4, c4, rfl, hs4, _, _⟩ := Hown.out.form
      have Hs4 := Lib.hid hs4
      clear hs4
      obtain ⟨b1, o1, rfl, q1, hr2⟩ := (Hr.out.bel Hbel.out).at_ k hlt
      obtain ⟨b2, o2, rfl, q2, hd2⟩ := (Hd.out.bel Hbel.out).at_ k hlt
      obtain ⟨b3, o3, rfl, q3, ha2⟩ := (Ha.out.bel Hbel.out).at_ k hlt
      have hltI : (k : Int) < (nr : Int) := by omega
      have V := HV.out
      have hva := V.a0 k hlt
      have hva1 := V.a1 k hlt
      have hpd : ∀ j, j ≤ k → 0 ≤ sumG r d (pay lim r d a) j (r k) (d k) ∧ sumG r d (pay lim r d a) j (r k) (d k) ≤ 256000000000000 := fun j hj => by
        rw [← paidG_eq_sumG]; exact V.paid j (by omega) _ _
      have hpy : ∀ j, j ≤ k → 0 ≤ pay lim r d a j ∧ pay lim r d a j ≤ 1000000000000 := fun j hj => by
        have := pay_bd lim r d a V.lim0 j (fun i hi => V.a0 i (by omega))
        have := V.a1 j (by omega)
        omega
      have Hpd := Lib.hid hpd
      have Hpy := Lib.hid hpy
      clear V hpd hpy
      obtain ⟨wo, hwo⟩ : ∃ wo : World, wo = wr := ⟨_, rfl⟩
      subst hwo
      have HrW := Lib.hid (Hr.out.bel Hbel.out)
      have HdW := Lib.hid (Hd.out.bel Hbel.out)
      go_wp2_with fail
      go_loopw [14, 13] (fun j s wi => ∃ j' m : Nat, j' ≤ k ∧ j = .int .i64 j' ∧ s = .int .i64 (sumG r d (pay lim r d a) j' (r k) (d k)) ∧ wi = wo.drewN m) (fun j _ _ => k - (intOf j).toNat)
      case atStart => exact ⟨0, 0, by omega, rfl, rfl, rfl⟩
      case round =>
        obtain ⟨j, m, hj, rfl, rfl, rfl⟩ := hrel
        by_cases hjk : j < k
        · have x1 := HrW.out.cell j (by omega)
          have x2 := HdW.out.cell j (by omega)
          have x3 : wo.cell? ⟨b1, o1 + k, none⟩ = some (.int .i64 (r k)) := hr2
          obtain ⟨b4, o4, rfl, _, x4⟩ := Hs4.out.at_ j hjk
          have hjI : (j : Int) < (nr : Int) := by omega
          have hs0 := Hpd.out j (by omega)
          have hp0 := Hpy.out j (by omega)
          have Hst := Lib.hid (ref_step lim r d a k j)
          by_cases g1 : r j = r k
          · have g1b : (r j == r k) = true := by simpa using g1
            have G1 := Lib.hid g1
            by_cases g2 : d j = d k
            · have g2b : (d j == d k) = true := by simpa using g2
              have G2 := Lib.hid g2
              clear g1 g2
              go_wp2
              go_quiet (fail)
              go_wp2
              go_roundw
              case rel => exact ⟨j + 1, _, by omega, by go_num, by rw [Hst.out, if_pos ⟨G1.out, G2.out⟩], rfl⟩
              case measure => simp [intOf]; omega
            · have g2b : (d j == d k) = false := by simpa using g2
              have G2 := Lib.hid g2
              clear g1 g2
              go_wp2
              go_quiet (fail)
              go_wp2
              go_roundw
              case rel => exact ⟨j + 1, _, by omega, by go_num, by rw [Hst.out, if_neg (fun h => G2.out h.2), Int.add_zero], rfl⟩
              case measure => simp [intOf]; omega
          · have g1b : (r j == r k) = false := by simpa using g1
            have G1 := Lib.hid g1
            clear g1
            go_wp2
            go_quiet (fail)
            go_wp2
            go_roundw
            case rel => exact ⟨j + 1, _, by omega, by go_num, by rw [Hst.out, if_neg (fun h => G1.out h.1), Int.add_zero], rfl⟩
            case measure => simp [intOf]; omega
        · have hjk' : j = k := by omega
          subst hjk'
          have hs0 := Hpd.out j (by omega)
          have hpay : pay lim r d a j = if 0 < lim then min (a j) (lim - sumG r d (pay lim r d a) j (r j) (d j)) else a j := by rw [← paidG_eq_sumG]; rfl
          have Hpay := Lib.hid hpay
          clear hpay
          by_cases hp : 0 < lim
          · by_cases hq : a j ≤ lim - sumG r d (pay lim r d a) j (r j) (d j)
            all_goals
              go_wp2_with (at_builtin; refine app_int (wo.drewN m) rfl (.tmp 72) (.tmp 74) 22 rfl Try.underlying22 isInt3 rfl _ rfl (Hown.out.drewN m) (by omega) Hbel.out.size (by rw [Hpay.out, if_pos hp]; omega) ?_; intro v' w5 hown5 hg5 hloc5)
              go_roundw
              case rel => exact ⟨j + 1, by omega, by go_num, Lib.hid hown5, Lib.hid ((below_drewN Hbel.out m).trans (grown_bel hg5 Hbel.out.size (fun k hk => (Hown.out.lt k hk).1)))⟩
              case measure => simp [intOf]; omega
          · go_wp2_with (at_builtin; refine app_int (wo.drewN m) rfl (.tmp 72) (.tmp 74) 22 rfl Try.underlying22 isInt3 rfl _ rfl (Hown.out.drewN m) (by omega) Hbel.out.size (by rw [Hpay.out, if_neg hp]) ?_; intro v' w5 hown5 hg5 hloc5)
            go_roundw
            case rel => exact ⟨j + 1, by omega, by go_num, Lib.hid hown5, Lib.hid ((below_drewN Hbel.out m).trans (grown_bel hg5 Hbel.out.size (fun k hk => (Hown.out.lt k hk).1)))⟩
            case measure => simp [intOf]; omega
    · have hkn : k = nr := by omega
      subst hkn
      go_wp2
      go_ret2
      obtain ⟨A', c', rfl, hs, _, hcap⟩ := Hown.out.form
      have e1 := outLen_pos Hc.out
      exact ⟨A', c', by rw [e1, Hc.out]; rfl, by rw [e1]; exact hs, Hbel.out, by rw [e1]; exact hcap⟩

/-- what Paid returns -/
def paidR (lim : Int) (nr nd na : Nat) (r d a : Nat → Int) (x y : Int) : Int := if chk lim nr nd na r d a = 0 then paidG lim r d a na x y else 0

theorem key40' {x y : Int} (hx : -9223372036854775808 ≤ x ∧ x ≤ 9223372036854775807) (hy : -9223372036854775808 ≤ y ∧ y ≤ 9223372036854775807) : ∃ kl, keyOf Try.prog 40 (.agg #[.int .i64 x, .int .i64 y]) = some kl :=
  ⟨_, WideMaps.keyOf_pair arr40 Try.underlying3 ⟨63, by kernel_rfl⟩ (WalkArith.wf_i64 (by omega)) (WalkArith.wf_i64 (by omega))⟩

theorem ppaid_any (lim : Int) (A B C : Option Addr) (nr nd na c1 c2 c3 : Nat) (r d a : Nat → Int) (x y : Int) (w : World) (hr : SlI w A nr r) (hd : SlI w B nd d) (ha : SlI w C na a)
   (m1 : nr ≤ 9223372036854775807) (m2 : nd ≤ 9223372036854775807) (m3 : na ≤ 9223372036854775807)
   (hx : -9223372036854775808 ≤ x ∧ x ≤ 9223372036854775807) (hy : -9223372036854775808 ≤ y ∧ y ≤ 9223372036854775807) :
    Calls Try.prog 14 #[.int .i64 lim, .slice A nr c1, .slice B nd c2, .slice C na c3, .int .i64 x, .int .i64 y] w fun e w' =>
      e = .returned (.tuple #[.int .i64 (paidR lim nr nd na r d a x y), .int .i64 (chk lim nr nd na r d a)]) ∧ Below w.heap.size w w' := by
  have Hr := Lib.hid hr
  have Hd := Lib.hid hd
  have Ha := Lib.hid ha
  clear hr hd ha
  by_cases hc : chk lim nr nd na r d a = 0
  · obtain ⟨rfl, rfl, V⟩ := chk_zero hc
    have HV := Lib.hid V
    have Hc := Lib.hid hc
    obtain ⟨kl, hkl⟩ := key40' hx hy
    have Hkl := Lib.hid hkl
    clear V hc hkl
    go_enter Try.func14, Try.ntmps14
    go_wp2_with fail
    refine (check_any lim A B C nr nr nr c1 c2 c3 r d a w Hr.out Hd.out Ha.out m1 m2 m3).mono ?_
    rw [Hc.out]
    rintro e w' ⟨rfl, rfl⟩
    go_wp2_with fail
    refine (apply_any lim A B C nr c1 c2 c3 r d a w Hr.out Hd.out Ha.out HV.out).mono ?_
    rintro e w1 ⟨A1, c, rfl, hs, hm, hb, _⟩
    have hL : (Instr.lookup 42 (.map (some w.heap.size)) (.agg #[.int .i64 x, .int .i64 y]) false).run Try.prog w1 = .ok (.int .i64 (paidG lim r d a nr x y)) w1 := hm.look law40 Try.underlying42 zero3 Hkl.out
    have Hb := Lib.hid hb
    clear hs hm hb
    go_wp2_with fail
    go_ret2
    refine ⟨?_, Hb.out⟩
    rw [paidR, if_pos Hc.out, Hc.out]
    rfl
  · have hcb : (chk lim nr nd na r d a != 0) = true := by simpa using hc
    have Hc := Lib.hid hc
    clear hc
    go_enter Try.func14, Try.ntmps14
    go_wp2_with fail
    refine (check_any lim A B C nr nd na c1 c2 c3 r d a w Hr.out Hd.out Ha.out m1 m2 m3).mono ?_
    rintro e w' ⟨rfl, rfl⟩
    go_wp2_with fail
    go_ret2
    refine ⟨?_, Below.refl _ _⟩
    rw [paidR, if_neg Hc.out]
    rfl

theorem sum_step (lim : Int) (r d a : Nat → Int) (x y : Int) (j : Nat) :
    paidG lim r d a (j + 1) x y = paidG lim r d a j x y + if r j = x ∧ d j = y then pay lim r d a j else 0 := rfl

theorem rpaid_any (lim : Int) (A B C : Option Addr) (nr nd na c1 c2 c3 : Nat) (r d a : Nat → Int) (x y : Int) (w : World) (hr : SlI w A nr r) (hd : SlI w B nd d) (ha : SlI w C na a)
   (m1 : nr ≤ 9223372036854775807) (m2 : nd ≤ 9223372036854775807) (m3 : na ≤ 9223372036854775807) :
    Calls Try.prog 15 #[.int .i64 lim, .slice A nr c1, .slice B nd c2, .slice C na c3, .int .i64 x, .int .i64 y] w fun e w' =>
      e = .returned (.tuple #[.int .i64 (paidR lim nr nd na r d a x y), .int .i64 (chk lim nr nd na r d a)]) ∧ Below w.heap.size w w' := by
  have Hr := Lib.hid hr
  have Hd := Lib.hid hd
  have Ha := Lib.hid ha
  clear hr hd ha
  by_cases hc : chk lim nr nd na r d a = 0
  case neg =>
    have hcb : (chk lim nr nd na r d a != 0) = true := by simpa using hc
    have Hc := Lib.hid hc
    clear hc
    go_enter Try.func15, Try.ntmps15
    go_wp2_with fail
    refine (rapply_any lim A B C nr nd na c1 c2 c3 r d a w Hr.out Hd.out Ha.out m1 m2 m3).mono ?_
    rintro e w' ⟨A1, c, rfl, hs, hb, hcap⟩
    have Hb := Lib.hid hb
    clear hs hb hcap
    go_wp2_with fail
    go_ret2
    refine ⟨?_, Hb.out⟩
    rw [paidR, if_neg Hc.out]
    rfl
  obtain ⟨rfl, rfl, V⟩ := chk_zero hc
  have HV := Lib.hid V
  have Hc := Lib.hid hc
  have mn := V.len
  clear V hc
  go_enter Try.func15, Try.ntmps15
  go_wp2_with fail
  refine (rapply_any lim A B C nr nr nr c1 c2 c3 r d a w Hr.out Hd.out Ha.out m1 m2 m3).mono ?_
  rintro e w1 ⟨A1, c, rfl, hs, hb, hcap⟩
  rw [outLen_pos Hc.out] at hs
  rw [outLen_pos Hc.out, Hc.out]
  have HrW := Lib.hid (Hr.out.bel hb)
  have HdW := Lib.hid (Hd.out.bel hb)
  have Hs := Lib.hid hs
  have Hb := Lib.hid hb
  clear hs hb hcap
  go_wp2_with fail
  go_loop [17, 16] (fun j s => ∃ j' : Nat, j' ≤ nr ∧ j = .int .i64 j' ∧ s = .int .i64 (paidG lim r d a j' x y)) (fun j _ => nr - (intOf j).toNat)
  case atStart => exact ⟨0, by omega, rfl, rfl⟩
  case round =>
    obtain ⟨j, hj, rfl, rfl⟩ := hrel
    by_cases hjk : j < nr
    · obtain ⟨b1, o1, rfl, _, x1⟩ := HrW.out.at_ j hjk
      obtain ⟨b2, o2, rfl, _, x2⟩ := HdW.out.at_ j hjk
      obtain ⟨b4, o4, rfl, _, x4⟩ := Hs.out.at_ j hjk
      have V := HV.out
      have hs0 := V.paid j (by omega) x y
      have hp0 := pay_bd lim r d a V.lim0 j (fun i hi => V.a0 i (by omega))
      have hp1 := V.a1 j hjk
      have hp2 : 0 ≤ pay lim r d a j ∧ pay lim r d a j ≤ 1000000000000 := by omega
      have Hst := Lib.hid (sum_step lim r d a x y j)
      clear V hp0 hp1
      by_cases g1 : r j = x
      · have g1b : (r j == x) = true := by simpa using g1
        have G1 := Lib.hid g1
        by_cases g2 : d j = y
        · have g2b : (d j == y) = true := by simpa using g2
          have G2 := Lib.hid g2
          clear g1 g2
          go_wp2
          go_round
          case rel => exact ⟨j + 1, by omega, by go_num, by rw [Hst.out, if_pos ⟨G1.out, G2.out⟩]⟩
          case measure => simp [intOf]; omega
        · have g2b : (d j == y) = false := by simpa using g2
          have G2 := Lib.hid g2
          clear g1 g2
          go_wp2
          go_round
          case rel => exact ⟨j + 1, by omega, by go_num, by rw [Hst.out, if_neg (fun h => G2.out h.2), Int.add_zero]⟩
          case measure => simp [intOf]; omega
      · have g1b : (r j == x) = false := by simpa using g1
        have G1 := Lib.hid g1
        clear g1
        go_wp2
        go_round
        case rel => exact ⟨j + 1, by omega, by go_num, by rw [Hst.out, if_neg (fun h => G1.out h.1), Int.add_zero]⟩
        case measure => simp [intOf]; omega
    · have hjk' : j = nr := by omega
      subst hjk'
      go_wp2
      go_ret2
      refine ⟨?_, Hb.out⟩
      rw [paidR, if_pos Hc.out, Hc.out]
      rfl

/-- what Left returns -/
def leftR (lim : Int) (nr nd na : Nat) (r d a : Nat → Int) (x y : Int) : Int :=
  if chk lim nr nd na r d a = 0 then (if lim = 0 then 1000000000000 else lim - paidG lim r d a na x y) else 0

theorem pleft_any (lim : Int) (A B C : Option Addr) (nr nd na c1 c2 c3 : Nat) (r d a : Nat → Int) (x y : Int) (w : World) (hr : SlI w A nr r) (hd : SlI w B nd d) (ha : SlI w C na a)
   (m1 : nr ≤ 9223372036854775807) (m2 : nd ≤ 9223372036854775807) (m3 : na ≤ 9223372036854775807)
   (hx : -9223372036854775808 ≤ x ∧ x ≤ 9223372036854775807) (hy : -9223372036854775808 ≤ y ∧ y ≤ 9223372036854775807) :
    Calls Try.prog 16 #[.int .i64 lim, .slice A nr c1, .slice B nd c2, .slice C na c3, .int .i64 x, .int .i64 y] w fun e w' =>
      e = .returned (.tuple #[.int .i64 (leftR lim nr nd na r d a x y), .int .i64 (chk lim nr nd na r d a)]) ∧ Below w.heap.size w w' := by
  have Hr := Lib.hid hr
  have Hd := Lib.hid hd
  have Ha := Lib.hid ha
  clear hr hd ha
  by_cases hc : chk lim nr nd na r d a = 0
  · obtain ⟨rfl, rfl, V⟩ := chk_zero hc
    have hp := V.paid nr (Nat.le_refl _) x y
    have hl0 := V.lim0
    have hl1 := V.lim1
    have Hc := Lib.hid hc
    have Hpr := Lib.hid (show paidR lim nr nr nr r d a x y = paidG lim r d a nr x y from if_pos hc)
    clear V hc
    by_cases h0 : lim = 0
    · have h0b : (lim == 0) = true := by simpa using h0
      have H0 := Lib.hid h0
      clear h0
      go_enter Try.func16, Try.ntmps16
      go_wp2_with fail
      refine (ppaid_any lim A B C nr nr nr c1 c2 c3 r d a x y w Hr.out Hd.out Ha.out m1 m2 m3 hx hy).mono ?_
      rw [Hc.out]
      rintro e w1 ⟨rfl, hb⟩
      have Hb := Lib.hid hb
      clear hb
      go_wp2_with fail
      go_ret2
      refine ⟨?_, Hb.out⟩
      rw [leftR, if_pos Hc.out, if_pos H0.out, Hc.out]
      rfl
    · have h0b : (lim == 0) = false := by simpa using h0
      have H0 := Lib.hid h0
      clear h0
      go_enter Try.func16, Try.ntmps16
      go_wp2_with fail
      refine (ppaid_any lim A B C nr nr nr c1 c2 c3 r d a x y w Hr.out Hd.out Ha.out m1 m2 m3 hx hy).mono ?_
      rw [Hc.out, Hpr.out]
      rintro e w1 ⟨rfl, hb⟩
      have Hb := Lib.hid hb
      clear hb
      go_wp2_with fail
      go_ret2
      refine ⟨?_, Hb.out⟩
      rw [leftR, if_pos Hc.out, if_neg H0.out, Hc.out]
      rfl
  · have hcb : (chk lim nr nd na r d a != 0) = true := by simpa using hc
    have Hc := Lib.hid hc
    clear hc
    go_enter Try.func16, Try.ntmps16
    go_wp2_with fail
    refine (ppaid_any lim A B C nr nd na c1 c2 c3 r d a x y w Hr.out Hd.out Ha.out m1 m2 m3 hx hy).mono ?_
    rintro e w1 ⟨rfl, hb⟩
    have Hb := Lib.hid hb
    clear hb
    go_wp2_with fail
    go_ret2
    refine ⟨?_, Hb.out⟩
    rw [leftR, if_neg Hc.out]
    rfl
theorem rleft_any (lim : Int) (A B C : Option Addr) (nr nd na c1 c2 c3 : Nat) (r d a : Nat → Int) (x y : Int) (w : World) (hr : SlI w A nr r) (hd : SlI w B nd d) (ha : SlI w C na a)
   (m1 : nr ≤ 9223372036854775807) (m2 : nd ≤ 9223372036854775807) (m3 : na ≤ 9223372036854775807) :
    Calls Try.prog 17 #[.int .i64 lim, .slice A nr c1, .slice B nd c2, .slice C na c3, .int .i64 x, .int .i64 y] w fun e w' =>
      e = .returned (.tuple #[.int .i64 (leftR lim nr nd na r d a x y), .int .i64 (chk lim nr nd na r d a)]) ∧ Below w.heap.size w w' := by
  have Hr := Lib.hid hr
  have Hd := Lib.hid hd
  have Ha := Lib.hid ha
  clear hr hd ha
  by_cases hc : chk lim nr nd na r d a = 0
  · obtain ⟨rfl, rfl, V⟩ := chk_zero hc
    have hp := V.paid nr (Nat.le_refl _) x y
    have hl0 := V.lim0
    have hl1 := V.lim1
    have Hc := Lib.hid hc
    have Hpr := Lib.hid (show paidR lim nr nr nr r d a x y = paidG lim r d a nr x y from if_pos hc)
    clear V hc
    by_cases h0 : lim = 0
    · have h0b : (lim == 0) = true := by simpa using h0
      have H0 := Lib.hid h0
      clear h0
      go_enter Try.func17, Try.ntmps17
      go_wp2_with fail
      refine (rpaid_any lim A B C nr nr nr c1 c2 c3 r d a x y w Hr.out Hd.out Ha.out m1 m2 m3).mono ?_
      rw [Hc.out]
      rintro e w1 ⟨rfl, hb⟩
      have Hb := Lib.hid hb
      clear hb
      go_wp2_with fail
      go_ret2
      refine ⟨?_, Hb.out⟩
      rw [leftR, if_pos Hc.out, if_pos H0.out, Hc.out]
      rfl
    · have h0b : (lim == 0) = false := by simpa using h0
      have H0 := Lib.hid h0
      clear h0
      go_enter Try.func17, Try.ntmps17
      go_wp2_with fail
      refine (rpaid_any lim A B C nr nr nr c1 c2 c3 r d a x y w Hr.out Hd.out Ha.out m1 m2 m3).mono ?_
      rw [Hc.out, Hpr.out]
      rintro e w1 ⟨rfl, hb⟩
      have Hb := Lib.hid hb
      clear hb
      go_wp2_with fail
      go_ret2
      refine ⟨?_, Hb.out⟩
      rw [leftR, if_pos Hc.out, if_neg H0.out, Hc.out]
      rfl
  · have hcb : (chk lim nr nd na r d a != 0) = true := by simpa using hc
    have Hc := Lib.hid hc
    clear hc
    go_enter Try.func17, Try.ntmps17
    go_wp2_with fail
    refine (rpaid_any lim A B C nr nd na c1 c2 c3 r d a x y w Hr.out Hd.out Ha.out m1 m2 m3).mono ?_
    rintro e w1 ⟨rfl, hb⟩
    have Hb := Lib.hid hb
    clear hb
    go_wp2_with fail
    go_ret2
    refine ⟨?_, Hb.out⟩
    rw [leftR, if_neg Hc.out]
    rfl
end Go.Proofs.Ytfdidnfkcmbgiaa
