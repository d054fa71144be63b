/- The walks of Best and Moves, of the program and of the reference. -/
import Derived.Test.YtnfgbghjdmimgaaGB
import Derived.Deep.RegionWith
namespace Go.Proofs.Ytnfgbghjdmimgaa
open Go.RowKit
set_option maxHeartbeats 4000000
set_option maxRecDepth 100000
set_option linter.unusedVariables false

theorem best16 (A : Option Addr) (n c : Nat) (f : Cs) (d : Int) (w : World) (hr : Elems RowV w A n f) (m1 : n ≤ 9223372036854775807) :
    Calls Try.prog 16 #[.int .i64 d, .slice A n c] w fun e w' => e = .returned (.tuple #[.int .i64 (valB d n f), .int .i64 (codeCs d n f)]) ∧ Below w.heap.size w w' := by
  have Hr := Lib.hid hr
  clear hr
  by_cases hc : codeCs d n f = 0
  case neg =>
    have hcb : (codeCs d n f != 0) = true := by simpa using hc
    have H2 := Lib.hid (show valB d n f = 0 from if_neg hc)
    clear hc
    go_enter Try.func16, Try.ntmps16
    go_wp2_with fail
    refine (costs14 A n c f d w Hr.out m1).mono ?_
    rintro e w1 ⟨⟨v, rfl, hl⟩, hb⟩
    go_wp2_with fail
    go_ret2
    exact ⟨by rw [H2.out]; rfl, hb⟩
  obtain ⟨d1, d2, _, _⟩ := codeCs_zero hc
  obtain ⟨D, rfl⟩ : ∃ D : Nat, d = D := ⟨d.toNat, by omega⟩
  have Hl := Lib.hid (show lenCs D n f = D + 1 by unfold lenCs; rw [if_pos hc]; rfl)
  have HV := Lib.hid (show valB D n f = bestN (costF D n f) (D + 1) by unfold valB; rw [if_pos hc]; rfl)
  have HC := Lib.hid hc
  clear hc
  obtain ⟨F, hF⟩ : ∃ F, costF D n f = F := ⟨_, rfl⟩
  have HF := Lib.hid hF
  clear hF
  go_enter Try.func16, Try.ntmps16
  go_wp2_with fail
  refine (costs14 A n c f D w Hr.out m1).mono ?_
  rintro e w1 ⟨⟨v, rfl, hl⟩, hb⟩
  rw [HC.out]
  rw [Hl.out, HF.out] at hl
  obtain ⟨A2, c2, rfl, hsl, _, hc2⟩ := hl
  have Hsl := Lib.hid hsl
  have B := Lib.hid hb
  have hD2 : D + 1 ≤ 9223372036854775807 := by omega
  clear hsl hb
  go_wp2_with fail
  go_loopw [21, 8] (fun i b wr => ∃ j : Nat, 0 ≤ j ∧ j ≤ D + 1 ∧ i = .int .i64 j ∧ b = .int .i64 (bestN F j) ∧ Hid (Below w.heap.size w wr) ∧ Hid (Below w1.heap.size w1 wr)) (fun i _ _ => D + 1 - (intOf i).toNat)
  case atStart => exact ⟨0, by omega, by omega, rfl, rfl, B, Lib.hid (Below.refl _ _)⟩
  case round =>
    obtain ⟨j, hj0, hj, rfl, rfl, Hb, Hb1⟩ := hrel
    by_cases hlt : j < D + 1
    · have hbl := bestN_lt F j
      have Hst := Lib.hid (show bestN F (j + 1) = if F j < F (bestN F j) then j else bestN F j from rfl)
      obtain ⟨K, hK⟩ : ∃ K, bestN F j = K := ⟨_, rfl⟩
      rw [hK] at hbl
      rw [hK]
      have HK := Lib.hid hK
      clear hK
      obtain ⟨b1, o1, rfl, _, z1⟩ := (Hsl.out.bel Hb1.out).at_ j hlt
      have z2 := (Hsl.out.bel Hb1.out).cell K (by omega)
      by_cases h5 : F j < F K
      · go_wp2
        go_quiet (fail)
        go_wp2
        go_roundw
        case rel => exact ⟨j + 1, by omega, by omega, by go_num, by rw [Hst.out, HK.out, if_pos h5], Lib.hid (below_drewN Hb.out _), Lib.hid (below_drewN Hb1.out _)⟩
        case measure => simp [intOf]; omega
      · go_wp2
        go_quiet (fail)
        go_wp2
        go_roundw
        case rel => exact ⟨j + 1, by omega, by omega, by go_num, by rw [Hst.out, HK.out, if_neg (by omega)], Lib.hid (below_drewN Hb.out _), Lib.hid (below_drewN Hb1.out _)⟩
        case measure => simp [intOf]; omega
    · have hjn : j = D + 1 := by omega
      subst hjn
      go_wp2
      go_ret2
      exact ⟨by rw [HV.out, HF.out, HC.out]; rfl, Hb.out⟩

theorem best17 (A : Option Addr) (n c : Nat) (f : Cs) (d : Int) (w : World) (hr : Elems RowV w A n f) (m1 : n ≤ 9223372036854775807) :
    Calls Try.prog 17 #[.int .i64 d, .slice A n c] w fun e w' => e = .returned (.tuple #[.int .i64 (valB d n f), .int .i64 (codeCs d n f)]) ∧ Below w.heap.size w w' := by
  have Hr := Lib.hid hr
  clear hr
  by_cases hc : codeCs d n f = 0
  case neg =>
    have hcb : (codeCs d n f != 0) = true := by simpa using hc
    have H2 := Lib.hid (show valB d n f = 0 from if_neg hc)
    clear hc
    go_enter Try.func17, Try.ntmps17
    go_wp2_with fail
    refine (costs15 A n c f d w Hr.out m1).mono ?_
    rintro e w1 ⟨⟨v, rfl, hl⟩, hb⟩
    go_wp2_with fail
    go_ret2
    exact ⟨by rw [H2.out]; rfl, hb⟩
  obtain ⟨d1, d2, _, _⟩ := codeCs_zero hc
  obtain ⟨D, rfl⟩ : ∃ D : Nat, d = D := ⟨d.toNat, by omega⟩
  have Hl := Lib.hid (show lenCs D n f = D + 1 by unfold lenCs; rw [if_pos hc]; rfl)
  have HV := Lib.hid (show valB D n f = bestN (costF D n f) (D + 1) by unfold valB; rw [if_pos hc]; rfl)
  have HC := Lib.hid hc
  clear hc
  obtain ⟨F, hF⟩ : ∃ F, costF D n f = F := ⟨_, rfl⟩
  have HF := Lib.hid hF
  clear hF
  go_enter Try.func17, Try.ntmps17
  go_wp2_with fail
  refine (costs15 A n c f D w Hr.out m1).mono ?_
  rintro e w1 ⟨⟨v, rfl, hl⟩, hb⟩
  rw [HC.out]
  rw [Hl.out, HF.out] at hl
  obtain ⟨A2, c2, rfl, hsl, _, hc2⟩ := hl
  have Hsl := Lib.hid hsl
  have B := Lib.hid hb
  have hD2 : D + 1 ≤ 9223372036854775807 := by omega
  clear hsl hb
  go_wp2_with fail
  go_loopw [9, 8] (fun i b wr => ∃ j : Nat, 1 ≤ j ∧ j ≤ D + 1 ∧ i = .int .i64 j ∧ b = .int .i64 (bestN F j) ∧ Hid (Below w.heap.size w wr) ∧ Hid (Below w1.heap.size w1 wr)) (fun i _ _ => D + 1 - (intOf i).toNat)
  case atStart => exact ⟨1, by omega, by omega, rfl, by rw [bestN_one]; rfl, B, Lib.hid (Below.refl _ _)⟩
  case round =>
    obtain ⟨j, hj0, hj, rfl, rfl, Hb, Hb1⟩ := hrel
    by_cases hlt : j < D + 1
    · have hbl := bestN_lt F j
      have Hst := Lib.hid (show bestN F (j + 1) = if F j < F (bestN F j) then j else bestN F j from rfl)
      obtain ⟨K, hK⟩ : ∃ K, bestN F j = K := ⟨_, rfl⟩
      rw [hK] at hbl
      rw [hK]
      have HK := Lib.hid hK
      clear hK
      obtain ⟨b1, o1, rfl, _, z1⟩ := (Hsl.out.bel Hb1.out).at_ j hlt
      have z2 := (Hsl.out.bel Hb1.out).cell K (by omega)
      by_cases h5 : F j < F K
      · go_wp2
        go_quiet (fail)
        go_wp2
        go_roundw
        case rel => exact ⟨j + 1, by omega, by omega, by go_num, by rw [Hst.out, HK.out, if_pos h5], Lib.hid (below_drewN Hb.out _), Lib.hid (below_drewN Hb1.out _)⟩
        case measure => simp [intOf]; omega
      · go_wp2
        go_quiet (fail)
        go_wp2
        go_roundw
        case rel => exact ⟨j + 1, by omega, by omega, by go_num, by rw [Hst.out, HK.out, if_neg (by omega)], Lib.hid (below_drewN Hb.out _), Lib.hid (below_drewN Hb1.out _)⟩
        case measure => simp [intOf]; omega
    · have hjn : j = D + 1 := by omega
      subst hjn
      go_wp2
      go_ret2
      exact ⟨by rw [HV.out, HF.out, HC.out]; rfl, Hb.out⟩

theorem valB_bd {d : Int} {n : Nat} {f : Cs} (h : codeCs d n f = 0) : 0 ≤ valB d n f ∧ valB d n f ≤ 32 := by
  obtain ⟨h1, h2, _, _⟩ := codeCs_zero h
  have := bestN_lt (costF d n f) (d + 1).toNat
  unfold valB
  rw [if_pos h]
  omega
theorem rows_drew {w : World} {A : Option Addr} {n : Nat} {f : Cs} (h : Elems RowV w A n f) : Elems RowV w.drew A n f := h.bel rowV_stays (Below.refl _ _).drew
def MovesPost (w0 : World) (n m k : Nat) (dk nw : Nat → Int) (cs : Nat → Nat × Cs) (e : Ending) (w' : World) : Prop :=
  (∃ v, e = .returned (.tuple #[v, .int .i64 (codeM n m k dk nw cs)]) ∧ ListAt w0 w' v (lenM n m k dk nw cs) (valM dk nw cs)) ∧ Below w0.heap.size w0 w'
/-- what Moves has in its list -/
def mvF (dk nw : Nat → Int) (cs : Nat → Nat × Cs) : Nat → Int := fun i => IntKind.i64.wrap (nw i - valB (dk i) (cs i).1 (cs i).2)
theorem scanM_all {dk : Nat → Int} {cs : Nat → Nat × Cs} : ∀ n, scanM dk cs n = 0 → ∀ i, i < n → codeCs (dk i) (cs i).1 (cs i).2 = 0 := by
  intro n
  induction n with
  | zero => intro _ i hi; omega
  | succ n ih =>
    intro h i hi
    have hn : scanM dk cs n = 0 := by
      by_cases h0 : scanM dk cs n = 0
      · exact h0
      · have e : scanM dk cs (n + 1) = scanM dk cs n := by show (if scanM dk cs n = 0 then _ else _) = _; rw [if_neg h0]
        rw [e] at h; exact h
    by_cases hin : i < n
    · exact ih hn i hin
    · have : i = n := by omega
      subst this
      have e : scanM dk cs (i + 1) = codeCs (dk i) (cs i).1 (cs i).2 := by show (if scanM dk cs i = 0 then _ else _) = _; rw [if_pos hn]
      rw [← e]; exact h
theorem mv_sub {dk nw : Nat → Int} {cs : Nat → Nat × Cs} {n : Nat} (h1 : scanM dk cs n = 0) (h2 : nowB dk nw n = true) (i : Nat) (hi : i < n) : IntKind.i64.wrap (nw i - valB (dk i) (cs i).1 (cs i).2) = valM dk nw cs i := by
  have a := scanM_all n h1 i hi
  have b := nowB_all h2 i hi
  have c := valB_bd a
  obtain ⟨d1, d2, _, _⟩ := codeCs_zero a
  unfold valM
  exact IntWalk.i64_in _ (by omega)
theorem OwnI.row {w : World} {B e : Nat} {v : Value} {n : Nat} {f : Nat → Int} (h : OwnI w B e v n f) (hn : 0 < n) : ∃ g c, v = .slice (some ⟨g, 0, none⟩) n c ∧ B ≤ g ∧ n ≤ c := by
  rcases h.2 with ⟨h1, h2⟩ | ⟨g, cap, cur, rfl, hb, hg, hn, hm, hcs, htk⟩
  · omega
  · exact ⟨g, cap, rfl, hb, hn⟩

theorem moves19 (A1 A2 A3 : Option Addr) (n m k c1 c2 c3 : Nat) (dk nw : Nat → Int) (cs : Nat → Nat × Cs) (w : World) (hr1 : SlI w A1 n dk) (hr2 : SlI w A2 m nw) (hr3 : Elems RowsV w A3 k cs)
    (m1 : n ≤ 9223372036854775807) (m2 : m ≤ 9223372036854775807) (m3 : k ≤ 9223372036854775807) :
    Calls Try.prog 19 #[.slice A1 n c1, .slice A2 m c2, .slice A3 k c3] w (MovesPost w n m k dk nw cs) := by
  have Hr1 := Lib.hid hr1
  have Hr2 := Lib.hid hr2
  have Hr3 := Lib.hid hr3
  clear hr1 hr2 hr3
  by_cases hnm : n ≠ m ∨ n ≠ k
  · have h1 := Lib.hid (show codeM n m k dk nw cs = 3 from if_pos hnm)
    have h2 := Lib.hid (show lenM n m k dk nw cs = 0 by unfold lenM; rw [h1.out]; rfl)
    rcases (show n ≠ m ∨ (n = m ∧ n ≠ k) by omega) with h | ⟨h, h'⟩
    · have hb : ((n : Int) != m) = true := by simp; omega
      clear hnm h
      go_enter Try.func19, Try.ntmps19
      go_wp2_with fail
      go_ret2
      exact ⟨⟨_, by rw [h1.out]; rfl, by rw [h2.out]; exact ListAt.nil⟩, Below.refl _ _⟩
    · have hb : ((n : Int) != m) = false := by simp; omega
      have hb2 : ((n : Int) != k) = true := by simp; omega
      clear hnm h h'
      go_enter Try.func19, Try.ntmps19
      go_wp2_with fail
      go_ret2
      exact ⟨⟨_, by rw [h1.out]; rfl, by rw [h2.out]; exact ListAt.nil⟩, Below.refl _ _⟩
  obtain rfl : n = m := by omega
  obtain rfl : n = k := by omega
  by_cases hn : 32 < n
  · have h1 := Lib.hid (show codeM n n n dk nw cs = 8 by unfold codeM; rw [if_neg hnm, if_pos hn])
    have h2 := Lib.hid (show lenM n n n dk nw cs = 0 by unfold lenM; rw [h1.out]; rfl)
    clear hnm
    go_enter Try.func19, Try.ntmps19
    go_wp2_with fail
    go_ret2
    exact ⟨⟨_, by rw [h1.out]; rfl, by rw [h2.out]; exact ListAt.nil⟩, Below.refl _ _⟩
  have Hcode := Lib.hid (show codeM n n n dk nw cs = if scanM dk cs n ≠ 0 then scanM dk cs n else if nowB dk nw n = true then 0 else 1 by unfold codeM; rw [if_neg hnm, if_neg hn])
  have hn2 : n ≤ 32 := by omega
  clear hnm hn
  go_enter Try.func19, Try.ntmps19
  go_wp2_with (refine mk_int _ rfl (.tmp 29) (.tmp 29) 22 rfl Try.underlying22 isInt3 (B := w.heap.size) n rfl rfl (by omega) (by exact Nat.le_refl _) ?_; intro w1 hown hbel)
  have Hs := Lib.hid (show OwnI w1 w.heap.size 3 (.slice (some ⟨w.heap.size, 0, none⟩) n n) n (fun i => if i < 0 then mvF dk nw cs i else 0) from hown.congr (fun i hi => by rw [if_neg (by omega)]))
  have Hb1 := Lib.hid hbel
  clear hown hbel
  go_wp2_with fail
  go_loopw [33] (fun i wr => ∃ k : Nat, k ≤ n ∧ i = .int .i64 k ∧ Hid (OwnI wr w.heap.size 3 (.slice (some ⟨w.heap.size, 0, none⟩) n n) n (fun i => if i < k then mvF dk nw cs i else 0)) ∧ Hid (Below w.heap.size w wr) ∧ Hid (scanM dk cs k = 0)) (fun i _ => n - (intOf i).toNat)
  case atStart => exact ⟨0, by omega, rfl, Hs, Hb1, Lib.hid rfl⟩
  case round =>
    obtain ⟨k, hk, rfl, Ho, Hb, Hsc⟩ := hrel
    by_cases hlt : k < n
    · obtain ⟨b1, o1, rfl, _, z1⟩ := (Hr1.out.bel Hb.out).at_ k hlt
      obtain ⟨b2, o2, rfl, _, z2⟩ := (Hr2.out.bel Hb.out).at_ k hlt
      obtain ⟨b3, o3, u, rfl, _, z3, A4, c4, rfl, hel, m4⟩ := (Hr3.out.bel rowsV_stays Hb.out).at_ k hlt
      have Hel := Lib.hid hel
      clear hel
      by_cases he : codeCs (dk k) (cs k).1 (cs k).2 = 0
      · have HC := Lib.hid he
        have Hvb := valB_bd he
        obtain ⟨X, hX⟩ : ∃ X, valB (dk k) (cs k).1 (cs k).2 = X := ⟨_, rfl⟩
        rw [hX] at Hvb
        have HX := Lib.hid hX
        obtain ⟨Y, hY⟩ : ∃ Y, IntKind.i64.wrap (nw k - X) = Y := ⟨_, rfl⟩
        have HY := Lib.hid (show mvF dk nw cs k = Y by unfold mvF; rw [hX]; exact hY)
        clear he hX
        go_wp2
        go_region_with (go_at_call 16; refine (best16 A4 (cs k).1 c4 (cs k).2 (dk k) _ (by exact rows_drew Hel.out) m4).mono ?_; rw [HC.out, HX.out]; rintro e w2 ⟨rfl, hb0⟩; have hb := ((Below.refl wr.heap.size wr).drew).trans (hb0.mono (Nat.le_refl _)); clear hb0; have Ho2 := Lib.hid (Ho.out.bel hb); have Hb2 := Lib.hid (Hb.out.trans (hb.mono Hb.out.size)); clear hb)
        all_goals
          obtain ⟨b5, o5, e5, _, y1⟩ := (Hr2.out.bel Hb2.out).at_ k hlt
          cases e5
          have y2 := Ho2.out.read k hlt
          have y3 := Ho2.out.thaw k
          go_wp2
          go_roundw
          case rel => exact ⟨k + 1, by omega, by go_num, Lib.hid ((Ho2.out.store k Y).congr (fun i hi => by by_cases hik : i = k; (rw [if_pos hik, if_pos (by omega), hik, HY.out]); (rw [if_neg hik]; by_cases h : i < k; (rw [if_pos h, if_pos (by omega)]); (rw [if_neg h, if_neg (by omega)])))), Lib.hid (Hb2.out.setCell (Nat.le_refl _) _), Lib.hid (scanM_next dk cs k Hsc.out HC.out)⟩
          case measure => simp [intOf]; omega
      · have h1 := Lib.hid (show codeM n n n dk nw cs = codeCs (dk k) (cs k).1 (cs k).2 by rw [Hcode.out, scanM_hit dk cs k n hlt Hsc.out he, if_pos he])
        have h2 := Lib.hid (show lenM n n n dk nw cs = 0 by unfold lenM; rw [h1.out, if_neg he])
        have heb : (codeCs (dk k) (cs k).1 (cs k).2 != 0) = true := by simpa using he
        clear he
        go_wp2
        go_region_with (go_at_call 16; refine (best16 A4 (cs k).1 c4 (cs k).2 (dk k) _ (by exact rows_drew Hel.out) m4).mono ?_; rintro e w2 ⟨rfl, hb0⟩; have hb := ((Below.refl wr.heap.size wr).drew).trans (hb0.mono (Nat.le_refl _)); clear hb0; have Hb2 := Lib.hid (Hb.out.trans (hb.mono Hb.out.size)); clear hb)
        all_goals
          go_wp2
          go_ret2
          exact ⟨⟨_, by rw [h1.out]; rfl, by rw [h2.out]; exact ListAt.nil⟩, Hb2.out⟩
    · have hkn : k = n := by omega
      subst hkn
      have Hcode2 := Lib.hid (show codeM k k k dk nw cs = if nowB dk nw k = true then 0 else 1 by rw [Hcode.out, if_neg (by rw [Hsc.out]; simp)])
      go_wp2_with fail
      obtain ⟨wo, hwo⟩ : ∃ wo, wo = wr := ⟨_, rfl⟩
      subst hwo
      go_loopw [63] (fun i wi => ∃ j : Nat, j ≤ k ∧ i = .int .i64 j ∧ Hid (OwnI wi w.heap.size 3 (.slice (some ⟨w.heap.size, 0, none⟩) k k) k (fun i => if i < k then mvF dk nw cs i else 0)) ∧ Hid (Below w.heap.size w wi) ∧ Hid (nowB dk nw j = true)) (fun i _ => k - (intOf i).toNat)
      case atStart => exact ⟨0, by omega, rfl, Ho, Hb, Lib.hid rfl⟩
      case round =>
        obtain ⟨j, hj, rfl, Ho, Hb, Hnw⟩ := hrel
        by_cases hjl : j < k
        · obtain ⟨b1, o1, rfl, _, z1⟩ := (Hr1.out.bel Hb.out).at_ j hjl
          obtain ⟨b2, o2, rfl, _, z2⟩ := (Hr2.out.bel Hb.out).at_ j hjl
          by_cases hok : 0 ≤ nw j ∧ nw j ≤ dk j
          · obtain ⟨k1, k2⟩ := hok
            go_wp2
            go_quiet (fail)
            go_wp2
            go_roundw
            case rel => exact ⟨j + 1, by omega, by go_num, Ho, Lib.hid (below_drewN Hb.out _), Lib.hid (nowB_next Hnw.out ⟨k1, k2⟩)⟩
            case measure => simp [intOf]; omega
          · have h1 := Lib.hid (show codeM k k k dk nw cs = 1 by rw [Hcode2.out, nowB_bad hjl hok]; rfl)
            have h2 := Lib.hid (show lenM k k k dk nw cs = 0 by unfold lenM; rw [h1.out]; rfl)
            rcases (show nw j < 0 ∨ (0 ≤ nw j ∧ dk j < nw j) by omega) with h | ⟨h, h'⟩
            all_goals
              clear hok
              go_wp2
              go_quiet (fail)
              go_wp2
              go_ret2
              exact ⟨⟨_, by rw [h1.out]; rfl, by rw [h2.out]; exact ListAt.nil⟩, below_drewN Hb.out _⟩
        · have hjk : j = k := by omega
          subst hjk
          have h1 := Lib.hid (show codeM j j j dk nw cs = 0 by rw [Hcode2.out, if_pos Hnw.out])
          have h2 := Lib.hid (show lenM j j j dk nw cs = j by unfold lenM; rw [if_pos h1.out])
          go_wp2
          go_ret2
          exact ⟨⟨_, by rw [h1.out]; rfl, by rw [h2.out]; exact ⟨_, _, rfl, Ho.out.sl.congr (fun i hi => by rw [if_pos hi]; exact mv_sub Hsc.out Hnw.out i hi), by omega, Nat.le_refl _⟩⟩, Hb.out⟩

theorem moves20 (A1 A2 A3 : Option Addr) (n m k c1 c2 c3 : Nat) (dk nw : Nat → Int) (cs : Nat → Nat × Cs) (w : World) (hr1 : SlI w A1 n dk) (hr2 : SlI w A2 m nw) (hr3 : Elems RowsV w A3 k cs)
    (m1 : n ≤ 9223372036854775807) (m2 : m ≤ 9223372036854775807) (m3 : k ≤ 9223372036854775807) :
    Calls Try.prog 20 #[.slice A1 n c1, .slice A2 m c2, .slice A3 k c3] w (MovesPost w n m k dk nw cs) := by
  have Hr1 := Lib.hid hr1
  have Hr2 := Lib.hid hr2
  have Hr3 := Lib.hid hr3
  clear hr1 hr2 hr3
  by_cases hnm : n ≠ m ∨ n ≠ k
  · have h1 := Lib.hid (show codeM n m k dk nw cs = 3 from if_pos hnm)
    have h2 := Lib.hid (show lenM n m k dk nw cs = 0 by unfold lenM; rw [h1.out]; rfl)
    rcases (show n ≠ m ∨ (n = m ∧ n ≠ k) by omega) with h | ⟨h, h'⟩
    · have hb : ((n : Int) != m) = true := by simp; omega
      clear hnm h
      go_enter Try.func20, Try.ntmps20
      go_wp2_with fail
      go_ret2
      exact ⟨⟨_, by rw [h1.out]; rfl, by rw [h2.out]; exact ListAt.nil⟩, Below.refl _ _⟩
    · have hb : ((n : Int) != m) = false := by simp; omega
      have hb2 : ((n : Int) != k) = true := by simp; omega
      clear hnm h h'
      go_enter Try.func20, Try.ntmps20
      go_wp2_with fail
      go_ret2
      exact ⟨⟨_, by rw [h1.out]; rfl, by rw [h2.out]; exact ListAt.nil⟩, Below.refl _ _⟩
  obtain rfl : n = m := by omega
  obtain rfl : n = k := by omega
  by_cases hn : 32 < n
  · have h1 := Lib.hid (show codeM n n n dk nw cs = 8 by unfold codeM; rw [if_neg hnm, if_pos hn])
    have h2 := Lib.hid (show lenM n n n dk nw cs = 0 by unfold lenM; rw [h1.out]; rfl)
    clear hnm
    go_enter Try.func20, Try.ntmps20
    go_wp2_with fail
    go_ret2
    exact ⟨⟨_, by rw [h1.out]; rfl, by rw [h2.out]; exact ListAt.nil⟩, Below.refl _ _⟩
  have Hcode := Lib.hid (show codeM n n n dk nw cs = if scanM dk cs n ≠ 0 then scanM dk cs n else if nowB dk nw n = true then 0 else 1 by unfold codeM; rw [if_neg hnm, if_neg hn])
  have hn2 : n ≤ 32 := by omega
  clear hnm hn
  go_enter Try.func20, Try.ntmps20
  go_wp2_with fail
  go_loopw [9, 8] (fun i v wr => ∃ k : Nat, k ≤ n ∧ i = .int .i64 k ∧ Hid (OwnI wr w.heap.size 3 v k (fun i => valB (dk i) (cs i).1 (cs i).2)) ∧ Hid (Below w.heap.size w wr) ∧ Hid (scanM dk cs k = 0)) (fun i _ _ => n - (intOf i).toNat)
  case atStart => exact ⟨0, by omega, rfl, Lib.hid (OwnI.nil _ _ _ _), Lib.hid (Below.refl _ _), Lib.hid rfl⟩
  case round =>
    obtain ⟨k, hk, rfl, Ho, Hb, Hsc⟩ := hrel
    by_cases hlt : k < n
    · obtain ⟨b1, o1, rfl, _, z1⟩ := (Hr1.out.bel Hb.out).at_ k hlt
      obtain ⟨b2, o2, rfl, _, z2⟩ := (Hr2.out.bel Hb.out).at_ k hlt
      obtain ⟨b3, o3, u, rfl, _, z3, A4, c4, rfl, hel, m4⟩ := (Hr3.out.bel rowsV_stays Hb.out).at_ k hlt
      have Hel := Lib.hid hel
      clear hel
      by_cases he : codeCs (dk k) (cs k).1 (cs k).2 = 0
      · have HC := Lib.hid he
        have Hvb := valB_bd he
        obtain ⟨X, hX⟩ : ∃ X, valB (dk k) (cs k).1 (cs k).2 = X := ⟨_, rfl⟩
        rw [hX] at Hvb
        have HX := Lib.hid hX
        clear he hX
        go_wp2
        go_region_with (go_at_call 17; refine (best17 A4 (cs k).1 c4 (cs k).2 (dk k) _ (by exact rows_drew Hel.out) m4).mono ?_; rw [HC.out, HX.out]; rintro e w2 ⟨rfl, hb0⟩; have hb := ((Below.refl wr.heap.size wr).drew).trans (hb0.mono (Nat.le_refl _)); clear hb0; have Ho2 := Lib.hid (Ho.out.bel hb); have Hb2 := Lib.hid (Hb.out.trans (hb.mono Hb.out.size)); clear hb)
        all_goals
          go_wp2_with (at_builtin; refine app_int _ rfl (.tmp 49) (.tmp 51) 22 rfl Try.underlying22 isInt3 rfl _ rfl Ho2.out (by omega) (by exact Hb2.out.size) HX.out ?_; intro v' w5 hown5 hg5 hloc5)
          go_wp2
          go_roundw
          case rel => exact ⟨k + 1, by omega, by go_num, Lib.hid hown5, Lib.hid (Hb2.out.trans (grown_bel hg5 Hb2.out.size (fun j hj => (Ho2.out.lt j hj).1))), Lib.hid (scanM_next dk cs k Hsc.out HC.out)⟩
          case measure => simp [intOf]; omega
      · have h1 := Lib.hid (show codeM n n n dk nw cs = codeCs (dk k) (cs k).1 (cs k).2 by rw [Hcode.out, scanM_hit dk cs k n hlt Hsc.out he, if_pos he])
        have h2 := Lib.hid (show lenM n n n dk nw cs = 0 by unfold lenM; rw [h1.out, if_neg he])
        have heb : (codeCs (dk k) (cs k).1 (cs k).2 != 0) = true := by simpa using he
        clear he
        go_wp2
        go_region_with (go_at_call 17; refine (best17 A4 (cs k).1 c4 (cs k).2 (dk k) _ (by exact rows_drew Hel.out) m4).mono ?_; rintro e w2 ⟨rfl, hb0⟩; have hb := ((Below.refl wr.heap.size wr).drew).trans (hb0.mono (Nat.le_refl _)); clear hb0; have Hb2 := Lib.hid (Hb.out.trans (hb.mono Hb.out.size)); clear hb)
        all_goals
          go_wp2
          go_ret2
          exact ⟨⟨_, by rw [h1.out]; rfl, by rw [h2.out]; exact ListAt.nil⟩, Hb2.out⟩
    · have hkn : k = n := by omega
      subst hkn
      have Hcode2 := Lib.hid (show codeM k k k dk nw cs = if nowB dk nw k = true then 0 else 1 by rw [Hcode.out, if_neg (by rw [Hsc.out]; simp)])
      obtain ⟨u, hu⟩ : ∃ u, u = u8 := ⟨_, rfl⟩
      subst hu
      go_wp2_with fail
      obtain ⟨wo, hwo⟩ : ∃ wo, wo = wr := ⟨_, rfl⟩
      subst hwo
      go_loopw [12] (fun i wi => ∃ j : Nat, j ≤ k ∧ i = .int .i64 j ∧ Hid (OwnI wi w.heap.size 3 u k (fun i => if i < j then mvF dk nw cs i else valB (dk i) (cs i).1 (cs i).2)) ∧ Hid (Below w.heap.size w wi) ∧ Hid (nowB dk nw j = true)) (fun i _ => k - (intOf i).toNat)
      case atStart => exact ⟨0, by omega, rfl, Lib.hid (Ho.out.congr (fun i hi => by rw [if_neg (by omega)])), Hb, Lib.hid rfl⟩
      case round =>
        obtain ⟨j, hj, rfl, Ho, Hb, Hnw⟩ := hrel
        by_cases hjl : j < k
        · obtain ⟨b1, o1, rfl, _, z1⟩ := (Hr1.out.bel Hb.out).at_ j hjl
          obtain ⟨b2, o2, rfl, _, z2⟩ := (Hr2.out.bel Hb.out).at_ j hjl
          by_cases hok : 0 ≤ nw j ∧ nw j ≤ dk j
          · obtain ⟨k1, k2⟩ := hok
            obtain ⟨g, cg, rfl, hg, hcg⟩ := Ho.out.row (by omega)
            obtain ⟨X, hX⟩ : ∃ X, valB (dk j) (cs j).1 (cs j).2 = X := ⟨_, rfl⟩
            obtain ⟨Y, hY⟩ : ∃ Y, IntKind.i64.wrap (nw j - X) = Y := ⟨_, rfl⟩
            have HY := Lib.hid (show mvF dk nw cs j = Y by unfold mvF; rw [hX]; exact hY)
            have y2 := Ho.out.read j hjl
            rw [if_neg (by omega), hX] at y2
            have y3 := Ho.out.thaw j
            clear hX
            go_wp2
            go_quiet (fail)
            go_wp2
            go_region
            all_goals
              go_wp2
              go_roundw
              case rel => exact ⟨j + 1, by omega, by go_num, Lib.hid ((Ho.out.store j Y).congr (fun i hi => by by_cases hik : i = j; (rw [if_pos hik, if_pos (by omega), hik, HY.out]); (rw [if_neg hik]; by_cases h : i < j; (rw [if_pos h, if_pos (by omega)]); (rw [if_neg h, if_neg (by omega)])))), Lib.hid (Below.drew (below_drewN (Hb.out.setCell hg _) _)), Lib.hid (nowB_next Hnw.out ⟨k1, k2⟩)⟩
              case measure => simp [intOf]; omega
          · have h1 := Lib.hid (show codeM k k k dk nw cs = 1 by rw [Hcode2.out, nowB_bad hjl hok]; rfl)
            have h2 := Lib.hid (show lenM k k k dk nw cs = 0 by unfold lenM; rw [h1.out]; rfl)
            rcases (show nw j < 0 ∨ (0 ≤ nw j ∧ dk j < nw j) by omega) with h | ⟨h, h'⟩
            all_goals
              clear hok
              go_wp2
              go_quiet (fail)
              go_wp2
              go_ret2
              exact ⟨⟨_, by rw [h1.out]; rfl, by rw [h2.out]; exact ListAt.nil⟩, below_drewN Hb.out _⟩
        · have hjk : j = k := by omega
          subst hjk
          have h1 := Lib.hid (show codeM j j j dk nw cs = 0 by rw [Hcode2.out, if_pos Hnw.out])
          have h2 := Lib.hid (show lenM j j j dk nw cs = j by unfold lenM; rw [if_pos h1.out])
          obtain ⟨A9, c9, rfl, hs9, _, hc9⟩ := Ho.out.form
          have Hs9 := Lib.hid (show SlI wr A9 j (valM dk nw cs) from hs9.congr (fun i hi => by rw [if_pos hi]; exact mv_sub Hsc.out Hnw.out i hi))
          clear hs9
          go_wp2
          go_ret2
          exact ⟨⟨_, by rw [h1.out]; rfl, by rw [h2.out]; exact ⟨_, _, rfl, Hs9.out, by omega, hc9⟩⟩, Hb.out⟩
end Go.Proofs.Ytnfgbghjdmimgaa
