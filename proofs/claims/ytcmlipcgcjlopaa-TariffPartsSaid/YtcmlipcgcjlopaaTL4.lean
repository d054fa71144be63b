/- The walk of the law TariffAmounts. -/
import Derived.Test.YtcmlipcgcjlopaaTS
namespace Go.Proofs.Ytcmlipcgcjlopaa
open Go.RowKit
set_option maxHeartbeats 2000000
set_option maxRecDepth 100000
set_option linter.unusedVariables false

theorem codeL_zero {e am : Int} (h : codeL e am = 0) : e = 0 ∧ 0 ≤ am ∧ am ≤ 1000000000000 := by
  unfold codeL at h
  by_cases h1 : e ≠ 0
  · rw [if_pos h1] at h; exact absurd h h1
  rw [if_neg h1] at h
  by_cases h2 : am < 0 ∨ 1000000000000 < am
  · rw [if_pos h2] at h; cases h
  omega
theorem steps_le {s a m : Int} (hs : 1 ≤ s) (hm : 0 ≤ m) : (max 0 a + s - 1) / s ≤ m ↔ a ≤ m * s := by
  have h0 : 0 ≤ m * s := Int.mul_nonneg hm (by omega)
  have h1 : (max 0 a + s - 1) / s < m + 1 ↔ max 0 a + s - 1 < (m + 1) * s := Int.ediv_lt_iff_lt_mul (by omega)
  have h2 : (m + 1) * s = m * s + s := by rw [Int.add_mul, Int.one_mul]
  constructor
  · intro h
    have := h1.mp (by omega)
    omega
  · intro h
    have := h1.mpr (by omega)
    omega
theorem cost_le {s a p am : Int} (hs : 1 ≤ s) (hp : 1 ≤ p) (ha : 0 ≤ am) : costT s a p ≤ am ↔ a ≤ am / p * s := by
  unfold costT
  rw [← steps_le hs (Int.ediv_nonneg ha (by omega)), Int.le_ediv_iff_mul_le (by omega), Int.mul_comm]
/-- what a time and its price answer -/
theorem amounts_law {u s r p q am x : Int} (hL : codeL (oneT u s r p q) am = 0) (x0 : 0 ≤ x) (x1 : x ≤ 4294944000) :
    (x ≤ valL (oneT u s r p q) am s r p ∧ codeT (oneT u s r p q) x (costT s (x - r) p) = 0 ∧ valT (oneT u s r p q) x (costT s (x - r) p) ≤ am) ∨
    (valL (oneT u s r p q) am s r p < x ∧ codeT (oneT u s r p q) x (costT s (x - r) p) = 0 ∧ am < valT (oneT u s r p q) x (costT s (x - r) p)) ∨
    (valL (oneT u s r p q) am s r p < x ∧ codeT (oneT u s r p q) x (costT s (x - r) p) = 2 ∧ valT (oneT u s r p q) x (costT s (x - r) p) = 0) := by
  obtain ⟨h1, a0, a1⟩ := codeL_zero hL
  have hb := ranged_bd (oneT_zero h1)
  have key : costT s (x - r) p ≤ am ↔ x ≤ valL (oneT u s r p q) am s r p := by
    unfold valL
    rw [if_pos hL]
    by_cases hp : p = 0
    · rw [if_pos hp, hp]
      have : costT s (x - r) 0 = 0 := by unfold costT; rw [Int.zero_mul]
      omega
    · rw [if_neg hp, cost_le (by omega) (by omega) a0]
      omega
  by_cases hx : x ≤ valL (oneT u s r p q) am s r p
  · have hc := key.mpr hx
    have hk : codeT (oneT u s r p q) x (costT s (x - r) p) = 0 := codeT_ok h1 x0 x1 (by omega)
    exact .inl ⟨hx, hk, by rw [valT_ok hk]; exact hc⟩
  · have hc : am < costT s (x - r) p := by
      rcases (show am < costT s (x - r) p ∨ costT s (x - r) p ≤ am by omega) with h | h
      · exact h
      · exact absurd (key.mp h) hx
    by_cases ho : 1000000000000 < costT s (x - r) p
    · have hk : codeT (oneT u s r p q) x (costT s (x - r) p) = 2 := codeT_two h1 x0 x1 ho
      exact .inr (.inr ⟨by omega, hk, valT_bad (by rw [hk]; decide)⟩)
    · have hk : codeT (oneT u s r p q) x (costT s (x - r) p) = 0 := codeT_ok h1 x0 x1 (by omega)
      exact .inr (.inl ⟨by omega, hk, by rw [valT_ok hk]; exact hc⟩)
theorem valL_bd {u s r p q am : Int} (hL : codeL (oneT u s r p q) am = 0) : 0 ≤ valL (oneT u s r p q) am s r p ∧ valL (oneT u s r p q) am s r p ≤ 4294944000 := by
  obtain ⟨h1, a0, a1⟩ := codeL_zero hL
  have hb := ranged_bd (oneT_zero h1)
  unfold valL
  rw [if_pos hL]
  by_cases hp : p = 0
  · rw [if_pos hp]; omega
  · rw [if_neg hp]
    have hd0 : 0 ≤ am / p := Int.ediv_nonneg a0 (by omega)
    have hm0 : 0 ≤ am / p * s := Int.mul_nonneg hd0 (by omega)
    omega
/-- the three times that the law asks for -/
def thr (L m x : Int) : Nat → Int := fun i => [L, m, x].getD i 0
theorem thr_cells (L m x : Int) (i : Nat) (h : i < 3) : (#[Value.int .i64 L, .int .i64 m, .int .i64 x] : Array Value)[i]? = some (.int .i64 (thr L m x i)) := by
  rcases i with _ | _ | _ | i
  · rfl
  · rfl
  · rfl
  · omega

theorem law8_any (f u s r p q am x : Int) (w : World) :
    Calls Try.prog 8 #[tv f u s r p q, .int .i64 am, .int .i64 x] w fun e w' => e = .returned (.bool true) ∧ Below w.heap.size w w' := by
  by_cases hc : codeL (oneT u s r p q) am = 0
  case neg =>
    have H2 := Lib.hid (show valL (oneT u s r p q) am s r p = 0 from if_neg hc)
    obtain ⟨C, hC⟩ : ∃ C, codeL (oneT u s r p q) am = C := ⟨_, rfl⟩
    have hcb : (C != 0) = true := by rw [← hC]; simpa using hc
    have HC := Lib.hid hC
    clear hc hC
    go_enter Try.func8, Try.ntmps8
    go_wp2_with fail
    refine (longest19 f u s r p q am _).mono ?_
    rw [H2.out, HC.out]
    rintro e w1 ⟨rfl, hb⟩
    have B := Lib.hid (Below.trans (box_bel w _) (hb.mono (by simp)))
    clear hb
    go_wp2_with fail
    refine (awake_any _).mono ?_
    rintro e w9 ⟨rfl, hb⟩
    have B9 := Lib.hid (B.out.trans (hb.mono B.out.size))
    clear hb
    go_wp2_with fail
    go_ret
    exact ⟨rfl, B9.out⟩
  have Hlaw := Lib.hid (fun (y : Int) (h0 : 0 ≤ y) (h1 : y ≤ 4294944000) => amounts_law (x := y) hc h0 h1)
  obtain ⟨h1, a0, a1⟩ := codeL_zero hc
  obtain ⟨l0, l1⟩ := valL_bd hc
  have HC := Lib.hid hc
  obtain ⟨L, hL⟩ : ∃ L, valL (oneT u s r p q) am s r p = L := ⟨_, rfl⟩
  have HL := Lib.hid hL
  rw [hL] at l0 l1
  clear hc hL h1
  have hwL : IntKind.i64.wrap (L + 1) = L + 1 := IntWalk.i64_in _ (by omega)
  by_cases hM : 4294944000 < L + 1
  · go_enter Try.func8, Try.ntmps8
    go_wp2_with fail
    refine (longest19 f u s r p q am _).mono ?_
    rw [HL.out, HC.out]
    rintro e w1 ⟨rfl, hb⟩
    have B0 : Hid (Below (w.heap.size + 1) (w.alloc (.cells #[.int .i64 f, .int .i64 u, .int .i64 s, .int .i64 r, .int .i64 p, .int .i64 q] 30)) w1) := Lib.hid (hb.mono (by simp))
    have hz : w.heap.size + 1 ≤ w1.heap.size := by have := B0.out.size; simpa using this
    have Bw := Lib.hid (Below.trans (box_bel w _) (hb.mono (by simp)))
    clear hb
    go_wp2_with fail
    have HA := Lib.hid (fun wr (h : Below (w1.heap.size + 1) (w1.alloc (.cells #[.int .i64 L, .int .i64 4294944000, .int .i64 x] 34)) wr) (i : Nat) (hi : i < 3) => (one_block w1 _ 34 wr h i).trans (thr_cells L 4294944000 x i hi))
    have HK := Lib.hid (fun wr (h : Below (w1.heap.size + 1) (w1.alloc (.cells #[.int .i64 L, .int .i64 4294944000, .int .i64 x] 34)) wr) => one_block w #[.int .i64 f, .int .i64 u, .int .i64 s, .int .i64 r, .int .i64 p, .int .i64 q] 30 wr ((B0.out.trans ((box_bel w1 _).mono hz)).trans (h.mono (by omega))))
    go_loopw [10] (fun i wr => ∃ k : Nat, k ≤ 3 ∧ i = .int .i64 k ∧ Hid (Below (w1.heap.size + 1) (w1.alloc (.cells #[.int .i64 L, .int .i64 4294944000, .int .i64 x] 34)) wr)) (fun i _ => 3 - (intOf i).toNat)
    case atStart => exact ⟨0, by omega, rfl, Lib.hid (Below.refl _ _)⟩
    case round =>
      obtain ⟨k, hk, rfl, Hb⟩ := hrel
      by_cases hlt : k < 3
      · have z := HA.out wr Hb.out k hlt
        have ka := HK.out wr Hb.out
        have k0 := ka 0
        have k1 := ka 1
        have k2 := ka 2
        have k3 := ka 3
        have k4 := ka 4
        have k5 := ka 5
        simp only [List.getElem?_toArray, List.getElem?_cons_zero, List.getElem?_cons_succ] at k0 k1 k2 k3 k4 k5
        clear ka
        obtain ⟨y, hy⟩ : ∃ y, thr L 4294944000 x k = y := ⟨_, rfl⟩
        rw [hy] at z
        have HY := Lib.hid hy
        clear hy
        have hzr : w1.heap.size + 1 ≤ wr.heap.size := by have := Hb.out.size; simpa using this
        by_cases hyr : 0 ≤ y ∧ y ≤ 4294944000
        · obtain ⟨y0, y1⟩ := hyr
          have HE := Lib.hid (Hlaw.out y y0 y1)
          rcases HE.out with ⟨c1, c2, c3⟩ | ⟨c1, c2, c3⟩ | ⟨c1, c2, c3⟩
          · rw [HL.out] at c1
            have E := Lib.hid c2
            obtain ⟨V, hV⟩ : ∃ V, valT (oneT u s r p q) y (costT s (y - r) p) = V := ⟨_, rfl⟩
            rw [hV] at c3
            have HV := Lib.hid hV
            clear c2 hV
            have d1 : decide (y ≤ L) = true := by simpa using c1
            have d2 : decide (V ≤ am) = true := by simpa using c3
            go_wp2_with fail
            go_region_with (go_at_call 15; refine (time15 f u s r p q y _).mono ?_; rw [E.out, HV.out]; rintro e w2 ⟨rfl, hb⟩; have Hb2 : Hid (Below (w1.heap.size + 1) (w1.alloc (.cells #[.int .i64 L, .int .i64 4294944000, .int .i64 x] 34)) w2) := Lib.hid (Hb.out.drew.trans (hb.mono (by simpa using hzr))); clear hb; have z2 := HA.out w2 Hb2.out k hlt; rw [HY.out] at z2)
            all_goals
              go_wp2_with fail
              go_roundw
              case rel => exact ⟨k + 1, by omega, by go_num, Hb2⟩
              case measure => simp [intOf]; omega
          · rw [HL.out] at c1; omega
          · rw [HL.out] at c1; omega
        · rcases (show y < 0 ∨ 4294944000 < y by omega) with h | h
          all_goals
            go_wp2_with fail
            go_roundw
            case rel => exact ⟨k + 1, by omega, by go_num, Hb⟩
            case measure => simp [intOf]; omega
      · have hk3 : k = 3 := by omega
        subst hk3
        go_wp2_with fail
        refine (awake_any _).mono ?_
        rintro e w9 ⟨rfl, hb⟩
        have B9 := Lib.hid (Bw.out.trans ((box_bel w1 (.cells #[.int .i64 L, .int .i64 4294944000, .int .i64 x] 34)).mono Bw.out.size))
        have B8 := Lib.hid (B9.out.trans (Hb.out.mono (by omega)))
        have B7 := Lib.hid (B8.out.trans (hb.mono B8.out.size))
        clear hb
        go_wp2_with fail
        go_ret
        exact ⟨rfl, B7.out⟩
  · go_enter Try.func8, Try.ntmps8
    go_wp2_with fail
    refine (longest19 f u s r p q am _).mono ?_
    rw [HL.out, HC.out]
    rintro e w1 ⟨rfl, hb⟩
    have B0 : Hid (Below (w.heap.size + 1) (w.alloc (.cells #[.int .i64 f, .int .i64 u, .int .i64 s, .int .i64 r, .int .i64 p, .int .i64 q] 30)) w1) := Lib.hid (hb.mono (by simp))
    have hz : w.heap.size + 1 ≤ w1.heap.size := by have := B0.out.size; simpa using this
    have Bw := Lib.hid (Below.trans (box_bel w _) (hb.mono (by simp)))
    clear hb
    go_wp2_with fail
    have HA := Lib.hid (fun wr (h : Below (w1.heap.size + 1) (w1.alloc (.cells #[.int .i64 L, .int .i64 (L + 1), .int .i64 x] 34)) wr) (i : Nat) (hi : i < 3) => (one_block w1 _ 34 wr h i).trans (thr_cells L (L + 1) x i hi))
    have HK := Lib.hid (fun wr (h : Below (w1.heap.size + 1) (w1.alloc (.cells #[.int .i64 L, .int .i64 (L + 1), .int .i64 x] 34)) wr) => one_block w #[.int .i64 f, .int .i64 u, .int .i64 s, .int .i64 r, .int .i64 p, .int .i64 q] 30 wr ((B0.out.trans ((box_bel w1 _).mono hz)).trans (h.mono (by omega))))
    go_loopw [10] (fun i wr => ∃ k : Nat, k ≤ 3 ∧ i = .int .i64 k ∧ Hid (Below (w1.heap.size + 1) (w1.alloc (.cells #[.int .i64 L, .int .i64 (L + 1), .int .i64 x] 34)) wr)) (fun i _ => 3 - (intOf i).toNat)
    case atStart => exact ⟨0, by omega, rfl, Lib.hid (Below.refl _ _)⟩
    case round =>
      obtain ⟨k, hk, rfl, Hb⟩ := hrel
      by_cases hlt : k < 3
      · have z := HA.out wr Hb.out k hlt
        have ka := HK.out wr Hb.out
        have k0 := ka 0
        have k1 := ka 1
        have k2 := ka 2
        have k3 := ka 3
        have k4 := ka 4
        have k5 := ka 5
        simp only [List.getElem?_toArray, List.getElem?_cons_zero, List.getElem?_cons_succ] at k0 k1 k2 k3 k4 k5
        clear ka
        obtain ⟨y, hy⟩ : ∃ y, thr L (L + 1) x k = y := ⟨_, rfl⟩
        rw [hy] at z
        have HY := Lib.hid hy
        clear hy
        have hzr : w1.heap.size + 1 ≤ wr.heap.size := by have := Hb.out.size; simpa using this
        by_cases hyr : 0 ≤ y ∧ y ≤ 4294944000
        · obtain ⟨y0, y1⟩ := hyr
          have HE := Lib.hid (Hlaw.out y y0 y1)
          rcases HE.out with ⟨c1, c2, c3⟩ | ⟨c1, c2, c3⟩ | ⟨c1, c2, c3⟩
          · rw [HL.out] at c1
            have E := Lib.hid c2
            obtain ⟨V, hV⟩ : ∃ V, valT (oneT u s r p q) y (costT s (y - r) p) = V := ⟨_, rfl⟩
            rw [hV] at c3
            have HV := Lib.hid hV
            clear c2 hV
            have d1 : decide (y ≤ L) = true := by simpa using c1
            have d2 : decide (V ≤ am) = true := by simpa using c3
            go_wp2_with fail
            go_region_with (go_at_call 15; refine (time15 f u s r p q y _).mono ?_; rw [E.out, HV.out]; rintro e w2 ⟨rfl, hb⟩; have Hb2 : Hid (Below (w1.heap.size + 1) (w1.alloc (.cells #[.int .i64 L, .int .i64 (L + 1), .int .i64 x] 34)) w2) := Lib.hid (Hb.out.drew.trans (hb.mono (by simpa using hzr))); clear hb; have z2 := HA.out w2 Hb2.out k hlt; rw [HY.out] at z2)
            all_goals
              go_wp2_with fail
              go_roundw
              case rel => exact ⟨k + 1, by omega, by go_num, Hb2⟩
              case measure => simp [intOf]; omega
          · rw [HL.out] at c1
            have E := Lib.hid c2
            obtain ⟨V, hV⟩ : ∃ V, valT (oneT u s r p q) y (costT s (y - r) p) = V := ⟨_, rfl⟩
            rw [hV] at c3
            have HV := Lib.hid hV
            clear c2 hV
            have d1 : decide (y ≤ L) = false := by simp; omega
            have d2 : decide (V ≤ am) = false := by simp; omega
            go_wp2_with fail
            go_region_with (go_at_call 15; refine (time15 f u s r p q y _).mono ?_; rw [E.out, HV.out]; rintro e w2 ⟨rfl, hb⟩; have Hb2 : Hid (Below (w1.heap.size + 1) (w1.alloc (.cells #[.int .i64 L, .int .i64 (L + 1), .int .i64 x] 34)) w2) := Lib.hid (Hb.out.drew.trans (hb.mono (by simpa using hzr))); clear hb; have z2 := HA.out w2 Hb2.out k hlt; rw [HY.out] at z2)
            all_goals
              go_wp2_with fail
              go_roundw
              case rel => exact ⟨k + 1, by omega, by go_num, Hb2⟩
              case measure => simp [intOf]; omega
          · rw [HL.out] at c1
            have E := Lib.hid c2
            obtain ⟨V, hV⟩ : ∃ V, valT (oneT u s r p q) y (costT s (y - r) p) = V := ⟨_, rfl⟩
            rw [hV] at c3
            have HV := Lib.hid hV
            clear c2 hV
            have d1 : decide (y ≤ L) = false := by simp; omega
            go_wp2_with fail
            go_region_with (go_at_call 15; refine (time15 f u s r p q y _).mono ?_; rw [E.out, HV.out]; rintro e w2 ⟨rfl, hb⟩; have Hb2 : Hid (Below (w1.heap.size + 1) (w1.alloc (.cells #[.int .i64 L, .int .i64 (L + 1), .int .i64 x] 34)) w2) := Lib.hid (Hb.out.drew.trans (hb.mono (by simpa using hzr))); clear hb; have z2 := HA.out w2 Hb2.out k hlt; rw [HY.out] at z2)
            all_goals
              go_wp2_with fail
              go_roundw
              case rel => exact ⟨k + 1, by omega, by go_num, Hb2⟩
              case measure => simp [intOf]; omega
        · rcases (show y < 0 ∨ 4294944000 < y by omega) with h | h
          all_goals
            go_wp2_with fail
            go_roundw
            case rel => exact ⟨k + 1, by omega, by go_num, Hb⟩
            case measure => simp [intOf]; omega
      · have hk3 : k = 3 := by omega
        subst hk3
        go_wp2_with fail
        refine (awake_any _).mono ?_
        rintro e w9 ⟨rfl, hb⟩
        have B9 := Lib.hid (Bw.out.trans ((box_bel w1 (.cells #[.int .i64 L, .int .i64 (L + 1), .int .i64 x] 34)).mono Bw.out.size))
        have B8 := Lib.hid (B9.out.trans (Hb.out.mono (by omega)))
        have B7 := Lib.hid (B8.out.trans (hb.mono B8.out.size))
        clear hb
        go_wp2_with fail
        go_ret
        exact ⟨rfl, B7.out⟩
end Go.Proofs.Ytcmlipcgcjlopaa
