/- The walk of the law ReserveShorter. -/
import Derived.Test.YtmfkkmonedgdnaaRM
import Derived.Test.YtmfkkmonedgdnaaRM4
namespace Go.Proofs.Ytmfkkmonedgdnaa
open Go.RowKit
set_option maxHeartbeats 4000000
set_option maxRecDepth 100000
set_option linter.unusedVariables false

/-- what By answers where the i-th held, in the list after End -/
def SayP (g : Nat → Nat → Int) (id t at_ : Int) (M : Nat) (G : Nat → Nat → Int) (i : Nat) : Prop :=
  (byF M G (g i 1) at_ = true ∧ byR M G (g i 1) at_ = g i 2 ∧ ((g i 0 == id) = false ∨ ((g i 0 == id) = true ∧ at_ < t))) ∨ (byF M G (g i 1) at_ = false ∧ byR M G (g i 1) at_ = 0 ∧ (g i 0 == id) = true ∧ t ≤ at_)
theorem short_say {n : Nat} {g : Nat → Nat → Int} {id t at_ : Int} (h : endE n g id t = 0) :
    ∃ (M : Nat) (G : Nat → Nat → Int), enN n g id t 0 = M ∧ enG n g id t = G ∧ OkH M G ∧ M ≤ n ∧ n ≤ M + 1 ∧ ∀ i, i < n → g i 3 ≤ at_ → at_ < g i 4 → SayP g id t at_ M G i := by
  obtain ⟨ok, t0, t1, k, hk, hkn, hid, htk⟩ := endE_ok h
  have hik : ∀ i, i < n → (g i 0 == id) = true → i = k := fun i hi he => by
    have he : g i 0 = id := by simpa using he
    by_cases h1 : i < k
    · exact absurd (he.trans hid.symm) (ok.ids i k h1 hkn)
    · by_cases h2 : k < i
      · exact absurd (hid.trans he.symm) (ok.ids k i h2 hi)
      · omega
  have hki : ∀ i, (g i 0 == id) = false → i ≠ k := fun i he hx => by subst hx; simp [hid] at he
  by_cases hf : t ≤ g k 3
  · refine ⟨n - 1, cutG k g, by unfold enN; rw [if_pos rfl, hk, if_pos hf], by unfold enG; rw [hk, if_pos hf], cut_ok ok hkn, by omega, by omega, fun i hi h1 h2 => ?_⟩
    have hs := short_cut ok hkn hi h1 h2
    cases hq : (g i 0 == id) with
    | false => exact .inl ⟨(hs.1 (hki i hq)).2, (hs.1 (hki i hq)).1, .inl hq⟩
    | true =>
      have e := hik i hi hq
      exact .inr ⟨(hs.2 e).2, (hs.2 e).1, hq, by rw [e] at h1; omega⟩
  · refine ⟨n, toG k g t, by unfold enN; rw [if_pos rfl, hk, if_neg hf], by unfold enG; rw [hk, if_neg hf], to_ok ok hkn (by omega) htk, Nat.le_refl _, by omega, fun i hi h1 h2 => ?_⟩
    have hs := short_to ok hkn hi htk h1 h2
    cases hq : (g i 0 == id) with
    | false => exact .inl ⟨(hs.1 (.inl (hki i hq))).2, (hs.1 (.inl (hki i hq))).1, .inl hq⟩
    | true =>
      have e := hik i hi hq
      by_cases hx : at_ < t
      · exact .inl ⟨(hs.1 (.inr hx)).2, (hs.1 (.inr hx)).1, .inr ⟨hq, hx⟩⟩
      · exact .inr ⟨(hs.2 ⟨e, by omega⟩).2, (hs.2 ⟨e, by omega⟩).1, hq, by omega⟩

theorem law8_any (A : Option Addr) (n c : Nat) (g : Nat → Nat → Int) (id t at_ : Int) (w : World) (hr : FlatRd w A n 5 g) (m1 : n ≤ 9223372036854775807) (hnc : n ≤ c) :
    Calls Try.prog 8 #[.slice A n c, .agg #[.int .i64 id, .int .i64 t, .int .i64 at_]] w fun x w' => x = .returned (.bool true) ∧ Below w.heap.size w w' := by
  have Hr := Lib.hid hr
  clear hr
  have B00 := Lib.hid (box_bel w (.cells #[.int .i64 id, .int .i64 t, .int .i64 at_] 45))
  have q0 := new_cell w #[.int .i64 id, .int .i64 t, .int .i64 at_] 45 0
  have q1 := new_cell w #[.int .i64 id, .int .i64 t, .int .i64 at_] 45 1
  have q2 := new_cell w #[.int .i64 id, .int .i64 t, .int .i64 at_] 45 2
  simp only [List.getElem?_toArray, List.getElem?_cons_zero, List.getElem?_cons_succ] at q0 q1 q2
  obtain ⟨w0, hw0⟩ : ∃ w0, w0 = w.alloc (.cells #[.int .i64 id, .int .i64 t, .int .i64 at_] 45) := ⟨_, rfl⟩
  rw [← hw0] at B00 q0 q1 q2
  have HW0 := Lib.hid hw0
  clear hw0
  by_cases h60 : 60 < n
  case pos =>
    go_enter Try.func8, Try.ntmps8
    go_wp2_with fail
    rw [← HW0.out]
    go_quiet (fail)
    go_wp2_with fail
    refine (awake_any _).mono ?_
    rintro x w2 ⟨rfl, hb0⟩
    have B1 := Lib.hid (bel_tr (below_drewN B00.out _) hb0 (Nat.le_refl _))
    clear hb0
    go_wp2_with fail
    go_ret
    exact ⟨rfl, B1.out⟩
  have hn : n ≤ 60 := by omega
  clear h60
  by_cases hE : endE n g id t = 0
  case neg =>
    have HN := Lib.hid (show enN n g id t (endE n g id t) = 0 from if_neg hE)
    have qE : (endE n g id t != 0) = true := by simpa using hE
    clear hE
    go_enter Try.func8, Try.ntmps8
    go_wp2_with fail
    rw [← HW0.out]
    go_quiet (fail)
    go_wp2_with fail
    refine (end17 A n c g id t _ ((Hr.out.bel B00.out).drewN _) m1 hnc).mono ?_
    rw [HN.out]
    rintro x w1 ⟨⟨A1, c1, rfl, hrd, hc1⟩, hb0⟩
    have B1 := Lib.hid (bel_tr (below_drewN B00.out _) hb0 (Nat.le_refl _))
    clear hb0 hrd
    go_wp2_with fail
    refine (awake_any _).mono ?_
    rintro x w2 ⟨rfl, hb0⟩
    have B2 := Lib.hid (bel_tr B1.out hb0 (Nat.le_refl _))
    clear hb0
    go_wp2_with fail
    go_ret
    exact ⟨rfl, B2.out⟩
  obtain ⟨M, G, e1, e2, okM, hM1, hM2, hS⟩ := short_say (at_ := at_) hE
  have HE := Lib.hid (And.intro hE (And.intro e1 e2))
  have HS := Lib.hid hS
  have HCM := Lib.hid (chkH_mk okM)
  clear hE e1 e2 okM hS
  have hw1 : IntKind.i64.wrap ((n : Int) - 1) = (n : Int) - 1 := IntWalk.i64_in _ (by omega)
  have hMI1 : (M : Int) ≤ (n : Int) := by omega
  have hMI2 : (n : Int) - 1 ≤ (M : Int) := by omega
  go_enter Try.func8, Try.ntmps8
  go_wp2_with fail
  rw [← HW0.out]
  go_quiet (fail)
  go_wp2_with fail
  refine (end17 A n c g id t _ ((Hr.out.bel B00.out).drewN _) m1 hnc).mono ?_
  rw [HE.out.1, HE.out.2.1, HE.out.2.2]
  rintro x w1 ⟨⟨A1, c1, rfl, hrd, hc1⟩, hb0⟩
  have B1 := Lib.hid (bel_tr (below_drewN B00.out _) hb0 (Nat.le_refl _))
  have R1 := Lib.hid hrd
  clear hb0 hrd
  go_wp2_with fail
  go_loopw [10] (fun i wr => ∃ k : Nat, k ≤ n ∧ i = .int .i64 k ∧ Hid (FlatRd wr A1 M 5 G) ∧ Hid (Below w.heap.size w wr)) (fun i _ => n - (intOf i).toNat)
  case atStart => exact ⟨0, by omega, rfl, R1, B1⟩
  case round =>
    obtain ⟨k, hk, rfl, HM, Hb⟩ := hrel
    by_cases hlt : k < n
    case neg =>
      have hkn : k = n := by omega
      subst hkn
      have hltI : ¬ (k : Int) < (k : Int) := by omega
      go_wp2_with fail
      refine (check14 A1 M c1 G _ HM.out (by omega) hc1).mono ?_
      rw [HCM.out]
      rintro x w2 ⟨rfl, hb0⟩
      have B2 := Lib.hid (bel_tr Hb.out hb0 (Nat.le_refl _))
      clear hb0
      go_wp2_with fail
      refine (awake_any _).mono ?_
      rintro x w3 ⟨rfl, hb0⟩
      have B3 := Lib.hid (bel_tr B2.out hb0 (Nat.le_refl _))
      clear hb0
      go_wp2_with fail
      go_ret
      exact ⟨by first | rfl | simp, B3.out⟩
    obtain ⟨b, o, rfl, hbw⟩ := Hr.out.at_ (by omega)
    have HRr := Lib.hid (Hr.out.bel Hb.out)
    obtain ⟨r0, r1, r2, r3, r4⟩ := HRr.out.row k hlt
    have hltI : (k : Int) < (n : Int) := by omega
    have hcs : at_ < g k 3 ∨ (g k 3 ≤ at_ ∧ g k 4 ≤ at_) ∨ (g k 3 ≤ at_ ∧ at_ < g k 4) := by omega
    rcases hcs with h1 | ⟨h1, h2⟩ | ⟨h1, h2⟩
    · go_wp2_with fail
      go_roundw
      case rel => exact ⟨k + 1, by omega, by go_num, HM, Hb⟩
      case measure => simp [intOf]; omega
    · go_wp2_with fail
      go_roundw
      case rel => exact ⟨k + 1, by omega, by go_num, HM, Hb⟩
      case measure => simp [intOf]; omega
    have hsay := HS.out k hlt h1 h2
    obtain ⟨W, hW⟩ : ∃ W, W = byR M G (g k 1) at_ := ⟨_, rfl⟩
    obtain ⟨H, hH⟩ : ∃ H, H = byF M G (g k 1) at_ := ⟨_, rfl⟩
    unfold SayP at hsay
    rw [← hW, ← hH] at hsay
    have HW := Lib.hid (And.intro hW.symm hH.symm)
    clear hW hH
    rcases hsay with ⟨a1, a2, a3 | ⟨a3, a4⟩⟩ | ⟨a1, a2, a3, a4⟩
    all_goals
      subst a1 a2
      go_wp2_with fail
      refine (by19 A1 M c1 G (g k 1) at_ _ HM.out (by omega)).mono ?_
      rw [HW.out.1, HW.out.2]
      rintro x w3 ⟨rfl, hb0⟩
      have B3 := Lib.hid (bel_tr Hb.out hb0 (Nat.le_refl _))
      have M3 := Lib.hid (HM.out.bel hb0)
      have HR3 := Lib.hid (HRr.out.bel hb0)
      clear hb0 r0 r1 r2 r3 r4
      obtain ⟨r0, r1, r2, r3, r4⟩ := HR3.out.row k hlt
      go_wp2_with fail
      go_roundw
      case rel => exact ⟨k + 1, by omega, by go_num, M3, B3⟩
      case measure => simp [intOf]; omega
end Go.Proofs.Ytmfkkmonedgdnaa
