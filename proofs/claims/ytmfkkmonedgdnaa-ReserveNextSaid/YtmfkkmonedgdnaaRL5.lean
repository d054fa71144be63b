/- The walk of the law ReserveNext. -/
import Derived.Test.YtmfkkmonedgdnaaRM
import Derived.Test.YtmfkkmonedgdnaaRM4
namespace Go.Proofs.Ytmfkkmonedgdnaa
open Go.RowKit
set_option maxHeartbeats 40000000
set_option maxRecDepth 100000
set_option linter.unusedVariables false

theorem neE_ok {n : Nat} {g : Nat → Nat → Int} {bike t s : Int} (h : neE n g bike t s = 0 ∨ neE n g bike t s = 10) :
    OkH n g ∧ 0 ≤ t ∧ t ≤ 4294943999 ∧ 1 ≤ s ∧ s ≤ 86400 ∧ (neE n g bike t s = 0 → nextX n g bike t s + s ≤ 4294944000) ∧ (neE n g bike t s = 10 → 4294944000 < nextX n g bike t s + s) := by
  unfold neE at h ⊢
  split at h
  · rename_i h1
    rw [if_pos h1] 
    split at h
    · omega
    · rename_i h2
      rw [if_neg h2]
      split at h
      · omega
      · rename_i h3
        rw [if_neg h3]
        refine ⟨chkH_ok h1, by omega, by omega, by omega, by omega, fun h4 => ?_, fun h4 => ?_⟩
        · split at h4 <;> omega
        · split at h4 <;> omega
  · rename_i h1
    rcases h with h | h
    · exact absurd h h1
    · exfalso
      unfold chkH at h
      split at h
      · omega
      · exact scan_ten h
theorem clr_false {n : Nat} {g : Nat → Nat → Int} {bike t s y : Int} (hd : ∀ i, i < n → g i 3 < g i 4) (hs : 1 ≤ s) (h1 : t ≤ y) (h2 : y < nextX n g bike t s) : clrB n g bike y s = false := by
  cases hq : clrB n g bike y s with
  | false => rfl
  | true => exact absurd ((clrB_iff hd hs).1 hq) ((nextX_spec n g bike t s).least y h1 h2)

/-- the truth of 'begins': it is so, or it was not so at first and none so far ends at N -/
def BegP (bg b0 : Bool) (g : Nat → Nat → Int) (bike N : Int) (k : Nat) : Prop := bg = true ∨ (b0 = false ∧ ∀ i, i < k → ¬ (g i 1 = bike ∧ g i 4 = N))
theorem beg_t (b0 : Bool) (g : Nat → Nat → Int) (bike N : Int) (k : Nat) : BegP true b0 g bike N k := .inl rfl
theorem beg_0 (g : Nat → Nat → Int) (bike N : Int) : BegP false false g bike N 0 := .inr ⟨rfl, fun i hi => absurd hi (by omega)⟩
theorem BegP.skip {bg b0 : Bool} {g : Nat → Nat → Int} {bike N : Int} {k : Nat} (h : BegP bg b0 g bike N k) (hb : g k 1 ≠ bike) : BegP bg b0 g bike N (k + 1) :=
  h.imp id (fun ⟨h1, h2⟩ => ⟨h1, fun i hi he => by
    by_cases hik : i = k
    · subst hik; exact hb he.1
    · exact h2 i (by omega) he⟩)
theorem BegP.next {bg b0 : Bool} {g : Nat → Nat → Int} {bike N : Int} {k : Nat} (h : BegP bg b0 g bike N k) : ∃ b1 : Bool, ((bg = true ∧ b1 = true) ∨ (bg = false ∧ (g k 4 == N) = b1)) ∧ BegP b1 b0 g bike N (k + 1) := by
  cases bg with
  | true => exact ⟨true, .inl ⟨rfl, rfl⟩, .inl rfl⟩
  | false =>
    refine ⟨(g k 4 == N), .inr ⟨rfl, rfl⟩, ?_⟩
    by_cases he : g k 4 = N
    · exact .inl (by simpa using he)
    · rcases h with h | ⟨h1, h2⟩
      · cases h
      · refine .inr ⟨h1, fun i hi hx => ?_⟩
        by_cases hik : i = k
        · subst hik; exact he hx.2
        · exact h2 i (by omega) hx

theorem law9_any (A : Option Addr) (n c : Nat) (g : Nat → Nat → Int) (bike t s : Int) (w : World) (hr : FlatRd w A n 5 g) (m1 : n ≤ 9223372036854775807) (hnc : n ≤ c) :
    Calls Try.prog 9 #[.slice A n c, .int .i64 bike, .agg #[.int .i64 t, .int .i64 s]] w fun x w' => x = .returned (.bool true) ∧ Below w.heap.size w w' := by
  have Hr := Lib.hid hr
  clear hr
  have B00 := Lib.hid (box_bel w (.cells #[.int .i64 t, .int .i64 s] 37))
  have q0 := new_cell w #[.int .i64 t, .int .i64 s] 37 0
  have q1 := new_cell w #[.int .i64 t, .int .i64 s] 37 1
  simp only [List.getElem?_toArray, List.getElem?_cons_zero, List.getElem?_cons_succ] at q0 q1
  obtain ⟨w0, hw0⟩ : ∃ w0, w0 = w.alloc (.cells #[.int .i64 t, .int .i64 s] 37) := ⟨_, rfl⟩
  rw [← hw0] at B00 q0 q1
  have HW0 := Lib.hid hw0
  clear hw0
  by_cases h60 : 60 < n
  case pos =>
    go_enter Try.func9, Try.ntmps9
    go_wp2_with fail
    rw [← HW0.out]
    go_quiet (fail)
    go_wp2_with fail
    refine (awake_any _).mono ?_
    rintro x w2 ⟨rfl, hb0⟩
    have B1 := Lib.hid (bel_tr (below_drewN B00.out _) hb0 (Nat.le_refl _))
    clear hb0
    go_wp2_with fail
    go_ret
    exact ⟨rfl, B1.out⟩
  have hn : n ≤ 60 := by omega
  clear h60
  by_cases hE : neE n g bike t s = 0 ∨ neE n g bike t s = 10
  case neg =>
    have qE : (neE n g bike t s != 0) = true := by simp; omega
    have qE2 : (neE n g bike t s != 10) = true := by simp; omega
    have HT := Lib.hid (show neT n g bike t s = 0 from if_neg (fun h => hE (.inl h)))
    clear hE
    go_enter Try.func9, Try.ntmps9
    go_wp2_with fail
    rw [← HW0.out]
    go_quiet (fail)
    go_wp2_with fail
    refine (next21 A n c g bike t s _ ((Hr.out.bel B00.out).drewN _) m1 hnc).mono ?_
    rw [HT.out]
    rintro x w1 ⟨rfl, hb0⟩
    have B1 := Lib.hid (bel_tr (below_drewN B00.out _) hb0 (Nat.le_refl _))
    clear hb0
    go_wp2_with fail
    refine (awake_any _).mono ?_
    rintro x w2 ⟨rfl, hb0⟩
    have B2 := Lib.hid (bel_tr B1.out hb0 (Nat.le_refl _))
    clear hb0
    go_wp2_with fail
    go_ret
    exact ⟨rfl, B2.out⟩
  obtain ⟨ok, t0, t1, s0, s1, h0, h10⟩ := neE_ok hE
  have Hd := Lib.hid (fun i (hi : i < n) => (ok.rng i hi).2.2.2.2.2.2.2.1)
  have Hok := Lib.hid ok
  have spec := nextX_spec n g bike t s
  have hX := spec.ge
  have wr1 : IntKind.i64.wrap (4294944000 - s) = 4294944000 - s := IntWalk.i64_in _ (by omega)
  have wr2 : IntKind.i64.wrap (4294944001 - s) = 4294944001 - s := IntWalk.i64_in _ (by omega)
  have hcs : ∃ (N9 EN E : Int) (b0 : Bool), Hid (neT n g bike t s = N9 ∧ neE n g bike t s = E) ∧ Hid (∀ y, t ≤ y → y < EN → clrB n g bike y s = false) ∧ Hid (b0 = false → ∃ i, i < n ∧ g i 1 = bike ∧ g i 4 = N9) ∧
      ((E = 0 ∧ N9 = EN ∧ clrB n g bike N9 s = true ∧ N9 ≤ 4294944000 - s ∧ t ≤ N9 ∧ (N9 == t) = b0) ∨ (E = 10 ∧ EN = 4294944001 - s ∧ b0 = true)) := by
    rcases hE with hE | hE
    · refine ⟨nextX n g bike t s, nextX n g bike t s, 0, (nextX n g bike t s == t), Lib.hid ⟨if_pos hE, hE⟩, Lib.hid (fun y y1 y2 => clr_false Hd.out s0 y1 y2), Lib.hid (fun hb => ?_), .inl ⟨rfl, rfl, (clrB_iff Hd.out s0).2 spec.clr, by have := h0 hE; omega, hX, rfl⟩⟩
      rcases spec.end_ with he | he
      · rw [he] at hb; simp at hb
      · exact he
    · exact ⟨0, 4294944001 - s, 10, true, Lib.hid ⟨if_neg (by omega), hE⟩, Lib.hid (fun y y1 y2 => clr_false Hd.out s0 y1 (by have := h10 hE; omega)), Lib.hid (fun hb => by cases hb), .inr ⟨rfl, rfl, rfl⟩⟩
  clear hE ok h0 h10 spec hX
  obtain ⟨N9, EN, E, b0, HV, HL, HB, hcs⟩ := hcs
  have hcs2 : (E = 0 ∧ N9 = EN ∧ clrB n g bike N9 s = true ∧ N9 ≤ 4294944000 - s ∧ N9 = t ∧ b0 = true) ∨ (E = 0 ∧ N9 = EN ∧ clrB n g bike N9 s = true ∧ N9 ≤ 4294944000 - s ∧ t < N9 ∧ b0 = false) ∨ (E = 10 ∧ EN = 4294944001 - s ∧ b0 = true ∧ t < EN) ∨ (E = 10 ∧ EN = 4294944001 - s ∧ b0 = true ∧ EN ≤ t) := by
    rcases hcs with ⟨a1, a2, a3, a4, a5, a6⟩ | ⟨a1, a2, a3⟩
    · by_cases he : N9 = t
      · exact .inl ⟨a1, a2, a3, a4, he, by rw [← a6, he]; simp⟩
      · exact .inr (.inl ⟨a1, a2, a3, a4, by omega, by rw [← a6]; simpa using he⟩)
    · by_cases he : t < EN
      · exact .inr (.inr (.inl ⟨a1, a2, a3, he⟩))
      · exact .inr (.inr (.inr ⟨a1, a2, a3, by omega⟩))
  clear hcs
  rcases hcs2 with ⟨rfl, rfl, a3, a4, a5, rfl⟩ | ⟨rfl, rfl, a3, a4, a5, rfl⟩ | ⟨rfl, rfl, rfl, a4⟩ | ⟨rfl, rfl, rfl, a4⟩
  · have a6 := a5.symm
    subst a6
    have QC := Lib.hid a3
    clear a3
    go_enter Try.func9, Try.ntmps9
    go_wp2_with fail
    rw [← HW0.out]
    go_quiet (fail)
    go_wp2_with fail
    refine (next21 A n c g bike t s _ ((Hr.out.bel B00.out).drewN _) m1 hnc).mono ?_
    rw [HV.out.1, HV.out.2]
    rintro x w1 ⟨rfl, hb0⟩
    have B1 := Lib.hid (bel_tr (below_drewN B00.out _) hb0 (Nat.le_refl _))
    clear hb0
    go_wp2_with fail
    refine (clear23 A n c g bike t s _ (Hr.out.bel B1.out) m1 (by omega) (by omega)).mono ?_
    rw [QC.out]
    rintro x w3 ⟨rfl, hb0⟩
    have B1' := Lib.hid (bel_tr B1.out hb0 (Nat.le_refl _))
    clear hb0 B1
    have B1 := B1'
    clear B1'
    go_wp2_with fail
    go_loopw [13, 12] (fun i m wr => ∃ (k : Nat) (bg : Bool), k ≤ n ∧ i = .int .i64 k ∧ m = .bool bg ∧ Hid (BegP bg true g bike t k) ∧ Hid (Below w.heap.size w wr)) (fun i _ _ => n - (intOf i).toNat)
    case atStart => exact ⟨0, true, by omega, rfl, rfl, Lib.hid (beg_t _ _ _ _ _), B1⟩
    case round =>
      obtain ⟨k, bg, hk, rfl, rfl, HG, Hb⟩ := hrel
      by_cases hlt : k < n
      case neg =>
        have hkn : k = n := by omega
        subst hkn
        have hbg : bg = true := by
          rcases HG.out with h | ⟨h1, h2⟩
          · exact h
          · obtain ⟨i, hi, e⟩ := HB.out (by first | exact h1 | trivial)
            exact absurd e (h2 i hi)
        subst hbg
        have hltI : ¬ (k : Int) < (k : Int) := by omega
        go_wp2_with fail
        refine (awake_any _).mono ?_
        rintro x w9 ⟨rfl, hb0⟩
        have B9 := Lib.hid (bel_tr Hb.out hb0 (Nat.le_refl _))
        clear hb0
        go_wp2_with fail
        go_ret
        exact ⟨by first | rfl | simp, B9.out⟩
      obtain ⟨b, o, rfl, hbw⟩ := Hr.out.at_ (by omega)
      have HRr := Lib.hid (Hr.out.bel Hb.out)
      obtain ⟨r0, r1, r2, r3, r4⟩ := HRr.out.row k hlt
      have hltI : (k : Int) < (n : Int) := by omega
      have hg4 : g k 4 ≤ 4294944000 := (Hok.out.rng k hlt).2.2.2.2.2.2.2.2
      by_cases hbk : g k 1 = bike
      case neg =>
        have q2 : (g k 1 != bike) = true := by simpa using hbk
        have HG2 := Lib.hid (HG.out.skip hbk)
        clear hbk
        go_wp2_with fail
        go_roundw
        case rel => exact ⟨k + 1, bg, by omega, by go_num, rfl, HG2, Hb⟩
        case measure => simp [intOf]; omega
      have q2 : (g k 1 != bike) = false := by simpa using hbk
      obtain ⟨b1, hcg, hG2⟩ := HG.out.next
      have HG2 := Lib.hid hG2
      clear hG2
      clear hbk
      have hcu : g k 4 < t ∨ (t ≤ g k 4 ∧ t ≤ g k 4) ∨ (t ≤ g k 4 ∧ g k 4 < t) := by omega
      rcases hcg with ⟨g1, g2⟩ | ⟨g1, g2⟩
      all_goals
        subst g1
        first | (subst g2) | skip
        rcases hcu with u1 | ⟨u1, u2⟩ | ⟨u1, u2⟩
        · go_wp2_with fail
          go_roundw
          case rel => exact ⟨k + 1, _, by omega, by go_num, rfl, HG2, Hb⟩
          case measure => simp [intOf]; omega
        · go_wp2_with fail
          go_roundw
          case rel => exact ⟨k + 1, _, by omega, by go_num, rfl, HG2, Hb⟩
          case measure => simp [intOf]; omega
        · exfalso; omega
  · have QC := Lib.hid a3
    have QT := Lib.hid (HL.out t (Int.le_refl _) a5)
    have qn : (N9 == t) = false := by simp; omega
    clear a3
    go_enter Try.func9, Try.ntmps9
    go_wp2_with fail
    rw [← HW0.out]
    go_quiet (fail)
    go_wp2_with fail
    refine (next21 A n c g bike t s _ ((Hr.out.bel B00.out).drewN _) m1 hnc).mono ?_
    rw [HV.out.1, HV.out.2]
    rintro x w1 ⟨rfl, hb0⟩
    have B1 := Lib.hid (bel_tr (below_drewN B00.out _) hb0 (Nat.le_refl _))
    clear hb0
    go_wp2_with fail
    refine (clear23 A n c g bike N9 s _ (Hr.out.bel B1.out) m1 (by omega) (by omega)).mono ?_
    rw [QC.out]
    rintro x w3 ⟨rfl, hb0⟩
    have B1' := Lib.hid (bel_tr B1.out hb0 (Nat.le_refl _))
    clear hb0 B1
    have B1 := B1'
    clear B1'
    go_wp2_with fail
    refine (clear23 A n c g bike t s _ (Hr.out.bel B1.out) m1 (by omega) (by omega)).mono ?_
    rw [QT.out]
    rintro x w3 ⟨rfl, hb0⟩
    have B1' := Lib.hid (bel_tr B1.out hb0 (Nat.le_refl _))
    clear hb0 B1
    have B1 := B1'
    clear B1'
    go_wp2_with fail
    go_loopw [13, 12] (fun i m wr => ∃ (k : Nat) (bg : Bool), k ≤ n ∧ i = .int .i64 k ∧ m = .bool bg ∧ Hid (BegP bg false g bike N9 k) ∧ Hid (Below w.heap.size w wr)) (fun i _ _ => n - (intOf i).toNat)
    case atStart => exact ⟨0, false, by omega, rfl, rfl, Lib.hid (beg_0 _ _ _), B1⟩
    case round =>
      obtain ⟨k, bg, hk, rfl, rfl, HG, Hb⟩ := hrel
      by_cases hlt : k < n
      case neg =>
        have hkn : k = n := by omega
        subst hkn
        have hbg : bg = true := by
          rcases HG.out with h | ⟨h1, h2⟩
          · exact h
          · obtain ⟨i, hi, e⟩ := HB.out (by first | exact h1 | trivial)
            exact absurd e (h2 i hi)
        subst hbg
        have hltI : ¬ (k : Int) < (k : Int) := by omega
        go_wp2_with fail
        refine (awake_any _).mono ?_
        rintro x w9 ⟨rfl, hb0⟩
        have B9 := Lib.hid (bel_tr Hb.out hb0 (Nat.le_refl _))
        clear hb0
        go_wp2_with fail
        go_ret
        exact ⟨by first | rfl | simp, B9.out⟩
      obtain ⟨b, o, rfl, hbw⟩ := Hr.out.at_ (by omega)
      have HRr := Lib.hid (Hr.out.bel Hb.out)
      obtain ⟨r0, r1, r2, r3, r4⟩ := HRr.out.row k hlt
      have hltI : (k : Int) < (n : Int) := by omega
      have hg4 : g k 4 ≤ 4294944000 := (Hok.out.rng k hlt).2.2.2.2.2.2.2.2
      by_cases hbk : g k 1 = bike
      case neg =>
        have q2 : (g k 1 != bike) = true := by simpa using hbk
        have HG2 := Lib.hid (HG.out.skip hbk)
        clear hbk
        go_wp2_with fail
        go_roundw
        case rel => exact ⟨k + 1, bg, by omega, by go_num, rfl, HG2, Hb⟩
        case measure => simp [intOf]; omega
      have q2 : (g k 1 != bike) = false := by simpa using hbk
      obtain ⟨b1, hcg, hG2⟩ := HG.out.next
      have HG2 := Lib.hid hG2
      clear hG2
      clear hbk
      have hcu : g k 4 < t ∨ (t ≤ g k 4 ∧ N9 ≤ g k 4) ∨ (t ≤ g k 4 ∧ g k 4 < N9) := by omega
      rcases hcg with ⟨g1, g2⟩ | ⟨g1, g2⟩
      all_goals
        subst g1
        first | (subst g2) | skip
        rcases hcu with u1 | ⟨u1, u2⟩ | ⟨u1, u2⟩
        · go_wp2_with fail
          go_roundw
          case rel => exact ⟨k + 1, _, by omega, by go_num, rfl, HG2, Hb⟩
          case measure => simp [intOf]; omega
        · go_wp2_with fail
          go_roundw
          case rel => exact ⟨k + 1, _, by omega, by go_num, rfl, HG2, Hb⟩
          case measure => simp [intOf]; omega
        · have HQ := Lib.hid (HL.out (g k 4) u1 u2)
          go_wp2_with fail
          refine (clear23 (some ⟨b, o, none⟩) n c g bike (g k 4) s _ HRr.out m1 (by omega) (by omega)).mono ?_
          rw [HQ.out]
          rintro x w5 ⟨rfl, hb0⟩
          have B5 := Lib.hid (bel_tr Hb.out hb0 (Nat.le_refl _))
          clear hb0
          go_wp2_with fail
          go_roundw
          case rel => exact ⟨k + 1, _, by omega, by go_num, rfl, HG2, B5⟩
          case measure => simp [intOf]; omega
  · have QT := Lib.hid (HL.out t (Int.le_refl _) a4)
    cases hq : (N9 == t)
    all_goals
      go_enter Try.func9, Try.ntmps9
      go_wp2_with fail
      rw [← HW0.out]
      go_quiet (fail)
      go_wp2_with fail
      refine (next21 A n c g bike t s _ ((Hr.out.bel B00.out).drewN _) m1 hnc).mono ?_
      rw [HV.out.1, HV.out.2]
      rintro x w1 ⟨rfl, hb0⟩
      have B1 := Lib.hid (bel_tr (below_drewN B00.out _) hb0 (Nat.le_refl _))
      clear hb0
      go_wp2_with fail
      refine (clear23 A n c g bike t s _ (Hr.out.bel B1.out) m1 (by omega) (by omega)).mono ?_
      rw [QT.out]
      rintro x w3 ⟨rfl, hb0⟩
      have B1' := Lib.hid (bel_tr B1.out hb0 (Nat.le_refl _))
      clear hb0 B1
      have B1 := B1'
      clear B1'
      go_wp2_with fail
      go_loopw [13, 12] (fun i m wr => ∃ (k : Nat) (bg : Bool), k ≤ n ∧ i = .int .i64 k ∧ m = .bool bg ∧ Hid (BegP bg true g bike N9 k) ∧ Hid (Below w.heap.size w wr)) (fun i _ _ => n - (intOf i).toNat)
      case atStart => exact ⟨0, true, by omega, rfl, rfl, Lib.hid (beg_t _ _ _ _ _), B1⟩
      case round =>
        obtain ⟨k, bg, hk, rfl, rfl, HG, Hb⟩ := hrel
        by_cases hlt : k < n
        case neg =>
          have hkn : k = n := by omega
          subst hkn
          have hbg : bg = true := by
            rcases HG.out with h | ⟨h1, h2⟩
            · exact h
            · obtain ⟨i, hi, e⟩ := HB.out (by first | exact h1 | trivial)
              exact absurd e (h2 i hi)
          subst hbg
          have hltI : ¬ (k : Int) < (k : Int) := by omega
          go_wp2_with fail
          refine (awake_any _).mono ?_
          rintro x w9 ⟨rfl, hb0⟩
          have B9 := Lib.hid (bel_tr Hb.out hb0 (Nat.le_refl _))
          clear hb0
          go_wp2_with fail
          go_ret
          exact ⟨by first | rfl | simp, B9.out⟩
        obtain ⟨b, o, rfl, hbw⟩ := Hr.out.at_ (by omega)
        have HRr := Lib.hid (Hr.out.bel Hb.out)
        obtain ⟨r0, r1, r2, r3, r4⟩ := HRr.out.row k hlt
        have hltI : (k : Int) < (n : Int) := by omega
        have hg4 : g k 4 ≤ 4294944000 := (Hok.out.rng k hlt).2.2.2.2.2.2.2.2
        by_cases hbk : g k 1 = bike
        case neg =>
          have q2 : (g k 1 != bike) = true := by simpa using hbk
          have HG2 := Lib.hid (HG.out.skip hbk)
          clear hbk
          go_wp2_with fail
          go_roundw
          case rel => exact ⟨k + 1, bg, by omega, by go_num, rfl, HG2, Hb⟩
          case measure => simp [intOf]; omega
        have q2 : (g k 1 != bike) = false := by simpa using hbk
        obtain ⟨b1, hcg, hG2⟩ := HG.out.next
        have HG2 := Lib.hid hG2
        clear hG2
        clear hbk
        have hcu : g k 4 < t ∨ (t ≤ g k 4 ∧ (4294944001 - s) ≤ g k 4) ∨ (t ≤ g k 4 ∧ g k 4 < (4294944001 - s)) := by omega
        rcases hcg with ⟨g1, g2⟩ | ⟨g1, g2⟩
        all_goals
          subst g1
          first | (subst g2) | skip
          rcases hcu with u1 | ⟨u1, u2⟩ | ⟨u1, u2⟩
          · go_wp2_with fail
            go_roundw
            case rel => exact ⟨k + 1, _, by omega, by go_num, rfl, HG2, Hb⟩
            case measure => simp [intOf]; omega
          · go_wp2_with fail
            go_roundw
            case rel => exact ⟨k + 1, _, by omega, by go_num, rfl, HG2, Hb⟩
            case measure => simp [intOf]; omega
          · have HQ := Lib.hid (HL.out (g k 4) u1 u2)
            go_wp2_with fail
            refine (clear23 (some ⟨b, o, none⟩) n c g bike (g k 4) s _ HRr.out m1 (by omega) (by omega)).mono ?_
            rw [HQ.out]
            rintro x w5 ⟨rfl, hb0⟩
            have B5 := Lib.hid (bel_tr Hb.out hb0 (Nat.le_refl _))
            clear hb0
            go_wp2_with fail
            go_roundw
            case rel => exact ⟨k + 1, _, by omega, by go_num, rfl, HG2, B5⟩
            case measure => simp [intOf]; omega
  · cases hq : (N9 == t)
    all_goals
      go_enter Try.func9, Try.ntmps9
      go_wp2_with fail
      rw [← HW0.out]
      go_quiet (fail)
      go_wp2_with fail
      refine (next21 A n c g bike t s _ ((Hr.out.bel B00.out).drewN _) m1 hnc).mono ?_
      rw [HV.out.1, HV.out.2]
      rintro x w1 ⟨rfl, hb0⟩
      have B1 := Lib.hid (bel_tr (below_drewN B00.out _) hb0 (Nat.le_refl _))
      clear hb0
      go_wp2_with fail
      go_loopw [13, 12] (fun i m wr => ∃ (k : Nat) (bg : Bool), k ≤ n ∧ i = .int .i64 k ∧ m = .bool bg ∧ Hid (BegP bg true g bike N9 k) ∧ Hid (Below w.heap.size w wr)) (fun i _ _ => n - (intOf i).toNat)
      case atStart => exact ⟨0, true, by omega, rfl, rfl, Lib.hid (beg_t _ _ _ _ _), B1⟩
      case round =>
        obtain ⟨k, bg, hk, rfl, rfl, HG, Hb⟩ := hrel
        by_cases hlt : k < n
        case neg =>
          have hkn : k = n := by omega
          subst hkn
          have hbg : bg = true := by
            rcases HG.out with h | ⟨h1, h2⟩
            · exact h
            · obtain ⟨i, hi, e⟩ := HB.out (by first | exact h1 | trivial)
              exact absurd e (h2 i hi)
          subst hbg
          have hltI : ¬ (k : Int) < (k : Int) := by omega
          go_wp2_with fail
          refine (awake_any _).mono ?_
          rintro x w9 ⟨rfl, hb0⟩
          have B9 := Lib.hid (bel_tr Hb.out hb0 (Nat.le_refl _))
          clear hb0
          go_wp2_with fail
          go_ret
          exact ⟨by first | rfl | simp, B9.out⟩
        obtain ⟨b, o, rfl, hbw⟩ := Hr.out.at_ (by omega)
        have HRr := Lib.hid (Hr.out.bel Hb.out)
        obtain ⟨r0, r1, r2, r3, r4⟩ := HRr.out.row k hlt
        have hltI : (k : Int) < (n : Int) := by omega
        have hg4 : g k 4 ≤ 4294944000 := (Hok.out.rng k hlt).2.2.2.2.2.2.2.2
        by_cases hbk : g k 1 = bike
        case neg =>
          have q2 : (g k 1 != bike) = true := by simpa using hbk
          have HG2 := Lib.hid (HG.out.skip hbk)
          clear hbk
          go_wp2_with fail
          go_roundw
          case rel => exact ⟨k + 1, bg, by omega, by go_num, rfl, HG2, Hb⟩
          case measure => simp [intOf]; omega
        have q2 : (g k 1 != bike) = false := by simpa using hbk
        obtain ⟨b1, hcg, hG2⟩ := HG.out.next
        have HG2 := Lib.hid hG2
        clear hG2
        clear hbk
        have hcu : g k 4 < t ∨ (t ≤ g k 4 ∧ (4294944001 - s) ≤ g k 4) ∨ (t ≤ g k 4 ∧ g k 4 < (4294944001 - s)) := by omega
        rcases hcg with ⟨g1, g2⟩ | ⟨g1, g2⟩
        all_goals
          subst g1
          first | (subst g2) | skip
          rcases hcu with u1 | ⟨u1, u2⟩ | ⟨u1, u2⟩
          · go_wp2_with fail
            go_roundw
            case rel => exact ⟨k + 1, _, by omega, by go_num, rfl, HG2, Hb⟩
            case measure => simp [intOf]; omega
          · go_wp2_with fail
            go_roundw
            case rel => exact ⟨k + 1, _, by omega, by go_num, rfl, HG2, Hb⟩
            case measure => simp [intOf]; omega
          · exfalso; omega
end Go.Proofs.Ytmfkkmonedgdnaa
