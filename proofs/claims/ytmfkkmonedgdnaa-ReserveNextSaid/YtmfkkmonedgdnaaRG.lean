/- The walks of Clear and of Next of the program. -/
import Derived.Test.YtmfkkmonedgdnaaRF
import Derived.Test.YtmfkkmonedgdnaaRM3
namespace Go.Proofs.Ytmfkkmonedgdnaa
open Go.RowKit
set_option maxHeartbeats 4000000
set_option maxRecDepth 100000
set_option linter.unusedVariables false

theorem clear23 (A : Option Addr) (n c : Nat) (g : Nat → Nat → Int) (bike t s : Int) (w : World) (hr : FlatRd w A n 5 g) (m1 : n ≤ 9223372036854775807) (h0 : -9223372036854775808 ≤ t + s) (h1 : t + s ≤ 9223372036854775807) :
    Calls Try.prog 23 #[.slice A n c, .int .i64 bike, .int .i64 t, .int .i64 s] w fun x w' => x = .returned (.bool (clrB n g bike t s)) ∧ Below w.heap.size w w' := by
  have Hr := Lib.hid hr
  clear hr
  have hw : IntKind.i64.wrap (t + s) = t + s := IntWalk.i64_in _ (by omega)
  go_enter Try.func23, Try.ntmps23
  go_wp2_with fail
  go_loopw [9] (fun i wr => ∃ k : Nat, k ≤ n ∧ i = .int .i64 k ∧ Hid (∀ i, i < k → ¬ (g i 1 = bike ∧ max (g i 3) t < min (g i 4) (t + s))) ∧ Hid (Below w.heap.size w wr)) (fun i _ => n - (intOf i).toNat)
  case atStart => exact ⟨0, by omega, rfl, Lib.hid (fun i hi => absurd hi (by omega)), Lib.hid (Below.refl _ _)⟩
  case round =>
    obtain ⟨k, hk, rfl, Hs, Hb⟩ := hrel
    by_cases hlt : k < n
    case neg =>
      have HN := Lib.hid (clrB_t (n := n) (fun i hi => Hs.out i (by omega)))
      have hltI : ¬ (k : Int) < (n : Int) := by omega
      go_wp2_with fail
      go_ret
      exact ⟨ret_bool HN.out.symm, Hb.out⟩
    obtain ⟨b, o, rfl, hbw⟩ := Hr.out.at_ (by omega)
    have HR := Lib.hid (Hr.out.bel Hb.out)
    obtain ⟨r0, r1, r2, r3, r4⟩ := HR.out.row k hlt
    have hltI : (k : Int) < (n : Int) := by omega
    by_cases hh : g k 1 = bike ∧ max (g k 3) t < min (g k 4) (t + s)
    · have HN := Lib.hid (clrB_f hlt hh)
      have q1 : (g k 1 == bike) = true := by simpa using hh.1
      have q2 : decide (max (g k 3) t < min (g k 4) (t + s)) = true := decide_eq_true hh.2
      clear hh
      go_wp2_with fail
      go_quiet (fail)
      go_wp2_with fail
      go_ret
      exact ⟨ret_bool HN.out.symm, below_drewN Hb.out _⟩
    · have HN : Hid (∀ i, i < k + 1 → ¬ (g i 1 = bike ∧ max (g i 3) t < min (g i 4) (t + s))) := Lib.hid (fun i hi => by
        by_cases hik : i = k
        · subst hik; exact hh
        · exact Hs.out i (by omega))
      have hc : (g k 1 == bike) = false ∨ ((g k 1 == bike) = true ∧ decide (max (g k 3) t < min (g k 4) (t + s)) = false) := by
        by_cases h1 : g k 1 = bike
        · exact .inr ⟨by simpa using h1, decide_eq_false (fun h2 => hh ⟨h1, h2⟩)⟩
        · exact .inl (by simpa using h1)
      clear hh
      rcases hc with q1 | ⟨q1, q2⟩
      all_goals
        go_wp2_with fail
        go_quiet (fail)
        go_wp2_with fail
        go_roundw
        case rel => exact ⟨k + 1, by omega, by go_num, HN, Lib.hid (below_drewN Hb.out _)⟩
        case measure => simp [intOf]; omega

/-- what the inner loop of Next has found: the round began at x, now it is at y -/
structure Inn (n : Nat) (g : Nat → Nat → Int) (bike t s x y : Int) (moved : Bool) (r : Nat) : Prop where
  rch : Reach n g bike t s y
  le : x ≤ y
  hi : y ≤ 4294944000
  mv : moved = true → x < y
  st : moved = false → y = x ∧ ∀ i, i < r → ¬ mt g bike x s i
theorem Inn.stay {n : Nat} {g : Nat → Nat → Int} {bike t s x y : Int} {moved : Bool} {r : Nat} (h : Inn n g bike t s x y moved r) (hm : ¬ mt g bike y s r) : Inn n g bike t s x y moved (r + 1) :=
  ⟨h.rch, h.le, h.hi, h.mv, fun hf => ⟨(h.st hf).1, fun i hi => by
    by_cases hir : i = r
    · subst hir; rw [← (h.st hf).1]; exact hm
    · exact (h.st hf).2 i (by omega)⟩⟩
theorem Inn.move {n : Nat} {g : Nat → Nat → Int} {bike t s x y : Int} {moved : Bool} {r : Nat} (h : Inn n g bike t s x y moved r) (hr : r < n) (hm : mt g bike y s r) (hi : g r 4 ≤ 4294944000) : Inn n g bike t s x (g r 4) true (r + 1) :=
  ⟨h.rch.step hr hm, by have := hm.2.2; have := h.le; omega, hi, fun _ => by have := hm.2.2; have := h.le; omega, fun hf => by cases hf⟩

def movN : Value → Nat
  | .bool true => 1
  | _ => 0
theorem next21 (A : Option Addr) (n c : Nat) (g : Nat → Nat → Int) (bike t s : Int) (w : World) (hr : FlatRd w A n 5 g) (m1 : n ≤ 9223372036854775807) (hnc : n ≤ c) :
    Calls Try.prog 21 #[.slice A n c, .int .i64 bike, .int .i64 t, .int .i64 s] w fun x w' => x = .returned (.tuple #[.int .i64 (neT n g bike t s), .int .i64 (neE n g bike t s)]) ∧ Below w.heap.size w w' := by
  have Hr := Lib.hid hr
  clear hr
  by_cases hc : chkH n g = 0
  case neg =>
    have HE := Lib.hid (show neE n g bike t s = chkH n g from if_neg hc)
    have HT := Lib.hid (show neT n g bike t s = 0 by unfold neT; rw [HE.out]; exact if_neg hc)
    have qc : (chkH n g != 0) = true := by simpa using hc
    clear hc
    go_enter Try.func21, Try.ntmps21
    go_wp2_with fail
    refine (check14 A n c g w Hr.out m1 hnc).mono ?_
    rintro x w1 ⟨rfl, hb0⟩
    have B1 := Lib.hid hb0
    clear hb0
    go_wp2_with fail
    go_ret2
    exact ⟨by rw [HE.out, HT.out]; rfl, B1.out⟩
  have Hok := Lib.hid (chkH_ok hc)
  have HC := Lib.hid hc
  by_cases hb : bike < 0 ∨ 128 ≤ bike
  case pos =>
    have HE := Lib.hid (show neE n g bike t s = 7 by unfold neE; rw [if_pos hc, if_pos hb])
    have HT := Lib.hid (show neT n g bike t s = 0 by unfold neT; rw [HE.out]; rfl)
    have hb2 : bike < 0 ∨ (0 ≤ bike ∧ 128 ≤ bike) := by omega
    clear hc hb
    rcases hb2 with hb | ⟨hb, hb3⟩
    all_goals
      go_enter Try.func21, Try.ntmps21
      go_wp2_with fail
      refine (check14 A n c g w Hr.out m1 hnc).mono ?_
      rw [HC.out]
      rintro x w1 ⟨rfl, hb0⟩
      have B1 := Lib.hid hb0
      clear hb0
      go_wp2_with fail
      go_ret2
      exact ⟨by rw [HE.out, HT.out]; rfl, B1.out⟩
  have hb1 : 0 ≤ bike := by omega
  have hb2 : bike < 128 := by omega
  by_cases ht : t < 0 ∨ 4294943999 < t ∨ s < 1 ∨ 86400 < s
  case pos =>
    have HE := Lib.hid (show neE n g bike t s = 1 by unfold neE; rw [if_pos hc, if_neg hb, if_pos ht])
    have HT := Lib.hid (show neT n g bike t s = 0 by unfold neT; rw [HE.out]; rfl)
    have ht2 : t < 0 ∨ (0 ≤ t ∧ 4294943999 < t) ∨ (0 ≤ t ∧ t ≤ 4294943999 ∧ s < 1) ∨ (0 ≤ t ∧ t ≤ 4294943999 ∧ 1 ≤ s ∧ 86400 < s) := by omega
    clear hc hb ht
    rcases ht2 with t1 | ⟨t1, t2⟩ | ⟨t1, t2, t3⟩ | ⟨t1, t2, t3, t4⟩
    all_goals
      go_enter Try.func21, Try.ntmps21
      go_wp2_with fail
      refine (check14 A n c g w Hr.out m1 hnc).mono ?_
      rw [HC.out]
      rintro x w1 ⟨rfl, hb0⟩
      have B1 := Lib.hid hb0
      clear hb0
      go_wp2_with fail
      go_ret2
      exact ⟨by rw [HE.out, HT.out]; rfl, B1.out⟩
  have HX : Hid (neE n g bike t s = if 4294944000 < nextX n g bike t s + s then 10 else 0) := Lib.hid (by unfold neE; rw [if_pos hc, if_neg hb, if_neg ht])
  have t1 : 0 ≤ t := by omega
  have t2 : t ≤ 4294943999 := by omega
  have t3 : 1 ≤ s := by omega
  have t4 : s ≤ 86400 := by omega
  clear hc hb ht
  have hn : n ≤ 512 := Hok.out.len
  go_enter Try.func21, Try.ntmps21
  go_wp2_with fail
  refine (check14 A n c g w Hr.out m1 hnc).mono ?_
  rw [HC.out]
  rintro x w1 ⟨rfl, hb0⟩
  have B1 := Lib.hid hb0
  clear hb0
  go_wp2_with fail
  go_loopw [11, 2] (fun m y wr => ∃ (mv : Bool) (u : Int), m = .bool mv ∧ y = .int .i64 u ∧ u ≤ 4294944000 ∧ Hid (Reach n g bike t s u) ∧ Hid (mv = false → clrP n g bike u s) ∧ Hid (Below w.heap.size w wr)) (fun m y _ => 2 * (4294944000 - intOf y).toNat + movN m)
  case atStart => exact ⟨true, t, rfl, rfl, by omega, Lib.hid (Reach.start n g bike t s), Lib.hid (fun h => by cases h), B1⟩
  case round =>
    obtain ⟨mv, u, rfl, rfl, hu, HR0, HC0, Hb⟩ := hrel
    cases mv with
    | false =>
      have HN := Lib.hid (nextX_eq (HR0.out.next (HC0.out rfl)))
      have hu0 := HR0.out.ge
      have hw : IntKind.i64.wrap (u + s) = u + s := IntWalk.i64_in _ (by omega)
      by_cases he : 4294944000 < u + s
      · have HE := Lib.hid (show neE n g bike t s = 10 by rw [HX.out, HN.out, if_pos he])
        have HT := Lib.hid (show neT n g bike t s = 0 by unfold neT; rw [HE.out]; rfl)
        go_wp2_with fail
        go_ret2
        exact ⟨by rw [HE.out, HT.out]; rfl, Hb.out⟩
      · have HE := Lib.hid (show neE n g bike t s = 0 by rw [HX.out, HN.out, if_neg he])
        have HT := Lib.hid (show neT n g bike t s = u by unfold neT; rw [HE.out, HN.out]; rfl)
        go_wp2_with fail
        go_ret2
        exact ⟨by rw [HE.out, HT.out]; rfl, Hb.out⟩
    | true =>
      obtain ⟨wo, hwo⟩ : ∃ wo, wo = wr := ⟨_, rfl⟩
      subst hwo
      have Hbo := Hb
      have hu0 := HR0.out.ge
      have HI0 := Lib.hid (show Inn n g bike t s u u false 0 from ⟨HR0.out, Int.le_refl _, hu, fun h => (by cases h), fun _ => ⟨rfl, fun i hi => absurd hi (by omega)⟩⟩)
      clear Hb HC0
      go_wp2_with fail
      go_loopw [42, 2, 11] (fun i y m wr => ∃ (r : Nat) (v : Int) (mv : Bool), r ≤ n ∧ i = .int .i64 r ∧ y = .int .i64 v ∧ m = .bool mv ∧ Hid (Inn n g bike t s u v mv r) ∧ Hid (Below w.heap.size w wr)) (fun i _ _ _ => n - (intOf i).toNat)
      case atStart => exact ⟨0, u, false, by omega, rfl, rfl, rfl, HI0, Hbo⟩
      case round =>
        obtain ⟨r, v, mv, hrn, rfl, rfl, rfl, HI, Hb⟩ := hrel
        have hv0 := HI.out.rch.ge
        have hv1 := HI.out.hi
        have hv2 := HI.out.le
        by_cases hlt : r < n
        case neg =>
          have hrn2 : r = n := by omega
          subst hrn2
          have hltI : ¬ (r : Int) < (r : Int) := by omega
          cases mv with
          | true =>
            have hgt := HI.out.mv rfl
            go_wp2_with fail
            go_roundw
            case rel => exact ⟨true, v, rfl, rfl, hv1, Lib.hid HI.out.rch, Lib.hid (fun h => by cases h), Hb⟩
            case measure => simp [intOf, movN]; omega
          | false =>
            obtain ⟨hvu, hcl⟩ := HI.out.st rfl
            have HCL : Hid (clrP r g bike v s) := Lib.hid (by rw [hvu]; exact hcl)
            clear hcl
            subst hvu
            go_wp2_with fail
            go_roundw
            case rel => exact ⟨false, v, rfl, rfl, hv1, Lib.hid HI.out.rch, Lib.hid (fun _ => HCL.out), Hb⟩
            case measure => simp [intOf, movN]
        obtain ⟨b, o, rfl, hbw⟩ := Hr.out.at_ (by omega)
        have HRr := Lib.hid (Hr.out.bel Hb.out)
        obtain ⟨r0, r1, r2, r3, r4⟩ := HRr.out.row r hlt
        have hltI : (r : Int) < (n : Int) := by omega
        have hg4 : g r 4 ≤ 4294944000 := (Hok.out.rng r hlt).2.2.2.2.2.2.2.2
        have hw : IntKind.i64.wrap (v + s) = v + s := IntWalk.i64_in _ (by omega)
        have B2 := Lib.hid (Hb.out.alloc Hb.out.size (.cells #[.int .i64 (g r 0), .int .i64 (g r 1), .int .i64 (g r 2), .int .i64 (g r 3), .int .i64 (g r 4)] 26))
        by_cases hbk : g r 1 = bike
        case neg =>
          have q1 : (g r 1 == bike) = false := by simpa using hbk
          have HN := Lib.hid (HI.out.stay (fun hm => hbk hm.1))
          clear hbk
          go_wp2_with fail
          go_roundw
          case rel => exact ⟨r + 1, v, mv, by omega, by go_num, rfl, rfl, HN, B2⟩
          case measure => simp [intOf]; omega
        have q1 : (g r 1 == bike) = true := by simpa using hbk
        have KH := Lib.hid (K5.new wr (g r 0) (g r 1) (g r 2) (g r 3) (g r 4) 26)
        by_cases hmt : mt g bike v s r
        · have HN := Lib.hid (HI.out.move hlt hmt hg4)
          have HQ := Lib.hid (show metB (g r 3) (g r 4) v (v + s) = true from decide_eq_true ⟨hmt.2.1, hmt.2.2⟩)
          clear hmt hbk
          go_wp2_with fail
          refine (meet30 _ _ _ _ _).mono ?_
          rw [HQ.out]
          rintro x w3 ⟨rfl, hb0⟩
          have B3 := Lib.hid (bel_tr B2.out hb0 (Nat.le_refl _))
          obtain ⟨zz, e0, e1, e2, e3, e4⟩ := KH.out.bel hb0
          clear hb0
          go_wp2_with fail
          go_roundw
          case rel => exact ⟨r + 1, g r 4, true, by omega, by go_num, rfl, rfl, HN, B3⟩
          case measure => simp [intOf]; omega
        · have HN := Lib.hid (HI.out.stay hmt)
          have HQ := Lib.hid (show metB (g r 3) (g r 4) v (v + s) = false from decide_eq_false (fun h => hmt ⟨hbk, h.1, h.2⟩))
          clear hmt hbk
          go_wp2_with fail
          refine (meet30 _ _ _ _ _).mono ?_
          rw [HQ.out]
          rintro x w3 ⟨rfl, hb0⟩
          have B3 := Lib.hid (bel_tr B2.out hb0 (Nat.le_refl _))
          clear hb0
          go_wp2_with fail
          go_roundw
          case rel => exact ⟨r + 1, v, mv, by omega, by go_num, rfl, rfl, HN, B3⟩
          case measure => simp [intOf]; omega
end Go.Proofs.Ytmfkkmonedgdnaa
