/- The walk of End of the reference. -/
import Derived.Test.YtmfkkmonedgdnaaRI
import Derived.Test.YtmfkkmonedgdnaaRJ
namespace Go.Proofs.Ytmfkkmonedgdnaa
open Go.RowKit
set_option maxHeartbeats 4000000
set_option maxRecDepth 100000
set_option linter.unusedVariables false

theorem cat_cut {g g0 : Nat → Nat → Int} {k q cnt : Nat} (hc : (q ≤ k → cnt = q) ∧ (k < q → cnt = q - 1)) (hq : q ≠ k) {i j : Nat} (hi : i < cnt + 1) (hj : j < 5) :
    catG cnt (cutG k g) (addG 0 g0 (g q 0) (g q 1) (g q 2) (g q 3) (g q 4)) i j = cutG k g i j := by
  unfold catG
  by_cases h1 : i < cnt
  · rw [if_pos h1]
  · have hic : i = cnt := by omega
    subst hic
    rw [if_neg (by omega)]
    have : cutG k g i j = g q j := by
      unfold cutG
      by_cases h2 : q ≤ k
      · rw [if_pos (by have := hc.1 h2; omega), hc.1 h2]
      · rw [if_neg (by have := hc.2 (by omega); omega), show i + 1 = q by have := hc.2 (by omega); omega]
    rw [this, Nat.sub_self]
    match j, hj with
    | 0, _ => rfl
    | 1, _ => rfl
    | 2, _ => rfl
    | 3, _ => rfl
    | 4, _ => rfl
theorem cat_to {g g0 : Nat → Nat → Int} {t e4 : Int} {k q : Nat} (he : e4 = if q = k then t else g q 4) {i j : Nat} (hi : i < q + 1) (hj : j < 5) :
    catG q (toG k g t) (addG 0 g0 (g q 0) (g q 1) (g q 2) (g q 3) e4) i j = toG k g t i j := by
  unfold catG
  by_cases h1 : i < q
  · rw [if_pos h1]
  · have hic : i = q := by omega
    subst hic
    rw [if_neg (by omega), Nat.sub_self]
    subst he
    unfold toG
    match j, hj with
    | 0, _ => simp [addG]
    | 1, _ => simp [addG]
    | 2, _ => simp [addG]
    | 3, _ => simp [addG]
    | 4, _ => simp [addG]

theorem end18 (A : Option Addr) (n c : Nat) (g : Nat → Nat → Int) (id t : Int) (w : World) (hr : FlatRd w A n 5 g) (m1 : n ≤ 9223372036854775807) :
    Calls Try.prog 18 #[.slice A n c, .int .i64 id, .int .i64 t] w (ListPost w (enN n g id t (endE n g id t)) (enG n g id t) (endE n g id t)) := by
  have Hr := Lib.hid hr
  clear hr
  by_cases hc : chkH n g = 0
  case neg =>
    have HE := Lib.hid (show endE n g id t = chkH n g from if_neg hc)
    have HN := Lib.hid (show enN n g id t (endE n g id t) = 0 by rw [HE.out]; exact if_neg hc)
    have qc : (chkH n g != 0) = true := by simpa using hc
    clear hc
    go_enter Try.func18, Try.ntmps18
    go_wp2_with fail
    refine (check15 A n c g w Hr.out m1).mono ?_
    rintro x w1 ⟨rfl, hb0⟩
    have B1 := Lib.hid hb0
    clear hb0
    go_wp2_with fail
    go_ret2
    exact ListPost.nil HN.out HE.out rfl B1.out
  have Hok := Lib.hid (chkH_ok hc)
  have HC := Lib.hid hc
  have HX : Hid (endE n g id t = if lastI (idB g id) n < 0 then 7 else if t < 0 ∨ 4294943999 < t then 1 else if g (lastI (idB g id) n).toNat 4 < t then 19 else 0) := Lib.hid (if_pos hc)
  have hn := Hok.out.len
  clear hc
  go_enter Try.func18, Try.ntmps18
  go_wp2_with fail
  refine (check15 A n c g w Hr.out m1).mono ?_
  rw [HC.out]
  rintro x w1 ⟨rfl, hb0⟩
  have B1 := Lib.hid hb0
  clear hb0
  go_wp2_with fail
  go_loopw [10, 9] (fun i m wr => ∃ (r : Nat) (a : Int), r ≤ n ∧ i = .int .i64 r ∧ m = .int .i64 a ∧ Hid (a = lastI (idB g id) r) ∧ Hid (Below w.heap.size w wr)) (fun i _ _ => n - (intOf i).toNat)
  case atStart => exact ⟨0, -1, by omega, rfl, rfl, Lib.hid rfl, B1⟩
  case round =>
    obtain ⟨r, a, hrn, rfl, rfl, HA, Hb⟩ := hrel
    by_cases hlt : r < n
    case pos =>
      obtain ⟨b, o, rfl, hbw⟩ := Hr.out.at_ (by omega)
      have HRr := Lib.hid (Hr.out.bel Hb.out)
      obtain ⟨r0, r1, r2, r3, r4⟩ := HRr.out.row r hlt
      have hltI : (r : Int) < (n : Int) := by omega
      cases hid : (g r 0 == id) with
      | true =>
        have HN := Lib.hid (show (r : Int) = lastI (idB g id) (r + 1) by rw [lastI_succ]; exact (if_pos hid).symm)
        go_wp2_with fail
        go_roundw
        case rel => exact ⟨r + 1, r, by omega, by go_num, rfl, HN, Hb⟩
        case measure => simp [intOf]; omega
      | false =>
        have HN := Lib.hid (show a = lastI (idB g id) (r + 1) by rw [lastI_succ]; exact HA.out.trans (if_neg (by show ¬ (g r 0 == id) = true; rw [hid]; decide)).symm)
        go_wp2_with fail
        go_roundw
        case rel => exact ⟨r + 1, a, by omega, by go_num, rfl, HN, Hb⟩
        case measure => simp [intOf]; omega
    have hrn2 : r = n := by omega
    subst hrn2
    have hltI : ¬ (r : Int) < (r : Int) := by omega
    have hcs := lastI_cases (idB g id) r
    have hcase : a = -1 ∨ ∃ k : Nat, a = (k : Int) ∧ k < r := by
      rw [HA.out]
      rcases hcs with ⟨h1, _⟩ | ⟨k, h1, h2, _⟩
      · exact .inl h1
      · exact .inr ⟨k, h1, h2⟩
    clear hcs
    rcases hcase with ha | ⟨k, ha, hk⟩
    · subst ha
      have HE := Lib.hid (show endE r g id t = 7 by rw [HX.out, ← HA.out]; rfl)
      have HN := Lib.hid (show enN r g id t (endE r g id t) = 0 by rw [HE.out]; rfl)
      go_wp2_with fail
      go_ret2
      exact ListPost.nil HN.out HE.out rfl Hb.out
    subst ha
    have HK : Hid ((lastI (idB g id) r).toNat = k) := Lib.hid (by rw [← HA.out]; exact Int.toNat_natCast k)
    have HX2 : Hid (endE r g id t = if t < 0 ∨ 4294943999 < t then 1 else if g k 4 < t then 19 else 0) := Lib.hid (by
      rw [HX.out, if_neg (by rw [← HA.out]; omega), HK.out])
    have hk0 : ¬ ((k : Int) < 0) := by omega
    by_cases ht : t < 0 ∨ 4294943999 < t
    · have HE := Lib.hid (show endE r g id t = 1 by rw [HX2.out, if_pos ht])
      have HN := Lib.hid (show enN r g id t (endE r g id t) = 0 by rw [HE.out]; rfl)
      have ht2 : t < 0 ∨ (0 ≤ t ∧ 4294943999 < t) := by omega
      clear ht
      rcases ht2 with t1 | ⟨t1, t2⟩
      all_goals
        go_wp2_with fail
        go_ret2
        exact ListPost.nil HN.out HE.out rfl Hb.out
    obtain ⟨b, o, rfl, hbw⟩ := Hr.out.at_ (by omega)
    have HRr := Lib.hid (Hr.out.bel Hb.out)
    obtain ⟨r0, r1, r2, r3, r4⟩ := HRr.out.row k hk
    have hkI : (k : Int) < (r : Int) := by omega
    have t1 : 0 ≤ t := by omega
    have t2 : t ≤ 4294943999 := by omega
    by_cases hl : g k 4 < t
    · have HE := Lib.hid (show endE r g id t = 19 by rw [HX2.out, if_neg ht, if_pos hl])
      have HN := Lib.hid (show enN r g id t (endE r g id t) = 0 by rw [HE.out]; rfl)
      clear ht
      go_wp2_with fail
      go_ret2
      exact ListPost.nil HN.out HE.out rfl Hb.out
    have HE := Lib.hid (show endE r g id t = 0 by rw [HX2.out, if_neg ht, if_neg hl])
    have hl2 : t ≤ g k 4 := by omega
    clear ht hl r0 r1 r2 r3 r4
    have hkI2 : (k : Int) < (r : Int) := hkI
    by_cases hf : t ≤ g k 3
    · have HG := Lib.hid (show enG r g id t = cutG k g by unfold enG; rw [HK.out, if_pos hf])
      have HN := Lib.hid (show enN r g id t (endE r g id t) = r - 1 by rw [HE.out]; unfold enN; rw [if_pos rfl, HK.out, if_pos hf])
      obtain ⟨wo, hwo⟩ : ∃ wo, wo = wr := ⟨_, rfl⟩
      subst hwo
      obtain ⟨r0, r1, r2, r3, r4⟩ := HRr.out.row k hk
      have Hbo := Hb
      go_wp2_with fail
      clear r0 r1 r2 r3 r4
      go_loopw [12, 11] (fun i m wr => ∃ (q cnt : Nat) (v : Value), q ≤ r ∧ i = .int .i64 q ∧ m = v ∧ Hid ((q ≤ k → cnt = q) ∧ (k < q → cnt = q - 1)) ∧ Hid (OwnA wr w.heap.size v cnt (cutG k g)) ∧ Hid (Below w.heap.size w wr)) (fun i _ _ => r - (intOf i).toNat)
      case atStart => exact ⟨0, 0, _, by omega, rfl, rfl, Lib.hid ⟨fun _ => rfl, fun h => by omega⟩, Lib.hid (OwnA.nil _ _ _), Hbo⟩
      case round =>
        obtain ⟨q, cnt, v, hqr, rfl, rfl, HCt, HO, Hb⟩ := hrel
        by_cases hlq : q < r
        case neg =>
          have hq2 : q = r := by omega
          subst hq2
          have hcn : cnt = q - 1 := HCt.out.2 hk
          subst hcn
          obtain ⟨A', c', rfl, hrd, hc'⟩ := HO.out.form
          have R5 := Lib.hid hrd
          clear hrd
          have hqI : ¬ (q : Int) < (q : Int) := by omega
          go_wp2_with fail
          go_ret2
          rw [HN.out, HE.out, HG.out]
          exact ListPost.mk rfl R5.out hc' Hb.out
        have HRq := Lib.hid (Hr.out.bel Hb.out)
        obtain ⟨r0, r1, r2, r3, r4⟩ := HRq.out.row q hlq
        have hlqI : (q : Int) < (r : Int) := by omega
        have hcq : cnt ≤ q := by
          by_cases h : q ≤ k
          · have := HCt.out.1 h; omega
          · have := HCt.out.2 (by omega); omega
        by_cases hqk : q = k
        · subst hqk
          have qk : ((q : Int) == (q : Int)) = true := by simp
          have HCn := Lib.hid (show (q + 1 ≤ q → cnt = q + 1) ∧ (q < q + 1 → cnt = q + 1 - 1) from ⟨fun h => by omega, fun _ => by have := HCt.out.1 (Nat.le_refl _); omega⟩)
          have B2 := Lib.hid (Hb.out.alloc Hb.out.size (.cells #[.int .i64 (g q 0), .int .i64 (g q 1), .int .i64 (g q 2), .int .i64 (g q 3), .int .i64 (g q 4)] 26))
          have O2 := Lib.hid (HO.out.alloc (.cells #[.int .i64 (g q 0), .int .i64 (g q 1), .int .i64 (g q 2), .int .i64 (g q 3), .int .i64 (g q 4)] 26))
          go_wp2_with fail
          go_roundw
          case rel => exact ⟨q + 1, cnt, _, by omega, by go_num, rfl, HCn, O2, B2⟩
          case measure => simp [intOf]; omega
        · have qk : ((q : Int) == (k : Int)) = false := by simp; omega
          have HCn := Lib.hid (show (q + 1 ≤ k → cnt + 1 = q + 1) ∧ (k < q + 1 → cnt + 1 = q + 1 - 1) from ⟨fun h => by have := HCt.out.1 (by omega); omega, fun h => by have := HCt.out.2 (by omega); omega⟩)
          have HQ := Lib.hid hqk
          clear hqk
          have HO2 := Lib.hid ((HO.out.alloc (.cells #[.int .i64 (g q 0), .int .i64 (g q 1), .int .i64 (g q 2), .int .i64 (g q 3), .int .i64 (g q 4)] 26)).alloc (.cells #[.int .i64 (g q 0), .int .i64 (g q 1), .int .i64 (g q 2), .int .i64 (g q 3), .int .i64 (g q 4)] 26))
          have HK2 := Lib.hid ((K5.newq (wr.alloc (.cells #[.int .i64 (g q 0), .int .i64 (g q 1), .int .i64 (g q 2), .int .i64 (g q 3), .int .i64 (g q 4)] 26)) (wr.heap.size + 1) (alloc_size wr _).symm (g q 0) (g q 1) (g q 2) (g q 3) (g q 4)).rd 0)
          have HZ2 : Hid (w.heap.size ≤ ((wr.alloc (.cells #[.int .i64 (g q 0), .int .i64 (g q 1), .int .i64 (g q 2), .int .i64 (g q 3), .int .i64 (g q 4)] 26)).alloc (.cells #[.int .i64 (g q 0), .int .i64 (g q 1), .int .i64 (g q 2), .int .i64 (g q 3), .int .i64 (g q 4)] 26)).heap.size) := Lib.hid (by rw [alloc_size, alloc_size]; have := Hb.out.size; omega)
          have HB2 := Lib.hid ((Hb.out.alloc Hb.out.size (.cells #[.int .i64 (g q 0), .int .i64 (g q 1), .int .i64 (g q 2), .int .i64 (g q 3), .int .i64 (g q 4)] 26)).alloc (by rw [alloc_size]; have := Hb.out.size; omega) (.cells #[.int .i64 (g q 0), .int .i64 (g q 1), .int .i64 (g q 2), .int .i64 (g q 3), .int .i64 (g q 4)] 26))
          go_wp2_with (at_builtin; refine app_list (n := cnt) (m := 1) ((wr.alloc (.cells #[.int .i64 (g q 0), .int .i64 (g q 1), .int .i64 (g q 2), .int .i64 (g q 3), .int .i64 (g q 4)] 26)).alloc (.cells #[.int .i64 (g q 0), .int .i64 (g q 1), .int .i64 (g q 2), .int .i64 (g q 3), .int .i64 (g q 4)] 26)) rfl (.tmp 75) (.tmp 77) rfl rfl HO2.out rfl HK2.out (fun h => by cases h) (by omega) HZ2.out ?_; intro v' w5 hown5 hb5 hg5; have O5 := Lib.hid hown5; have B5 := Lib.hid (HB2.out.trans hb5); clear hown5 hb5 hg5)
          go_roundw
          case rel => exact ⟨q + 1, cnt + 1, v', by omega, by go_num, rfl, Lib.hid HCn.out, Lib.hid (O5.out.congr (fun i j hi hj => cat_cut HCt.out HQ.out hi hj)), B5⟩
          case measure => simp [intOf]; omega
    · have HG := Lib.hid (show enG r g id t = toG k g t by unfold enG; rw [HK.out, if_neg hf])
      have HN := Lib.hid (show enN r g id t (endE r g id t) = r by rw [HE.out]; unfold enN; rw [if_pos rfl, HK.out, if_neg hf])
      obtain ⟨wo, hwo⟩ : ∃ wo, wo = wr := ⟨_, rfl⟩
      subst hwo
      obtain ⟨r0, r1, r2, r3, r4⟩ := HRr.out.row k hk
      have Hbo := Hb
      have hf2 : g k 3 < t := by omega
      clear hf
      go_wp2_with fail
      clear r0 r1 r2 r3 r4
      go_loopw [12, 11] (fun i m wr => ∃ (q cnt : Nat) (v : Value), q ≤ r ∧ i = .int .i64 q ∧ m = v ∧ Hid (cnt = q) ∧ Hid (OwnA wr w.heap.size v cnt (toG k g t)) ∧ Hid (Below w.heap.size w wr)) (fun i _ _ => r - (intOf i).toNat)
      case atStart => exact ⟨0, 0, _, by omega, rfl, rfl, Lib.hid rfl, Lib.hid (OwnA.nil _ _ _), Hbo⟩
      case round =>
        obtain ⟨q, cnt, v, hqr, rfl, rfl, HCt, HO, Hb⟩ := hrel
        have hcq : cnt = q := HCt.out
        clear HCt
        subst hcq
        by_cases hlq : cnt < r
        case neg =>
          have hq2 : cnt = r := by omega
          subst hq2
          obtain ⟨A', c', rfl, hrd, hc'⟩ := HO.out.form
          have R5 := Lib.hid hrd
          clear hrd
          have hqI : ¬ (cnt : Int) < (cnt : Int) := by omega
          go_wp2_with fail
          go_ret2
          rw [HN.out, HE.out, HG.out]
          exact ListPost.mk rfl R5.out hc' Hb.out
        have HRq := Lib.hid (Hr.out.bel Hb.out)
        obtain ⟨q, hq0⟩ : ∃ q, q = cnt := ⟨_, rfl⟩
        subst hq0
        obtain ⟨r0, r1, r2, r3, r4⟩ := HRq.out.row q hlq
        have hlqI : (q : Int) < (r : Int) := by omega
        by_cases hqk : q = k
        · subst hqk
          have qk : ((q : Int) == (q : Int)) = true := by simp
          have HO2 := Lib.hid ((HO.out.alloc (.cells #[.int .i64 (g q 0), .int .i64 (g q 1), .int .i64 (g q 2), .int .i64 (g q 3), .int .i64 t] 26)).alloc (.cells #[.int .i64 (g q 0), .int .i64 (g q 1), .int .i64 (g q 2), .int .i64 (g q 3), .int .i64 t] 26))
          have HK2 := Lib.hid ((K5.newq (wr.alloc (.cells #[.int .i64 (g q 0), .int .i64 (g q 1), .int .i64 (g q 2), .int .i64 (g q 3), .int .i64 t] 26)) (wr.heap.size + 1) (alloc_size wr _).symm (g q 0) (g q 1) (g q 2) (g q 3) t).rd 0)
          have HZ2 : Hid (w.heap.size ≤ ((wr.alloc (.cells #[.int .i64 (g q 0), .int .i64 (g q 1), .int .i64 (g q 2), .int .i64 (g q 3), .int .i64 t] 26)).alloc (.cells #[.int .i64 (g q 0), .int .i64 (g q 1), .int .i64 (g q 2), .int .i64 (g q 3), .int .i64 t] 26)).heap.size) := Lib.hid (by rw [alloc_size, alloc_size]; have := Hb.out.size; omega)
          have HB2 := Lib.hid ((Hb.out.alloc Hb.out.size (.cells #[.int .i64 (g q 0), .int .i64 (g q 1), .int .i64 (g q 2), .int .i64 (g q 3), .int .i64 t] 26)).alloc (by rw [alloc_size]; have := Hb.out.size; omega) (.cells #[.int .i64 (g q 0), .int .i64 (g q 1), .int .i64 (g q 2), .int .i64 (g q 3), .int .i64 t] 26))
          go_wp2_with (at_builtin; refine app_list (n := q) (m := 1) ((wr.alloc (.cells #[.int .i64 (g q 0), .int .i64 (g q 1), .int .i64 (g q 2), .int .i64 (g q 3), .int .i64 t] 26)).alloc (.cells #[.int .i64 (g q 0), .int .i64 (g q 1), .int .i64 (g q 2), .int .i64 (g q 3), .int .i64 t] 26)) rfl (.tmp 75) (.tmp 77) rfl rfl HO2.out rfl HK2.out (fun h => by cases h) (by omega) HZ2.out ?_; intro v' w5 hown5 hb5 hg5; have O5 := Lib.hid hown5; have B5 := Lib.hid (HB2.out.trans hb5); clear hown5 hb5 hg5)
          go_roundw
          case rel => exact ⟨q + 1, q + 1, v', by omega, by go_num, rfl, Lib.hid rfl, Lib.hid (O5.out.congr (fun i j hi hj => cat_to (by rw [if_pos rfl]) hi hj)), B5⟩
          case measure => simp [intOf]; omega
        · have qk : ((q : Int) == (k : Int)) = false := by simp; omega
          have HQ := Lib.hid hqk
          clear hqk
          have HO2 := Lib.hid ((HO.out.alloc (.cells #[.int .i64 (g q 0), .int .i64 (g q 1), .int .i64 (g q 2), .int .i64 (g q 3), .int .i64 (g q 4)] 26)).alloc (.cells #[.int .i64 (g q 0), .int .i64 (g q 1), .int .i64 (g q 2), .int .i64 (g q 3), .int .i64 (g q 4)] 26))
          have HK2 := Lib.hid ((K5.newq (wr.alloc (.cells #[.int .i64 (g q 0), .int .i64 (g q 1), .int .i64 (g q 2), .int .i64 (g q 3), .int .i64 (g q 4)] 26)) (wr.heap.size + 1) (alloc_size wr _).symm (g q 0) (g q 1) (g q 2) (g q 3) (g q 4)).rd 0)
          have HZ2 : Hid (w.heap.size ≤ ((wr.alloc (.cells #[.int .i64 (g q 0), .int .i64 (g q 1), .int .i64 (g q 2), .int .i64 (g q 3), .int .i64 (g q 4)] 26)).alloc (.cells #[.int .i64 (g q 0), .int .i64 (g q 1), .int .i64 (g q 2), .int .i64 (g q 3), .int .i64 (g q 4)] 26)).heap.size) := Lib.hid (by rw [alloc_size, alloc_size]; have := Hb.out.size; omega)
          have HB2 := Lib.hid ((Hb.out.alloc Hb.out.size (.cells #[.int .i64 (g q 0), .int .i64 (g q 1), .int .i64 (g q 2), .int .i64 (g q 3), .int .i64 (g q 4)] 26)).alloc (by rw [alloc_size]; have := Hb.out.size; omega) (.cells #[.int .i64 (g q 0), .int .i64 (g q 1), .int .i64 (g q 2), .int .i64 (g q 3), .int .i64 (g q 4)] 26))
          go_wp2_with (at_builtin; refine app_list (n := q) (m := 1) ((wr.alloc (.cells #[.int .i64 (g q 0), .int .i64 (g q 1), .int .i64 (g q 2), .int .i64 (g q 3), .int .i64 (g q 4)] 26)).alloc (.cells #[.int .i64 (g q 0), .int .i64 (g q 1), .int .i64 (g q 2), .int .i64 (g q 3), .int .i64 (g q 4)] 26)) rfl (.tmp 75) (.tmp 77) rfl rfl HO2.out rfl HK2.out (fun h => by cases h) (by omega) HZ2.out ?_; intro v' w5 hown5 hb5 hg5; have O5 := Lib.hid hown5; have B5 := Lib.hid (HB2.out.trans hb5); clear hown5 hb5 hg5)
          go_roundw
          case rel => exact ⟨q + 1, q + 1, v', by omega, by go_num, rfl, Lib.hid rfl, Lib.hid (O5.out.congr (fun i j hi hj => cat_to (by rw [if_neg HQ.out]) hi hj)), B5⟩
          case measure => simp [intOf]; omega
end Go.Proofs.Ytmfkkmonedgdnaa
