/- The walk of Next of the reference. -/
import Derived.Test.YtmfkkmonedgdnaaRG
import Derived.Test.YtmfkkmonedgdnaaRC
namespace Go.Proofs.Ytmfkkmonedgdnaa
open Go.RowKit
set_option maxHeartbeats 4000000
set_option maxRecDepth 100000
set_option linter.unusedVariables false

/-- what the loop of the reference's Next has found in the first r -/
structure Bst (n : Nat) (g : Nat → Nat → Int) (bike t s B : Int) (r : Nat) : Prop where
  v : B = -1 ∨ (t ≤ B ∧ B ≤ 4294944000 ∧ clrP n g bike B s)
  x : (nextX n g bike t s = t ∨ ∃ i, i < r ∧ g i 1 = bike ∧ g i 4 = nextX n g bike t s) → B = nextX n g bike t s
theorem clr_ge {n : Nat} {g : Nat → Nat → Int} {bike t s u : Int} (h : clrP n g bike u s) (hu : t ≤ u) : nextX n g bike t s ≤ u := by
  by_cases hlt : u < nextX n g bike t s
  · exact absurd h ((nextX_spec n g bike t s).least u hu hlt)
  · omega
theorem Bst.keep {n : Nat} {g : Nat → Nat → Int} {bike t s B : Int} {r : Nat} (h : Bst n g bike t s B r) (hk : ¬ (g r 1 = bike ∧ g r 4 = nextX n g bike t s)) : Bst n g bike t s B (r + 1) :=
  ⟨h.v, fun hx => h.x (hx.imp id (fun ⟨i, hi, h1, h2⟩ => by
    by_cases hir : i = r
    · subst hir; exact absurd ⟨h1, h2⟩ hk
    · exact ⟨i, by omega, h1, h2⟩))⟩
theorem Bst.keep2 {n : Nat} {g : Nat → Nat → Int} {bike t s B : Int} {r : Nat} (h : Bst n g bike t s B r) (hB : 0 ≤ B) (hle : B ≤ g r 4) : Bst n g bike t s B (r + 1) := by
  refine ⟨h.v, fun hx => ?_⟩
  rcases hx with hx | ⟨i, hi, h1, h2⟩
  · exact h.x (.inl hx)
  · by_cases hir : i = r
    · subst hir
      rcases h.v with hv | ⟨v1, v2, v3⟩
      · omega
      · have := clr_ge v3 v1; omega
    · exact h.x (.inr ⟨i, by omega, h1, h2⟩)
theorem Bst.take {n : Nat} {g : Nat → Nat → Int} {bike t s B : Int} {r : Nat} (h : Bst n g bike t s B r) (t0 : 0 ≤ t) (hc : clrP n g bike (g r 4) s) (h1 : t ≤ g r 4) (h2 : g r 4 ≤ 4294944000) (hb : B < 0 ∨ g r 4 < B) : Bst n g bike t s (g r 4) (r + 1) := by
  have hge := clr_ge hc h1
  have hX := (nextX_spec n g bike t s).ge
  refine ⟨.inr ⟨h1, h2, hc⟩, fun hx => ?_⟩
  rcases hx with hx | ⟨i, hi, k1, k2⟩
  · have := h.x (.inl hx); omega
  · by_cases hir : i = r
    · subst hir; exact k2
    · have := h.x (.inr ⟨i, by omega, k1, k2⟩); omega
theorem Bst.done {n : Nat} {g : Nat → Nat → Int} {bike t s B : Int} (h : Bst n g bike t s B n) : B = nextX n g bike t s := h.x (nextX_spec n g bike t s).end_
theorem Bst.start_t {n : Nat} {g : Nat → Nat → Int} {bike t s : Int} (hc : clrP n g bike t s) (h2 : t ≤ 4294944000) : Bst n g bike t s t 0 :=
  ⟨.inr ⟨Int.le_refl _, h2, hc⟩, fun _ => by have := clr_ge hc (Int.le_refl t); have := (nextX_spec n g bike t s).ge; omega⟩
theorem Bst.start_f {n : Nat} {g : Nat → Nat → Int} {bike t s : Int} (hc : ¬ clrP n g bike t s) : Bst n g bike t s (-1) 0 :=
  ⟨.inl rfl, fun h => by
    rcases h with h | ⟨i, hi, _⟩
    · have := (nextX_spec n g bike t s).clr; rw [h] at this; exact absurd this hc
    · omega⟩

theorem next22 (A : Option Addr) (n c : Nat) (g : Nat → Nat → Int) (bike t s : Int) (w : World) (hr : FlatRd w A n 5 g) (m1 : n ≤ 9223372036854775807) :
    Calls Try.prog 22 #[.slice A n c, .int .i64 bike, .int .i64 t, .int .i64 s] w fun x w' => x = .returned (.tuple #[.int .i64 (neT n g bike t s), .int .i64 (neE n g bike t s)]) ∧ Below w.heap.size w w' := by
  have Hr := Lib.hid hr
  clear hr
  by_cases hc : chkH n g = 0
  case neg =>
    have HE := Lib.hid (show neE n g bike t s = chkH n g from if_neg hc)
    have HT := Lib.hid (show neT n g bike t s = 0 by unfold neT; rw [HE.out]; exact if_neg hc)
    have qc : (chkH n g != 0) = true := by simpa using hc
    clear hc
    go_enter Try.func22, Try.ntmps22
    go_wp2_with fail
    refine (check15 A n c g w Hr.out m1).mono ?_
    rintro x w1 ⟨rfl, hb0⟩
    have B1 := Lib.hid hb0
    clear hb0
    go_wp2_with fail
    go_ret2
    exact ⟨by rw [HE.out, HT.out]; rfl, B1.out⟩
  have Hok := Lib.hid (chkH_ok hc)
  have HC := Lib.hid hc
  by_cases hb : bike < 0 ∨ 128 ≤ bike
  case pos =>
    have HE := Lib.hid (show neE n g bike t s = 7 by unfold neE; rw [if_pos hc, if_pos hb])
    have HT := Lib.hid (show neT n g bike t s = 0 by unfold neT; rw [HE.out]; rfl)
    have hb2 : bike < 0 ∨ (0 ≤ bike ∧ 128 ≤ bike) := by omega
    clear hc hb
    rcases hb2 with hb | ⟨hb, hb3⟩
    all_goals
      go_enter Try.func22, Try.ntmps22
      go_wp2_with fail
      refine (check15 A n c g w Hr.out m1).mono ?_
      rw [HC.out]
      rintro x w1 ⟨rfl, hb0⟩
      have B1 := Lib.hid hb0
      clear hb0
      go_wp2_with fail
      go_ret2
      exact ⟨by rw [HE.out, HT.out]; rfl, B1.out⟩
  have hb1 : 0 ≤ bike := by omega
  have hb2 : bike < 128 := by omega
  by_cases ht : t < 0 ∨ 4294943999 < t ∨ s < 1 ∨ 86400 < s
  case pos =>
    have HE := Lib.hid (show neE n g bike t s = 1 by unfold neE; rw [if_pos hc, if_neg hb, if_pos ht])
    have HT := Lib.hid (show neT n g bike t s = 0 by unfold neT; rw [HE.out]; rfl)
    have ht2 : t < 0 ∨ (0 ≤ t ∧ 4294943999 < t) ∨ (0 ≤ t ∧ t ≤ 4294943999 ∧ s < 1) ∨ (0 ≤ t ∧ t ≤ 4294943999 ∧ 1 ≤ s ∧ 86400 < s) := by omega
    clear hc hb ht
    rcases ht2 with t1 | ⟨t1, t2⟩ | ⟨t1, t2, t3⟩ | ⟨t1, t2, t3, t4⟩
    all_goals
      go_enter Try.func22, Try.ntmps22
      go_wp2_with fail
      refine (check15 A n c g w Hr.out m1).mono ?_
      rw [HC.out]
      rintro x w1 ⟨rfl, hb0⟩
      have B1 := Lib.hid hb0
      clear hb0
      go_wp2_with fail
      go_ret2
      exact ⟨by rw [HE.out, HT.out]; rfl, B1.out⟩
  have HX : Hid (neE n g bike t s = if 4294944000 < nextX n g bike t s + s then 10 else 0) := Lib.hid (by unfold neE; rw [if_pos hc, if_neg hb, if_neg ht])
  have t1 : 0 ≤ t := by omega
  have t2 : t ≤ 4294943999 := by omega
  have t3 : 1 ≤ s := by omega
  have t4 : s ≤ 86400 := by omega
  clear hc hb ht
  have hn : n ≤ 512 := Hok.out.len
  go_enter Try.func22, Try.ntmps22
  go_wp2_with fail
  refine (check15 A n c g w Hr.out m1).mono ?_
  rw [HC.out]
  rintro x w1 ⟨rfl, hb0⟩
  have B1 := Lib.hid hb0
  clear hb0
  go_wp2_with fail
  have hd : ∀ i, i < n → g i 3 < g i 4 := fun i hi => (Hok.out.rng i hi).2.2.2.2.2.2.2.1
  have Hd := Lib.hid hd
  clear hd
  refine (clear23 A n c g bike t s w1 (Hr.out.bel B1.out) m1 (by omega) (by omega)).mono ?_
  rintro x w2 ⟨rfl, hb0⟩
  have B2 := Lib.hid (bel_tr B1.out hb0 (Nat.le_refl _))
  clear hb0 B1
  have hst : ∃ cb : Bool, clrB n g bike t s = cb ∧ Hid (Bst n g bike t s (if cb = true then t else -1) 0) := by
    by_cases hc : clrP n g bike t s
    · exact ⟨true, (clrB_iff Hd.out t3).2 hc, Lib.hid (Bst.start_t hc (by omega))⟩
    · refine ⟨false, ?_, Lib.hid (Bst.start_f hc)⟩
      cases hq : clrB n g bike t s with
      | false => rfl
      | true => exact absurd ((clrB_iff Hd.out t3).1 hq) hc
  obtain ⟨cb, qc, HB⟩ := hst
  rw [qc]
  have HB : Hid (∃ b0 : Int, b0 = (if cb = true then t else -1) ∧ Bst n g bike t s b0 0) := Lib.hid ⟨_, rfl, HB.out⟩
  clear qc
  cases cb
  all_goals
    go_wp2_with fail
    go_loopw [12, 11] (fun i m wr => ∃ (r : Nat) (B : Int), r ≤ n ∧ i = .int .i64 r ∧ m = .int .i64 B ∧ Hid (Bst n g bike t s B r) ∧ Hid (Below w.heap.size w wr)) (fun i _ _ => n - (intOf i).toNat)
    case atStart =>
      obtain ⟨b0, e0, hB0⟩ := HB.out
      exact ⟨0, b0, by omega, rfl, by rw [e0]; rfl, Lib.hid hB0, B2⟩
    case round =>
      obtain ⟨r, B, hrn, rfl, rfl, HI, Hb⟩ := hrel
      by_cases hlt : r < n
      case neg =>
        have hrn2 : r = n := by omega
        subst hrn2
        have HN := Lib.hid HI.out.done
        have hBt : t ≤ B := by rw [HN.out]; exact (nextX_spec r g bike t s).ge
        have hBm : B ≤ 4294944000 := by
          rcases HI.out.v with h | h
          · omega
          · exact h.2.1
        have hw : IntKind.i64.wrap (B + s) = B + s := IntWalk.i64_in _ (by omega)
        have hB0 : 0 ≤ B := by omega
        by_cases he : 4294944000 < B + s
        · have HE := Lib.hid (show neE r g bike t s = 10 by rw [HX.out, ← HN.out, if_pos he])
          have HT := Lib.hid (show neT r g bike t s = 0 by unfold neT; rw [HE.out]; rfl)
          go_wp2_with fail
          go_ret2
          exact ⟨by rw [HE.out, HT.out]; rfl, Hb.out⟩
        · have HE := Lib.hid (show neE r g bike t s = 0 by rw [HX.out, ← HN.out, if_neg he])
          have HT := Lib.hid (show neT r g bike t s = B by unfold neT; rw [HE.out, HN.out]; rfl)
          go_wp2_with fail
          go_ret2
          exact ⟨by rw [HE.out, HT.out]; rfl, Hb.out⟩
      obtain ⟨b, o, rfl, hbw⟩ := Hr.out.at_ (by omega)
      have HRr := Lib.hid (Hr.out.bel Hb.out)
      obtain ⟨r0, r1, r2, r3, r4⟩ := HRr.out.row r hlt
      have hltI : (r : Int) < (n : Int) := by omega
      have hg4 : g r 4 ≤ 4294944000 := (Hok.out.rng r hlt).2.2.2.2.2.2.2.2
      have hX := (nextX_spec n g bike t s).ge
      by_cases hbk : g r 1 = bike
      case neg =>
        have q1 : (g r 1 == bike) = false := by simpa using hbk
        have HN := Lib.hid (HI.out.keep (fun h => hbk h.1))
        clear hbk hX
        go_wp2_with fail
        go_roundw
        case rel => exact ⟨r + 1, B, by omega, by go_num, rfl, HN, Hb⟩
        case measure => simp [intOf]; omega
      have q1 : (g r 1 == bike) = true := by simpa using hbk
      by_cases hut : g r 4 < t
      case pos =>
        have HN := Lib.hid (HI.out.keep (fun h => by omega))
        clear hbk hX
        go_wp2_with fail
        go_roundw
        case rel => exact ⟨r + 1, B, by omega, by go_num, rfl, HN, Hb⟩
        case measure => simp [intOf]; omega
      have hut2 : t ≤ g r 4 := by omega
      by_cases hcl : clrP n g bike (g r 4) s
      case neg =>
        have HN := Lib.hid (HI.out.keep (fun h => hcl (by rw [h.2]; exact (nextX_spec n g bike t s).clr)))
        have HQ : Hid (clrB n g bike (g r 4) s = false) := Lib.hid (by
          cases hq : clrB n g bike (g r 4) s with
          | false => rfl
          | true => exact absurd ((clrB_iff Hd.out t3).1 hq) hcl)
        clear hbk hX hcl hut
        go_wp2_with fail
        refine (clear23 (some ⟨b, o, none⟩) n c g bike (g r 4) s wr HRr.out m1 (by omega) (by omega)).mono ?_
        rw [HQ.out]
        rintro x w3 ⟨rfl, hb0⟩
        have B3 := Lib.hid (bel_tr Hb.out hb0 (Nat.le_refl _))
        clear hb0
        go_wp2_with fail
        go_roundw
        case rel => exact ⟨r + 1, B, by omega, by go_num, rfl, HN, B3⟩
        case measure => simp [intOf]; omega
      have HQ := Lib.hid ((clrB_iff Hd.out t3).2 hcl)
      have hcase : (B < 0 ∧ Bst n g bike t s (g r 4) (r + 1)) ∨ (0 ≤ B ∧ g r 4 < B ∧ Bst n g bike t s (g r 4) (r + 1)) ∨ (0 ≤ B ∧ B ≤ g r 4 ∧ Bst n g bike t s B (r + 1)) := by
        by_cases h1 : B < 0
        · exact .inl ⟨h1, HI.out.take t1 hcl hut2 hg4 (.inl h1)⟩
        · by_cases h2 : g r 4 < B
          · exact .inr (.inl ⟨by omega, h2, HI.out.take t1 hcl hut2 hg4 (.inr h2)⟩)
          · exact .inr (.inr ⟨by omega, by omega, HI.out.keep2 (by omega) (by omega)⟩)
      clear hbk hX hcl hut
      rcases hcase with ⟨h1, hN⟩ | ⟨h1, h2, hN⟩ | ⟨h1, h2, hN⟩
      all_goals
        have HN := Lib.hid hN
        clear hN
        go_wp2_with fail
        refine (clear23 (some ⟨b, o, none⟩) n c g bike (g r 4) s wr HRr.out m1 (by omega) (by omega)).mono ?_
        rw [HQ.out]
        rintro x w3 ⟨rfl, hb0⟩
        have B3 := Lib.hid (bel_tr Hb.out hb0 (Nat.le_refl _))
        clear hb0
        go_wp2_with fail
        go_roundw
        case rel => exact ⟨r + 1, _, by omega, by go_num, rfl, HN, B3⟩
        case measure => simp [intOf]; omega
end Go.Proofs.Ytmfkkmonedgdnaa
