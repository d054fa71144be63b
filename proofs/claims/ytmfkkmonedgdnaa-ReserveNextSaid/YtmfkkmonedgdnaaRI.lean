/- The walk of End of the program. -/
import Derived.Test.YtmfkkmonedgdnaaRF
import Derived.Deep.RegionWith
namespace Go.Proofs.Ytmfkkmonedgdnaa
open Go.RowKit
set_option maxHeartbeats 4000000
set_option maxRecDepth 100000
set_option linter.unusedVariables false

theorem own26_0 (A : Option Addr) (n c : Nat) (g : Nat → Nat → Int) (w : World) (hr : FlatRd w A n 5 g) (hn : n ≤ 1000) :
    Calls Try.prog 26 #[.slice A n c, .int .i64 0] w fun x w' => x = .returned (.slice (some ⟨w.heap.size, 0, none⟩) n n) ∧ OwnF w' w.heap.size w.heap.size n g ∧ Below w.heap.size w w' := by
  have h := own26 A n c 0 g w hr hn (by omega)
  simp only [Nat.add_zero] at h
  exact h.mono (fun x w' ⟨h1, h2, h3⟩ => ⟨h1, h2.congr (fun i j hi hj => by simp [hi]), h3⟩)

theorem FlatRd.conv {w : World} {A : Option Addr} {n m : Nat} {g g' : Nat → Nat → Int} (h : FlatRd w A n 5 g) (hm : m ≤ n) (hg : ∀ i j, i < m → j < 5 → g i j = g' i j) : FlatRd w A m 5 g' := fun h0 => by
  obtain ⟨b, o, h1, h2, h3⟩ := h (by omega)
  exact ⟨b, o, h1, h2, fun i hi j hj => by rw [← hg i j hi hj]; exact h3 i (by omega) j hj⟩
theorem OwnF.from {w : World} {B p n : Nat} {g : Nat → Nat → Int} (h : OwnF w B p n g) (k : Nat) : FlatRd w (some ⟨p, k * 5, none⟩) (n - k) 5 (fun i j => g (k + i) j) := fun _ =>
  ⟨p, k * 5, rfl, h.lt, fun i hi j hj => by
    rw [show k * 5 + i * 5 + j = (k + i) * 5 + j by omega]
    exact h.cell (k + i) j (by omega) hj⟩
theorem OwnF.drew {w : World} {B p n : Nat} {g : Nat → Nat → Int} (h : OwnF w B p n g) : OwnF w.drew B p n g := ⟨h.lo, h.out⟩
noncomputable def enN (n : Nat) (g : Nat → Nat → Int) (id t E : Int) : Nat := if E = 0 then (if t ≤ g (lastI (idB g id) n).toNat 3 then n - 1 else n) else 0
noncomputable def enG (n : Nat) (g : Nat → Nat → Int) (id t : Int) : Nat → Nat → Int := if t ≤ g (lastI (idB g id) n).toNat 3 then cutG (lastI (idB g id) n).toNat g else toG (lastI (idB g id) n).toNat g t
theorem lastI_succ (p : Nat → Bool) (k : Nat) : lastI p (k + 1) = if p k = true then (k : Int) else lastI p k := rfl

theorem end17 (A : Option Addr) (n c : Nat) (g : Nat → Nat → Int) (id t : Int) (w : World) (hr : FlatRd w A n 5 g) (m1 : n ≤ 9223372036854775807) (hnc : n ≤ c) :
    Calls Try.prog 17 #[.slice A n c, .int .i64 id, .int .i64 t] w (ListPost w (enN n g id t (endE n g id t)) (enG n g id t) (endE n g id t)) := by
  have Hr := Lib.hid hr
  clear hr
  by_cases hc : chkH n g = 0
  case neg =>
    have HE := Lib.hid (show endE n g id t = chkH n g from if_neg hc)
    have HN := Lib.hid (show enN n g id t (endE n g id t) = 0 by rw [HE.out]; exact if_neg hc)
    have qc : (chkH n g != 0) = true := by simpa using hc
    clear hc
    go_enter Try.func17, Try.ntmps17
    go_wp2_with fail
    refine (check14 A n c g w Hr.out m1 hnc).mono ?_
    rintro x w1 ⟨rfl, hb0⟩
    have B1 := Lib.hid hb0
    clear hb0
    go_wp2_with fail
    go_ret2
    exact ListPost.nil HN.out HE.out rfl B1.out
  have Hok := Lib.hid (chkH_ok hc)
  have HC := Lib.hid hc
  have HX : Hid (endE n g id t = if lastI (idB g id) n < 0 then 7 else if t < 0 ∨ 4294943999 < t then 1 else if g (lastI (idB g id) n).toNat 4 < t then 19 else 0) := Lib.hid (if_pos hc)
  have hn := Hok.out.len
  clear hc
  go_enter Try.func17, Try.ntmps17
  go_wp2_with fail
  refine (check14 A n c g w Hr.out m1 hnc).mono ?_
  rw [HC.out]
  rintro x w1 ⟨rfl, hb0⟩
  have B1 := Lib.hid hb0
  clear hb0
  go_wp2_with fail
  go_loopw [20, 9] (fun i m wr => ∃ (r : Nat) (a : Int), r ≤ n ∧ i = .int .i64 r ∧ m = .int .i64 a ∧ Hid (a = lastI (idB g id) r) ∧ Hid (Below w.heap.size w wr)) (fun i _ _ => n - (intOf i).toNat)
  case atStart => exact ⟨0, -1, by omega, rfl, rfl, Lib.hid rfl, B1⟩
  case round =>
    obtain ⟨r, a, hrn, rfl, rfl, HA, Hb⟩ := hrel
    by_cases hlt : r < n
    case pos =>
      obtain ⟨b, o, rfl, hbw⟩ := Hr.out.at_ (by omega)
      have HRr := Lib.hid (Hr.out.bel Hb.out)
      obtain ⟨r0, r1, r2, r3, r4⟩ := HRr.out.row r hlt
      have hltI : (r : Int) < (n : Int) := by omega
      have B2 := Lib.hid (Hb.out.alloc Hb.out.size (.cells #[.int .i64 (g r 0), .int .i64 (g r 1), .int .i64 (g r 2), .int .i64 (g r 3), .int .i64 (g r 4)] 26))
      cases hid : (g r 0 == id) with
      | true =>
        have HN := Lib.hid (show (r : Int) = lastI (idB g id) (r + 1) by rw [lastI_succ]; exact (if_pos hid).symm)
        go_wp2_with fail
        go_roundw
        case rel => exact ⟨r + 1, r, by omega, by go_num, rfl, HN, B2⟩
        case measure => simp [intOf]; omega
      | false =>
        have HN := Lib.hid (show a = lastI (idB g id) (r + 1) by rw [lastI_succ]; exact HA.out.trans (if_neg (by show ¬ (g r 0 == id) = true; rw [hid]; decide)).symm)
        go_wp2_with fail
        go_roundw
        case rel => exact ⟨r + 1, a, by omega, by go_num, rfl, HN, B2⟩
        case measure => simp [intOf]; omega
    have hrn2 : r = n := by omega
    subst hrn2
    have hltI : ¬ (r : Int) < (r : Int) := by omega
    have hcs := lastI_cases (idB g id) r
    have hcase : a = -1 ∨ ∃ k : Nat, a = (k : Int) ∧ k < r := by
      rw [HA.out]
      rcases hcs with ⟨h1, _⟩ | ⟨k, h1, h2, _⟩
      · exact .inl h1
      · exact .inr ⟨k, h1, h2⟩
    clear hcs
    rcases hcase with ha | ⟨k, ha, hk⟩
    · subst ha
      have HE := Lib.hid (show endE r g id t = 7 by rw [HX.out, ← HA.out]; rfl)
      have HN := Lib.hid (show enN r g id t (endE r g id t) = 0 by rw [HE.out]; rfl)
      go_wp2_with fail
      go_ret2
      exact ListPost.nil HN.out HE.out rfl Hb.out
    subst ha
    have HK : Hid ((lastI (idB g id) r).toNat = k) := Lib.hid (by rw [← HA.out]; exact Int.toNat_natCast k)
    have HX2 : Hid (endE r g id t = if t < 0 ∨ 4294943999 < t then 1 else if g k 4 < t then 19 else 0) := Lib.hid (by
      rw [HX.out, if_neg (by rw [← HA.out]; omega), HK.out])
    have hk0 : ¬ ((k : Int) < 0) := by omega
    by_cases ht : t < 0 ∨ 4294943999 < t
    · have HE := Lib.hid (show endE r g id t = 1 by rw [HX2.out, if_pos ht])
      have HN := Lib.hid (show enN r g id t (endE r g id t) = 0 by rw [HE.out]; rfl)
      have ht2 : t < 0 ∨ (0 ≤ t ∧ 4294943999 < t) := by omega
      clear ht
      rcases ht2 with t1 | ⟨t1, t2⟩
      all_goals
        go_wp2_with fail
        go_ret2
        exact ListPost.nil HN.out HE.out rfl Hb.out
    obtain ⟨b, o, rfl, hbw⟩ := Hr.out.at_ (by omega)
    have HRr := Lib.hid (Hr.out.bel Hb.out)
    obtain ⟨r0, r1, r2, r3, r4⟩ := HRr.out.row k hk
    have hkI : (k : Int) < (r : Int) := by omega
    have t1 : 0 ≤ t := by omega
    have t2 : t ≤ 4294943999 := by omega
    by_cases hl : g k 4 < t
    · have HE := Lib.hid (show endE r g id t = 19 by rw [HX2.out, if_neg ht, if_pos hl])
      have HN := Lib.hid (show enN r g id t (endE r g id t) = 0 by rw [HE.out]; rfl)
      clear ht
      go_wp2_with fail
      go_ret2
      exact ListPost.nil HN.out HE.out rfl Hb.out
    have HE := Lib.hid (show endE r g id t = 0 by rw [HX2.out, if_neg ht, if_neg hl])
    have hl2 : t ≤ g k 4 := by omega
    clear ht hl
    go_wp2_with fail
    refine (own26_0 (some ⟨b, o, none⟩) r c g wr HRr.out (by omega)).mono ?_
    rintro x w3 ⟨rfl, hown, hb0⟩
    have B3 := Lib.hid (bel_tr Hb.out hb0 (Nat.le_refl _))
    have O3 := Lib.hid hown
    have HRw := Lib.hid (HRr.out.bel hb0)
    have hpz : w.heap.size ≤ wr.heap.size := Hb.out.size
    clear hb0 hown r0 r1 r2 r3 r4
    obtain ⟨r0, r1, r2, r3, r4⟩ := HRw.out.row k hk
    by_cases hf : t ≤ g k 3
    · have HG := Lib.hid (show enG r g id t = cutG k g by unfold enG; rw [HK.out, if_pos hf])
      have HN := Lib.hid (show enN r g id t (endE r g id t) = r - 1 by rw [HE.out]; unfold enN; rw [if_pos rfl, HK.out, if_pos hf])
      go_wp2_with fail
      have hw1 : IntKind.i64.wrap ((k : Int) + 1) = (k : Int) + 1 := IntWalk.i64_in _ (by omega)
      have hk1 : (k : Int) + 1 ≤ (r : Int) := by omega
      have hw2 : IntKind.i64.wrap ((r : Int) - 1) = (r : Int) - 1 := IntWalk.i64_in _ (by omega)
      have hr1 : ((r : Int) - 1).toNat = r - 1 := by omega
      have hr2 : (0 : Int) ≤ (r : Int) - 1 := by omega
      have hr3 : (r : Int) - 1 ≤ (r : Int) := by omega
      by_cases hlast : k + 1 < r
      · have hk2 : (k : Int) + 1 < (r : Int) := by omega
        obtain ⟨w4, hcp, hown4, hb4⟩ := run_copy_hold w3.drew 3 wr.heap.size wr.heap.size r g _ O3.out.drew k (r - (k + 1)) (r - k) (r - k) (r - (k + 1)) (r - (k + 1)) (some ⟨wr.heap.size, (k + 1) * 5, none⟩) (Nat.min_eq_left (by omega)) (by omega) (O3.out.drew.from (k + 1)) (fun h => .inr ⟨_, rfl⟩)
        have B4 := Lib.hid (B3.out.drew.trans (hb4.mono hpz))
        have O4 := Lib.hid (hown4.rd.conv (m := r - 1) (g' := cutG k g) (by omega) (fun i j hi hj => by
          unfold cutG
          by_cases h1 : i < k
          · rw [if_neg (by omega), if_pos h1]
          · rw [if_pos (by omega), if_neg h1, show k + 1 + (i - k) = i + 1 by omega]))
        clear hown4 hb4
        go_region
        all_goals
          go_wp2_with fail
          go_ret2
          rw [HN.out, HE.out, HG.out]
          exact ListPost.mk rfl O4.out (by omega) B4.out
      · have hk2 : k + 1 = r := by omega
        obtain ⟨w4, hcp, hown4, hb4⟩ := run_copy_hold w3.drew 3 wr.heap.size wr.heap.size r g g O3.out.drew k 0 (r - k) (r - k) 0 0 (some ⟨wr.heap.size, 0, none⟩) (Nat.zero_min _) (by omega) (fun h => absurd h (by omega)) (fun h => .inr ⟨_, rfl⟩)
        have B4 := Lib.hid (B3.out.drew.trans (hb4.mono hpz))
        have O4 := Lib.hid (hown4.rd.conv (m := r - 1) (g' := cutG k g) (by omega) (fun i j hi hj => by
          unfold cutG
          rw [if_neg (by omega), if_pos (by omega)]))
        clear hown4 hb4
        go_region
        all_goals
          go_wp2_with fail
          go_ret2
          rw [HN.out, HE.out, HG.out]
          exact ListPost.mk rfl O4.out (by omega) B4.out
    · have HG := Lib.hid (show enG r g id t = toG k g t by unfold enG; rw [HK.out, if_neg hf])
      have HN := Lib.hid (show enN r g id t (endE r g id t) = r by rw [HE.out]; unfold enN; rw [if_pos rfl, HK.out, if_neg hf])
      have z4 := O3.out.cell k 4 hk (by omega)
      have f4 := O3.out.thaw (k * 5 + 4)
      have O4 := Lib.hid ((O3.out.set k 4 (k * 5 + 4) hk (by omega) rfl t).congr (g' := toG k g t) (fun i j _ _ => rfl))
      have B4 := Lib.hid (B3.out.setCell (p := ⟨wr.heap.size, k * 5 + 4, none⟩) hpz (.int .i64 t))
      go_wp2_with fail
      go_ret2
      rw [HN.out, HE.out, HG.out]
      exact ListPost.mk rfl O4.out.rd (Nat.le_refl _) B4.out
end Go.Proofs.Ytmfkkmonedgdnaa
