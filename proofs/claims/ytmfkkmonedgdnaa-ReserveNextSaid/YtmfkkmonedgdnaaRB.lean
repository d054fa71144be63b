/- The walk of Check of the program. -/
import Derived.Test.YtmfkkmonedgdnaaRA
import Derived.Test.YtmfkkmonedgdnaaRSet
import Derived.Carry
namespace Go.Proofs.Ytmfkkmonedgdnaa
open Go.RowKit
open Go.ChangeMaps (setBlock)
set_option maxHeartbeats 4000000
set_option maxRecDepth 100000
set_option linter.unusedVariables false

theorem bel_tr {B : Nat} {a b c : World} (h : Below B a b) (k : Below b.heap.size b c) (hB : B ≤ a.heap.size) : Below B a c := h.trans (k.mono (Nat.le_trans hB h.size))
theorem K5.set {w : World} {p b : Nat} {a1 a2 a3 a4 a5 : Int} (h : K5 w p a1 a2 a3 a4 a5) (hne : p ≠ b) (o : Obj) : K5 (setBlock w b o) p a1 a2 a3 a4 a5 := by
  have hp : (setBlock w b o).heap[p]? = w.heap[p]? := heap_setBlock_ne w b o p hne
  have hc : ∀ i, (setBlock w b o).cell? ⟨p, i, none⟩ = w.cell? ⟨p, i, none⟩ := fun i => by simp only [World.cell?, hp]
  refine ⟨by have := h.1; simpa [setBlock] using this, ?_⟩
  rw [hc 0, hc 1, hc 2, hc 3, hc 4]
  exact h.2
theorem inI_of {a b c d e : Int} (h : rngP a b c d e) : inI a := by unfold inI; have := h.1; have := h.2.1; omega

theorem check14 (A : Option Addr) (n c : Nat) (g : Nat → Nat → Int) (w : World) (hr : FlatRd w A n 5 g) (m1 : n ≤ 9223372036854775807) (hnc : n ≤ c) :
    Calls Try.prog 14 #[.slice A n c] w fun x w' => x = .returned (.int .i64 (chkH n g)) ∧ Below w.heap.size w w' := by
  have Hr := Lib.hid hr
  clear hr
  by_cases h512 : 512 < n
  · have HC := Lib.hid (show chkH n g = 8 from if_pos h512)
    go_enter Try.func14, Try.ntmps14
    go_wp2_with fail
    go_ret
    exact ⟨ret_int HC.out.symm, Below.refl _ _⟩
  have HC := Lib.hid (show chkH n g = scanR g n from if_neg h512)
  have hn : n ≤ 512 := by omega
  clear h512
  have hmm := @run_makeMap Try.prog
  go_enter Try.func14, Try.ntmps14
  go_wp2_with fail
  clear hmm
  go_loopw [14] (fun i wr => ∃ k : Nat, k ≤ n ∧ i = .int .i64 k ∧ Hid (scanR g k = 0) ∧ Hid (SetK wr w.heap.size (fun i => g i 0) k) ∧ Hid (Below w.heap.size w wr)) (fun i _ => n - (intOf i).toNat)
  case atStart => exact ⟨0, by omega, rfl, Lib.hid rfl, Lib.hid (SetK.made w _), Lib.hid (box_bel _ _)⟩
  case round =>
    obtain ⟨k, hk, rfl, Hs, Hm, Hb⟩ := hrel
    by_cases hlt : k < n
    case neg =>
      have hkn : k = n := by omega
      subst hkn
      go_wp2_with fail
      go_ret
      exact ⟨ret_int (by rw [HC.out, Hs.out]), Hb.out⟩
    obtain ⟨b, o, rfl, hbw⟩ := Hr.out.at_ (by omega)
    have HR := Lib.hid (Hr.out.bel Hb.out)
    obtain ⟨r0, r1, r2, r3, r4⟩ := HR.out.row k hlt
    have hltI : (k : Int) < (n : Int) := by omega
    have hkc : (k : Int) ≤ (c : Int) := by omega
    have hwz : w.heap.size < wr.heap.size := Hm.out.lt
    have Hz := Lib.hid hwz
    have Hids : Hid (∀ i, i < k → inI (g i 0)) := Lib.hid (fun i hi => inI_of (rowE_ok (scanR_ok Hs.out i hi)).1)
    obtain ⟨wo, hwo⟩ : ∃ wo, wo = wr := ⟨_, rfl⟩
    subst hwo
    by_cases hg : rngG g k
    case neg =>
      have qg := rngB_f hg
      have HE := Lib.hid (scanR_hit hlt Hs.out (rowE_1 hg) (by omega))
      clear hg
      go_wp2_with fail
      refine (ranged27 _ _ _ _ _ _).mono ?_
      rw [qg]
      rintro x w1 ⟨rfl, hb0⟩
      have B1 := Lib.hid (bel_tr (Hb.out.alloc Hb.out.size (.cells #[.int .i64 (g k 0), .int .i64 (g k 1), .int .i64 (g k 2), .int .i64 (g k 3), .int .i64 (g k 4)] 26)) hb0 (Nat.le_refl _))
      clear hb0
      go_wp2_with fail
      go_ret
      exact ⟨ret_int (by rw [HC.out, HE.out]), B1.out⟩
    have qg := rngB_t hg
    have Hg := Lib.hid hg
    clear hg
    go_wp2_with fail
    refine (ranged27 _ _ _ _ _ _).mono ?_
    rw [qg]
    rintro x w1 ⟨rfl, hb0⟩
    have B1 := Lib.hid (bel_tr (Hb.out.alloc Hb.out.size (.cells #[.int .i64 (g k 0), .int .i64 (g k 1), .int .i64 (g k 2), .int .i64 (g k 3), .int .i64 (g k 4)] 26)) hb0 (Nat.le_refl _))
    have M1 := Lib.hid ((Hm.out.bel (box_bel wo (.cells #[.int .i64 (g k 0), .int .i64 (g k 1), .int .i64 (g k 2), .int .i64 (g k 3), .int .i64 (g k 4)] 26))).bel hb0)
    have KH := Lib.hid ((K5.new wo (g k 0) (g k 1) (g k 2) (g k 3) (g k 4) 26).bel hb0)
    clear hb0 r0 r1 r2 r3 r4 qg
    obtain ⟨z, e0, e1, e2, e3, e4⟩ := KH.out
    by_cases hid6 : ∃ j, j < k ∧ g j 0 = g k 0
    case pos =>
      obtain ⟨j, hj, hje⟩ := hid6
      have HE := Lib.hid (scanR_hit hlt Hs.out (rowE_6 Hg.out hj hje) (by omega))
      have hL := M1.out.look_t Hids.out (inI_of Hg.out) hj hje
      clear hje
      go_wp2_with fail
      go_ret
      exact ⟨ret_int (by rw [HC.out, HE.out]), B1.out⟩
    have H6 : Hid (∀ j, j < k → g j 0 ≠ g k 0) := Lib.hid (fun j hj he => hid6 ⟨j, hj, he⟩)
    have hL := M1.out.look_f Hids.out (inI_of Hg.out) H6.out
    obtain ⟨hU, hM2⟩ := M1.out.put Hids.out (inI_of Hg.out) H6.out
    have hB2 := bel_setBlock B1.out (Nat.le_refl w.heap.size) (o := (.map (entsF (fun i => g i 0) (k + 1)).toArray (k + 1)))
    have hK2 := KH.out.set (b := w.heap.size) (by have := Hz.out; omega) (.map (entsF (fun i => g i 0) (k + 1)).toArray (k + 1))
    obtain ⟨w2, hw2⟩ : ∃ w2, w2 = setBlock w1 w.heap.size (.map (entsF (fun i => g i 0) (k + 1)).toArray (k + 1)) := ⟨_, rfl⟩
    rw [← hw2] at hU hM2 hB2 hK2
    have M2 := Lib.hid hM2
    have B2 := Lib.hid hB2
    have KH2 := Lib.hid hK2
    clear hM2 hB2 hK2 hw2 hid6
    go_wp2_with fail
    clear hL hU e0 e1 e2 e3 e4 z
    go_loopw [35] (fun i wr => ∃ r : Nat, r ≤ k ∧ i = .int .i64 r ∧ Hid (∀ j, j < r → ¬ colG g j k) ∧ Hid (Below w2.heap.size w2 wr)) (fun i _ => k - (intOf i).toNat)
    case atStart => exact ⟨0, by omega, rfl, Lib.hid (fun j hj => absurd hj (by omega)), Lib.hid (Below.refl _ _)⟩
    case round =>
      obtain ⟨r, hrk, rfl, Ht, Hi⟩ := hrel
      by_cases hlr : r < k
      case neg =>
        have hrk2 : r = k := by omega
        have HE := Lib.hid (scanR_next Hs.out (rowE_0 Hg.out H6.out (fun j hj => Ht.out j (by omega))))
        have hlrI : ¬ (r : Int) < (k : Int) := by omega
        go_wp2_with fail
        go_roundw
        case rel => exact ⟨k + 1, by omega, by go_num, HE, Lib.hid (M2.out.bel Hi.out), Lib.hid (bel_tr B2.out Hi.out (Nat.le_refl _))⟩
        case measure => simp [intOf]; omega
      have HR2 := Lib.hid (Hr.out.bel (bel_tr B2.out Hi.out (Nat.le_refl _)))
      obtain ⟨r0, r1, r2, r3, r4⟩ := HR2.out.row r (by omega)
      have hlrI : (r : Int) < (k : Int) := by omega
      obtain ⟨z, e0, e1, e2, e3, e4⟩ := KH2.out.bel Hi.out
      by_cases hc : colG g r k
      · have qc := colB_t hc
        have HE := Lib.hid (scanR_hit hlt Hs.out (rowE_22 Hg.out H6.out hlr hc) (by omega))
        clear hc
        go_wp2_with fail
        refine (collide28 _ _ _ _ _ _ _ _ _ _ _).mono ?_
        rw [qc]
        rintro x w4 ⟨rfl, hb0⟩
        have B4 := Lib.hid (bel_tr ((bel_tr B2.out Hi.out (Nat.le_refl _)).alloc (bel_tr B2.out Hi.out (Nat.le_refl _)).size (.cells #[.int .i64 (g r 0), .int .i64 (g r 1), .int .i64 (g r 2), .int .i64 (g r 3), .int .i64 (g r 4)] 26)) hb0 (Nat.le_refl _))
        clear hb0
        go_wp2_with fail
        go_ret
        exact ⟨ret_int (by rw [HC.out, HE.out]), B4.out⟩
      · have qc := colB_f hc
        have HN := Lib.hid hc
        clear hc
        go_wp2_with fail
        refine (collide28 _ _ _ _ _ _ _ _ _ _ _).mono ?_
        rw [qc]
        rintro x w4 ⟨rfl, hb0⟩
        have B4 := Lib.hid (bel_tr (Hi.out.alloc Hi.out.size (.cells #[.int .i64 (g r 0), .int .i64 (g r 1), .int .i64 (g r 2), .int .i64 (g r 3), .int .i64 (g r 4)] 26)) hb0 (Nat.le_refl _))
        clear hb0
        go_wp2_with fail
        go_roundw
        case rel => exact ⟨r + 1, by omega, by go_num, Lib.hid (fun j hj => by by_cases he : j = r; · subst he; exact HN.out
                                                                               · exact Ht.out j (by omega)), B4⟩
        case measure => simp [intOf]; omega
end Go.Proofs.Ytmfkkmonedgdnaa
