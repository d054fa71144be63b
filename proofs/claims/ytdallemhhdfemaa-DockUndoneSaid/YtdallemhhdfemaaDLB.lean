/- The walk of the law DockCalls, where there is a station. -/
import Derived.Test.YtdallemhhdfemaaDL5
import Derived.Deep.RegionHeld3
import Derived.Deep.CutRange
namespace Go.Proofs.Ytdallemhhdfemaa
open Go.RowKit
set_option maxHeartbeats 4000000
set_option maxRecDepth 100000
set_option linter.unusedVariables false

/-- behind the reference's call: the old station in q, the new one in r -/
structure Cu (w X : World) (p q r : Nat) (A : Option Addr) (c : Nat) (A' : Option Addr) (c' : Nat) (A1 : Option Addr) (c1 : Nat) (A2 : Option Addr) (c2 n : Nat) (D1 D : Dk) : Prop where
  old : Lw w X p q A c A' c' n D1 D
  row : X.heap[r]? = some (.cells #[.slice A1 n c1, .slice A2 n c2] 31 (0, 0))
  rf : Rf X A1 A2 n D1
section
variable {w w3 w4 X Y : World} {p q r b o k m n c c' c1 c2 : Nat} {A A' A1 A2 : Option Addr} {g : Nat → Nat → Int} {D D1 Dr : Dk}
theorem Cu.put (hG : Lw w w3 p q A c A' c' n D1 D) (hT : w4.heap[r]? = some (.cells #[.slice none 0 0, .slice none 0 0] 31 (0, 0))) (hr : Rf w4 A1 A2 n D1)
    (hb : Below w3.heap.size w3 ((w4.setCell ⟨r, 0, none⟩ (.slice A1 n c1)).setCell ⟨r, 1, none⟩ (.slice A2 n c2))) : Cu w ((w4.setCell ⟨r, 0, none⟩ (.slice A1 n c1)).setCell ⟨r, 1, none⟩ (.slice A2 n c2)) p q r A c A' c' A1 c1 A2 c2 n D1 D :=
  ⟨hG.go hb, set2_row hT _ _, hr.set2 hT _ _⟩
theorem Cu.fresh (hG : Lw w w3 p q A c A' c' n D1 D) (hr : Rf w4 A1 A2 n D1) (hb : Below w3.heap.size w3 (w4.alloc (.cells #[.slice A1 n c1, .slice A2 n c2] 31))) :
    Cu w (w4.alloc (.cells #[.slice A1 n c1, .slice A2 n c2] 31)) p q w4.heap.size A c A' c' A1 c1 A2 c2 n D1 D :=
  ⟨hG.go hb, heap_alloc_new w4 _, hr.bel (box_bel w4 _)⟩
theorem s5 (hG : Lw w w3 p q A c A' c' n D Dr) (hR : FlatRd w3 (some ⟨b, o, none⟩) m 3 g) (hk : k < m) (hb : Below w3.heap.size w3 X) :
    X.cell? ⟨q, 0, none⟩ = some (.slice A n c) ∧ X.cell? ⟨q, 1, none⟩ = some (.slice A' n c') ∧ X.cell? ⟨b, o + k * 3, none⟩ = some (.int .i64 (g k 0)) ∧ X.cell? ⟨b, o + k * 3 + 1, none⟩ = some (.int .i64 (g k 1)) ∧ X.cell? ⟨b, o + k * 3 + 2, none⟩ = some (.int .i64 (g k 2)) ∧ Below w3.heap.size w3 X := by
  obtain ⟨q0, q1, _, _⟩ := row2 (hG.go hb).bq
  obtain ⟨r0, r1, r2⟩ := (hR.bel hb).row k hk
  exact ⟨q0, q1, r0, r1, r2, hb⟩
theorem s5b (h : X.cell? ⟨q, 0, none⟩ = some (.slice A n c) ∧ X.cell? ⟨q, 1, none⟩ = some (.slice A' n c') ∧ X.cell? ⟨b, o + k * 3, none⟩ = some (.int .i64 (g k 0)) ∧ X.cell? ⟨b, o + k * 3 + 1, none⟩ = some (.int .i64 (g k 1)) ∧ X.cell? ⟨b, o + k * 3 + 2, none⟩ = some (.int .i64 (g k 2)) ∧ Below w3.heap.size w3 X) : Below w3.heap.size w3 X := h.2.2.2.2.2
theorem s5_bel (hG : Lw w w3 p q A c A' c' n D Dr) (hR : FlatRd w3 (some ⟨b, o, none⟩) m 3 g) (hk : k < m) (hb : Below X.heap.size X Y) (h : X.cell? ⟨q, 0, none⟩ = some (.slice A n c) ∧ X.cell? ⟨q, 1, none⟩ = some (.slice A' n c') ∧ X.cell? ⟨b, o + k * 3, none⟩ = some (.int .i64 (g k 0)) ∧ X.cell? ⟨b, o + k * 3 + 1, none⟩ = some (.int .i64 (g k 1)) ∧ X.cell? ⟨b, o + k * 3 + 2, none⟩ = some (.int .i64 (g k 2)) ∧ Below w3.heap.size w3 X) :
    Y.cell? ⟨q, 0, none⟩ = some (.slice A n c) ∧ Y.cell? ⟨q, 1, none⟩ = some (.slice A' n c') ∧ Y.cell? ⟨b, o + k * 3, none⟩ = some (.int .i64 (g k 0)) ∧ Y.cell? ⟨b, o + k * 3 + 1, none⟩ = some (.int .i64 (g k 1)) ∧ Y.cell? ⟨b, o + k * 3 + 2, none⟩ = some (.int .i64 (g k 2)) ∧ Below w3.heap.size w3 Y := s5 hG hR hk (bel_tr (s5b h) hb (Nat.le_refl _))
theorem s5_alloc (hG : Lw w w3 p q A c A' c' n D Dr) (hR : FlatRd w3 (some ⟨b, o, none⟩) m 3 g) (hk : k < m) (h : X.cell? ⟨q, 0, none⟩ = some (.slice A n c) ∧ X.cell? ⟨q, 1, none⟩ = some (.slice A' n c') ∧ X.cell? ⟨b, o + k * 3, none⟩ = some (.int .i64 (g k 0)) ∧ X.cell? ⟨b, o + k * 3 + 1, none⟩ = some (.int .i64 (g k 1)) ∧ X.cell? ⟨b, o + k * 3 + 2, none⟩ = some (.int .i64 (g k 2)) ∧ Below w3.heap.size w3 X) (ob : Obj) :
    (X.alloc ob).cell? ⟨q, 0, none⟩ = some (.slice A n c) ∧ (X.alloc ob).cell? ⟨q, 1, none⟩ = some (.slice A' n c') ∧ (X.alloc ob).cell? ⟨b, o + k * 3, none⟩ = some (.int .i64 (g k 0)) ∧ (X.alloc ob).cell? ⟨b, o + k * 3 + 1, none⟩ = some (.int .i64 (g k 1)) ∧ (X.alloc ob).cell? ⟨b, o + k * 3 + 2, none⟩ = some (.int .i64 (g k 2)) ∧ Below w3.heap.size w3 (X.alloc ob) := s5 hG hR hk (bel_tr (s5b h) (box_bel X ob) (Nat.le_refl _))
theorem s5_set (hG : Lw w w3 p q A c A' c' n D Dr) (hR : FlatRd w3 (some ⟨b, o, none⟩) m 3 g) (hk : k < m) (h : X.cell? ⟨q, 0, none⟩ = some (.slice A n c) ∧ X.cell? ⟨q, 1, none⟩ = some (.slice A' n c') ∧ X.cell? ⟨b, o + k * 3, none⟩ = some (.int .i64 (g k 0)) ∧ X.cell? ⟨b, o + k * 3 + 1, none⟩ = some (.int .i64 (g k 1)) ∧ X.cell? ⟨b, o + k * 3 + 2, none⟩ = some (.int .i64 (g k 2)) ∧ Below w3.heap.size w3 X) (hr : w3.heap.size ≤ r) (u u' : Value) :
    ((X.setCell ⟨r, 0, none⟩ u).setCell ⟨r, 1, none⟩ u').cell? ⟨q, 0, none⟩ = some (.slice A n c) ∧ ((X.setCell ⟨r, 0, none⟩ u).setCell ⟨r, 1, none⟩ u').cell? ⟨q, 1, none⟩ = some (.slice A' n c') ∧ ((X.setCell ⟨r, 0, none⟩ u).setCell ⟨r, 1, none⟩ u').cell? ⟨b, o + k * 3, none⟩ = some (.int .i64 (g k 0)) ∧ ((X.setCell ⟨r, 0, none⟩ u).setCell ⟨r, 1, none⟩ u').cell? ⟨b, o + k * 3 + 1, none⟩ = some (.int .i64 (g k 1)) ∧ ((X.setCell ⟨r, 0, none⟩ u).setCell ⟨r, 1, none⟩ u').cell? ⟨b, o + k * 3 + 2, none⟩ = some (.int .i64 (g k 2)) ∧ Below w3.heap.size w3 ((X.setCell ⟨r, 0, none⟩ u).setCell ⟨r, 1, none⟩ u') := s5 hG hR hk (((s5b h).setCell hr _).setCell hr _)
end

theorem law5_in (n : Nat) (A0 : Option Addr) (m c0 : Nat) (g : Nat → Nat → Int) (w : World) (hr : FlatRd w A0 m 3 g) (m1 : m ≤ 9223372036854775807) (hm : m ≤ 60) (h1 : 1 ≤ n) (h2 : n ≤ 32) :
    Calls Try.prog 5 #[.int .i64 n, .slice A0 m c0] w fun x w' => x = .returned (.bool true) ∧ Below w.heap.size w w' := by
  have Hr := Lib.hid hr
  clear hr
  obtain ⟨p, HP⟩ : ∃ p, Hid (w.heap.size = p) := ⟨_, Lib.hid rfl⟩
  have hmI : ¬ (60 : Int) < (m : Int) := by omega
  go_enter Try.func5, Try.ntmps5
  go_wp2_with fail
  refine (new22 n w h1 h2).mono ?_
  rintro x w1 ⟨rfl, hs, hb⟩
  have A1 := Lib.hid (At.of_new hs hb)
  rw [HP.out] at A1 ⊢
  clear hs hb
  go_wp2_with fail
  refine (new10 n w1 h1 h2).mono ?_
  rintro x w2 ⟨A, c, A', c', rfl, hrf, hb⟩
  have B2 := Lib.hid (bel_tr A1.out.bel hb (Nat.le_refl _))
  have L2 : Hid (Lw w (w2.alloc (rO A c A' c' n)) p w2.heap.size A c A' c' n zeroD zeroD) := Lib.hid
    ⟨(A1.out.sta.bel hb).bel (box_bel w2 _), hrf.bel (box_bel w2 _), heap_alloc_new w2 _, bel_tr B2.out (box_bel w2 _) (Nat.le_refl _), A1.out.lo, B2.out.size⟩
  clear hrf hb A1 B2
  obtain ⟨q, HQ⟩ : ∃ q, Hid (w2.heap.size = q) := ⟨_, Lib.hid rfl⟩
  rw [HQ.out] at L2
  go_upto_region 5 with (fail)
  rw [HQ.out]
  obtain ⟨X2, hX2⟩ : ∃ X, X = w2.alloc (rO A c A' c' n) := ⟨_, rfl⟩
  rw [← hX2] at L2 ⊢
  clear hX2 HQ
  go_wp2_with fail
  go_loopw [9] (fun i wr => ∃ (k c c' : Nat) (A A' : Option Addr), k ≤ m ∧ i = .int .i64 k ∧ Hid (Lw w wr p q A c A' c' n (playD n g k) (playD n g k))) (fun i _ => m - (intOf i).toNat)
  case atStart => exact ⟨0, _, _, _, _, by omega, rfl, L2⟩
  case round =>
    clear L2
    obtain ⟨k, c, c', A, A', hk, rfl, G⟩ := hrel
    by_cases hlt : k < m
    case neg =>
      have hkm : k = m := by omega
      subst hkm
      have hltI : ¬ (k : Int) < (k : Int) := by omega
      obtain ⟨q0, q1, _, _⟩ := row2 G.out.bq
      go_wp2_with fail
      refine (is14 p A A' c c' n _ 0 0 wr G.out.sta G.out.rf (Inv.playD n g k)).mono ?_
      rintro x w3 ⟨rfl, hb⟩
      have G3 := Lib.hid (G.out.go hb)
      clear hb q0 q1
      go_wp2_with fail
      refine (awake_any _).mono ?_
      rintro x w4 ⟨rfl, hb⟩
      have G4 := Lib.hid (G3.out.go hb)
      clear hb
      go_wp2_with fail
      go_ret
      exact ⟨rfl, G4.out.bel⟩
    have hltI : (k : Int) < (m : Int) := by omega
    have HI := Lib.hid (Inv.playD n g k)
    have HI2 := Lib.hid (Inv.playD n g (k + 1))
    have HN := Lib.hid (show playD n g (k + 1) = stepD n (playD n g k) (g k 0) (g k 1) (g k 2) from rfl)
    have HR := Lib.hid (Hr.out.bel G.out.bel)
    obtain ⟨b, o, rfl, hbw⟩ := HR.out.at_ (by omega)
    obtain ⟨r0, r1, r2⟩ := HR.out.row k hlt
    obtain ⟨D, HD⟩ : ∃ D, Hid (playD n g k = D) := ⟨_, Lib.hid rfl⟩
    rw [HD.out] at G HI HN
    go_wp2_with fail
    refine (do13 p n D (g k 0) (g k 1) (g k 2) wr G.out.sta).mono ?_
    rintro x w3 ⟨rfl, hl⟩
    have G3 := Lib.hid (G.out.left hl)
    have HR3 := Lib.hid (Hr.out.bel G3.out.bel)
    clear hl G HR r0 r1 r2
    obtain ⟨N, HNN⟩ : ∃ N, Hid (stepN n D (g k 0) (g k 1) (g k 2) = N) := ⟨_, Lib.hid rfl⟩
    obtain ⟨E, HEE⟩ : ∃ E, Hid (stepE n D (g k 0) (g k 1) (g k 2) = E) := ⟨_, Lib.hid rfl⟩
    rw [HNN.out, HEE.out]
    go_wp2_with fail
    rw [← HN.out] at G3
    obtain ⟨D1, HD1⟩ : ∃ D1, Hid (playD n g (k + 1) = D1) := ⟨_, Lib.hid rfl⟩
    rw [HD1.out] at G3 HI2 HN
    go_cut [12, 13, 14] from 42 to 91 (fun s12 s13 s14 wx => ∃ (r c1 c2 : Nat) (A1 A2 : Option Addr), s12 = .pointer (some ⟨r, 0, none⟩) ∧ s13 = .int .i64 N ∧ s14 = .int .i64 E ∧ Hid (Cu w wx p q r A c A' c' A1 c1 A2 c2 n D1 D))
    case first =>
      go_region_held3 (fun X => X.cell? ⟨q, 0, none⟩ = some (.slice A n c) ∧ X.cell? ⟨q, 1, none⟩ = some (.slice A' n c') ∧ X.cell? ⟨b, o + k * 3, none⟩ = some (.int .i64 (g k 0)) ∧ X.cell? ⟨b, o + k * 3 + 1, none⟩ = some (.int .i64 (g k 1)) ∧ X.cell? ⟨b, o + k * 3 + 2, none⟩ = some (.int .i64 (g k 2)) ∧ Below w3.heap.size w3 X) (first | exact s5 G3.out HR3.out hlt (Below.refl _ _).drew | exact s5_bel G3.out HR3.out hlt (by assumption) (by assumption) | exact s5_alloc G3.out HR3.out hlt K4.out _ | exact s5_alloc G3.out HR3.out hlt (by assumption) _ | exact s5_set G3.out HR3.out hlt K4.out (Nat.le_refl _) _ _ | exact s5_set G3.out HR3.out hlt (by assumption) (Nat.le_refl _) _ _)
        (first
          | (go_at_call 11; refine (should11 A A' c c' n D (g k 0) (g k 1) (g k 2) _ (G3.out.go (s5b (by assumption))).rf HI.out h1 h2).mono ?_; rw [HNN.out, HEE.out, ← HN.out]; rintro x w4 ⟨A1, c1, A2, c2, rfl, hr4, hb4⟩; have R4 := Lib.hid hr4; have K4 := Lib.hid (s5_bel G3.out HR3.out hlt hb4 (by assumption)); have T4 : Hid (w4.heap[w3.heap.size]? = some (.cells #[.slice none 0 0, .slice none 0 0] 31 (0, 0))) := Lib.hid ((hb4.block w3.heap.size (by show w3.heap.size < (w3.alloc (.cells #[.slice none 0 0, .slice none 0 0] 31)).heap.size; rw [alloc_size]; exact Nat.lt_succ_self _)).trans (heap_alloc_new w3 _)); obtain ⟨t0, t1, v0, v1⟩ := row2 T4.out; clear hr4)
          | (go_at_call 11; refine (should11 A A' c c' n D (g k 0) (g k 1) (g k 2) _ (G3.out.go (s5b (by assumption))).rf HI.out h1 h2).mono ?_; rw [HNN.out, HEE.out, ← HN.out]; rintro x w4 ⟨A1, c1, A2, c2, rfl, hr4, hb4⟩; have R4 := Lib.hid hr4; have K4 := Lib.hid (s5_bel G3.out HR3.out hlt hb4 (by assumption)); clear hr4))
      all_goals (rename_i hH; have B4 := Lib.hid (s5b hH); clear hH; go_wp2_with fail; go_meet)
      all_goals (first | exact ⟨_, _, _, _, _, rfl, rfl, rfl, Lib.hid (Cu.put G3.out T4.out R4.out B4.out)⟩ | exact ⟨_, _, _, _, _, rfl, rfl, rfl, Lib.hid (Cu.fresh G3.out R4.out B4.out)⟩)
    case rest =>
    obtain ⟨r, c1, c2, A1, A2, rfl, rfl, rfl, C⟩ := hcut
    obtain ⟨q0, q1, f0, f1⟩ := row2 C.out.old.bq
    obtain ⟨t0, t1, _, _⟩ := row2 C.out.row
    have G5 := Lib.hid (C.out.old.store (c1 := c1) (c2 := c2) C.out.rf)
    obtain ⟨X5, hX5⟩ : ∃ X5, X5 = (wc.setCell ⟨q, 0, none⟩ (.slice A1 n c1)).setCell ⟨q, 1, none⟩ (.slice A2 n c2) := ⟨_, rfl⟩
    rw [← hX5] at G5
    have HX5 := Lib.hid hX5
    clear hX5 G3 HR3
    go_upto_region 15 with (fail)
    rw [← HX5.out]
    clear q0 q1 f0 f1 t0 t1 HX5 C
    have HR5 := Lib.hid (Hr.out.bel G5.out.bel)
    have e1 : (N != N) = false := by simp
    have e2 : (E != E) = false := by simp
    go_region_held3 (fun X => X.cell? ⟨q, 0, none⟩ = some (.slice A1 n c1) ∧ X.cell? ⟨q, 1, none⟩ = some (.slice A2 n c2) ∧ X.cell? ⟨b, o + k * 3, none⟩ = some (.int .i64 (g k 0)) ∧ X.cell? ⟨b, o + k * 3 + 1, none⟩ = some (.int .i64 (g k 1)) ∧ X.cell? ⟨b, o + k * 3 + 2, none⟩ = some (.int .i64 (g k 2)) ∧ Below X5.heap.size X5 X) (first | exact s5 G5.out HR5.out hlt (Below.refl _ _).drew | exact s5_bel G5.out HR5.out hlt (by assumption) (by assumption))
      (first | (go_at_call 14; refine (is14 p A1 A2 c1 c2 n D1 (g k 1) (g k 2) _ (G5.out.go (s5b (by assumption))).sta (G5.out.go (s5b (by assumption))).rf HI2.out).mono ?_; rintro x w6 ⟨rfl, hb6⟩))
    all_goals
      rename_i hH
      have G6 := Lib.hid (G5.out.go (s5b hH))
      clear hH
      go_wp2_with fail
      go_roundw
      case rel => exact ⟨k + 1, _, _, _, _, by omega, by go_num, by rw [HD1.out]; exact G6⟩
      case measure => simp [intOf]; omega

theorem law5_any (d : Int) (A : Option Addr) (m c : Nat) (g : Nat → Nat → Int) (w : World) (hr : FlatRd w A m 3 g) (m1 : m ≤ 9223372036854775807) (hmc : m ≤ c) :
    Calls Try.prog 5 #[.int .i64 d, .slice A m c] w fun x w' => x = .returned (.bool true) ∧ Below w.heap.size w w' := by
  by_cases hd : d < 1 ∨ 32 < d ∨ 60 < m
  · exact law5_out d A m c w hd m1
  · obtain ⟨n, rfl⟩ : ∃ n : Nat, d = (n : Int) := ⟨d.toNat, by omega⟩
    exact law5_in n A m c g w hr m1 (by omega) (by omega) (by omega)
end Go.Proofs.Ytdallemhhdfemaa
