/- The walks of At, of alone, One, steps, riding, pausing. -/
import Derived.Test.YtcmlipcgcjlopaaTB
import Derived.Deep.RegionHeld3
namespace Go.Proofs.Ytcmlipcgcjlopaa
open Go.RowKit
set_option maxHeartbeats 2000000
set_option maxRecDepth 100000
set_option linter.unusedVariables false

def codeA (n : Nat) (g : Nat → Nat → Int) (t : Int) : Int := if chkT n g ≠ 0 then chkT n g else if t < 0 ∨ 4294943999 < t then 1 else 0
def valA (n : Nat) (g : Nat → Nat → Int) (t : Int) : Int := if codeA n g t = 0 then atT g t n else 0
theorem atT_bd (g : Nat → Nat → Int) (t : Int) (k : Nat) : 0 ≤ atT g t k ∧ atT g t k ≤ k := by
  induction k with
  | zero => simp [atT]
  | succ k ih => unfold atT; split <;> omega

theorem at11 (A : Option Addr) (n c : Nat) (g : Nat → Nat → Int) (t : Int) (w : World) (hr : FlatRd w A n 6 g) (m1 : n ≤ 9223372036854775807) :
    Calls Try.prog 11 #[.slice A n c, .int .i64 t] w fun e w' => e = .returned (.tuple #[.int .i64 (valA n g t), .int .i64 (codeA n g t)]) ∧ Below w.heap.size w w' := by
  have Hr := Lib.hid hr
  clear hr
  by_cases hc : chkT n g = 0
  case neg =>
    have hcb : (chkT n g != 0) = true := by simpa using hc
    have h1 := Lib.hid (show codeA n g t = chkT n g from if_pos hc)
    have h2 := Lib.hid (show valA n g t = 0 by unfold valA; rw [h1.out, if_neg hc])
    clear hc
    go_enter Try.func11, Try.ntmps11
    go_wp2_with fail
    refine (check13 A n c g w Hr.out m1).mono ?_
    rintro e w1 ⟨rfl, hb⟩
    go_wp2_with fail
    go_ret2
    exact ⟨by rw [h1.out, h2.out]; rfl, hb⟩
  have Hc := Lib.hid hc
  by_cases ht : t < 0 ∨ 4294943999 < t
  · have h1 := Lib.hid (show codeA n g t = 1 by unfold codeA; rw [if_neg (by simpa using hc), if_pos ht])
    have h2 := Lib.hid (show valA n g t = 0 by unfold valA; rw [h1.out]; rfl)
    clear hc
    rcases ht with ht | ht
    all_goals
      go_enter Try.func11, Try.ntmps11
      go_wp2_with fail
      refine (check13 A n c g w Hr.out m1).mono ?_
      rw [Hc.out]
      rintro e w1 ⟨rfl, hb⟩
      go_wp2_with fail
      go_ret2
      exact ⟨by rw [h1.out, h2.out]; rfl, hb⟩
  have h1 := Lib.hid (show codeA n g t = 0 by unfold codeA; rw [if_neg (by simpa using hc), if_neg ht])
  have h2 := Lib.hid (show valA n g t = atT g t n by unfold valA; rw [h1.out]; rfl)
  obtain ⟨hn0, hn8, _⟩ := chkT_zero hc
  have ht1 : 0 ≤ t := by omega
  have ht2 : t ≤ 4294943999 := by omega
  clear hc ht
  obtain ⟨b, o, rfl, hb⟩ := Hr.out.at_ (by omega)
  go_enter Try.func11, Try.ntmps11
  go_wp2_with fail
  refine (check13 _ n c g w Hr.out m1).mono ?_
  rw [Hc.out]
  rintro e w1 ⟨rfl, hb1⟩
  have B1 := Lib.hid hb1
  clear hb1
  go_wp2_with fail
  go_loopw [23, 7] (fun i v wr => ∃ k : Nat, k ≤ n ∧ i = .int .i64 k ∧ v = .int .i64 (atT g t k) ∧ Hid (Below w.heap.size w wr)) (fun i _ _ => n - (intOf i).toNat)
  case atStart => exact ⟨0, by omega, rfl, rfl, B1⟩
  case round =>
    obtain ⟨k, hk, rfl, rfl, Hb⟩ := hrel
    by_cases hlt : k < n
    · have z0 := Hr.out.cells Hb.out k hlt 0 (by omega)
      have z1 := Hr.out.cells Hb.out k hlt 1 (by omega)
      have z2 := Hr.out.cells Hb.out k hlt 2 (by omega)
      have z3 := Hr.out.cells Hb.out k hlt 3 (by omega)
      have z4 := Hr.out.cells Hb.out k hlt 4 (by omega)
      have z5 := Hr.out.cells Hb.out k hlt 5 (by omega)
      rw [Nat.add_zero] at z0
      have hst := Lib.hid (show atT g t (k + 1) = if g k 0 ≤ t then (k : Int) else atT g t k from rfl)
      have hws := Hb.out.size
      go_wp2
      · go_roundw
        have h : g k 0 ≤ t := by assumption
        case rel => exact ⟨k + 1, by omega, by go_num, by rw [hst.out, if_pos h], Lib.hid (Hb.out.alloc Hb.out.size _)⟩
        case measure => simp [intOf]; omega
      · go_roundw
        have h : t < g k 0 := by assumption
        case rel => exact ⟨k + 1, by omega, by go_num, by rw [hst.out, if_neg (by omega)], Lib.hid (Hb.out.alloc Hb.out.size _)⟩
        case measure => simp [intOf]; omega
    · have hkn : k = n := by omega
      subst hkn
      go_wp2
      go_ret2
      exact ⟨by rw [h1.out, h2.out]; rfl, Hb.out⟩

theorem at12 (A : Option Addr) (n c : Nat) (g : Nat → Nat → Int) (t : Int) (w : World) (hr : FlatRd w A n 6 g) (m1 : n ≤ 9223372036854775807) :
    Calls Try.prog 12 #[.slice A n c, .int .i64 t] w fun e w' => e = .returned (.tuple #[.int .i64 (valA n g t), .int .i64 (codeA n g t)]) ∧ Below w.heap.size w w' := by
  have Hr := Lib.hid hr
  clear hr
  by_cases hc : chkT n g = 0
  case neg =>
    have hcb : (chkT n g != 0) = true := by simpa using hc
    have h1 := Lib.hid (show codeA n g t = chkT n g from if_pos hc)
    have h2 := Lib.hid (show valA n g t = 0 by unfold valA; rw [h1.out, if_neg hc])
    clear hc
    go_enter Try.func12, Try.ntmps12
    go_wp2_with fail
    refine (check14 A n c g w Hr.out m1).mono ?_
    rintro e w1 ⟨rfl, hb⟩
    go_wp2_with fail
    go_ret2
    exact ⟨by rw [h1.out, h2.out]; rfl, hb⟩
  have Hc := Lib.hid hc
  by_cases ht : t < 0 ∨ 4294943999 < t
  · have h1 := Lib.hid (show codeA n g t = 1 by unfold codeA; rw [if_neg (by simpa using hc), if_pos ht])
    have h2 := Lib.hid (show valA n g t = 0 by unfold valA; rw [h1.out]; rfl)
    have hi : inB t 0 4294943999 = false := by simp [inB]; omega
    clear hc ht
    go_enter Try.func12, Try.ntmps12
    go_wp2_with fail
    refine (check14 A n c g w Hr.out m1).mono ?_
    rw [Hc.out]
    rintro e w1 ⟨rfl, hb⟩
    go_wp2_with (go_at_call 23; refine (in23 _ _ _ _).mono ?_; rintro e w' ⟨rfl, rfl⟩)
    go_ret2
    exact ⟨by rw [h1.out, h2.out]; rfl, hb⟩
  have h1 := Lib.hid (show codeA n g t = 0 by unfold codeA; rw [if_neg (by simpa using hc), if_neg ht])
  have h2 := Lib.hid (show valA n g t = atT g t n by unfold valA; rw [h1.out]; rfl)
  obtain ⟨hn0, hn8, _⟩ := chkT_zero hc
  have hi : inB t 0 4294943999 = true := inB_iff.2 (by omega)
  clear hc ht
  obtain ⟨b, o, rfl, hb⟩ := Hr.out.at_ (by omega)
  go_enter Try.func12, Try.ntmps12
  go_wp2_with fail
  refine (check14 _ n c g w Hr.out m1).mono ?_
  rw [Hc.out]
  rintro e w1 ⟨rfl, hb1⟩
  have B1 := Lib.hid hb1
  clear hb1
  go_wp2_with (go_at_call 23; refine (in23 _ _ _ _).mono ?_; rintro e w' ⟨rfl, rfl⟩)
  go_loop [8, 7] (fun i v => ∃ k : Nat, k ≤ n ∧ i = .int .i64 k ∧ v = .int .i64 (atT g t k)) (fun i _ => n - (intOf i).toNat)
  case atStart => exact ⟨0, by omega, rfl, rfl⟩
  case round =>
    obtain ⟨k, hk, rfl, rfl⟩ := hrel
    by_cases hlt : k < n
    · have z0 := Hr.out.cells B1.out k hlt 0 (by omega)
      rw [Nat.add_zero] at z0
      have hst := Lib.hid (show atT g t (k + 1) = if g k 0 ≤ t then (k : Int) else atT g t k from rfl)
      go_wp2
      · go_round
        have h : g k 0 ≤ t := by assumption
        case rel => exact ⟨k + 1, by omega, by go_num, by rw [hst.out, if_pos h]⟩
        case measure => simp [intOf]; omega
      · go_round
        have h : t < g k 0 := by assumption
        case rel => exact ⟨k + 1, by omega, by go_num, by rw [hst.out, if_neg (by omega)]⟩
        case measure => simp [intOf]; omega
    · have hkn : k = n := by omega
      subst hkn
      go_wp2
      go_ret2
      exact ⟨by rw [h1.out, h2.out]; rfl, B1.out⟩

/-- one version, in a slice that has just been laid -/
def oneG (u s r p q : Int) : Nat → Nat → Int := fun _ j => [0, u, s, r, p, q].getD j 0
theorem one_chk (u s r p q : Int) : chkT 1 (oneG u s r p q) = oneT u s r p q := by
  show (if scan (oneG u s r p q) 0 = 0 then errAt (oneG u s r p q) 0 else scan (oneG u s r p q) 0) = _
  rw [if_pos (show scan (oneG u s r p q) 0 = 0 from rfl)]
  unfold errAt oneT
  have e : rangedG (oneG u s r p q) 0 = rangedB 0 u s r p q := rfl
  rw [e]
  by_cases h : rangedB 0 u s r p q = true
  · rw [if_neg (by simp [h]), if_neg (by simp [oneG]), if_pos h]
  · rw [if_pos (by simpa using h), if_neg h]
theorem one_rd (w : World) (u s r p q : Int) : FlatRd (w.alloc (.cells #[.int .i64 0, .int .i64 u, .int .i64 s, .int .i64 r, .int .i64 p, .int .i64 q] 30)) (some ⟨w.heap.size, 0, none⟩) 1 6 (oneG u s r p q) := fun _ => by
  refine ⟨_, 0, rfl, by simp, fun i hi j hj => ?_⟩
  rw [new_cell]
  obtain rfl : i = 0 := by omega
  match j, hj with
  | 0, _ => rfl
  | 1, _ => rfl
  | 2, _ => rfl
  | 3, _ => rfl
  | 4, _ => rfl
  | 5, _ => rfl
theorem one_rd' (w : World) (m : Nat) (hm : m = w.heap.size) (u s r p q : Int) : FlatRd (w.alloc (.cells #[.int .i64 0, .int .i64 u, .int .i64 s, .int .i64 r, .int .i64 p, .int .i64 q] 30)) (some ⟨m, 0, none⟩) 1 6 (oneG u s r p q) := by
  subst hm; exact one_rd w u s r p q
theorem one21 (f u s r p q : Int) (w : World) : Calls Try.prog 21 #[tv f u s r p q] w fun e w' => e = .returned (.int .i64 (oneT u s r p q)) ∧ Below w.heap.size w w' := by
  go_enter Try.func21, Try.ntmps21
  go_wp2_with fail
  refine (check14 _ 1 1 (oneG u s r p q) _ (by exact one_rd' _ (w.heap.size + 1) (by simp) u s r p q) (by omega)).mono ?_
  rw [one_chk]
  rintro e w1 ⟨rfl, hb⟩
  go_wp2_with fail
  go_ret
  exact ⟨rfl, Below.trans (((Below.refl _ _).alloc (Nat.le_refl _) _).alloc (by simp) _) (hb.mono (by simp; omega))⟩
theorem one_rd_d (w : World) (m : Nat) (hm : m = w.heap.size) (u s r p q : Int) : FlatRd (w.alloc (.cells #[.int .i64 0, .int .i64 u, .int .i64 s, .int .i64 r, .int .i64 p, .int .i64 q] 30)).drew (some ⟨m, 0, none⟩) 1 6 (oneG u s r p q) := by
  have h := one_rd' w m hm u s r p q
  exact fun hn => h hn
theorem two_blocks (w : World) (A B : Array Value) (ta tb : TypeId) (w1 : World) (h : Below (w.heap.size + 2) ((w.alloc (.cells A ta)).alloc (.cells B tb)) w1) :
    (∀ i, w1.cell? ⟨w.heap.size, i, none⟩ = A[i]?) ∧ (∀ i, w1.cell? ⟨w.heap.size + 1, i, none⟩ = B[i]?) ∧ (∀ i, w1.frozen? ⟨w.heap.size + 1, i, none⟩ = false) ∧ w.heap.size + 2 ≤ w1.heap.size := by
  have hA : ((w.alloc (.cells A ta)).alloc (.cells B tb)).heap[w.heap.size]? = some (.cells A ta (0, 0)) := by
    rw [Below.heap_alloc _ _ _ (by simp)]; exact heap_alloc_new w _
  have hB : ((w.alloc (.cells A ta)).alloc (.cells B tb)).heap[w.heap.size + 1]? = some (.cells B tb (0, 0)) := by
    have := heap_alloc_new (w.alloc (.cells A ta)) (.cells B tb)
    simpa using this
  have hA1 := (h.block w.heap.size (by omega)).trans hA
  have hB1 := (h.block (w.heap.size + 1) (by omega)).trans hB
  refine ⟨fun i => cell_of_row _ _ _ _ _ _ hA1, fun i => cell_of_row _ _ _ _ _ _ hB1, fun i => ?_, by have := h.size; simpa using this⟩
  simp [World.frozen?, hB1]

theorem alone29 (f u s r p q : Int) (w : World) : Calls Try.prog 29 #[tv f u s r p q] w fun e w' => e = .returned (.tuple #[tv 0 u s r p q, .int .i64 (oneT u s r p q)]) ∧ Below w.heap.size w w' := by
  have hk := fun w1 h => two_blocks w #[.int .i64 0, .int .i64 u, .int .i64 s, .int .i64 r, .int .i64 p, .int .i64 q] #[.int .i64 0, .int .i64 0, .int .i64 0, .int .i64 0, .int .i64 0, .int .i64 0] 30 40 w1 h
  have Hk := Lib.hid hk
  clear hk
  go_enter Try.func29, Try.ntmps29
  go_wp2
  go_region_with (first | (go_at_call 13; refine (check13 _ 1 1 (oneG u s r p q) _ (by exact one_rd_d _ (w.heap.size + 2) (by simp) u s r p q) (by omega)).mono ?_; rw [one_chk]; rintro e w1 ⟨rfl, hb⟩; have Hb : Hid (Below (w.heap.size + 2) ((w.alloc (.cells #[.int .i64 0, .int .i64 u, .int .i64 s, .int .i64 r, .int .i64 p, .int .i64 q] 30)).alloc (.cells #[.int .i64 0, .int .i64 0, .int .i64 0, .int .i64 0, .int .i64 0, .int .i64 0] 40)) w1) := Lib.hid ((((Below.refl _ _).alloc (by simp) _).drew).trans (hb.mono (by simp))); clear hb; obtain ⟨ka, kb, kf, kz⟩ := Hk.out w1 Hb.out; have k0 := ka 0; have k1 := ka 1; have k2 := ka 2; have k3 := ka 3; have k4 := ka 4; have k5 := ka 5; have j0 := kb 0; have j1 := kb 1; have j2 := kb 2; have j3 := kb 3; have j4 := kb 4; have j5 := kb 5; have f0 := kf 0; have f1 := kf 1; have f2 := kf 2; have f3 := kf 3; have f4 := kf 4; have f5 := kf 5; simp only [List.getElem?_toArray, List.getElem?_cons_zero, List.getElem?_cons_succ] at k0 k1 k2 k3 k4 k5 j0 j1 j2 j3 j4 j5; clear ka kb kf))
  all_goals
    have hbl : Below w.heap.size w w1 := Below.trans ((box_bel w _).alloc (by simp) _) (Hb.out.mono (by omega))
    go_wp2_with fail
    refine bodyPost_ret (v := .tuple #[tv 0 u s r p q, .int .i64 (oneT u s r p q)]) (by simp [results, Try.results29, go_sem, j0, j1, j2, j3, j4, j5]) rfl ⟨rfl, ?_⟩
    have H := Lib.hid hbl
    clear hbl
    exact (((((H.out.setCell (by simp) _).setCell (by simp) _).setCell (by simp) _).setCell (by simp) _).setCell (by simp) _).setCell (by simp) _
end Go.Proofs.Ytcmlipcgcjlopaa
