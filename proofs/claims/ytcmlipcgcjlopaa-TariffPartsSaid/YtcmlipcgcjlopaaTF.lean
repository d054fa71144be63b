/- The walks of Longest, of the program and of the reference. -/
import Derived.Test.YtcmlipcgcjlopaaTE
import Derived.BigRegion
namespace Go.Proofs.Ytcmlipcgcjlopaa
open Go.RowKit
set_option maxHeartbeats 2000000
set_option maxRecDepth 100000
set_option linter.unusedVariables false

theorem longest19 (f u s r p q am : Int) (w : World) :
    Calls Try.prog 19 #[tv f u s r p q, .int .i64 am] w fun e w' => e = .returned (.tuple #[.int .i64 (valL (oneT u s r p q) am s r p), .int .i64 (codeL (oneT u s r p q) am)]) ∧ Below w.heap.size w w' := by
  by_cases hc : oneT u s r p q = 0
  case neg =>
    have hcb : (oneT u s r p q != 0) = true := by simpa using hc
    have h1 := Lib.hid (show codeL (oneT u s r p q) am = oneT u s r p q from if_pos hc)
    have h2 := Lib.hid (show valL (oneT u s r p q) am s r p = 0 by unfold valL; rw [h1.out, if_neg hc])
    clear hc
    go_enter Try.func19, Try.ntmps19
    go_wp2_with fail
    refine (alone29 f u s r p q _).mono ?_
    rintro e w1 ⟨rfl, hb1⟩
    have B0 := Lib.hid (Below.trans (box_bel w _) (hb1.mono (by simp)))
    have B1 := Lib.hid (B0.out.alloc B0.out.size (.cells #[.int .i64 0, .int .i64 u, .int .i64 s, .int .i64 r, .int .i64 p, .int .i64 q] 40))
    clear hb1
    go_wp2_with fail
    go_ret2
    exact ⟨by rw [h1.out, h2.out]; rfl, B1.out⟩
  have hr := ranged_bd (oneT_zero hc)
  have Hc := Lib.hid hc
  by_cases ht : am < 0 ∨ 1000000000000 < am
  · have h1 := Lib.hid (show codeL (oneT u s r p q) am = 1 by unfold codeL; rw [if_neg (by simpa using hc), if_pos ht])
    have h2 := Lib.hid (show valL (oneT u s r p q) am s r p = 0 by unfold valL; rw [h1.out]; rfl)
    clear hc hr
    rcases ht with ht | ht
    all_goals
      go_enter Try.func19, Try.ntmps19
      go_wp2_with fail
      refine (alone29 f u s r p q _).mono ?_
      rw [Hc.out]
      rintro e w1 ⟨rfl, hb1⟩
      have B0 := Lib.hid (Below.trans (box_bel w _) (hb1.mono (by simp)))
      have B1 := Lib.hid (B0.out.alloc B0.out.size (.cells #[.int .i64 0, .int .i64 u, .int .i64 s, .int .i64 r, .int .i64 p, .int .i64 q] 40))
      clear hb1
      go_wp2_with fail
      go_ret2
      exact ⟨by rw [h1.out, h2.out]; rfl, B1.out⟩
  have h1 := Lib.hid (show codeL (oneT u s r p q) am = 0 by unfold codeL; rw [if_neg (by simpa using hc), if_neg ht])
  have t1 : 0 ≤ am := by omega
  have t2 : am ≤ 1000000000000 := by omega
  clear hc ht
  by_cases hp : p = 0
  · have hpb : (p == 0) = true := by simpa using hp
    have h2 := Lib.hid (show valL (oneT u s r p q) am s r p = 4294944000 by unfold valL; rw [h1.out, if_pos rfl, if_pos hp])
    clear hp
    go_enter Try.func19, Try.ntmps19
    go_wp2_with fail
    refine (alone29 f u s r p q _).mono ?_
    rw [Hc.out]
    rintro e w1 ⟨rfl, hb1⟩
    have B0 := Lib.hid (Below.trans (box_bel w _) (hb1.mono (by simp)))
    have B1 := Lib.hid (B0.out.alloc B0.out.size (.cells #[.int .i64 0, .int .i64 u, .int .i64 s, .int .i64 r, .int .i64 p, .int .i64 q] 40))
    clear hb1
    go_wp2_with fail
    go_ret2
    exact ⟨by rw [h1.out, h2.out]; rfl, B1.out⟩
  have hpb : (p == 0) = false := by simpa using hp
  have p1 : 1 ≤ p := by omega
  have r0 : 0 ≤ r := by omega
  have hd0 : 0 ≤ am / p := Int.ediv_nonneg t1 (by omega)
  have hd1 : am / p ≤ am := Int.ediv_le_self p t1
  have hm0 : 0 ≤ am / p * s := Int.mul_nonneg hd0 (by omega)
  have hm1 : am / p * s ≤ 1000000000000 * 86400 := Int.mul_le_mul (by omega) (by omega) (by omega) (by omega)
  have hq : Int.tdiv am p = am / p := Int.tdiv_eq_ediv_of_nonneg t1
  have hw1 : IntKind.i64.wrap (am / p) = am / p := IntWalk.i64_in _ (by omega)
  have hw2 : IntKind.i64.wrap (am / p * s) = am / p * s := IntWalk.i64_in _ (by omega)
  have hw3 : IntKind.i64.wrap (r + am / p * s) = r + am / p * s := IntWalk.i64_in _ (by omega)
  by_cases hx : 4294944000 < r + am / p * s
  · have h2 := Lib.hid (show valL (oneT u s r p q) am s r p = 4294944000 by unfold valL; rw [h1.out, if_pos rfl, if_neg hp]; omega)
    clear hp
    go_enter Try.func19, Try.ntmps19
    go_wp2_with fail
    refine (alone29 f u s r p q _).mono ?_
    rw [Hc.out]
    rintro e w1 ⟨rfl, hb1⟩
    have B0 := Lib.hid (Below.trans (box_bel w _) (hb1.mono (by simp)))
    have B1 := Lib.hid (B0.out.alloc B0.out.size (.cells #[.int .i64 0, .int .i64 u, .int .i64 s, .int .i64 r, .int .i64 p, .int .i64 q] 40))
    clear hb1
    go_wp2_with fail
    go_region
    all_goals
      go_wp2_with fail
      go_ret2
      exact ⟨by rw [h1.out, h2.out]; rfl, B1.out.drew⟩
  · have h2 := Lib.hid (show valL (oneT u s r p q) am s r p = r + am / p * s by unfold valL; rw [h1.out, if_pos rfl, if_neg hp]; omega)
    clear hp
    go_enter Try.func19, Try.ntmps19
    go_wp2_with fail
    refine (alone29 f u s r p q _).mono ?_
    rw [Hc.out]
    rintro e w1 ⟨rfl, hb1⟩
    have B0 := Lib.hid (Below.trans (box_bel w _) (hb1.mono (by simp)))
    have B1 := Lib.hid (B0.out.alloc B0.out.size (.cells #[.int .i64 0, .int .i64 u, .int .i64 s, .int .i64 r, .int .i64 p, .int .i64 q] 40))
    clear hb1
    go_wp2_with fail
    go_region
    all_goals
      go_wp2_with fail
      go_ret2
      exact ⟨by rw [h1.out, h2.out]; rfl, B1.out.drew⟩

theorem rlongest20 (f u s r p q am : Int) (w : World) :
    Calls Try.prog 20 #[tv f u s r p q, .int .i64 am] w fun e w' => e = .returned (.tuple #[.int .i64 (valL (oneT u s r p q) am s r p), .int .i64 (codeL (oneT u s r p q) am)]) ∧ Below w.heap.size w w' := by
  have Hk := Lib.hid (fun w1 h => one_block w #[.int .i64 f, .int .i64 u, .int .i64 s, .int .i64 r, .int .i64 p, .int .i64 q] 30 w1 h)
  by_cases hc : oneT u s r p q = 0
  case neg =>
    have hcb : (oneT u s r p q != 0) = true := by simpa using hc
    have h1 := Lib.hid (show codeL (oneT u s r p q) am = oneT u s r p q from if_pos hc)
    have h2 := Lib.hid (show valL (oneT u s r p q) am s r p = 0 by unfold valL; rw [h1.out, if_neg hc])
    clear hc
    go_enter Try.func20, Try.ntmps20
    go_wp2_with fail
    refine (one21 f u s r p q _).mono ?_
    rintro e w1 ⟨rfl, hb1⟩
    have Hb : Hid (Below (w.heap.size + 1) (w.alloc (.cells #[.int .i64 f, .int .i64 u, .int .i64 s, .int .i64 r, .int .i64 p, .int .i64 q] 30)) w1) := Lib.hid (hb1.mono (by simp))
    have ka := Hk.out w1 Hb.out
    have k2 := ka 2
    have k3 := ka 3
    have k4 := ka 4
    simp only [List.getElem?_toArray, List.getElem?_cons_zero, List.getElem?_cons_succ] at k2 k3 k4
    have B1 := Lib.hid (Below.trans (box_bel w _) (hb1.mono (by simp)))
    clear hb1 ka
    go_wp2_with (go_at_call 23; refine (in23 _ _ _ _).mono ?_; rintro e w' ⟨rfl, rfl⟩)
    go_ret2
    exact ⟨by rw [h1.out, h2.out]; rfl, B1.out⟩
  have hr := ranged_bd (oneT_zero hc)
  have Hc := Lib.hid hc
  by_cases ht : am < 0 ∨ 1000000000000 < am
  · have h1 := Lib.hid (show codeL (oneT u s r p q) am = 1 by unfold codeL; rw [if_neg (by simpa using hc), if_pos ht])
    have h2 := Lib.hid (show valL (oneT u s r p q) am s r p = 0 by unfold valL; rw [h1.out]; rfl)
    have hi : inB am 0 1000000000000 = false := by simp [inB]; omega
    clear hc ht hr
    go_enter Try.func20, Try.ntmps20
    go_wp2_with fail
    refine (one21 f u s r p q _).mono ?_
    rw [Hc.out]
    rintro e w1 ⟨rfl, hb1⟩
    have Hb : Hid (Below (w.heap.size + 1) (w.alloc (.cells #[.int .i64 f, .int .i64 u, .int .i64 s, .int .i64 r, .int .i64 p, .int .i64 q] 30)) w1) := Lib.hid (hb1.mono (by simp))
    have ka := Hk.out w1 Hb.out
    have k2 := ka 2
    have k3 := ka 3
    have k4 := ka 4
    simp only [List.getElem?_toArray, List.getElem?_cons_zero, List.getElem?_cons_succ] at k2 k3 k4
    have B1 := Lib.hid (Below.trans (box_bel w _) (hb1.mono (by simp)))
    clear hb1 ka
    go_wp2_with (go_at_call 23; refine (in23 _ _ _ _).mono ?_; rintro e w' ⟨rfl, rfl⟩)
    go_ret2
    exact ⟨by rw [h1.out, h2.out]; rfl, B1.out⟩
  have h1 := Lib.hid (show codeL (oneT u s r p q) am = 0 by unfold codeL; rw [if_neg (by simpa using hc), if_neg ht])
  have t1 : 0 ≤ am := by omega
  have t2 : am ≤ 1000000000000 := by omega
  have hi : inB am 0 1000000000000 = true := inB_iff.2 ⟨t1, t2⟩
  clear hc ht
  by_cases hp : p = 0
  · have hpb : (p == 0) = true := by simpa using hp
    have h2 := Lib.hid (show valL (oneT u s r p q) am s r p = 4294944000 by unfold valL; rw [h1.out, if_pos rfl, if_pos hp])
    clear hp
    go_enter Try.func20, Try.ntmps20
    go_wp2_with fail
    refine (one21 f u s r p q _).mono ?_
    rw [Hc.out]
    rintro e w1 ⟨rfl, hb1⟩
    have Hb : Hid (Below (w.heap.size + 1) (w.alloc (.cells #[.int .i64 f, .int .i64 u, .int .i64 s, .int .i64 r, .int .i64 p, .int .i64 q] 30)) w1) := Lib.hid (hb1.mono (by simp))
    have ka := Hk.out w1 Hb.out
    have k2 := ka 2
    have k3 := ka 3
    have k4 := ka 4
    simp only [List.getElem?_toArray, List.getElem?_cons_zero, List.getElem?_cons_succ] at k2 k3 k4
    have B1 := Lib.hid (Below.trans (box_bel w _) (hb1.mono (by simp)))
    clear hb1 ka
    go_wp2_with (go_at_call 23; refine (in23 _ _ _ _).mono ?_; rintro e w' ⟨rfl, rfl⟩)
    go_ret2
    exact ⟨by rw [h1.out, h2.out]; rfl, B1.out⟩
  have hpb : (p == 0) = false := by simpa using hp
  have p1 : 1 ≤ p := by omega
  have r0 : 0 ≤ r := by omega
  have hd0 : 0 ≤ am / p := Int.ediv_nonneg t1 (by omega)
  have hd1 : am / p ≤ am := Int.ediv_le_self p t1
  have hm0 : 0 ≤ am / p * s := Int.mul_nonneg hd0 (by omega)
  have hm1 : am / p * s ≤ 1000000000000 * 86400 := Int.mul_le_mul (by omega) (by omega) (by omega) (by omega)
  have hq : Int.tdiv am p = am / p := Int.tdiv_eq_ediv_of_nonneg t1
  have hw1 : IntKind.i64.wrap (am / p) = am / p := IntWalk.i64_in _ (by omega)
  have hw2 : IntKind.i64.wrap (am / p * s) = am / p * s := IntWalk.i64_in _ (by omega)
  have hw3 : IntKind.i64.wrap (r + am / p * s) = r + am / p * s := IntWalk.i64_in _ (by omega)
  by_cases hx : 4294944000 ≤ r + am / p * s
  · have h2 := Lib.hid (show valL (oneT u s r p q) am s r p = 4294944000 by unfold valL; rw [h1.out, if_pos rfl, if_neg hp]; omega)
    clear hp
    go_enter Try.func20, Try.ntmps20
    go_wp2_with fail
    refine (one21 f u s r p q _).mono ?_
    rw [Hc.out]
    rintro e w1 ⟨rfl, hb1⟩
    have Hb : Hid (Below (w.heap.size + 1) (w.alloc (.cells #[.int .i64 f, .int .i64 u, .int .i64 s, .int .i64 r, .int .i64 p, .int .i64 q] 30)) w1) := Lib.hid (hb1.mono (by simp))
    have ka := Hk.out w1 Hb.out
    have k2 := ka 2
    have k3 := ka 3
    have k4 := ka 4
    simp only [List.getElem?_toArray, List.getElem?_cons_zero, List.getElem?_cons_succ] at k2 k3 k4
    have B1 := Lib.hid (Below.trans (box_bel w _) (hb1.mono (by simp)))
    clear hb1 ka
    go_wp2_with (go_at_call 23; refine (in23 _ _ _ _).mono ?_; rintro e w' ⟨rfl, rfl⟩)
    go_region
    all_goals
      go_wp2_with fail
      go_ret2
      exact ⟨by rw [h1.out, h2.out]; rfl, B1.out.drew⟩
  · have h2 := Lib.hid (show valL (oneT u s r p q) am s r p = r + am / p * s by unfold valL; rw [h1.out, if_pos rfl, if_neg hp]; omega)
    clear hp
    go_enter Try.func20, Try.ntmps20
    go_wp2_with fail
    refine (one21 f u s r p q _).mono ?_
    rw [Hc.out]
    rintro e w1 ⟨rfl, hb1⟩
    have Hb : Hid (Below (w.heap.size + 1) (w.alloc (.cells #[.int .i64 f, .int .i64 u, .int .i64 s, .int .i64 r, .int .i64 p, .int .i64 q] 30)) w1) := Lib.hid (hb1.mono (by simp))
    have ka := Hk.out w1 Hb.out
    have k2 := ka 2
    have k3 := ka 3
    have k4 := ka 4
    simp only [List.getElem?_toArray, List.getElem?_cons_zero, List.getElem?_cons_succ] at k2 k3 k4
    have B1 := Lib.hid (Below.trans (box_bel w _) (hb1.mono (by simp)))
    clear hb1 ka
    go_wp2_with (go_at_call 23; refine (in23 _ _ _ _).mono ?_; rintro e w' ⟨rfl, rfl⟩)
    go_region
    all_goals
      go_wp2_with fail
      go_ret2
      exact ⟨by rw [h1.out, h2.out]; rfl, B1.out.drew⟩
end Go.Proofs.Ytcmlipcgcjlopaa
