/- The walks of price, Time, Pauses of the reference, and of Longest of both. -/
import Derived.Test.YtcmlipcgcjlopaaTD
namespace Go.Proofs.Ytcmlipcgcjlopaa
open Go.RowKit
set_option maxHeartbeats 2000000
set_option maxRecDepth 100000
set_option linter.unusedVariables false

theorem codeT_out {e secs : Int} (h : secs < 0 ∨ 4294944000 < secs) (x y : Int) : codeT e secs x = codeT e secs y := by
  unfold codeT; by_cases he : e ≠ 0
  · rw [if_pos he, if_pos he]
  · rw [if_neg he, if_neg he, if_pos h, if_pos h]
theorem valT_out {e secs : Int} (h : secs < 0 ∨ 4294944000 < secs) (x : Int) : valT e secs x = 0 := by
  unfold valT codeT; by_cases he : e ≠ 0
  · rw [if_pos he, if_neg he]
  · rw [if_neg he, if_pos h]; rfl

theorem rprice_err (f u s r p q secs paid each : Int) (w : World) (hc : ¬ oneT u s r p q = 0) (x : Int) :
    Calls Try.prog 27 #[tv f u s r p q, .int .i64 secs, .int .i64 paid, .int .i64 each] w fun e w' => e = .returned (.tuple #[.int .i64 (valT (oneT u s r p q) secs x), .int .i64 (codeT (oneT u s r p q) secs x)]) ∧ Below w.heap.size w w' := by
  have hcb : (oneT u s r p q != 0) = true := by simpa using hc
  have h1 := Lib.hid (show codeT (oneT u s r p q) secs x = oneT u s r p q from if_pos hc)
  have h2 := Lib.hid (show valT (oneT u s r p q) secs x = 0 by unfold valT; rw [h1.out, if_neg hc])
  clear hc
  go_enter Try.func27, Try.ntmps27
  go_wp2_with fail
  refine (one21 f u s r p q _).mono ?_
  rintro e w1 ⟨rfl, hb⟩
  have B1 := Lib.hid (Below.trans (box_bel w _) (hb.mono (by simp)))
  clear hb
  go_wp2_with fail
  go_ret2
  exact ⟨by rw [h1.out, h2.out]; rfl, B1.out⟩

theorem rprice_out (f u s r p q secs paid each : Int) (w : World) (hc : oneT u s r p q = 0) (ht : secs < 0 ∨ 4294944000 < secs) (x : Int) :
    Calls Try.prog 27 #[tv f u s r p q, .int .i64 secs, .int .i64 paid, .int .i64 each] w fun e w' => e = .returned (.tuple #[.int .i64 (valT (oneT u s r p q) secs x), .int .i64 (codeT (oneT u s r p q) secs x)]) ∧ Below w.heap.size w w' := by
  have Hc := Lib.hid hc
  have h1 := Lib.hid (show codeT (oneT u s r p q) secs x = 1 by unfold codeT; rw [if_neg (by simpa using hc), if_pos ht])
  have h2 := Lib.hid (valT_out (e := oneT u s r p q) ht x)
  have hi : inB secs 0 4294944000 = false := by simp [inB]; omega
  clear hc ht
  go_enter Try.func27, Try.ntmps27
  go_wp2_with fail
  refine (one21 f u s r p q _).mono ?_
  rw [Hc.out]
  rintro e w1 ⟨rfl, hb⟩
  have B1 := Lib.hid (Below.trans (box_bel w _) (hb.mono (by simp)))
  clear hb
  go_wp2_with (go_at_call 23; refine (in23 _ _ _ _).mono ?_; rintro e w' ⟨rfl, rfl⟩)
  go_ret2
  exact ⟨by rw [h1.out, h2.out]; rfl, B1.out⟩

theorem rprice_in (f u s r p q secs paid each : Int) (w : World) (hc : oneT u s r p q = 0) (t1 : 0 ≤ secs) (t2 : secs ≤ 4294944000) (p1 : -86400 ≤ paid) (p2 : paid ≤ 4294944000) (c1 : 0 ≤ each) (c2 : each ≤ 1000000) :
    Calls Try.prog 27 #[tv f u s r p q, .int .i64 secs, .int .i64 paid, .int .i64 each] w fun e w' => e = .returned (.tuple #[.int .i64 (valT (oneT u s r p q) secs (costT s paid each)), .int .i64 (codeT (oneT u s r p q) secs (costT s paid each))]) ∧ Below w.heap.size w w' := by
  have Hc := Lib.hid hc
  have hr := ranged_bd (oneT_zero hc)
  have hcb := cost_bd (s := s) (paid := paid) (each := each) (by omega) (by omega) p2 c1 c2
  have hsb := steps_bd (s := s) (paid := paid) (by omega) (by omega) p2
  have hi : inB secs 0 4294944000 = true := inB_iff.2 ⟨t1, t2⟩
  have s1 : 1 ≤ s := by omega
  have s2 : s ≤ 86400 := by omega
  have Hk := Lib.hid (fun w1 h => one_block w #[.int .i64 f, .int .i64 u, .int .i64 s, .int .i64 r, .int .i64 p, .int .i64 q] 30 w1 h)
  obtain ⟨m, hm⟩ : ∃ m, m = max 0 paid := ⟨_, rfl⟩
  have hm0 : 0 ≤ m := by omega
  have hm1 : m ≤ 4294944000 := by omega
  have Hm := Lib.hid hm
  have hx : costT s paid each = each * ((m + s - 1) / s) := by unfold costT; rw [hm]
  have Hx := Lib.hid hx
  rw [← hm] at hsb
  rw [hx] at hcb
  by_cases hp : 0 < paid
  · have hmp : m = paid := by omega
    subst hmp
    by_cases hb : 1000000000000 < each * ((m + s - 1) / s)
    · have h1 := Lib.hid (show codeT (oneT u s r p q) secs (costT s m each) = 2 by unfold codeT; rw [hx, if_neg (by simpa using hc), if_neg (by omega), if_pos hb])
      have h2 := Lib.hid (show valT (oneT u s r p q) secs (costT s m each) = 0 by unfold valT; rw [h1.out]; rfl)
      clear hc hr hx hm
      go_enter Try.func27, Try.ntmps27
      go_wp2_with fail
      refine (one21 f u s r p q _).mono ?_
      rw [Hc.out]
      rintro e w1 ⟨rfl, hb1⟩
      have Hb : Hid (Below (w.heap.size + 1) (w.alloc (.cells #[.int .i64 f, .int .i64 u, .int .i64 s, .int .i64 r, .int .i64 p, .int .i64 q] 30)) w1) := Lib.hid (hb1.mono (by simp))
      have k2 := Hk.out w1 Hb.out 2
      simp only [List.getElem?_toArray, List.getElem?_cons_zero, List.getElem?_cons_succ] at k2
      have B1 := Lib.hid (Below.trans (box_bel w _) (hb1.mono (by simp)))
      clear hb1
      go_wp2_with (go_at_call 23; refine (in23 _ _ _ _).mono ?_; rintro e w' ⟨rfl, rfl⟩)
      go_ret2
      exact ⟨by rw [h1.out, h2.out]; rfl, B1.out⟩
    · have h1 := Lib.hid (show codeT (oneT u s r p q) secs (costT s m each) = 0 by unfold codeT; rw [hx, if_neg (by simpa using hc), if_neg (by omega), if_neg hb])
      have h2 := Lib.hid (show valT (oneT u s r p q) secs (costT s m each) = each * ((m + s - 1) / s) by unfold valT; rw [h1.out]; exact hx)
      clear hc hr hx hm
      go_enter Try.func27, Try.ntmps27
      go_wp2_with fail
      refine (one21 f u s r p q _).mono ?_
      rw [Hc.out]
      rintro e w1 ⟨rfl, hb1⟩
      have Hb : Hid (Below (w.heap.size + 1) (w.alloc (.cells #[.int .i64 f, .int .i64 u, .int .i64 s, .int .i64 r, .int .i64 p, .int .i64 q] 30)) w1) := Lib.hid (hb1.mono (by simp))
      have k2 := Hk.out w1 Hb.out 2
      simp only [List.getElem?_toArray, List.getElem?_cons_zero, List.getElem?_cons_succ] at k2
      have B1 := Lib.hid (Below.trans (box_bel w _) (hb1.mono (by simp)))
      clear hb1
      go_wp2_with (go_at_call 23; refine (in23 _ _ _ _).mono ?_; rintro e w' ⟨rfl, rfl⟩)
      go_ret2
      exact ⟨by rw [h1.out, h2.out]; rfl, B1.out⟩
  · have hmp : m = 0 := by omega
    subst hmp
    simp only [Int.zero_add] at hcb hx hsb
    by_cases hb : 1000000000000 < each * ((s - 1) / s)
    · have h1 := Lib.hid (show codeT (oneT u s r p q) secs (costT s paid each) = 2 by unfold codeT; rw [hx, if_neg (by simpa using hc), if_neg (by omega), if_pos hb])
      have h2 := Lib.hid (show valT (oneT u s r p q) secs (costT s paid each) = 0 by unfold valT; rw [h1.out]; rfl)
      clear hc hr hx hm
      go_enter Try.func27, Try.ntmps27
      go_wp2_with fail
      refine (one21 f u s r p q _).mono ?_
      rw [Hc.out]
      rintro e w1 ⟨rfl, hb1⟩
      have Hb : Hid (Below (w.heap.size + 1) (w.alloc (.cells #[.int .i64 f, .int .i64 u, .int .i64 s, .int .i64 r, .int .i64 p, .int .i64 q] 30)) w1) := Lib.hid (hb1.mono (by simp))
      have k2 := Hk.out w1 Hb.out 2
      simp only [List.getElem?_toArray, List.getElem?_cons_zero, List.getElem?_cons_succ] at k2
      have B1 := Lib.hid (Below.trans (box_bel w _) (hb1.mono (by simp)))
      clear hb1
      go_wp2_with (go_at_call 23; refine (in23 _ _ _ _).mono ?_; rintro e w' ⟨rfl, rfl⟩)
      go_ret2
      exact ⟨by rw [h1.out, h2.out]; rfl, B1.out⟩
    · have h1 := Lib.hid (show codeT (oneT u s r p q) secs (costT s paid each) = 0 by unfold codeT; rw [hx, if_neg (by simpa using hc), if_neg (by omega), if_neg hb])
      have h2 := Lib.hid (show valT (oneT u s r p q) secs (costT s paid each) = each * ((s - 1) / s) by unfold valT; rw [h1.out]; exact hx)
      clear hc hr hx hm
      go_enter Try.func27, Try.ntmps27
      go_wp2_with fail
      refine (one21 f u s r p q _).mono ?_
      rw [Hc.out]
      rintro e w1 ⟨rfl, hb1⟩
      have Hb : Hid (Below (w.heap.size + 1) (w.alloc (.cells #[.int .i64 f, .int .i64 u, .int .i64 s, .int .i64 r, .int .i64 p, .int .i64 q] 30)) w1) := Lib.hid (hb1.mono (by simp))
      have k2 := Hk.out w1 Hb.out 2
      simp only [List.getElem?_toArray, List.getElem?_cons_zero, List.getElem?_cons_succ] at k2
      have B1 := Lib.hid (Below.trans (box_bel w _) (hb1.mono (by simp)))
      clear hb1
      go_wp2_with (go_at_call 23; refine (in23 _ _ _ _).mono ?_; rintro e w' ⟨rfl, rfl⟩)
      go_ret2
      exact ⟨by rw [h1.out, h2.out]; rfl, B1.out⟩

theorem rtime16 (f u s r p q secs : Int) (w : World) :
    Calls Try.prog 16 #[tv f u s r p q, .int .i64 secs] w fun e w' => e = .returned (.tuple #[.int .i64 (valT (oneT u s r p q) secs (costT s (secs - r) p)), .int .i64 (codeT (oneT u s r p q) secs (costT s (secs - r) p))]) ∧ Below w.heap.size w w' := by
  by_cases ht : secs < 0 ∨ 4294944000 < secs
  · have hi : inB secs 0 4294944000 = false := by simp [inB]; omega
    have Ht := Lib.hid ht
    by_cases hc : oneT u s r p q = 0
    all_goals
      have Hc := Lib.hid hc
      clear hc ht
      go_enter Try.func16, Try.ntmps16
      go_wp2_with (go_at_call 23; refine (in23 _ _ _ _).mono ?_; rintro e w' ⟨rfl, rfl⟩)
      first
      | refine (rprice_out f u s r p q secs _ _ _ Hc.out Ht.out (costT s (secs - r) p)).mono ?_
      | refine (rprice_err f u s r p q secs _ _ _ Hc.out (costT s (secs - r) p)).mono ?_
      rintro e w1 ⟨rfl, hb⟩
      have B1 := Lib.hid (Below.trans (box_bel w _) (hb.mono (by simp)))
      clear hb
      go_wp2_with fail
      go_ret2
      exact ⟨rfl, B1.out⟩
  · have hi : inB secs 0 4294944000 = true := inB_iff.2 (by omega)
    have t1 : 0 ≤ secs := by omega
    have t2 : secs ≤ 4294944000 := by omega
    clear ht
    by_cases hc : oneT u s r p q = 0
    · have hr := ranged_bd (oneT_zero hc)
      have Hc := Lib.hid hc
      clear hc
      go_enter Try.func16, Try.ntmps16
      go_wp2_with (go_at_call 23; refine (in23 _ _ _ _).mono ?_; rintro e w' ⟨rfl, rfl⟩)
      refine (rprice_in f u s r p q secs (secs - r) p _ Hc.out t1 t2 (by omega) (by omega) (by omega) (by omega)).mono ?_
      rintro e w1 ⟨rfl, hb⟩
      have B1 := Lib.hid (Below.trans (box_bel w _) (hb.mono (by simp)))
      clear hb
      go_wp2_with fail
      go_ret2
      exact ⟨rfl, B1.out⟩
    · have Hc := Lib.hid hc
      clear hc
      go_enter Try.func16, Try.ntmps16
      go_wp2_with (go_at_call 23; refine (in23 _ _ _ _).mono ?_; rintro e w' ⟨rfl, rfl⟩)
      refine (rprice_err f u s r p q secs _ _ _ Hc.out (costT s (secs - r) p)).mono ?_
      rintro e w1 ⟨rfl, hb⟩
      have B1 := Lib.hid (Below.trans (box_bel w _) (hb.mono (by simp)))
      clear hb
      go_wp2_with fail
      go_ret2
      exact ⟨rfl, B1.out⟩

theorem rpauses18 (f u s r p q secs : Int) (w : World) :
    Calls Try.prog 18 #[tv f u s r p q, .int .i64 secs] w fun e w' => e = .returned (.tuple #[.int .i64 (valT (oneT u s r p q) secs (costT s (secs) q)), .int .i64 (codeT (oneT u s r p q) secs (costT s (secs) q))]) ∧ Below w.heap.size w w' := by
  by_cases ht : secs < 0 ∨ 4294944000 < secs
  · have hi : inB secs 0 4294944000 = false := by simp [inB]; omega
    have Ht := Lib.hid ht
    by_cases hc : oneT u s r p q = 0
    all_goals
      have Hc := Lib.hid hc
      clear hc ht
      go_enter Try.func18, Try.ntmps18
      go_wp2_with (go_at_call 23; refine (in23 _ _ _ _).mono ?_; rintro e w' ⟨rfl, rfl⟩)
      first
      | refine (rprice_out f u s r p q secs _ _ _ Hc.out Ht.out (costT s (secs) q)).mono ?_
      | refine (rprice_err f u s r p q secs _ _ _ Hc.out (costT s (secs) q)).mono ?_
      rintro e w1 ⟨rfl, hb⟩
      have B1 := Lib.hid (Below.trans (box_bel w _) (hb.mono (by simp)))
      clear hb
      go_wp2_with fail
      go_ret2
      exact ⟨rfl, B1.out⟩
  · have hi : inB secs 0 4294944000 = true := inB_iff.2 (by omega)
    have t1 : 0 ≤ secs := by omega
    have t2 : secs ≤ 4294944000 := by omega
    clear ht
    by_cases hc : oneT u s r p q = 0
    · have hr := ranged_bd (oneT_zero hc)
      have Hc := Lib.hid hc
      clear hc
      go_enter Try.func18, Try.ntmps18
      go_wp2_with (go_at_call 23; refine (in23 _ _ _ _).mono ?_; rintro e w' ⟨rfl, rfl⟩)
      refine (rprice_in f u s r p q secs (secs) q _ Hc.out t1 t2 (by omega) (by omega) (by omega) (by omega)).mono ?_
      rintro e w1 ⟨rfl, hb⟩
      have B1 := Lib.hid (Below.trans (box_bel w _) (hb.mono (by simp)))
      clear hb
      go_wp2_with fail
      go_ret2
      exact ⟨rfl, B1.out⟩
    · have Hc := Lib.hid hc
      clear hc
      go_enter Try.func18, Try.ntmps18
      go_wp2_with (go_at_call 23; refine (in23 _ _ _ _).mono ?_; rintro e w' ⟨rfl, rfl⟩)
      refine (rprice_err f u s r p q secs _ _ _ Hc.out (costT s (secs) q)).mono ?_
      rintro e w1 ⟨rfl, hb⟩
      have B1 := Lib.hid (Below.trans (box_bel w _) (hb.mono (by simp)))
      clear hb
      go_wp2_with fail
      go_ret2
      exact ⟨rfl, B1.out⟩
end Go.Proofs.Ytcmlipcgcjlopaa
