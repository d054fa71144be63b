/- The walks of steps, riding, pausing, price, Time, Pauses, Longest, of the program and of the reference. -/
import Derived.Test.YtcmlipcgcjlopaaTC
import Derived.Deep.RegionWith
namespace Go.Proofs.Ytcmlipcgcjlopaa
open Go.RowKit
set_option maxHeartbeats 2000000
set_option maxRecDepth 100000
set_option linter.unusedVariables false

theorem steps31 (f u s r p q secs : Int) (w : World) (h1 : 1 ≤ s) (h2 : s ≤ 86400) (h3 : -86400 ≤ secs) (h4 : secs ≤ 4294944000) :
    Calls Try.prog 31 #[tv f u s r p q, .int .i64 secs] w fun e w' => e = .returned (.int .i64 ((max 0 secs + s - 1) / s)) ∧ Below w.heap.size w w' := by
  by_cases h0 : secs < 0
  · have e1 := Lib.hid (show max 0 secs = 0 by omega)
    go_enter Try.func31, Try.ntmps31
    go_wp2
    go_ret
    exact ⟨ret_int (by rw [e1.out]; simp), box_bel _ _⟩
  · have e1 := Lib.hid (show max 0 secs = secs by omega)
    have h0' : 0 ≤ secs := by omega
    go_enter Try.func31, Try.ntmps31
    go_wp2
    go_ret
    exact ⟨ret_int (by rw [e1.out]), box_bel _ _⟩

theorem one_block (w : World) (A : Array Value) (ta : TypeId) (w1 : World) (h : Below (w.heap.size + 1) (w.alloc (.cells A ta)) w1) : ∀ i, w1.cell? ⟨w.heap.size, i, none⟩ = A[i]? := by
  have hA1 := (h.block w.heap.size (by omega)).trans (heap_alloc_new w _)
  exact fun i => cell_of_row _ _ _ _ _ _ hA1

theorem riding26 (f u s r p q secs : Int) (w : World) (h1 : 1 ≤ s) (h2 : s ≤ 86400) (h3 : 0 ≤ secs) (h4 : secs ≤ 4294944000) (h5 : 0 ≤ r) (h6 : r ≤ 86400) (h7 : 0 ≤ p) (h8 : p ≤ 1000000) :
    Calls Try.prog 26 #[tv f u s r p q, .int .i64 secs] w fun e w' => e = .returned (.int .i64 (costT s (secs - r) p)) ∧ Below w.heap.size w w' := by
  have hcb := cost_bd (s := s) (paid := secs - r) (each := p) h1 h2 (by omega) h7 h8
  have hw1 : IntKind.i64.wrap (secs - r) = secs - r := IntWalk.i64_in _ (by omega)
  have hw2 : IntKind.i64.wrap (p * ((max 0 (secs - r) + s - 1) / s)) = costT s (secs - r) p := IntWalk.i64_in _ (by unfold costT at hcb; omega)
  have Hk := Lib.hid (fun w1 h => one_block w #[.int .i64 f, .int .i64 u, .int .i64 s, .int .i64 r, .int .i64 p, .int .i64 q] 40 w1 h)
  clear hcb
  go_enter Try.func26, Try.ntmps26
  go_wp2
  go_region_with (go_at_call 31; refine (steps31 f u s r p q (secs - r) _ h1 h2 (by omega) (by omega)).mono ?_; rintro e w1 ⟨rfl, hb⟩; have Hb : Hid (Below (w.heap.size + 1) (w.alloc (.cells #[.int .i64 f, .int .i64 u, .int .i64 s, .int .i64 r, .int .i64 p, .int .i64 q] 40)) w1) := Lib.hid (((Below.refl _ _).drew).trans (hb.mono (by simp))); clear hb; have ka := Hk.out w1 Hb.out; have k0 := ka 0; have k1 := ka 1; have k2 := ka 2; have k3 := ka 3; have k4 := ka 4; have k5 := ka 5; simp only [List.getElem?_toArray, List.getElem?_cons_zero, List.getElem?_cons_succ] at k0 k1 k2 k3 k4 k5; clear ka)
  all_goals
    go_wp2_with fail
    go_ret
    exact ⟨rfl, (box_bel w _).trans (Hb.out.mono (by omega))⟩

theorem pausing28 (f u s r p q secs : Int) (w : World) (h1 : 1 ≤ s) (h2 : s ≤ 86400) (h3 : 0 ≤ secs) (h4 : secs ≤ 4294944000) (h5 : 0 ≤ r) (h6 : r ≤ 86400) (h7 : 0 ≤ q) (h8 : q ≤ 1000000) :
    Calls Try.prog 28 #[tv f u s r p q, .int .i64 secs] w fun e w' => e = .returned (.int .i64 (costT s (secs) q)) ∧ Below w.heap.size w w' := by
  have hcb := cost_bd (s := s) (paid := secs) (each := q) h1 h2 (by omega) h7 h8
  have hw1 : IntKind.i64.wrap (secs) = secs := IntWalk.i64_in _ (by omega)
  have hw2 : IntKind.i64.wrap (q * ((max 0 (secs) + s - 1) / s)) = costT s (secs) q := IntWalk.i64_in _ (by unfold costT at hcb; omega)
  have Hk := Lib.hid (fun w1 h => one_block w #[.int .i64 f, .int .i64 u, .int .i64 s, .int .i64 r, .int .i64 p, .int .i64 q] 40 w1 h)
  clear hcb
  go_enter Try.func28, Try.ntmps28
  go_wp2
  go_region_with (go_at_call 31; refine (steps31 f u s r p q (secs) _ h1 h2 (by omega) (by omega)).mono ?_; rintro e w1 ⟨rfl, hb⟩; have Hb : Hid (Below (w.heap.size + 1) (w.alloc (.cells #[.int .i64 f, .int .i64 u, .int .i64 s, .int .i64 r, .int .i64 p, .int .i64 q] 40)) w1) := Lib.hid (((Below.refl _ _).drew).trans (hb.mono (by simp))); clear hb; have ka := Hk.out w1 Hb.out; have k0 := ka 0; have k1 := ka 1; have k2 := ka 2; have k3 := ka 3; have k4 := ka 4; have k5 := ka 5; simp only [List.getElem?_toArray, List.getElem?_cons_zero, List.getElem?_cons_succ] at k0 k1 k2 k3 k4 k5; clear ka)
  all_goals
    go_wp2_with fail
    go_ret
    exact ⟨rfl, (box_bel w _).trans (Hb.out.mono (by omega))⟩

theorem price26 (f u s r p q secs : Int) (w : World) :
    Calls Try.prog 25 #[.func (.func 26) #[] #[], tv f u s r p q, .int .i64 secs] w fun e w' => e = .returned (.tuple #[.int .i64 (valT (oneT u s r p q) secs (costT s (secs - r) p)), .int .i64 (codeT (oneT u s r p q) secs (costT s (secs - r) p))]) ∧ Below w.heap.size w w' := by
  by_cases hc : oneT u s r p q = 0
  case neg =>
    have hcb : (oneT u s r p q != 0) = true := by simpa using hc
    have h1 := Lib.hid (show codeT (oneT u s r p q) secs (costT s (secs - r) p) = oneT u s r p q from if_pos hc)
    have h2 := Lib.hid (show valT (oneT u s r p q) secs (costT s (secs - r) p) = 0 by unfold valT; rw [h1.out, if_neg hc])
    clear hc
    go_enter Try.func25, Try.ntmps25
    go_wp2_with fail
    refine (alone29 f u s r p q _).mono ?_
    rintro e w1 ⟨rfl, hb⟩
    have B1 := Lib.hid (Below.trans (box_bel w _) (hb.mono (by simp)))
    clear hb
    go_wp2_with fail
    go_ret2
    exact ⟨by rw [h1.out, h2.out]; rfl, B1.out.alloc B1.out.size _⟩
  have hr := ranged_bd (oneT_zero hc)
  have Hc := Lib.hid hc
  by_cases ht : secs < 0 ∨ 4294944000 < secs
  · have h1 := Lib.hid (show codeT (oneT u s r p q) secs (costT s (secs - r) p) = 1 by unfold codeT; rw [if_neg (by simpa using hc), if_pos ht])
    have h2 := Lib.hid (show valT (oneT u s r p q) secs (costT s (secs - r) p) = 0 by unfold valT; rw [h1.out]; rfl)
    clear hc hr
    rcases ht with ht | ht
    all_goals
      go_enter Try.func25, Try.ntmps25
      go_wp2_with fail
      refine (alone29 f u s r p q _).mono ?_
      rw [Hc.out]
      rintro e w1 ⟨rfl, hb⟩
      have B1 := Lib.hid (Below.trans (box_bel w _) (hb.mono (by simp)))
      clear hb
      go_wp2_with fail
      go_ret2
      exact ⟨by rw [h1.out, h2.out]; rfl, B1.out.alloc B1.out.size _⟩
  have ht1 : 0 ≤ secs := by omega
  have ht2 : secs ≤ 4294944000 := by omega
  by_cases hx : 1000000000000 < costT s (secs - r) p
  · have h1 := Lib.hid (show codeT (oneT u s r p q) secs (costT s (secs - r) p) = 2 by unfold codeT; rw [if_neg (by simpa using hc), if_neg ht, if_pos hx])
    have h2 := Lib.hid (show valT (oneT u s r p q) secs (costT s (secs - r) p) = 0 by unfold valT; rw [h1.out]; rfl)
    clear hc ht
    go_enter Try.func25, Try.ntmps25
    go_wp2_with fail
    refine (alone29 f u s r p q _).mono ?_
    rw [Hc.out]
    rintro e w1 ⟨rfl, hb⟩
    have B1 := Lib.hid (Below.trans (box_bel w _) (hb.mono (by simp)))
    clear hb
    go_wp2_with fail
    refine (riding26 0 u s r p q secs _ (by omega) (by omega) (by omega) (by omega) (by omega) (by omega) (by omega) (by omega)).mono ?_
    rintro e w2 ⟨rfl, hb⟩
    have B2 := Lib.hid (Below.trans (B1.out.alloc B1.out.size (.cells #[.int .i64 0, .int .i64 u, .int .i64 s, .int .i64 r, .int .i64 p, .int .i64 q] 40)) (hb.mono (by have := B1.out.size; simp; omega)))
    clear hb
    go_wp2_with fail
    go_ret2
    exact ⟨by rw [h1.out, h2.out]; rfl, B2.out⟩
  · have h1 := Lib.hid (show codeT (oneT u s r p q) secs (costT s (secs - r) p) = 0 by unfold codeT; rw [if_neg (by simpa using hc), if_neg ht, if_neg hx])
    have h2 := Lib.hid (show valT (oneT u s r p q) secs (costT s (secs - r) p) = costT s (secs - r) p by unfold valT; rw [h1.out]; rfl)
    clear hc ht
    go_enter Try.func25, Try.ntmps25
    go_wp2_with fail
    refine (alone29 f u s r p q _).mono ?_
    rw [Hc.out]
    rintro e w1 ⟨rfl, hb⟩
    have B1 := Lib.hid (Below.trans (box_bel w _) (hb.mono (by simp)))
    clear hb
    go_wp2_with fail
    refine (riding26 0 u s r p q secs _ (by omega) (by omega) (by omega) (by omega) (by omega) (by omega) (by omega) (by omega)).mono ?_
    rintro e w2 ⟨rfl, hb⟩
    have B2 := Lib.hid (Below.trans (B1.out.alloc B1.out.size (.cells #[.int .i64 0, .int .i64 u, .int .i64 s, .int .i64 r, .int .i64 p, .int .i64 q] 40)) (hb.mono (by have := B1.out.size; simp; omega)))
    clear hb
    go_wp2_with fail
    go_ret2
    exact ⟨by rw [h1.out, h2.out]; rfl, B2.out⟩

theorem price28 (f u s r p q secs : Int) (w : World) :
    Calls Try.prog 25 #[.func (.func 28) #[] #[], tv f u s r p q, .int .i64 secs] w fun e w' => e = .returned (.tuple #[.int .i64 (valT (oneT u s r p q) secs (costT s secs q)), .int .i64 (codeT (oneT u s r p q) secs (costT s secs q))]) ∧ Below w.heap.size w w' := by
  by_cases hc : oneT u s r p q = 0
  case neg =>
    have hcb : (oneT u s r p q != 0) = true := by simpa using hc
    have h1 := Lib.hid (show codeT (oneT u s r p q) secs (costT s secs q) = oneT u s r p q from if_pos hc)
    have h2 := Lib.hid (show valT (oneT u s r p q) secs (costT s secs q) = 0 by unfold valT; rw [h1.out, if_neg hc])
    clear hc
    go_enter Try.func25, Try.ntmps25
    go_wp2_with fail
    refine (alone29 f u s r p q _).mono ?_
    rintro e w1 ⟨rfl, hb⟩
    have B1 := Lib.hid (Below.trans (box_bel w _) (hb.mono (by simp)))
    clear hb
    go_wp2_with fail
    go_ret2
    exact ⟨by rw [h1.out, h2.out]; rfl, B1.out.alloc B1.out.size _⟩
  have hr := ranged_bd (oneT_zero hc)
  have Hc := Lib.hid hc
  by_cases ht : secs < 0 ∨ 4294944000 < secs
  · have h1 := Lib.hid (show codeT (oneT u s r p q) secs (costT s secs q) = 1 by unfold codeT; rw [if_neg (by simpa using hc), if_pos ht])
    have h2 := Lib.hid (show valT (oneT u s r p q) secs (costT s secs q) = 0 by unfold valT; rw [h1.out]; rfl)
    clear hc hr
    rcases ht with ht | ht
    all_goals
      go_enter Try.func25, Try.ntmps25
      go_wp2_with fail
      refine (alone29 f u s r p q _).mono ?_
      rw [Hc.out]
      rintro e w1 ⟨rfl, hb⟩
      have B1 := Lib.hid (Below.trans (box_bel w _) (hb.mono (by simp)))
      clear hb
      go_wp2_with fail
      go_ret2
      exact ⟨by rw [h1.out, h2.out]; rfl, B1.out.alloc B1.out.size _⟩
  have ht1 : 0 ≤ secs := by omega
  have ht2 : secs ≤ 4294944000 := by omega
  by_cases hx : 1000000000000 < costT s secs q
  · have h1 := Lib.hid (show codeT (oneT u s r p q) secs (costT s secs q) = 2 by unfold codeT; rw [if_neg (by simpa using hc), if_neg ht, if_pos hx])
    have h2 := Lib.hid (show valT (oneT u s r p q) secs (costT s secs q) = 0 by unfold valT; rw [h1.out]; rfl)
    clear hc ht
    go_enter Try.func25, Try.ntmps25
    go_wp2_with fail
    refine (alone29 f u s r p q _).mono ?_
    rw [Hc.out]
    rintro e w1 ⟨rfl, hb⟩
    have B1 := Lib.hid (Below.trans (box_bel w _) (hb.mono (by simp)))
    clear hb
    go_wp2_with fail
    refine (pausing28 0 u s r p q secs _ (by omega) (by omega) (by omega) (by omega) (by omega) (by omega) (by omega) (by omega)).mono ?_
    rintro e w2 ⟨rfl, hb⟩
    have B2 := Lib.hid (Below.trans (B1.out.alloc B1.out.size (.cells #[.int .i64 0, .int .i64 u, .int .i64 s, .int .i64 r, .int .i64 p, .int .i64 q] 40)) (hb.mono (by have := B1.out.size; simp; omega)))
    clear hb
    go_wp2_with fail
    go_ret2
    exact ⟨by rw [h1.out, h2.out]; rfl, B2.out⟩
  · have h1 := Lib.hid (show codeT (oneT u s r p q) secs (costT s secs q) = 0 by unfold codeT; rw [if_neg (by simpa using hc), if_neg ht, if_neg hx])
    have h2 := Lib.hid (show valT (oneT u s r p q) secs (costT s secs q) = costT s secs q by unfold valT; rw [h1.out]; rfl)
    clear hc ht
    go_enter Try.func25, Try.ntmps25
    go_wp2_with fail
    refine (alone29 f u s r p q _).mono ?_
    rw [Hc.out]
    rintro e w1 ⟨rfl, hb⟩
    have B1 := Lib.hid (Below.trans (box_bel w _) (hb.mono (by simp)))
    clear hb
    go_wp2_with fail
    refine (pausing28 0 u s r p q secs _ (by omega) (by omega) (by omega) (by omega) (by omega) (by omega) (by omega) (by omega)).mono ?_
    rintro e w2 ⟨rfl, hb⟩
    have B2 := Lib.hid (Below.trans (B1.out.alloc B1.out.size (.cells #[.int .i64 0, .int .i64 u, .int .i64 s, .int .i64 r, .int .i64 p, .int .i64 q] 40)) (hb.mono (by have := B1.out.size; simp; omega)))
    clear hb
    go_wp2_with fail
    go_ret2
    exact ⟨by rw [h1.out, h2.out]; rfl, B2.out⟩

theorem time15 (f u s r p q secs : Int) (w : World) :
    Calls Try.prog 15 #[tv f u s r p q, .int .i64 secs] w fun e w' => e = .returned (.tuple #[.int .i64 (valT (oneT u s r p q) secs (costT s (secs - r) p)), .int .i64 (codeT (oneT u s r p q) secs (costT s (secs - r) p))]) ∧ Below w.heap.size w w' := by
  go_enter Try.func15, Try.ntmps15
  go_wp2_with fail
  refine (price26 f u s r p q secs _).mono ?_
  rintro e w1 ⟨rfl, hb⟩
  have B1 := Lib.hid (Below.trans (box_bel w _) (hb.mono (by simp)))
  clear hb
  go_wp2_with fail
  go_ret2
  exact ⟨rfl, B1.out⟩

theorem pauses17 (f u s r p q secs : Int) (w : World) :
    Calls Try.prog 17 #[tv f u s r p q, .int .i64 secs] w fun e w' => e = .returned (.tuple #[.int .i64 (valT (oneT u s r p q) secs (costT s secs q)), .int .i64 (codeT (oneT u s r p q) secs (costT s secs q))]) ∧ Below w.heap.size w w' := by
  go_enter Try.func17, Try.ntmps17
  go_wp2_with fail
  refine (price28 f u s r p q secs _).mono ?_
  rintro e w1 ⟨rfl, hb⟩
  have B1 := Lib.hid (Below.trans (box_bel w _) (hb.mono (by simp)))
  clear hb
  go_wp2_with fail
  go_ret2
  exact ⟨rfl, B1.out⟩
end Go.Proofs.Ytcmlipcgcjlopaa
