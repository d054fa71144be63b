/- The walks of the laws TariffChecks, TariffPrices, TariffLongest: each returns true, and writes nothing that was there. -/
import Derived.Test.YtcmlipcgcjlopaaTG
namespace Go.Proofs.Ytcmlipcgcjlopaa
open Go.RowKit
set_option maxHeartbeats 2000000
set_option maxRecDepth 100000
set_option linter.unusedVariables false

theorem law3_any (A : Option Addr) (n c : Nat) (g : Nat → Nat → Int) (t : Int) (w : World) (hr : FlatRd w A n 6 g) (m1 : n ≤ 9223372036854775807) :
    Calls Try.prog 3 #[.slice A n c, .int .i64 t] w fun e w' => e = .returned (.bool true) ∧ Below w.heap.size w w' := by
  have Hr := Lib.hid hr
  clear hr
  by_cases h1 : 12 < n
  · go_enter Try.func3, Try.ntmps3
    go_wp2_with fail
    refine (awake_any w).mono ?_
    rintro e w1 ⟨rfl, hb⟩
    go_wp2_with fail
    go_ret
    exact ⟨rfl, hb⟩
  go_enter Try.func3, Try.ntmps3
  go_wp2_with fail
  refine (at11 A n c g t w Hr.out m1).mono ?_
  rintro e w1 ⟨rfl, hb⟩
  have B := Lib.hid hb
  clear hb
  go_wp2_with fail
  refine (at12 A n c g t w1 (Hr.out.bel B.out) m1).mono ?_
  rintro e w2 ⟨rfl, hb⟩
  have B := Lib.hid (B.out.trans (hb.mono B.out.size))
  clear hb
  go_wp2_with fail
  refine (check13 A n c g w2 (Hr.out.bel B.out) m1).mono ?_
  rintro e w3 ⟨rfl, hb⟩
  have B := Lib.hid (B.out.trans (hb.mono B.out.size))
  clear hb
  go_wp2_with fail
  refine (check14 A n c g w3 (Hr.out.bel B.out) m1).mono ?_
  rintro e w4 ⟨rfl, hb⟩
  have B := Lib.hid (B.out.trans (hb.mono B.out.size))
  clear hb
  go_wp2_with fail
  refine (awake_any w4).mono ?_
  rintro e w5 ⟨rfl, hb⟩
  have B := Lib.hid (B.out.trans (hb.mono B.out.size))
  clear hb
  go_wp2_with fail
  go_ret
  exact ⟨rfl, B.out⟩

theorem law4_any (f u s r p q secs : Int) (w : World) :
    Calls Try.prog 4 #[tv f u s r p q, .int .i64 secs] w fun e w' => e = .returned (.bool true) ∧ Below w.heap.size w w' := by
  have Hk := Lib.hid (fun w1 h => one_block w #[.int .i64 f, .int .i64 u, .int .i64 s, .int .i64 r, .int .i64 p, .int .i64 q] 30 w1 h)
  go_enter Try.func4, Try.ntmps4
  go_wp2_with fail
  refine (time15 f u s r p q secs _).mono ?_
  rintro e w1 ⟨rfl, hb⟩
  have B : Hid (Below (w.heap.size + 1) (w.alloc (.cells #[.int .i64 f, .int .i64 u, .int .i64 s, .int .i64 r, .int .i64 p, .int .i64 q] 30)) w1) := Lib.hid (hb.mono (by simp))
  clear hb
  have ka := Hk.out w1 B.out
  have k0 := ka 0
  have k1 := ka 1
  have k2 := ka 2
  have k3 := ka 3
  have k4 := ka 4
  have k5 := ka 5
  simp only [List.getElem?_toArray, List.getElem?_cons_zero, List.getElem?_cons_succ] at k0 k1 k2 k3 k4 k5
  clear ka
  have hz : w.heap.size + 1 ≤ w1.heap.size := by have := B.out.size; simpa using this
  go_wp2_with fail
  refine (rtime16 f u s r p q secs _).mono ?_
  rintro e w2 ⟨rfl, hb⟩
  have B' := Lib.hid (B.out.trans (hb.mono hz))
  clear B k0 k1 k2 k3 k4 k5 hz
  have B := B'
  clear B'
  clear hb
  have ka := Hk.out w2 B.out
  have k0 := ka 0
  have k1 := ka 1
  have k2 := ka 2
  have k3 := ka 3
  have k4 := ka 4
  have k5 := ka 5
  simp only [List.getElem?_toArray, List.getElem?_cons_zero, List.getElem?_cons_succ] at k0 k1 k2 k3 k4 k5
  clear ka
  have hz : w.heap.size + 1 ≤ w2.heap.size := by have := B.out.size; simpa using this
  go_wp2_with fail
  refine (pauses17 f u s r p q secs _).mono ?_
  rintro e w3 ⟨rfl, hb⟩
  have B' := Lib.hid (B.out.trans (hb.mono hz))
  clear B k0 k1 k2 k3 k4 k5 hz
  have B := B'
  clear B'
  clear hb
  have ka := Hk.out w3 B.out
  have k0 := ka 0
  have k1 := ka 1
  have k2 := ka 2
  have k3 := ka 3
  have k4 := ka 4
  have k5 := ka 5
  simp only [List.getElem?_toArray, List.getElem?_cons_zero, List.getElem?_cons_succ] at k0 k1 k2 k3 k4 k5
  clear ka
  have hz : w.heap.size + 1 ≤ w3.heap.size := by have := B.out.size; simpa using this
  go_wp2_with fail
  refine (rpauses18 f u s r p q secs _).mono ?_
  rintro e w4 ⟨rfl, hb⟩
  have B' := Lib.hid (B.out.trans (hb.mono hz))
  clear B k0 k1 k2 k3 k4 k5 hz
  have B := B'
  clear B'
  clear hb
  have ka := Hk.out w4 B.out
  have k0 := ka 0
  have k1 := ka 1
  have k2 := ka 2
  have k3 := ka 3
  have k4 := ka 4
  have k5 := ka 5
  simp only [List.getElem?_toArray, List.getElem?_cons_zero, List.getElem?_cons_succ] at k0 k1 k2 k3 k4 k5
  clear ka
  have hz : w.heap.size + 1 ≤ w4.heap.size := by have := B.out.size; simpa using this
  go_wp2_with fail
  refine (awake_any _).mono ?_
  rintro e w9 ⟨rfl, hb⟩
  have B9 := Lib.hid (Below.trans (box_bel w _) ((B.out.trans (hb.mono hz)).mono (by omega)))
  clear hb
  go_wp2_with fail
  go_ret
  exact ⟨rfl, B9.out⟩

theorem law5_any (f u s r p q am : Int) (w : World) :
    Calls Try.prog 5 #[tv f u s r p q, .int .i64 am] w fun e w' => e = .returned (.bool true) ∧ Below w.heap.size w w' := by
  have Hk := Lib.hid (fun w1 h => one_block w #[.int .i64 f, .int .i64 u, .int .i64 s, .int .i64 r, .int .i64 p, .int .i64 q] 30 w1 h)
  go_enter Try.func5, Try.ntmps5
  go_wp2_with fail
  refine (longest19 f u s r p q am _).mono ?_
  rintro e w1 ⟨rfl, hb⟩
  have B : Hid (Below (w.heap.size + 1) (w.alloc (.cells #[.int .i64 f, .int .i64 u, .int .i64 s, .int .i64 r, .int .i64 p, .int .i64 q] 30)) w1) := Lib.hid (hb.mono (by simp))
  clear hb
  have ka := Hk.out w1 B.out
  have k0 := ka 0
  have k1 := ka 1
  have k2 := ka 2
  have k3 := ka 3
  have k4 := ka 4
  have k5 := ka 5
  simp only [List.getElem?_toArray, List.getElem?_cons_zero, List.getElem?_cons_succ] at k0 k1 k2 k3 k4 k5
  clear ka
  have hz : w.heap.size + 1 ≤ w1.heap.size := by have := B.out.size; simpa using this
  go_wp2_with fail
  refine (rlongest20 f u s r p q am _).mono ?_
  rintro e w2 ⟨rfl, hb⟩
  have B' := Lib.hid (B.out.trans (hb.mono hz))
  clear B k0 k1 k2 k3 k4 k5 hz
  have B := B'
  clear B'
  clear hb
  have ka := Hk.out w2 B.out
  have k0 := ka 0
  have k1 := ka 1
  have k2 := ka 2
  have k3 := ka 3
  have k4 := ka 4
  have k5 := ka 5
  simp only [List.getElem?_toArray, List.getElem?_cons_zero, List.getElem?_cons_succ] at k0 k1 k2 k3 k4 k5
  clear ka
  have hz : w.heap.size + 1 ≤ w2.heap.size := by have := B.out.size; simpa using this
  go_wp2_with fail
  refine (awake_any _).mono ?_
  rintro e w9 ⟨rfl, hb⟩
  have B9 := Lib.hid (Below.trans (box_bel w _) ((B.out.trans (hb.mono hz)).mono (by omega)))
  clear hb
  go_wp2_with fail
  go_ret
  exact ⟨rfl, B9.out⟩
end Go.Proofs.Ytcmlipcgcjlopaa
