/- The walk of Check of the reference, and of the charge at a voltage (program and reference). -/
import Derived.Test.YtgcjjnmdbdllhaaBB
namespace Go.Proofs.Ytgcjjnmdbdllhaa
open Go.RowKit
set_option maxHeartbeats 2000000
set_option maxRecDepth 100000
set_option linter.unusedVariables false

set_option maxHeartbeats 8000000 in
theorem check15 (b : BD) (w : World) (hr : b.rd w) : Calls Try.prog 15 #[b.val] w fun e w' => e = .returned (.int .i64 (chk b)) ∧ Below w.heap.size w w' := by
  have hr0 := hr
  obtain ⟨hv, hc, m1, m2⟩ := hr
  by_cases h3 : b.n ≠ b.m ∨ b.n < 2 ∨ 16 < b.n
  · have HC := Lib.hid (chk3 h3)
    obtain ⟨A, n, c, C, m, d, v, h, er, il, ih, rl, rh⟩ := b
    dsimp only at h3 m1 m2
    clear hr0 hv hc
    by_cases h4 : n = m
    · subst h4
      have q1 : ((n : Int) != (n : Int)) = false := by simp
      have h5 : n < 2 ∨ 16 < n := by omega
      rcases h5 with h5 | h5
      all_goals
        go_enter Try.func15, Try.ntmps15
        go_wp2_with fail
        go_ret
        exact ⟨ret_int HC.out.symm, box_bel _ _⟩
    · have q1 : ((n : Int) != (m : Int)) = true := by simp; omega
      clear h3
      go_enter Try.func15, Try.ntmps15
      go_wp2_with fail
      go_ret
      exact ⟨ret_int HC.out.symm, box_bel _ _⟩
  obtain ⟨A, n, c, C, m, d, v, h, er, il, ih, rl, rh⟩ := b
  dsimp only at h3 m1 m2 hv hc
  clear hr0
  obtain rfl : n = m := by omega
  have H3 := Lib.hid h3
  have n2 : 2 ≤ n := by omega
  have n16 : n ≤ 16 := by omega
  have q1 : ((n : Int) != (n : Int)) = false := by simp
  clear h3 m2
  obtain ⟨b1, o1, rfl, hb1, hz1⟩ := hv.at_ 0 (by omega)
  obtain ⟨b2, o2, rfl, hb2, hz2⟩ := hc.at_ 0 (by omega)
  clear hz1 hz2
  have HV := Lib.hid hv
  have HH := Lib.hid hc
  clear hv hc
  have hw1 : IntKind.i64.wrap ((n : Int) - 1) = (n : Int) - 1 := IntWalk.i64_in _ (by omega)
  have hn1 : ((n : Int) - 1).toNat = n - 1 := by omega
  have n0 : (0 : Int) < (n : Int) := by omega
  have hn2 : (0 : Int) ≤ (n : Int) - 1 := by omega
  have hn3 : (n : Int) - 1 < (n : Int) := by omega
  have Hk := Lib.hid (fun w1 hh => kcells (b := ⟨some ⟨b1, o1, none⟩, n, c, some ⟨b2, o2, none⟩, n, d, v, h, er, il, ih, rl, rh⟩) (one_block w _ 26 w1 hh))
  have Hb : Hid (Below (w.heap.size + 1) (w.alloc (.cells #[.slice (some ⟨b1, o1, none⟩) n c, .slice (some ⟨b2, o2, none⟩) n d, .int .i64 er, .int .i64 il, .int .i64 ih, .int .i64 rl, .int .i64 rh] 26)) (w.alloc (.cells #[.slice (some ⟨b1, o1, none⟩) n c, .slice (some ⟨b2, o2, none⟩) n d, .int .i64 er, .int .i64 il, .int .i64 ih, .int .i64 rl, .int .i64 rh] 26))) := Lib.hid (Below.refl _ _)
  have Hbb : Hid (∀ wr, Below (w.heap.size + 1) (w.alloc (.cells #[.slice (some ⟨b1, o1, none⟩) n c, .slice (some ⟨b2, o2, none⟩) n d, .int .i64 er, .int .i64 il, .int .i64 ih, .int .i64 rl, .int .i64 rh] 26)) wr → Below w.heap.size w wr) :=
    Lib.hid (fun wr hb => (box_bel w _).trans (hb.mono (by simp)))
  have Hcell : Hid (∀ wr, Below (w.heap.size + 1) (w.alloc (.cells #[.slice (some ⟨b1, o1, none⟩) n c, .slice (some ⟨b2, o2, none⟩) n d, .int .i64 er, .int .i64 il, .int .i64 ih, .int .i64 rl, .int .i64 rh] 26)) wr → wr.cell? ⟨b2, o2, none⟩ = some (.int .i64 (h 0)) ∧ wr.cell? ⟨b2, o2 + (n - 1), none⟩ = some (.int .i64 (h (n - 1)))) :=
    Lib.hid (fun wr hb => ⟨(HH.out.bel (Hbb.out wr hb)).cell 0 (by omega), (HH.out.bel (Hbb.out wr hb)).cell (n - 1) (by omega)⟩)
  by_cases c1 : ascP v n
  case neg =>
    have HC := Lib.hid (chk9 (b := ⟨some ⟨b1, o1, none⟩, n, c, some ⟨b2, o2, none⟩, n, d, v, h, er, il, ih, rl, rh⟩) H3.out (fun x => c1 x.1))
    have qc1 := ascB_f c1
    clear c1
    go_enter Try.func15, Try.ntmps15
    go_wp2_with fail
    refine (ascends29 (some ⟨b1, o1, none⟩) n _ v _ (HV.out.bel (Hbb.out _ Hb.out)) m1).mono ?_
    rw [qc1]
    rintro e w1 ⟨rfl, hb1⟩
    have Hb := Lib.hid (bel1 Hb.out hb1)
    clear hb1
    obtain ⟨k0, k1, k2, k3, k4, k5, k6⟩ := Hk.out _ Hb.out
    obtain ⟨y0, y1⟩ := Hcell.out _ Hb.out
    go_wp2_with fail
    go_ret
    exact ⟨ret_int HC.out.symm, Hbb.out _ Hb.out⟩
  have qc1 := ascB_t c1
  by_cases c2 : ascP h n
  case neg =>
    have HC := Lib.hid (chk9 (b := ⟨some ⟨b1, o1, none⟩, n, c, some ⟨b2, o2, none⟩, n, d, v, h, er, il, ih, rl, rh⟩) H3.out (fun x => c2 x.2))
    have qc2 := ascB_f c2
    clear c1 c2
    go_enter Try.func15, Try.ntmps15
    go_wp2_with fail
    refine (ascends29 (some ⟨b1, o1, none⟩) n _ v _ (HV.out.bel (Hbb.out _ Hb.out)) m1).mono ?_
    rw [qc1]
    rintro e w1 ⟨rfl, hb1⟩
    have Hb := Lib.hid (bel1 Hb.out hb1)
    clear hb1
    obtain ⟨k0, k1, k2, k3, k4, k5, k6⟩ := Hk.out _ Hb.out
    obtain ⟨y0, y1⟩ := Hcell.out _ Hb.out
    go_wp2_with fail
    refine (ascends29 (some ⟨b2, o2, none⟩) n _ h _ (HH.out.bel (Hbb.out _ Hb.out)) m1).mono ?_
    rw [qc2]
    rintro e w1 ⟨rfl, hb1⟩
    have Hb := Lib.hid (bel1 Hb.out hb1)
    clear hb1
    obtain ⟨k0, k1, k2, k3, k4, k5, k6⟩ := Hk.out _ Hb.out
    obtain ⟨y0, y1⟩ := Hcell.out _ Hb.out
    go_wp2_with fail
    go_ret
    exact ⟨ret_int HC.out.symm, Hbb.out _ Hb.out⟩
  have qc2 := ascB_t c2
  by_cases c3 : inP v 0 10000 n
  case neg =>
    have HC := Lib.hid (chk1 (b := ⟨some ⟨b1, o1, none⟩, n, c, some ⟨b2, o2, none⟩, n, d, v, h, er, il, ih, rl, rh⟩) H3.out ⟨c1, c2⟩ (fun x => c3 x.1))
    have qc3 := inrB_f c3
    clear c1 c2 c3
    go_enter Try.func15, Try.ntmps15
    go_wp2_with fail
    refine (ascends29 (some ⟨b1, o1, none⟩) n _ v _ (HV.out.bel (Hbb.out _ Hb.out)) m1).mono ?_
    rw [qc1]
    rintro e w1 ⟨rfl, hb1⟩
    have Hb := Lib.hid (bel1 Hb.out hb1)
    clear hb1
    obtain ⟨k0, k1, k2, k3, k4, k5, k6⟩ := Hk.out _ Hb.out
    obtain ⟨y0, y1⟩ := Hcell.out _ Hb.out
    go_wp2_with fail
    refine (ascends29 (some ⟨b2, o2, none⟩) n _ h _ (HH.out.bel (Hbb.out _ Hb.out)) m1).mono ?_
    rw [qc2]
    rintro e w1 ⟨rfl, hb1⟩
    have Hb := Lib.hid (bel1 Hb.out hb1)
    clear hb1
    obtain ⟨k0, k1, k2, k3, k4, k5, k6⟩ := Hk.out _ Hb.out
    obtain ⟨y0, y1⟩ := Hcell.out _ Hb.out
    go_wp2_with fail
    refine (within30 (some ⟨b1, o1, none⟩) n _ v _ _ _ (HV.out.bel (Hbb.out _ Hb.out)) m1).mono ?_
    rw [qc3]
    rintro e w1 ⟨rfl, hb1⟩
    have Hb := Lib.hid (bel1 Hb.out hb1)
    clear hb1
    obtain ⟨k0, k1, k2, k3, k4, k5, k6⟩ := Hk.out _ Hb.out
    obtain ⟨y0, y1⟩ := Hcell.out _ Hb.out
    go_wp2_with fail
    go_ret
    exact ⟨ret_int HC.out.symm, Hbb.out _ Hb.out⟩
  have qc3 := inrB_t c3
  by_cases c4 : inP h 0 1000 n
  case neg =>
    have HC := Lib.hid (chk1 (b := ⟨some ⟨b1, o1, none⟩, n, c, some ⟨b2, o2, none⟩, n, d, v, h, er, il, ih, rl, rh⟩) H3.out ⟨c1, c2⟩ (fun x => c4 x.2.1))
    have qc4 := inrB_f c4
    clear c1 c2 c3 c4
    go_enter Try.func15, Try.ntmps15
    go_wp2_with fail
    refine (ascends29 (some ⟨b1, o1, none⟩) n _ v _ (HV.out.bel (Hbb.out _ Hb.out)) m1).mono ?_
    rw [qc1]
    rintro e w1 ⟨rfl, hb1⟩
    have Hb := Lib.hid (bel1 Hb.out hb1)
    clear hb1
    obtain ⟨k0, k1, k2, k3, k4, k5, k6⟩ := Hk.out _ Hb.out
    obtain ⟨y0, y1⟩ := Hcell.out _ Hb.out
    go_wp2_with fail
    refine (ascends29 (some ⟨b2, o2, none⟩) n _ h _ (HH.out.bel (Hbb.out _ Hb.out)) m1).mono ?_
    rw [qc2]
    rintro e w1 ⟨rfl, hb1⟩
    have Hb := Lib.hid (bel1 Hb.out hb1)
    clear hb1
    obtain ⟨k0, k1, k2, k3, k4, k5, k6⟩ := Hk.out _ Hb.out
    obtain ⟨y0, y1⟩ := Hcell.out _ Hb.out
    go_wp2_with fail
    refine (within30 (some ⟨b1, o1, none⟩) n _ v _ _ _ (HV.out.bel (Hbb.out _ Hb.out)) m1).mono ?_
    rw [qc3]
    rintro e w1 ⟨rfl, hb1⟩
    have Hb := Lib.hid (bel1 Hb.out hb1)
    clear hb1
    obtain ⟨k0, k1, k2, k3, k4, k5, k6⟩ := Hk.out _ Hb.out
    obtain ⟨y0, y1⟩ := Hcell.out _ Hb.out
    go_wp2_with fail
    refine (within30 (some ⟨b2, o2, none⟩) n _ h _ _ _ (HH.out.bel (Hbb.out _ Hb.out)) m1).mono ?_
    rw [qc4]
    rintro e w1 ⟨rfl, hb1⟩
    have Hb := Lib.hid (bel1 Hb.out hb1)
    clear hb1
    obtain ⟨k0, k1, k2, k3, k4, k5, k6⟩ := Hk.out _ Hb.out
    obtain ⟨y0, y1⟩ := Hcell.out _ Hb.out
    go_wp2_with fail
    go_ret
    exact ⟨ret_int HC.out.symm, Hbb.out _ Hb.out⟩
  have qc4 := inrB_t c4
  by_cases c5 : h 0 = 0
  case neg =>
    have HC := Lib.hid (chk1 (b := ⟨some ⟨b1, o1, none⟩, n, c, some ⟨b2, o2, none⟩, n, d, v, h, er, il, ih, rl, rh⟩) H3.out ⟨c1, c2⟩ (fun x => c5 x.2.2.1))
    have qc5 : (h 0 != 0) = true := by simpa using c5
    clear c1 c2 c3 c4 c5
    go_enter Try.func15, Try.ntmps15
    go_wp2_with fail
    refine (ascends29 (some ⟨b1, o1, none⟩) n _ v _ (HV.out.bel (Hbb.out _ Hb.out)) m1).mono ?_
    rw [qc1]
    rintro e w1 ⟨rfl, hb1⟩
    have Hb := Lib.hid (bel1 Hb.out hb1)
    clear hb1
    obtain ⟨k0, k1, k2, k3, k4, k5, k6⟩ := Hk.out _ Hb.out
    obtain ⟨y0, y1⟩ := Hcell.out _ Hb.out
    go_wp2_with fail
    refine (ascends29 (some ⟨b2, o2, none⟩) n _ h _ (HH.out.bel (Hbb.out _ Hb.out)) m1).mono ?_
    rw [qc2]
    rintro e w1 ⟨rfl, hb1⟩
    have Hb := Lib.hid (bel1 Hb.out hb1)
    clear hb1
    obtain ⟨k0, k1, k2, k3, k4, k5, k6⟩ := Hk.out _ Hb.out
    obtain ⟨y0, y1⟩ := Hcell.out _ Hb.out
    go_wp2_with fail
    refine (within30 (some ⟨b1, o1, none⟩) n _ v _ _ _ (HV.out.bel (Hbb.out _ Hb.out)) m1).mono ?_
    rw [qc3]
    rintro e w1 ⟨rfl, hb1⟩
    have Hb := Lib.hid (bel1 Hb.out hb1)
    clear hb1
    obtain ⟨k0, k1, k2, k3, k4, k5, k6⟩ := Hk.out _ Hb.out
    obtain ⟨y0, y1⟩ := Hcell.out _ Hb.out
    go_wp2_with fail
    refine (within30 (some ⟨b2, o2, none⟩) n _ h _ _ _ (HH.out.bel (Hbb.out _ Hb.out)) m1).mono ?_
    rw [qc4]
    rintro e w1 ⟨rfl, hb1⟩
    have Hb := Lib.hid (bel1 Hb.out hb1)
    clear hb1
    obtain ⟨k0, k1, k2, k3, k4, k5, k6⟩ := Hk.out _ Hb.out
    obtain ⟨y0, y1⟩ := Hcell.out _ Hb.out
    go_wp2_with fail
    go_ret
    exact ⟨ret_int HC.out.symm, Hbb.out _ Hb.out⟩
  have qc5 : (h 0 != 0) = false := by simpa using c5
  by_cases c6 : h (n - 1) = 1000
  case neg =>
    have HC := Lib.hid (chk1 (b := ⟨some ⟨b1, o1, none⟩, n, c, some ⟨b2, o2, none⟩, n, d, v, h, er, il, ih, rl, rh⟩) H3.out ⟨c1, c2⟩ (fun x => c6 x.2.2.2.1))
    have qc6 : (h (n - 1) != 1000) = true := by simpa using c6
    clear c1 c2 c3 c4 c5 c6
    go_enter Try.func15, Try.ntmps15
    go_wp2_with fail
    refine (ascends29 (some ⟨b1, o1, none⟩) n _ v _ (HV.out.bel (Hbb.out _ Hb.out)) m1).mono ?_
    rw [qc1]
    rintro e w1 ⟨rfl, hb1⟩
    have Hb := Lib.hid (bel1 Hb.out hb1)
    clear hb1
    obtain ⟨k0, k1, k2, k3, k4, k5, k6⟩ := Hk.out _ Hb.out
    obtain ⟨y0, y1⟩ := Hcell.out _ Hb.out
    go_wp2_with fail
    refine (ascends29 (some ⟨b2, o2, none⟩) n _ h _ (HH.out.bel (Hbb.out _ Hb.out)) m1).mono ?_
    rw [qc2]
    rintro e w1 ⟨rfl, hb1⟩
    have Hb := Lib.hid (bel1 Hb.out hb1)
    clear hb1
    obtain ⟨k0, k1, k2, k3, k4, k5, k6⟩ := Hk.out _ Hb.out
    obtain ⟨y0, y1⟩ := Hcell.out _ Hb.out
    go_wp2_with fail
    refine (within30 (some ⟨b1, o1, none⟩) n _ v _ _ _ (HV.out.bel (Hbb.out _ Hb.out)) m1).mono ?_
    rw [qc3]
    rintro e w1 ⟨rfl, hb1⟩
    have Hb := Lib.hid (bel1 Hb.out hb1)
    clear hb1
    obtain ⟨k0, k1, k2, k3, k4, k5, k6⟩ := Hk.out _ Hb.out
    obtain ⟨y0, y1⟩ := Hcell.out _ Hb.out
    go_wp2_with fail
    refine (within30 (some ⟨b2, o2, none⟩) n _ h _ _ _ (HH.out.bel (Hbb.out _ Hb.out)) m1).mono ?_
    rw [qc4]
    rintro e w1 ⟨rfl, hb1⟩
    have Hb := Lib.hid (bel1 Hb.out hb1)
    clear hb1
    obtain ⟨k0, k1, k2, k3, k4, k5, k6⟩ := Hk.out _ Hb.out
    obtain ⟨y0, y1⟩ := Hcell.out _ Hb.out
    go_wp2_with fail
    go_ret
    exact ⟨ret_int HC.out.symm, Hbb.out _ Hb.out⟩
  have qc6 : (h (n - 1) != 1000) = false := by simpa using c6
  by_cases c7 : 0 ≤ er ∧ er ≤ 1000
  case neg =>
    have HC := Lib.hid (chk1 (b := ⟨some ⟨b1, o1, none⟩, n, c, some ⟨b2, o2, none⟩, n, d, v, h, er, il, ih, rl, rh⟩) H3.out ⟨c1, c2⟩ (fun x => c7 x.2.2.2.2.1))
    have h7 : er < 0 ∨ 1000 < er := by omega
    clear c1 c2 c3 c4 c5 c6 c7
    rcases h7 with h7 | h7
    all_goals
      go_enter Try.func15, Try.ntmps15
      go_wp2_with fail
      refine (ascends29 (some ⟨b1, o1, none⟩) n _ v _ (HV.out.bel (Hbb.out _ Hb.out)) m1).mono ?_
      rw [qc1]
      rintro e w1 ⟨rfl, hb1⟩
      have Hb := Lib.hid (bel1 Hb.out hb1)
      clear hb1
      obtain ⟨k0, k1, k2, k3, k4, k5, k6⟩ := Hk.out _ Hb.out
      obtain ⟨y0, y1⟩ := Hcell.out _ Hb.out
      go_wp2_with fail
      refine (ascends29 (some ⟨b2, o2, none⟩) n _ h _ (HH.out.bel (Hbb.out _ Hb.out)) m1).mono ?_
      rw [qc2]
      rintro e w1 ⟨rfl, hb1⟩
      have Hb := Lib.hid (bel1 Hb.out hb1)
      clear hb1
      obtain ⟨k0, k1, k2, k3, k4, k5, k6⟩ := Hk.out _ Hb.out
      obtain ⟨y0, y1⟩ := Hcell.out _ Hb.out
      go_wp2_with fail
      refine (within30 (some ⟨b1, o1, none⟩) n _ v _ _ _ (HV.out.bel (Hbb.out _ Hb.out)) m1).mono ?_
      rw [qc3]
      rintro e w1 ⟨rfl, hb1⟩
      have Hb := Lib.hid (bel1 Hb.out hb1)
      clear hb1
      obtain ⟨k0, k1, k2, k3, k4, k5, k6⟩ := Hk.out _ Hb.out
      obtain ⟨y0, y1⟩ := Hcell.out _ Hb.out
      go_wp2_with fail
      refine (within30 (some ⟨b2, o2, none⟩) n _ h _ _ _ (HH.out.bel (Hbb.out _ Hb.out)) m1).mono ?_
      rw [qc4]
      rintro e w1 ⟨rfl, hb1⟩
      have Hb := Lib.hid (bel1 Hb.out hb1)
      clear hb1
      obtain ⟨k0, k1, k2, k3, k4, k5, k6⟩ := Hk.out _ Hb.out
      obtain ⟨y0, y1⟩ := Hcell.out _ Hb.out
      go_wp2_with fail
      go_ret
      exact ⟨ret_int HC.out.symm, Hbb.out _ Hb.out⟩
  have q7 : 0 ≤ er := c7.1
  have q8 : er ≤ 1000 := c7.2
  by_cases c8 : spP il ih
  case neg =>
    have HC := Lib.hid (chk1 (b := ⟨some ⟨b1, o1, none⟩, n, c, some ⟨b2, o2, none⟩, n, d, v, h, er, il, ih, rl, rh⟩) H3.out ⟨c1, c2⟩ (fun x => c8 x.2.2.2.2.2.1))
    have qc8 := spB_f c8
    clear c1 c2 c3 c4 c5 c6 c7 c8
    go_enter Try.func15, Try.ntmps15
    go_wp2_with fail
    refine (ascends29 (some ⟨b1, o1, none⟩) n _ v _ (HV.out.bel (Hbb.out _ Hb.out)) m1).mono ?_
    rw [qc1]
    rintro e w1 ⟨rfl, hb1⟩
    have Hb := Lib.hid (bel1 Hb.out hb1)
    clear hb1
    obtain ⟨k0, k1, k2, k3, k4, k5, k6⟩ := Hk.out _ Hb.out
    obtain ⟨y0, y1⟩ := Hcell.out _ Hb.out
    go_wp2_with fail
    refine (ascends29 (some ⟨b2, o2, none⟩) n _ h _ (HH.out.bel (Hbb.out _ Hb.out)) m1).mono ?_
    rw [qc2]
    rintro e w1 ⟨rfl, hb1⟩
    have Hb := Lib.hid (bel1 Hb.out hb1)
    clear hb1
    obtain ⟨k0, k1, k2, k3, k4, k5, k6⟩ := Hk.out _ Hb.out
    obtain ⟨y0, y1⟩ := Hcell.out _ Hb.out
    go_wp2_with fail
    refine (within30 (some ⟨b1, o1, none⟩) n _ v _ _ _ (HV.out.bel (Hbb.out _ Hb.out)) m1).mono ?_
    rw [qc3]
    rintro e w1 ⟨rfl, hb1⟩
    have Hb := Lib.hid (bel1 Hb.out hb1)
    clear hb1
    obtain ⟨k0, k1, k2, k3, k4, k5, k6⟩ := Hk.out _ Hb.out
    obtain ⟨y0, y1⟩ := Hcell.out _ Hb.out
    go_wp2_with fail
    refine (within30 (some ⟨b2, o2, none⟩) n _ h _ _ _ (HH.out.bel (Hbb.out _ Hb.out)) m1).mono ?_
    rw [qc4]
    rintro e w1 ⟨rfl, hb1⟩
    have Hb := Lib.hid (bel1 Hb.out hb1)
    clear hb1
    obtain ⟨k0, k1, k2, k3, k4, k5, k6⟩ := Hk.out _ Hb.out
    obtain ⟨y0, y1⟩ := Hcell.out _ Hb.out
    go_wp2_with fail
    refine (interval21 _ _ _).mono ?_
    rw [qc8]
    rintro e w1 ⟨rfl, hb1⟩
    have Hb := Lib.hid (bel1 Hb.out hb1)
    clear hb1
    obtain ⟨k0, k1, k2, k3, k4, k5, k6⟩ := Hk.out _ Hb.out
    obtain ⟨y0, y1⟩ := Hcell.out _ Hb.out
    go_wp2_with fail
    go_ret
    exact ⟨ret_int HC.out.symm, Hbb.out _ Hb.out⟩
  have qc8 := spB_t c8
  by_cases c9 : spP rl rh
  case neg =>
    have HC := Lib.hid (chk1 (b := ⟨some ⟨b1, o1, none⟩, n, c, some ⟨b2, o2, none⟩, n, d, v, h, er, il, ih, rl, rh⟩) H3.out ⟨c1, c2⟩ (fun x => c9 x.2.2.2.2.2.2))
    have qc9 := spB_f c9
    clear c1 c2 c3 c4 c5 c6 c7 c8 c9
    go_enter Try.func15, Try.ntmps15
    go_wp2_with fail
    refine (ascends29 (some ⟨b1, o1, none⟩) n _ v _ (HV.out.bel (Hbb.out _ Hb.out)) m1).mono ?_
    rw [qc1]
    rintro e w1 ⟨rfl, hb1⟩
    have Hb := Lib.hid (bel1 Hb.out hb1)
    clear hb1
    obtain ⟨k0, k1, k2, k3, k4, k5, k6⟩ := Hk.out _ Hb.out
    obtain ⟨y0, y1⟩ := Hcell.out _ Hb.out
    go_wp2_with fail
    refine (ascends29 (some ⟨b2, o2, none⟩) n _ h _ (HH.out.bel (Hbb.out _ Hb.out)) m1).mono ?_
    rw [qc2]
    rintro e w1 ⟨rfl, hb1⟩
    have Hb := Lib.hid (bel1 Hb.out hb1)
    clear hb1
    obtain ⟨k0, k1, k2, k3, k4, k5, k6⟩ := Hk.out _ Hb.out
    obtain ⟨y0, y1⟩ := Hcell.out _ Hb.out
    go_wp2_with fail
    refine (within30 (some ⟨b1, o1, none⟩) n _ v _ _ _ (HV.out.bel (Hbb.out _ Hb.out)) m1).mono ?_
    rw [qc3]
    rintro e w1 ⟨rfl, hb1⟩
    have Hb := Lib.hid (bel1 Hb.out hb1)
    clear hb1
    obtain ⟨k0, k1, k2, k3, k4, k5, k6⟩ := Hk.out _ Hb.out
    obtain ⟨y0, y1⟩ := Hcell.out _ Hb.out
    go_wp2_with fail
    refine (within30 (some ⟨b2, o2, none⟩) n _ h _ _ _ (HH.out.bel (Hbb.out _ Hb.out)) m1).mono ?_
    rw [qc4]
    rintro e w1 ⟨rfl, hb1⟩
    have Hb := Lib.hid (bel1 Hb.out hb1)
    clear hb1
    obtain ⟨k0, k1, k2, k3, k4, k5, k6⟩ := Hk.out _ Hb.out
    obtain ⟨y0, y1⟩ := Hcell.out _ Hb.out
    go_wp2_with fail
    refine (interval21 _ _ _).mono ?_
    rw [qc8]
    rintro e w1 ⟨rfl, hb1⟩
    have Hb := Lib.hid (bel1 Hb.out hb1)
    clear hb1
    obtain ⟨k0, k1, k2, k3, k4, k5, k6⟩ := Hk.out _ Hb.out
    obtain ⟨y0, y1⟩ := Hcell.out _ Hb.out
    go_wp2_with fail
    refine (interval21 _ _ _).mono ?_
    rw [qc9]
    rintro e w1 ⟨rfl, hb1⟩
    have Hb := Lib.hid (bel1 Hb.out hb1)
    clear hb1
    obtain ⟨k0, k1, k2, k3, k4, k5, k6⟩ := Hk.out _ Hb.out
    obtain ⟨y0, y1⟩ := Hcell.out _ Hb.out
    go_wp2_with fail
    go_ret
    exact ⟨ret_int HC.out.symm, Hbb.out _ Hb.out⟩
  have qc9 := spB_t c9
  have HC := Lib.hid (chk0 (b := ⟨some ⟨b1, o1, none⟩, n, c, some ⟨b2, o2, none⟩, n, d, v, h, er, il, ih, rl, rh⟩) H3.out ⟨c1, c2⟩ ⟨c3, c4, c5, c6, c7, c8, c9⟩)
  clear c1 c2 c3 c4 c5 c6 c7 c8 c9
  go_enter Try.func15, Try.ntmps15
  go_wp2_with fail
  refine (ascends29 (some ⟨b1, o1, none⟩) n _ v _ (HV.out.bel (Hbb.out _ Hb.out)) m1).mono ?_
  rw [qc1]
  rintro e w1 ⟨rfl, hb1⟩
  have Hb := Lib.hid (bel1 Hb.out hb1)
  clear hb1
  obtain ⟨k0, k1, k2, k3, k4, k5, k6⟩ := Hk.out _ Hb.out
  obtain ⟨y0, y1⟩ := Hcell.out _ Hb.out
  go_wp2_with fail
  refine (ascends29 (some ⟨b2, o2, none⟩) n _ h _ (HH.out.bel (Hbb.out _ Hb.out)) m1).mono ?_
  rw [qc2]
  rintro e w1 ⟨rfl, hb1⟩
  have Hb := Lib.hid (bel1 Hb.out hb1)
  clear hb1
  obtain ⟨k0, k1, k2, k3, k4, k5, k6⟩ := Hk.out _ Hb.out
  obtain ⟨y0, y1⟩ := Hcell.out _ Hb.out
  go_wp2_with fail
  refine (within30 (some ⟨b1, o1, none⟩) n _ v _ _ _ (HV.out.bel (Hbb.out _ Hb.out)) m1).mono ?_
  rw [qc3]
  rintro e w1 ⟨rfl, hb1⟩
  have Hb := Lib.hid (bel1 Hb.out hb1)
  clear hb1
  obtain ⟨k0, k1, k2, k3, k4, k5, k6⟩ := Hk.out _ Hb.out
  obtain ⟨y0, y1⟩ := Hcell.out _ Hb.out
  go_wp2_with fail
  refine (within30 (some ⟨b2, o2, none⟩) n _ h _ _ _ (HH.out.bel (Hbb.out _ Hb.out)) m1).mono ?_
  rw [qc4]
  rintro e w1 ⟨rfl, hb1⟩
  have Hb := Lib.hid (bel1 Hb.out hb1)
  clear hb1
  obtain ⟨k0, k1, k2, k3, k4, k5, k6⟩ := Hk.out _ Hb.out
  obtain ⟨y0, y1⟩ := Hcell.out _ Hb.out
  go_wp2_with fail
  refine (interval21 _ _ _).mono ?_
  rw [qc8]
  rintro e w1 ⟨rfl, hb1⟩
  have Hb := Lib.hid (bel1 Hb.out hb1)
  clear hb1
  obtain ⟨k0, k1, k2, k3, k4, k5, k6⟩ := Hk.out _ Hb.out
  obtain ⟨y0, y1⟩ := Hcell.out _ Hb.out
  go_wp2_with fail
  refine (interval21 _ _ _).mono ?_
  rw [qc9]
  rintro e w1 ⟨rfl, hb1⟩
  have Hb := Lib.hid (bel1 Hb.out hb1)
  clear hb1
  obtain ⟨k0, k1, k2, k3, k4, k5, k6⟩ := Hk.out _ Hb.out
  obtain ⟨y0, y1⟩ := Hcell.out _ Hb.out
  go_wp2_with fail
  go_ret
  exact ⟨ret_int HC.out.symm, Hbb.out _ Hb.out⟩

theorem eqs_at {w wr : World} {b1 o1 n : Nat} {f : Nat → Int} (h : SlI w (some ⟨b1, o1, none⟩) n f) (hb : Below w.heap.size w wr) (hn : 2 ≤ n) : wr.cell? ⟨b1, o1, none⟩ = some (.int .i64 (f 0)) ∧ wr.cell? ⟨b1, o1 + (n - 1), none⟩ = some (.int .i64 (f (n - 1))) :=
  ⟨(h.bel hb).cell 0 (by omega), (h.bel hb).cell (n - 1) (by omega)⟩

theorem at27 (b : BD) (x : Int) (w : World) (hr : b.rd w) (hok : OkB b) (x0 : -1000 ≤ x) (x1 : x ≤ 11000) :
    Calls Try.prog 27 #[b.val, .int .i64 x] w fun e w' => e = .returned (.tuple #[.int .i64 (loAt b x), .int .i64 (hiAt b x)]) ∧ Below w.heap.size w w' := by
  obtain ⟨hv, hc, m1, m2⟩ := hr
  obtain ⟨A, n, c, C, m, d, v, h, er, il, ih, rl, rh⟩ := b
  obtain rfl : n = m := hok.nm.symm
  have n2 : 2 ≤ n := hok.n2
  have n16 : n ≤ 16 := hok.n16
  dsimp only at hv hc m1 m2
  clear m2
  obtain ⟨b1, o1, rfl, hb1, hz1⟩ := hv.at_ 0 (by omega)
  obtain ⟨b2, o2, rfl, hb2, hz2⟩ := hc.at_ 0 (by omega)
  clear hz1 hz2
  have Hok := Lib.hid hok
  have HV := Lib.hid hv
  have HH := Lib.hid hc
  clear hv hc hok
  have hw1 : IntKind.i64.wrap ((n : Int) - 1) = (n : Int) - 1 := IntWalk.i64_in _ (by omega)
  have hn1 : ((n : Int) - 1).toNat = n - 1 := by omega
  have n0 : (0 : Int) < (n : Int) := by omega
  have hn2 : (0 : Int) ≤ (n : Int) - 1 := by omega
  have hn3 : (n : Int) - 1 < (n : Int) := by omega
  have Hk := Lib.hid (fun w1 hh => kcells (b := ⟨some ⟨b1, o1, none⟩, n, c, some ⟨b2, o2, none⟩, n, d, v, h, er, il, ih, rl, rh⟩) (one_block w _ 26 w1 hh))
  have Hbb : Hid (∀ wr, Below (w.heap.size + 1) (w.alloc (.cells #[.slice (some ⟨b1, o1, none⟩) n c, .slice (some ⟨b2, o2, none⟩) n d, .int .i64 er, .int .i64 il, .int .i64 ih, .int .i64 rl, .int .i64 rh] 26)) wr → Below w.heap.size w wr) :=
    Lib.hid (fun wr hb => (box_bel w _).trans (hb.mono (by simp)))
  obtain ⟨z0, z1⟩ := eqs_at HV.out (box_bel w (.cells #[.slice (some ⟨b1, o1, none⟩) n c, .slice (some ⟨b2, o2, none⟩) n d, .int .i64 er, .int .i64 il, .int .i64 ih, .int .i64 rl, .int .i64 rh] 26)) n2
  obtain ⟨y0, y1⟩ := eqs_at HH.out (box_bel w (.cells #[.slice (some ⟨b1, o1, none⟩) n c, .slice (some ⟨b2, o2, none⟩) n d, .int .i64 er, .int .i64 il, .int .i64 ih, .int .i64 rl, .int .i64 rh] 26)) n2
  by_cases c0 : x ≤ v 0
  · have H1 := Lib.hid (show loAt ⟨some ⟨b1, o1, none⟩, n, c, some ⟨b2, o2, none⟩, n, d, v, h, er, il, ih, rl, rh⟩ x = 0 ∧ hiAt ⟨some ⟨b1, o1, none⟩, n, c, some ⟨b2, o2, none⟩, n, d, v, h, er, il, ih, rl, rh⟩ x = 0 by
      unfold loAt hiAt; rw [(at_first (b := ⟨some ⟨b1, o1, none⟩, n, c, some ⟨b2, o2, none⟩, n, d, v, h, er, il, ih, rl, rh⟩) c0).1, (at_first (b := ⟨some ⟨b1, o1, none⟩, n, c, some ⟨b2, o2, none⟩, n, d, v, h, er, il, ih, rl, rh⟩) c0).2]; exact ⟨rfl, rfl⟩)
    go_enter Try.func27, Try.ntmps27
    go_wp2_with fail
    go_ret2
    exact ⟨by rw [H1.out.1, H1.out.2]; rfl, box_bel _ _⟩
  by_cases c1 : v (n - 1) ≤ x
  · have H1 := Lib.hid (show loAt ⟨some ⟨b1, o1, none⟩, n, c, some ⟨b2, o2, none⟩, n, d, v, h, er, il, ih, rl, rh⟩ x = 1000 ∧ hiAt ⟨some ⟨b1, o1, none⟩, n, c, some ⟨b2, o2, none⟩, n, d, v, h, er, il, ih, rl, rh⟩ x = 1000 by
      unfold loAt hiAt; rw [(at_last (b := ⟨some ⟨b1, o1, none⟩, n, c, some ⟨b2, o2, none⟩, n, d, v, h, er, il, ih, rl, rh⟩) c0 c1).1, (at_last (b := ⟨some ⟨b1, o1, none⟩, n, c, some ⟨b2, o2, none⟩, n, d, v, h, er, il, ih, rl, rh⟩) c0 c1).2]; exact ⟨rfl, rfl⟩)
    go_enter Try.func27, Try.ntmps27
    go_wp2_with fail
    go_ret2
    exact ⟨by rw [H1.out.1, H1.out.2]; rfl, box_bel _ _⟩
  have HP := Lib.hid (fun i hi h3 h4 => at_mid (b := ⟨some ⟨b1, o1, none⟩, n, c, some ⟨b2, o2, none⟩, n, d, v, h, er, il, ih, rl, rh⟩) c0 c1 Hok.out.av (i := i) hi h3 h4)
  have Hx := Lib.hid (show ¬ x ≤ v 0 ∧ ¬ v (n - 1) ≤ x from ⟨c0, c1⟩)
  go_enter Try.func27, Try.ntmps27
  go_wp2_with fail
  go_loopw [7] (fun i wr => ∃ k : Nat, k + 1 < n ∧ i = .int .i64 k ∧ Hid (v k ≤ x) ∧ Hid (Below (w.heap.size + 1) (w.alloc (.cells #[.slice (some ⟨b1, o1, none⟩) n c, .slice (some ⟨b2, o2, none⟩) n d, .int .i64 er, .int .i64 il, .int .i64 ih, .int .i64 rl, .int .i64 rh] 26)) wr)) (fun i _ => n - (intOf i).toNat)
  case atStart => exact ⟨0, by omega, rfl, Lib.hid (by omega), Lib.hid (Below.refl _ _)⟩
  case round =>
    clear y0 y1 z0 z1 c0 c1
    obtain ⟨k, hk, rfl, Hs, Hb⟩ := hrel
    obtain ⟨k0, k1, k2, k3, k4, k5, k6⟩ := Hk.out wr Hb.out
    clear k2 k3 k4 k5 k6
    have HV' := Lib.hid (HV.out.bel (Hbb.out wr Hb.out))
    have HH' := Lib.hid (HH.out.bel (Hbb.out wr Hb.out))
    have z0 := HV'.out.cell k (by omega)
    have z1 := HV'.out.cell (k + 1) hk
    have hltJ : (k : Int) + 1 < (n : Int) := by omega
    have hltK : (k : Int) < (n : Int) := by omega
    have hw2 : IntKind.i64.wrap ((k : Int) + 1) = (k : Int) + 1 := IntWalk.i64_in _ (by omega)
    by_cases hc : v (k + 1) ≤ x
    · have hk2 : k + 2 < n := by
        by_cases he : k + 2 = n
        · have := Hx.out.2; rw [show n - 1 = k + 1 by omega] at this; omega
        · omega
      have HE := Lib.hid hc
      go_wp2_with fail
      go_roundw
      case rel => exact ⟨k + 1, by omega, by go_num, HE, Lib.hid Hb.out⟩
      case measure => simp [intOf]; omega
    · have hd := Hok.out.av k hk
      have hh := Hok.out.ah k hk
      have rv0 := Hok.out.rv k (by show k < n; omega)
      have rv1 := Hok.out.rv (k + 1) hk
      have rh0 := Hok.out.rh k (by show k < n; omega)
      have rh1 := Hok.out.rh (k + 1) hk
      have hs := Hs.out
      have HPk := Lib.hid (HP.out k hk Hs.out (by omega))
      dsimp only at hd hh rv0 rv1 rh0 rh1
      have y0 := HH'.out.cell k (by omega)
      have y1 := HH'.out.cell (k + 1) hk
      obtain ⟨d1, hd1⟩ : ∃ d1, d1 = v (k + 1) - v k := ⟨_, rfl⟩
      obtain ⟨r1, hr1⟩ : ∃ r1, r1 = (x - v k) * (h (k + 1) - h k) := ⟨_, rfl⟩
      have a0 : 0 ≤ r1 := by rw [hr1]; exact Int.mul_nonneg (by omega) (by omega)
      have a1 : r1 ≤ 12000 * 1000 := by rw [hr1]; exact Int.mul_le_mul (by omega) (by omega) (by omega) (by omega)
      have HRes := Lib.hid (show loAt ⟨some ⟨b1, o1, none⟩, n, c, some ⟨b2, o2, none⟩, n, d, v, h, er, il, ih, rl, rh⟩ x = h k + r1 / d1 ∧ hiAt ⟨some ⟨b1, o1, none⟩, n, c, some ⟨b2, o2, none⟩, n, d, v, h, er, il, ih, rl, rh⟩ x = h k + (r1 + d1 - 1) / d1 by
        unfold loAt hiAt
        rw [HPk.out.1, HPk.out.2]
        try dsimp only
        rw [← hd1, Int.mul_comm (h (k + 1) - h k), ← hr1]
        exact ⟨code_lo (by omega), code_hi (by omega)⟩)
      have e1 : IntKind.i64.wrap (v (k + 1) - v k) = d1 := by rw [← hd1]; exact IntWalk.i64_in _ (by omega)
      have e2 : IntKind.i64.wrap (x - v k) = x - v k := IntWalk.i64_in _ (by omega)
      have e3 : IntKind.i64.wrap (h (k + 1) - h k) = h (k + 1) - h k := IntWalk.i64_in _ (by omega)
      have e4 : IntKind.i64.wrap ((x - v k) * (h (k + 1) - h k)) = r1 := by rw [← hr1]; exact IntWalk.i64_in _ (by omega)
      have u0 : 0 ≤ r1 / d1 := Int.ediv_nonneg a0 (by omega)
      have u1 : r1 / d1 ≤ r1 := Int.ediv_le_self d1 a0
      have u2 : 0 ≤ (r1 + d1 - 1) / d1 := Int.ediv_nonneg (by omega) (by omega)
      have u3 : (r1 + d1 - 1) / d1 ≤ r1 + d1 - 1 := Int.ediv_le_self d1 (by omega)
      have e5 : Int.tdiv r1 d1 = r1 / d1 := Int.tdiv_eq_ediv_of_nonneg a0
      have e6 : Int.tdiv (r1 + d1 - 1) d1 = (r1 + d1 - 1) / d1 := Int.tdiv_eq_ediv_of_nonneg (by omega)
      have e7 : IntKind.i64.wrap (r1 / d1) = r1 / d1 := IntWalk.i64_in _ (by omega)
      have e8 : IntKind.i64.wrap (r1 + d1) = r1 + d1 := IntWalk.i64_in _ (by omega)
      have e9 : IntKind.i64.wrap (r1 + d1 - 1) = r1 + d1 - 1 := IntWalk.i64_in _ (by omega)
      have e10 : IntKind.i64.wrap ((r1 + d1 - 1) / d1) = (r1 + d1 - 1) / d1 := IntWalk.i64_in _ (by omega)
      have e11 : IntKind.i64.wrap (h k + r1 / d1) = h k + r1 / d1 := IntWalk.i64_in _ (by omega)
      have e12 : IntKind.i64.wrap (h k + (r1 + d1 - 1) / d1) = h k + (r1 + d1 - 1) / d1 := IntWalk.i64_in _ (by omega)
      have ed : (d1 == 0) = false := by simp; omega
      have ed' : ¬ d1 = 0 := by omega
      clear hd1 hr1 hd hh rv0 rv1 rh0 rh1 a0 a1 u0 u1 u2 u3 hs
      have hc' : x < v (k + 1) := by omega
      clear hc
      go_wp2_with fail
      go_quiet (fail)
      go_wp2_with fail
      go_quiet (fail)
      go_wp2_with fail
      go_quiet (fail)
      go_wp2_with fail
      go_ret2
      exact ⟨by rw [HRes.out.1, HRes.out.2]; rfl, Hbb.out _ (below_drewN (below_drewN (below_drewN Hb.out _) _) _)⟩

theorem at24 (b : BD) (x : Int) (w : World) (hr : b.rd w) (hok : OkB b) (x0 : -1000 ≤ x) (x1 : x ≤ 11000) :
    Calls Try.prog 24 #[b.val, .int .i64 x] w fun e w' => e = .returned (.tuple #[.int .i64 (atP b x), .int .i64 (atQ b x)]) ∧ Below w.heap.size w w' := by
  obtain ⟨hv, hc, m1, m2⟩ := hr
  obtain ⟨A, n, c, C, m, d, v, h, er, il, ih, rl, rh⟩ := b
  obtain rfl : n = m := hok.nm.symm
  have n2 : 2 ≤ n := hok.n2
  have n16 : n ≤ 16 := hok.n16
  dsimp only at hv hc m1 m2
  clear m2
  obtain ⟨b1, o1, rfl, hb1, hz1⟩ := hv.at_ 0 (by omega)
  obtain ⟨b2, o2, rfl, hb2, hz2⟩ := hc.at_ 0 (by omega)
  clear hz1 hz2
  have Hok := Lib.hid hok
  have HV := Lib.hid hv
  have HH := Lib.hid hc
  clear hv hc hok
  have hw1 : IntKind.i64.wrap ((n : Int) - 1) = (n : Int) - 1 := IntWalk.i64_in _ (by omega)
  have hn1 : ((n : Int) - 1).toNat = n - 1 := by omega
  have n0 : (0 : Int) < (n : Int) := by omega
  have hn2 : (0 : Int) ≤ (n : Int) - 1 := by omega
  have hn3 : (n : Int) - 1 < (n : Int) := by omega
  have Hk := Lib.hid (fun w1 hh => kcells (b := ⟨some ⟨b1, o1, none⟩, n, c, some ⟨b2, o2, none⟩, n, d, v, h, er, il, ih, rl, rh⟩) (one_block w _ 26 w1 hh))
  have Hbb : Hid (∀ wr, Below (w.heap.size + 1) (w.alloc (.cells #[.slice (some ⟨b1, o1, none⟩) n c, .slice (some ⟨b2, o2, none⟩) n d, .int .i64 er, .int .i64 il, .int .i64 ih, .int .i64 rl, .int .i64 rh] 26)) wr → Below w.heap.size w wr) :=
    Lib.hid (fun wr hb => (box_bel w _).trans (hb.mono (by simp)))
  obtain ⟨z0, z1⟩ := eqs_at HV.out (box_bel w (.cells #[.slice (some ⟨b1, o1, none⟩) n c, .slice (some ⟨b2, o2, none⟩) n d, .int .i64 er, .int .i64 il, .int .i64 ih, .int .i64 rl, .int .i64 rh] 26)) n2
  obtain ⟨y0, y1⟩ := eqs_at HH.out (box_bel w (.cells #[.slice (some ⟨b1, o1, none⟩) n c, .slice (some ⟨b2, o2, none⟩) n d, .int .i64 er, .int .i64 il, .int .i64 ih, .int .i64 rl, .int .i64 rh] 26)) n2
  by_cases c0 : x ≤ v 0
  · have H1 := Lib.hid (at_first (b := ⟨some ⟨b1, o1, none⟩, n, c, some ⟨b2, o2, none⟩, n, d, v, h, er, il, ih, rl, rh⟩) c0)
    go_enter Try.func24, Try.ntmps24
    go_wp2_with fail
    go_ret2
    exact ⟨by rw [H1.out.1, H1.out.2]; rfl, box_bel _ _⟩
  by_cases c1 : v (n - 1) ≤ x
  · have H1 := Lib.hid (at_last (b := ⟨some ⟨b1, o1, none⟩, n, c, some ⟨b2, o2, none⟩, n, d, v, h, er, il, ih, rl, rh⟩) c0 c1)
    go_enter Try.func24, Try.ntmps24
    go_wp2_with fail
    go_ret2
    exact ⟨by rw [H1.out.1, H1.out.2]; rfl, box_bel _ _⟩
  have HP := Lib.hid (fun i hi h3 h4 => at_mid (b := ⟨some ⟨b1, o1, none⟩, n, c, some ⟨b2, o2, none⟩, n, d, v, h, er, il, ih, rl, rh⟩) c0 c1 Hok.out.av (i := i) hi h3 h4)
  have Hx := Lib.hid (show ¬ x ≤ v 0 ∧ ¬ v (n - 1) ≤ x from ⟨c0, c1⟩)
  go_enter Try.func24, Try.ntmps24
  go_wp2_with fail
  go_loopw [7] (fun i wr => ∃ k : Nat, k + 1 < n ∧ i = .int .i64 k ∧ Hid (v k ≤ x) ∧ Hid (Below (w.heap.size + 1) (w.alloc (.cells #[.slice (some ⟨b1, o1, none⟩) n c, .slice (some ⟨b2, o2, none⟩) n d, .int .i64 er, .int .i64 il, .int .i64 ih, .int .i64 rl, .int .i64 rh] 26)) wr)) (fun i _ => n - (intOf i).toNat)
  case atStart => exact ⟨0, by omega, rfl, Lib.hid (by omega), Lib.hid (Below.refl _ _)⟩
  case round =>
    clear y0 y1 z0 z1 c0 c1
    obtain ⟨k, hk, rfl, Hs, Hb⟩ := hrel
    obtain ⟨k0, k1, k2, k3, k4, k5, k6⟩ := Hk.out wr Hb.out
    clear k2 k3 k4 k5 k6
    have HV' := Lib.hid (HV.out.bel (Hbb.out wr Hb.out))
    have HH' := Lib.hid (HH.out.bel (Hbb.out wr Hb.out))
    have z0 := HV'.out.cell k (by omega)
    have z1 := HV'.out.cell (k + 1) hk
    have hltJ : (k : Int) + 1 < (n : Int) := by omega
    have hltK : (k : Int) < (n : Int) := by omega
    have hw2 : IntKind.i64.wrap ((k : Int) + 1) = (k : Int) + 1 := IntWalk.i64_in _ (by omega)
    have hw3 : IntKind.i64.wrap ((k : Int) + 2) = (k : Int) + 2 := IntWalk.i64_in _ (by omega)
    by_cases hc : v (k + 1) ≤ x
    · have hk2 : k + 2 < n := by
        by_cases he : k + 2 = n
        · have := Hx.out.2; rw [show n - 1 = k + 1 by omega] at this; omega
        · omega
      have hk3 : (k : Int) + 2 < (n : Int) := by omega
      have HE := Lib.hid hc
      go_wp2_with fail
      go_roundw
      case rel => exact ⟨k + 1, by omega, by go_num, HE, Lib.hid Hb.out⟩
      case measure => simp [intOf]; omega
    · have hd := Hok.out.av k hk
      have hh := Hok.out.ah k hk
      have rv0 := Hok.out.rv k (by show k < n; omega)
      have rv1 := Hok.out.rv (k + 1) hk
      have rh0 := Hok.out.rh k (by show k < n; omega)
      have rh1 := Hok.out.rh (k + 1) hk
      have hs := Hs.out
      have HPk := Lib.hid (HP.out k hk Hs.out (by omega))
      dsimp only at hd hh rv0 rv1 rh0 rh1
      have y0 := HH'.out.cell k (by omega)
      have y1 := HH'.out.cell (k + 1) hk
      obtain ⟨d1, hd1⟩ : ∃ d1, d1 = v (k + 1) - v k := ⟨_, rfl⟩
      obtain ⟨r1, hr1⟩ : ∃ r1, r1 = (h (k + 1) - h k) * (x - v k) := ⟨_, rfl⟩
      obtain ⟨s1, hs1⟩ : ∃ s1, s1 = h k * d1 := ⟨_, rfl⟩
      have a0 : 0 ≤ r1 := by rw [hr1]; exact Int.mul_nonneg (by omega) (by omega)
      have a1 : r1 ≤ 1000 * 12000 := by rw [hr1]; exact Int.mul_le_mul (by omega) (by omega) (by omega) (by omega)
      have a2 : 0 ≤ s1 := by rw [hs1]; exact Int.mul_nonneg (by omega) (by omega)
      have a3 : s1 ≤ 1000 * 10000 := by rw [hs1]; exact Int.mul_le_mul (by omega) (by omega) (by omega) (by omega)
      have HRes := Lib.hid (show atP ⟨some ⟨b1, o1, none⟩, n, c, some ⟨b2, o2, none⟩, n, d, v, h, er, il, ih, rl, rh⟩ x = s1 + r1 ∧ atQ ⟨some ⟨b1, o1, none⟩, n, c, some ⟨b2, o2, none⟩, n, d, v, h, er, il, ih, rl, rh⟩ x = d1 by
        rw [HPk.out.1, HPk.out.2]
        try dsimp only
        rw [← hd1, ← hr1, ← hs1]
        exact ⟨rfl, rfl⟩)
      have e1 : IntKind.i64.wrap (v (k + 1) - v k) = d1 := by rw [← hd1]; exact IntWalk.i64_in _ (by omega)
      have e2 : IntKind.i64.wrap (x - v k) = x - v k := IntWalk.i64_in _ (by omega)
      have e3 : IntKind.i64.wrap (h (k + 1) - h k) = h (k + 1) - h k := IntWalk.i64_in _ (by omega)
      have e4 : IntKind.i64.wrap ((h (k + 1) - h k) * (x - v k)) = r1 := by rw [← hr1]; exact IntWalk.i64_in _ (by omega)
      have e5 : IntKind.i64.wrap (h k * d1) = s1 := by rw [← hs1]; exact IntWalk.i64_in _ (by omega)
      have e6 : IntKind.i64.wrap (s1 + r1) = s1 + r1 := IntWalk.i64_in _ (by omega)
      clear hd1 hr1 hs1 hd hh rv0 rv1 rh0 rh1 a0 a1 a2 a3 hs
      have hc' : x < v (k + 1) := by omega
      clear hc
      by_cases hk2 : (k : Int) + 2 < (n : Int)
      all_goals
        go_wp2_with fail
        go_quiet (fail)
        go_wp2_with fail
        go_quiet (fail)
        go_wp2_with fail
        go_ret2
        exact ⟨by rw [HRes.out.1, HRes.out.2]; rfl, Hbb.out _ (below_drewN (below_drewN Hb.out _) _)⟩
end Go.Proofs.Ytgcjjnmdbdllhaa
