/- The examples of the chapter: the list of two, and what the functions answer for it. -/
import Derived.Test.YtmfkkmonedgdnaaRI
import Derived.Test.YtmfkkmonedgdnaaRH
namespace Go.Proofs.Ytmfkkmonedgdnaa
open Go.RowKit
set_option maxHeartbeats 2000000
set_option maxRecDepth 100000
set_option linter.unusedVariables false

def gTwo (i j : Nat) : Int := if i = 0 then (match j with | 0 => 1 | 1 => 5 | 2 => 2 | 3 => 100 | _ => 200) else (match j with | 0 => 2 | 1 => 5 | 2 => 3 | 3 => 250 | _ => 300)
def gThr (i j : Nat) : Int := if i = 0 then (match j with | 0 => 1 | 1 => 5 | 2 => 2 | 3 => 100 | _ => 150) else (match j with | 0 => 2 | 1 => 5 | 2 => 3 | 3 => 250 | _ => 300)

theorem two_ok : OkH 2 gTwo := by
  refine ⟨by omega, fun i hi => ?_, fun k i hk hi => ?_, fun k i hk hi => ?_⟩
  · have h : i = 0 ∨ i = 1 := by omega
    rcases h with rfl | rfl <;> (unfold rngG rngP; simp [gTwo])
  · obtain rfl : i = 1 := by omega
    obtain rfl : k = 0 := by omega
    simp [gTwo]
  · obtain rfl : i = 1 := by omega
    obtain rfl : k = 0 := by omega
    unfold colG colP; simp [gTwo]
theorem two_chk : chkH 2 gTwo = 0 := chkH_mk two_ok
theorem two_by1 : byR 2 gTwo 5 199 = 2 ∧ byF 2 gTwo 5 199 = true := by_hit (k := 0) (fun i hi => absurd hi (by omega)) (hitB_t (by simp [gTwo])) (by omega)
theorem two_by2 : byR 2 gTwo 5 200 = 0 ∧ byF 2 gTwo 5 200 = false := by_none (fun i hi => by
  have h : i = 0 ∨ i = 1 := by omega
  rcases h with rfl | rfl <;> (refine hitB_f ?_; simp [gTwo]))
theorem two_mk : mkE 2 gTwo 3 6 2 150 160 = 22 := by
  unfold mkE
  rw [if_pos two_chk]
  unfold chkH
  rw [if_neg (by omega)]
  have h2 : scanR (addG 2 gTwo 3 6 2 150 160) 2 = 0 := by
    rw [← scanR_congr (g := gTwo) 2 (fun i hi j hj => by unfold addG; rw [if_pos hi])]
    exact scanR_mk (fun i hi => rowE_0 (two_ok.rng i hi) (fun k hk => two_ok.ids k i hk hi) (fun k hk => two_ok.col k i hk hi))
  refine scanR_hit (k := 2) (by omega) h2 (rowE_22 (k := 0) ?_ (fun k hk => ?_) (by omega) ?_) (by omega)
  · unfold rngG rngP; simp [addG]
  · have h : k = 0 ∨ k = 1 := by omega
    rcases h with rfl | rfl <;> simp [addG, gTwo]
  · unfold colG colP; simp [addG, gTwo]
theorem two_n1 : nextX 2 gTwo 5 120 50 = 200 := nextX_eq ⟨by omega, fun i hi hm => by
    have h : i = 0 ∨ i = 1 := by omega
    rcases h with rfl | rfl <;> (unfold mt at hm; simp [gTwo] at hm), fun y h1 h2 hc => hc 0 (by omega) ⟨by simp [gTwo], by simp [gTwo]; omega, by simp [gTwo]; omega⟩, .inr ⟨0, by omega, by simp [gTwo], by simp [gTwo]⟩⟩
theorem two_n2 : nextX 2 gTwo 5 120 51 = 300 := nextX_eq ⟨by omega, fun i hi hm => by
    have h : i = 0 ∨ i = 1 := by omega
    rcases h with rfl | rfl <;> (unfold mt at hm; simp [gTwo] at hm), fun y h1 h2 hc => by
    by_cases hy : y < 200
    · exact hc 0 (by omega) ⟨by simp [gTwo], by simp [gTwo]; omega, by simp [gTwo]; omega⟩
    · exact hc 1 (by omega) ⟨by simp [gTwo], by simp [gTwo]; omega, by simp [gTwo]; omega⟩, .inr ⟨1, by omega, by simp [gTwo], by simp [gTwo]⟩⟩
theorem two_ne1 : neE 2 gTwo 5 120 50 = 0 ∧ neT 2 gTwo 5 120 50 = 200 := by
  have h : neE 2 gTwo 5 120 50 = 0 := by unfold neE; rw [if_pos two_chk, if_neg (by omega), if_neg (by omega), two_n1, if_neg (by omega)]
  exact ⟨h, by unfold neT; rw [if_pos h, two_n1]⟩
theorem two_ne2 : neE 2 gTwo 5 120 51 = 0 ∧ neT 2 gTwo 5 120 51 = 300 := by
  have h : neE 2 gTwo 5 120 51 = 0 := by unfold neE; rw [if_pos two_chk, if_neg (by omega), if_neg (by omega), two_n2, if_neg (by omega)]
  exact ⟨h, by unfold neT; rw [if_pos h, two_n2]⟩
theorem two_last : lastI (idB gTwo 1) 2 = 0 := by
  rw [lastI_succ, lastI_succ, if_neg (by simp [idB, gTwo]), if_pos (by simp [idB, gTwo])]; rfl
theorem two_e1 : endE 2 gTwo 1 150 = 0 ∧ enN 2 gTwo 1 150 0 = 2 ∧ enG 2 gTwo 1 150 = toG 0 gTwo 150 := by
  refine ⟨?_, ?_, ?_⟩
  · unfold endE; rw [if_pos two_chk, two_last, if_neg (by omega), if_neg (by omega), if_neg (by simp [gTwo])]
  · unfold enN; rw [if_pos rfl, two_last, if_neg (by simp [gTwo])]
  · unfold enG; rw [two_last, if_neg (by simp [gTwo])]; rfl
theorem two_e2 : endE 2 gTwo 1 100 = 0 ∧ enN 2 gTwo 1 100 0 = 1 ∧ enG 2 gTwo 1 100 = cutG 0 gTwo := by
  refine ⟨?_, ?_, ?_⟩
  · unfold endE; rw [if_pos two_chk, two_last, if_neg (by omega), if_neg (by omega), if_neg (by simp [gTwo])]
  · unfold enN; rw [if_pos rfl, two_last, if_pos (by simp [gTwo])]
  · unfold enG; rw [two_last, if_pos (by simp [gTwo])]; rfl
theorem two_e3 : endE 2 gTwo 1 201 = 19 ∧ enN 2 gTwo 1 201 19 = 0 := by
  refine ⟨?_, rfl⟩
  unfold endE; rw [if_pos two_chk, two_last, if_neg (by omega), if_neg (by omega), if_pos (by simp [gTwo])]
theorem two_s1 : sameB 2 2 (toG 0 gTwo 150) gThr = true := sameB_t rfl (fun i hi => by
  have h : i = 0 ∨ i = 1 := by omega
  rcases h with rfl | rfl <;> (unfold eqRow; simp [toG, gTwo, gThr]))
theorem two_s2 : sameB 1 1 (cutG 0 gTwo) (fun i j => gTwo (1 + i) j) = true := sameB_t rfl (fun i hi => by
  obtain rfl : i = 0 := by omega
  unfold eqRow; simp [cutG, gTwo])

theorem flat_two : flatC 2 gTwo = [.int .i64 1, .int .i64 5, .int .i64 2, .int .i64 100, .int .i64 200, .int .i64 2, .int .i64 5, .int .i64 3, .int .i64 250, .int .i64 300] := by rfl
theorem flat_thr : flatC 2 gThr = [.int .i64 1, .int .i64 5, .int .i64 2, .int .i64 100, .int .i64 150, .int .i64 2, .int .i64 5, .int .i64 3, .int .i64 250, .int .i64 300] := by rfl
theorem own_two (w : World) (B : Nat) (hB : B ≤ w.heap.size) : OwnF (w.alloc (.cells #[.int .i64 1, .int .i64 5, .int .i64 2, .int .i64 100, .int .i64 200, .int .i64 2, .int .i64 5, .int .i64 3, .int .i64 250, .int .i64 300] 26)) B w.heap.size 2 gTwo :=
  ⟨hB, by rw [flat_two]; exact heap_alloc_new w _⟩
theorem own_thr (w : World) : OwnF (w.alloc (.cells #[.int .i64 1, .int .i64 5, .int .i64 2, .int .i64 100, .int .i64 150, .int .i64 2, .int .i64 5, .int .i64 3, .int .i64 250, .int .i64 300] 26)) 0 w.heap.size 2 gThr :=
  ⟨Nat.zero_le _, by rw [flat_thr]; exact heap_alloc_new w _⟩

def TwoPost (w : World) (x : Ending) (w' : World) : Prop := ∃ p, x = .returned (.slice (some ⟨p, 0, none⟩) 2 2) ∧ OwnF w' w.heap.size p 2 gTwo ∧ Below w.heap.size w w'
theorem two24 (w : World) : Calls Try.prog 24 #[] w (TwoPost w) := by
  go_enter Try.func24, Try.ntmps24
  go_wp2_with fail
  refine (hold25 _ _ _ _ _ _).mono ?_
  rintro x w1 ⟨rfl, hb0⟩
  have B1 := Lib.hid hb0
  clear hb0
  go_wp2_with fail
  refine (hold25 _ _ _ _ _ _).mono ?_
  rintro x w2 ⟨rfl, hb0⟩
  have B2 := Lib.hid (bel_tr B1.out hb0 (Nat.le_refl _))
  clear hb0
  go_wp2_with fail
  go_ret
  exact ⟨_, rfl, own_two w2 _ B2.out.size, B2.out.alloc B2.out.size _⟩

theorem few10 (A : Option Addr) (n c : Nat) (w : World) : Calls Try.prog 10 #[.slice A n c] w fun x w' => x = .returned (.bool (decide (n ≤ 60 ∨ (512 < n ∧ n ≤ 520)))) ∧ w = w' := by
  by_cases h1 : n ≤ 60
  · have q : decide (n ≤ 60 ∨ (512 < n ∧ n ≤ 520)) = true := decide_eq_true (.inl h1)
    rw [q]
    go_enter Try.func10, Try.ntmps10
    go_wp2_with fail
    go_ret
    exact ⟨rfl, rfl⟩
  · by_cases h2 : 512 < n
    · by_cases h3 : n ≤ 520
      · have q : decide (n ≤ 60 ∨ (512 < n ∧ n ≤ 520)) = true := decide_eq_true (.inr ⟨h2, h3⟩)
        rw [q]
        go_enter Try.func10, Try.ntmps10
        go_wp2_with fail
        go_ret
        exact ⟨by first | rfl | (simp; omega), rfl⟩
      · have q : decide (n ≤ 60 ∨ (512 < n ∧ n ≤ 520)) = false := decide_eq_false (by omega)
        rw [q]
        go_enter Try.func10, Try.ntmps10
        go_wp2_with fail
        go_ret
        exact ⟨by first | rfl | (simp; omega), rfl⟩
    · have q : decide (n ≤ 60 ∨ (512 < n ∧ n ≤ 520)) = false := decide_eq_false (by omega)
      rw [q]
      go_enter Try.func10, Try.ntmps10
      go_wp2_with fail
      go_ret
      exact ⟨by first | rfl | (simp; omega), rfl⟩
end Go.Proofs.Ytmfkkmonedgdnaa
