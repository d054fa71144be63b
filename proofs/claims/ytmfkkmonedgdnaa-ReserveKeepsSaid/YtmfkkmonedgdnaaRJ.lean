/- The walk of Make of the reference. -/
import Derived.Test.YtmfkkmonedgdnaaRE
import Derived.Test.YtmfkkmonedgdnaaRC
import Derived.Test.YtmfkkmonedgdnaaRApp
namespace Go.Proofs.Ytmfkkmonedgdnaa
open Go.RowKit
set_option maxHeartbeats 4000000
set_option maxRecDepth 100000
set_option linter.unusedVariables false

theorem alloc_size (w : World) (o : Obj) : (w.alloc o).heap.size = w.heap.size + 1 := by simp
theorem s13_mk {w X : World} {p : Nat} {a b d e f : Int} (h : K5 X p a b d e f) (hb : Below p w X) : X.cell? ⟨p, 0, none⟩ = some (.int .i64 a) ∧ X.cell? ⟨p, 1, none⟩ = some (.int .i64 b) ∧ X.cell? ⟨p, 2, none⟩ = some (.int .i64 d) ∧ X.cell? ⟨p, 3, none⟩ = some (.int .i64 e) ∧ X.cell? ⟨p, 4, none⟩ = some (.int .i64 f) ∧ p < X.heap.size ∧ Below p w X := ⟨h.2.1, h.2.2.1, h.2.2.2.1, h.2.2.2.2.1, h.2.2.2.2.2, h.1, hb⟩
theorem s13_k {w X : World} {p : Nat} {a b d e f : Int} (h : X.cell? ⟨p, 0, none⟩ = some (.int .i64 a) ∧ X.cell? ⟨p, 1, none⟩ = some (.int .i64 b) ∧ X.cell? ⟨p, 2, none⟩ = some (.int .i64 d) ∧ X.cell? ⟨p, 3, none⟩ = some (.int .i64 e) ∧ X.cell? ⟨p, 4, none⟩ = some (.int .i64 f) ∧ p < X.heap.size ∧ Below p w X) : K5 X p a b d e f := ⟨h.2.2.2.2.2.1, h.1, h.2.1, h.2.2.1, h.2.2.2.1, h.2.2.2.2.1⟩
theorem s13_b {w X : World} {p : Nat} {a b d e f : Int} (h : X.cell? ⟨p, 0, none⟩ = some (.int .i64 a) ∧ X.cell? ⟨p, 1, none⟩ = some (.int .i64 b) ∧ X.cell? ⟨p, 2, none⟩ = some (.int .i64 d) ∧ X.cell? ⟨p, 3, none⟩ = some (.int .i64 e) ∧ X.cell? ⟨p, 4, none⟩ = some (.int .i64 f) ∧ p < X.heap.size ∧ Below p w X) : Below p w X := h.2.2.2.2.2.2
theorem s13_below {w X Y : World} {p B : Nat} {a b d e f : Int} (h : X.cell? ⟨p, 0, none⟩ = some (.int .i64 a) ∧ X.cell? ⟨p, 1, none⟩ = some (.int .i64 b) ∧ X.cell? ⟨p, 2, none⟩ = some (.int .i64 d) ∧ X.cell? ⟨p, 3, none⟩ = some (.int .i64 e) ∧ X.cell? ⟨p, 4, none⟩ = some (.int .i64 f) ∧ p < X.heap.size ∧ Below p w X) (hb : Below B X Y) (hB : p < B) : Y.cell? ⟨p, 0, none⟩ = some (.int .i64 a) ∧ Y.cell? ⟨p, 1, none⟩ = some (.int .i64 b) ∧ Y.cell? ⟨p, 2, none⟩ = some (.int .i64 d) ∧ Y.cell? ⟨p, 3, none⟩ = some (.int .i64 e) ∧ Y.cell? ⟨p, 4, none⟩ = some (.int .i64 f) ∧ p < Y.heap.size ∧ Below p w Y := by
  have hk := s13_k h
  exact s13_mk ⟨Nat.lt_of_lt_of_le hk.1 hb.size, (hb.cell (p := ⟨p, 0, none⟩) hB).trans hk.2.1, (hb.cell (p := ⟨p, 1, none⟩) hB).trans hk.2.2.1, (hb.cell (p := ⟨p, 2, none⟩) hB).trans hk.2.2.2.1, (hb.cell (p := ⟨p, 3, none⟩) hB).trans hk.2.2.2.2.1, (hb.cell (p := ⟨p, 4, none⟩) hB).trans hk.2.2.2.2.2⟩ ((s13_b h).trans (hb.mono (Nat.le_of_lt hB)))
theorem s13_alloc {w X : World} {p : Nat} {a b d e f : Int} (h : X.cell? ⟨p, 0, none⟩ = some (.int .i64 a) ∧ X.cell? ⟨p, 1, none⟩ = some (.int .i64 b) ∧ X.cell? ⟨p, 2, none⟩ = some (.int .i64 d) ∧ X.cell? ⟨p, 3, none⟩ = some (.int .i64 e) ∧ X.cell? ⟨p, 4, none⟩ = some (.int .i64 f) ∧ p < X.heap.size ∧ Below p w X) (ob : Obj) : (X.alloc ob).cell? ⟨p, 0, none⟩ = some (.int .i64 a) ∧ (X.alloc ob).cell? ⟨p, 1, none⟩ = some (.int .i64 b) ∧ (X.alloc ob).cell? ⟨p, 2, none⟩ = some (.int .i64 d) ∧ (X.alloc ob).cell? ⟨p, 3, none⟩ = some (.int .i64 e) ∧ (X.alloc ob).cell? ⟨p, 4, none⟩ = some (.int .i64 f) ∧ p < (X.alloc ob).heap.size ∧ Below p w (X.alloc ob) := s13_below h (box_bel X ob) (s13_k h).1

theorem o13 {w : World} {B : Nat} {v : Value} {n : Nat} {g g0 : Nat → Nat → Int} {a b d e f : Int} (h : OwnA w B v (0 + n + 1) (catG (0 + n) (catG 0 g0 g) (addG 0 (fun _ _ => 0) a b d e f))) : OwnA w B v (n + 1) (addG n g a b d e f) := by
  rw [Nat.zero_add] at h
  refine h.congr (fun i j hi hj => ?_)
  unfold catG addG
  by_cases hin : i < n
  · simp [hin]
  · have : i - n = 0 := by omega
    simp [hin]

theorem make13 (A : Option Addr) (n c : Nat) (g : Nat → Nat → Int) (a b d e f : Int) (w : World) (hr : FlatRd w A n 5 g) (m1 : n ≤ 9223372036854775807) (hA : A = none → c = 0) :
    Calls Try.prog 13 #[.slice A n c, hv a b d e f] w (ListPost w (mkN n (mkE n g a b d e f)) (addG n g a b d e f) (mkE n g a b d e f)) := by
  have Hr := Lib.hid hr
  have HA := Lib.hid hA
  clear hr hA
  have BX := Lib.hid (box_bel w (.cells #[.int .i64 a, .int .i64 b, .int .i64 d, .int .i64 e, .int .i64 f] 26))
  have KX := Lib.hid (K5.new w a b d e f 26)
  obtain ⟨w0, hw0⟩ : ∃ w0, w0 = w.alloc (.cells #[.int .i64 a, .int .i64 b, .int .i64 d, .int .i64 e, .int .i64 f] 26) := ⟨_, rfl⟩
  rw [← hw0] at BX KX
  have HW := Lib.hid hw0
  clear hw0
  by_cases hc : chkH n g = 0
  case neg =>
    have HE := Lib.hid (show mkE n g a b d e f = chkH n g from if_neg hc)
    have HN := Lib.hid (show mkN n (mkE n g a b d e f) = 0 by rw [HE.out]; exact if_neg hc)
    have qc : (chkH n g != 0) = true := by simpa using hc
    clear hc
    go_enter Try.func13, Try.ntmps13
    go_wp2_with fail
    rw [← HW.out]
    refine (check15 A n c g w0 (Hr.out.bel BX.out) m1).mono ?_
    rintro x w1 ⟨rfl, hb0⟩
    have B1 := Lib.hid (bel_tr BX.out hb0 (Nat.le_refl _))
    clear hb0
    go_wp2_with fail
    go_ret2
    exact ListPost.nil HN.out HE.out rfl B1.out
  have okc := chkH_ok hc
  have hn := okc.len
  have HC := Lib.hid hc
  have HE := Lib.hid (show mkE n g a b d e f = chkH (n + 1) (addG n g a b d e f) from if_pos hc)
  clear okc hc
  go_enter Try.func13, Try.ntmps13
  go_wp2_with fail
  rw [← HW.out]
  refine (check15 A n c g w0 (Hr.out.bel BX.out) m1).mono ?_
  rw [HC.out]
  rintro x w1 ⟨rfl, hb0⟩
  have B1 := Lib.hid (bel_tr BX.out hb0 (Nat.le_refl _))
  have K1 := Lib.hid ((KX.out.bel hb0).bel (Below.refl w1.heap.size w1).drew)
  have hz1 : w.heap.size < w1.heap.size := K1.out.1
  clear hb0
  have Hz1 := Lib.hid hz1
  clear hz1
  have MA0 := OwnA.made w1 w1.heap.size w1.heap.size rfl (Nat.le_refl _) g
  have MA := Lib.hid MA0.drew
  have MB := Lib.hid (MA0.alloc (.cells #[.int .i64 a, .int .i64 b, .int .i64 d, .int .i64 e, .int .i64 f] 26)).drew
  have MC := Lib.hid (OwnA.made (w1.alloc (.cells #[.int .i64 a, .int .i64 b, .int .i64 d, .int .i64 e, .int .i64 f] 26)) w1.heap.size (w1.heap.size + 1) (alloc_size w1 _).symm (by rw [alloc_size]; exact Nat.le_succ _) g).drew
  have KB := Lib.hid (((K5.newq (w1.alloc (.cells #[] 26)) (w1.heap.size + 1) (alloc_size w1 _).symm a b d e f)).bel (Below.refl _ _).drew)
  have KC := Lib.hid (((K5.newq w1 w1.heap.size rfl a b d e f).alloc (.cells #[] 26)).bel (Below.refl _ _).drew)
  have ZA0 : w1.heap.size ≤ (w1.alloc (.cells #[] 26)).heap.size := by rw [alloc_size]; exact Nat.le_succ _
  have ZA : Hid (w1.heap.size ≤ (w1.alloc (.cells #[] 26)).drew.heap.size) := Lib.hid ZA0
  have ZB : Hid (w1.heap.size ≤ ((w1.alloc (.cells #[] 26)).alloc (.cells #[.int .i64 a, .int .i64 b, .int .i64 d, .int .i64 e, .int .i64 f] 26)).drew.heap.size) := Lib.hid (by show _ ≤ ((w1.alloc (.cells #[] 26)).alloc (.cells #[.int .i64 a, .int .i64 b, .int .i64 d, .int .i64 e, .int .i64 f] 26)).heap.size; rw [alloc_size]; exact Nat.le_trans ZA0 (Nat.le_succ _))
  have ZC0 : w1.heap.size ≤ (w1.alloc (.cells #[.int .i64 a, .int .i64 b, .int .i64 d, .int .i64 e, .int .i64 f] 26)).heap.size := by rw [alloc_size]; exact Nat.le_succ _
  have ZC : Hid (w1.heap.size ≤ ((w1.alloc (.cells #[.int .i64 a, .int .i64 b, .int .i64 d, .int .i64 e, .int .i64 f] 26)).alloc (.cells #[] 26)).drew.heap.size) := Lib.hid (by show _ ≤ ((w1.alloc (.cells #[.int .i64 a, .int .i64 b, .int .i64 d, .int .i64 e, .int .i64 f] 26)).alloc (.cells #[] 26)).heap.size; rw [alloc_size]; exact Nat.le_trans ZC0 (Nat.le_succ _))
  clear MA0 ZA0 ZC0
  go_wp2_with fail
  go_region_held3 (fun X => X.cell? ⟨w.heap.size, 0, none⟩ = some (.int .i64 a) ∧ X.cell? ⟨w.heap.size, 1, none⟩ = some (.int .i64 b) ∧ X.cell? ⟨w.heap.size, 2, none⟩ = some (.int .i64 d) ∧ X.cell? ⟨w.heap.size, 3, none⟩ = some (.int .i64 e) ∧ X.cell? ⟨w.heap.size, 4, none⟩ = some (.int .i64 f) ∧ w.heap.size < X.heap.size ∧ Below w.heap.size w X) (first | exact s13_mk K1.out B1.out.drew | exact s13_alloc (by assumption) _ | exact s13_below (by assumption) (by assumption) Hz1.out)
    (first
      | (refine step_listC (n := 0) (m := n) (.tmp 18) undef rfl rfl (.tmp 14) (.tmp 15) rfl rfl MA.out rfl (Hr.out.bel (s13_b (by assumption))) HA.out (by omega) ZA.out ?_; intro v1 w4 hown4 hb4 hg4; have Z4 := Nat.le_trans ZA.out hb4.size; have O4 := Lib.hid hown4; clear hown4 hg4)
      | (refine step_listC (n := 0) (m := n) (.tmp 18) (.slice (some ⟨w1.heap.size + 1, 0, none⟩) 1 1) rfl rfl (.tmp 14) (.tmp 15) rfl rfl MB.out rfl (Hr.out.bel (s13_b (by assumption))) HA.out (by omega) ZB.out ?_; intro v1 w4 hown4 hb4 hg4; have Z4 := Nat.le_trans ZB.out hb4.size; have O4 := Lib.hid hown4; have K4 := Lib.hid (KB.out.grown hg4 (fun h => by have h2 : w1.heap.size + 1 = w1.heap.size := Option.some.inj h; omega)); clear hown4 hg4)
      | (refine step_listC (n := 0) (m := n) (.tmp 18) (.slice (some ⟨w1.heap.size, 0, none⟩) 1 1) rfl rfl (.tmp 14) (.tmp 15) rfl rfl MC.out rfl (Hr.out.bel (s13_b (by assumption))) HA.out (by omega) ZC.out ?_; intro v1 w4 hown4 hb4 hg4; have Z4 := Nat.le_trans ZC.out hb4.size; have O4 := Lib.hid hown4; have K4 := Lib.hid (KC.out.grown hg4 (fun h => by have h2 : w1.heap.size = w1.heap.size + 1 := Option.some.inj h; omega)); clear hown4 hg4)
      | (refine step_listC (.tmp 18) (.slice (some ⟨w4.heap.size, 0, none⟩) 1 1) rfl rfl (.tmp 16) (.tmp 18) rfl rfl (O4.out.alloc _) rfl ((K5.newq w4 w4.heap.size rfl a b d e f).rd 0) (fun h => by cases h) (by omega) (Nat.le_trans Z4 (box_bel w4 _).size) ?_; intro v2 w5 hown5 hb5 hg5; clear hg5; have O5 := Lib.hid hown5; clear hown5)
      | (refine step_listC (.tmp 18) _ rfl rfl (.tmp 16) (.tmp 18) rfl rfl O4.out rfl (K4.out.rd 0) (fun h => by cases h) (by omega) Z4 ?_; intro v2 w5 hown5 hb5 hg5; clear hg5; have O5 := Lib.hid hown5; clear hown5))
  all_goals
    rename_i hH
    have B5 := Lib.hid (s13_b hH)
    clear hH
    obtain ⟨A2, c2, rfl, hrd, hc2⟩ := (o13 O5.out).form
    have R5 := Lib.hid hrd
    clear hrd O5
    go_wp2_with fail
    refine (check15 A2 (n + 1) c2 (addG n g a b d e f) w5 R5.out (by omega)).mono ?_
    rintro x w6 ⟨rfl, hb0⟩
    have B6 := Lib.hid (bel_tr B5.out hb0 (Nat.le_refl _))
    have R6 := Lib.hid (R5.out.bel hb0)
    clear hb0
    by_cases h2 : chkH (n + 1) (addG n g a b d e f) = 0
    · have q2 : (chkH (n + 1) (addG n g a b d e f) != 0) = false := by simpa using h2
      have HE2 := Lib.hid (HE.out.trans h2)
      have HN := Lib.hid (show mkN n (mkE n g a b d e f) = n + 1 by rw [HE2.out]; rfl)
      clear h2
      go_wp2_with fail
      go_ret2
      rw [HN.out, HE2.out]
      exact ListPost.mk rfl R6.out hc2 B6.out
    · have q2 : (chkH (n + 1) (addG n g a b d e f) != 0) = true := by simpa using h2
      have HN := Lib.hid (show mkN n (mkE n g a b d e f) = 0 by rw [HE.out]; exact if_neg h2)
      clear h2
      go_wp2_with fail
      go_ret2
      exact ListPost.nil HN.out HE.out rfl B6.out
end Go.Proofs.Ytmfkkmonedgdnaa
