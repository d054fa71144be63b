/- The walk of the chapter's examples. -/
import Derived.Test.YtgcjjnmdbdllhaaBG
namespace Go.Proofs.Ytgcjjnmdbdllhaa
open Go.RowKit
set_option maxHeartbeats 4000000
set_option maxRecDepth 100000
set_option linter.unusedVariables false

theorem keep6 {w X Y : World} {p1 p2 p3 : Nat} (h : X.cell? ⟨p1, 0, none⟩ = some (.int .i64 490) ∧ X.cell? ⟨p1, 1, none⟩ = some (.int .i64 510) ∧ X.cell? ⟨p2, 0, none⟩ = some (.int .i64 460) ∧ X.cell? ⟨p2, 1, none⟩ = some (.int .i64 488) ∧ X.cell? ⟨p3, 0, none⟩ = some (.int .i64 480) ∧ X.cell? ⟨p3, 1, none⟩ = some (.int .i64 488) ∧ p1 < X.heap.size ∧ p2 < X.heap.size ∧ p3 < X.heap.size ∧ Below w.heap.size w X) (hb : Below X.heap.size X Y) : Y.cell? ⟨p1, 0, none⟩ = some (.int .i64 490) ∧ Y.cell? ⟨p1, 1, none⟩ = some (.int .i64 510) ∧ Y.cell? ⟨p2, 0, none⟩ = some (.int .i64 460) ∧ Y.cell? ⟨p2, 1, none⟩ = some (.int .i64 488) ∧ Y.cell? ⟨p3, 0, none⟩ = some (.int .i64 480) ∧ Y.cell? ⟨p3, 1, none⟩ = some (.int .i64 488) ∧ p1 < Y.heap.size ∧ p2 < Y.heap.size ∧ p3 < Y.heap.size ∧ Below w.heap.size w Y := by
  obtain ⟨h1, h2, h3, h4, h5, h6, h7, h8, h9, h10⟩ := h
  exact ⟨(hb.cell (p := ⟨p1, 0, none⟩) h7).trans h1, (hb.cell (p := ⟨p1, 1, none⟩) h7).trans h2, (hb.cell (p := ⟨p2, 0, none⟩) h8).trans h3, (hb.cell (p := ⟨p2, 1, none⟩) h8).trans h4,
    (hb.cell (p := ⟨p3, 0, none⟩) h9).trans h5, (hb.cell (p := ⟨p3, 1, none⟩) h9).trans h6, Nat.lt_of_lt_of_le h7 hb.size, Nat.lt_of_lt_of_le h8 hb.size, Nat.lt_of_lt_of_le h9 hb.size, bel_trans h10 hb⟩

theorem awake_any (w : World) : Calls Try.prog 11 #[] w fun e w' => e = .returned (.bool true) ∧ Below w.heap.size w w' := by
  go_enter Try.func11, Try.ntmps11
  go_wp2_with fail
  refine (small25 w).mono ?_
  rintro e w1 ⟨rfl, hrd, hb⟩
  have S0 := Lib.hid (show St w [] w1 from ⟨hb, fun t ht => nomatch ht⟩)
  have HR := Lib.hid hrd
  clear hb hrd
  go_wp2_with fail
  refine (charge12 (smallB (w.heap.size + 1) (w.heap.size + 2)) 3700 _ HR.out).mono ?_
  rw [(small_ch _ _).1, (small_ch _ _).2.1, (small_ch _ _).2.2]
  rintro e w2 ⟨rfl, hb0⟩
  have S1 := Lib.hid ((S0.out.bel hb0).new 490 510 24)
  clear hb0 HR S0
  go_wp2_with fail
  go_cut [3, 4] from 16 to 21 (fun s3 s4 wx => ∃ p, s3 = .pointer (some ⟨p, 0, none⟩) ∧ s4 = .int .i64 0 ∧ Hid (St w [(p, 460, 488), (w2.heap.size, 490, 510)] wx))
  case first =>
    obtain ⟨z, a10, b10⟩ := S1.out.hd
    go_region_with (first | (go_at_call 25; refine (small25 _).mono ?_; rintro e w3 ⟨rfl, hrd, hb0⟩; simp at hrd; have HR := Lib.hid hrd; (first | (have S3 := Lib.hid ((S1.out.drew).bel hb0)) | (have S3 := Lib.hid ((S1.out.drew.alloc _).bel hb0); have N3 := Lib.hid (Nw.of_allocq (w2.heap.size + 1) (by first | rfl | (simp; done) | (simp [World.drew]; done)) (S1.out.drew) hb0); obtain ⟨n0, n1⟩ := N3.out.z; obtain ⟨f0, f1⟩ := N3.out.f)); obtain ⟨z30, a30, b30⟩ := S3.out.hd; clear hb0 hrd) | (go_at_call 16; refine (after16 (smallB _ _) 490 510 2700 false _ (by first | exact HR.out | exact HR.out.bel (box_bel _ _))).mono ?_; rw [(small_af _ _).1, (small_af _ _).2.1, (small_af _ _).2.2]; rintro e w4 ⟨rfl, hb0⟩; (first | (have S4 := Lib.hid ((S3.out).bel hb0)) | (have S4 := Lib.hid ((S3.out.alloc _).bel hb0); have N4 := Lib.hid (Nw.of_allocq (w3.heap.size) (by first | rfl | (simp; done) | (simp [World.drew]; done)) (S3.out) hb0); obtain ⟨n0, n1⟩ := N4.out.z; obtain ⟨f0, f1⟩ := N4.out.f)); (first | (have N4 := Lib.hid (N3.out.bel hb0); obtain ⟨n0, n1⟩ := N4.out.z; obtain ⟨f0, f1⟩ := N4.out.f) | skip); obtain ⟨z40, a40, b40⟩ := S4.out.hd; clear hb0))
    all_goals (go_wp2_with fail; go_meet)
    all_goals (first | exact ⟨_, rfl, rfl, Lib.hid (S4.out.new _ _ _)⟩ | exact ⟨_, rfl, rfl, Lib.hid (N4.out.set _ _)⟩)
  case rest =>
  obtain ⟨p2, rfl, rfl, S2⟩ := hcut
  clear S1
  go_wp2_with fail
  go_cut [5, 6] from 22 to 27 (fun s5 s6 wx => ∃ p, s5 = .pointer (some ⟨p, 0, none⟩) ∧ s6 = .int .i64 0 ∧ Hid (St w [(p, 480, 488), (p2, 460, 488), (w2.heap.size, 490, 510)] wx))
  case first =>
    obtain ⟨z, a10, b10⟩ := S2.out.hd
    obtain ⟨z, a11, b11⟩ := S2.out.tl.hd
    go_region_with (first | (go_at_call 22; refine (sp22 _ _ _).mono ?_; rintro e w3 ⟨rfl, hb0⟩; (first | (have S3 := Lib.hid ((S2.out.drew).bel hb0)) | (have S3 := Lib.hid ((S2.out.drew.alloc _).bel hb0); have N3 := Lib.hid (Nw.of_allocq (wc.heap.size) (by first | rfl | (simp; done) | (simp [World.drew]; done)) (S2.out.drew) hb0); obtain ⟨n0, n1⟩ := N3.out.z; obtain ⟨f0, f1⟩ := N3.out.f)); obtain ⟨z30, a30, b30⟩ := S3.out.hd; obtain ⟨z31, a31, b31⟩ := S3.out.tl.hd; clear hb0) | (go_at_call 20; refine (meet20 _ _ _ _ _).mono ?_; rw [me_one.1, me_one.2.1, me_one.2.2]; rintro e w4 ⟨rfl, hb0⟩; (first | (have S4 := Lib.hid ((S3.out).bel hb0)) | (have S4 := Lib.hid ((S3.out.alloc _).bel hb0); have N4 := Lib.hid (Nw.of_allocq (w3.heap.size) (by first | rfl | (simp; done) | (simp [World.drew]; done)) (S3.out) hb0); obtain ⟨n0, n1⟩ := N4.out.z; obtain ⟨f0, f1⟩ := N4.out.f)); (first | (have N4 := Lib.hid (N3.out.bel hb0); obtain ⟨n0, n1⟩ := N4.out.z; obtain ⟨f0, f1⟩ := N4.out.f) | skip); obtain ⟨z40, a40, b40⟩ := S4.out.hd; obtain ⟨z41, a41, b41⟩ := S4.out.tl.hd; clear hb0))
    all_goals (go_wp2_with fail; go_meet)
    all_goals (first | exact ⟨_, rfl, rfl, Lib.hid (S4.out.new _ _ _)⟩ | exact ⟨_, rfl, rfl, Lib.hid (N4.out.set _ _)⟩)
  case rest =>
  obtain ⟨p3, rfl, rfl, S3⟩ := hcut
  clear S2
  go_wp2_with fail
  refine (sp22 _ _ _).mono ?_
  rintro e w5 ⟨rfl, hb0⟩
  have S4 := Lib.hid (S3.out.bel hb0)
  clear hb0 S3
  go_wp2_with fail
  refine (sp22 _ _ _).mono ?_
  rintro e w6 ⟨rfl, hb0⟩
  have S5 := Lib.hid (S4.out.bel hb0)
  clear hb0 S4
  go_wp2_with fail
  refine (meet20 _ _ _ _ _).mono ?_
  rw [me_two.1, me_two.2.1, me_two.2.2]
  rintro e w7 ⟨rfl, hb0⟩
  have S6 := Lib.hid ((S5.out.bel hb0).alloc (.cells #[.int .i64 0, .int .i64 0] 24))
  clear hb0 S5
  go_wp2_with fail
  go_cut [9, 10] from 34 to 39 (fun s9 s10 wx => s9 = .int .i64 2700 ∧ s10 = .int .i64 0 ∧ Hid (St w [(p3, 480, 488), (p2, 460, 488), (w2.heap.size, 490, 510)] wx))
  case first =>
    obtain ⟨z, a12, b12⟩ := S6.out.tl.tl.hd
    go_region_with (first | (go_at_call 25; refine (small25 _).mono ?_; rintro e w8 ⟨rfl, hrd, hb0⟩; simp at hrd; have HR := Lib.hid hrd; have S8 := Lib.hid (S6.out.drew.bel hb0); obtain ⟨z, a82, b82⟩ := S8.out.tl.tl.hd; clear hb0 hrd) | (go_at_call 18; refine (until18 (smallB _ _) 490 510 460 false _ HR.out).mono ?_; rw [(small_un _ _).1, (small_un _ _).2]; rintro e w9 ⟨rfl, hb0⟩; have S9 := Lib.hid (S8.out.bel hb0); clear hb0))
    all_goals (go_wp2_with fail; go_meet)
    all_goals exact ⟨rfl, rfl, S9⟩
  case rest =>
  obtain ⟨rfl, rfl, S7⟩ := hcut
  clear S6
  go_wp2_with fail
  obtain ⟨z0, c0, d0⟩ := S7.out.hd
  obtain ⟨z1, c1, d1⟩ := S7.out.tl.hd
  obtain ⟨z2, c2, d2⟩ := S7.out.tl.tl.hd
  have HS : wc.drew.cell? ⟨w2.heap.size, 0, none⟩ = some (.int .i64 490) ∧ wc.drew.cell? ⟨w2.heap.size, 1, none⟩ = some (.int .i64 510) ∧ wc.drew.cell? ⟨p2, 0, none⟩ = some (.int .i64 460) ∧ wc.drew.cell? ⟨p2, 1, none⟩ = some (.int .i64 488) ∧ wc.drew.cell? ⟨p3, 0, none⟩ = some (.int .i64 480) ∧ wc.drew.cell? ⟨p3, 1, none⟩ = some (.int .i64 488) ∧ w2.heap.size < wc.drew.heap.size ∧ p2 < wc.drew.heap.size ∧ p3 < wc.drew.heap.size ∧ Below w.heap.size w wc.drew := ⟨c2, d2, c1, d1, c0, d0, z2, z1, z0, S7.out.b.drew⟩
  clear c0 d0 c1 d1 c2 d2 z0 z1 z2 S7
  go_region_held3 (fun X => X.cell? ⟨w2.heap.size, 0, none⟩ = some (.int .i64 490) ∧ X.cell? ⟨w2.heap.size, 1, none⟩ = some (.int .i64 510) ∧ X.cell? ⟨p2, 0, none⟩ = some (.int .i64 460) ∧ X.cell? ⟨p2, 1, none⟩ = some (.int .i64 488) ∧ X.cell? ⟨p3, 0, none⟩ = some (.int .i64 480) ∧ X.cell? ⟨p3, 1, none⟩ = some (.int .i64 488) ∧ w2.heap.size < X.heap.size ∧ p2 < X.heap.size ∧ p3 < X.heap.size ∧ Below w.heap.size w X) (first | assumption | exact keep6 (by assumption) (by assumption)) (first | (go_at_call 22; refine (sp22 _ _ _).mono ?_; rintro e w8 ⟨rfl, hb0⟩) | (go_at_call 11; fail))
  all_goals
    rename_i hH
    have BE := Lib.hid hH.2.2.2.2.2.2.2.2.2
    clear hH HS
    go_wp2_with fail
    go_ret
    exact ⟨rfl, BE.out⟩
end Go.Proofs.Ytgcjjnmdbdllhaa
