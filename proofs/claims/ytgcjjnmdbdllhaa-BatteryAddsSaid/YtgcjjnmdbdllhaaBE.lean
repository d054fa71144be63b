/- The walks of Charge of the reference, of After and Until (program and reference), and of Meet. -/
import Derived.Test.YtgcjjnmdbdllhaaBD
namespace Go.Proofs.Ytgcjjnmdbdllhaa
open Go.RowKit
set_option maxHeartbeats 4000000
set_option maxRecDepth 100000
set_option linter.unusedVariables false

theorem charge13 (b : BD) (r : Int) (w : World) (hr : b.rd w) : Calls Try.prog 13 #[b.val, .int .i64 r] w fun e w' => e = .returned (.tuple #[sv (chLo b r) (chHi b r), .int .i64 (chE b r)]) ∧ Below w.heap.size w w' := by
  have Hr := Lib.hid hr
  have Hq := Lib.hid (hr.bel ((box_bel w (.cells b.cells 26)).alloc (by simp) (.cells #[.int .i64 0, .int .i64 0] 24)))
  clear hr
  by_cases hc : chk b = 0
  case neg =>
    have HE := Lib.hid (show chE b r = chk b by unfold chE; rw [if_neg hc])
    have HL := Lib.hid (show chLo b r = 0 ∧ chHi b r = 0 by unfold chLo chHi; rw [HE.out, if_neg hc, if_neg hc]; exact ⟨rfl, rfl⟩)
    have qc : (chk b != 0) = true := by simpa using hc
    clear hc
    go_enter Try.func13, Try.ntmps13
    go_wp2_with fail
    refine (check15 b _ Hq.out).mono ?_
    rintro e w1 ⟨rfl, hb⟩
    have B := Lib.hid (wbr_init hb)
    clear hb
    obtain ⟨⟨k0, k1, k2, k3, k4, k5, k6⟩, ⟨j0, j1⟩, ⟨f0, f1⟩, bl, hz⟩ := wbr_facts B.out
    have Bl := Lib.hid bl
    clear bl
    go_wp2_with fail
    refine bodyPost_ret (v := .tuple #[sv 0 0, .int .i64 (chk b)]) (by simp [results, Try.results13, go_sem, j0, j1]) rfl ⟨by rw [HE.out, HL.out.1, HL.out.2], ?_⟩
    exact (Bl.out.setCell (by simp <;> omega) _).setCell (by simp <;> omega) _
  have Hc := Lib.hid hc
  by_cases h1 : 0 ≤ r ∧ r ≤ 10000
  case neg =>
    have HE := Lib.hid (show chE b r = 1 by unfold chE; rw [if_pos hc, if_neg h1])
    have HL := Lib.hid (show chLo b r = 0 ∧ chHi b r = 0 by unfold chLo chHi; rw [HE.out]; exact ⟨rfl, rfl⟩)
    have h2 : r < 0 ∨ 10000 < r := by omega
    clear hc h1
    rcases h2 with h2 | h2
    all_goals
      go_enter Try.func13, Try.ntmps13
      go_wp2_with fail
      refine (check15 b _ Hq.out).mono ?_
      rw [Hc.out]
      rintro e w1 ⟨rfl, hb⟩
      have B := Lib.hid (wbr_init hb)
      clear hb
      obtain ⟨⟨k0, k1, k2, k3, k4, k5, k6⟩, ⟨j0, j1⟩, ⟨f0, f1⟩, bl, hz⟩ := wbr_facts B.out
      have Bl := Lib.hid bl
      clear bl
      go_wp2_with fail
      refine bodyPost_ret (v := .tuple #[sv 0 0, .int .i64 1]) (by simp [results, Try.results13, go_sem, j0, j1]) rfl ⟨by rw [HE.out, HL.out.1, HL.out.2], ?_⟩
      exact (Bl.out.setCell (by simp <;> omega) _).setCell (by simp <;> omega) _
  have HE := Lib.hid (show chE b r = 0 by unfold chE; rw [if_pos hc, if_pos h1])
  have HL := Lib.hid (show chLo b r = loAt b (r - b.er) ∧ chHi b r = hiAt b (r + b.er) by unfold chLo chHi; rw [HE.out]; exact ⟨rfl, rfl⟩)
  have h2 : 0 ≤ r := h1.1
  have h3 : r ≤ 10000 := h1.2
  have ok := chk_ok hc
  have Hok := Lib.hid ok
  have er := ok.er
  have e1 : IntKind.i64.wrap (r - b.er) = r - b.er := IntWalk.i64_in _ (by omega)
  have e2 : IntKind.i64.wrap (r + b.er) = r + b.er := IntWalk.i64_in _ (by omega)
  have Hx := Lib.hid (show -1000 ≤ r - b.er ∧ r - b.er ≤ 11000 ∧ -1000 ≤ r + b.er ∧ r + b.er ≤ 11000 by omega)
  clear hc h1 er
  go_enter Try.func13, Try.ntmps13
  go_wp2_with fail
  refine (check15 b _ Hq.out).mono ?_
  rw [Hc.out]
  rintro e w1 ⟨rfl, hb⟩
  have B := Lib.hid (wbr_init hb)
  clear hb
  obtain ⟨⟨k0, k1, k2, k3, k4, k5, k6⟩, ⟨j0, j1⟩, ⟨f0, f1⟩, bl, hz⟩ := wbr_facts B.out
  have Bl := Lib.hid bl
  clear bl
  go_wp2_with fail
  refine (at24 b (r - b.er) _ (Hr.out.bel Bl.out) Hok.out Hx.out.1 Hx.out.2.1).mono ?_
  rintro e w2 ⟨rfl, hb⟩
  have B2 := Lib.hid (wbr_step B.out hb)
  clear hb B Bl k0 k1 k2 k3 k4 k5 k6 j0 j1 f0 f1 hz
  obtain ⟨⟨k0, k1, k2, k3, k4, k5, k6⟩, ⟨j0, j1⟩, ⟨f0, f1⟩, bl, hz⟩ := wbr_facts B2.out
  have Bl := Lib.hid bl
  clear bl
  go_wp2_with fail
  refine (at24 b (r + b.er) _ (Hr.out.bel Bl.out) Hok.out Hx.out.2.2.1 Hx.out.2.2.2).mono ?_
  rintro e w3 ⟨rfl, hb⟩
  have B3 := Lib.hid (wbr_step B2.out hb)
  clear hb B2 Bl k0 k1 k2 k3 k4 k5 k6 j0 j1 f0 f1 hz
  obtain ⟨⟨k0, k1, k2, k3, k4, k5, k6⟩, ⟨j0, j1⟩, ⟨f0, f1⟩, bl, hz⟩ := wbr_facts B3.out
  have Bl := Lib.hid bl
  clear bl
  obtain ⟨g0, g1, g2⟩ := at_bd ok (r - b.er)
  obtain ⟨g3, g4, g5⟩ := at_bd ok (r + b.er)
  have qb := ok
  clear ok
  have gq : atQ b (r - b.er) ≤ 10000 ∧ atQ b (r + b.er) ≤ 10000 := ⟨atQ_le Hok.out _, atQ_le Hok.out _⟩
  have u0 : 0 ≤ atP b (r - b.er) / atQ b (r - b.er) := Int.ediv_nonneg (by omega) (by omega)
  have u1 := Int.ediv_le_self (atQ b (r - b.er)) (show 0 ≤ atP b (r - b.er) by omega)
  have u2 : 0 ≤ (atP b (r + b.er) + atQ b (r + b.er) - 1) / atQ b (r + b.er) := Int.ediv_nonneg (by omega) (by omega)
  have u3 := Int.ediv_le_self (atQ b (r + b.er)) (show 0 ≤ atP b (r + b.er) + atQ b (r + b.er) - 1 by omega)
  have n1 : (atQ b (r - b.er) == 0) = false := by simp; omega
  have n2 : (atQ b (r + b.er) == 0) = false := by simp; omega
  have n3 : ¬ atQ b (r - b.er) = 0 := by omega
  have n4 : ¬ atQ b (r + b.er) = 0 := by omega
  have t1 : Int.tdiv (atP b (r - b.er)) (atQ b (r - b.er)) = loAt b (r - b.er) := Int.tdiv_eq_ediv_of_nonneg (by omega)
  have t2 : Int.tdiv (atP b (r + b.er) + atQ b (r + b.er) - 1) (atQ b (r + b.er)) = hiAt b (r + b.er) := Int.tdiv_eq_ediv_of_nonneg (by omega)
  have s1 : IntKind.i64.wrap (loAt b (r - b.er)) = loAt b (r - b.er) := IntWalk.i64_in _ (by unfold loAt; omega)
  have s2 : IntKind.i64.wrap (hiAt b (r + b.er)) = hiAt b (r + b.er) := IntWalk.i64_in _ (by unfold hiAt; omega)
  have s3 : IntKind.i64.wrap (atP b (r + b.er) + atQ b (r + b.er)) = atP b (r + b.er) + atQ b (r + b.er) := IntWalk.i64_in _ (by omega)
  have s4 : IntKind.i64.wrap (atP b (r + b.er) + atQ b (r + b.er) - 1) = atP b (r + b.er) + atQ b (r + b.er) - 1 := IntWalk.i64_in _ (by omega)
  clear g0 g1 g2 g3 g4 g5 gq u0 u1 u2 u3 qb
  go_wp2_with fail
  go_region
  all_goals
    go_wp2_with fail
    refine bodyPost_ret (v := .tuple #[sv (loAt b (r - b.er)) (hiAt b (r + b.er)), .int .i64 0]) (by simp [results, Try.results13, go_sem, j0, j1]) rfl ⟨by rw [HE.out, HL.out.1, HL.out.2], ?_⟩
    exact ((Bl.out.drew).setCell (by simp) _).setCell (by simp) _

theorem after16 (b : BD) (lo hi s : Int) (g : Bool) (w : World) (hr : b.rd w) : Calls Try.prog 16 #[b.val, sv lo hi, .int .i64 s, .bool g] w fun e w' => e = .returned (.tuple #[sv (aftLo b lo hi s g) (aftHi b lo hi s g), .int .i64 (afE b lo hi s)]) ∧ Below w.heap.size w w' := by
  have Hr := Lib.hid hr
  have Hq := Lib.hid (hr.bel (((box_bel w (.cells b.cells 26)).alloc (by simp) (.cells #[.int .i64 lo, .int .i64 hi] 24)).alloc (by simp; omega) (.cells #[.int .i64 0, .int .i64 0] 24)))
  clear hr
  by_cases hc : chk b = 0
  case neg =>
    have HE := Lib.hid (show afE b lo hi s = chk b by unfold afE; rw [if_neg hc])
    have HL := Lib.hid (show aftLo b lo hi s g = 0 ∧ aftHi b lo hi s g = 0 by unfold aftLo aftHi; rw [HE.out, if_neg hc, if_neg hc]; exact ⟨rfl, rfl⟩)
    have qc : (chk b != 0) = true := by simpa using hc
    clear hc
    go_enter Try.func16, Try.ntmps16
    go_wp2_with fail
    refine (check14 b _ Hq.out).mono ?_
    rintro e w1 ⟨rfl, hb⟩
    have B := Lib.hid (wbsr_init hb)
    clear hb
    obtain ⟨⟨k0, k1, k2, k3, k4, k5, k6⟩, ⟨i0, i1⟩, ⟨j0, j1⟩, ⟨f0, f1⟩, bl, hz⟩ := wbsr_facts B.out
    have Bl := Lib.hid bl
    clear bl
    go_wp2_with fail
    refine bodyPost_ret (v := .tuple #[sv 0 0, .int .i64 (chk b)]) (by simp [results, Try.results16, go_sem, j0, j1]) rfl ⟨by rw [HE.out, HL.out.1, HL.out.2], ?_⟩
    exact (Bl.out.setCell (by simp <;> omega) _).setCell (by simp <;> omega) _
  have Hc := Lib.hid hc
  by_cases h1 : spP lo hi
  case neg =>
    have HE := Lib.hid (show afE b lo hi s = 1 by unfold afE; rw [if_pos hc, if_neg (fun x => h1 x.1)])
    have HL := Lib.hid (show aftLo b lo hi s g = 0 ∧ aftHi b lo hi s g = 0 by unfold aftLo aftHi; rw [HE.out]; exact ⟨rfl, rfl⟩)
    have q1 := spB_f h1
    clear hc h1
    go_enter Try.func16, Try.ntmps16
    go_wp2_with fail
    refine (check14 b _ Hq.out).mono ?_
    rw [Hc.out]
    rintro e w1 ⟨rfl, hb⟩
    have B := Lib.hid (wbsr_init hb)
    clear hb
    obtain ⟨⟨k0, k1, k2, k3, k4, k5, k6⟩, ⟨i0, i1⟩, ⟨j0, j1⟩, ⟨f0, f1⟩, bl, hz⟩ := wbsr_facts B.out
    have Bl := Lib.hid bl
    clear bl
    go_wp2_with fail
    refine (within28 lo hi _).mono ?_
    rintro e w2 ⟨rfl, hb⟩
    have B2 := Lib.hid (wbsr_step B.out hb)
    clear hb B Bl k0 k1 k2 k3 k4 k5 k6 i0 i1 j0 j1 f0 f1 hz
    obtain ⟨⟨k0, k1, k2, k3, k4, k5, k6⟩, ⟨i0, i1⟩, ⟨j0, j1⟩, ⟨f0, f1⟩, bl, hz⟩ := wbsr_facts B2.out
    have Bl := Lib.hid bl
    clear bl
    go_wp2_with fail
    refine bodyPost_ret (v := .tuple #[sv 0 0, .int .i64 1]) (by simp [results, Try.results16, go_sem, j0, j1]) rfl ⟨by rw [HE.out, HL.out.1, HL.out.2], ?_⟩
    exact (Bl.out.setCell (by simp <;> omega) _).setCell (by simp <;> omega) _
  have q1 := spB_t h1
  by_cases h2 : 0 ≤ s ∧ s ≤ 4294943999
  case neg =>
    have HE := Lib.hid (show afE b lo hi s = 1 by unfold afE; rw [if_pos hc, if_neg (fun x => h2 x.2)])
    have HL := Lib.hid (show aftLo b lo hi s g = 0 ∧ aftHi b lo hi s g = 0 by unfold aftLo aftHi; rw [HE.out]; exact ⟨rfl, rfl⟩)
    have q2 := inB_f h2
    clear hc h1 h2
    go_enter Try.func16, Try.ntmps16
    go_wp2_with fail
    refine (check14 b _ Hq.out).mono ?_
    rw [Hc.out]
    rintro e w1 ⟨rfl, hb⟩
    have B := Lib.hid (wbsr_init hb)
    clear hb
    obtain ⟨⟨k0, k1, k2, k3, k4, k5, k6⟩, ⟨i0, i1⟩, ⟨j0, j1⟩, ⟨f0, f1⟩, bl, hz⟩ := wbsr_facts B.out
    have Bl := Lib.hid bl
    clear bl
    go_wp2_with fail
    refine (within28 lo hi _).mono ?_
    rintro e w2 ⟨rfl, hb⟩
    have B2 := Lib.hid (wbsr_step B.out hb)
    clear hb B Bl k0 k1 k2 k3 k4 k5 k6 i0 i1 j0 j1 f0 f1 hz
    obtain ⟨⟨k0, k1, k2, k3, k4, k5, k6⟩, ⟨i0, i1⟩, ⟨j0, j1⟩, ⟨f0, f1⟩, bl, hz⟩ := wbsr_facts B2.out
    have Bl := Lib.hid bl
    clear bl
    go_wp2_with (go_at_call 26; refine (in26 _ _ _).mono ?_; rintro e w3 ⟨rfl, rfl⟩)
    refine bodyPost_ret (v := .tuple #[sv 0 0, .int .i64 1]) (by simp [results, Try.results16, go_sem, j0, j1]) rfl ⟨by rw [HE.out, HL.out.1, HL.out.2], ?_⟩
    exact (Bl.out.setCell (by simp <;> omega) _).setCell (by simp <;> omega) _
  have HE := Lib.hid (show afE b lo hi s = 0 from afE_mk hc h1 h2)
  have ok := chk_ok hc
  obtain ⟨a0, a1, a2⟩ := ls_sp ok g
  obtain ⟨c0, c1, c2⟩ := h1
  have v1 := ls_bd a0 (by omega) h2.1 (show s ≤ 4294944000 by omega)
  have v2 := ls_bd (show 0 ≤ lsH b g by omega) a2 h2.1 (show s ≤ 4294944000 by omega)
  obtain ⟨p, hp⟩ : ∃ p, p = lsH b g * s := ⟨_, rfl⟩
  obtain ⟨q, hq⟩ : ∃ q, q = lsL b g * s := ⟨_, rfl⟩
  obtain ⟨F, hF⟩ : ∃ F, F = (p + 3599) / 3600 := ⟨_, rfl⟩
  obtain ⟨G, hG⟩ : ∃ G, G = q / 3600 := ⟨_, rfl⟩
  have HL := Lib.hid (show aftLo b lo hi s g = max 0 (lo - F) ∧ aftHi b lo hi s g = max 0 (hi - G) by unfold aftLo aftHi afL afH; rw [HE.out, hF, hG, hp, hq]; exact ⟨rfl, rfl⟩)
  rw [← hq] at v1
  rw [← hp] at v2
  have m1 : IntKind.i64.wrap (lsH b g * s) = p := by rw [← hp]; exact IntWalk.i64_in _ (by omega)
  have m2 : IntKind.i64.wrap (lsL b g * s) = q := by rw [← hq]; exact IntWalk.i64_in _ (by omega)
  have m3 : IntKind.i64.wrap (p + 3600) = p + 3600 := IntWalk.i64_in _ (by omega)
  have m4 : IntKind.i64.wrap (p + 3600 - 1) = p + 3599 := by rw [show p + 3600 - 1 = p + 3599 by omega]; exact IntWalk.i64_in _ (by omega)
  have m5 : IntKind.i64.wrap (p + 3599) = p + 3599 := IntWalk.i64_in _ (by omega)
  have m6 : Int.tdiv (p + 3599) 3600 = F := by rw [hF]; exact Int.tdiv_eq_ediv_of_nonneg (by omega)
  have m7 : Int.tdiv q 3600 = G := by rw [hG]; exact Int.tdiv_eq_ediv_of_nonneg (by omega)
  have m8 : IntKind.i64.wrap F = F := IntWalk.i64_in _ (by omega)
  have m9 : IntKind.i64.wrap G = G := IntWalk.i64_in _ (by omega)
  have m10 : IntKind.i64.wrap (lo - F) = lo - F := IntWalk.i64_in _ (by omega)
  have m11 : IntKind.i64.wrap (hi - G) = hi - G := IntWalk.i64_in _ (by omega)
  have q2 := inB_t h2
  clear hc h2 ok a0 a1 a2 c0 c1 c2 v1 v2 hp hq hF hG
  go_enter Try.func16, Try.ntmps16
  go_wp2_with fail
  refine (check14 b _ Hq.out).mono ?_
  rw [Hc.out]
  rintro e w1 ⟨rfl, hb⟩
  have B := Lib.hid (wbsr_init hb)
  clear hb
  obtain ⟨⟨k0, k1, k2, k3, k4, k5, k6⟩, ⟨i0, i1⟩, ⟨j0, j1⟩, ⟨f0, f1⟩, bl, hz⟩ := wbsr_facts B.out
  have Bl := Lib.hid bl
  clear bl
  go_wp2_with fail
  refine (within28 lo hi _).mono ?_
  rintro e w2 ⟨rfl, hb⟩
  have B2 := Lib.hid (wbsr_step B.out hb)
  clear hb B Bl k0 k1 k2 k3 k4 k5 k6 i0 i1 j0 j1 f0 f1 hz
  obtain ⟨⟨k0, k1, k2, k3, k4, k5, k6⟩, ⟨i0, i1⟩, ⟨j0, j1⟩, ⟨f0, f1⟩, bl, hz⟩ := wbsr_facts B2.out
  have Bl := Lib.hid bl
  clear bl
  go_wp2_with (go_at_call 26; refine (in26 _ _ _).mono ?_; rintro e w3 ⟨rfl, rfl⟩)
  refine (loss31 b g _).mono ?_
  rintro e w3 ⟨rfl, hb⟩
  have B3 := Lib.hid (wbsr_step B2.out hb)
  clear hb B2 Bl k0 k1 k2 k3 k4 k5 k6 i0 i1 j0 j1 f0 f1 hz
  obtain ⟨⟨k0, k1, k2, k3, k4, k5, k6⟩, ⟨i0, i1⟩, ⟨j0, j1⟩, ⟨f0, f1⟩, bl, hz⟩ := wbsr_facts B3.out
  have B4 := Lib.hid (B3.out.alloc hz (.cells #[.int .i64 (lsL b g), .int .i64 (lsH b g)] 24))
  have hz3 := hz
  clear k0 k1 k2 k3 k4 k5 k6 i0 i1 j0 j1 f0 f1 bl hz
  have x0 := new_cell w3 #[.int .i64 (lsL b g), .int .i64 (lsH b g)] 24 0
  have x1 := new_cell w3 #[.int .i64 (lsL b g), .int .i64 (lsH b g)] 24 1
  simp only [List.getElem?_toArray, List.getElem?_cons_zero, List.getElem?_cons_succ] at x0 x1
  obtain ⟨⟨k0, k1, k2, k3, k4, k5, k6⟩, ⟨i0, i1⟩, ⟨j0, j1⟩, ⟨f0, f1⟩, bl, hz⟩ := wbsr_facts B4.out
  have Bl := Lib.hid bl
  clear bl
  go_wp2_with fail
  refine bodyPost_ret (v := .tuple #[sv (max 0 (lo - F)) (max 0 (hi - G)), .int .i64 0]) (by simp [results, Try.results16, go_sem, j0, j1]) rfl ⟨by rw [HE.out, HL.out.1, HL.out.2], ?_⟩
  exact (Bl.out.setCell (by simp <;> omega) _).setCell (by simp <;> omega) _

theorem after17 (b : BD) (lo hi s : Int) (g : Bool) (w : World) (hr : b.rd w) : Calls Try.prog 17 #[b.val, sv lo hi, .int .i64 s, .bool g] w fun e w' => e = .returned (.tuple #[sv (aftLo b lo hi s g) (aftHi b lo hi s g), .int .i64 (afE b lo hi s)]) ∧ Below w.heap.size w w' := by
  have Hr := Lib.hid hr
  have Hq := Lib.hid (hr.bel (((box_bel w (.cells b.cells 26)).alloc (by simp) (.cells #[.int .i64 lo, .int .i64 hi] 24)).alloc (by simp; omega) (.cells #[.int .i64 0, .int .i64 0] 24)))
  clear hr
  by_cases hc : chk b = 0
  case neg =>
    have HE := Lib.hid (show afE b lo hi s = chk b by unfold afE; rw [if_neg hc])
    have HL := Lib.hid (show aftLo b lo hi s g = 0 ∧ aftHi b lo hi s g = 0 by unfold aftLo aftHi; rw [HE.out, if_neg hc, if_neg hc]; exact ⟨rfl, rfl⟩)
    have qc : (chk b != 0) = true := by simpa using hc
    clear hc
    go_enter Try.func17, Try.ntmps17
    go_wp2_with fail
    refine (check15 b _ Hq.out).mono ?_
    rintro e w1 ⟨rfl, hb⟩
    have B := Lib.hid (wbsr_init hb)
    clear hb
    obtain ⟨⟨k0, k1, k2, k3, k4, k5, k6⟩, ⟨i0, i1⟩, ⟨j0, j1⟩, ⟨f0, f1⟩, bl, hz⟩ := wbsr_facts B.out
    have Bl := Lib.hid bl
    clear bl
    go_wp2_with fail
    refine bodyPost_ret (v := .tuple #[sv 0 0, .int .i64 (chk b)]) (by simp [results, Try.results17, go_sem, j0, j1]) rfl ⟨by rw [HE.out, HL.out.1, HL.out.2], ?_⟩
    exact (Bl.out.setCell (by simp <;> omega) _).setCell (by simp <;> omega) _
  have Hc := Lib.hid hc
  by_cases h1 : spP lo hi
  case neg =>
    have HE := Lib.hid (show afE b lo hi s = 1 by unfold afE; rw [if_pos hc, if_neg (fun x => h1 x.1)])
    have HL := Lib.hid (show aftLo b lo hi s g = 0 ∧ aftHi b lo hi s g = 0 by unfold aftLo aftHi; rw [HE.out]; exact ⟨rfl, rfl⟩)
    have q1 := spB_f h1
    clear hc h1
    go_enter Try.func17, Try.ntmps17
    go_wp2_with fail
    refine (check15 b _ Hq.out).mono ?_
    rw [Hc.out]
    rintro e w1 ⟨rfl, hb⟩
    have B := Lib.hid (wbsr_init hb)
    clear hb
    obtain ⟨⟨k0, k1, k2, k3, k4, k5, k6⟩, ⟨i0, i1⟩, ⟨j0, j1⟩, ⟨f0, f1⟩, bl, hz⟩ := wbsr_facts B.out
    have Bl := Lib.hid bl
    clear bl
    go_wp2_with fail
    refine (interval21 lo hi _).mono ?_
    rintro e w2 ⟨rfl, hb⟩
    have B2 := Lib.hid (wbsr_step B.out hb)
    clear hb B Bl k0 k1 k2 k3 k4 k5 k6 i0 i1 j0 j1 f0 f1 hz
    obtain ⟨⟨k0, k1, k2, k3, k4, k5, k6⟩, ⟨i0, i1⟩, ⟨j0, j1⟩, ⟨f0, f1⟩, bl, hz⟩ := wbsr_facts B2.out
    have Bl := Lib.hid bl
    clear bl
    go_wp2_with fail
    refine bodyPost_ret (v := .tuple #[sv 0 0, .int .i64 1]) (by simp [results, Try.results17, go_sem, j0, j1]) rfl ⟨by rw [HE.out, HL.out.1, HL.out.2], ?_⟩
    exact (Bl.out.setCell (by simp <;> omega) _).setCell (by simp <;> omega) _
  have q1 := spB_t h1
  by_cases h2 : 0 ≤ s ∧ s ≤ 4294943999
  case neg =>
    have HE := Lib.hid (show afE b lo hi s = 1 by unfold afE; rw [if_pos hc, if_neg (fun x => h2 x.2)])
    have HL := Lib.hid (show aftLo b lo hi s g = 0 ∧ aftHi b lo hi s g = 0 by unfold aftLo aftHi; rw [HE.out]; exact ⟨rfl, rfl⟩)
    have h3 : s < 0 ∨ 4294943999 < s := by omega
    clear hc h1 h2
    rcases h3 with h3 | h3
    all_goals
      go_enter Try.func17, Try.ntmps17
      go_wp2_with fail
      refine (check15 b _ Hq.out).mono ?_
      rw [Hc.out]
      rintro e w1 ⟨rfl, hb⟩
      have B := Lib.hid (wbsr_init hb)
      clear hb
      obtain ⟨⟨k0, k1, k2, k3, k4, k5, k6⟩, ⟨i0, i1⟩, ⟨j0, j1⟩, ⟨f0, f1⟩, bl, hz⟩ := wbsr_facts B.out
      have Bl := Lib.hid bl
      clear bl
      go_wp2_with fail
      refine (interval21 lo hi _).mono ?_
      rintro e w2 ⟨rfl, hb⟩
      have B2 := Lib.hid (wbsr_step B.out hb)
      clear hb B Bl k0 k1 k2 k3 k4 k5 k6 i0 i1 j0 j1 f0 f1 hz
      obtain ⟨⟨k0, k1, k2, k3, k4, k5, k6⟩, ⟨i0, i1⟩, ⟨j0, j1⟩, ⟨f0, f1⟩, bl, hz⟩ := wbsr_facts B2.out
      have Bl := Lib.hid bl
      clear bl
      go_wp2_with fail
      refine bodyPost_ret (v := .tuple #[sv 0 0, .int .i64 1]) (by simp [results, Try.results17, go_sem, j0, j1]) rfl ⟨by rw [HE.out, HL.out.1, HL.out.2], ?_⟩
      exact (Bl.out.setCell (by simp <;> omega) _).setCell (by simp <;> omega) _
  have HE := Lib.hid (show afE b lo hi s = 0 from afE_mk hc h1 h2)
  have ok := chk_ok hc
  obtain ⟨a0, a1, a2⟩ := ls_sp ok g
  obtain ⟨c0, c1, c2⟩ := h1
  have v1 := ls_bd a0 (by omega) h2.1 (show s ≤ 4294944000 by omega)
  have v2 := ls_bd (show 0 ≤ lsH b g by omega) a2 h2.1 (show s ≤ 4294944000 by omega)
  obtain ⟨p, hp⟩ : ∃ p, p = lsH b g * s := ⟨_, rfl⟩
  obtain ⟨q, hq⟩ : ∃ q, q = lsL b g * s := ⟨_, rfl⟩
  obtain ⟨F, hF⟩ : ∃ F, F = (p + 3599) / 3600 := ⟨_, rfl⟩
  obtain ⟨G, hG⟩ : ∃ G, G = q / 3600 := ⟨_, rfl⟩
  have HL := Lib.hid (show aftLo b lo hi s g = max 0 (lo - F) ∧ aftHi b lo hi s g = max 0 (hi - G) by unfold aftLo aftHi afL afH; rw [HE.out, hF, hG, hp, hq]; exact ⟨rfl, rfl⟩)
  rw [← hq] at v1
  rw [← hp] at v2
  have m1 : IntKind.i64.wrap (lsH b g * s) = p := by rw [← hp]; exact IntWalk.i64_in _ (by omega)
  have m2 : IntKind.i64.wrap (lsL b g * s) = q := by rw [← hq]; exact IntWalk.i64_in _ (by omega)
  have m3 : IntKind.i64.wrap (p + 3600) = p + 3600 := IntWalk.i64_in _ (by omega)
  have m4 : IntKind.i64.wrap (p + 3600 - 1) = p + 3599 := by rw [show p + 3600 - 1 = p + 3599 by omega]; exact IntWalk.i64_in _ (by omega)
  have m5 : IntKind.i64.wrap (p + 3599) = p + 3599 := IntWalk.i64_in _ (by omega)
  have m6 : Int.tdiv (p + 3599) 3600 = F := by rw [hF]; exact Int.tdiv_eq_ediv_of_nonneg (by omega)
  have m7 : Int.tdiv q 3600 = G := by rw [hG]; exact Int.tdiv_eq_ediv_of_nonneg (by omega)
  have m8 : IntKind.i64.wrap F = F := IntWalk.i64_in _ (by omega)
  have m9 : IntKind.i64.wrap G = G := IntWalk.i64_in _ (by omega)
  have m10 : IntKind.i64.wrap (lo - F) = lo - F := IntWalk.i64_in _ (by omega)
  have m11 : IntKind.i64.wrap (hi - G) = hi - G := IntWalk.i64_in _ (by omega)
  have q2 : 0 ≤ s := h2.1
  have q3 : s ≤ 4294943999 := h2.2
  clear hc h2 ok a0 a1 a2 c0 c1 c2 v1 v2 hp hq hF hG
  go_enter Try.func17, Try.ntmps17
  go_wp2_with fail
  refine (check15 b _ Hq.out).mono ?_
  rw [Hc.out]
  rintro e w1 ⟨rfl, hb⟩
  have B := Lib.hid (wbsr_init hb)
  clear hb
  obtain ⟨⟨k0, k1, k2, k3, k4, k5, k6⟩, ⟨i0, i1⟩, ⟨j0, j1⟩, ⟨f0, f1⟩, bl, hz⟩ := wbsr_facts B.out
  have Bl := Lib.hid bl
  clear bl
  go_wp2_with fail
  refine (interval21 lo hi _).mono ?_
  rintro e w2 ⟨rfl, hb⟩
  have B2 := Lib.hid (wbsr_step B.out hb)
  clear hb B Bl k0 k1 k2 k3 k4 k5 k6 i0 i1 j0 j1 f0 f1 hz
  obtain ⟨⟨k0, k1, k2, k3, k4, k5, k6⟩, ⟨i0, i1⟩, ⟨j0, j1⟩, ⟨f0, f1⟩, bl, hz⟩ := wbsr_facts B2.out
  have Bl := Lib.hid bl
  clear bl
  go_wp2_with fail
  refine (loss23 b g _).mono ?_
  rintro e w3 ⟨rfl, hb⟩
  have B3 := Lib.hid (wbsr_step B2.out hb)
  clear hb B2 Bl k0 k1 k2 k3 k4 k5 k6 i0 i1 j0 j1 f0 f1 hz
  obtain ⟨⟨k0, k1, k2, k3, k4, k5, k6⟩, ⟨i0, i1⟩, ⟨j0, j1⟩, ⟨f0, f1⟩, bl, hz⟩ := wbsr_facts B3.out
  have B4 := Lib.hid (B3.out.alloc hz (.cells #[.int .i64 (lsL b g), .int .i64 (lsH b g)] 24))
  have hz3 := hz
  clear k0 k1 k2 k3 k4 k5 k6 i0 i1 j0 j1 f0 f1 bl hz
  have x0 := new_cell w3 #[.int .i64 (lsL b g), .int .i64 (lsH b g)] 24 0
  have x1 := new_cell w3 #[.int .i64 (lsL b g), .int .i64 (lsH b g)] 24 1
  simp only [List.getElem?_toArray, List.getElem?_cons_zero, List.getElem?_cons_succ] at x0 x1
  obtain ⟨⟨k0, k1, k2, k3, k4, k5, k6⟩, ⟨i0, i1⟩, ⟨j0, j1⟩, ⟨f0, f1⟩, bl, hz⟩ := wbsr_facts B4.out
  have Bl := Lib.hid bl
  clear bl
  go_wp2_with fail
  refine bodyPost_ret (v := .tuple #[sv (max 0 (lo - F)) (max 0 (hi - G)), .int .i64 0]) (by simp [results, Try.results17, go_sem, j0, j1]) rfl ⟨by rw [HE.out, HL.out.1, HL.out.2], ?_⟩
  exact (Bl.out.setCell (by simp <;> omega) _).setCell (by simp <;> omega) _

end Go.Proofs.Ytgcjjnmdbdllhaa
