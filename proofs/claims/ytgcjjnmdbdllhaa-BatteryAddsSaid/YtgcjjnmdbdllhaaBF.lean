/- The walks of Until (program and reference), of Meet and of the example battery. -/
import Derived.Test.YtgcjjnmdbdllhaaBE
namespace Go.Proofs.Ytgcjjnmdbdllhaa
open Go.RowKit
set_option maxHeartbeats 4000000
set_option maxRecDepth 100000
set_option linter.unusedVariables false

theorem fd24 (x y : Int) : ∀ w : World, (Instr.field 24 (.agg #[.int .i64 x, .int .i64 y]) 1).run Try.prog w = .ok (.int .i64 y) w := fun _ => by kernel_rfl
/-- a world with the battery's block and a span's -/
abbrev wbs (w : World) (b : BD) (lo hi : Int) : World := (w.alloc (.cells b.cells 26)).alloc (.cells #[.int .i64 lo, .int .i64 hi] 24)
theorem wbs_facts {w w1 : World} {b : BD} {lo hi : Int} (h : Below (w.heap.size + 2) (wbs w b lo hi) w1) :
    (w1.cell? ⟨w.heap.size, 0, none⟩ = some (.slice b.A b.n b.c) ∧ w1.cell? ⟨w.heap.size, 1, none⟩ = some (.slice b.C b.m b.d) ∧ w1.cell? ⟨w.heap.size, 2, none⟩ = some (.int .i64 b.er) ∧ w1.cell? ⟨w.heap.size, 3, none⟩ = some (.int .i64 b.il) ∧
    w1.cell? ⟨w.heap.size, 4, none⟩ = some (.int .i64 b.ih) ∧ w1.cell? ⟨w.heap.size, 5, none⟩ = some (.int .i64 b.rl) ∧ w1.cell? ⟨w.heap.size, 6, none⟩ = some (.int .i64 b.rh)) ∧
    (w1.cell? ⟨w.heap.size + 1, 0, none⟩ = some (.int .i64 lo) ∧ w1.cell? ⟨w.heap.size + 1, 1, none⟩ = some (.int .i64 hi)) ∧ Below w.heap.size w w1 ∧ w.heap.size + 2 ≤ w1.heap.size := by
  have hh := heap2 w b.cells #[.int .i64 lo, .int .i64 hi] 26 24
  have h1 := row_at h (by omega) hh.1
  have h2 := row_at h (by omega) hh.2
  exact ⟨kcells h1.1, cells2 h2.1, ((box_bel w _).alloc (by simp) _).trans (h.mono (by omega)), by have := h.size; simpa using this⟩
theorem wbs_step {w w1 w2 : World} {b : BD} {lo hi : Int} (h : Below (w.heap.size + 2) (wbs w b lo hi) w1) (h2 : Below w1.heap.size w1 w2) : Below (w.heap.size + 2) (wbs w b lo hi) w2 := h.trans (h2.mono (wbs_facts h).2.2.2)
theorem wbs_init {w w1 : World} {b : BD} {lo hi : Int} (h : Below (wbs w b lo hi).heap.size (wbs w b lo hi) w1) : Below (w.heap.size + 2) (wbs w b lo hi) w1 := h.mono (by simp)

theorem until18 (b : BD) (lo hi lim : Int) (g : Bool) (w : World) (hr : b.rd w) : Calls Try.prog 18 #[b.val, sv lo hi, .int .i64 lim, .bool g] w fun e w' => e = .returned (.tuple #[.int .i64 (unN b lo hi lim g), .int .i64 (unE b lo hi lim)]) ∧ Below w.heap.size w w' := by
  have Hr := Lib.hid hr
  have Hq := Lib.hid (hr.bel ((box_bel w (.cells b.cells 26)).alloc (by simp) (.cells #[.int .i64 lo, .int .i64 hi] 24)))
  clear hr
  by_cases hc : chk b = 0
  case neg =>
    have HE := Lib.hid (show unE b lo hi lim = chk b by unfold unE; rw [if_neg hc])
    have HL := Lib.hid (show unN b lo hi lim g = 0 by unfold unN; rw [HE.out, if_neg hc])
    have qc : (chk b != 0) = true := by simpa using hc
    clear hc
    go_enter Try.func18, Try.ntmps18
    go_wp2_with fail
    refine (check14 b _ Hq.out).mono ?_
    rintro e w1 ⟨rfl, hb⟩
    have B := Lib.hid (wbs_init hb)
    clear hb
    obtain ⟨⟨k0, k1, k2, k3, k4, k5, k6⟩, ⟨i0, i1⟩, bl, hz⟩ := wbs_facts B.out
    have Bl := Lib.hid bl
    clear bl
    go_wp2_with fail
    go_ret2
    exact ⟨by rw [HE.out, HL.out]; rfl, Bl.out⟩
  have Hc := Lib.hid hc
  by_cases h1 : spP lo hi
  case neg =>
    have HE := Lib.hid (show unE b lo hi lim = 1 by unfold unE; rw [if_pos hc, if_neg (fun x => h1 x.1)])
    have HL := Lib.hid (show unN b lo hi lim g = 0 by unfold unN; rw [HE.out]; rfl)
    have q1 := spB_f h1
    clear hc h1
    go_enter Try.func18, Try.ntmps18
    go_wp2_with fail
    refine (check14 b _ Hq.out).mono ?_
    rw [Hc.out]
    rintro e w1 ⟨rfl, hb⟩
    have B := Lib.hid (wbs_init hb)
    clear hb
    obtain ⟨⟨k0, k1, k2, k3, k4, k5, k6⟩, ⟨i0, i1⟩, bl, hz⟩ := wbs_facts B.out
    have Bl := Lib.hid bl
    clear bl
    go_wp2_with fail
    refine (within28 lo hi _).mono ?_
    rintro e w2 ⟨rfl, hb⟩
    have B2 := Lib.hid (wbs_step B.out hb)
    clear hb B Bl k0 k1 k2 k3 k4 k5 k6 i0 i1 hz
    obtain ⟨⟨k0, k1, k2, k3, k4, k5, k6⟩, ⟨i0, i1⟩, bl, hz⟩ := wbs_facts B2.out
    have Bl := Lib.hid bl
    clear bl
    go_wp2_with fail
    go_ret2
    exact ⟨by rw [HE.out, HL.out]; rfl, Bl.out⟩
  have q1 := spB_t h1
  by_cases h2 : 0 ≤ lim ∧ lim ≤ 1000
  case neg =>
    have HE := Lib.hid (show unE b lo hi lim = 1 by unfold unE; rw [if_pos hc, if_neg (fun x => h2 x.2)])
    have HL := Lib.hid (show unN b lo hi lim g = 0 by unfold unN; rw [HE.out]; rfl)
    have q2 := inB_f h2
    clear hc h1 h2
    go_enter Try.func18, Try.ntmps18
    go_wp2_with fail
    refine (check14 b _ Hq.out).mono ?_
    rw [Hc.out]
    rintro e w1 ⟨rfl, hb⟩
    have B := Lib.hid (wbs_init hb)
    clear hb
    obtain ⟨⟨k0, k1, k2, k3, k4, k5, k6⟩, ⟨i0, i1⟩, bl, hz⟩ := wbs_facts B.out
    have Bl := Lib.hid bl
    clear bl
    go_wp2_with fail
    refine (within28 lo hi _).mono ?_
    rintro e w2 ⟨rfl, hb⟩
    have B2 := Lib.hid (wbs_step B.out hb)
    clear hb B Bl k0 k1 k2 k3 k4 k5 k6 i0 i1 hz
    obtain ⟨⟨k0, k1, k2, k3, k4, k5, k6⟩, ⟨i0, i1⟩, bl, hz⟩ := wbs_facts B2.out
    have Bl := Lib.hid bl
    clear bl
    go_wp2_with (go_at_call 26; refine (in26 _ _ _).mono ?_; rintro e w3 ⟨rfl, rfl⟩)
    go_ret2
    exact ⟨by rw [HE.out, HL.out]; rfl, Bl.out⟩
  have q2 := inB_t h2
  by_cases h3 : lo < lim
  case pos =>
    have HE := Lib.hid (show unE b lo hi lim = 10 by unfold unE; rw [if_pos hc, if_pos ⟨h1, h2⟩, if_pos h3])
    have HL := Lib.hid (show unN b lo hi lim g = 0 by unfold unN; rw [HE.out]; rfl)
    clear hc h1 h2
    go_enter Try.func18, Try.ntmps18
    go_wp2_with fail
    refine (check14 b _ Hq.out).mono ?_
    rw [Hc.out]
    rintro e w1 ⟨rfl, hb⟩
    have B := Lib.hid (wbs_init hb)
    clear hb
    obtain ⟨⟨k0, k1, k2, k3, k4, k5, k6⟩, ⟨i0, i1⟩, bl, hz⟩ := wbs_facts B.out
    have Bl := Lib.hid bl
    clear bl
    go_wp2_with fail
    refine (within28 lo hi _).mono ?_
    rintro e w2 ⟨rfl, hb⟩
    have B2 := Lib.hid (wbs_step B.out hb)
    clear hb B Bl k0 k1 k2 k3 k4 k5 k6 i0 i1 hz
    obtain ⟨⟨k0, k1, k2, k3, k4, k5, k6⟩, ⟨i0, i1⟩, bl, hz⟩ := wbs_facts B2.out
    have Bl := Lib.hid bl
    clear bl
    go_wp2_with (go_at_call 26; refine (in26 _ _ _).mono ?_; rintro e w3 ⟨rfl, rfl⟩)
    go_ret2
    exact ⟨by rw [HE.out, HL.out]; rfl, Bl.out⟩
  have HE := Lib.hid (show unE b lo hi lim = 0 by unfold unE; rw [if_pos hc, if_pos ⟨h1, h2⟩, if_neg h3])
  have HN := Lib.hid (show unN b lo hi lim g = unT (lsH b g) lo lim by unfold unN; rw [HE.out]; rfl)
  have h3' : lim ≤ lo := by omega
  have ok := chk_ok hc
  obtain ⟨a0, a1, a2⟩ := ls_sp ok g
  obtain ⟨c0, c1, c2⟩ := h1
  by_cases h4 : lim = 0
  case pos =>
    have q4 : (lim == 0) = true := by simpa using h4
    have HL := Lib.hid (show unN b lo hi lim g = 4294943999 by rw [HN.out]; exact if_pos (.inl h4))
    clear hc h2 h4 ok a0 a1 a2 c0 c1 c2
    go_enter Try.func18, Try.ntmps18
    go_wp2_with fail
    refine (check14 b _ Hq.out).mono ?_
    rw [Hc.out]
    rintro e w1 ⟨rfl, hb⟩
    have B := Lib.hid (wbs_init hb)
    clear hb
    obtain ⟨⟨k0, k1, k2, k3, k4, k5, k6⟩, ⟨i0, i1⟩, bl, hz⟩ := wbs_facts B.out
    have Bl := Lib.hid bl
    clear bl
    go_wp2_with fail
    refine (within28 lo hi _).mono ?_
    rintro e w2 ⟨rfl, hb⟩
    have B2 := Lib.hid (wbs_step B.out hb)
    clear hb B Bl k0 k1 k2 k3 k4 k5 k6 i0 i1 hz
    obtain ⟨⟨k0, k1, k2, k3, k4, k5, k6⟩, ⟨i0, i1⟩, bl, hz⟩ := wbs_facts B2.out
    have Bl := Lib.hid bl
    clear bl
    go_wp2_with (go_at_call 26; refine (in26 _ _ _).mono ?_; rintro e w3 ⟨rfl, rfl⟩)
    refine (loss31 b g _).mono ?_
    rintro e w3 ⟨rfl, hb⟩
    have B3 := Lib.hid (wbs_step B2.out hb)
    clear hb B2 Bl k0 k1 k2 k3 k4 k5 k6 i0 i1 hz
    have hfd := fd24 (lsL b g) (lsH b g)
    obtain ⟨⟨k0, k1, k2, k3, k4, k5, k6⟩, ⟨i0, i1⟩, bl, hz⟩ := wbs_facts B3.out
    have Bl := Lib.hid bl
    clear bl
    go_wp2_with fail
    go_ret2
    exact ⟨by rw [HE.out, HL.out]; rfl, Bl.out⟩
  have q4 : (lim == 0) = false := by simpa using h4
  by_cases h5 : lsH b g = 0
  case pos =>
    have q5 : (lsH b g == 0) = true := by simpa using h5
    have HL := Lib.hid (show unN b lo hi lim g = 4294943999 by rw [HN.out]; exact if_pos (.inr h5))
    clear hc h2 h4 h5 ok a0 a1 a2 c0 c1 c2
    go_enter Try.func18, Try.ntmps18
    go_wp2_with fail
    refine (check14 b _ Hq.out).mono ?_
    rw [Hc.out]
    rintro e w1 ⟨rfl, hb⟩
    have B := Lib.hid (wbs_init hb)
    clear hb
    obtain ⟨⟨k0, k1, k2, k3, k4, k5, k6⟩, ⟨i0, i1⟩, bl, hz⟩ := wbs_facts B.out
    have Bl := Lib.hid bl
    clear bl
    go_wp2_with fail
    refine (within28 lo hi _).mono ?_
    rintro e w2 ⟨rfl, hb⟩
    have B2 := Lib.hid (wbs_step B.out hb)
    clear hb B Bl k0 k1 k2 k3 k4 k5 k6 i0 i1 hz
    obtain ⟨⟨k0, k1, k2, k3, k4, k5, k6⟩, ⟨i0, i1⟩, bl, hz⟩ := wbs_facts B2.out
    have Bl := Lib.hid bl
    clear bl
    go_wp2_with (go_at_call 26; refine (in26 _ _ _).mono ?_; rintro e w3 ⟨rfl, rfl⟩)
    refine (loss31 b g _).mono ?_
    rintro e w3 ⟨rfl, hb⟩
    have B3 := Lib.hid (wbs_step B2.out hb)
    clear hb B2 Bl k0 k1 k2 k3 k4 k5 k6 i0 i1 hz
    have hfd := fd24 (lsL b g) (lsH b g)
    obtain ⟨⟨k0, k1, k2, k3, k4, k5, k6⟩, ⟨i0, i1⟩, bl, hz⟩ := wbs_facts B3.out
    have Bl := Lib.hid bl
    clear bl
    go_wp2_with fail
    go_ret2
    exact ⟨by rw [HE.out, HL.out]; rfl, Bl.out⟩
  have q5 : (lsH b g == 0) = false := by simpa using h5
  have q6 : ¬ lsH b g = 0 := h5
  have hs := unT_small (h := lsH b g) (lo := lo) (lim := lim) (fun x => x.elim h4 h5) (by omega) (by omega) (by omega)
  obtain ⟨T, hT⟩ : ∃ T, T = (lo - lim) * 3600 / lsH b g := ⟨_, rfl⟩
  rw [← hT] at hs
  have HL := Lib.hid (show unN b lo hi lim g = T by rw [HN.out, hT]; exact if_neg (fun x => x.elim h4 h5))
  have m1 : IntKind.i64.wrap (lo - lim) = lo - lim := IntWalk.i64_in _ (by omega)
  have m2 : IntKind.i64.wrap ((lo - lim) * 3600) = (lo - lim) * 3600 := IntWalk.i64_in _ (by omega)
  have m3 : Int.tdiv ((lo - lim) * 3600) (lsH b g) = T := by rw [hT]; exact Int.tdiv_eq_ediv_of_nonneg (by omega)
  have m4 : IntKind.i64.wrap T = T := IntWalk.i64_in _ (by omega)
  have m5 : min 4294943999 T = T := by omega
  clear hc h2 h4 h5 ok a0 a1 a2 c0 c1 c2 hT hs
  go_enter Try.func18, Try.ntmps18
  go_wp2_with fail
  refine (check14 b _ Hq.out).mono ?_
  rw [Hc.out]
  rintro e w1 ⟨rfl, hb⟩
  have B := Lib.hid (wbs_init hb)
  clear hb
  obtain ⟨⟨k0, k1, k2, k3, k4, k5, k6⟩, ⟨i0, i1⟩, bl, hz⟩ := wbs_facts B.out
  have Bl := Lib.hid bl
  clear bl
  go_wp2_with fail
  refine (within28 lo hi _).mono ?_
  rintro e w2 ⟨rfl, hb⟩
  have B2 := Lib.hid (wbs_step B.out hb)
  clear hb B Bl k0 k1 k2 k3 k4 k5 k6 i0 i1 hz
  obtain ⟨⟨k0, k1, k2, k3, k4, k5, k6⟩, ⟨i0, i1⟩, bl, hz⟩ := wbs_facts B2.out
  have Bl := Lib.hid bl
  clear bl
  go_wp2_with (go_at_call 26; refine (in26 _ _ _).mono ?_; rintro e w3 ⟨rfl, rfl⟩)
  refine (loss31 b g _).mono ?_
  rintro e w3 ⟨rfl, hb⟩
  have B3 := Lib.hid (wbs_step B2.out hb)
  clear hb B2 Bl k0 k1 k2 k3 k4 k5 k6 i0 i1 hz
  have hfd := fd24 (lsL b g) (lsH b g)
  obtain ⟨⟨k0, k1, k2, k3, k4, k5, k6⟩, ⟨i0, i1⟩, bl, hz⟩ := wbs_facts B3.out
  have Bl := Lib.hid bl
  clear bl
  go_wp2_with fail
  go_ret2
  exact ⟨by rw [HE.out, HL.out]; rfl, Bl.out⟩

theorem until19 (b : BD) (lo hi lim : Int) (g : Bool) (w : World) (hr : b.rd w) : Calls Try.prog 19 #[b.val, sv lo hi, .int .i64 lim, .bool g] w fun e w' => e = .returned (.tuple #[.int .i64 (unN b lo hi lim g), .int .i64 (unE b lo hi lim)]) ∧ Below w.heap.size w w' := by
  have Hr := Lib.hid hr
  have Hq := Lib.hid (hr.bel ((box_bel w (.cells b.cells 26)).alloc (by simp) (.cells #[.int .i64 lo, .int .i64 hi] 24)))
  clear hr
  by_cases hc : chk b = 0
  case neg =>
    have HE := Lib.hid (show unE b lo hi lim = chk b by unfold unE; rw [if_neg hc])
    have HL := Lib.hid (show unN b lo hi lim g = 0 by unfold unN; rw [HE.out, if_neg hc])
    have qc : (chk b != 0) = true := by simpa using hc
    clear hc
    go_enter Try.func19, Try.ntmps19
    go_wp2_with fail
    refine (check15 b _ Hq.out).mono ?_
    rintro e w1 ⟨rfl, hb⟩
    have B := Lib.hid (wbs_init hb)
    clear hb
    obtain ⟨⟨k0, k1, k2, k3, k4, k5, k6⟩, ⟨i0, i1⟩, bl, hz⟩ := wbs_facts B.out
    have Bl := Lib.hid bl
    clear bl
    go_wp2_with fail
    go_ret2
    exact ⟨by rw [HE.out, HL.out]; rfl, Bl.out⟩
  have Hc := Lib.hid hc
  by_cases h1 : spP lo hi
  case neg =>
    have HE := Lib.hid (show unE b lo hi lim = 1 by unfold unE; rw [if_pos hc, if_neg (fun x => h1 x.1)])
    have HL := Lib.hid (show unN b lo hi lim g = 0 by unfold unN; rw [HE.out]; rfl)
    have q1 := spB_f h1
    clear hc h1
    go_enter Try.func19, Try.ntmps19
    go_wp2_with fail
    refine (check15 b _ Hq.out).mono ?_
    rw [Hc.out]
    rintro e w1 ⟨rfl, hb⟩
    have B := Lib.hid (wbs_init hb)
    clear hb
    obtain ⟨⟨k0, k1, k2, k3, k4, k5, k6⟩, ⟨i0, i1⟩, bl, hz⟩ := wbs_facts B.out
    have Bl := Lib.hid bl
    clear bl
    go_wp2_with fail
    refine (interval21 lo hi _).mono ?_
    rintro e w2 ⟨rfl, hb⟩
    have B2 := Lib.hid (wbs_step B.out hb)
    clear hb B Bl k0 k1 k2 k3 k4 k5 k6 i0 i1 hz
    obtain ⟨⟨k0, k1, k2, k3, k4, k5, k6⟩, ⟨i0, i1⟩, bl, hz⟩ := wbs_facts B2.out
    have Bl := Lib.hid bl
    clear bl
    go_wp2_with fail
    go_ret2
    exact ⟨by rw [HE.out, HL.out]; rfl, Bl.out⟩
  have q1 := spB_t h1
  by_cases h2 : 0 ≤ lim ∧ lim ≤ 1000
  case neg =>
    have HE := Lib.hid (show unE b lo hi lim = 1 by unfold unE; rw [if_pos hc, if_neg (fun x => h2 x.2)])
    have HL := Lib.hid (show unN b lo hi lim g = 0 by unfold unN; rw [HE.out]; rfl)
    have h3 : lim < 0 ∨ 1000 < lim := by omega
    clear hc h1 h2
    rcases h3 with h3 | h3
    all_goals
      go_enter Try.func19, Try.ntmps19
      go_wp2_with fail
      refine (check15 b _ Hq.out).mono ?_
      rw [Hc.out]
      rintro e w1 ⟨rfl, hb⟩
      have B := Lib.hid (wbs_init hb)
      clear hb
      obtain ⟨⟨k0, k1, k2, k3, k4, k5, k6⟩, ⟨i0, i1⟩, bl, hz⟩ := wbs_facts B.out
      have Bl := Lib.hid bl
      clear bl
      go_wp2_with fail
      refine (interval21 lo hi _).mono ?_
      rintro e w2 ⟨rfl, hb⟩
      have B2 := Lib.hid (wbs_step B.out hb)
      clear hb B Bl k0 k1 k2 k3 k4 k5 k6 i0 i1 hz
      obtain ⟨⟨k0, k1, k2, k3, k4, k5, k6⟩, ⟨i0, i1⟩, bl, hz⟩ := wbs_facts B2.out
      have Bl := Lib.hid bl
      clear bl
      go_wp2_with fail
      go_ret2
      exact ⟨by rw [HE.out, HL.out]; rfl, Bl.out⟩
  have q2 : 0 ≤ lim := h2.1
  have q3 : lim ≤ 1000 := h2.2
  by_cases h3 : lo < lim
  case pos =>
    have HE := Lib.hid (show unE b lo hi lim = 10 by unfold unE; rw [if_pos hc, if_pos ⟨h1, h2⟩, if_pos h3])
    have HL := Lib.hid (show unN b lo hi lim g = 0 by unfold unN; rw [HE.out]; rfl)
    clear hc h1 h2
    go_enter Try.func19, Try.ntmps19
    go_wp2_with fail
    refine (check15 b _ Hq.out).mono ?_
    rw [Hc.out]
    rintro e w1 ⟨rfl, hb⟩
    have B := Lib.hid (wbs_init hb)
    clear hb
    obtain ⟨⟨k0, k1, k2, k3, k4, k5, k6⟩, ⟨i0, i1⟩, bl, hz⟩ := wbs_facts B.out
    have Bl := Lib.hid bl
    clear bl
    go_wp2_with fail
    refine (interval21 lo hi _).mono ?_
    rintro e w2 ⟨rfl, hb⟩
    have B2 := Lib.hid (wbs_step B.out hb)
    clear hb B Bl k0 k1 k2 k3 k4 k5 k6 i0 i1 hz
    obtain ⟨⟨k0, k1, k2, k3, k4, k5, k6⟩, ⟨i0, i1⟩, bl, hz⟩ := wbs_facts B2.out
    have Bl := Lib.hid bl
    clear bl
    go_wp2_with fail
    go_ret2
    exact ⟨by rw [HE.out, HL.out]; rfl, Bl.out⟩
  have HE := Lib.hid (show unE b lo hi lim = 0 by unfold unE; rw [if_pos hc, if_pos ⟨h1, h2⟩, if_neg h3])
  have HN := Lib.hid (show unN b lo hi lim g = unT (lsH b g) lo lim by unfold unN; rw [HE.out]; rfl)
  have h3' : lim ≤ lo := by omega
  have ok := chk_ok hc
  obtain ⟨a0, a1, a2⟩ := ls_sp ok g
  obtain ⟨c0, c1, c2⟩ := h1
  by_cases h4 : lim = 0
  case pos =>
    have q4 : (lim == 0) = true := by simpa using h4
    have HL := Lib.hid (show unN b lo hi lim g = 4294943999 by rw [HN.out]; exact if_pos (.inl h4))
    clear hc h2 h4 ok a0 a1 a2 c0 c1 c2
    go_enter Try.func19, Try.ntmps19
    go_wp2_with fail
    refine (check15 b _ Hq.out).mono ?_
    rw [Hc.out]
    rintro e w1 ⟨rfl, hb⟩
    have B := Lib.hid (wbs_init hb)
    clear hb
    obtain ⟨⟨k0, k1, k2, k3, k4, k5, k6⟩, ⟨i0, i1⟩, bl, hz⟩ := wbs_facts B.out
    have Bl := Lib.hid bl
    clear bl
    go_wp2_with fail
    refine (interval21 lo hi _).mono ?_
    rintro e w2 ⟨rfl, hb⟩
    have B2 := Lib.hid (wbs_step B.out hb)
    clear hb B Bl k0 k1 k2 k3 k4 k5 k6 i0 i1 hz
    obtain ⟨⟨k0, k1, k2, k3, k4, k5, k6⟩, ⟨i0, i1⟩, bl, hz⟩ := wbs_facts B2.out
    have Bl := Lib.hid bl
    clear bl
    go_wp2_with fail
    refine (loss23 b g _).mono ?_
    rintro e w3 ⟨rfl, hb⟩
    have B3 := Lib.hid (wbs_step B2.out hb)
    clear hb B2 Bl k0 k1 k2 k3 k4 k5 k6 i0 i1 hz
    obtain ⟨⟨k0, k1, k2, k3, k4, k5, k6⟩, ⟨i0, i1⟩, bl, hz⟩ := wbs_facts B3.out
    have B4 := Lib.hid (B3.out.alloc hz (.cells #[.int .i64 (lsL b g), .int .i64 (lsH b g)] 24))
    clear k0 k1 k2 k3 k4 k5 k6 i0 i1 bl hz
    have x0 := new_cell w3 #[.int .i64 (lsL b g), .int .i64 (lsH b g)] 24 0
    have x1 := new_cell w3 #[.int .i64 (lsL b g), .int .i64 (lsH b g)] 24 1
    simp only [List.getElem?_toArray, List.getElem?_cons_zero, List.getElem?_cons_succ] at x0 x1
    obtain ⟨⟨k0, k1, k2, k3, k4, k5, k6⟩, ⟨i0, i1⟩, bl, hz⟩ := wbs_facts B4.out
    have Bl := Lib.hid bl
    clear bl
    go_wp2_with fail
    go_ret2
    exact ⟨by rw [HE.out, HL.out]; rfl, Bl.out⟩
  have q4 : (lim == 0) = false := by simpa using h4
  by_cases h5 : lsH b g = 0
  case pos =>
    have q5 : (lsH b g == 0) = true := by simpa using h5
    have HL := Lib.hid (show unN b lo hi lim g = 4294943999 by rw [HN.out]; exact if_pos (.inr h5))
    clear hc h2 h4 h5 ok a0 a1 a2 c0 c1 c2
    go_enter Try.func19, Try.ntmps19
    go_wp2_with fail
    refine (check15 b _ Hq.out).mono ?_
    rw [Hc.out]
    rintro e w1 ⟨rfl, hb⟩
    have B := Lib.hid (wbs_init hb)
    clear hb
    obtain ⟨⟨k0, k1, k2, k3, k4, k5, k6⟩, ⟨i0, i1⟩, bl, hz⟩ := wbs_facts B.out
    have Bl := Lib.hid bl
    clear bl
    go_wp2_with fail
    refine (interval21 lo hi _).mono ?_
    rintro e w2 ⟨rfl, hb⟩
    have B2 := Lib.hid (wbs_step B.out hb)
    clear hb B Bl k0 k1 k2 k3 k4 k5 k6 i0 i1 hz
    obtain ⟨⟨k0, k1, k2, k3, k4, k5, k6⟩, ⟨i0, i1⟩, bl, hz⟩ := wbs_facts B2.out
    have Bl := Lib.hid bl
    clear bl
    go_wp2_with fail
    refine (loss23 b g _).mono ?_
    rintro e w3 ⟨rfl, hb⟩
    have B3 := Lib.hid (wbs_step B2.out hb)
    clear hb B2 Bl k0 k1 k2 k3 k4 k5 k6 i0 i1 hz
    obtain ⟨⟨k0, k1, k2, k3, k4, k5, k6⟩, ⟨i0, i1⟩, bl, hz⟩ := wbs_facts B3.out
    have B4 := Lib.hid (B3.out.alloc hz (.cells #[.int .i64 (lsL b g), .int .i64 (lsH b g)] 24))
    clear k0 k1 k2 k3 k4 k5 k6 i0 i1 bl hz
    have x0 := new_cell w3 #[.int .i64 (lsL b g), .int .i64 (lsH b g)] 24 0
    have x1 := new_cell w3 #[.int .i64 (lsL b g), .int .i64 (lsH b g)] 24 1
    simp only [List.getElem?_toArray, List.getElem?_cons_zero, List.getElem?_cons_succ] at x0 x1
    obtain ⟨⟨k0, k1, k2, k3, k4, k5, k6⟩, ⟨i0, i1⟩, bl, hz⟩ := wbs_facts B4.out
    have Bl := Lib.hid bl
    clear bl
    go_wp2_with fail
    go_ret2
    exact ⟨by rw [HE.out, HL.out]; rfl, Bl.out⟩
  have q5 : (lsH b g == 0) = false := by simpa using h5
  have q6 : ¬ lsH b g = 0 := h5
  have hs := unT_small (h := lsH b g) (lo := lo) (lim := lim) (fun x => x.elim h4 h5) (by omega) (by omega) (by omega)
  obtain ⟨T, hT⟩ : ∃ T, T = (lo - lim) * 3600 / lsH b g := ⟨_, rfl⟩
  rw [← hT] at hs
  have HL := Lib.hid (show unN b lo hi lim g = T by rw [HN.out, hT]; exact if_neg (fun x => x.elim h4 h5))
  have m1 : IntKind.i64.wrap (lo - lim) = lo - lim := IntWalk.i64_in _ (by omega)
  have m2 : IntKind.i64.wrap ((lo - lim) * 3600) = (lo - lim) * 3600 := IntWalk.i64_in _ (by omega)
  have m3 : Int.tdiv ((lo - lim) * 3600) (lsH b g) = T := by rw [hT]; exact Int.tdiv_eq_ediv_of_nonneg (by omega)
  have m4 : IntKind.i64.wrap T = T := IntWalk.i64_in _ (by omega)
  have m5 : min 4294943999 T = T := by omega
  clear hc h2 h4 h5 ok a0 a1 a2 c0 c1 c2 hT hs
  go_enter Try.func19, Try.ntmps19
  go_wp2_with fail
  refine (check15 b _ Hq.out).mono ?_
  rw [Hc.out]
  rintro e w1 ⟨rfl, hb⟩
  have B := Lib.hid (wbs_init hb)
  clear hb
  obtain ⟨⟨k0, k1, k2, k3, k4, k5, k6⟩, ⟨i0, i1⟩, bl, hz⟩ := wbs_facts B.out
  have Bl := Lib.hid bl
  clear bl
  go_wp2_with fail
  refine (interval21 lo hi _).mono ?_
  rintro e w2 ⟨rfl, hb⟩
  have B2 := Lib.hid (wbs_step B.out hb)
  clear hb B Bl k0 k1 k2 k3 k4 k5 k6 i0 i1 hz
  obtain ⟨⟨k0, k1, k2, k3, k4, k5, k6⟩, ⟨i0, i1⟩, bl, hz⟩ := wbs_facts B2.out
  have Bl := Lib.hid bl
  clear bl
  go_wp2_with fail
  refine (loss23 b g _).mono ?_
  rintro e w3 ⟨rfl, hb⟩
  have B3 := Lib.hid (wbs_step B2.out hb)
  clear hb B2 Bl k0 k1 k2 k3 k4 k5 k6 i0 i1 hz
  obtain ⟨⟨k0, k1, k2, k3, k4, k5, k6⟩, ⟨i0, i1⟩, bl, hz⟩ := wbs_facts B3.out
  have B4 := Lib.hid (B3.out.alloc hz (.cells #[.int .i64 (lsL b g), .int .i64 (lsH b g)] 24))
  clear k0 k1 k2 k3 k4 k5 k6 i0 i1 bl hz
  have x0 := new_cell w3 #[.int .i64 (lsL b g), .int .i64 (lsH b g)] 24 0
  have x1 := new_cell w3 #[.int .i64 (lsL b g), .int .i64 (lsH b g)] 24 1
  simp only [List.getElem?_toArray, List.getElem?_cons_zero, List.getElem?_cons_succ] at x0 x1
  obtain ⟨⟨k0, k1, k2, k3, k4, k5, k6⟩, ⟨i0, i1⟩, bl, hz⟩ := wbs_facts B4.out
  have Bl := Lib.hid bl
  clear bl
  go_wp2_with fail
  go_ret2
  exact ⟨by rw [HE.out, HL.out]; rfl, Bl.out⟩

/-- a world with two spans' blocks and the result's -/
abbrev wssr (w : World) (a0 a1 b0 b1 : Int) : World := ((w.alloc (.cells #[.int .i64 a0, .int .i64 a1] 24)).alloc (.cells #[.int .i64 b0, .int .i64 b1] 24)).alloc (.cells #[.int .i64 0, .int .i64 0] 24)
theorem wssr_facts {w w1 : World} {a0 a1 b0 b1 : Int} (h : Below (w.heap.size + 3) (wssr w a0 a1 b0 b1) w1) :
    (w1.cell? ⟨w.heap.size, 0, none⟩ = some (.int .i64 a0) ∧ w1.cell? ⟨w.heap.size, 1, none⟩ = some (.int .i64 a1)) ∧ (w1.cell? ⟨w.heap.size + 1, 0, none⟩ = some (.int .i64 b0) ∧ w1.cell? ⟨w.heap.size + 1, 1, none⟩ = some (.int .i64 b1)) ∧
    (w1.cell? ⟨w.heap.size + 2, 0, none⟩ = some (.int .i64 0) ∧ w1.cell? ⟨w.heap.size + 2, 1, none⟩ = some (.int .i64 0)) ∧ (w1.frozen? ⟨w.heap.size + 2, 0, none⟩ = false ∧ w1.frozen? ⟨w.heap.size + 2, 1, none⟩ = false) ∧ Below w.heap.size w w1 ∧ w.heap.size + 3 ≤ w1.heap.size := by
  have hh := heap3 w #[.int .i64 a0, .int .i64 a1] #[.int .i64 b0, .int .i64 b1] #[.int .i64 0, .int .i64 0] 24 24 24
  have h1 := row_at h (by omega) hh.1
  have h2 := row_at h (by omega) hh.2.1
  have h3 := row_at h (by omega) hh.2.2
  exact ⟨cells2 h1.1, cells2 h2.1, cells2 h3.1, ⟨h3.2 0, h3.2 1⟩, (((box_bel w _).alloc (by simp) _).alloc (by simp; omega) _).trans (h.mono (by omega)), by have := h.size; simpa using this⟩
theorem wssr_step {w w1 w2 : World} {a0 a1 b0 b1 : Int} (h : Below (w.heap.size + 3) (wssr w a0 a1 b0 b1) w1) (h2 : Below w1.heap.size w1 w2) : Below (w.heap.size + 3) (wssr w a0 a1 b0 b1) w2 := h.trans (h2.mono (wssr_facts h).2.2.2.2.2)
theorem wssr_init {w w1 : World} {a0 a1 b0 b1 : Int} (h : Below (wssr w a0 a1 b0 b1).heap.size (wssr w a0 a1 b0 b1) w1) : Below (w.heap.size + 3) (wssr w a0 a1 b0 b1) w1 := h.mono (by simp)

theorem meet20 (a0 a1 b0 b1 : Int) (w : World) : Calls Try.prog 20 #[sv a0 a1, sv b0 b1] w fun e w' => e = .returned (.tuple #[sv (meLo a0 a1 b0 b1) (meHi a0 a1 b0 b1), .int .i64 (meE a0 a1 b0 b1)]) ∧ Below w.heap.size w w' := by
  by_cases h1 : spP a0 a1
  case neg =>
    have HE := Lib.hid (show meE a0 a1 b0 b1 = 1 by unfold meE; rw [if_neg (fun x => h1 x.1)])
    have HL := Lib.hid (show meLo a0 a1 b0 b1 = 0 ∧ meHi a0 a1 b0 b1 = 0 by unfold meLo meHi; rw [HE.out]; exact ⟨rfl, rfl⟩)
    have q1 := spB_f h1
    clear h1
    go_enter Try.func20, Try.ntmps20
    go_wp2_with fail
    refine (within28 a0 a1 _).mono ?_
    rintro e w1 ⟨rfl, hb⟩
    have B := Lib.hid (wssr_init hb)
    clear hb
    obtain ⟨⟨k0, k1⟩, ⟨i0, i1⟩, ⟨j0, j1⟩, ⟨f0, f1⟩, bl, hz⟩ := wssr_facts B.out
    have Bl := Lib.hid bl
    clear bl
    go_wp2_with fail
    refine bodyPost_ret (v := .tuple #[sv 0 0, .int .i64 1]) (by simp [results, Try.results20, go_sem, j0, j1]) rfl ⟨by rw [HE.out, HL.out.1, HL.out.2], ?_⟩
    exact (Bl.out.setCell (by simp <;> omega) _).setCell (by simp <;> omega) _
  have q1 := spB_t h1
  by_cases h2 : spP b0 b1
  case neg =>
    have HE := Lib.hid (show meE a0 a1 b0 b1 = 1 by unfold meE; rw [if_neg (fun x => h2 x.2)])
    have HL := Lib.hid (show meLo a0 a1 b0 b1 = 0 ∧ meHi a0 a1 b0 b1 = 0 by unfold meLo meHi; rw [HE.out]; exact ⟨rfl, rfl⟩)
    have q2 := spB_f h2
    clear h1 h2
    go_enter Try.func20, Try.ntmps20
    go_wp2_with fail
    refine (within28 a0 a1 _).mono ?_
    rintro e w1 ⟨rfl, hb⟩
    have B := Lib.hid (wssr_init hb)
    clear hb
    obtain ⟨⟨k0, k1⟩, ⟨i0, i1⟩, ⟨j0, j1⟩, ⟨f0, f1⟩, bl, hz⟩ := wssr_facts B.out
    have Bl := Lib.hid bl
    clear bl
    go_wp2_with fail
    refine (within28 b0 b1 _).mono ?_
    rintro e w2 ⟨rfl, hb⟩
    have B2 := Lib.hid (wssr_step B.out hb)
    clear hb B Bl k0 k1 i0 i1 j0 j1 f0 f1 hz
    obtain ⟨⟨k0, k1⟩, ⟨i0, i1⟩, ⟨j0, j1⟩, ⟨f0, f1⟩, bl, hz⟩ := wssr_facts B2.out
    have Bl := Lib.hid bl
    clear bl
    go_wp2_with fail
    refine bodyPost_ret (v := .tuple #[sv 0 0, .int .i64 1]) (by simp [results, Try.results20, go_sem, j0, j1]) rfl ⟨by rw [HE.out, HL.out.1, HL.out.2], ?_⟩
    exact (Bl.out.setCell (by simp <;> omega) _).setCell (by simp <;> omega) _
  have q2 := spB_t h2
  obtain ⟨x, hx⟩ : ∃ x, x = max a0 b0 := ⟨_, rfl⟩
  obtain ⟨y, hy⟩ : ∃ y, y = min a1 b1 := ⟨_, rfl⟩
  by_cases h3 : y < x
  · have HE := Lib.hid (show meE a0 a1 b0 b1 = 10 by unfold meE; rw [if_pos ⟨h1, h2⟩, if_pos (by rw [← hx, ← hy]; exact h3)])
    have HL := Lib.hid (show meLo a0 a1 b0 b1 = 0 ∧ meHi a0 a1 b0 b1 = 0 by unfold meLo meHi; rw [HE.out]; exact ⟨rfl, rfl⟩)
    have mx := hx.symm
    have my := hy.symm
    clear h1 h2 hx hy
    go_enter Try.func20, Try.ntmps20
    go_wp2_with fail
    refine (within28 a0 a1 _).mono ?_
    rintro e w1 ⟨rfl, hb⟩
    have B := Lib.hid (wssr_init hb)
    clear hb
    obtain ⟨⟨k0, k1⟩, ⟨i0, i1⟩, ⟨j0, j1⟩, ⟨f0, f1⟩, bl, hz⟩ := wssr_facts B.out
    have Bl := Lib.hid bl
    clear bl
    go_wp2_with fail
    refine (within28 b0 b1 _).mono ?_
    rintro e w2 ⟨rfl, hb⟩
    have B2 := Lib.hid (wssr_step B.out hb)
    clear hb B Bl k0 k1 i0 i1 j0 j1 f0 f1 hz
    obtain ⟨⟨k0, k1⟩, ⟨i0, i1⟩, ⟨j0, j1⟩, ⟨f0, f1⟩, bl, hz⟩ := wssr_facts B2.out
    have Bl := Lib.hid bl
    clear bl
    have B4 := Lib.hid (B2.out.alloc hz (.cells #[.int .i64 x, .int .i64 y] 24))
    have x0 := new_cell w2 #[.int .i64 x, .int .i64 y] 24 0
    have x1 := new_cell w2 #[.int .i64 x, .int .i64 y] 24 1
    simp only [List.getElem?_toArray, List.getElem?_cons_zero, List.getElem?_cons_succ] at x0 x1
    obtain ⟨⟨k0', k1'⟩, ⟨i0', i1'⟩, ⟨j0', j1'⟩, ⟨f0', f1'⟩, bl, hz'⟩ := wssr_facts B4.out
    have Bl := Lib.hid bl
    clear bl
    go_wp2_with fail
    refine bodyPost_ret (v := .tuple #[sv 0 0, .int .i64 10]) (by simp [results, Try.results20, go_sem, j0', j1']) rfl ⟨by rw [HE.out, HL.out.1, HL.out.2], ?_⟩
    exact (Bl.out.setCell (by simp <;> omega) _).setCell (by simp <;> omega) _
  · have HE := Lib.hid (show meE a0 a1 b0 b1 = 0 by unfold meE; rw [if_pos ⟨h1, h2⟩, if_neg (by rw [← hx, ← hy]; exact h3)])
    have HL := Lib.hid (show meLo a0 a1 b0 b1 = x ∧ meHi a0 a1 b0 b1 = y by unfold meLo meHi; rw [HE.out, hx, hy]; exact ⟨rfl, rfl⟩)
    have mx := hx.symm
    have my := hy.symm
    clear h1 h2 hx hy
    have h3' : x ≤ y := by omega
    go_enter Try.func20, Try.ntmps20
    go_wp2_with fail
    refine (within28 a0 a1 _).mono ?_
    rintro e w1 ⟨rfl, hb⟩
    have B := Lib.hid (wssr_init hb)
    clear hb
    obtain ⟨⟨k0, k1⟩, ⟨i0, i1⟩, ⟨j0, j1⟩, ⟨f0, f1⟩, bl, hz⟩ := wssr_facts B.out
    have Bl := Lib.hid bl
    clear bl
    go_wp2_with fail
    refine (within28 b0 b1 _).mono ?_
    rintro e w2 ⟨rfl, hb⟩
    have B2 := Lib.hid (wssr_step B.out hb)
    clear hb B Bl k0 k1 i0 i1 j0 j1 f0 f1 hz
    obtain ⟨⟨k0, k1⟩, ⟨i0, i1⟩, ⟨j0, j1⟩, ⟨f0, f1⟩, bl, hz⟩ := wssr_facts B2.out
    have Bl := Lib.hid bl
    clear bl
    have B4 := Lib.hid (B2.out.alloc hz (.cells #[.int .i64 x, .int .i64 y] 24))
    have x0 := new_cell w2 #[.int .i64 x, .int .i64 y] 24 0
    have x1 := new_cell w2 #[.int .i64 x, .int .i64 y] 24 1
    simp only [List.getElem?_toArray, List.getElem?_cons_zero, List.getElem?_cons_succ] at x0 x1
    obtain ⟨⟨k0', k1'⟩, ⟨i0', i1'⟩, ⟨j0', j1'⟩, ⟨f0', f1'⟩, bl, hz'⟩ := wssr_facts B4.out
    have Bl := Lib.hid bl
    clear bl
    go_wp2_with fail
    refine bodyPost_ret (v := .tuple #[sv x y, .int .i64 0]) (by simp [results, Try.results20, go_sem, j0', j1']) rfl ⟨by rw [HE.out, HL.out.1, HL.out.2], ?_⟩
    exact (Bl.out.setCell (by simp <;> omega) _).setCell (by simp <;> omega) _

/-- the example battery, its lists in the blocks k and j -/
def smV (i : Nat) : Int := if i = 0 then 3000 else if i = 1 then 3600 else 4200
def smH (i : Nat) : Int := if i = 0 then 0 else if i = 1 then 400 else 1000
abbrev smallB (k j : Nat) : BD := ⟨some ⟨k, 0, none⟩, 3, 3, some ⟨j, 0, none⟩, 3, 3, smV, smH, 10, 30, 40, 100, 150⟩
theorem small_chk (k j : Nat) : chk (smallB k j) = 0 := by
  refine chk0 (by simp) ⟨fun i hi => ?_, fun i hi => ?_⟩ ⟨fun i hi => ?_, fun i hi => ?_, rfl, rfl, by simp, by unfold spP; simp, by unfold spP; simp⟩
  all_goals
    have h : i = 0 ∨ i = 1 ∨ i = 2 := by simp only at hi; omega
    rcases h with rfl | rfl | rfl
    all_goals (first | (simp at hi; done) | (simp [smV, smH]; done))
theorem small_rd {k j : Nat} {w : World} {t u : TypeId} (h1 : w.heap[k]? = some (.cells #[.int .i64 3000, .int .i64 3600, .int .i64 4200] t (0, 0))) (h2 : w.heap[j]? = some (.cells #[.int .i64 0, .int .i64 400, .int .i64 1000] u (0, 0))) : (smallB k j).rd w := by
  have e1 := fun i => cell_of_row w k i _ _ _ h1
  have e2 := fun i => cell_of_row w j i _ _ _ h2
  refine ⟨fun _ => ⟨k, 0, rfl, (Array.getElem?_eq_some_iff.1 h1).1, fun i hi => ?_⟩, fun _ => ⟨j, 0, rfl, (Array.getElem?_eq_some_iff.1 h2).1, fun i hi => ?_⟩, by simp, by simp⟩
  all_goals
    have h : i = 0 ∨ i = 1 ∨ i = 2 := by simp only at hi; omega
    rcases h with rfl | rfl | rfl
  · exact e1 0
  · exact e1 1
  · exact e1 2
  · exact e2 0
  · exact e2 1
  · exact e2 2

end Go.Proofs.Ytgcjjnmdbdllhaa
