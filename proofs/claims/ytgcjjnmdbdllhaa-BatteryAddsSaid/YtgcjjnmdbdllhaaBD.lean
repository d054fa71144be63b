/- The walks of Charge, After, Until, Meet, of the program and of the reference. -/
import Derived.Test.YtgcjjnmdbdllhaaBC
import Derived.Lib.MinMax
namespace Go.Proofs.Ytgcjjnmdbdllhaa
open Go.RowKit
set_option maxHeartbeats 2000000
set_option maxRecDepth 100000
set_option linter.unusedVariables false

theorem row_at {w0 w1 : World} {B k : Nat} {A : Array Value} {t : TypeId} (h : Below B w0 w1) (hk : k < B) (hc : w0.heap[k]? = some (.cells A t (0, 0))) : (∀ i, w1.cell? ⟨k, i, none⟩ = A[i]?) ∧ (∀ i, w1.frozen? ⟨k, i, none⟩ = false) := by
  have h1 := (h.block k hk).trans hc
  exact ⟨fun i => cell_of_row _ _ _ _ _ _ h1, fun i => by simp [World.frozen?, h1]⟩
theorem heap2 (w : World) (A B : Array Value) (ta tb : TypeId) : ((w.alloc (.cells A ta)).alloc (.cells B tb)).heap[w.heap.size]? = some (.cells A ta (0, 0)) ∧ ((w.alloc (.cells A ta)).alloc (.cells B tb)).heap[w.heap.size + 1]? = some (.cells B tb (0, 0)) := by
  constructor
  · rw [Below.heap_alloc _ _ _ (by simp)]; exact heap_alloc_new w _
  · have := heap_alloc_new (w.alloc (.cells A ta)) (.cells B tb)
    simpa using this
theorem heap3 (w : World) (A B C : Array Value) (ta tb tc : TypeId) : (((w.alloc (.cells A ta)).alloc (.cells B tb)).alloc (.cells C tc)).heap[w.heap.size]? = some (.cells A ta (0, 0)) ∧ (((w.alloc (.cells A ta)).alloc (.cells B tb)).alloc (.cells C tc)).heap[w.heap.size + 1]? = some (.cells B tb (0, 0)) ∧ (((w.alloc (.cells A ta)).alloc (.cells B tb)).alloc (.cells C tc)).heap[w.heap.size + 2]? = some (.cells C tc (0, 0)) := by
  refine ⟨?_, ?_, ?_⟩
  · rw [Below.heap_alloc _ _ _ (by simp; omega)]; exact (heap2 w A B ta tb).1
  · rw [Below.heap_alloc _ _ _ (by simp)]; exact (heap2 w A B ta tb).2
  · have := heap_alloc_new ((w.alloc (.cells A ta)).alloc (.cells B tb)) (.cells C tc)
    simpa using this
theorem cells2 {w1 : World} {m : Nat} {x y : Value} (ka : ∀ i, w1.cell? ⟨m, i, none⟩ = (#[x, y] : Array Value)[i]?) : w1.cell? ⟨m, 0, none⟩ = some x ∧ w1.cell? ⟨m, 1, none⟩ = some y := ⟨ka 0, ka 1⟩

/-- a world with the battery's block and the result's block -/
abbrev wbr (w : World) (b : BD) : World := (w.alloc (.cells b.cells 26)).alloc (.cells #[.int .i64 0, .int .i64 0] 24)
theorem wbr_facts {w w1 : World} {b : BD} (h : Below (w.heap.size + 2) (wbr w b) w1) :
    (w1.cell? ⟨w.heap.size, 0, none⟩ = some (.slice b.A b.n b.c) ∧ w1.cell? ⟨w.heap.size, 1, none⟩ = some (.slice b.C b.m b.d) ∧ w1.cell? ⟨w.heap.size, 2, none⟩ = some (.int .i64 b.er) ∧ w1.cell? ⟨w.heap.size, 3, none⟩ = some (.int .i64 b.il) ∧
    w1.cell? ⟨w.heap.size, 4, none⟩ = some (.int .i64 b.ih) ∧ w1.cell? ⟨w.heap.size, 5, none⟩ = some (.int .i64 b.rl) ∧ w1.cell? ⟨w.heap.size, 6, none⟩ = some (.int .i64 b.rh)) ∧
    (w1.cell? ⟨w.heap.size + 1, 0, none⟩ = some (.int .i64 0) ∧ w1.cell? ⟨w.heap.size + 1, 1, none⟩ = some (.int .i64 0)) ∧ (w1.frozen? ⟨w.heap.size + 1, 0, none⟩ = false ∧ w1.frozen? ⟨w.heap.size + 1, 1, none⟩ = false) ∧ Below w.heap.size w w1 ∧ w.heap.size + 2 ≤ w1.heap.size := by
  have hh := heap2 w b.cells #[.int .i64 0, .int .i64 0] 26 24
  have h1 := row_at h (by omega) hh.1
  have h2 := row_at h (by omega) hh.2
  exact ⟨kcells h1.1, cells2 h2.1, ⟨h2.2 0, h2.2 1⟩, ((box_bel w _).alloc (by simp) _).trans (h.mono (by omega)), by have := h.size; simpa using this⟩
/-- a world with the battery's block, a span's and the result's -/
abbrev wbsr (w : World) (b : BD) (lo hi : Int) : World := ((w.alloc (.cells b.cells 26)).alloc (.cells #[.int .i64 lo, .int .i64 hi] 24)).alloc (.cells #[.int .i64 0, .int .i64 0] 24)
theorem wbsr_facts {w w1 : World} {b : BD} {lo hi : Int} (h : Below (w.heap.size + 3) (wbsr w b lo hi) w1) :
    (w1.cell? ⟨w.heap.size, 0, none⟩ = some (.slice b.A b.n b.c) ∧ w1.cell? ⟨w.heap.size, 1, none⟩ = some (.slice b.C b.m b.d) ∧ w1.cell? ⟨w.heap.size, 2, none⟩ = some (.int .i64 b.er) ∧ w1.cell? ⟨w.heap.size, 3, none⟩ = some (.int .i64 b.il) ∧
    w1.cell? ⟨w.heap.size, 4, none⟩ = some (.int .i64 b.ih) ∧ w1.cell? ⟨w.heap.size, 5, none⟩ = some (.int .i64 b.rl) ∧ w1.cell? ⟨w.heap.size, 6, none⟩ = some (.int .i64 b.rh)) ∧
    (w1.cell? ⟨w.heap.size + 1, 0, none⟩ = some (.int .i64 lo) ∧ w1.cell? ⟨w.heap.size + 1, 1, none⟩ = some (.int .i64 hi)) ∧
    (w1.cell? ⟨w.heap.size + 2, 0, none⟩ = some (.int .i64 0) ∧ w1.cell? ⟨w.heap.size + 2, 1, none⟩ = some (.int .i64 0)) ∧ (w1.frozen? ⟨w.heap.size + 2, 0, none⟩ = false ∧ w1.frozen? ⟨w.heap.size + 2, 1, none⟩ = false) ∧ Below w.heap.size w w1 ∧ w.heap.size + 3 ≤ w1.heap.size := by
  have hh := heap3 w b.cells #[.int .i64 lo, .int .i64 hi] #[.int .i64 0, .int .i64 0] 26 24 24
  have h1 := row_at h (by omega) hh.1
  have h2 := row_at h (by omega) hh.2.1
  have h3 := row_at h (by omega) hh.2.2
  exact ⟨kcells h1.1, cells2 h2.1, cells2 h3.1, ⟨h3.2 0, h3.2 1⟩, (((box_bel w _).alloc (by simp) _).alloc (by simp; omega) _).trans (h.mono (by omega)), by have := h.size; simpa using this⟩
theorem wbr_step {w w1 w2 : World} {b : BD} (h : Below (w.heap.size + 2) (wbr w b) w1) (h2 : Below w1.heap.size w1 w2) : Below (w.heap.size + 2) (wbr w b) w2 := h.trans (h2.mono (wbr_facts h).2.2.2.2)
theorem wbsr_step {w w1 w2 : World} {b : BD} {lo hi : Int} (h : Below (w.heap.size + 3) (wbsr w b lo hi) w1) (h2 : Below w1.heap.size w1 w2) : Below (w.heap.size + 3) (wbsr w b lo hi) w2 := h.trans (h2.mono (wbsr_facts h).2.2.2.2.2)
theorem wbr_init {w w1 : World} {b : BD} (h : Below (wbr w b).heap.size (wbr w b) w1) : Below (w.heap.size + 2) (wbr w b) w1 := h.mono (by simp)
theorem wbsr_init {w w1 : World} {b : BD} {lo hi : Int} (h : Below (wbsr w b lo hi).heap.size (wbsr w b lo hi) w1) : Below (w.heap.size + 3) (wbsr w b lo hi) w1 := h.mono (by simp)

theorem charge12 (b : BD) (r : Int) (w : World) (hr : b.rd w) : Calls Try.prog 12 #[b.val, .int .i64 r] w fun e w' => e = .returned (.tuple #[sv (chLo b r) (chHi b r), .int .i64 (chE b r)]) ∧ Below w.heap.size w w' := by
  have Hr := Lib.hid hr
  have Hq := Lib.hid (hr.bel ((box_bel w (.cells b.cells 26)).alloc (by simp) (.cells #[.int .i64 0, .int .i64 0] 24)))
  clear hr
  by_cases hc : chk b = 0
  case neg =>
    have HE := Lib.hid (show chE b r = chk b by unfold chE; rw [if_neg hc])
    have HL := Lib.hid (show chLo b r = 0 ∧ chHi b r = 0 by unfold chLo chHi; rw [HE.out, if_neg hc, if_neg hc]; exact ⟨rfl, rfl⟩)
    have qc : (chk b != 0) = true := by simpa using hc
    clear hc
    go_enter Try.func12, Try.ntmps12
    go_wp2_with fail
    refine (check14 b _ Hq.out).mono ?_
    rintro e w1 ⟨rfl, hb⟩
    have B := Lib.hid (wbr_init hb)
    clear hb
    obtain ⟨⟨k0, k1, k2, k3, k4, k5, k6⟩, ⟨j0, j1⟩, ⟨f0, f1⟩, bl, hz⟩ := wbr_facts B.out
    have Bl := Lib.hid bl
    clear bl
    go_wp2_with fail
    refine bodyPost_ret (v := .tuple #[sv 0 0, .int .i64 (chk b)]) (by simp [results, Try.results12, go_sem, j0, j1]) rfl ⟨by rw [HE.out, HL.out.1, HL.out.2], ?_⟩
    exact (Bl.out.setCell (by simp) _).setCell (by simp) _
  have Hc := Lib.hid hc
  by_cases h1 : 0 ≤ r ∧ r ≤ 10000
  case neg =>
    have HE := Lib.hid (show chE b r = 1 by unfold chE; rw [if_pos hc, if_neg h1])
    have HL := Lib.hid (show chLo b r = 0 ∧ chHi b r = 0 by unfold chLo chHi; rw [HE.out]; exact ⟨rfl, rfl⟩)
    have q1 := inB_f h1
    clear hc h1
    go_enter Try.func12, Try.ntmps12
    go_wp2_with fail
    refine (check14 b _ Hq.out).mono ?_
    rw [Hc.out]
    rintro e w1 ⟨rfl, hb⟩
    have B := Lib.hid (wbr_init hb)
    clear hb
    obtain ⟨⟨k0, k1, k2, k3, k4, k5, k6⟩, ⟨j0, j1⟩, ⟨f0, f1⟩, bl, hz⟩ := wbr_facts B.out
    have Bl := Lib.hid bl
    clear bl
    go_wp2_with (go_at_call 26; refine (in26 _ _ _).mono ?_; rintro e w2 ⟨rfl, rfl⟩)
    refine bodyPost_ret (v := .tuple #[sv 0 0, .int .i64 1]) (by simp [results, Try.results12, go_sem, j0, j1]) rfl ⟨by rw [HE.out, HL.out.1, HL.out.2], ?_⟩
    exact (Bl.out.setCell (by simp) _).setCell (by simp) _
  have HE := Lib.hid (show chE b r = 0 by unfold chE; rw [if_pos hc, if_pos h1])
  have HL := Lib.hid (show chLo b r = loAt b (r - b.er) ∧ chHi b r = hiAt b (r + b.er) by unfold chLo chHi; rw [HE.out]; exact ⟨rfl, rfl⟩)
  have q1 := inB_t h1
  have ok := chk_ok hc
  have Hok := Lib.hid ok
  have er := ok.er
  have e1 : IntKind.i64.wrap (r - b.er) = r - b.er := IntWalk.i64_in _ (by omega)
  have e2 : IntKind.i64.wrap (r + b.er) = r + b.er := IntWalk.i64_in _ (by omega)
  have x0 : -1000 ≤ r - b.er := by omega
  have x1 : r - b.er ≤ 11000 := by omega
  have x2 : -1000 ≤ r + b.er := by omega
  have x3 : r + b.er ≤ 11000 := by omega
  have Hx := Lib.hid (And.intro x0 (And.intro x1 (And.intro x2 x3)))
  clear hc h1 ok er x0 x1 x2 x3
  go_enter Try.func12, Try.ntmps12
  go_wp2_with fail
  refine (check14 b _ Hq.out).mono ?_
  rw [Hc.out]
  rintro e w1 ⟨rfl, hb⟩
  have B := Lib.hid (wbr_init hb)
  clear hb
  obtain ⟨⟨k0, k1, k2, k3, k4, k5, k6⟩, ⟨j0, j1⟩, ⟨f0, f1⟩, bl, hz⟩ := wbr_facts B.out
  have Bl := Lib.hid bl
  clear bl
  go_wp2_with (go_at_call 26; refine (in26 _ _ _).mono ?_; rintro e w2 ⟨rfl, rfl⟩)
  refine (at27 b (r - b.er) _ (Hr.out.bel Bl.out) Hok.out Hx.out.1 Hx.out.2.1).mono ?_
  rintro e w2 ⟨rfl, hb⟩
  have B2 := Lib.hid (wbr_step B.out hb)
  clear hb B Bl k0 k1 k2 k3 k4 k5 k6 j0 j1 f0 f1 hz
  obtain ⟨⟨k0, k1, k2, k3, k4, k5, k6⟩, ⟨j0, j1⟩, ⟨f0, f1⟩, bl, hz⟩ := wbr_facts B2.out
  have Bl := Lib.hid bl
  clear bl
  go_wp2_with fail
  refine (at27 b (r + b.er) _ (Hr.out.bel Bl.out) Hok.out Hx.out.2.2.1 Hx.out.2.2.2).mono ?_
  rintro e w3 ⟨rfl, hb⟩
  have B3 := Lib.hid (wbr_step B2.out hb)
  clear hb B2 Bl k0 k1 k2 k3 k4 k5 k6 j0 j1 f0 f1 hz
  obtain ⟨⟨k0, k1, k2, k3, k4, k5, k6⟩, ⟨j0, j1⟩, ⟨f0, f1⟩, bl, hz⟩ := wbr_facts B3.out
  have Bl := Lib.hid bl
  clear bl
  go_wp2_with fail
  refine bodyPost_ret (v := .tuple #[sv (loAt b (r - b.er)) (hiAt b (r + b.er)), .int .i64 0]) (by simp [results, Try.results12, go_sem, j0, j1]) rfl ⟨by rw [HE.out, HL.out.1, HL.out.2], ?_⟩
  exact (Bl.out.setCell (by simp) _).setCell (by simp) _
end Go.Proofs.Ytgcjjnmdbdllhaa
