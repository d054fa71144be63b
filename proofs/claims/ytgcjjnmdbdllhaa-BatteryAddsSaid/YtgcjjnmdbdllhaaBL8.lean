/- The walk of the law BatteryAdds. -/
import Derived.Test.YtgcjjnmdbdllhaaBL0
import Derived.Deep.CutRange
namespace Go.Proofs.Ytgcjjnmdbdllhaa
open Go.RowKit
set_option maxHeartbeats 4000000
set_option maxRecDepth 100000
set_option linter.unusedVariables false

theorem Sg.setCell {w0 w : World} {L : List (Nat × Array Value)} {q i : Nat} {v : Value} (h : Sg w0 L w) (hne : ∀ t ∈ L, t.1 ≠ q) (hq : w0.heap.size ≤ q) : Sg w0 L (w.setCell ⟨q, i, none⟩ v) := by
  refine ⟨h.b.setCell hq _, fun t ht => ?_⟩
  obtain ⟨h1, h2⟩ := h.k t ht
  have hn := hne t ht
  refine ⟨by simpa using h1, fun j => ?_⟩
  rw [← h2 j]
  exact World.cell?_setCell_other _ _ _ _ (fun e => hn (congrArg Addr.block e).symm)
/-- .. and the block q, newer than all of L, is the call's own and holds 0, 0 -/
structure Ng (w0 : World) (L : List (Nat × Array Value)) (q : Nat) (w : World) : Prop where
  s : Sg w0 L w
  ne : ∀ t ∈ L, t.1 ≠ q
  lo : w0.heap.size ≤ q
  hi : q < w.heap.size
  z : w.cell? ⟨q, 0, none⟩ = some (.int .i64 0) ∧ w.cell? ⟨q, 1, none⟩ = some (.int .i64 0)
  f : w.frozen? ⟨q, 0, none⟩ = false ∧ w.frozen? ⟨q, 1, none⟩ = false
  n : ∀ i, w.cell? ⟨q, i + 2, none⟩ = none

theorem Ng.of_allocq {w0 w w1 : World} {L : List (Nat × Array Value)} (q : Nat) (hq : q = w.heap.size) (h : Sg w0 L w) (hb : Below (w.alloc (.cells #[.int .i64 0, .int .i64 0] 24)).heap.size (w.alloc (.cells #[.int .i64 0, .int .i64 0] 24)) w1) : Ng w0 L q w1 := by
  subst hq
  have hh := row_at (k := w.heap.size) hb (by simp) (heap_alloc_new w _)
  exact ⟨(h.alloc _).bel hb, fun t ht => Nat.ne_of_lt (h.k t ht).1, h.b.size, Nat.lt_of_lt_of_le (by simp) hb.size, cells2 hh.1, ⟨hh.2 0, hh.2 1⟩, fun i => hh.1 (i + 2)⟩
theorem Ng.set {w0 w : World} {L : List (Nat × Array Value)} {q : Nat} (h : Ng w0 L q w) (a b : Int) : Sg w0 ((q, #[.int .i64 a, .int .i64 b]) :: L) ((w.setCell ⟨q, 0, none⟩ (.int .i64 a)).setCell ⟨q, 1, none⟩ (.int .i64 b)) := by
  have h1 := (h.s.setCell h.ne h.lo (i := 0) (v := .int .i64 a)).setCell h.ne h.lo (i := 1) (v := .int .i64 b)
  refine ⟨h1.b, fun t ht => ?_⟩
  rcases List.mem_cons.1 ht with rfl | ht
  · refine ⟨by simpa using h.hi, fun i => ?_⟩
    match i with
    | 0 => simp [go_sem, h.z.1, h.z.2]
    | 1 => simp [go_sem, h.z.1, h.z.2]
    | i + 2 =>
      rw [World.cell?_setCell_other _ _ _ _ (fun e => by have := congrArg Addr.off e; simp at this), World.cell?_setCell_other _ _ _ _ (fun e => by have := congrArg Addr.off e; simp at this)]
      exact h.n i
  · exact h1.k t ht
theorem k8_of {w X : World} {p pu pb : Nat} {U V : Array Value} {x0 x1 x2 : Int} (h : Sg w [(p, #[.int .i64 x0, .int .i64 x1, .int .i64 x2]), (pu, U), (pb, V)] X) : X.cell? ⟨p, 0, none⟩ = some (.int .i64 x0) ∧ X.cell? ⟨p, 1, none⟩ = some (.int .i64 x1) ∧ X.cell? ⟨p, 2, none⟩ = some (.int .i64 x2) ∧ Sg w [(p, #[.int .i64 x0, .int .i64 x1, .int .i64 x2]), (pu, U), (pb, V)] X := ⟨(cellsK3 h.hd.2).1, (cellsK3 h.hd.2).2.1, (cellsK3 h.hd.2).2.2, h⟩
theorem k8_keep {w X : World} {p pu pb : Nat} {U V : Array Value} {x0 x1 x2 : Int} {Y : World} (h : X.cell? ⟨p, 0, none⟩ = some (.int .i64 x0) ∧ X.cell? ⟨p, 1, none⟩ = some (.int .i64 x1) ∧ X.cell? ⟨p, 2, none⟩ = some (.int .i64 x2) ∧ Sg w [(p, #[.int .i64 x0, .int .i64 x1, .int .i64 x2]), (pu, U), (pb, V)] X) (hb : Below X.heap.size X Y) : Y.cell? ⟨p, 0, none⟩ = some (.int .i64 x0) ∧ Y.cell? ⟨p, 1, none⟩ = some (.int .i64 x1) ∧ Y.cell? ⟨p, 2, none⟩ = some (.int .i64 x2) ∧ Sg w [(p, #[.int .i64 x0, .int .i64 x1, .int .i64 x2]), (pu, U), (pb, V)] Y := k8_of (h.2.2.2.bel hb)
theorem k8_keepA {w X : World} {p pu pb : Nat} {U V : Array Value} {x0 x1 x2 : Int} {Y Z : World} (h : Sg w [(p, #[.int .i64 x0, .int .i64 x1, .int .i64 x2]), (pu, U), (pb, V)] X) (hb : Below Z.heap.size Z Y) (hz : Z = X ∨ ∃ ob, Z = X.alloc ob) : Y.cell? ⟨p, 0, none⟩ = some (.int .i64 x0) ∧ Y.cell? ⟨p, 1, none⟩ = some (.int .i64 x1) ∧ Y.cell? ⟨p, 2, none⟩ = some (.int .i64 x2) ∧ Sg w [(p, #[.int .i64 x0, .int .i64 x1, .int .i64 x2]), (pu, U), (pb, V)] Y := by
  rcases hz with rfl | ⟨ob, rfl⟩
  · exact k8_of (h.bel hb)
  · exact k8_of ((h.alloc ob).bel hb)
theorem k8_alloc {w X : World} {p pu pb : Nat} {U V : Array Value} {x0 x1 x2 : Int} (h : X.cell? ⟨p, 0, none⟩ = some (.int .i64 x0) ∧ X.cell? ⟨p, 1, none⟩ = some (.int .i64 x1) ∧ X.cell? ⟨p, 2, none⟩ = some (.int .i64 x2) ∧ Sg w [(p, #[.int .i64 x0, .int .i64 x1, .int .i64 x2]), (pu, U), (pb, V)] X) (ob : Obj) : (X.alloc ob).cell? ⟨p, 0, none⟩ = some (.int .i64 x0) ∧ (X.alloc ob).cell? ⟨p, 1, none⟩ = some (.int .i64 x1) ∧ (X.alloc ob).cell? ⟨p, 2, none⟩ = some (.int .i64 x2) ∧ Sg w [(p, #[.int .i64 x0, .int .i64 x1, .int .i64 x2]), (pu, U), (pb, V)] (X.alloc ob) := k8_of (h.2.2.2.alloc ob)
theorem k8_set {w X : World} {p pu pb : Nat} {U V : Array Value} {x0 x1 x2 : Int} {q : Nat} (h : Ng w [(p, #[.int .i64 x0, .int .i64 x1, .int .i64 x2]), (pu, U), (pb, V)] q X) (a b : Int) : ((X.setCell ⟨q, 0, none⟩ (.int .i64 a)).setCell ⟨q, 1, none⟩ (.int .i64 b)).cell? ⟨p, 0, none⟩ = some (.int .i64 x0) ∧ ((X.setCell ⟨q, 0, none⟩ (.int .i64 a)).setCell ⟨q, 1, none⟩ (.int .i64 b)).cell? ⟨p, 1, none⟩ = some (.int .i64 x1) ∧ ((X.setCell ⟨q, 0, none⟩ (.int .i64 a)).setCell ⟨q, 1, none⟩ (.int .i64 b)).cell? ⟨p, 2, none⟩ = some (.int .i64 x2) ∧ Sg w [(p, #[.int .i64 x0, .int .i64 x1, .int .i64 x2]), (pu, U), (pb, V)] ((X.setCell ⟨q, 0, none⟩ (.int .i64 a)).setCell ⟨q, 1, none⟩ (.int .i64 b)) := k8_of (h.set a b).tl
theorem law8_any (b : BD) (lo hi secs : Int) (g : Bool) (lim x0 x1 x2 : Int) (w : World) (hr : b.rd w) : Calls Try.prog 8 #[b.val, .agg #[.int .i64 lo, .int .i64 hi, .int .i64 secs, .bool g, .int .i64 lim], .agg #[.int .i64 x0, .int .i64 x1, .int .i64 x2]] w fun e w' => e = .returned (.bool true) ∧ Below w.heap.size w w' := by
  have Hr := Lib.hid hr
  clear hr
  by_cases hf : b.n ≤ 20 ∧ b.m ≤ 20
  case neg =>
    have qf := fewB_f hf
    clear hf
    have S := Lib.hid ((((Sg.start w).new (w.heap.size) (by simp) b.cells 26).new (w.heap.size + 1) (by simp) #[.int .i64 lo, .int .i64 hi, .int .i64 secs, .bool g, .int .i64 lim] 35).new (w.heap.size + 2) (by simp) #[.int .i64 x0, .int .i64 x1, .int .i64 x2] 50)
    go_enter Try.func8, Try.ntmps8
    go_wp2_with fail
    go_cut [7, 8] from 17 to 23 (fun s7 s8 wx => ∃ q, s7 = .int .i64 x0 ∧ s8 = .pointer (some ⟨q, 0, none⟩) ∧ Hid (Sg w ((q, #[.int .i64 x1, .int .i64 x2]) :: [(w.heap.size + 2, #[.int .i64 x0, .int .i64 x1, .int .i64 x2]), (w.heap.size + 1, #[.int .i64 lo, .int .i64 hi, .int .i64 secs, .bool g, .int .i64 lim]), (w.heap.size, b.cells)]) wx))
    case first =>
      go_region_held3 (fun X => X.cell? ⟨w.heap.size + 2, 0, none⟩ = some (.int .i64 x0) ∧ X.cell? ⟨w.heap.size + 2, 1, none⟩ = some (.int .i64 x1) ∧ X.cell? ⟨w.heap.size + 2, 2, none⟩ = some (.int .i64 x2) ∧ Sg w [(w.heap.size + 2, #[.int .i64 x0, .int .i64 x1, .int .i64 x2]), (w.heap.size + 1, #[.int .i64 lo, .int .i64 hi, .int .i64 secs, .bool g, .int .i64 lim]), (w.heap.size, b.cells)] X) (first | exact k8_of S.out.drew | exact K8.out | exact k8_alloc (by assumption) _ | exact k8_alloc K8.out _ | exact k8_set N8.out _ _) (first | (go_at_call 22; refine (sp22 _ _ _).mono ?_; rintro e w8 ⟨rfl, hb0⟩; have K8 := Lib.hid (k8_keepA S.out.drew hb0 (by first | exact .inl rfl | exact .inr ⟨_, rfl⟩)); (first | (have N8 := Lib.hid (Ng.of_allocq (w.heap.size + 2 + 1) (by first | rfl | (simp; done) | (simp [World.drew]; done)) S.out.drew hb0); obtain ⟨n0, n1⟩ := N8.out.z; obtain ⟨f0, f1⟩ := N8.out.f) | skip)))
      all_goals (go_wp2_with fail; go_meet)
      all_goals (first | exact ⟨_, rfl, rfl, Lib.hid (N8.out.set _ _)⟩ | exact ⟨_, rfl, rfl, Lib.hid (K8.out.2.2.2.new _ rfl _ _)⟩)
    case rest =>
    obtain ⟨q, rfl, rfl, S'⟩ := hcut
    clear S
    have S := S'
    clear S'
    obtain ⟨z0, y0⟩ := S.out.hd
    obtain ⟨c0_0, c0_1⟩ := cellsK2 y0
    obtain ⟨z1, y1⟩ := S.out.tl.hd
    obtain ⟨c1_0, c1_1, c1_2⟩ := cellsK3 y1
    obtain ⟨z2, y2⟩ := S.out.tl.tl.hd
    obtain ⟨c2_0, c2_1, c2_2, c2_3, c2_4⟩ := cellsK5 y2
    obtain ⟨z3, y3⟩ := S.out.tl.tl.tl.hd
    obtain ⟨c3_0, c3_1, c3_2, c3_3, c3_4, c3_5, c3_6⟩ := cellsK7 y3
    clear y0 y1 y2 y3
    go_wp2_with fail
    refine (few10 b _).mono ?_
    rw [qf]
    rintro e w1 ⟨rfl, hb0⟩
    have S' := Lib.hid (S.out.bel hb0)
    clear hb0 S z0 c0_0 c0_1 z1 c1_0 c1_1 c1_2 z2 c2_0 c2_1 c2_2 c2_3 c2_4 z3 c3_0 c3_1 c3_2 c3_3 c3_4 c3_5 c3_6
    have S := S'
    clear S'
    obtain ⟨z0, y0⟩ := S.out.hd
    obtain ⟨c0_0, c0_1⟩ := cellsK2 y0
    obtain ⟨z1, y1⟩ := S.out.tl.hd
    obtain ⟨c1_0, c1_1, c1_2⟩ := cellsK3 y1
    obtain ⟨z2, y2⟩ := S.out.tl.tl.hd
    obtain ⟨c2_0, c2_1, c2_2, c2_3, c2_4⟩ := cellsK5 y2
    obtain ⟨z3, y3⟩ := S.out.tl.tl.tl.hd
    obtain ⟨c3_0, c3_1, c3_2, c3_3, c3_4, c3_5, c3_6⟩ := cellsK7 y3
    clear y0 y1 y2 y3
    go_wp2_with fail
    refine (awake_any _).mono ?_
    rintro e w2 ⟨rfl, hb0⟩
    have S' := Lib.hid (S.out.bel hb0)
    clear hb0 S z0 c0_0 c0_1 z1 c1_0 c1_1 c1_2 z2 c2_0 c2_1 c2_2 c2_3 c2_4 z3 c3_0 c3_1 c3_2 c3_3 c3_4 c3_5 c3_6
    have S := S'
    clear S'
    obtain ⟨z0, y0⟩ := S.out.hd
    obtain ⟨c0_0, c0_1⟩ := cellsK2 y0
    obtain ⟨z1, y1⟩ := S.out.tl.hd
    obtain ⟨c1_0, c1_1, c1_2⟩ := cellsK3 y1
    obtain ⟨z2, y2⟩ := S.out.tl.tl.hd
    obtain ⟨c2_0, c2_1, c2_2, c2_3, c2_4⟩ := cellsK5 y2
    obtain ⟨z3, y3⟩ := S.out.tl.tl.tl.hd
    obtain ⟨c3_0, c3_1, c3_2, c3_3, c3_4, c3_5, c3_6⟩ := cellsK7 y3
    clear y0 y1 y2 y3
    go_wp2_with fail
    go_ret
    exact ⟨by first | rfl | (simp; omega), S.out.b⟩
  have qf := fewB_t hf
  clear hf
  by_cases hm : x0 < 0 ∨ 4294943999 < x0 ∨ 4294943999 - x0 < secs
  case pos =>
    have hm2 : x0 < 0 ∨ (0 ≤ x0 ∧ 4294943999 < x0) ∨ (0 ≤ x0 ∧ x0 ≤ 4294943999 ∧ 4294943999 - x0 < secs) := by omega
    clear hm
    rcases hm2 with m1 | ⟨m1, m2⟩ | ⟨m1, m2, m3⟩
    ·
      have S := Lib.hid ((((Sg.start w).new (w.heap.size) (by simp) b.cells 26).new (w.heap.size + 1) (by simp) #[.int .i64 lo, .int .i64 hi, .int .i64 secs, .bool g, .int .i64 lim] 35).new (w.heap.size + 2) (by simp) #[.int .i64 x0, .int .i64 x1, .int .i64 x2] 50)
      go_enter Try.func8, Try.ntmps8
      go_wp2_with fail
      go_cut [7, 8] from 17 to 23 (fun s7 s8 wx => ∃ q, s7 = .int .i64 x0 ∧ s8 = .pointer (some ⟨q, 0, none⟩) ∧ Hid (Sg w ((q, #[.int .i64 x1, .int .i64 x2]) :: [(w.heap.size + 2, #[.int .i64 x0, .int .i64 x1, .int .i64 x2]), (w.heap.size + 1, #[.int .i64 lo, .int .i64 hi, .int .i64 secs, .bool g, .int .i64 lim]), (w.heap.size, b.cells)]) wx))
      case first =>
        go_region_held3 (fun X => X.cell? ⟨w.heap.size + 2, 0, none⟩ = some (.int .i64 x0) ∧ X.cell? ⟨w.heap.size + 2, 1, none⟩ = some (.int .i64 x1) ∧ X.cell? ⟨w.heap.size + 2, 2, none⟩ = some (.int .i64 x2) ∧ Sg w [(w.heap.size + 2, #[.int .i64 x0, .int .i64 x1, .int .i64 x2]), (w.heap.size + 1, #[.int .i64 lo, .int .i64 hi, .int .i64 secs, .bool g, .int .i64 lim]), (w.heap.size, b.cells)] X) (first | exact k8_of S.out.drew | exact K8.out | exact k8_alloc (by assumption) _ | exact k8_alloc K8.out _ | exact k8_set N8.out _ _) (first | (go_at_call 22; refine (sp22 _ _ _).mono ?_; rintro e w8 ⟨rfl, hb0⟩; have K8 := Lib.hid (k8_keepA S.out.drew hb0 (by first | exact .inl rfl | exact .inr ⟨_, rfl⟩)); (first | (have N8 := Lib.hid (Ng.of_allocq (w.heap.size + 2 + 1) (by first | rfl | (simp; done) | (simp [World.drew]; done)) S.out.drew hb0); obtain ⟨n0, n1⟩ := N8.out.z; obtain ⟨f0, f1⟩ := N8.out.f) | skip)))
        all_goals (go_wp2_with fail; go_meet)
        all_goals (first | exact ⟨_, rfl, rfl, Lib.hid (N8.out.set _ _)⟩ | exact ⟨_, rfl, rfl, Lib.hid (K8.out.2.2.2.new _ rfl _ _)⟩)
      case rest =>
      obtain ⟨q, rfl, rfl, S'⟩ := hcut
      clear S
      have S := S'
      clear S'
      obtain ⟨z0, y0⟩ := S.out.hd
      obtain ⟨c0_0, c0_1⟩ := cellsK2 y0
      obtain ⟨z1, y1⟩ := S.out.tl.hd
      obtain ⟨c1_0, c1_1, c1_2⟩ := cellsK3 y1
      obtain ⟨z2, y2⟩ := S.out.tl.tl.hd
      obtain ⟨c2_0, c2_1, c2_2, c2_3, c2_4⟩ := cellsK5 y2
      obtain ⟨z3, y3⟩ := S.out.tl.tl.tl.hd
      obtain ⟨c3_0, c3_1, c3_2, c3_3, c3_4, c3_5, c3_6⟩ := cellsK7 y3
      clear y0 y1 y2 y3
      go_wp2_with fail
      refine (few10 b _).mono ?_
      rw [qf]
      rintro e w1 ⟨rfl, hb0⟩
      have S' := Lib.hid (S.out.bel hb0)
      clear hb0 S z0 c0_0 c0_1 z1 c1_0 c1_1 c1_2 z2 c2_0 c2_1 c2_2 c2_3 c2_4 z3 c3_0 c3_1 c3_2 c3_3 c3_4 c3_5 c3_6
      have S := S'
      clear S'
      obtain ⟨z0, y0⟩ := S.out.hd
      obtain ⟨c0_0, c0_1⟩ := cellsK2 y0
      obtain ⟨z1, y1⟩ := S.out.tl.hd
      obtain ⟨c1_0, c1_1, c1_2⟩ := cellsK3 y1
      obtain ⟨z2, y2⟩ := S.out.tl.tl.hd
      obtain ⟨c2_0, c2_1, c2_2, c2_3, c2_4⟩ := cellsK5 y2
      obtain ⟨z3, y3⟩ := S.out.tl.tl.tl.hd
      obtain ⟨c3_0, c3_1, c3_2, c3_3, c3_4, c3_5, c3_6⟩ := cellsK7 y3
      clear y0 y1 y2 y3
      go_wp2_with fail
      refine (awake_any _).mono ?_
      rintro e w2 ⟨rfl, hb0⟩
      have S' := Lib.hid (S.out.bel hb0)
      clear hb0 S z0 c0_0 c0_1 z1 c1_0 c1_1 c1_2 z2 c2_0 c2_1 c2_2 c2_3 c2_4 z3 c3_0 c3_1 c3_2 c3_3 c3_4 c3_5 c3_6
      have S := S'
      clear S'
      obtain ⟨z0, y0⟩ := S.out.hd
      obtain ⟨c0_0, c0_1⟩ := cellsK2 y0
      obtain ⟨z1, y1⟩ := S.out.tl.hd
      obtain ⟨c1_0, c1_1, c1_2⟩ := cellsK3 y1
      obtain ⟨z2, y2⟩ := S.out.tl.tl.hd
      obtain ⟨c2_0, c2_1, c2_2, c2_3, c2_4⟩ := cellsK5 y2
      obtain ⟨z3, y3⟩ := S.out.tl.tl.tl.hd
      obtain ⟨c3_0, c3_1, c3_2, c3_3, c3_4, c3_5, c3_6⟩ := cellsK7 y3
      clear y0 y1 y2 y3
      go_wp2_with fail
      go_ret
      exact ⟨by first | rfl | (simp; omega), S.out.b⟩
    ·
      have S := Lib.hid ((((Sg.start w).new (w.heap.size) (by simp) b.cells 26).new (w.heap.size + 1) (by simp) #[.int .i64 lo, .int .i64 hi, .int .i64 secs, .bool g, .int .i64 lim] 35).new (w.heap.size + 2) (by simp) #[.int .i64 x0, .int .i64 x1, .int .i64 x2] 50)
      go_enter Try.func8, Try.ntmps8
      go_wp2_with fail
      go_cut [7, 8] from 17 to 23 (fun s7 s8 wx => ∃ q, s7 = .int .i64 x0 ∧ s8 = .pointer (some ⟨q, 0, none⟩) ∧ Hid (Sg w ((q, #[.int .i64 x1, .int .i64 x2]) :: [(w.heap.size + 2, #[.int .i64 x0, .int .i64 x1, .int .i64 x2]), (w.heap.size + 1, #[.int .i64 lo, .int .i64 hi, .int .i64 secs, .bool g, .int .i64 lim]), (w.heap.size, b.cells)]) wx))
      case first =>
        go_region_held3 (fun X => X.cell? ⟨w.heap.size + 2, 0, none⟩ = some (.int .i64 x0) ∧ X.cell? ⟨w.heap.size + 2, 1, none⟩ = some (.int .i64 x1) ∧ X.cell? ⟨w.heap.size + 2, 2, none⟩ = some (.int .i64 x2) ∧ Sg w [(w.heap.size + 2, #[.int .i64 x0, .int .i64 x1, .int .i64 x2]), (w.heap.size + 1, #[.int .i64 lo, .int .i64 hi, .int .i64 secs, .bool g, .int .i64 lim]), (w.heap.size, b.cells)] X) (first | exact k8_of S.out.drew | exact K8.out | exact k8_alloc (by assumption) _ | exact k8_alloc K8.out _ | exact k8_set N8.out _ _) (first | (go_at_call 22; refine (sp22 _ _ _).mono ?_; rintro e w8 ⟨rfl, hb0⟩; have K8 := Lib.hid (k8_keepA S.out.drew hb0 (by first | exact .inl rfl | exact .inr ⟨_, rfl⟩)); (first | (have N8 := Lib.hid (Ng.of_allocq (w.heap.size + 2 + 1) (by first | rfl | (simp; done) | (simp [World.drew]; done)) S.out.drew hb0); obtain ⟨n0, n1⟩ := N8.out.z; obtain ⟨f0, f1⟩ := N8.out.f) | skip)))
        all_goals (go_wp2_with fail; go_meet)
        all_goals (first | exact ⟨_, rfl, rfl, Lib.hid (N8.out.set _ _)⟩ | exact ⟨_, rfl, rfl, Lib.hid (K8.out.2.2.2.new _ rfl _ _)⟩)
      case rest =>
      obtain ⟨q, rfl, rfl, S'⟩ := hcut
      clear S
      have S := S'
      clear S'
      obtain ⟨z0, y0⟩ := S.out.hd
      obtain ⟨c0_0, c0_1⟩ := cellsK2 y0
      obtain ⟨z1, y1⟩ := S.out.tl.hd
      obtain ⟨c1_0, c1_1, c1_2⟩ := cellsK3 y1
      obtain ⟨z2, y2⟩ := S.out.tl.tl.hd
      obtain ⟨c2_0, c2_1, c2_2, c2_3, c2_4⟩ := cellsK5 y2
      obtain ⟨z3, y3⟩ := S.out.tl.tl.tl.hd
      obtain ⟨c3_0, c3_1, c3_2, c3_3, c3_4, c3_5, c3_6⟩ := cellsK7 y3
      clear y0 y1 y2 y3
      go_wp2_with fail
      refine (few10 b _).mono ?_
      rw [qf]
      rintro e w1 ⟨rfl, hb0⟩
      have S' := Lib.hid (S.out.bel hb0)
      clear hb0 S z0 c0_0 c0_1 z1 c1_0 c1_1 c1_2 z2 c2_0 c2_1 c2_2 c2_3 c2_4 z3 c3_0 c3_1 c3_2 c3_3 c3_4 c3_5 c3_6
      have S := S'
      clear S'
      obtain ⟨z0, y0⟩ := S.out.hd
      obtain ⟨c0_0, c0_1⟩ := cellsK2 y0
      obtain ⟨z1, y1⟩ := S.out.tl.hd
      obtain ⟨c1_0, c1_1, c1_2⟩ := cellsK3 y1
      obtain ⟨z2, y2⟩ := S.out.tl.tl.hd
      obtain ⟨c2_0, c2_1, c2_2, c2_3, c2_4⟩ := cellsK5 y2
      obtain ⟨z3, y3⟩ := S.out.tl.tl.tl.hd
      obtain ⟨c3_0, c3_1, c3_2, c3_3, c3_4, c3_5, c3_6⟩ := cellsK7 y3
      clear y0 y1 y2 y3
      go_wp2_with fail
      refine (awake_any _).mono ?_
      rintro e w2 ⟨rfl, hb0⟩
      have S' := Lib.hid (S.out.bel hb0)
      clear hb0 S z0 c0_0 c0_1 z1 c1_0 c1_1 c1_2 z2 c2_0 c2_1 c2_2 c2_3 c2_4 z3 c3_0 c3_1 c3_2 c3_3 c3_4 c3_5 c3_6
      have S := S'
      clear S'
      obtain ⟨z0, y0⟩ := S.out.hd
      obtain ⟨c0_0, c0_1⟩ := cellsK2 y0
      obtain ⟨z1, y1⟩ := S.out.tl.hd
      obtain ⟨c1_0, c1_1, c1_2⟩ := cellsK3 y1
      obtain ⟨z2, y2⟩ := S.out.tl.tl.hd
      obtain ⟨c2_0, c2_1, c2_2, c2_3, c2_4⟩ := cellsK5 y2
      obtain ⟨z3, y3⟩ := S.out.tl.tl.tl.hd
      obtain ⟨c3_0, c3_1, c3_2, c3_3, c3_4, c3_5, c3_6⟩ := cellsK7 y3
      clear y0 y1 y2 y3
      go_wp2_with fail
      go_ret
      exact ⟨by first | rfl | (simp; omega), S.out.b⟩
    ·
      have mw : IntKind.i64.wrap (4294943999 - x0) = 4294943999 - x0 := IntWalk.i64_in _ (by omega)
      have S := Lib.hid ((((Sg.start w).new (w.heap.size) (by simp) b.cells 26).new (w.heap.size + 1) (by simp) #[.int .i64 lo, .int .i64 hi, .int .i64 secs, .bool g, .int .i64 lim] 35).new (w.heap.size + 2) (by simp) #[.int .i64 x0, .int .i64 x1, .int .i64 x2] 50)
      go_enter Try.func8, Try.ntmps8
      go_wp2_with fail
      go_cut [7, 8] from 17 to 23 (fun s7 s8 wx => ∃ q, s7 = .int .i64 x0 ∧ s8 = .pointer (some ⟨q, 0, none⟩) ∧ Hid (Sg w ((q, #[.int .i64 x1, .int .i64 x2]) :: [(w.heap.size + 2, #[.int .i64 x0, .int .i64 x1, .int .i64 x2]), (w.heap.size + 1, #[.int .i64 lo, .int .i64 hi, .int .i64 secs, .bool g, .int .i64 lim]), (w.heap.size, b.cells)]) wx))
      case first =>
        go_region_held3 (fun X => X.cell? ⟨w.heap.size + 2, 0, none⟩ = some (.int .i64 x0) ∧ X.cell? ⟨w.heap.size + 2, 1, none⟩ = some (.int .i64 x1) ∧ X.cell? ⟨w.heap.size + 2, 2, none⟩ = some (.int .i64 x2) ∧ Sg w [(w.heap.size + 2, #[.int .i64 x0, .int .i64 x1, .int .i64 x2]), (w.heap.size + 1, #[.int .i64 lo, .int .i64 hi, .int .i64 secs, .bool g, .int .i64 lim]), (w.heap.size, b.cells)] X) (first | exact k8_of S.out.drew | exact K8.out | exact k8_alloc (by assumption) _ | exact k8_alloc K8.out _ | exact k8_set N8.out _ _) (first | (go_at_call 22; refine (sp22 _ _ _).mono ?_; rintro e w8 ⟨rfl, hb0⟩; have K8 := Lib.hid (k8_keepA S.out.drew hb0 (by first | exact .inl rfl | exact .inr ⟨_, rfl⟩)); (first | (have N8 := Lib.hid (Ng.of_allocq (w.heap.size + 2 + 1) (by first | rfl | (simp; done) | (simp [World.drew]; done)) S.out.drew hb0); obtain ⟨n0, n1⟩ := N8.out.z; obtain ⟨f0, f1⟩ := N8.out.f) | skip)))
        all_goals (go_wp2_with fail; go_meet)
        all_goals (first | exact ⟨_, rfl, rfl, Lib.hid (N8.out.set _ _)⟩ | exact ⟨_, rfl, rfl, Lib.hid (K8.out.2.2.2.new _ rfl _ _)⟩)
      case rest =>
      obtain ⟨q, rfl, rfl, S'⟩ := hcut
      clear S
      have S := S'
      clear S'
      obtain ⟨z0, y0⟩ := S.out.hd
      obtain ⟨c0_0, c0_1⟩ := cellsK2 y0
      obtain ⟨z1, y1⟩ := S.out.tl.hd
      obtain ⟨c1_0, c1_1, c1_2⟩ := cellsK3 y1
      obtain ⟨z2, y2⟩ := S.out.tl.tl.hd
      obtain ⟨c2_0, c2_1, c2_2, c2_3, c2_4⟩ := cellsK5 y2
      obtain ⟨z3, y3⟩ := S.out.tl.tl.tl.hd
      obtain ⟨c3_0, c3_1, c3_2, c3_3, c3_4, c3_5, c3_6⟩ := cellsK7 y3
      clear y0 y1 y2 y3
      go_wp2_with fail
      refine (few10 b _).mono ?_
      rw [qf]
      rintro e w1 ⟨rfl, hb0⟩
      have S' := Lib.hid (S.out.bel hb0)
      clear hb0 S z0 c0_0 c0_1 z1 c1_0 c1_1 c1_2 z2 c2_0 c2_1 c2_2 c2_3 c2_4 z3 c3_0 c3_1 c3_2 c3_3 c3_4 c3_5 c3_6
      have S := S'
      clear S'
      obtain ⟨z0, y0⟩ := S.out.hd
      obtain ⟨c0_0, c0_1⟩ := cellsK2 y0
      obtain ⟨z1, y1⟩ := S.out.tl.hd
      obtain ⟨c1_0, c1_1, c1_2⟩ := cellsK3 y1
      obtain ⟨z2, y2⟩ := S.out.tl.tl.hd
      obtain ⟨c2_0, c2_1, c2_2, c2_3, c2_4⟩ := cellsK5 y2
      obtain ⟨z3, y3⟩ := S.out.tl.tl.tl.hd
      obtain ⟨c3_0, c3_1, c3_2, c3_3, c3_4, c3_5, c3_6⟩ := cellsK7 y3
      clear y0 y1 y2 y3
      go_wp2_with fail
      refine (awake_any _).mono ?_
      rintro e w2 ⟨rfl, hb0⟩
      have S' := Lib.hid (S.out.bel hb0)
      clear hb0 S z0 c0_0 c0_1 z1 c1_0 c1_1 c1_2 z2 c2_0 c2_1 c2_2 c2_3 c2_4 z3 c3_0 c3_1 c3_2 c3_3 c3_4 c3_5 c3_6
      have S := S'
      clear S'
      obtain ⟨z0, y0⟩ := S.out.hd
      obtain ⟨c0_0, c0_1⟩ := cellsK2 y0
      obtain ⟨z1, y1⟩ := S.out.tl.hd
      obtain ⟨c1_0, c1_1, c1_2⟩ := cellsK3 y1
      obtain ⟨z2, y2⟩ := S.out.tl.tl.hd
      obtain ⟨c2_0, c2_1, c2_2, c2_3, c2_4⟩ := cellsK5 y2
      obtain ⟨z3, y3⟩ := S.out.tl.tl.tl.hd
      obtain ⟨c3_0, c3_1, c3_2, c3_3, c3_4, c3_5, c3_6⟩ := cellsK7 y3
      clear y0 y1 y2 y3
      go_wp2_with fail
      go_ret
      exact ⟨by first | rfl | (simp; omega), S.out.b⟩
  have m1 : 0 ≤ x0 := by omega
  have m2 : x0 ≤ 4294943999 := by omega
  have m3 : secs ≤ 4294943999 - x0 := by omega
  have mw : IntKind.i64.wrap (4294943999 - x0) = 4294943999 - x0 := IntWalk.i64_in _ (by omega)
  clear hm
  by_cases hE : afE b lo hi secs = 0
  case neg =>
    have HN := Lib.hid (show aftLo b lo hi secs g = 0 ∧ aftHi b lo hi secs g = 0 from ⟨if_neg hE, if_neg hE⟩)
    have qE : (afE b lo hi secs != 0) = true := by simpa using hE
    clear hE
    have S := Lib.hid ((((Sg.start w).new (w.heap.size) (by simp) b.cells 26).new (w.heap.size + 1) (by simp) #[.int .i64 lo, .int .i64 hi, .int .i64 secs, .bool g, .int .i64 lim] 35).new (w.heap.size + 2) (by simp) #[.int .i64 x0, .int .i64 x1, .int .i64 x2] 50)
    go_enter Try.func8, Try.ntmps8
    go_wp2_with fail
    go_cut [7, 8] from 17 to 23 (fun s7 s8 wx => ∃ q, s7 = .int .i64 x0 ∧ s8 = .pointer (some ⟨q, 0, none⟩) ∧ Hid (Sg w ((q, #[.int .i64 x1, .int .i64 x2]) :: [(w.heap.size + 2, #[.int .i64 x0, .int .i64 x1, .int .i64 x2]), (w.heap.size + 1, #[.int .i64 lo, .int .i64 hi, .int .i64 secs, .bool g, .int .i64 lim]), (w.heap.size, b.cells)]) wx))
    case first =>
      go_region_held3 (fun X => X.cell? ⟨w.heap.size + 2, 0, none⟩ = some (.int .i64 x0) ∧ X.cell? ⟨w.heap.size + 2, 1, none⟩ = some (.int .i64 x1) ∧ X.cell? ⟨w.heap.size + 2, 2, none⟩ = some (.int .i64 x2) ∧ Sg w [(w.heap.size + 2, #[.int .i64 x0, .int .i64 x1, .int .i64 x2]), (w.heap.size + 1, #[.int .i64 lo, .int .i64 hi, .int .i64 secs, .bool g, .int .i64 lim]), (w.heap.size, b.cells)] X) (first | exact k8_of S.out.drew | exact K8.out | exact k8_alloc (by assumption) _ | exact k8_alloc K8.out _ | exact k8_set N8.out _ _) (first | (go_at_call 22; refine (sp22 _ _ _).mono ?_; rintro e w8 ⟨rfl, hb0⟩; have K8 := Lib.hid (k8_keepA S.out.drew hb0 (by first | exact .inl rfl | exact .inr ⟨_, rfl⟩)); (first | (have N8 := Lib.hid (Ng.of_allocq (w.heap.size + 2 + 1) (by first | rfl | (simp; done) | (simp [World.drew]; done)) S.out.drew hb0); obtain ⟨n0, n1⟩ := N8.out.z; obtain ⟨f0, f1⟩ := N8.out.f) | skip)))
      all_goals (go_wp2_with fail; go_meet)
      all_goals (first | exact ⟨_, rfl, rfl, Lib.hid (N8.out.set _ _)⟩ | exact ⟨_, rfl, rfl, Lib.hid (K8.out.2.2.2.new _ rfl _ _)⟩)
    case rest =>
    obtain ⟨q, rfl, rfl, S'⟩ := hcut
    clear S
    have S := S'
    clear S'
    obtain ⟨z0, y0⟩ := S.out.hd
    obtain ⟨c0_0, c0_1⟩ := cellsK2 y0
    obtain ⟨z1, y1⟩ := S.out.tl.hd
    obtain ⟨c1_0, c1_1, c1_2⟩ := cellsK3 y1
    obtain ⟨z2, y2⟩ := S.out.tl.tl.hd
    obtain ⟨c2_0, c2_1, c2_2, c2_3, c2_4⟩ := cellsK5 y2
    obtain ⟨z3, y3⟩ := S.out.tl.tl.tl.hd
    obtain ⟨c3_0, c3_1, c3_2, c3_3, c3_4, c3_5, c3_6⟩ := cellsK7 y3
    clear y0 y1 y2 y3
    go_wp2_with fail
    refine (few10 b _).mono ?_
    rw [qf]
    rintro e w1 ⟨rfl, hb0⟩
    have S' := Lib.hid (S.out.bel hb0)
    clear hb0 S z0 c0_0 c0_1 z1 c1_0 c1_1 c1_2 z2 c2_0 c2_1 c2_2 c2_3 c2_4 z3 c3_0 c3_1 c3_2 c3_3 c3_4 c3_5 c3_6
    have S := S'
    clear S'
    obtain ⟨z0, y0⟩ := S.out.hd
    obtain ⟨c0_0, c0_1⟩ := cellsK2 y0
    obtain ⟨z1, y1⟩ := S.out.tl.hd
    obtain ⟨c1_0, c1_1, c1_2⟩ := cellsK3 y1
    obtain ⟨z2, y2⟩ := S.out.tl.tl.hd
    obtain ⟨c2_0, c2_1, c2_2, c2_3, c2_4⟩ := cellsK5 y2
    obtain ⟨z3, y3⟩ := S.out.tl.tl.tl.hd
    obtain ⟨c3_0, c3_1, c3_2, c3_3, c3_4, c3_5, c3_6⟩ := cellsK7 y3
    clear y0 y1 y2 y3
    go_wp2_with fail
    refine (after16 b lo hi secs g _ (Hr.out.bel S.out.b)).mono ?_
    rw [HN.out.1, HN.out.2]
    rintro e w2 ⟨rfl, hb0⟩
    have S' := Lib.hid ((S.out.bel hb0).new w2.heap.size rfl #[.int .i64 0, .int .i64 0] 24)
    clear hb0 S z0 c0_0 c0_1 z1 c1_0 c1_1 c1_2 z2 c2_0 c2_1 c2_2 c2_3 c2_4 z3 c3_0 c3_1 c3_2 c3_3 c3_4 c3_5 c3_6
    have S := S'
    clear S'
    obtain ⟨z0, y0⟩ := S.out.hd
    obtain ⟨c0_0, c0_1⟩ := cellsK2 y0
    obtain ⟨z1, y1⟩ := S.out.tl.hd
    obtain ⟨c1_0, c1_1⟩ := cellsK2 y1
    obtain ⟨z2, y2⟩ := S.out.tl.tl.hd
    obtain ⟨c2_0, c2_1, c2_2⟩ := cellsK3 y2
    obtain ⟨z3, y3⟩ := S.out.tl.tl.tl.hd
    obtain ⟨c3_0, c3_1, c3_2, c3_3, c3_4⟩ := cellsK5 y3
    obtain ⟨z4, y4⟩ := S.out.tl.tl.tl.tl.hd
    obtain ⟨c4_0, c4_1, c4_2, c4_3, c4_4, c4_5, c4_6⟩ := cellsK7 y4
    clear y0 y1 y2 y3 y4
    go_wp2_with fail
    clear z0 c0_0 c0_1 z1 c1_0 c1_1 z2 c2_0 c2_1 c2_2 z3 c3_0 c3_1 c3_2 c3_3 c3_4 z4 c4_0 c4_1 c4_2 c4_3 c4_4 c4_5 c4_6
    go_region_held3 (fun X => X.cell? ⟨w2.heap.size, 0, none⟩ = some (.int .i64 0) ∧ X.cell? ⟨w2.heap.size, 1, none⟩ = some (.int .i64 0) ∧ Sg w [(w2.heap.size, #[.int .i64 0, .int .i64 0]), (q, #[.int .i64 x1, .int .i64 x2]), (w.heap.size + 2, #[.int .i64 x0, .int .i64 x1, .int .i64 x2]), (w.heap.size + 1, #[.int .i64 lo, .int .i64 hi, .int .i64 secs, .bool g, .int .i64 lim]), (w.heap.size, b.cells)] X) (first | exact keep1_drew S.out | exact keep1 (by assumption) (by assumption)) (first | (go_at_call 22; refine (sp22 _ _ _).mono ?_; rintro e w8 ⟨rfl, hb0⟩) | (go_at_call 11; refine (awake_any _).mono ?_; rintro e w8 ⟨rfl, hb0⟩))
    all_goals
      rename_i hH
      have BE := Lib.hid hH.2.2.b
      clear hH
      go_wp2_with fail
      go_ret
      exact ⟨by first | rfl | (simp; omega), BE.out⟩
  obtain ⟨hc, hs, s0, s1⟩ := afE_ok hE
  have ok := chk_ok hc
  have sl := ls_sp ok g
  have sa := af_sp sl hs s0 s1
  have ad := adds sl hs s0 m1 (show secs + x0 ≤ 4294943999 by omega)
  have inn := fun h1 h2 => inner (l := lsL b g) (h := lsH b g) (lo := lo) (hi := hi) (s := secs) (x := x1) (y := x2) h1 h2
  obtain ⟨A, hA⟩ : ∃ A, A = afL (lsH b g) lo secs := ⟨_, rfl⟩
  obtain ⟨H, hH⟩ : ∃ H, H = afH (lsL b g) hi secs := ⟨_, rfl⟩
  have HA := Lib.hid (And.intro hE (And.intro (show aftLo b lo hi secs g = A by rw [hA]; exact if_pos hE) (show aftHi b lo hi secs g = H by rw [hH]; exact if_pos hE)))
  rw [← hA, ← hH] at sa
  rw [← hA, ← hH] at ad inn
  have hE2 := afE_mk hc sa ⟨m1, m2⟩
  have hE3 := afE_mk (s := secs + x0) hc hs (by omega)
  obtain ⟨A2, hA2⟩ : ∃ Z, Z = afL (lsH b g) A x0 := ⟨_, rfl⟩
  obtain ⟨H2, hH2⟩ : ∃ H', H' = afH (lsL b g) H x0 := ⟨_, rfl⟩
  obtain ⟨A3, hA3⟩ : ∃ A, A = afL (lsH b g) lo (secs + x0) := ⟨_, rfl⟩
  obtain ⟨H3, hH3⟩ : ∃ H', H' = afH (lsL b g) hi (secs + x0) := ⟨_, rfl⟩
  have HA2 := Lib.hid (And.intro hE2 (And.intro (show aftLo b A H x0 g = A2 by rw [hA2]; exact if_pos hE2) (show aftHi b A H x0 g = H2 by rw [hH2]; exact if_pos hE2)))
  have HA3 := Lib.hid (And.intro hE3 (And.intro (show aftLo b lo hi (secs + x0) g = A3 by rw [hA3]; exact if_pos hE3) (show aftHi b lo hi (secs + x0) g = H3 by rw [hH3]; exact if_pos hE3)))
  rw [← hA2, ← hH2, ← hA3, ← hH3] at ad
  obtain ⟨ad1, ad2⟩ := ad
  have sw : IntKind.i64.wrap (secs + x0) = secs + x0 := IntWalk.i64_in _ (by omega)
  have hs' := hs
  clear hE hA hH hA2 hH2 hA3 hH3 hE2 hE3 ok sl sa
  have hx : (x1 < lo ∨ (lo ≤ x1 ∧ hi < x2) ∨ (lo ≤ x1 ∧ x2 ≤ hi ∧ x2 < x1)) ∨ (lo ≤ x1 ∧ x2 ≤ hi ∧ x1 ≤ x2) := by omega
  rcases hx with hx | ⟨hx, hx2, hx3⟩
  case inl =>
    clear inn hc hs hs' s0 s1
    rcases hx with hx | ⟨hx, hx2⟩ | ⟨hx, hx2, hx3⟩
    ·
      have S := Lib.hid ((((Sg.start w).new (w.heap.size) (by simp) b.cells 26).new (w.heap.size + 1) (by simp) #[.int .i64 lo, .int .i64 hi, .int .i64 secs, .bool g, .int .i64 lim] 35).new (w.heap.size + 2) (by simp) #[.int .i64 x0, .int .i64 x1, .int .i64 x2] 50)
      go_enter Try.func8, Try.ntmps8
      go_wp2_with fail
      go_cut [7, 8] from 17 to 23 (fun s7 s8 wx => ∃ q, s7 = .int .i64 x0 ∧ s8 = .pointer (some ⟨q, 0, none⟩) ∧ Hid (Sg w ((q, #[.int .i64 x1, .int .i64 x2]) :: [(w.heap.size + 2, #[.int .i64 x0, .int .i64 x1, .int .i64 x2]), (w.heap.size + 1, #[.int .i64 lo, .int .i64 hi, .int .i64 secs, .bool g, .int .i64 lim]), (w.heap.size, b.cells)]) wx))
      case first =>
        go_region_held3 (fun X => X.cell? ⟨w.heap.size + 2, 0, none⟩ = some (.int .i64 x0) ∧ X.cell? ⟨w.heap.size + 2, 1, none⟩ = some (.int .i64 x1) ∧ X.cell? ⟨w.heap.size + 2, 2, none⟩ = some (.int .i64 x2) ∧ Sg w [(w.heap.size + 2, #[.int .i64 x0, .int .i64 x1, .int .i64 x2]), (w.heap.size + 1, #[.int .i64 lo, .int .i64 hi, .int .i64 secs, .bool g, .int .i64 lim]), (w.heap.size, b.cells)] X) (first | exact k8_of S.out.drew | exact K8.out | exact k8_alloc (by assumption) _ | exact k8_alloc K8.out _ | exact k8_set N8.out _ _) (first | (go_at_call 22; refine (sp22 _ _ _).mono ?_; rintro e w8 ⟨rfl, hb0⟩; have K8 := Lib.hid (k8_keepA S.out.drew hb0 (by first | exact .inl rfl | exact .inr ⟨_, rfl⟩)); (first | (have N8 := Lib.hid (Ng.of_allocq (w.heap.size + 2 + 1) (by first | rfl | (simp; done) | (simp [World.drew]; done)) S.out.drew hb0); obtain ⟨n0, n1⟩ := N8.out.z; obtain ⟨f0, f1⟩ := N8.out.f) | skip)))
        all_goals (go_wp2_with fail; go_meet)
        all_goals (first | exact ⟨_, rfl, rfl, Lib.hid (N8.out.set _ _)⟩ | exact ⟨_, rfl, rfl, Lib.hid (K8.out.2.2.2.new _ rfl _ _)⟩)
      case rest =>
      obtain ⟨q, rfl, rfl, S'⟩ := hcut
      clear S
      have S := S'
      clear S'
      obtain ⟨z0, y0⟩ := S.out.hd
      obtain ⟨c0_0, c0_1⟩ := cellsK2 y0
      obtain ⟨z1, y1⟩ := S.out.tl.hd
      obtain ⟨c1_0, c1_1, c1_2⟩ := cellsK3 y1
      obtain ⟨z2, y2⟩ := S.out.tl.tl.hd
      obtain ⟨c2_0, c2_1, c2_2, c2_3, c2_4⟩ := cellsK5 y2
      obtain ⟨z3, y3⟩ := S.out.tl.tl.tl.hd
      obtain ⟨c3_0, c3_1, c3_2, c3_3, c3_4, c3_5, c3_6⟩ := cellsK7 y3
      clear y0 y1 y2 y3
      go_wp2_with fail
      refine (few10 b _).mono ?_
      rw [qf]
      rintro e w1 ⟨rfl, hb0⟩
      have S' := Lib.hid (S.out.bel hb0)
      clear hb0 S z0 c0_0 c0_1 z1 c1_0 c1_1 c1_2 z2 c2_0 c2_1 c2_2 c2_3 c2_4 z3 c3_0 c3_1 c3_2 c3_3 c3_4 c3_5 c3_6
      have S := S'
      clear S'
      obtain ⟨z0, y0⟩ := S.out.hd
      obtain ⟨c0_0, c0_1⟩ := cellsK2 y0
      obtain ⟨z1, y1⟩ := S.out.tl.hd
      obtain ⟨c1_0, c1_1, c1_2⟩ := cellsK3 y1
      obtain ⟨z2, y2⟩ := S.out.tl.tl.hd
      obtain ⟨c2_0, c2_1, c2_2, c2_3, c2_4⟩ := cellsK5 y2
      obtain ⟨z3, y3⟩ := S.out.tl.tl.tl.hd
      obtain ⟨c3_0, c3_1, c3_2, c3_3, c3_4, c3_5, c3_6⟩ := cellsK7 y3
      clear y0 y1 y2 y3
      go_wp2_with fail
      refine (after16 b lo hi secs g _ (Hr.out.bel S.out.b)).mono ?_
      rw [HA.out.1, HA.out.2.1, HA.out.2.2]
      rintro e w2 ⟨rfl, hb0⟩
      have S' := Lib.hid ((S.out.bel hb0).new w2.heap.size rfl #[.int .i64 A, .int .i64 H] 24)
      clear hb0 S z0 c0_0 c0_1 z1 c1_0 c1_1 c1_2 z2 c2_0 c2_1 c2_2 c2_3 c2_4 z3 c3_0 c3_1 c3_2 c3_3 c3_4 c3_5 c3_6
      have S := S'
      clear S'
      obtain ⟨z0, y0⟩ := S.out.hd
      obtain ⟨c0_0, c0_1⟩ := cellsK2 y0
      obtain ⟨z1, y1⟩ := S.out.tl.hd
      obtain ⟨c1_0, c1_1⟩ := cellsK2 y1
      obtain ⟨z2, y2⟩ := S.out.tl.tl.hd
      obtain ⟨c2_0, c2_1, c2_2⟩ := cellsK3 y2
      obtain ⟨z3, y3⟩ := S.out.tl.tl.tl.hd
      obtain ⟨c3_0, c3_1, c3_2, c3_3, c3_4⟩ := cellsK5 y3
      obtain ⟨z4, y4⟩ := S.out.tl.tl.tl.tl.hd
      obtain ⟨c4_0, c4_1, c4_2, c4_3, c4_4, c4_5, c4_6⟩ := cellsK7 y4
      clear y0 y1 y2 y3 y4
      go_wp2_with fail
      refine (after16 b A H x0 g _ (Hr.out.bel S.out.b)).mono ?_
      rw [HA2.out.1, HA2.out.2.1, HA2.out.2.2]
      rintro e w3 ⟨rfl, hb0⟩
      have S' := Lib.hid ((S.out.bel hb0).new w3.heap.size rfl #[.int .i64 A2, .int .i64 H2] 24)
      clear hb0 S z0 c0_0 c0_1 z1 c1_0 c1_1 z2 c2_0 c2_1 c2_2 z3 c3_0 c3_1 c3_2 c3_3 c3_4 z4 c4_0 c4_1 c4_2 c4_3 c4_4 c4_5 c4_6
      have S := S'
      clear S'
      obtain ⟨z0, y0⟩ := S.out.hd
      obtain ⟨c0_0, c0_1⟩ := cellsK2 y0
      obtain ⟨z1, y1⟩ := S.out.tl.hd
      obtain ⟨c1_0, c1_1⟩ := cellsK2 y1
      obtain ⟨z2, y2⟩ := S.out.tl.tl.hd
      obtain ⟨c2_0, c2_1⟩ := cellsK2 y2
      obtain ⟨z3, y3⟩ := S.out.tl.tl.tl.hd
      obtain ⟨c3_0, c3_1, c3_2⟩ := cellsK3 y3
      obtain ⟨z4, y4⟩ := S.out.tl.tl.tl.tl.hd
      obtain ⟨c4_0, c4_1, c4_2, c4_3, c4_4⟩ := cellsK5 y4
      obtain ⟨z5, y5⟩ := S.out.tl.tl.tl.tl.tl.hd
      obtain ⟨c5_0, c5_1, c5_2, c5_3, c5_4, c5_5, c5_6⟩ := cellsK7 y5
      clear y0 y1 y2 y3 y4 y5
      go_wp2_with fail
      refine (after16 b lo hi (secs + x0) g _ (Hr.out.bel S.out.b)).mono ?_
      rw [HA3.out.1, HA3.out.2.1, HA3.out.2.2]
      rintro e w4 ⟨rfl, hb0⟩
      have S' := Lib.hid ((S.out.bel hb0).new w4.heap.size rfl #[.int .i64 A3, .int .i64 H3] 24)
      clear hb0 S z0 c0_0 c0_1 z1 c1_0 c1_1 z2 c2_0 c2_1 z3 c3_0 c3_1 c3_2 z4 c4_0 c4_1 c4_2 c4_3 c4_4 z5 c5_0 c5_1 c5_2 c5_3 c5_4 c5_5 c5_6
      have S := S'
      clear S'
      obtain ⟨z0, y0⟩ := S.out.hd
      obtain ⟨c0_0, c0_1⟩ := cellsK2 y0
      obtain ⟨z1, y1⟩ := S.out.tl.hd
      obtain ⟨c1_0, c1_1⟩ := cellsK2 y1
      obtain ⟨z2, y2⟩ := S.out.tl.tl.hd
      obtain ⟨c2_0, c2_1⟩ := cellsK2 y2
      obtain ⟨z3, y3⟩ := S.out.tl.tl.tl.hd
      obtain ⟨c3_0, c3_1⟩ := cellsK2 y3
      obtain ⟨z4, y4⟩ := S.out.tl.tl.tl.tl.hd
      obtain ⟨c4_0, c4_1, c4_2⟩ := cellsK3 y4
      obtain ⟨z5, y5⟩ := S.out.tl.tl.tl.tl.tl.hd
      obtain ⟨c5_0, c5_1, c5_2, c5_3, c5_4⟩ := cellsK5 y5
      obtain ⟨z6, y6⟩ := S.out.tl.tl.tl.tl.tl.tl.hd
      obtain ⟨c6_0, c6_1, c6_2, c6_3, c6_4, c6_5, c6_6⟩ := cellsK7 y6
      clear y0 y1 y2 y3 y4 y5 y6
      go_wp2_with fail
      refine (awake_any _).mono ?_
      rintro e w5 ⟨rfl, hb0⟩
      have S' := Lib.hid (S.out.bel hb0)
      clear hb0 S z0 c0_0 c0_1 z1 c1_0 c1_1 z2 c2_0 c2_1 z3 c3_0 c3_1 z4 c4_0 c4_1 c4_2 z5 c5_0 c5_1 c5_2 c5_3 c5_4 z6 c6_0 c6_1 c6_2 c6_3 c6_4 c6_5 c6_6
      have S := S'
      clear S'
      obtain ⟨z0, y0⟩ := S.out.hd
      obtain ⟨c0_0, c0_1⟩ := cellsK2 y0
      obtain ⟨z1, y1⟩ := S.out.tl.hd
      obtain ⟨c1_0, c1_1⟩ := cellsK2 y1
      obtain ⟨z2, y2⟩ := S.out.tl.tl.hd
      obtain ⟨c2_0, c2_1⟩ := cellsK2 y2
      obtain ⟨z3, y3⟩ := S.out.tl.tl.tl.hd
      obtain ⟨c3_0, c3_1⟩ := cellsK2 y3
      obtain ⟨z4, y4⟩ := S.out.tl.tl.tl.tl.hd
      obtain ⟨c4_0, c4_1, c4_2⟩ := cellsK3 y4
      obtain ⟨z5, y5⟩ := S.out.tl.tl.tl.tl.tl.hd
      obtain ⟨c5_0, c5_1, c5_2, c5_3, c5_4⟩ := cellsK5 y5
      obtain ⟨z6, y6⟩ := S.out.tl.tl.tl.tl.tl.tl.hd
      obtain ⟨c6_0, c6_1, c6_2, c6_3, c6_4, c6_5, c6_6⟩ := cellsK7 y6
      clear y0 y1 y2 y3 y4 y5 y6
      go_wp2_with fail
      go_ret
      exact ⟨by first | rfl | (simp; omega), S.out.b⟩
    ·
      have S := Lib.hid ((((Sg.start w).new (w.heap.size) (by simp) b.cells 26).new (w.heap.size + 1) (by simp) #[.int .i64 lo, .int .i64 hi, .int .i64 secs, .bool g, .int .i64 lim] 35).new (w.heap.size + 2) (by simp) #[.int .i64 x0, .int .i64 x1, .int .i64 x2] 50)
      go_enter Try.func8, Try.ntmps8
      go_wp2_with fail
      go_cut [7, 8] from 17 to 23 (fun s7 s8 wx => ∃ q, s7 = .int .i64 x0 ∧ s8 = .pointer (some ⟨q, 0, none⟩) ∧ Hid (Sg w ((q, #[.int .i64 x1, .int .i64 x2]) :: [(w.heap.size + 2, #[.int .i64 x0, .int .i64 x1, .int .i64 x2]), (w.heap.size + 1, #[.int .i64 lo, .int .i64 hi, .int .i64 secs, .bool g, .int .i64 lim]), (w.heap.size, b.cells)]) wx))
      case first =>
        go_region_held3 (fun X => X.cell? ⟨w.heap.size + 2, 0, none⟩ = some (.int .i64 x0) ∧ X.cell? ⟨w.heap.size + 2, 1, none⟩ = some (.int .i64 x1) ∧ X.cell? ⟨w.heap.size + 2, 2, none⟩ = some (.int .i64 x2) ∧ Sg w [(w.heap.size + 2, #[.int .i64 x0, .int .i64 x1, .int .i64 x2]), (w.heap.size + 1, #[.int .i64 lo, .int .i64 hi, .int .i64 secs, .bool g, .int .i64 lim]), (w.heap.size, b.cells)] X) (first | exact k8_of S.out.drew | exact K8.out | exact k8_alloc (by assumption) _ | exact k8_alloc K8.out _ | exact k8_set N8.out _ _) (first | (go_at_call 22; refine (sp22 _ _ _).mono ?_; rintro e w8 ⟨rfl, hb0⟩; have K8 := Lib.hid (k8_keepA S.out.drew hb0 (by first | exact .inl rfl | exact .inr ⟨_, rfl⟩)); (first | (have N8 := Lib.hid (Ng.of_allocq (w.heap.size + 2 + 1) (by first | rfl | (simp; done) | (simp [World.drew]; done)) S.out.drew hb0); obtain ⟨n0, n1⟩ := N8.out.z; obtain ⟨f0, f1⟩ := N8.out.f) | skip)))
        all_goals (go_wp2_with fail; go_meet)
        all_goals (first | exact ⟨_, rfl, rfl, Lib.hid (N8.out.set _ _)⟩ | exact ⟨_, rfl, rfl, Lib.hid (K8.out.2.2.2.new _ rfl _ _)⟩)
      case rest =>
      obtain ⟨q, rfl, rfl, S'⟩ := hcut
      clear S
      have S := S'
      clear S'
      obtain ⟨z0, y0⟩ := S.out.hd
      obtain ⟨c0_0, c0_1⟩ := cellsK2 y0
      obtain ⟨z1, y1⟩ := S.out.tl.hd
      obtain ⟨c1_0, c1_1, c1_2⟩ := cellsK3 y1
      obtain ⟨z2, y2⟩ := S.out.tl.tl.hd
      obtain ⟨c2_0, c2_1, c2_2, c2_3, c2_4⟩ := cellsK5 y2
      obtain ⟨z3, y3⟩ := S.out.tl.tl.tl.hd
      obtain ⟨c3_0, c3_1, c3_2, c3_3, c3_4, c3_5, c3_6⟩ := cellsK7 y3
      clear y0 y1 y2 y3
      go_wp2_with fail
      refine (few10 b _).mono ?_
      rw [qf]
      rintro e w1 ⟨rfl, hb0⟩
      have S' := Lib.hid (S.out.bel hb0)
      clear hb0 S z0 c0_0 c0_1 z1 c1_0 c1_1 c1_2 z2 c2_0 c2_1 c2_2 c2_3 c2_4 z3 c3_0 c3_1 c3_2 c3_3 c3_4 c3_5 c3_6
      have S := S'
      clear S'
      obtain ⟨z0, y0⟩ := S.out.hd
      obtain ⟨c0_0, c0_1⟩ := cellsK2 y0
      obtain ⟨z1, y1⟩ := S.out.tl.hd
      obtain ⟨c1_0, c1_1, c1_2⟩ := cellsK3 y1
      obtain ⟨z2, y2⟩ := S.out.tl.tl.hd
      obtain ⟨c2_0, c2_1, c2_2, c2_3, c2_4⟩ := cellsK5 y2
      obtain ⟨z3, y3⟩ := S.out.tl.tl.tl.hd
      obtain ⟨c3_0, c3_1, c3_2, c3_3, c3_4, c3_5, c3_6⟩ := cellsK7 y3
      clear y0 y1 y2 y3
      go_wp2_with fail
      refine (after16 b lo hi secs g _ (Hr.out.bel S.out.b)).mono ?_
      rw [HA.out.1, HA.out.2.1, HA.out.2.2]
      rintro e w2 ⟨rfl, hb0⟩
      have S' := Lib.hid ((S.out.bel hb0).new w2.heap.size rfl #[.int .i64 A, .int .i64 H] 24)
      clear hb0 S z0 c0_0 c0_1 z1 c1_0 c1_1 c1_2 z2 c2_0 c2_1 c2_2 c2_3 c2_4 z3 c3_0 c3_1 c3_2 c3_3 c3_4 c3_5 c3_6
      have S := S'
      clear S'
      obtain ⟨z0, y0⟩ := S.out.hd
      obtain ⟨c0_0, c0_1⟩ := cellsK2 y0
      obtain ⟨z1, y1⟩ := S.out.tl.hd
      obtain ⟨c1_0, c1_1⟩ := cellsK2 y1
      obtain ⟨z2, y2⟩ := S.out.tl.tl.hd
      obtain ⟨c2_0, c2_1, c2_2⟩ := cellsK3 y2
      obtain ⟨z3, y3⟩ := S.out.tl.tl.tl.hd
      obtain ⟨c3_0, c3_1, c3_2, c3_3, c3_4⟩ := cellsK5 y3
      obtain ⟨z4, y4⟩ := S.out.tl.tl.tl.tl.hd
      obtain ⟨c4_0, c4_1, c4_2, c4_3, c4_4, c4_5, c4_6⟩ := cellsK7 y4
      clear y0 y1 y2 y3 y4
      go_wp2_with fail
      refine (after16 b A H x0 g _ (Hr.out.bel S.out.b)).mono ?_
      rw [HA2.out.1, HA2.out.2.1, HA2.out.2.2]
      rintro e w3 ⟨rfl, hb0⟩
      have S' := Lib.hid ((S.out.bel hb0).new w3.heap.size rfl #[.int .i64 A2, .int .i64 H2] 24)
      clear hb0 S z0 c0_0 c0_1 z1 c1_0 c1_1 z2 c2_0 c2_1 c2_2 z3 c3_0 c3_1 c3_2 c3_3 c3_4 z4 c4_0 c4_1 c4_2 c4_3 c4_4 c4_5 c4_6
      have S := S'
      clear S'
      obtain ⟨z0, y0⟩ := S.out.hd
      obtain ⟨c0_0, c0_1⟩ := cellsK2 y0
      obtain ⟨z1, y1⟩ := S.out.tl.hd
      obtain ⟨c1_0, c1_1⟩ := cellsK2 y1
      obtain ⟨z2, y2⟩ := S.out.tl.tl.hd
      obtain ⟨c2_0, c2_1⟩ := cellsK2 y2
      obtain ⟨z3, y3⟩ := S.out.tl.tl.tl.hd
      obtain ⟨c3_0, c3_1, c3_2⟩ := cellsK3 y3
      obtain ⟨z4, y4⟩ := S.out.tl.tl.tl.tl.hd
      obtain ⟨c4_0, c4_1, c4_2, c4_3, c4_4⟩ := cellsK5 y4
      obtain ⟨z5, y5⟩ := S.out.tl.tl.tl.tl.tl.hd
      obtain ⟨c5_0, c5_1, c5_2, c5_3, c5_4, c5_5, c5_6⟩ := cellsK7 y5
      clear y0 y1 y2 y3 y4 y5
      go_wp2_with fail
      refine (after16 b lo hi (secs + x0) g _ (Hr.out.bel S.out.b)).mono ?_
      rw [HA3.out.1, HA3.out.2.1, HA3.out.2.2]
      rintro e w4 ⟨rfl, hb0⟩
      have S' := Lib.hid ((S.out.bel hb0).new w4.heap.size rfl #[.int .i64 A3, .int .i64 H3] 24)
      clear hb0 S z0 c0_0 c0_1 z1 c1_0 c1_1 z2 c2_0 c2_1 z3 c3_0 c3_1 c3_2 z4 c4_0 c4_1 c4_2 c4_3 c4_4 z5 c5_0 c5_1 c5_2 c5_3 c5_4 c5_5 c5_6
      have S := S'
      clear S'
      obtain ⟨z0, y0⟩ := S.out.hd
      obtain ⟨c0_0, c0_1⟩ := cellsK2 y0
      obtain ⟨z1, y1⟩ := S.out.tl.hd
      obtain ⟨c1_0, c1_1⟩ := cellsK2 y1
      obtain ⟨z2, y2⟩ := S.out.tl.tl.hd
      obtain ⟨c2_0, c2_1⟩ := cellsK2 y2
      obtain ⟨z3, y3⟩ := S.out.tl.tl.tl.hd
      obtain ⟨c3_0, c3_1⟩ := cellsK2 y3
      obtain ⟨z4, y4⟩ := S.out.tl.tl.tl.tl.hd
      obtain ⟨c4_0, c4_1, c4_2⟩ := cellsK3 y4
      obtain ⟨z5, y5⟩ := S.out.tl.tl.tl.tl.tl.hd
      obtain ⟨c5_0, c5_1, c5_2, c5_3, c5_4⟩ := cellsK5 y5
      obtain ⟨z6, y6⟩ := S.out.tl.tl.tl.tl.tl.tl.hd
      obtain ⟨c6_0, c6_1, c6_2, c6_3, c6_4, c6_5, c6_6⟩ := cellsK7 y6
      clear y0 y1 y2 y3 y4 y5 y6
      go_wp2_with fail
      refine (awake_any _).mono ?_
      rintro e w5 ⟨rfl, hb0⟩
      have S' := Lib.hid (S.out.bel hb0)
      clear hb0 S z0 c0_0 c0_1 z1 c1_0 c1_1 z2 c2_0 c2_1 z3 c3_0 c3_1 z4 c4_0 c4_1 c4_2 z5 c5_0 c5_1 c5_2 c5_3 c5_4 z6 c6_0 c6_1 c6_2 c6_3 c6_4 c6_5 c6_6
      have S := S'
      clear S'
      obtain ⟨z0, y0⟩ := S.out.hd
      obtain ⟨c0_0, c0_1⟩ := cellsK2 y0
      obtain ⟨z1, y1⟩ := S.out.tl.hd
      obtain ⟨c1_0, c1_1⟩ := cellsK2 y1
      obtain ⟨z2, y2⟩ := S.out.tl.tl.hd
      obtain ⟨c2_0, c2_1⟩ := cellsK2 y2
      obtain ⟨z3, y3⟩ := S.out.tl.tl.tl.hd
      obtain ⟨c3_0, c3_1⟩ := cellsK2 y3
      obtain ⟨z4, y4⟩ := S.out.tl.tl.tl.tl.hd
      obtain ⟨c4_0, c4_1, c4_2⟩ := cellsK3 y4
      obtain ⟨z5, y5⟩ := S.out.tl.tl.tl.tl.tl.hd
      obtain ⟨c5_0, c5_1, c5_2, c5_3, c5_4⟩ := cellsK5 y5
      obtain ⟨z6, y6⟩ := S.out.tl.tl.tl.tl.tl.tl.hd
      obtain ⟨c6_0, c6_1, c6_2, c6_3, c6_4, c6_5, c6_6⟩ := cellsK7 y6
      clear y0 y1 y2 y3 y4 y5 y6
      go_wp2_with fail
      go_ret
      exact ⟨by first | rfl | (simp; omega), S.out.b⟩
    ·
      have S := Lib.hid ((((Sg.start w).new (w.heap.size) (by simp) b.cells 26).new (w.heap.size + 1) (by simp) #[.int .i64 lo, .int .i64 hi, .int .i64 secs, .bool g, .int .i64 lim] 35).new (w.heap.size + 2) (by simp) #[.int .i64 x0, .int .i64 x1, .int .i64 x2] 50)
      go_enter Try.func8, Try.ntmps8
      go_wp2_with fail
      go_cut [7, 8] from 17 to 23 (fun s7 s8 wx => ∃ q, s7 = .int .i64 x0 ∧ s8 = .pointer (some ⟨q, 0, none⟩) ∧ Hid (Sg w ((q, #[.int .i64 x1, .int .i64 x2]) :: [(w.heap.size + 2, #[.int .i64 x0, .int .i64 x1, .int .i64 x2]), (w.heap.size + 1, #[.int .i64 lo, .int .i64 hi, .int .i64 secs, .bool g, .int .i64 lim]), (w.heap.size, b.cells)]) wx))
      case first =>
        go_region_held3 (fun X => X.cell? ⟨w.heap.size + 2, 0, none⟩ = some (.int .i64 x0) ∧ X.cell? ⟨w.heap.size + 2, 1, none⟩ = some (.int .i64 x1) ∧ X.cell? ⟨w.heap.size + 2, 2, none⟩ = some (.int .i64 x2) ∧ Sg w [(w.heap.size + 2, #[.int .i64 x0, .int .i64 x1, .int .i64 x2]), (w.heap.size + 1, #[.int .i64 lo, .int .i64 hi, .int .i64 secs, .bool g, .int .i64 lim]), (w.heap.size, b.cells)] X) (first | exact k8_of S.out.drew | exact K8.out | exact k8_alloc (by assumption) _ | exact k8_alloc K8.out _ | exact k8_set N8.out _ _) (first | (go_at_call 22; refine (sp22 _ _ _).mono ?_; rintro e w8 ⟨rfl, hb0⟩; have K8 := Lib.hid (k8_keepA S.out.drew hb0 (by first | exact .inl rfl | exact .inr ⟨_, rfl⟩)); (first | (have N8 := Lib.hid (Ng.of_allocq (w.heap.size + 2 + 1) (by first | rfl | (simp; done) | (simp [World.drew]; done)) S.out.drew hb0); obtain ⟨n0, n1⟩ := N8.out.z; obtain ⟨f0, f1⟩ := N8.out.f) | skip)))
        all_goals (go_wp2_with fail; go_meet)
        all_goals (first | exact ⟨_, rfl, rfl, Lib.hid (N8.out.set _ _)⟩ | exact ⟨_, rfl, rfl, Lib.hid (K8.out.2.2.2.new _ rfl _ _)⟩)
      case rest =>
      obtain ⟨q, rfl, rfl, S'⟩ := hcut
      clear S
      have S := S'
      clear S'
      obtain ⟨z0, y0⟩ := S.out.hd
      obtain ⟨c0_0, c0_1⟩ := cellsK2 y0
      obtain ⟨z1, y1⟩ := S.out.tl.hd
      obtain ⟨c1_0, c1_1, c1_2⟩ := cellsK3 y1
      obtain ⟨z2, y2⟩ := S.out.tl.tl.hd
      obtain ⟨c2_0, c2_1, c2_2, c2_3, c2_4⟩ := cellsK5 y2
      obtain ⟨z3, y3⟩ := S.out.tl.tl.tl.hd
      obtain ⟨c3_0, c3_1, c3_2, c3_3, c3_4, c3_5, c3_6⟩ := cellsK7 y3
      clear y0 y1 y2 y3
      go_wp2_with fail
      refine (few10 b _).mono ?_
      rw [qf]
      rintro e w1 ⟨rfl, hb0⟩
      have S' := Lib.hid (S.out.bel hb0)
      clear hb0 S z0 c0_0 c0_1 z1 c1_0 c1_1 c1_2 z2 c2_0 c2_1 c2_2 c2_3 c2_4 z3 c3_0 c3_1 c3_2 c3_3 c3_4 c3_5 c3_6
      have S := S'
      clear S'
      obtain ⟨z0, y0⟩ := S.out.hd
      obtain ⟨c0_0, c0_1⟩ := cellsK2 y0
      obtain ⟨z1, y1⟩ := S.out.tl.hd
      obtain ⟨c1_0, c1_1, c1_2⟩ := cellsK3 y1
      obtain ⟨z2, y2⟩ := S.out.tl.tl.hd
      obtain ⟨c2_0, c2_1, c2_2, c2_3, c2_4⟩ := cellsK5 y2
      obtain ⟨z3, y3⟩ := S.out.tl.tl.tl.hd
      obtain ⟨c3_0, c3_1, c3_2, c3_3, c3_4, c3_5, c3_6⟩ := cellsK7 y3
      clear y0 y1 y2 y3
      go_wp2_with fail
      refine (after16 b lo hi secs g _ (Hr.out.bel S.out.b)).mono ?_
      rw [HA.out.1, HA.out.2.1, HA.out.2.2]
      rintro e w2 ⟨rfl, hb0⟩
      have S' := Lib.hid ((S.out.bel hb0).new w2.heap.size rfl #[.int .i64 A, .int .i64 H] 24)
      clear hb0 S z0 c0_0 c0_1 z1 c1_0 c1_1 c1_2 z2 c2_0 c2_1 c2_2 c2_3 c2_4 z3 c3_0 c3_1 c3_2 c3_3 c3_4 c3_5 c3_6
      have S := S'
      clear S'
      obtain ⟨z0, y0⟩ := S.out.hd
      obtain ⟨c0_0, c0_1⟩ := cellsK2 y0
      obtain ⟨z1, y1⟩ := S.out.tl.hd
      obtain ⟨c1_0, c1_1⟩ := cellsK2 y1
      obtain ⟨z2, y2⟩ := S.out.tl.tl.hd
      obtain ⟨c2_0, c2_1, c2_2⟩ := cellsK3 y2
      obtain ⟨z3, y3⟩ := S.out.tl.tl.tl.hd
      obtain ⟨c3_0, c3_1, c3_2, c3_3, c3_4⟩ := cellsK5 y3
      obtain ⟨z4, y4⟩ := S.out.tl.tl.tl.tl.hd
      obtain ⟨c4_0, c4_1, c4_2, c4_3, c4_4, c4_5, c4_6⟩ := cellsK7 y4
      clear y0 y1 y2 y3 y4
      go_wp2_with fail
      refine (after16 b A H x0 g _ (Hr.out.bel S.out.b)).mono ?_
      rw [HA2.out.1, HA2.out.2.1, HA2.out.2.2]
      rintro e w3 ⟨rfl, hb0⟩
      have S' := Lib.hid ((S.out.bel hb0).new w3.heap.size rfl #[.int .i64 A2, .int .i64 H2] 24)
      clear hb0 S z0 c0_0 c0_1 z1 c1_0 c1_1 z2 c2_0 c2_1 c2_2 z3 c3_0 c3_1 c3_2 c3_3 c3_4 z4 c4_0 c4_1 c4_2 c4_3 c4_4 c4_5 c4_6
      have S := S'
      clear S'
      obtain ⟨z0, y0⟩ := S.out.hd
      obtain ⟨c0_0, c0_1⟩ := cellsK2 y0
      obtain ⟨z1, y1⟩ := S.out.tl.hd
      obtain ⟨c1_0, c1_1⟩ := cellsK2 y1
      obtain ⟨z2, y2⟩ := S.out.tl.tl.hd
      obtain ⟨c2_0, c2_1⟩ := cellsK2 y2
      obtain ⟨z3, y3⟩ := S.out.tl.tl.tl.hd
      obtain ⟨c3_0, c3_1, c3_2⟩ := cellsK3 y3
      obtain ⟨z4, y4⟩ := S.out.tl.tl.tl.tl.hd
      obtain ⟨c4_0, c4_1, c4_2, c4_3, c4_4⟩ := cellsK5 y4
      obtain ⟨z5, y5⟩ := S.out.tl.tl.tl.tl.tl.hd
      obtain ⟨c5_0, c5_1, c5_2, c5_3, c5_4, c5_5, c5_6⟩ := cellsK7 y5
      clear y0 y1 y2 y3 y4 y5
      go_wp2_with fail
      refine (after16 b lo hi (secs + x0) g _ (Hr.out.bel S.out.b)).mono ?_
      rw [HA3.out.1, HA3.out.2.1, HA3.out.2.2]
      rintro e w4 ⟨rfl, hb0⟩
      have S' := Lib.hid ((S.out.bel hb0).new w4.heap.size rfl #[.int .i64 A3, .int .i64 H3] 24)
      clear hb0 S z0 c0_0 c0_1 z1 c1_0 c1_1 z2 c2_0 c2_1 z3 c3_0 c3_1 c3_2 z4 c4_0 c4_1 c4_2 c4_3 c4_4 z5 c5_0 c5_1 c5_2 c5_3 c5_4 c5_5 c5_6
      have S := S'
      clear S'
      obtain ⟨z0, y0⟩ := S.out.hd
      obtain ⟨c0_0, c0_1⟩ := cellsK2 y0
      obtain ⟨z1, y1⟩ := S.out.tl.hd
      obtain ⟨c1_0, c1_1⟩ := cellsK2 y1
      obtain ⟨z2, y2⟩ := S.out.tl.tl.hd
      obtain ⟨c2_0, c2_1⟩ := cellsK2 y2
      obtain ⟨z3, y3⟩ := S.out.tl.tl.tl.hd
      obtain ⟨c3_0, c3_1⟩ := cellsK2 y3
      obtain ⟨z4, y4⟩ := S.out.tl.tl.tl.tl.hd
      obtain ⟨c4_0, c4_1, c4_2⟩ := cellsK3 y4
      obtain ⟨z5, y5⟩ := S.out.tl.tl.tl.tl.tl.hd
      obtain ⟨c5_0, c5_1, c5_2, c5_3, c5_4⟩ := cellsK5 y5
      obtain ⟨z6, y6⟩ := S.out.tl.tl.tl.tl.tl.tl.hd
      obtain ⟨c6_0, c6_1, c6_2, c6_3, c6_4, c6_5, c6_6⟩ := cellsK7 y6
      clear y0 y1 y2 y3 y4 y5 y6
      go_wp2_with fail
      refine (awake_any _).mono ?_
      rintro e w5 ⟨rfl, hb0⟩
      have S' := Lib.hid (S.out.bel hb0)
      clear hb0 S z0 c0_0 c0_1 z1 c1_0 c1_1 z2 c2_0 c2_1 z3 c3_0 c3_1 z4 c4_0 c4_1 c4_2 z5 c5_0 c5_1 c5_2 c5_3 c5_4 z6 c6_0 c6_1 c6_2 c6_3 c6_4 c6_5 c6_6
      have S := S'
      clear S'
      obtain ⟨z0, y0⟩ := S.out.hd
      obtain ⟨c0_0, c0_1⟩ := cellsK2 y0
      obtain ⟨z1, y1⟩ := S.out.tl.hd
      obtain ⟨c1_0, c1_1⟩ := cellsK2 y1
      obtain ⟨z2, y2⟩ := S.out.tl.tl.hd
      obtain ⟨c2_0, c2_1⟩ := cellsK2 y2
      obtain ⟨z3, y3⟩ := S.out.tl.tl.tl.hd
      obtain ⟨c3_0, c3_1⟩ := cellsK2 y3
      obtain ⟨z4, y4⟩ := S.out.tl.tl.tl.tl.hd
      obtain ⟨c4_0, c4_1, c4_2⟩ := cellsK3 y4
      obtain ⟨z5, y5⟩ := S.out.tl.tl.tl.tl.tl.hd
      obtain ⟨c5_0, c5_1, c5_2, c5_3, c5_4⟩ := cellsK5 y5
      obtain ⟨z6, y6⟩ := S.out.tl.tl.tl.tl.tl.tl.hd
      obtain ⟨c6_0, c6_1, c6_2, c6_3, c6_4, c6_5, c6_6⟩ := cellsK7 y6
      clear y0 y1 y2 y3 y4 y5 y6
      go_wp2_with fail
      go_ret
      exact ⟨by first | rfl | (simp; omega), S.out.b⟩
  have hE4 := afE_mk (b := b) (lo := x1) (hi := x2) (s := secs) hc ⟨by have := hs'.1; omega, hx3, by have := hs'.2.2; omega⟩ ⟨s0, s1⟩
  obtain ⟨i1, i2⟩ := inn hx hx2
  obtain ⟨A4, hA4⟩ : ∃ A, A = afL (lsH b g) x1 secs := ⟨_, rfl⟩
  obtain ⟨H4, hH4⟩ : ∃ H', H' = afH (lsL b g) x2 secs := ⟨_, rfl⟩
  have HA4 := Lib.hid (And.intro hE4 (And.intro (show aftLo b x1 x2 secs g = A4 by rw [hA4]; exact if_pos hE4) (show aftHi b x1 x2 secs g = H4 by rw [hH4]; exact if_pos hE4)))
  rw [← hA4] at i1
  rw [← hH4] at i2
  clear hA4 hH4 hE4 inn hc hs hs' s0 s1
  have S := Lib.hid ((((Sg.start w).new (w.heap.size) (by simp) b.cells 26).new (w.heap.size + 1) (by simp) #[.int .i64 lo, .int .i64 hi, .int .i64 secs, .bool g, .int .i64 lim] 35).new (w.heap.size + 2) (by simp) #[.int .i64 x0, .int .i64 x1, .int .i64 x2] 50)
  go_enter Try.func8, Try.ntmps8
  go_wp2_with fail
  go_cut [7, 8] from 17 to 23 (fun s7 s8 wx => ∃ q, s7 = .int .i64 x0 ∧ s8 = .pointer (some ⟨q, 0, none⟩) ∧ Hid (Sg w ((q, #[.int .i64 x1, .int .i64 x2]) :: [(w.heap.size + 2, #[.int .i64 x0, .int .i64 x1, .int .i64 x2]), (w.heap.size + 1, #[.int .i64 lo, .int .i64 hi, .int .i64 secs, .bool g, .int .i64 lim]), (w.heap.size, b.cells)]) wx))
  case first =>
    go_region_held3 (fun X => X.cell? ⟨w.heap.size + 2, 0, none⟩ = some (.int .i64 x0) ∧ X.cell? ⟨w.heap.size + 2, 1, none⟩ = some (.int .i64 x1) ∧ X.cell? ⟨w.heap.size + 2, 2, none⟩ = some (.int .i64 x2) ∧ Sg w [(w.heap.size + 2, #[.int .i64 x0, .int .i64 x1, .int .i64 x2]), (w.heap.size + 1, #[.int .i64 lo, .int .i64 hi, .int .i64 secs, .bool g, .int .i64 lim]), (w.heap.size, b.cells)] X) (first | exact k8_of S.out.drew | exact K8.out | exact k8_alloc (by assumption) _ | exact k8_alloc K8.out _ | exact k8_set N8.out _ _) (first | (go_at_call 22; refine (sp22 _ _ _).mono ?_; rintro e w8 ⟨rfl, hb0⟩; have K8 := Lib.hid (k8_keepA S.out.drew hb0 (by first | exact .inl rfl | exact .inr ⟨_, rfl⟩)); (first | (have N8 := Lib.hid (Ng.of_allocq (w.heap.size + 2 + 1) (by first | rfl | (simp; done) | (simp [World.drew]; done)) S.out.drew hb0); obtain ⟨n0, n1⟩ := N8.out.z; obtain ⟨f0, f1⟩ := N8.out.f) | skip)))
    all_goals (go_wp2_with fail; go_meet)
    all_goals (first | exact ⟨_, rfl, rfl, Lib.hid (N8.out.set _ _)⟩ | exact ⟨_, rfl, rfl, Lib.hid (K8.out.2.2.2.new _ rfl _ _)⟩)
  case rest =>
  obtain ⟨q, rfl, rfl, S'⟩ := hcut
  clear S
  have S := S'
  clear S'
  obtain ⟨z0, y0⟩ := S.out.hd
  obtain ⟨c0_0, c0_1⟩ := cellsK2 y0
  obtain ⟨z1, y1⟩ := S.out.tl.hd
  obtain ⟨c1_0, c1_1, c1_2⟩ := cellsK3 y1
  obtain ⟨z2, y2⟩ := S.out.tl.tl.hd
  obtain ⟨c2_0, c2_1, c2_2, c2_3, c2_4⟩ := cellsK5 y2
  obtain ⟨z3, y3⟩ := S.out.tl.tl.tl.hd
  obtain ⟨c3_0, c3_1, c3_2, c3_3, c3_4, c3_5, c3_6⟩ := cellsK7 y3
  clear y0 y1 y2 y3
  go_wp2_with fail
  refine (few10 b _).mono ?_
  rw [qf]
  rintro e w1 ⟨rfl, hb0⟩
  have S' := Lib.hid (S.out.bel hb0)
  clear hb0 S z0 c0_0 c0_1 z1 c1_0 c1_1 c1_2 z2 c2_0 c2_1 c2_2 c2_3 c2_4 z3 c3_0 c3_1 c3_2 c3_3 c3_4 c3_5 c3_6
  have S := S'
  clear S'
  obtain ⟨z0, y0⟩ := S.out.hd
  obtain ⟨c0_0, c0_1⟩ := cellsK2 y0
  obtain ⟨z1, y1⟩ := S.out.tl.hd
  obtain ⟨c1_0, c1_1, c1_2⟩ := cellsK3 y1
  obtain ⟨z2, y2⟩ := S.out.tl.tl.hd
  obtain ⟨c2_0, c2_1, c2_2, c2_3, c2_4⟩ := cellsK5 y2
  obtain ⟨z3, y3⟩ := S.out.tl.tl.tl.hd
  obtain ⟨c3_0, c3_1, c3_2, c3_3, c3_4, c3_5, c3_6⟩ := cellsK7 y3
  clear y0 y1 y2 y3
  go_wp2_with fail
  refine (after16 b lo hi secs g _ (Hr.out.bel S.out.b)).mono ?_
  rw [HA.out.1, HA.out.2.1, HA.out.2.2]
  rintro e w2 ⟨rfl, hb0⟩
  have S' := Lib.hid ((S.out.bel hb0).new w2.heap.size rfl #[.int .i64 A, .int .i64 H] 24)
  clear hb0 S z0 c0_0 c0_1 z1 c1_0 c1_1 c1_2 z2 c2_0 c2_1 c2_2 c2_3 c2_4 z3 c3_0 c3_1 c3_2 c3_3 c3_4 c3_5 c3_6
  have S := S'
  clear S'
  obtain ⟨z0, y0⟩ := S.out.hd
  obtain ⟨c0_0, c0_1⟩ := cellsK2 y0
  obtain ⟨z1, y1⟩ := S.out.tl.hd
  obtain ⟨c1_0, c1_1⟩ := cellsK2 y1
  obtain ⟨z2, y2⟩ := S.out.tl.tl.hd
  obtain ⟨c2_0, c2_1, c2_2⟩ := cellsK3 y2
  obtain ⟨z3, y3⟩ := S.out.tl.tl.tl.hd
  obtain ⟨c3_0, c3_1, c3_2, c3_3, c3_4⟩ := cellsK5 y3
  obtain ⟨z4, y4⟩ := S.out.tl.tl.tl.tl.hd
  obtain ⟨c4_0, c4_1, c4_2, c4_3, c4_4, c4_5, c4_6⟩ := cellsK7 y4
  clear y0 y1 y2 y3 y4
  go_wp2_with fail
  refine (after16 b A H x0 g _ (Hr.out.bel S.out.b)).mono ?_
  rw [HA2.out.1, HA2.out.2.1, HA2.out.2.2]
  rintro e w3 ⟨rfl, hb0⟩
  have S' := Lib.hid ((S.out.bel hb0).new w3.heap.size rfl #[.int .i64 A2, .int .i64 H2] 24)
  clear hb0 S z0 c0_0 c0_1 z1 c1_0 c1_1 z2 c2_0 c2_1 c2_2 z3 c3_0 c3_1 c3_2 c3_3 c3_4 z4 c4_0 c4_1 c4_2 c4_3 c4_4 c4_5 c4_6
  have S := S'
  clear S'
  obtain ⟨z0, y0⟩ := S.out.hd
  obtain ⟨c0_0, c0_1⟩ := cellsK2 y0
  obtain ⟨z1, y1⟩ := S.out.tl.hd
  obtain ⟨c1_0, c1_1⟩ := cellsK2 y1
  obtain ⟨z2, y2⟩ := S.out.tl.tl.hd
  obtain ⟨c2_0, c2_1⟩ := cellsK2 y2
  obtain ⟨z3, y3⟩ := S.out.tl.tl.tl.hd
  obtain ⟨c3_0, c3_1, c3_2⟩ := cellsK3 y3
  obtain ⟨z4, y4⟩ := S.out.tl.tl.tl.tl.hd
  obtain ⟨c4_0, c4_1, c4_2, c4_3, c4_4⟩ := cellsK5 y4
  obtain ⟨z5, y5⟩ := S.out.tl.tl.tl.tl.tl.hd
  obtain ⟨c5_0, c5_1, c5_2, c5_3, c5_4, c5_5, c5_6⟩ := cellsK7 y5
  clear y0 y1 y2 y3 y4 y5
  go_wp2_with fail
  refine (after16 b lo hi (secs + x0) g _ (Hr.out.bel S.out.b)).mono ?_
  rw [HA3.out.1, HA3.out.2.1, HA3.out.2.2]
  rintro e w4 ⟨rfl, hb0⟩
  have S' := Lib.hid ((S.out.bel hb0).new w4.heap.size rfl #[.int .i64 A3, .int .i64 H3] 24)
  clear hb0 S z0 c0_0 c0_1 z1 c1_0 c1_1 z2 c2_0 c2_1 z3 c3_0 c3_1 c3_2 z4 c4_0 c4_1 c4_2 c4_3 c4_4 z5 c5_0 c5_1 c5_2 c5_3 c5_4 c5_5 c5_6
  have S := S'
  clear S'
  obtain ⟨z0, y0⟩ := S.out.hd
  obtain ⟨c0_0, c0_1⟩ := cellsK2 y0
  obtain ⟨z1, y1⟩ := S.out.tl.hd
  obtain ⟨c1_0, c1_1⟩ := cellsK2 y1
  obtain ⟨z2, y2⟩ := S.out.tl.tl.hd
  obtain ⟨c2_0, c2_1⟩ := cellsK2 y2
  obtain ⟨z3, y3⟩ := S.out.tl.tl.tl.hd
  obtain ⟨c3_0, c3_1⟩ := cellsK2 y3
  obtain ⟨z4, y4⟩ := S.out.tl.tl.tl.tl.hd
  obtain ⟨c4_0, c4_1, c4_2⟩ := cellsK3 y4
  obtain ⟨z5, y5⟩ := S.out.tl.tl.tl.tl.tl.hd
  obtain ⟨c5_0, c5_1, c5_2, c5_3, c5_4⟩ := cellsK5 y5
  obtain ⟨z6, y6⟩ := S.out.tl.tl.tl.tl.tl.tl.hd
  obtain ⟨c6_0, c6_1, c6_2, c6_3, c6_4, c6_5, c6_6⟩ := cellsK7 y6
  clear y0 y1 y2 y3 y4 y5 y6
  go_wp2_with fail
  refine (after16 b x1 x2 secs g _ (Hr.out.bel S.out.b)).mono ?_
  rw [HA4.out.1, HA4.out.2.1, HA4.out.2.2]
  rintro e w5 ⟨rfl, hb0⟩
  have S' := Lib.hid ((S.out.bel hb0).new w5.heap.size rfl #[.int .i64 A4, .int .i64 H4] 24)
  clear hb0 S z0 c0_0 c0_1 z1 c1_0 c1_1 z2 c2_0 c2_1 z3 c3_0 c3_1 z4 c4_0 c4_1 c4_2 z5 c5_0 c5_1 c5_2 c5_3 c5_4 z6 c6_0 c6_1 c6_2 c6_3 c6_4 c6_5 c6_6
  have S := S'
  clear S'
  obtain ⟨z0, y0⟩ := S.out.hd
  obtain ⟨c0_0, c0_1⟩ := cellsK2 y0
  obtain ⟨z1, y1⟩ := S.out.tl.hd
  obtain ⟨c1_0, c1_1⟩ := cellsK2 y1
  obtain ⟨z2, y2⟩ := S.out.tl.tl.hd
  obtain ⟨c2_0, c2_1⟩ := cellsK2 y2
  obtain ⟨z3, y3⟩ := S.out.tl.tl.tl.hd
  obtain ⟨c3_0, c3_1⟩ := cellsK2 y3
  obtain ⟨z4, y4⟩ := S.out.tl.tl.tl.tl.hd
  obtain ⟨c4_0, c4_1⟩ := cellsK2 y4
  obtain ⟨z5, y5⟩ := S.out.tl.tl.tl.tl.tl.hd
  obtain ⟨c5_0, c5_1, c5_2⟩ := cellsK3 y5
  obtain ⟨z6, y6⟩ := S.out.tl.tl.tl.tl.tl.tl.hd
  obtain ⟨c6_0, c6_1, c6_2, c6_3, c6_4⟩ := cellsK5 y6
  obtain ⟨z7, y7⟩ := S.out.tl.tl.tl.tl.tl.tl.tl.hd
  obtain ⟨c7_0, c7_1, c7_2, c7_3, c7_4, c7_5, c7_6⟩ := cellsK7 y7
  clear y0 y1 y2 y3 y4 y5 y6 y7
  go_wp2_with fail
  refine (awake_any _).mono ?_
  rintro e w6 ⟨rfl, hb0⟩
  have S' := Lib.hid (S.out.bel hb0)
  clear hb0 S z0 c0_0 c0_1 z1 c1_0 c1_1 z2 c2_0 c2_1 z3 c3_0 c3_1 z4 c4_0 c4_1 z5 c5_0 c5_1 c5_2 z6 c6_0 c6_1 c6_2 c6_3 c6_4 z7 c7_0 c7_1 c7_2 c7_3 c7_4 c7_5 c7_6
  have S := S'
  clear S'
  obtain ⟨z0, y0⟩ := S.out.hd
  obtain ⟨c0_0, c0_1⟩ := cellsK2 y0
  obtain ⟨z1, y1⟩ := S.out.tl.hd
  obtain ⟨c1_0, c1_1⟩ := cellsK2 y1
  obtain ⟨z2, y2⟩ := S.out.tl.tl.hd
  obtain ⟨c2_0, c2_1⟩ := cellsK2 y2
  obtain ⟨z3, y3⟩ := S.out.tl.tl.tl.hd
  obtain ⟨c3_0, c3_1⟩ := cellsK2 y3
  obtain ⟨z4, y4⟩ := S.out.tl.tl.tl.tl.hd
  obtain ⟨c4_0, c4_1⟩ := cellsK2 y4
  obtain ⟨z5, y5⟩ := S.out.tl.tl.tl.tl.tl.hd
  obtain ⟨c5_0, c5_1, c5_2⟩ := cellsK3 y5
  obtain ⟨z6, y6⟩ := S.out.tl.tl.tl.tl.tl.tl.hd
  obtain ⟨c6_0, c6_1, c6_2, c6_3, c6_4⟩ := cellsK5 y6
  obtain ⟨z7, y7⟩ := S.out.tl.tl.tl.tl.tl.tl.tl.hd
  obtain ⟨c7_0, c7_1, c7_2, c7_3, c7_4, c7_5, c7_6⟩ := cellsK7 y7
  clear y0 y1 y2 y3 y4 y5 y6 y7
  go_wp2_with fail
  go_ret
  exact ⟨by first | rfl | (simp; omega), S.out.b⟩
end Go.Proofs.Ytgcjjnmdbdllhaa
