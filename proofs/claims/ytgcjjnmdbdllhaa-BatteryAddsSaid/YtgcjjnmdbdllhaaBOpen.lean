/- Opening a battery and a use that came in as arguments. -/
import Derived.Test.YtgcjjnmdbdllhaaProg
import Derived.Test.YtgcjjnmdbdllhaaOpenA
import Derived.Test.YtgcjjnmdbdllhaaBMath
namespace Go.Proofs.Ytgcjjnmdbdllhaa
open Go.RowKit Go.ChangeShapes Go.WideShapes Go.ChangeAt
set_option linter.unusedVariables false
section
variable {H : Type} {enc : TypeId × Value → H} {w : World} {base : Nat} {spare : Nat → Bool} {held : Bool}
theorem row_of (c : Value) (fuel : Nat) (x : DataW H × List MemPlace) (h : DataW.trod enc Try.prog w base spare held fuel 22 [c] = some x) :
    ∃ A n c' f, c = .slice A n c' ∧ SlI w A n f ∧ n ≤ 9223372036854775807 := by
  have hc : ∃ a len cap, c = .slice a len cap := by
    rcases Deep.open_slice Try.underlying22 h with ⟨hcs, _⟩ | ⟨a', len', cap', m, n', D, Pl, hcs, _⟩
    · simp only [List.cons.injEq, and_true] at hcs
      exact ⟨none, 0, 0, hcs⟩
    · simp only [List.cons.injEq, and_true] at hcs
      exact ⟨some a', len', cap', hcs⟩
  obtain ⟨a, len, cap, rfl⟩ := hc
  obtain ⟨A, n, c, g, h1, h2, h3, _, _⟩ := open_flat_slice (k := 1) (d := x.1) (p := x.2) Try.underlying22 3 (by kernel_rfl) (by kernel_rfl) (by omega) ⟨a, len, cap, rfl⟩ ⟨fuel, h⟩
  exact ⟨A, n, c, fun i => g i 0, h1, h2.ints, h3⟩
theorem int_of (c : Value) (fuel : Nat) (x : DataW H × List MemPlace) (h : DataW.trod enc Try.prog w base spare held fuel 3 [c] = some x) : ∃ q, c = .int .i64 q := by
  obtain ⟨n, h1, _⟩ := DataW.trod_int Try.underlying3 h
  simp only [List.cons.injEq, and_true] at h1
  exact ⟨n, h1⟩
theorem bool_of (c : Value) (fuel : Nat) (x : DataW H × List MemPlace) (h : DataW.trod enc Try.prog w base spare held fuel 4 [c] = some x) : ∃ q, c = .bool q := by
  obtain ⟨n, h1, _⟩ := DataW.trod_bool Try.underlying4 h
  simp only [List.cons.injEq, and_true] at h1
  exact ⟨n, h1⟩
theorem span_of (c d : Value) (fuel : Nat) (x : DataW H × List MemPlace) (h : DataW.trod enc Try.prog w base spare held fuel 24 [c, d] = some x) : ∃ p q, c = .int .i64 p ∧ d = .int .i64 q := by
  have hi := flat_cells 3 24 fuel _ _ (by kernel_rfl) h
  obtain ⟨p, hp, _⟩ := hi 0 c rfl
  obtain ⟨q, hq, _⟩ := hi 1 d rfl
  exact ⟨p, q, hp, hq⟩
theorem c22 : Try.prog.cellsOf 22 = 1 := by kernel_rfl
theorem c3 : Try.prog.cellsOf 3 = 1 := by kernel_rfl
theorem c4 : Try.prog.cellsOf 4 = 1 := by kernel_rfl
theorem c24 : Try.prog.cellsOf 24 = 2 := by kernel_rfl

theorem some_of {α : Type} {l : List α} {k j : Nat} (h : l.length = k) (hj : j < k) : ∃ y, l[j]? = some y := ⟨l[j]'(by omega), List.getElem?_eq_getElem (by omega)⟩

theorem open_batt {v : Value} {d : DataW H} {p : List MemPlace} (hagg : ∃ cs, v = .agg cs ∧ cs.size = Try.prog.cellsOf 26) (h : DataW.Trod enc Try.prog w base spare held 26 v d p) :
    ∃ b : BD, v = b.val ∧ b.rd w := by
  obtain ⟨cs, rfl, hsz⟩ := hagg
  rw [show Try.prog.cellsOf 26 = 7 by kernel_rfl] at hsz
  obtain ⟨fuel, hf⟩ := h
  obtain ⟨l⟩ := cs
  obtain ⟨ys, m, _, _, hlen, hyl, hff⟩ := DataW.trod_struct Try.underlying26 hf
  have hyl : ys.length = 5 := hyl
  match l, hsz with
  | [v0, v1, v2, v3, v4, v5, v6], _ =>
    obtain ⟨y0, e0⟩ := some_of hyl (show 0 < 5 by omega)
    obtain ⟨y1, e1⟩ := some_of hyl (show 1 < 5 by omega)
    obtain ⟨y2, e2⟩ := some_of hyl (show 2 < 5 by omega)
    obtain ⟨y3, e3⟩ := some_of hyl (show 3 < 5 by omega)
    obtain ⟨y4, e4⟩ := some_of hyl (show 4 < 5 by omega)
    have t0 : DataW.trod enc Try.prog w base spare held m 22 ((List.drop 0 [v0, v1, v2, v3, v4, v5, v6]).take (Try.prog.cellsOf 22)) = some y0 := (hff 0 _ rfl).trans e0
    have t1 : DataW.trod enc Try.prog w base spare held m 22 ((List.drop 1 [v0, v1, v2, v3, v4, v5, v6]).take (Try.prog.cellsOf 22)) = some y1 := (hff 1 _ rfl).trans e1
    have t2 : DataW.trod enc Try.prog w base spare held m 3 ((List.drop 2 [v0, v1, v2, v3, v4, v5, v6]).take (Try.prog.cellsOf 3)) = some y2 := (hff 2 _ rfl).trans e2
    have t3 : DataW.trod enc Try.prog w base spare held m 24 ((List.drop 3 [v0, v1, v2, v3, v4, v5, v6]).take (Try.prog.cellsOf 24)) = some y3 := (hff 3 _ rfl).trans e3
    have t4 : DataW.trod enc Try.prog w base spare held m 24 ((List.drop 5 [v0, v1, v2, v3, v4, v5, v6]).take (Try.prog.cellsOf 24)) = some y4 := (hff 4 _ rfl).trans e4
    rw [c22] at t0 t1
    rw [c3] at t2
    rw [c24] at t3 t4
    obtain ⟨A, n, c, f, rfl, s1, m1⟩ := row_of v0 _ _ t0
    obtain ⟨C, n', c', f', rfl, s2, m2⟩ := row_of v1 _ _ t1
    obtain ⟨q2, rfl⟩ := int_of v2 _ _ t2
    obtain ⟨q3, q4, rfl, rfl⟩ := span_of v3 v4 _ _ t3
    obtain ⟨q5, q6, rfl, rfl⟩ := span_of v5 v6 _ _ t4
    exact ⟨⟨A, n, c, C, n', c', f, f', q2, q3, q4, q5, q6⟩, rfl, s1, s2, m1, m2⟩

theorem open_use {v : Value} {d : DataW H} {p : List MemPlace} (hagg : ∃ cs, v = .agg cs ∧ cs.size = Try.prog.cellsOf 35) (h : DataW.Trod enc Try.prog w base spare held 35 v d p) :
    ∃ lo hi s g lim, v = .agg #[.int .i64 lo, .int .i64 hi, .int .i64 s, .bool g, .int .i64 lim] := by
  obtain ⟨cs, rfl, hsz⟩ := hagg
  rw [show Try.prog.cellsOf 35 = 5 by kernel_rfl] at hsz
  obtain ⟨fuel, hf⟩ := h
  obtain ⟨l⟩ := cs
  obtain ⟨ys, m, _, _, hlen, hyl, hff⟩ := DataW.trod_struct Try.underlying35 hf
  have hyl : ys.length = 4 := hyl
  match l, hsz with
  | [v0, v1, v2, v3, v4], _ =>
    obtain ⟨y0, e0⟩ := some_of hyl (show 0 < 4 by omega)
    obtain ⟨y1, e1⟩ := some_of hyl (show 1 < 4 by omega)
    obtain ⟨y2, e2⟩ := some_of hyl (show 2 < 4 by omega)
    obtain ⟨y3, e3⟩ := some_of hyl (show 3 < 4 by omega)
    have t0 : DataW.trod enc Try.prog w base spare held m 24 ((List.drop 0 [v0, v1, v2, v3, v4]).take (Try.prog.cellsOf 24)) = some y0 := (hff 0 _ rfl).trans e0
    have t1 : DataW.trod enc Try.prog w base spare held m 3 ((List.drop 2 [v0, v1, v2, v3, v4]).take (Try.prog.cellsOf 3)) = some y1 := (hff 1 _ rfl).trans e1
    have t2 : DataW.trod enc Try.prog w base spare held m 4 ((List.drop 3 [v0, v1, v2, v3, v4]).take (Try.prog.cellsOf 4)) = some y2 := (hff 2 _ rfl).trans e2
    have t3 : DataW.trod enc Try.prog w base spare held m 3 ((List.drop 4 [v0, v1, v2, v3, v4]).take (Try.prog.cellsOf 3)) = some y3 := (hff 3 _ rfl).trans e3
    rw [c24] at t0
    rw [c3] at t1 t3
    rw [c4] at t2
    obtain ⟨q0, q1, rfl, rfl⟩ := span_of v0 v1 _ _ t0
    obtain ⟨q2, rfl⟩ := int_of v2 _ _ t1
    obtain ⟨q3, rfl⟩ := bool_of v3 _ _ t2
    obtain ⟨q4, rfl⟩ := int_of v4 _ _ t3
    exact ⟨q0, q1, q2, q3, q4, rfl⟩
end
end Go.Proofs.Ytgcjjnmdbdllhaa
