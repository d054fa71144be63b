/- Plain laws of the common part. -/
import Derived.Test.YtgcjjnmdbdllhaaBH
import Derived.Test.YtgcjjnmdbdllhaaBI
namespace Go.Proofs.Ytgcjjnmdbdllhaa
open Go.RowKit
theorem me_comm (a0 a1 b0 b1 : Int) : meE b0 b1 a0 a1 = meE a0 a1 b0 b1 ∧ meLo b0 b1 a0 a1 = meLo a0 a1 b0 b1 ∧ meHi b0 b1 a0 a1 = meHi a0 a1 b0 b1 := by
  have h : meE b0 b1 a0 a1 = meE a0 a1 b0 b1 := by
    by_cases h1 : spP a0 a1 ∧ spP b0 b1
    · unfold meE; rw [if_pos h1, if_pos h1.symm, Int.max_comm b0, Int.min_comm b1]
    · unfold meE; rw [if_neg h1, if_neg (fun x => h1 x.symm)]
  refine ⟨h, ?_, ?_⟩
  · unfold meLo; rw [h, Int.max_comm b0]
  · unfold meHi; rw [h, Int.min_comm b1]
theorem me_bad {a0 a1 b0 b1 : Int} (h : ¬ (spP a0 a1 ∧ spP b0 b1)) : meE a0 a1 b0 b1 = 1 ∧ meLo a0 a1 b0 b1 = 0 ∧ meHi a0 a1 b0 b1 = 0 := by
  have e : meE a0 a1 b0 b1 = 1 := if_neg h
  exact ⟨e, by unfold meLo; rw [e]; rfl, by unfold meHi; rw [e]; rfl⟩
theorem me_emp {a0 a1 b0 b1 : Int} (h : spP a0 a1 ∧ spP b0 b1) (h2 : min a1 b1 < max a0 b0) : meE a0 a1 b0 b1 = 10 ∧ meLo a0 a1 b0 b1 = 0 ∧ meHi a0 a1 b0 b1 = 0 := by
  have e : meE a0 a1 b0 b1 = 10 := by unfold meE; rw [if_pos h, if_pos h2]
  exact ⟨e, by unfold meLo; rw [e]; rfl, by unfold meHi; rw [e]; rfl⟩
theorem me_ok {a0 a1 b0 b1 : Int} (h : spP a0 a1 ∧ spP b0 b1) (h2 : ¬ min a1 b1 < max a0 b0) : meE a0 a1 b0 b1 = 0 ∧ meLo a0 a1 b0 b1 = max a0 b0 ∧ meHi a0 a1 b0 b1 = min a1 b1 := by
  have e : meE a0 a1 b0 b1 = 0 := by unfold meE; rw [if_pos h, if_neg h2]
  exact ⟨e, by unfold meLo; rw [e]; rfl, by unfold meHi; rw [e]; rfl⟩

/-- one span's block loaded in a region that draws, beside calls that make memory -/
theorem keep1 {w X Y : World} {L : List (Nat × Array Value)} {q : Nat} {x y : Int} (h : X.cell? ⟨q, 0, none⟩ = some (.int .i64 x) ∧ X.cell? ⟨q, 1, none⟩ = some (.int .i64 y) ∧ Sg w ((q, #[.int .i64 x, .int .i64 y]) :: L) X) (hb : Below X.heap.size X Y) :
    Y.cell? ⟨q, 0, none⟩ = some (.int .i64 x) ∧ Y.cell? ⟨q, 1, none⟩ = some (.int .i64 y) ∧ Sg w ((q, #[.int .i64 x, .int .i64 y]) :: L) Y := by
  have hs := h.2.2.bel hb
  exact ⟨(cellsK2 hs.hd.2).1, (cellsK2 hs.hd.2).2, hs⟩
theorem keep1_drew {w X : World} {L : List (Nat × Array Value)} {q : Nat} {x y : Int} (h : Sg w ((q, #[.int .i64 x, .int .i64 y]) :: L) X) :
    X.drew.cell? ⟨q, 0, none⟩ = some (.int .i64 x) ∧ X.drew.cell? ⟨q, 1, none⟩ = some (.int .i64 y) ∧ Sg w ((q, #[.int .i64 x, .int .i64 y]) :: L) X.drew := by
  have hs := h.drew
  exact ⟨(cellsK2 hs.hd.2).1, (cellsK2 hs.hd.2).2, hs⟩
end Go.Proofs.Ytgcjjnmdbdllhaa
