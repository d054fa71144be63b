/- The blocks that a law's walk has laid, and that nothing writes. -/
import Derived.Test.YtgcjjnmdbdllhaaBA
namespace Go.Proofs.Ytgcjjnmdbdllhaa
open Go.RowKit
set_option linter.unusedVariables false

/-- w0 is below w, and the blocks of L hold in w what L says -/
structure Sg (w0 : World) (L : List (Nat × Array Value)) (w : World) : Prop where
  b : Below w0.heap.size w0 w
  k : ∀ t ∈ L, t.1 < w.heap.size ∧ ∀ i, w.cell? ⟨t.1, i, none⟩ = t.2[i]?
theorem Sg.start (w : World) : Sg w [] w := ⟨Below.refl _ _, fun t ht => nomatch ht⟩
theorem Sg.bel {w0 w w' : World} {L : List (Nat × Array Value)} (h : Sg w0 L w) (hb : Below w.heap.size w w') : Sg w0 L w' :=
  ⟨h.b.trans (hb.mono h.b.size), fun t ht => ⟨Nat.lt_of_lt_of_le (h.k t ht).1 hb.size, fun i => (hb.cell (p := ⟨t.1, i, none⟩) (h.k t ht).1).trans ((h.k t ht).2 i)⟩⟩
theorem Sg.alloc {w0 w : World} {L : List (Nat × Array Value)} (h : Sg w0 L w) (o : Obj) : Sg w0 L (w.alloc o) := h.bel (box_bel w o)
theorem Sg.drew {w0 w : World} {L : List (Nat × Array Value)} (h : Sg w0 L w) : Sg w0 L w.drew := h.bel (Below.refl _ _).drew
theorem Sg.drewN {w0 w : World} {L : List (Nat × Array Value)} (h : Sg w0 L w) (n : Nat) : Sg w0 L (w.drewN n) := ⟨⟨h.b.os, h.b.tape, h.b.output, h.b.size, h.b.block⟩, h.k⟩
theorem Sg.new {w0 w : World} {L : List (Nat × Array Value)} (h : Sg w0 L w) (q : Nat) (hq : q = w.heap.size) (cs : Array Value) (t : TypeId) : Sg w0 ((q, cs) :: L) (w.alloc (.cells cs t)) :=
  ⟨(h.alloc _).b, fun t' ht => by
    rcases List.mem_cons.1 ht with rfl | ht
    · subst hq; exact ⟨by simp, fun i => new_cell w cs t i⟩
    · exact (h.alloc _).k t' ht⟩
theorem Sg.hd {w0 w : World} {p : Nat} {cs : Array Value} {L : List (Nat × Array Value)} (h : Sg w0 ((p, cs) :: L) w) : p < w.heap.size ∧ ∀ i, w.cell? ⟨p, i, none⟩ = cs[i]? := h.k (p, cs) (List.mem_cons_self ..)
theorem Sg.tl {w0 w : World} {p : Nat × Array Value} {L : List (Nat × Array Value)} (h : Sg w0 (p :: L) w) : Sg w0 L w := ⟨h.b, fun t ht => h.k t (List.mem_cons_of_mem _ ht)⟩

theorem cellsK2 {w : World} {m : Nat} {x y : Value} (ka : ∀ i, w.cell? ⟨m, i, none⟩ = (#[x, y] : Array Value)[i]?) : w.cell? ⟨m, 0, none⟩ = some x ∧ w.cell? ⟨m, 1, none⟩ = some y := ⟨ka 0, ka 1⟩
theorem cellsK3 {w : World} {m : Nat} {x y z : Value} (ka : ∀ i, w.cell? ⟨m, i, none⟩ = (#[x, y, z] : Array Value)[i]?) : w.cell? ⟨m, 0, none⟩ = some x ∧ w.cell? ⟨m, 1, none⟩ = some y ∧ w.cell? ⟨m, 2, none⟩ = some z := ⟨ka 0, ka 1, ka 2⟩
theorem cellsK5 {w : World} {m : Nat} {x y z u v : Value} (ka : ∀ i, w.cell? ⟨m, i, none⟩ = (#[x, y, z, u, v] : Array Value)[i]?) : w.cell? ⟨m, 0, none⟩ = some x ∧ w.cell? ⟨m, 1, none⟩ = some y ∧ w.cell? ⟨m, 2, none⟩ = some z ∧ w.cell? ⟨m, 3, none⟩ = some u ∧ w.cell? ⟨m, 4, none⟩ = some v := ⟨ka 0, ka 1, ka 2, ka 3, ka 4⟩
theorem cellsK7 {w : World} {m : Nat} {x y z u v s t : Value} (ka : ∀ i, w.cell? ⟨m, i, none⟩ = (#[x, y, z, u, v, s, t] : Array Value)[i]?) : w.cell? ⟨m, 0, none⟩ = some x ∧ w.cell? ⟨m, 1, none⟩ = some y ∧ w.cell? ⟨m, 2, none⟩ = some z ∧ w.cell? ⟨m, 3, none⟩ = some u ∧ w.cell? ⟨m, 4, none⟩ = some v ∧ w.cell? ⟨m, 5, none⟩ = some s ∧ w.cell? ⟨m, 6, none⟩ = some t := ⟨ka 0, ka 1, ka 2, ka 3, ka 4, ka 5, ka 6⟩
end Go.Proofs.Ytgcjjnmdbdllhaa
