/- A slice of integers that the call itself has made (make), read and written by its places. -/
import Derived.Test.YtdallemhhdfemaaBase
import Derived.Laws.OwnMore
import Derived.OwnWalk
namespace Go.Proofs.Ytdallemhhdfemaa
open Go.RowKit

theorem cellsI_zero (n : Nat) : List.replicate n (Value.int .i64 0) = cellsI n (fun _ => 0) := by
  apply List.ext_getElem?
  intro j
  by_cases hj : j < n
  · simp [cellsI, hj]
  · simp [cellsI, hj]
theorem cellsI_set (n : Nat) (f : Nat → Int) (j : Nat) (y : Int) : (cellsI n f).set j (.int .i64 y) = cellsI n (fun i => if i = j then y else f i) := by
  apply List.ext_getElem?
  intro i
  by_cases hi : i < n
  · by_cases hij : i = j
    · subst hij; rw [cellsI_get _ _ _ hi, List.getElem?_set_self (by simpa [cellsI] using hi), if_pos rfl]
    · rw [cellsI_get _ _ _ hi, List.getElem?_set_ne (fun e => hij e.symm), cellsI_get _ _ _ hi, if_neg hij]
  · rw [List.getElem?_eq_none (by simp [cellsI]; omega), List.getElem?_eq_none (by simp [cellsI]; omega)]

/-- make([]int, n) -/
theorem mk_int {P : Program} (w : World) {ops : Array Oper} {rest : List Oper} {o : Oper} {a : Act} {Q : Exit → Act → World → Prop} (hg : o.guard = none) (l c : Operand) (t : TypeId)
    (hop : o.op = Op.makeSlice t l c) {e : TypeId} (ht : P.underlying t = some (.slice e)) (he : IsInt P e) {B : Nat} (n : Nat) (hl : a.eval l = .int .i64 n) (hc : a.eval c = .int .i64 n)
    (hn : n ≤ 1000000) (hB : B ≤ w.heap.size)
    (hK : ∀ w', OwnI w' B e (.slice (some ⟨w.heap.size, 0, none⟩) n n) n (fun _ => 0) → Below B w w' → wpList P ops Q rest (a.put o.dst (.slice (some ⟨w.heap.size, 0, none⟩) n n)) w') :
    wpList P ops Q (o :: rest) a w := by
  obtain ⟨i0, hi, hz0, hz1, hz2⟩ := info_parts he
  refine wpList_make_full w hg l c t hop B e i0 (.int .i64 0) 1 ht hi hz0 hz1 .i64 .i64 n n n hl hc rfl rfl (by rw [hz2]; omega) (by unfold maxLen; omega) hB ?_
  intro w' hown hgr
  refine hK w' ?_ ((Below.refl B w).grown (row := none) hgr hB (fun k hk => by cases hk))
  unfold OwnI
  rw [← cellsI_zero]
  have := toList_madeCells_one (.int .i64 0) (n * 1)
  rw [Nat.mul_one] at this hown
  rw [← this]
  exact hown

section
variable {w : World} {B e g n c : Nat} {f : Nat → Int}
theorem OwnI.read (h : OwnI w B e (.slice (some ⟨g, 0, none⟩) n c) n f) (j : Nat) (hj : j < n) : w.cell? ⟨g, j, none⟩ = some (.int .i64 (f j)) := by
  rw [World.ownsRow.cellAt h j (by omega), cellsI_get _ _ _ hj]
theorem OwnI.thaw (h : OwnI w B e (.slice (some ⟨g, 0, none⟩) n c) n f) (j : Nat) : w.frozen? ⟨g, j, none⟩ = false := World.ownsRow.frozenAt h j
theorem OwnI.ge (h : OwnI w B e (.slice (some ⟨g, 0, none⟩) n c) n f) : B ≤ g ∧ g < w.heap.size := h.lt g rfl
theorem OwnI.store (h : OwnI w B e (.slice (some ⟨g, 0, none⟩) n c) n f) (j : Nat) (y : Int) :
    OwnI (w.setCell ⟨g, j, none⟩ (.int .i64 y)) B e (.slice (some ⟨g, 0, none⟩) n c) n (fun i => if i = j then y else f i) := by
  unfold OwnI
  rw [← cellsI_set]
  exact (World.ownsRow.stored h j (.int .i64 y)).1
theorem OwnI.sl {A : Option Addr} (h : OwnI w B e (.slice A n c) n f) : SlI w A n f := by
  obtain ⟨A', c', e1, h2, _⟩ := h.form
  cases e1
  exact h2
end
end Go.Proofs.Ytdallemhhdfemaa
