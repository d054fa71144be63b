/- A list of reservations that the call itself has made: made, copied into, written, cut. -/
import Derived.Test.YtmfkkmonedgdnaaRA
import Derived.Laws.CopyRow
import Derived.Laws.MakeOwn
import Derived.Laws.CopyOwn
import Derived.OwnWalk
namespace Go.Proofs.Ytmfkkmonedgdnaa
open Go.RowKit
set_option linter.unusedVariables false

/-- the cells of n reservations -/
def flatC (n : Nat) (g : Nat → Nat → Int) : List Value := (List.range (n * 5)).map fun q => .int .i64 (g (q / 5) (q % 5))
theorem flatC_len (n : Nat) (g : Nat → Nat → Int) : (flatC n g).length = n * 5 := by simp [flatC]
theorem flatC_get (n : Nat) (g : Nat → Nat → Int) (q : Nat) (h : q < n * 5) : (flatC n g)[q]? = some (.int .i64 (g (q / 5) (q % 5))) := by simp [flatC, h]
theorem flatC_at (n : Nat) (g : Nat → Nat → Int) (i j : Nat) (hi : i < n) (hj : j < 5) : (flatC n g)[i * 5 + j]? = some (.int .i64 (g i j)) := by
  rw [flatC_get n g _ (by omega), show (i * 5 + j) / 5 = i by omega, show (i * 5 + j) % 5 = j by omega]
theorem flatC_ext {n : Nat} {l : List Value} {g : Nat → Nat → Int} (hl : l.length = n * 5) (h : ∀ i j, i < n → j < 5 → l[i * 5 + j]? = some (.int .i64 (g i j))) : l = flatC n g := by
  apply List.ext_getElem?
  intro q
  by_cases hq : q < n * 5
  · rw [flatC_get n g q hq]
    have := h (q / 5) (q % 5) (by omega) (by omega)
    rw [show q / 5 * 5 + q % 5 = q by omega] at this
    exact this
  · rw [List.getElem?_eq_none (by omega), List.getElem?_eq_none (by rw [flatC_len]; omega)]

/-- the block p (from B on) is the call's own and holds n reservations -/
structure OwnF (w : World) (B p n : Nat) (g : Nat → Nat → Int) : Prop where
  lo : B ≤ p
  out : w.heap[p]? = some (.cells (flatC n g).toArray 26 (0, 0))
theorem OwnF.lt {w : World} {B p n : Nat} {g : Nat → Nat → Int} (h : OwnF w B p n g) : p < w.heap.size := (Array.getElem?_eq_some_iff.1 h.out).1
theorem OwnF.bel {w w' : World} {B p n : Nat} {g : Nat → Nat → Int} (h : OwnF w B p n g) (hb : Below w.heap.size w w') : OwnF w' B p n g := ⟨h.lo, (hb.block p h.lt).trans h.out⟩
theorem OwnF.cell {w : World} {B p n : Nat} {g : Nat → Nat → Int} (h : OwnF w B p n g) (i j : Nat) (hi : i < n) (hj : j < 5) : w.cell? ⟨p, i * 5 + j, none⟩ = some (.int .i64 (g i j)) := by
  rw [cell_of_row _ _ _ _ _ _ h.out, List.getElem?_toArray]
  exact flatC_at n g i j hi hj
theorem OwnF.rd {w : World} {B p n : Nat} {g : Nat → Nat → Int} (h : OwnF w B p n g) : FlatRd w (some ⟨p, 0, none⟩) n 5 g := fun _ => ⟨p, 0, rfl, h.lt, fun i hi j hj => by rw [Nat.zero_add]; exact h.cell i j hi hj⟩
theorem OwnF.thaw {w : World} {B p n : Nat} {g : Nat → Nat → Int} (h : OwnF w B p n g) (q : Nat) : w.frozen? ⟨p, q, none⟩ = false := by simp [World.frozen?, h.out]
theorem OwnF.congr {w : World} {B p n : Nat} {g g' : Nat → Nat → Int} (h : OwnF w B p n g) (hg : ∀ i j, i < n → j < 5 → g i j = g' i j) : OwnF w B p n g' := by
  refine ⟨h.lo, ?_⟩
  rw [h.out, flatC_ext (flatC_len n g) (fun i j hi hj => by rw [flatC_at n g i j hi hj, hg i j hi hj])]
theorem OwnF.set {w : World} {B p n : Nat} {g : Nat → Nat → Int} (h : OwnF w B p n g) (i j q : Nat) (hi : i < n) (hj : j < 5) (hq : q = i * 5 + j) (v : Int) :
    OwnF (w.setCell ⟨p, q, none⟩ (.int .i64 v)) B p n (fun i' j' => if i' = i ∧ j' = j then v else g i' j') := by
  subst hq
  refine ⟨h.lo, ?_⟩
  have hset : (flatC n g).toArray.setIfInBounds (i * 5 + j) (.int .i64 v) = (flatC n (fun i' j' => if i' = i ∧ j' = j then v else g i' j')).toArray := by
    refine Array.toList_inj.1 ?_
    rw [Array.toList_setIfInBounds]
    have hlen := flatC_len n g
    rw [List.toList_toArray, List.toList_toArray]
    refine flatC_ext ?_ ?_
    · rw [List.length_set]; exact hlen
    intro i' j' hi' hj'
    by_cases he : i' = i ∧ j' = j
    · obtain ⟨rfl, rfl⟩ := he
      rw [List.getElem?_set_self (by show i' * 5 + j' < (flatC n g).length; omega)]
      simp
    · rw [List.getElem?_set_ne (by omega)]
      simp only [he, if_false]
      exact flatC_at n g i' j' hi' hj'
  rw [setCell_eq_setRow w p (i * 5 + j) _ 26 (0, 0) _ h.out, setRow_heap w p _ _ 26 _ h.out, hset]

theorem zero_flat (n : Nat) : (madeCells #[.int .i64 0, .int .i64 0, .int .i64 0, .int .i64 0, .int .i64 0] (n * 5)) = (flatC n (fun _ _ => 0)).toArray := by
  refine Array.toList_inj.1 ?_
  apply List.ext_getElem?
  intro q
  by_cases hq : q < n * 5
  · rw [flatC_get _ _ _ hq]
    have h5 : q % 5 < 5 := Nat.mod_lt _ (by omega)
    simp only [madeCells, Array.toList_map, Array.toList_range, List.getElem?_map, List.getElem?_range hq, Option.map_some]
    generalize q % #[Value.int IntKind.i64 0, .int .i64 0, .int .i64 0, .int .i64 0, .int .i64 0].size = m at *
    have hm : m < 5 ∨ 5 ≤ m := by omega
    match m with
    | 0 => rfl
    | 1 => rfl
    | 2 => rfl
    | 3 => rfl
    | 4 => rfl
    | m + 5 => omega
  · rw [List.getElem?_eq_none (by simp [madeCells]; omega), List.getElem?_eq_none (by rw [flatC_len]; omega)]

def IsHold (P : Program) (e : TypeId) : Prop := (P.info? e).map (fun i => (i.zero, i.size, i.bytes)) = some (some (.agg #[.int .i64 0, .int .i64 0, .int .i64 0, .int .i64 0, .int .i64 0]), 5, 40)
theorem isHold : IsHold Try.prog 26 := by unfold IsHold; kernel_rfl

/-- make([]Hold, n) -/
theorem run_mk_hold (w : World) (n : Nat) (hn : n ≤ 1000000) : (Instr.makeSlice 22 (.int .i64 (n : Int)) (.int .i64 (n : Int))).run Try.prog w = .ok (.slice (some ⟨w.heap.size, 0, none⟩) n n) (w.alloc (.cells (flatC n (fun _ _ => 0)).toArray 26)) := by
  obtain ⟨i0, hi, hz0, hz1, hz2⟩ := info_parts isHold
  have hr := run_make (P := Try.prog) w 22 26 i0 _ Try.underlying22 hi hz0 .i64 .i64 (n : Int) (n : Int) (by omega) (Int.le_refl _) (by rw [hz2]; omega) (by omega)
  rw [hr, hz1]
  simp only [Int.toNat_natCast]
  rw [← zero_flat]
  rfl
theorem OwnF.made (w : World) (B n : Nat) (hB : B ≤ w.heap.size) : OwnF (w.alloc (.cells (flatC n (fun _ _ => 0)).toArray 26)) B w.heap.size n (fun _ _ => 0) := ⟨hB, heap_alloc_new w _⟩

/-- copy(dst, src): dst the call's own, from its m-th on; r rows of src are read as h says -/
theorem run_copy_hold (w : World) (ty B p n : Nat) (g h : Nat → Nat → Int) (hown : OwnF w B p n g) (m r dLen dCap sLen sCap : Nat) (sp : Option Addr) (hr : Nat.min sLen dLen = r) (hm : m + r ≤ n)
    (hs : FlatRd w sp r 5 h) (hs0 : r = 0 → sp = none ∨ ∃ ad, sp = some ad) :
    ∃ w', (Builtin.copy_ #[22, 22] ty #[.slice (some ⟨p, m * 5, none⟩) dLen dCap, .slice sp sLen sCap]).run Try.prog w = .ok (goInt r) w' ∧ OwnF w' B p n (fun i j => if m ≤ i ∧ i < m + r then h (i - m) j else g i j) ∧ Below B w w' := by
  obtain ⟨i0, hi, hz0, hz1, hz2⟩ := info_parts isHold
  by_cases hr0 : r = 0
  · subst hr0
    refine ⟨w, ?_, hown.congr (fun i j _ _ => by rw [if_neg (by omega)]), Below.refl _ _⟩
    rcases hs0 rfl with rfl | ⟨ad, rfl⟩
    · simp [Builtin.copy_, run_underlying Try.underlying22, Builtin.lenOf, Builtin.firstCells, sizeOf, typeInfo, hi, hz1, hr, storeCells]
    · have hl := run_loadCells_list (P := Try.prog) w ad [] (fun j v hv => by simp at hv)
      simp only [List.length_nil] at hl
      simp [Builtin.copy_, run_underlying Try.underlying22, Builtin.lenOf, Builtin.firstCells, sizeOf, typeInfo, hi, hz1, hr, storeCells, hl]
  · obtain ⟨b, o, rfl, hbw, hc⟩ := hs (by omega)
    have hcl : (flatC r h).length = r * 5 := flatC_len r h
    have hl := run_loadCells_list (P := Try.prog) w ⟨b, o, none⟩ (flatC r h) (fun j v hv => by
      have hj : j < r * 5 := by rw [← hcl]; exact (List.getElem?_eq_some_iff.1 hv).1
      rw [flatC_get r h j hj] at hv
      injection hv with hv
      subst hv
      have := hc (j / 5) (by omega) (j % 5) (by omega)
      rw [show o + j / 5 * 5 + j % 5 = o + j by omega] at this
      by_cases hj0 : j = 0
      · subst hj0; simpa [Addr.add] using this
      · simpa [Addr.add, hj0] using this)
    rw [hcl] at hl
    have hst := run_storeCells_at Try.prog p (m * 5) 26 (flatC r h) 0 (flatC n g).toArray w hown.out (by rw [hcl]; simp [flatC_len]; omega) (fun v hv => by
      obtain ⟨q, _, rfl⟩ := List.mem_map.1 hv; rfl)
    have heq : List.take (m * 5 + 0) (flatC n g).toArray.toList ++ flatC r h ++ List.drop (m * 5 + 0 + (flatC r h).length) (flatC n g).toArray.toList = flatC n (fun i j => if m ≤ i ∧ i < m + r then h (i - m) j else g i j) := by
      have hng := flatC_len n g
      refine flatC_ext (by simp [hcl, hng]; omega) (fun i j hi' hj' => ?_)
      simp only [Nat.add_zero, hcl]
      by_cases h1 : i < m
      · rw [List.append_assoc, List.getElem?_append_left (by simp [hng]; omega), List.getElem?_take, if_pos (by omega), if_neg (by omega)]
        exact flatC_at n g i j hi' hj'
      · by_cases h2 : i < m + r
        · rw [List.append_assoc, List.getElem?_append_right (by simp [hng]; omega), List.getElem?_append_left (by simp [hcl, hng]; omega), if_pos ⟨by omega, h2⟩]
          have : i * 5 + j - (List.take (m * 5) (flatC n g)).length = (i - m) * 5 + j := by simp [hng]; omega
          rw [this]
          exact flatC_at r h (i - m) j (by omega) hj'
        · rw [List.getElem?_append_right (by simp [hcl, hng]; omega), if_neg (by omega), List.getElem?_drop]
          have : m * 5 + r * 5 + (i * 5 + j - (List.take (m * 5) (flatC n g) ++ flatC r h).length) = i * 5 + j := by simp [hcl, hng]; omega
          rw [this]
          exact flatC_at n g i j hi' hj'
    rw [heq] at hst
    refine ⟨w.setRow p (flatC n (fun i j => if m ≤ i ∧ i < m + r then h (i - m) j else g i j)).toArray, ?_, ⟨hown.lo, setRow_heap w p _ _ 26 _ hown.out⟩, below_setRow (Below.refl B w) hown.lo _⟩
    simp [Builtin.copy_, run_underlying Try.underlying22, Builtin.lenOf, Builtin.firstCells, sizeOf, typeInfo, hi, hz1, hr, hl, hst]
end Go.Proofs.Ytmfkkmonedgdnaa
