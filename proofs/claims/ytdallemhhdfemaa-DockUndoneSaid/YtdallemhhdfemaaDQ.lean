/- The walk of the reference's copied. -/
import Derived.Test.YtdallemhhdfemaaDP
import Derived.Maps.AppendAt
import Derived.Deep.RegionHeld3
namespace Go.Proofs.Ytdallemhhdfemaa
open Go.RowKit
set_option maxHeartbeats 4000000
set_option maxRecDepth 100000
set_option linter.unusedVariables false

abbrev E3 : Obj := .cells #[] 3
abbrev E4 : Obj := .cells #[] 4
theorem own_empty {w : World} {B q e : Nat} (hE : w.heap[q]? = some (.cells #[] e (0, 0))) (hq : B ≤ q) : w.ownsRow B e 1 (.slice (some ⟨q, 0, none⟩) 0 0) 0 [] :=
  ⟨rfl, .inr ⟨q, 0, #[], rfl, hq, hE, Nat.le_refl _, Nat.zero_le _, rfl, rfl⟩⟩
theorem own_blk {w : World} {B e e' s n q : Nat} {v : Value} {xs : List Value} {cs : Array Value} {fr : Nat × Nat} (h : w.ownsRow B e s v n xs) (hq : w.heap[q]? = some (.cells cs e' fr)) (hne : e ≠ e') : v.ownBlock ≠ some q := by
  rcases h.2 with ⟨rfl, _⟩ | ⟨g, cap, cur, rfl, _, hg, _⟩
  · simp [Value.ownBlock]
  · intro he
    have : g = q := by simpa [Value.ownBlock] using he
    subst this
    rw [hg] at hq
    injection hq with hq
    injection hq with _ ht
    exact hne ht

theorem run_cp_int (w : World) (ty : TypeId) {B q n c : Nat} {A : Option Addr} {f : Nat → Int} (hE : w.heap[q]? = some E3) (hq : B ≤ q) (hr : SlI w A n f) (h1 : 1 ≤ n) (h2 : n ≤ 32) (hB : B ≤ w.heap.size) :
    ∃ v' w', (Builtin.append_ #[28, 28] ty #[.slice (some ⟨q, 0, none⟩) 0 0, .slice A n c]).run Try.prog w = .ok v' w' ∧ OwnI w' B 3 v' n f ∧ w.grownBy w' (some q) := by
  obtain ⟨i0, hi, hz0, hz1, hz2⟩ := info_parts isInt3
  obtain ⟨b, o, rfl, hbw, hc⟩ := hr h1
  obtain ⟨v', w', hrun, ho, hg, _, _⟩ := run_append_own_at (P := Try.prog) w B 28 ty 3 i0 _ 1 8 Try.underlying28 hi hz0 hz1 hz2 rfl (by omega) _ 0 [] (own_empty hE hq) ⟨b, o, none⟩ n c (cellsI n f) (by rw [cellsI_len, Nat.mul_one]) (fun j u hj => by
    have hjn : j < n := by have := (List.getElem?_eq_some_iff.1 hj).1; rwa [cellsI_len] at this
    rw [cellsI_get n f j hjn] at hj
    injection hj with hj
    subst hj
    have := hc j hjn
    by_cases hj0 : j = 0
    · subst hj0; simpa [Addr.add] using this
    · simpa [Addr.add, hj0] using this) (fun u hu => by obtain ⟨q, _, rfl⟩ := List.mem_map.1 hu; rfl) (by unfold maxLen; omega) (by omega) hB
  refine ⟨v', w', hrun, ?_, hg⟩
  rw [Nat.zero_add, List.nil_append] at ho
  exact ho
theorem run_cp_bool (w : World) (ty : TypeId) {B q n c : Nat} {A : Option Addr} {f : Nat → Bool} (hE : w.heap[q]? = some E4) (hq : B ≤ q) (hr : SlB w A n f) (h1 : 1 ≤ n) (h2 : n ≤ 32) (hB : B ≤ w.heap.size) :
    ∃ v' w', (Builtin.append_ #[29, 29] ty #[.slice (some ⟨q, 0, none⟩) 0 0, .slice A n c]).run Try.prog w = .ok v' w' ∧ OwnB w' B 4 v' n f ∧ w.grownBy w' (some q) := by
  obtain ⟨i0, hi, hz0, hz1, hz2⟩ := info_parts isBool4
  obtain ⟨b, o, rfl, hbw, hc⟩ := hr h1
  obtain ⟨v', w', hrun, ho, hg, _, _⟩ := run_append_own_at (P := Try.prog) w B 29 ty 4 i0 _ 1 1 Try.underlying29 hi hz0 hz1 hz2 rfl (by omega) _ 0 [] (own_empty hE hq) ⟨b, o, none⟩ n c (cellsB n f) (by rw [cellsB_len, Nat.mul_one]) (fun j u hj => by
    have hjn : j < n := by have := (List.getElem?_eq_some_iff.1 hj).1; rwa [cellsB_len] at this
    rw [cellsB_get n f j hjn] at hj
    injection hj with hj
    subst hj
    have := hc j hjn
    by_cases hj0 : j = 0
    · subst hj0; simpa [Addr.add] using this
    · simpa [Addr.add, hj0] using this) (fun u hu => by obtain ⟨q, _, rfl⟩ := List.mem_map.1 hu; rfl) (by unfold maxLen; omega) (by omega) hB
  refine ⟨v', w', hrun, ?_, hg⟩
  rw [Nat.zero_add, List.nil_append] at ho
  exact ho
theorem grown_q {B q : Nat} {w w' : World} (hg : w.grownBy w' (some q)) (hB : B ≤ w.heap.size) (hq : B ≤ q) : Below B w w' := (Below.refl B w).grown hg hB (fun k hk => by injection hk with hk; omega)

theorem step_ci {ops : Array Oper} {o : Oper} {a : Act} {w : World} {K : Act → World → Prop} {Q : Exit → Act → World → Prop} {E : Prop} (z : Operand) (V : Value) (hz : a.eval z = V) (hgd : o.guard = none) (s x : Operand)
    (ho : o.op = .call { callee := .builtin .append, args := #[s, x], argTypes := #[28, 28] }) {B q n c : Nat} {A : Option Addr} {f : Nat → Int} (hs : a.eval s = .slice (some ⟨q, 0, none⟩) 0 0) (hE : w.heap[q]? = some E3) (hq : B ≤ q)
    (hx : a.eval x = .slice A n c) (hr : SlI w A n f) (h1 : 1 ≤ n) (h2 : n ≤ 32) (hB : B ≤ w.heap.size)
    (hK : ∀ A' c' w', OwnI w' B 3 (.slice A' n c') n f → Below B w w' → w.grownBy w' (some q) → K (a.put o.dst (.slice A' n c')) w') :
    if Region.wanted o (yielded ops a.tmps) = true then Oper.wp Try.prog o a w K Q else E := by
  have hw : Region.wanted o (yielded ops a.tmps) = true := by simp [Region.wanted, hgd]
  rw [if_pos hw]
  obtain ⟨v', w', hrun, k1, k2⟩ := run_cp_int w o.type (c := c) hE hq hr h1 h2 hB
  obtain ⟨A', c', rfl, _⟩ := k1.form
  unfold Oper.wp execOp
  simp only [ho, resolve, invoke, builtin, Sem.run_bind, Sem.run_pure, Result.andThen_ok, List.map_toArray, List.map_cons, List.map_nil, hs, hx, hrun]
  exact hK A' c' w' k1 (grown_q k2 hB hq) k2
theorem step_cb {ops : Array Oper} {o : Oper} {a : Act} {w : World} {K : Act → World → Prop} {Q : Exit → Act → World → Prop} {E : Prop} (z : Operand) (V : Value) (hz : a.eval z = V) (hgd : o.guard = none) (s x : Operand)
    (ho : o.op = .call { callee := .builtin .append, args := #[s, x], argTypes := #[29, 29] }) {B q n c : Nat} {A : Option Addr} {f : Nat → Bool} (hs : a.eval s = .slice (some ⟨q, 0, none⟩) 0 0) (hE : w.heap[q]? = some E4) (hq : B ≤ q)
    (hx : a.eval x = .slice A n c) (hr : SlB w A n f) (h1 : 1 ≤ n) (h2 : n ≤ 32) (hB : B ≤ w.heap.size)
    (hK : ∀ A' c' w', OwnB w' B 4 (.slice A' n c') n f → Below B w w' → w.grownBy w' (some q) → K (a.put o.dst (.slice A' n c')) w') :
    if Region.wanted o (yielded ops a.tmps) = true then Oper.wp Try.prog o a w K Q else E := by
  have hw : Region.wanted o (yielded ops a.tmps) = true := by simp [Region.wanted, hgd]
  rw [if_pos hw]
  obtain ⟨v', w', hrun, k1, k2⟩ := run_cp_bool w o.type (c := c) hE hq hr h1 h2 hB
  obtain ⟨A', c', rfl, _⟩ := k1.form
  unfold Oper.wp execOp
  simp only [ho, resolve, invoke, builtin, Sem.run_bind, Sem.run_pure, Result.andThen_ok, List.map_toArray, List.map_cons, List.map_nil, hs, hx, hrun]
  exact hK A' c' w' k1 (grown_q k2 hB hq) k2

/-- what stays in the region -/
structure Big (w : World) (A : Option Addr) (c : Nat) (A' : Option Addr) (c' n : Nat) (X : World) : Prop where
  bp : X.heap[w.heap.size]? = some (rO A c A' c' n)
  bq : ∃ u u' : Value, X.heap[w.heap.size + 1]? = some (.cells #[u, u'] 31 (0, 0))
  sz : w.heap.size + 2 ≤ X.heap.size
  bel : Below w.heap.size w X
section
variable {w X Y : World} {A A' : Option Addr} {c c' n : Nat}
theorem Big.go (h : Big w A c A' c' n X) {B : Nat} (hb : Below B X Y) (hB : w.heap.size + 2 ≤ B) : Big w A c A' c' n Y := by
  obtain ⟨u, u', hq⟩ := h.bq
  exact ⟨(hb.block _ (by omega)).trans h.bp, ⟨u, u', (hb.block _ (by omega)).trans hq⟩, Nat.le_trans h.sz hb.size, h.bel.trans (hb.mono (by omega))⟩
theorem Big.set (h : Big w A c A' c' n X) (u u' : Value) : Big w A c A' c' n ((X.setCell ⟨w.heap.size + 1, 0, none⟩ u).setCell ⟨w.heap.size + 1, 1, none⟩ u') := by
  obtain ⟨v, v', hq⟩ := h.bq
  have h1 : (X.setCell ⟨w.heap.size + 1, 0, none⟩ u).heap[w.heap.size + 1]? = some (.cells #[u, v'] 31 (0, 0)) := by
    rw [setCell_eq_setRow X (w.heap.size + 1) 0 _ 31 (0, 0) _ hq, setRow_heap X (w.heap.size + 1) _ _ 31 _ hq]; rfl
  refine ⟨by rw [heap_set_ne (by simp), heap_set_ne (by simp)]; exact h.bp, ⟨u, u', ?_⟩, by rw [size_setCell, size_setCell]; exact h.sz, (h.bel.setCell (by simp) _).setCell (by simp) _⟩
  rw [setCell_eq_setRow _ (w.heap.size + 1) 1 _ 31 (0, 0) _ h1, setRow_heap _ (w.heap.size + 1) _ _ 31 _ h1]; rfl
theorem s33 (h : Big w A c A' c' n X) : X.cell? ⟨w.heap.size, 0, none⟩ = some (.slice A n c) ∧ X.cell? ⟨w.heap.size, 1, none⟩ = some (.slice A' n c') ∧ Big w A c A' c' n X := ⟨by rw [cell_of_row _ _ _ _ _ _ h.bp]; rfl, by rw [cell_of_row _ _ _ _ _ _ h.bp]; rfl, h⟩
theorem s33b (h : X.cell? ⟨w.heap.size, 0, none⟩ = some (.slice A n c) ∧ X.cell? ⟨w.heap.size, 1, none⟩ = some (.slice A' n c') ∧ Big w A c A' c' n X) : Big w A c A' c' n X := h.2.2
theorem s33_alloc (h : X.cell? ⟨w.heap.size, 0, none⟩ = some (.slice A n c) ∧ X.cell? ⟨w.heap.size, 1, none⟩ = some (.slice A' n c') ∧ Big w A c A' c' n X) (ob : Obj) : (X.alloc ob).cell? ⟨w.heap.size, 0, none⟩ = some (.slice A n c) ∧ (X.alloc ob).cell? ⟨w.heap.size, 1, none⟩ = some (.slice A' n c') ∧ Big w A c A' c' n (X.alloc ob) := s33 ((s33b h).go (box_bel X ob) (s33b h).sz)
theorem s33_below {B : Nat} (hb : Below B X Y) (hB : w.heap.size + 2 ≤ B) (h : X.cell? ⟨w.heap.size, 0, none⟩ = some (.slice A n c) ∧ X.cell? ⟨w.heap.size, 1, none⟩ = some (.slice A' n c') ∧ Big w A c A' c' n X) : Y.cell? ⟨w.heap.size, 0, none⟩ = some (.slice A n c) ∧ Y.cell? ⟨w.heap.size, 1, none⟩ = some (.slice A' n c') ∧ Big w A c A' c' n Y := s33 ((s33b h).go hb hB)
theorem s33_set (h : X.cell? ⟨w.heap.size, 0, none⟩ = some (.slice A n c) ∧ X.cell? ⟨w.heap.size, 1, none⟩ = some (.slice A' n c') ∧ Big w A c A' c' n X) (u u' : Value) : ((X.setCell ⟨w.heap.size + 1, 0, none⟩ u).setCell ⟨w.heap.size + 1, 1, none⟩ u').cell? ⟨w.heap.size, 0, none⟩ = some (.slice A n c) ∧ ((X.setCell ⟨w.heap.size + 1, 0, none⟩ u).setCell ⟨w.heap.size + 1, 1, none⟩ u').cell? ⟨w.heap.size, 1, none⟩ = some (.slice A' n c') ∧ Big w A c A' c' n ((X.setCell ⟨w.heap.size + 1, 0, none⟩ u).setCell ⟨w.heap.size + 1, 1, none⟩ u') := s33 ((s33b h).set u u')
end
/-- the copy: lists of its own -/
structure Own2 (w : World) (B : Nat) (A : Option Addr) (c : Nat) (A' : Option Addr) (c' n : Nat) (D : Dk) : Prop where
  i : OwnI w B 3 (.slice A n c) n (rb D)
  x : OwnB w B 4 (.slice A' n c') n D.x
theorem Own2.ofB {w4 w5 : World} {B q : Nat} {A A' : Option Addr} {c c' n : Nat} {D : Dk} (hi : OwnI w4 B 3 (.slice A n c) n (rb D)) (hE : w4.heap[q]? = some E4) (hg : w4.grownBy w5 (some q)) (hb : OwnB w5 B 4 (.slice A' n c') n D.x) : Own2 w5 B A c A' c' n D :=
  ⟨World.ownsRow.kept hi hg (.inr (own_blk hi hE (by decide))), hb⟩
theorem Own2.ofI {w4 w5 : World} {B q : Nat} {A A' : Option Addr} {c c' n : Nat} {D : Dk} (hb : OwnB w4 B 4 (.slice A' n c') n D.x) (hE : w4.heap[q]? = some E3) (hg : w4.grownBy w5 (some q)) (hi : OwnI w5 B 3 (.slice A n c) n (rb D)) : Own2 w5 B A c A' c' n D :=
  ⟨hi, World.ownsRow.kept hb hg (.inr (own_blk hb hE (by decide)))⟩
theorem Own2.set {w : World} {p q : Nat} {A A' : Option Addr} {c c' n : Nat} {D : Dk} (h : Own2 w (p + 2) A c A' c' n D) (u : Value) : Own2 (w.setCell ⟨p + 1, q, none⟩ u) (p + 2) A c A' c' n D :=
  ⟨own_heap h.i (fun g hg => heap_set_ne (by have := (World.ownsRow.lt h.i g hg).1; simp; omega)), own_heap h.x (fun g hg => heap_set_ne (by have := (World.ownsRow.lt h.x g hg).1; simp; omega))⟩
def CpPost (w0 : World) (n : Nat) (D : Dk) (e : Ending) (w' : World) : Prop := ∃ A c A' c', e = .returned (rV A c A' c' n) ∧ Own2 w' (w0.heap.size + 2) A c A' c' n D ∧ Below w0.heap.size w0 w'

theorem copied33 (A A' : Option Addr) (c c' n : Nat) (D : Dk) (w : World) (h : Rf w A A' n D) (h1 : 1 ≤ n) (h2 : n ≤ 32) :
    Calls Try.prog 33 #[rV A c A' c' n] w (CpPost w n D) := by
  have H := Lib.hid h
  clear h
  obtain ⟨w0, hw0⟩ : ∃ w0, w0 = (w.alloc (rO A c A' c' n)).alloc (.cells #[.slice none 0 0, .slice none 0 0] 31) := ⟨_, rfl⟩
  have hz : w0.heap.size = w.heap.size + 2 := by rw [hw0]; simp
  have hB : Big w A c A' c' n w0 := by
    subst hw0
    refine ⟨?_, ⟨.slice none 0 0, .slice none 0 0, ?_⟩, by simp, (box_bel w _).alloc (by simp) _⟩
    · rw [Below.heap_alloc _ _ _ (by simp)]; exact heap_alloc_new w _
    · have := heap_alloc_new (w.alloc (rO A c A' c' n)) (.cells #[.slice none 0 0, .slice none 0 0] 31)
      rw [alloc_size] at this
      exact this
  have HG := Lib.hid (s33 (hB.go (Below.refl w0.heap.size w0).drew (by omega)))
  have F1 := Lib.hid (heap_alloc_new w0 E3)
  have F1' := Lib.hid (heap_alloc_new w0 E4)
  have F2 := Lib.hid ((Below.heap_alloc (w0.alloc E3) E4 w0.heap.size (by simp)).trans F1.out)
  have F2' := Lib.hid ((Below.heap_alloc (w0.alloc E4) E3 w0.heap.size (by simp)).trans F1'.out)
  have F3 := Lib.hid (show ((w0.alloc E4).alloc E3).heap[w0.heap.size + 1]? = some E3 by have := heap_alloc_new (w0.alloc E4) E3; rwa [alloc_size] at this)
  have F3' := Lib.hid (show ((w0.alloc E3).alloc E4).heap[w0.heap.size + 1]? = some E4 by have := heap_alloc_new (w0.alloc E3) E4; rwa [alloc_size] at this)
  have z0 := Lib.hid (show w.heap.size + 2 ≤ w0.heap.size by omega)
  have z1 := Lib.hid (show w.heap.size + 2 ≤ w0.heap.size + 1 by omega)
  have HW := Lib.hid hw0
  clear hw0 hz hB
  go_enter Try.func33, Try.ntmps33
  go_wp2_with fail
  rw [← HW.out]
  have zA := Lib.hid (show w.heap.size + 2 ≤ (w0.alloc E3).heap.size by rw [alloc_size]; exact Nat.le_succ_of_le z0.out)
  have zB := Lib.hid (show w.heap.size + 2 ≤ ((w0.alloc E3).alloc E4).heap.size by rw [alloc_size]; exact Nat.le_succ_of_le zA.out)
  have zC := Lib.hid (show w.heap.size + 2 ≤ ((w0.alloc E4).alloc E3).heap.size by rw [alloc_size, alloc_size]; exact Nat.le_succ_of_le (Nat.le_succ_of_le z0.out))
  have y1 := Lib.hid (show w0.heap.size + 1 < ((w0.alloc E3).alloc E4).heap.size by rw [alloc_size, alloc_size]; exact Nat.lt_succ_self _)
  have y2 := Lib.hid (show w0.heap.size < ((w0.alloc E4).alloc E3).heap.size by rw [alloc_size, alloc_size]; exact Nat.lt_succ_of_lt (Nat.lt_succ_self _))
  go_region_held3 (fun X => X.cell? ⟨w.heap.size, 0, none⟩ = some (.slice A n c) ∧ X.cell? ⟨w.heap.size, 1, none⟩ = some (.slice A' n c') ∧ Big w A c A' c' n X) (first | exact HG.out | exact s33_alloc (by assumption) _ | exact s33_below (by assumption) (Nat.le_refl _) (by assumption) | exact s33_set (by assumption) _ _)
    (first
      | (refine step_ci (.tmp 7) undef rfl rfl (.tmp 3) (.tmp 5) rfl rfl F1.out z0.out rfl (H.out.i.bel (s33b (by assumption)).bel) h1 h2 zA.out ?_; intro A4 c4 w4 hown4 hb4 hg4; have Z4 := Lib.hid (Nat.le_trans zA.out hb4.size); have O4 := Lib.hid hown4; clear hown4 hg4)
      | (refine step_ci (.tmp 7) (.slice (some ⟨w0.heap.size + 1, 0, none⟩) 0 0) rfl rfl (.tmp 3) (.tmp 5) rfl rfl F2.out z0.out rfl (H.out.i.bel (s33b (by assumption)).bel) h1 h2 zB.out ?_; intro A4 c4 w4 hown4 hb4 hg4; have Z4 := Lib.hid (Nat.le_trans zB.out hb4.size); have O4 := Lib.hid hown4; have K4 := Lib.hid ((hg4.block (w0.heap.size + 1) y1.out (fun h => by have h2 : w0.heap.size + 1 = w0.heap.size := Option.some.inj h; omega)).trans F3'.out); clear hown4 hg4)
      | (refine step_ci (.tmp 7) (.slice (some ⟨w0.heap.size, 0, none⟩) 0 0) rfl rfl (.tmp 3) (.tmp 5) rfl rfl F3.out z1.out rfl (H.out.i.bel (s33b (by assumption)).bel) h1 h2 zC.out ?_; intro A4 c4 w4 hown4 hb4 hg4; have Z4 := Lib.hid (Nat.le_trans zC.out hb4.size); have O4 := Lib.hid hown4; have K4 := Lib.hid ((hg4.block w0.heap.size y2.out (fun h => by have h2 : w0.heap.size = w0.heap.size + 1 := Option.some.inj h; omega)).trans F2'.out); clear hown4 hg4)
      | (refine step_cb (.tmp 6) (.slice A4 n c4) rfl rfl (.tmp 7) (.tmp 9) rfl rfl (heap_alloc_new w4 E4) Z4.out rfl (H.out.x.bel (s33b (by assumption)).bel) h1 h2 (Nat.le_trans Z4.out (box_bel w4 E4).size) ?_; intro A5 c5 w5 hown5 hb5 hg5; have O5 := Lib.hid (Own2.ofB (World.ownsRow.alloc O4.out E4) (heap_alloc_new w4 E4) hg5 hown5); obtain ⟨u, u', hq5⟩ := ((s33b (by assumption)).go hb5 (Nat.le_refl _)).bq; have d0 : w5.cell? ⟨w.heap.size + 1, 0, none⟩ = some u := (by rw [cell_of_row _ _ _ _ _ _ hq5]; rfl); have d1 : w5.cell? ⟨w.heap.size + 1, 1, none⟩ = some u' := (by rw [cell_of_row _ _ _ _ _ _ hq5]; rfl); have e0 : w5.frozen? ⟨w.heap.size + 1, 0, none⟩ = false := (by simp [World.frozen?, hq5]); have e1 : w5.frozen? ⟨w.heap.size + 1, 1, none⟩ = false := (by simp [World.frozen?, hq5]); clear hown5 hg5 hq5)
      | (refine step_cb (.tmp 6) (.slice A4 n c4) rfl rfl (.tmp 7) (.tmp 9) rfl rfl K4.out (by first | exact z0.out | exact z1.out) rfl (H.out.x.bel (s33b (by assumption)).bel) h1 h2 Z4.out ?_; intro A5 c5 w5 hown5 hb5 hg5; have O5 := Lib.hid (Own2.ofB O4.out K4.out hg5 hown5); obtain ⟨u, u', hq5⟩ := ((s33b (by assumption)).go hb5 (Nat.le_refl _)).bq; have d0 : w5.cell? ⟨w.heap.size + 1, 0, none⟩ = some u := (by rw [cell_of_row _ _ _ _ _ _ hq5]; rfl); have d1 : w5.cell? ⟨w.heap.size + 1, 1, none⟩ = some u' := (by rw [cell_of_row _ _ _ _ _ _ hq5]; rfl); have e0 : w5.frozen? ⟨w.heap.size + 1, 0, none⟩ = false := (by simp [World.frozen?, hq5]); have e1 : w5.frozen? ⟨w.heap.size + 1, 1, none⟩ = false := (by simp [World.frozen?, hq5]); clear hown5 hg5 hq5))
  all_goals
    rename_i hH
    have B5 := Lib.hid (s33b hH).bel
    clear hH
    go_wp2_with fail
    refine bodyPost_ret (v := rV A4 c4 A5 c5 n) (by simp [results, Try.results33, go_sem, d0, d1]) rfl ⟨A4, c4, A5, c5, rfl, (O5.out.set _).set _, B5.out⟩
end Go.Proofs.Ytdallemhhdfemaa
