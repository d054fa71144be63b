/- The walk of the law DockCalls. -/
import Derived.Test.YtdallemhhdfemaaDV
namespace Go.Proofs.Ytdallemhhdfemaa
open Go.RowKit
set_option maxHeartbeats 4000000
set_option maxRecDepth 100000
set_option linter.unusedVariables false

/-- the reference's lists stay where their blocks do -/
theorem Rf.kept {X Y : World} {A A' : Option Addr} {n : Nat} {D : Dk} (h : Rf X A A' n D) (hs : X.heap.size ≤ Y.heap.size)
    (hk : ∀ (b : Nat) (cs : Array Value) (e : TypeId), X.heap[b]? = some (.cells cs e (0, 0)) → e = 3 ∨ e = 4 → Y.heap[b]? = X.heap[b]?) : Rf Y A A' n D := by
  have ki : ∀ b o s, A = some ⟨b, o, s⟩ → Y.heap[b]? = X.heap[b]? := fun b o s e => by
    obtain ⟨cs, hc⟩ := h.ti b o s e
    exact hk b cs 3 hc (.inl rfl)
  have kx : ∀ b o s, A' = some ⟨b, o, s⟩ → Y.heap[b]? = X.heap[b]? := fun b o s e => by
    obtain ⟨cs, hc⟩ := h.tx b o s e
    exact hk b cs 4 hc (.inr rfl)
  refine ⟨fun hn => ?_, fun hn => ?_, fun b o s e => ?_, fun b o s e => ?_⟩
  · obtain ⟨b, o, rfl, hb, hc⟩ := h.i hn
    exact ⟨b, o, rfl, Nat.lt_of_lt_of_le hb hs, fun j hj => (World.cell?_of_block (a := ⟨b, o + j, none⟩) (ki b o none rfl)).trans (hc j hj)⟩
  · obtain ⟨b, o, rfl, hb, hc⟩ := h.x hn
    exact ⟨b, o, rfl, Nat.lt_of_lt_of_le hb hs, fun j hj => (World.cell?_of_block (a := ⟨b, o + j, none⟩) (kx b o none rfl)).trans (hc j hj)⟩
  · obtain ⟨cs, hc⟩ := h.ti b o s e
    exact ⟨cs, (ki b o s e).trans hc⟩
  · obtain ⟨cs, hc⟩ := h.tx b o s e
    exact ⟨cs, (kx b o s e).trans hc⟩
theorem ty_ne {X : World} {b q : Nat} {cs cs' : Array Value} {e e' : TypeId} {fr fr' : Nat × Nat} (h : X.heap[b]? = some (.cells cs e fr)) (h' : X.heap[q]? = some (.cells cs' e' fr')) (hne : e ≠ e') : b ≠ q := by
  rintro rfl
  rw [h] at h'
  injection h' with h'
  injection h' with _ ht
  exact hne ht
/-- behind a store to a variable that holds a reference's station -/
theorem Rf.set2 {X : World} {A A' : Option Addr} {n q : Nat} {D : Dk} (h : Rf X A A' n D) {cs : Array Value} (hq : X.heap[q]? = some (.cells cs 31 (0, 0))) (u u' : Value) : Rf ((X.setCell ⟨q, 0, none⟩ u).setCell ⟨q, 1, none⟩ u') A A' n D :=
  h.kept (by rw [size_setCell, size_setCell]; exact Nat.le_refl _) (fun b cs e hb he => by
    have hne := ty_ne hb hq (by rcases he with rfl | rfl <;> decide)
    rw [heap_set_ne hne, heap_set_ne hne])
theorem set2_row {X : World} {q : Nat} {u0 u1 : Value} (hq : X.heap[q]? = some (.cells #[u0, u1] 31 (0, 0))) (u u' : Value) : ((X.setCell ⟨q, 0, none⟩ u).setCell ⟨q, 1, none⟩ u').heap[q]? = some (.cells #[u, u'] 31 (0, 0)) := by
  have h1 : (X.setCell ⟨q, 0, none⟩ u).heap[q]? = some (.cells #[u, u1] 31 (0, 0)) := by
    rw [setCell_eq_setRow X q 0 _ 31 (0, 0) _ hq, setRow_heap X q _ _ 31 _ hq]; rfl
  rw [setCell_eq_setRow _ q 1 _ 31 (0, 0) _ h1, setRow_heap _ q _ _ 31 _ h1]; rfl
theorem row2 {X : World} {q : Nat} {u u' : Value} (hq : X.heap[q]? = some (.cells #[u, u'] 31 (0, 0))) : X.cell? ⟨q, 0, none⟩ = some u ∧ X.cell? ⟨q, 1, none⟩ = some u' ∧ X.frozen? ⟨q, 0, none⟩ = false ∧ X.frozen? ⟨q, 1, none⟩ = false :=
  ⟨by rw [cell_of_row _ _ _ _ _ _ hq]; rfl, by rw [cell_of_row _ _ _ _ _ _ hq]; rfl, by simp [World.frozen?, hq], by simp [World.frozen?, hq]⟩

/-- where the law stands: the station p, and the reference's station in the variable q -/
structure Lw (w X : World) (p q : Nat) (A : Option Addr) (c : Nat) (A' : Option Addr) (c' n : Nat) (D Dr : Dk) : Prop where
  sta : Sta X p n D
  rf : Rf X A A' n Dr
  bq : X.heap[q]? = some (.cells #[.slice A n c, .slice A' n c'] 31 (0, 0))
  bel : Below w.heap.size w X
  lop : w.heap.size ≤ p
  loq : w.heap.size ≤ q
section
variable {w X Y : World} {p q : Nat} {A A' A1 A2 : Option Addr} {c c' c1 c2 n : Nat} {D D2 Dr : Dk}
theorem Lw.go (h : Lw w X p q A c A' c' n D Dr) (hb : Below X.heap.size X Y) : Lw w Y p q A c A' c' n D Dr :=
  ⟨h.sta.bel hb, h.rf.bel hb, (hb.block _ (Array.getElem?_eq_some_iff.1 h.bq).1).trans h.bq, bel_tr h.bel hb (Nat.le_refl _), h.lop, h.loq⟩
theorem Lw.left (h : Lw w X p q A c A' c' n D Dr) (hl : LeftAt X p n D2 Y) : Lw w Y p q A c A' c' n D2 Dr := by
  have hs := h.sta.out
  refine ⟨hl.1, h.rf.kept hl.2.size (fun b cs e hb he => hl.2.block b (Array.getElem?_eq_some_iff.1 hb).1 (fun e1 => ?_)), (hl.2.block q (Array.getElem?_eq_some_iff.1 h.bq).1 (fun e1 => ?_)).trans h.bq, h.bel.trans (hl.bel h.lop h.bel.size), h.lop, h.loq⟩
  · injection e1 with e1
    exact ty_ne hb hs (by rcases he with rfl | rfl <;> decide) e1
  · injection e1 with e1
    exact ty_ne h.bq hs (by decide) e1
theorem Lw.store (h : Lw w X p q A c A' c' n D Dr) (hr : Rf X A1 A2 n D2) : Lw w ((X.setCell ⟨q, 0, none⟩ (.slice A1 n c1)).setCell ⟨q, 1, none⟩ (.slice A2 n c2)) p q A1 c1 A2 c2 n D D2 := by
  have hne : p ≠ q := fun e => ty_ne h.sta.out h.bq (by decide) e
  refine ⟨⟨by rw [heap_set_ne hne, heap_set_ne hne]; exact h.sta.out, h.sta.n1, h.sta.n2⟩, hr.set2 h.bq _ _, set2_row h.bq _ _, (h.bel.setCell h.loq _).setCell h.loq _, h.lop, h.loq⟩
theorem Lw.drew (h : Lw w X p q A c A' c' n D Dr) : Lw w X.drew p q A c A' c' n D Dr := h.go (Below.refl _ _).drew
end

theorem law5_out (d : Int) (A : Option Addr) (m c : Nat) (w : World) (hd : d < 1 ∨ 32 < d ∨ 60 < m) (m1 : m ≤ 9223372036854775807) :
    Calls Try.prog 5 #[.int .i64 d, .slice A m c] w fun x w' => x = .returned (.bool true) ∧ Below w.heap.size w w' := by
  by_cases hm : 60 < m
  · have hmI : (60 : Int) < (m : Int) := by omega
    clear hd
    go_enter Try.func5, Try.ntmps5
    go_wp2_with fail
    refine (awake_any _).mono ?_
    rintro x w2 ⟨rfl, hb⟩
    have B := Lib.hid hb
    clear hb
    go_wp2_with fail
    go_ret
    exact ⟨rfl, B.out⟩
  have hmI : ¬ (60 : Int) < (m : Int) := by omega
  have HD : Hid (d < 1 ∨ 32 < d) := Lib.hid (by omega)
  clear hd
  go_enter Try.func5, Try.ntmps5
  go_wp2_with fail
  refine (new22_bad d w HD.out).mono ?_
  rintro x w1 ⟨rfl, rfl⟩
  go_wp2_with fail
  refine (new10_bad d w HD.out).mono ?_
  rintro x w1 ⟨rfl, hb⟩
  have B := Lib.hid (bel_tr hb (box_bel w1 (.cells #[.slice none 0 0, .slice none 0 0] 31)) (Nat.le_refl _))
  clear hb
  go_wp2_with fail
  refine (awake_any _).mono ?_
  rintro x w2 ⟨rfl, hb⟩
  have B2 := Lib.hid (bel_tr B.out hb (Nat.le_refl _))
  clear hb
  go_wp2_with fail
  go_ret
  exact ⟨rfl, B2.out⟩
end Go.Proofs.Ytdallemhhdfemaa
