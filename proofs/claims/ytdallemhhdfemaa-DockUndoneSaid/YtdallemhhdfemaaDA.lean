/- A station as the machine holds it, and the walks of can, Find and New. -/
import Derived.Test.YtdallemhhdfemaaProg
import Derived.Test.YtdallemhhdfemaaBase
import Derived.Below
namespace Go.Proofs.Ytdallemhhdfemaa
open Go.RowKit
set_option maxHeartbeats 2000000
set_option maxRecDepth 100000
set_option linter.unusedVariables false

theorem box_bel (w : World) (o : Obj) : Below w.heap.size w (w.alloc o) := (Below.refl _ _).alloc (Nat.le_refl _) _
theorem bel_tr {B : Nat} {a b c : World} (h : Below B a b) (k : Below b.heap.size b c) (hB : B ≤ a.heap.size) : Below B a c := h.trans (k.mono (Nat.le_trans hB h.size))

/-- what is in the docks: the bicycle, whether there is one, whether the dock is out of order -/
structure Dk where
  b : Nat → Int
  f : Nat → Bool
  x : Nat → Bool
def staC (n : Int) (D : Dk) : List Value := .int .i64 n :: (List.range 96).map fun q => if q % 3 = 0 then .int .i64 (D.b (q / 3)) else if q % 3 = 1 then .bool (D.f (q / 3)) else .bool (D.x (q / 3))
theorem staC_len (n : Int) (D : Dk) : (staC n D).length = 97 := by simp [staC]
theorem staC_0 (n : Int) (D : Dk) : (staC n D)[0]? = some (.int .i64 n) := rfl
theorem staC_q (n : Int) (D : Dk) (q : Nat) (hq : q < 96) : (staC n D)[q + 1]? = some (if q % 3 = 0 then .int .i64 (D.b (q / 3)) else if q % 3 = 1 then .bool (D.f (q / 3)) else .bool (D.x (q / 3))) := by
  unfold staC
  rw [List.getElem?_cons_succ]
  simp [hq]
theorem staC_b (n : Int) (D : Dk) (i : Nat) (hi : i < 32) : (staC n D)[1 + i * 3]? = some (.int .i64 (D.b i)) := by
  rw [Nat.add_comm, staC_q n D _ (by omega), if_pos (by omega), show i * 3 / 3 = i by omega]
theorem staC_f (n : Int) (D : Dk) (i : Nat) (hi : i < 32) : (staC n D)[1 + i * 3 + 1]? = some (.bool (D.f i)) := by
  rw [show 1 + i * 3 + 1 = (i * 3 + 1) + 1 by omega, staC_q n D _ (by omega), if_neg (by omega), if_pos (by omega), show (i * 3 + 1) / 3 = i by omega]
theorem staC_x (n : Int) (D : Dk) (i : Nat) (hi : i < 32) : (staC n D)[1 + i * 3 + 2]? = some (.bool (D.x i)) := by
  rw [show 1 + i * 3 + 2 = (i * 3 + 2) + 1 by omega, staC_q n D _ (by omega), if_neg (by omega), if_neg (by omega), show (i * 3 + 2) / 3 = i by omega]
theorem staC_ext {n : Int} {D : Dk} {l : List Value} (hl : l.length = 97) (h0 : l[0]? = some (.int .i64 n)) (hb : ∀ i, i < 32 → l[1 + i * 3]? = some (.int .i64 (D.b i))) (hf : ∀ i, i < 32 → l[1 + i * 3 + 1]? = some (.bool (D.f i))) (hx : ∀ i, i < 32 → l[1 + i * 3 + 2]? = some (.bool (D.x i))) : l = staC n D := by
  apply List.ext_getElem?
  intro q
  by_cases hq : q < 97
  · by_cases h : q = 0
    · subst h; rw [h0]; rfl
    · have hm : (q - 1) % 3 = 0 ∨ (q - 1) % 3 = 1 ∨ (q - 1) % 3 = 2 := by omega
      rcases hm with hm | hm | hm
      · have := hb ((q - 1) / 3) (by omega); have k := staC_b n D ((q - 1) / 3) (by omega)
        rw [show 1 + (q - 1) / 3 * 3 = q by omega] at this k; rw [this, k]
      · have := hf ((q - 1) / 3) (by omega); have k := staC_f n D ((q - 1) / 3) (by omega)
        rw [show 1 + (q - 1) / 3 * 3 + 1 = q by omega] at this k; rw [this, k]
      · have := hx ((q - 1) / 3) (by omega); have k := staC_x n D ((q - 1) / 3) (by omega)
        rw [show 1 + (q - 1) / 3 * 3 + 2 = q by omega] at this k; rw [this, k]
  · rw [List.getElem?_eq_none (by omega), List.getElem?_eq_none (by rw [staC_len]; omega)]

/-- the block p is a station of n docks -/
structure Sta (w : World) (p n : Nat) (D : Dk) : Prop where
  out : w.heap[p]? = some (.cells (staC n D).toArray 63 (0, 0))
  n1 : 1 ≤ n
  n2 : n ≤ 32
theorem Sta.lt {w : World} {p n : Nat} {D : Dk} (h : Sta w p n D) : p < w.heap.size := (Array.getElem?_eq_some_iff.1 h.out).1
theorem Sta.bel {w w' : World} {p n : Nat} {D : Dk} (h : Sta w p n D) (hb : Below w.heap.size w w') : Sta w' p n D := ⟨(hb.block p h.lt).trans h.out, h.n1, h.n2⟩
theorem Sta.cell {w : World} {p n : Nat} {D : Dk} (h : Sta w p n D) (q : Nat) : w.cell? ⟨p, q, none⟩ = (staC n D)[q]? := by
  rw [cell_of_row _ _ _ _ _ _ h.out, List.getElem?_toArray]
theorem Sta.thaw {w : World} {p n : Nat} {D : Dk} (h : Sta w p n D) (q : Nat) : w.frozen? ⟨p, q, none⟩ = false := by simp [World.frozen?, h.out]
theorem Sta.c0 {w : World} {p n : Nat} {D : Dk} (h : Sta w p n D) : w.cell? ⟨p, 0, none⟩ = some (.int .i64 n) := h.cell 0
theorem Sta.row {w : World} {p n : Nat} {D : Dk} (h : Sta w p n D) (i : Nat) (hi : i < 32) : w.cell? ⟨p, 1 + i * 3, none⟩ = some (.int .i64 (D.b i)) ∧ w.cell? ⟨p, 1 + i * 3 + 1, none⟩ = some (.bool (D.f i)) ∧ w.cell? ⟨p, 1 + i * 3 + 2, none⟩ = some (.bool (D.x i)) := by
  rw [h.cell, h.cell, h.cell]
  exact ⟨staC_b n D i hi, staC_f n D i hi, staC_x n D i hi⟩

abbrev ptr (p : Nat) : Value := .pointer (some ⟨p, 0, none⟩)
/-- the error of a call for a dock -/
def canE (n : Nat) (d : Int) : Int := if d < 0 ∨ (n : Int) ≤ d then 7 else 0
theorem can31 (p n : Nat) (D : Dk) (d : Int) (w : World) (h : Sta w p n D) : Calls Try.prog 31 #[ptr p, .int .i64 d] w fun x w' => x = .returned (.int .i64 (canE n d)) ∧ w = w' := by
  have c0 := h.c0
  by_cases h1 : d < 0
  · have hc := Lib.hid (show canE n d = 7 from if_pos (.inl h1))
    go_enter Try.func31, Try.ntmps31
    go_wp2_with fail
    go_ret
    exact ⟨ret_int hc.out.symm, rfl⟩
  · by_cases h2 : (n : Int) ≤ d
    · have hc := Lib.hid (show canE n d = 7 from if_pos (.inr h2))
      go_enter Try.func31, Try.ntmps31
      go_wp2_with fail
      go_ret
      exact ⟨ret_int hc.out.symm, rfl⟩
    · have hc := Lib.hid (show canE n d = 0 from if_neg (by omega))
      go_enter Try.func31, Try.ntmps31
      go_wp2_with fail
      go_ret
      exact ⟨ret_int hc.out.symm, rfl⟩
theorem can31_nil (d : Int) (w : World) : Calls Try.prog 31 #[.pointer none, .int .i64 d] w fun x w' => x = .returned (.int .i64 11) ∧ w = w' := by
  go_enter Try.func31, Try.ntmps31
  go_wp2_with fail
  go_ret
  exact ⟨rfl, rfl⟩
end Go.Proofs.Ytdallemhhdfemaa
