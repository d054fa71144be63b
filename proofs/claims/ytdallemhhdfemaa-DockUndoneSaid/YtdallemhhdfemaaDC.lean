/- What a store makes of a station. -/
import Derived.Test.YtdallemhhdfemaaDB
import Derived.Laws.CopyRow
namespace Go.Proofs.Ytdallemhhdfemaa
open Go.RowKit
set_option linter.unusedVariables false

def setB (D : Dk) (i : Nat) (v : Int) : Dk := ⟨fun k => if k = i then v else D.b k, D.f, D.x⟩
def setF (D : Dk) (i : Nat) (v : Bool) : Dk := ⟨D.b, fun k => if k = i then v else D.f k, D.x⟩
def setX (D : Dk) (i : Nat) (v : Bool) : Dk := ⟨D.b, D.f, fun k => if k = i then v else D.x k⟩
theorem staC_setB (n : Int) (D : Dk) (i : Nat) (hi : i < 32) (v : Int) : (staC n D).set (1 + i * 3) (.int .i64 v) = staC n (setB D i v) := by
  have hl := staC_len n D
  refine staC_ext (by rw [List.length_set]; exact hl) ?_ (fun k hk => ?_) (fun k hk => ?_) (fun k hk => ?_)
  · rw [List.getElem?_set_ne (by omega)]; rfl
  · by_cases h : k = i
    · subst h; rw [List.getElem?_set_self (by omega)]; simp [setB]
    · rw [List.getElem?_set_ne (by omega), staC_b n D k hk]; simp [setB, h]
  · rw [List.getElem?_set_ne (by omega), staC_f n D k hk]; rfl
  · rw [List.getElem?_set_ne (by omega), staC_x n D k hk]; rfl
theorem staC_setF (n : Int) (D : Dk) (i : Nat) (hi : i < 32) (v : Bool) : (staC n D).set (1 + i * 3 + 1) (.bool v) = staC n (setF D i v) := by
  have hl := staC_len n D
  refine staC_ext (by rw [List.length_set]; exact hl) ?_ (fun k hk => ?_) (fun k hk => ?_) (fun k hk => ?_)
  · rw [List.getElem?_set_ne (by omega)]; rfl
  · rw [List.getElem?_set_ne (by omega), staC_b n D k hk]; rfl
  · by_cases h : k = i
    · subst h; rw [List.getElem?_set_self (by omega)]; simp [setF]
    · rw [List.getElem?_set_ne (by omega), staC_f n D k hk]; simp [setF, h]
  · rw [List.getElem?_set_ne (by omega), staC_x n D k hk]; rfl
theorem staC_setX (n : Int) (D : Dk) (i : Nat) (hi : i < 32) (v : Bool) : (staC n D).set (1 + i * 3 + 2) (.bool v) = staC n (setX D i v) := by
  have hl := staC_len n D
  refine staC_ext (by rw [List.length_set]; exact hl) ?_ (fun k hk => ?_) (fun k hk => ?_) (fun k hk => ?_)
  · rw [List.getElem?_set_ne (by omega)]; rfl
  · rw [List.getElem?_set_ne (by omega), staC_b n D k hk]; rfl
  · rw [List.getElem?_set_ne (by omega), staC_f n D k hk]; rfl
  · by_cases h : k = i
    · subst h; rw [List.getElem?_set_self (by omega)]; simp [setX]
    · rw [List.getElem?_set_ne (by omega), staC_x n D k hk]; simp [setX, h]
theorem Sta.put {w : World} {p n : Nat} {D D' : Dk} (h : Sta w p n D) (q : Nat) (v : Value) (hq : (staC n D).set q v = staC n D') : Sta (w.setCell ⟨p, q, none⟩ v) p n D' := by
  refine ⟨?_, h.n1, h.n2⟩
  rw [setCell_eq_setRow w p q _ 63 (0, 0) _ h.out, setRow_heap w p _ _ 63 _ h.out]
  have : (staC n D).toArray.setIfInBounds q v = (staC n D').toArray := by
    refine Array.toList_inj.1 ?_
    rw [Array.toList_setIfInBounds, List.toList_toArray, List.toList_toArray]
    exact hq
  rw [this]
theorem Sta.setB {w : World} {p n : Nat} {D : Dk} (h : Sta w p n D) (i : Nat) (hi : i < 32) (v : Int) : Sta (w.setCell ⟨p, 1 + i * 3, none⟩ (.int .i64 v)) p n (setB D i v) := h.put _ _ (staC_setB n D i hi v)
theorem Sta.setF {w : World} {p n : Nat} {D : Dk} (h : Sta w p n D) (i : Nat) (hi : i < 32) (v : Bool) : Sta (w.setCell ⟨p, 1 + i * 3 + 1, none⟩ (.bool v)) p n (setF D i v) := h.put _ _ (staC_setF n D i hi v)
theorem Sta.setX {w : World} {p n : Nat} {D : Dk} (h : Sta w p n D) (i : Nat) (hi : i < 32) (v : Bool) : Sta (w.setCell ⟨p, 1 + i * 3 + 2, none⟩ (.bool v)) p n (setX D i v) := h.put _ _ (staC_setX n D i hi v)
end Go.Proofs.Ytdallemhhdfemaa
