/- The walks of Free, Bikes and Copy of the program. -/
import Derived.Test.YtdallemhhdfemaaDH
namespace Go.Proofs.Ytdallemhhdfemaa
open Go.RowKit
set_option maxHeartbeats 4000000
set_option maxRecDepth 100000
set_option linter.unusedVariables false
theorem isInt3 : IsInt Try.prog 3 := by unfold IsInt; kernel_rfl

/-- the integers of a list, by their places -/
def getI (l : List Int) (i : Nat) : Int := l.getD i 0
theorem getI_app {l : List Int} {y : Int} {i : Nat} (hi : i < l.length) : getI l i = getI (l ++ [y]) i := by
  unfold getI; rw [List.getD_eq_getElem?_getD, List.getD_eq_getElem?_getD, List.getElem?_append_left hi]
theorem getI_last (l : List Int) (y : Int) : getI (l ++ [y]) l.length = y := by
  unfold getI; rw [List.getD_eq_getElem?_getD, List.getElem?_concat_length]; rfl

/-- the free docks, and the bicycles in docks in order, below a dock -/
def freeL (D : Dk) : Nat → List Int
  | 0 => []
  | k + 1 => if D.f k = false ∧ D.x k = false then freeL D k ++ [(k : Int)] else freeL D k
def bikesL (D : Dk) : Nat → List Int
  | 0 => []
  | k + 1 => if D.f k = true ∧ D.x k = false then bikesL D k ++ [D.b k] else bikesL D k
theorem freeL_len (D : Dk) (k : Nat) : (freeL D k).length ≤ k := by
  induction k with
  | zero => simp [freeL]
  | succ k ih =>
    unfold freeL; split
    · rw [List.length_append]; simp; omega
    · omega
theorem bikesL_len (D : Dk) (k : Nat) : (bikesL D k).length ≤ k := by
  induction k with
  | zero => simp [bikesL]
  | succ k ih =>
    unfold bikesL; split
    · rw [List.length_append]; simp; omega
    · omega

/-- the call's own list -/
def OwnL (w0 wr : World) (v : Value) (l : List Int) : Prop := OwnI wr w0.heap.size 3 v l.length (getI l) ∧ Below w0.heap.size w0 wr
theorem OwnL.nil (w : World) : OwnL w w (.slice none 0 0) [] := ⟨OwnI.nil _ _ _ _, Below.refl _ _⟩
theorem OwnL.pre {w0 wr : World} {v : Value} {l : List Int} (h : OwnL w0 wr v l) (y : Int) : OwnI wr w0.heap.size 3 v l.length (getI (l ++ [y])) := h.1.congr (fun i hi => getI_app hi)
theorem OwnL.app {w0 wr w5 : World} {v v' : Value} {l : List Int} {y : Int} (h : OwnL w0 wr v l) (h5 : OwnI w5 w0.heap.size 3 v' (l.length + 1) (getI (l ++ [y]))) (hg : wr.grownBy w5 v.ownBlock) : OwnL w0 w5 v' (l ++ [y]) :=
  ⟨by rw [List.length_append]; exact h5, h.2.trans (grown_bel hg h.2.size (fun j hj => (h.1.lt j hj).1))⟩
def ListPost (w0 : World) (l : List Int) (e : Ending) (w' : World) : Prop := ∃ A c, e = .returned (.slice A l.length c) ∧ SlI w' A l.length (getI l) ∧ l.length ≤ c ∧ Below w0.heap.size w0 w'
theorem OwnL.post {w0 wr : World} {v : Value} {l : List Int} (h : OwnL w0 wr v l) : ListPost w0 l (.returned v) wr := by
  obtain ⟨A, c, rfl, h1, _, h2⟩ := h.1.form
  exact ⟨A, c, rfl, h1, h2, h.2⟩

theorem free20 (p n : Nat) (D : Dk) (w : World) (h : Sta w p n D) : Calls Try.prog 20 #[ptr p] w (ListPost w (freeL D n)) := by
  have H := Lib.hid h
  have c0 := h.c0
  have hn := h.n2
  clear h
  go_enter Try.func20, Try.ntmps20
  go_wp2_with fail
  go_loopw [11, 3] (fun i v wr => ∃ k : Nat, k ≤ n ∧ i = .int .i64 k ∧ Hid (OwnL w wr v (freeL D k))) (fun i _ _ => n - (intOf i).toNat)
  case atStart => exact ⟨0, by omega, rfl, Lib.hid (OwnL.nil w)⟩
  case round =>
    obtain ⟨k, hk, rfl, Ho⟩ := hrel
    by_cases hlt : k < n
    case neg =>
      have hkn : k = n := by omega
      subst hkn
      have hltI : ¬ (k : Int) < (k : Int) := by omega
      go_wp2_with fail
      go_ret
      exact Ho.out.post
    have hB := Ho.out.2.size
    have hll := freeL_len D k
    obtain ⟨r0, r1, r2⟩ := (H.out.bel Ho.out.2).row k (by omega)
    have hltI : (k : Int) < (n : Int) := by omega
    have hlt32 : (k : Int) < 32 := by omega
    cases hf : D.f k with
    | true =>
      rw [hf] at r1
      have HN := Lib.hid (show freeL D (k + 1) = freeL D k from if_neg (by rw [hf]; simp))
      clear hf
      go_wp2_with fail
      go_roundw
      case rel => exact ⟨k + 1, by omega, by go_num, by rw [HN.out]; exact Ho⟩
      case measure => simp [intOf]; omega
    | false =>
      rw [hf] at r1
      cases hx : D.x k with
      | true =>
        rw [hx] at r2
        have HN := Lib.hid (show freeL D (k + 1) = freeL D k from if_neg (by rw [hx]; simp))
        clear hf hx
        go_wp2_with fail
        go_roundw
        case rel => exact ⟨k + 1, by omega, by go_num, by rw [HN.out]; exact Ho⟩
        case measure => simp [intOf]; omega
      | false =>
        rw [hx] at r2
        have HN := Lib.hid (show freeL D (k + 1) = freeL D k ++ [(k : Int)] from if_pos ⟨hf, hx⟩)
        clear hf hx
        go_wp2_with (at_builtin; refine app_int wr rfl (.tmp 33) (.tmp 35) 28 rfl Try.underlying28 isInt3 rfl _ rfl (Ho.out.pre (k : Int)) (by omega) hB (getI_last _ _) ?_; intro v' w5 hown5 hg5 hloc5)
        go_wp2
        go_roundw
        case rel => exact ⟨k + 1, by omega, by go_num, by rw [HN.out]; exact Lib.hid (Ho.out.app hown5 hg5)⟩
        case measure => simp [intOf]; omega

theorem bikes21 (p n : Nat) (D : Dk) (w : World) (h : Sta w p n D) : Calls Try.prog 21 #[ptr p] w (ListPost w (bikesL D n)) := by
  have H := Lib.hid h
  have c0 := h.c0
  have hn := h.n2
  clear h
  go_enter Try.func21, Try.ntmps21
  go_wp2_with fail
  go_loopw [11, 3] (fun i v wr => ∃ k : Nat, k ≤ n ∧ i = .int .i64 k ∧ Hid (OwnL w wr v (bikesL D k))) (fun i _ _ => n - (intOf i).toNat)
  case atStart => exact ⟨0, by omega, rfl, Lib.hid (OwnL.nil w)⟩
  case round =>
    obtain ⟨k, hk, rfl, Ho⟩ := hrel
    by_cases hlt : k < n
    case neg =>
      have hkn : k = n := by omega
      subst hkn
      have hltI : ¬ (k : Int) < (k : Int) := by omega
      go_wp2_with fail
      go_ret
      exact Ho.out.post
    have hB := Ho.out.2.size
    have hll := bikesL_len D k
    obtain ⟨r0, r1, r2⟩ := (H.out.bel Ho.out.2).row k (by omega)
    have hltI : (k : Int) < (n : Int) := by omega
    have hlt32 : (k : Int) < 32 := by omega
    cases hf : D.f k with
    | false =>
      rw [hf] at r1
      have HN := Lib.hid (show bikesL D (k + 1) = bikesL D k from if_neg (by rw [hf]; simp))
      clear hf
      go_wp2_with fail
      go_roundw
      case rel => exact ⟨k + 1, by omega, by go_num, by rw [HN.out]; exact Ho⟩
      case measure => simp [intOf]; omega
    | true =>
      rw [hf] at r1
      cases hx : D.x k with
      | true =>
        rw [hx] at r2
        have HN := Lib.hid (show bikesL D (k + 1) = bikesL D k from if_neg (by rw [hx]; simp))
        clear hf hx
        go_wp2_with fail
        go_roundw
        case rel => exact ⟨k + 1, by omega, by go_num, by rw [HN.out]; exact Ho⟩
        case measure => simp [intOf]; omega
      | false =>
        rw [hx] at r2
        have HN := Lib.hid (show bikesL D (k + 1) = bikesL D k ++ [D.b k] from if_pos ⟨hf, hx⟩)
        clear hf hx
        go_wp2_with (at_builtin; refine app_int wr rfl (.tmp 32) (.tmp 41) 28 rfl Try.underlying28 isInt3 rfl _ rfl (Ho.out.pre (D.b k)) (by omega) hB (getI_last _ _) ?_; intro v' w5 hown5 hg5 hloc5)
        go_wp2
        go_roundw
        case rel => exact ⟨k + 1, by omega, by go_num, by rw [HN.out]; exact Lib.hid (Ho.out.app hown5 hg5)⟩
        case measure => simp [intOf]; omega
end Go.Proofs.Ytdallemhhdfemaa
