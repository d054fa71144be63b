/- The reference's station as the machine holds it, and the walks of the reference's calls that read it. -/
import Derived.Test.YtdallemhhdfemaaDM
namespace Go.Proofs.Ytdallemhhdfemaa
open Go.RowKit
set_option maxHeartbeats 4000000
set_option maxRecDepth 100000
set_option linter.unusedVariables false

def SlB (w : World) (A : Option Addr) (n : Nat) (f : Nat → Bool) : Prop :=
  0 < n → ∃ b o, A = some ⟨b, o, none⟩ ∧ b < w.heap.size ∧ ∀ j, j < n → w.cell? ⟨b, o + j, none⟩ = some (.bool (f j))
theorem SlB.at_ {w : World} {A : Option Addr} {n : Nat} {f : Nat → Bool} (h : SlB w A n f) (k : Nat) (hk : k < n) :
    ∃ b o, A = some ⟨b, o, none⟩ ∧ b < w.heap.size ∧ w.cell? ⟨b, o + k, none⟩ = some (.bool (f k)) := by
  obtain ⟨b, o, h1, h2, h3⟩ := h (by omega)
  exact ⟨b, o, h1, h2, h3 k hk⟩
theorem SlB.bel {w w' : World} {A : Option Addr} {n : Nat} {f : Nat → Bool} (h : SlB w A n f) (hb : Below w.heap.size w w') : SlB w' A n f := fun hn => by
  obtain ⟨b, o, h1, h2, h3⟩ := h hn
  exact ⟨b, o, h1, Nat.lt_of_lt_of_le h2 hb.size, fun j hj => (hb.cell (p := ⟨b, o + j, none⟩) h2).trans (h3 j hj)⟩

/-- the reference's number for a dock: its bicycle, or -1 -/
def rb (D : Dk) (i : Nat) : Int := if D.f i = true then D.b i else -1
/-- the reference's station -/
structure Rf (w : World) (A A' : Option Addr) (n : Nat) (D : Dk) : Prop where
  i : SlI w A n (rb D)
  x : SlB w A' n D.x
  ti : ∀ b o s, A = some ⟨b, o, s⟩ → ∃ cs, w.heap[b]? = some (.cells cs 3 (0, 0))
  tx : ∀ b o s, A' = some ⟨b, o, s⟩ → ∃ cs, w.heap[b]? = some (.cells cs 4 (0, 0))
theorem Rf.bel {w w' : World} {A A' : Option Addr} {n : Nat} {D : Dk} (h : Rf w A A' n D) (hb : Below w.heap.size w w') : Rf w' A A' n D := ⟨h.i.bel hb, h.x.bel hb, fun b o s e => let ⟨cs, hc⟩ := h.ti b o s e; ⟨cs, (hb.block b (Array.getElem?_eq_some_iff.1 hc).1).trans hc⟩, fun b o s e => let ⟨cs, hc⟩ := h.tx b o s e; ⟨cs, (hb.block b (Array.getElem?_eq_some_iff.1 hc).1).trans hc⟩⟩
/-- what holds of a station after any calls -/
structure Inv (n : Nat) (D : Dk) : Prop where
  b : ∀ i, i < n → D.f i = true → 0 ≤ D.b i ∧ D.b i < 128
  z : ∀ i, i < n → D.f i = false → D.b i = 0
  u : ∀ i j, i < n → j < n → D.f i = true → D.f j = true → D.b i = D.b j → i = j

abbrev rV (A : Option Addr) (c : Nat) (A' : Option Addr) (c' n : Nat) : Value := .agg #[.slice A n c, .slice A' n c']
abbrev rO (A : Option Addr) (c : Nat) (A' : Option Addr) (c' n : Nat) : Obj := .cells #[.slice A n c, .slice A' n c'] 31

theorem box2 (w : World) (u v : Value) (t : TypeId) : w.heap.size < (w.alloc (.cells #[u, v] t)).heap.size ∧ (w.alloc (.cells #[u, v] t)).cell? ⟨w.heap.size, 0, none⟩ = some u ∧ (w.alloc (.cells #[u, v] t)).cell? ⟨w.heap.size, 1, none⟩ = some v := by
  refine ⟨by rw [alloc_size]; exact Nat.lt_succ_self _, ?_, ?_⟩
  · rw [cell_of_row _ _ _ _ _ _ (heap_alloc_new w _)]; rfl
  · rw [cell_of_row _ _ _ _ _ _ (heap_alloc_new w _)]; rfl

def inN (n : Nat) (d : Int) : Bool := decide (0 ≤ d ∧ d < (n : Int))
theorem dock32 (A A' : Option Addr) (c c' n : Nat) (d : Int) (w : World) (h2 : n ≤ 32) :
    Calls Try.prog 32 #[rV A c A' c' n, .int .i64 d] w fun x w' => x = .returned (.bool (inN n d)) ∧ Below w.heap.size w w' := by
  have HB := Lib.hid (box_bel w (rO A c A' c' n))
  by_cases h0 : 0 ≤ d
  · by_cases h1 : d < (n : Int)
    · have HI := Lib.hid (show inN n d = true from decide_eq_true ⟨h0, h1⟩)
      go_enter Try.func32, Try.ntmps32
      go_wp2_with fail
      go_ret
      exact ⟨ret_bool HI.out.symm, HB.out⟩
    · have HI := Lib.hid (show inN n d = false from decide_eq_false (fun h => h1 h.2))
      go_enter Try.func32, Try.ntmps32
      go_wp2_with fail
      go_ret
      exact ⟨ret_bool HI.out.symm, HB.out⟩
  · have HI := Lib.hid (show inN n d = false from decide_eq_false (fun h => h0 h.1))
    go_enter Try.func32, Try.ntmps32
    go_wp2_with fail
    go_ret
    exact ⟨ret_bool HI.out.symm, HB.out⟩

theorem bike27 (A A' : Option Addr) (c c' n : Nat) (D : Dk) (d : Int) (w : World) (h : Rf w A A' n D) (hi : Inv n D) (h2 : n ≤ 32) :
    Calls Try.prog 27 #[rV A c A' c' n, .int .i64 d] w fun x w' => x = .returned (.tuple #[.int .i64 (bikN n D d), .bool (bikF n D d)]) ∧ Below w.heap.size w w' := by
  have H := Lib.hid h
  have HI := Lib.hid hi
  have HB := Lib.hid (box_bel w (rO A c A' c' n))
  clear h hi
  by_cases hd : 0 ≤ d ∧ d < (n : Int)
  case neg =>
    have hc := Lib.hid (show inN n d = false from decide_eq_false hd)
    have HD := Lib.hid (show bikN n D d = 0 ∧ bikF n D d = false from ⟨if_neg hd, if_neg hd⟩)
    clear hd
    go_enter Try.func27, Try.ntmps27
    go_wp2_with fail
    refine (dock32 A A' c c' n d _ h2).mono ?_
    rw [hc.out]
    rintro x w1 ⟨rfl, hb⟩
    have HB2 := Lib.hid (bel_tr HB.out hb (Nat.le_refl _))
    clear hb
    go_wp2_with fail
    go_ret2
    exact ⟨by rw [HD.out.1, HD.out.2]; rfl, HB2.out⟩
  obtain ⟨i, rfl⟩ : ∃ i : Nat, d = (i : Int) := ⟨d.toNat, by omega⟩
  have hi : i < n := by omega
  have hc := Lib.hid (show inN n (i : Int) = true from decide_eq_true hd)
  have HD := Lib.hid (show bikN n D (i : Int) = D.b i ∧ bikF n D (i : Int) = D.f i by unfold bikN bikF; rw [if_pos hd, if_pos hd, Int.toNat_natCast]; exact ⟨rfl, rfl⟩)
  clear hd
  have hiI : (i : Int) < (n : Int) := by omega
  obtain ⟨b, o, rfl, hbw, r0⟩ := (H.out.i.bel HB.out).at_ i hi
  cases hf : D.f i with
  | false =>
    have hz := Lib.hid (HI.out.z i hi hf)
    have hr : rb D i = -1 := if_neg (by rw [hf]; decide)
    rw [hr] at r0
    have HF := Lib.hid hf
    clear hr hf
    go_enter Try.func27, Try.ntmps27
    go_wp2_with fail
    refine (dock32 _ A' c c' n (i : Int) _ h2).mono ?_
    rw [hc.out]
    rintro x w1 ⟨rfl, hb⟩
    have HB2 := Lib.hid (bel_tr HB.out hb (Nat.le_refl _))
    have r1 := (hb.cell (p := ⟨b, o + i, none⟩) hbw).trans r0
    have s0 := (hb.cell (p := ⟨w.heap.size, 0, none⟩) (box2 w _ _ 31).1).trans (box2 w _ _ 31).2.1
    clear hb
    go_wp2_with fail
    go_ret2
    exact ⟨by rw [HD.out.1, HD.out.2, hz.out, HF.out]; rfl, HB2.out⟩
  | true =>
    have hz := Lib.hid (HI.out.b i hi hf)
    have hr : rb D i = D.b i := if_pos hf
    rw [hr] at r0
    have HF := Lib.hid hf
    have hge := hz.out.1
    clear hr hf
    go_enter Try.func27, Try.ntmps27
    go_wp2_with fail
    refine (dock32 _ A' c c' n (i : Int) _ h2).mono ?_
    rw [hc.out]
    rintro x w1 ⟨rfl, hb⟩
    have HB2 := Lib.hid (bel_tr HB.out hb (Nat.le_refl _))
    have r1 := (hb.cell (p := ⟨b, o + i, none⟩) hbw).trans r0
    have s0 := (hb.cell (p := ⟨w.heap.size, 0, none⟩) (box2 w _ _ 31).1).trans (box2 w _ _ 31).2.1
    clear hb
    go_wp2_with fail
    go_ret2
    exact ⟨by rw [HD.out.1, HD.out.2, HF.out]; rfl, HB2.out⟩
end Go.Proofs.Ytdallemhhdfemaa
