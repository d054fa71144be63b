/- The walks of Order, Remove, Bike of the program. -/
import Derived.Test.YtdallemhhdfemaaDC
import Derived.BigRegion
namespace Go.Proofs.Ytdallemhhdfemaa
open Go.RowKit
set_option maxHeartbeats 4000000
set_option maxRecDepth 100000
set_option linter.unusedVariables false

/-- the station p is left as D' -/
def LeftAt (w : World) (p n : Nat) (D' : Dk) (w' : World) : Prop := Sta w' p n D' ∧ w.grownBy w' (some p)
theorem heap_set_ne {w : World} {p : Addr} {u : Value} {g : Nat} (h : g ≠ p.block) : (w.setCell p u).heap[g]? = w.heap[g]? := Below.heap_setCell w p u g h
theorem size_setCell (w : World) (p : Addr) (u : Value) : (w.setCell p u).heap.size = w.heap.size := by simp [World.setCell]
theorem grown_refl (w : World) (r : Option Nat) : w.grownBy w r := ⟨rfl, rfl, rfl, Nat.le_refl _, fun _ _ _ => rfl⟩
theorem grown_set {w w' : World} {p : Nat} (h : w.grownBy w' (some p)) (q : Nat) (v : Value) : w.grownBy (w'.setCell ⟨p, q, none⟩ v) (some p) :=
  ⟨h.os, h.tape, h.output, by rw [size_setCell]; exact h.size, fun k hk hne => (heap_set_ne (fun e => hne (by rw [e]))).trans (h.block k hk hne)⟩
theorem LeftAt.bel {w w' : World} {p n : Nat} {D' : Dk} (h : LeftAt w p n D' w') {B : Nat} (h1 : B ≤ p) (h2 : B ≤ w.heap.size) : Below B w w' := (Below.refl B w).grown h.2 h2 (fun k hk => by injection hk with hk; omega)
theorem LeftAt.same {w : World} {p n : Nat} {D : Dk} (h : Sta w p n D) : LeftAt w p n D w := ⟨h, grown_refl _ _⟩
theorem canE_in {n i : Nat} (hi : i < n) : canE n (i : Int) = 0 := if_neg (by omega)
theorem canE_out {n : Nat} {d : Int} (h : ¬ (0 ≤ d ∧ d < (n : Int))) : canE n d = 7 := if_pos (by omega)

def ordE (n : Nat) (d : Int) : Int := canE n d
def ordD (n : Nat) (D : Dk) (d : Int) (good : Bool) : Dk := if 0 ≤ d ∧ d < (n : Int) then setX D d.toNat (!good) else D
theorem order19 (p n : Nat) (D : Dk) (d : Int) (good : Bool) (w : World) (h : Sta w p n D) : Calls Try.prog 19 #[ptr p, .int .i64 d, .bool good] w fun x w' => x = .returned (.int .i64 (canE n d)) ∧ LeftAt w p n (ordD n D d good) w' := by
  have H := Lib.hid h
  have hn := h.n2
  clear h
  by_cases hd : 0 ≤ d ∧ d < (n : Int)
  case neg =>
    have hc := Lib.hid (canE_out hd)
    have HD := Lib.hid (show ordD n D d good = D from if_neg hd)
    clear hd
    go_enter Try.func19, Try.ntmps19
    go_wp2_with fail
    refine (can31 p n D d w H.out).mono ?_
    rw [hc.out]
    rintro x w1 ⟨rfl, rfl⟩
    go_wp2_with fail
    go_ret
    exact ⟨ret_int hc.out.symm, by rw [HD.out]; exact LeftAt.same H.out⟩
  obtain ⟨i, rfl⟩ : ∃ i : Nat, d = (i : Int) := ⟨d.toNat, by omega⟩
  have hi : i < n := by omega
  have hc := Lib.hid (canE_in hi)
  have HD := Lib.hid (show ordD n D (i : Int) good = setX D i (!good) by unfold ordD; rw [if_pos hd, Int.toNat_natCast])
  clear hd
  obtain ⟨r0, r1, r2⟩ := H.out.row i (by omega)
  have f2 := H.out.thaw (1 + i * 3 + 2)
  have hiI : (i : Int) < 32 := by omega
  go_enter Try.func19, Try.ntmps19
  go_wp2_with fail
  refine (can31 p n D (i : Int) w H.out).mono ?_
  rw [hc.out]
  rintro x w1 ⟨rfl, rfl⟩
  go_wp2_with fail
  go_ret
  exact ⟨ret_int hc.out.symm, by rw [HD.out]; exact ⟨H.out.setX i (by omega) _, grown_set (grown_refl _ _) _ _⟩⟩

/-- the bicycle of a dock, and whether there is one -/
def bikN (n : Nat) (D : Dk) (d : Int) : Int := if 0 ≤ d ∧ d < (n : Int) then D.b d.toNat else 0
def bikF (n : Nat) (D : Dk) (d : Int) : Bool := if 0 ≤ d ∧ d < (n : Int) then D.f d.toNat else false
theorem bike16 (p n : Nat) (D : Dk) (d : Int) (w : World) (h : Sta w p n D) : Calls Try.prog 16 #[ptr p, .int .i64 d] w fun x w' => x = .returned (.tuple #[.int .i64 (bikN n D d), .bool (bikF n D d)]) ∧ Below w.heap.size w w' := by
  have H := Lib.hid h
  have hn := h.n2
  clear h
  by_cases hd : 0 ≤ d ∧ d < (n : Int)
  case neg =>
    have hc := Lib.hid (canE_out hd)
    have HD := Lib.hid (show bikN n D d = 0 ∧ bikF n D d = false from ⟨if_neg hd, if_neg hd⟩)
    clear hd
    go_enter Try.func16, Try.ntmps16
    go_wp2_with fail
    refine (can31 p n D d w H.out).mono ?_
    rw [hc.out]
    rintro x w1 ⟨rfl, rfl⟩
    go_wp2_with fail
    go_ret2
    exact ⟨by rw [HD.out.1, HD.out.2]; rfl, Below.refl _ _⟩
  obtain ⟨i, rfl⟩ : ∃ i : Nat, d = (i : Int) := ⟨d.toNat, by omega⟩
  have hi : i < n := by omega
  have hc := Lib.hid (canE_in hi)
  have HD := Lib.hid (show bikN n D (i : Int) = D.b i ∧ bikF n D (i : Int) = D.f i by unfold bikN bikF; rw [if_pos hd, if_pos hd, Int.toNat_natCast]; exact ⟨rfl, rfl⟩)
  clear hd
  obtain ⟨r0, r1, r2⟩ := H.out.row i (by omega)
  have hiI : (i : Int) < 32 := by omega
  go_enter Try.func16, Try.ntmps16
  go_wp2_with fail
  refine (can31 p n D (i : Int) w H.out).mono ?_
  rw [hc.out]
  rintro x w1 ⟨rfl, rfl⟩
  go_wp2_with fail
  go_quiet (fail)
  go_wp2_with fail
  go_ret2
  exact ⟨by rw [HD.out.1, HD.out.2]; rfl, below_drewN (Below.refl _ _) _⟩
end Go.Proofs.Ytdallemhhdfemaa
