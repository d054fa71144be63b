/- The walk of Remove of the program. -/
import Derived.Test.YtdallemhhdfemaaDD
namespace Go.Proofs.Ytdallemhhdfemaa
open Go.RowKit
set_option maxHeartbeats 4000000
set_option maxRecDepth 100000
set_option linter.unusedVariables false

def okD (n : Nat) (D : Dk) (d : Int) : Bool := decide (0 ≤ d ∧ d < (n : Int)) && D.f d.toNat
def remE (n : Nat) (D : Dk) (d : Int) : Int := if 0 ≤ d ∧ d < (n : Int) then (if D.f d.toNat = true then 0 else 10) else 7
def remN (n : Nat) (D : Dk) (d : Int) : Int := if remE n D d = 0 then D.b d.toNat else 0
def remD (n : Nat) (D : Dk) (d : Int) : Dk := if remE n D d = 0 then setF (setB D d.toNat 0) d.toNat false else D
theorem remove15 (p n : Nat) (D : Dk) (d : Int) (w : World) (h : Sta w p n D) : Calls Try.prog 15 #[ptr p, .int .i64 d] w fun x w' => x = .returned (.tuple #[.int .i64 (remN n D d), .int .i64 (remE n D d)]) ∧ LeftAt w p n (remD n D d) w' := by
  have H := Lib.hid h
  have hn := h.n2
  clear h
  by_cases hd : 0 ≤ d ∧ d < (n : Int)
  case neg =>
    have hc := Lib.hid (canE_out hd)
    have he := show remE n D d = 7 from if_neg hd
    have HD := Lib.hid (And.intro he (And.intro (show remN n D d = 0 by unfold remN; rw [he]; rfl) (show remD n D d = D by unfold remD; rw [he]; rfl)))
    clear hd he
    go_enter Try.func15, Try.ntmps15
    go_wp2_with fail
    refine (can31 p n D d w H.out).mono ?_
    rw [hc.out]
    rintro x w1 ⟨rfl, rfl⟩
    go_wp2_with fail
    go_ret2
    exact ⟨by rw [HD.out.1, HD.out.2.1]; rfl, by rw [HD.out.2.2]; exact LeftAt.same H.out⟩
  obtain ⟨i, rfl⟩ : ∃ i : Nat, d = (i : Int) := ⟨d.toNat, by omega⟩
  have hi : i < n := by omega
  have hc := Lib.hid (canE_in hi)
  obtain ⟨r0, r1, r2⟩ := H.out.row i (by omega)
  have hiI : (i : Int) < 32 := by omega
  cases hf : D.f i with
  | false =>
    rw [hf] at r1
    have he : remE n D (i : Int) = 10 := by unfold remE; rw [if_pos hd, Int.toNat_natCast, if_neg (by rw [hf]; decide)]
    have HD := Lib.hid (And.intro he (And.intro (show remN n D (i : Int) = 0 by unfold remN; rw [he]; rfl) (show remD n D (i : Int) = D by unfold remD; rw [he]; rfl)))
    clear hd he hf
    go_enter Try.func15, Try.ntmps15
    go_wp2_with fail
    refine (can31 p n D (i : Int) w H.out).mono ?_
    rw [hc.out]
    rintro x w1 ⟨rfl, rfl⟩
    go_wp2_with fail
    go_ret2
    exact ⟨by rw [HD.out.1, HD.out.2.1]; rfl, by rw [HD.out.2.2]; exact LeftAt.same H.out⟩
  | true =>
    rw [hf] at r1
    have he : remE n D (i : Int) = 0 := by unfold remE; rw [if_pos hd, Int.toNat_natCast, if_pos hf]
    have HD := Lib.hid (And.intro he (And.intro (show remN n D (i : Int) = D.b i by unfold remN; rw [if_pos he, Int.toNat_natCast]) (show remD n D (i : Int) = setF (setB D i 0) i false by unfold remD; rw [if_pos he, Int.toNat_natCast])))
    clear hd he hf
    have f0 := H.out.thaw (1 + i * 3)
    have f1 := H.out.thaw (1 + i * 3 + 1)
    go_enter Try.func15, Try.ntmps15
    go_wp2_with fail
    refine (can31 p n D (i : Int) w H.out).mono ?_
    rw [hc.out]
    rintro x w1 ⟨rfl, rfl⟩
    go_wp2_with fail
    go_ret2
    exact ⟨by rw [HD.out.1, HD.out.2.1]; rfl, by rw [HD.out.2.2]; exact ⟨(H.out.setB i (by omega) 0).setF i (by omega) false, grown_set (grown_set (grown_refl _ _) _ _) _ _⟩⟩
end Go.Proofs.Ytdallemhhdfemaa
