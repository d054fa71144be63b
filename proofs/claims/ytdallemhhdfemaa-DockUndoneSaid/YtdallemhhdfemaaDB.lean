/- The walks of Find, New, Bike, Order, Remove, Insert of the program. -/
import Derived.Test.YtdallemhhdfemaaDA
import Derived.Lib.Hide
import Derived.Deep.QuietTactic
import Derived.BigQuiet
namespace Go.Proofs.Ytdallemhhdfemaa
open Go.RowKit
set_option maxHeartbeats 4000000
set_option maxRecDepth 100000
set_option linter.unusedVariables false

/-- the first place below n at which p holds (n if there is none) -/
def firstI (p : Nat → Bool) : Nat → Nat
  | 0 => 0
  | k + 1 => if firstI p k < k then firstI p k else if p k = true then k else k + 1
theorem firstI_none {p : Nat → Bool} : ∀ {n : Nat}, (∀ i, i < n → p i = false) → firstI p n = n := by
  intro n
  induction n with
  | zero => intro _; rfl
  | succ n ih =>
    intro h
    unfold firstI
    rw [ih (fun i hi => h i (by omega)), if_neg (by omega), if_neg (by rw [h n (by omega)]; decide)]
theorem firstI_hit {p : Nat → Bool} {k : Nat} (h1 : ∀ i, i < k → p i = false) (h2 : p k = true) : ∀ {n : Nat}, k < n → firstI p n = k := by
  intro n
  induction n with
  | zero => intro h; omega
  | succ n ih =>
    intro h
    unfold firstI
    by_cases hk : k < n
    · rw [ih hk, if_pos hk]
    · have : k = n := by omega
      subst this
      rw [firstI_none h1, if_neg (by omega), if_pos h2]

/-- is the bicycle in the i-th dock? -/
def inD (D : Dk) (bike : Int) (i : Nat) : Bool := D.f i && (D.b i == bike)
def fiN (n : Nat) (D : Dk) (bike : Int) : Int := if firstI (inD D bike) n < n then (firstI (inD D bike) n : Int) else 0
def fiF (n : Nat) (D : Dk) (bike : Int) : Bool := decide (firstI (inD D bike) n < n)
theorem fi_none {n : Nat} {D : Dk} {bike : Int} (h : ∀ i, i < n → inD D bike i = false) : fiN n D bike = 0 ∧ fiF n D bike = false := by
  unfold fiN fiF; rw [firstI_none h]; simp
theorem fi_hit {n k : Nat} {D : Dk} {bike : Int} (h : ∀ i, i < k → inD D bike i = false) (hk : inD D bike k = true) (hn : k < n) : fiN n D bike = k ∧ fiF n D bike = true := by
  unfold fiN fiF; rw [firstI_hit h hk hn]; simp [hn]

theorem find17 (p n : Nat) (D : Dk) (bike : Int) (w : World) (h : Sta w p n D) : Calls Try.prog 17 #[ptr p, .int .i64 bike] w fun x w' => x = .returned (.tuple #[.int .i64 (fiN n D bike), .bool (fiF n D bike)]) ∧ w = w' := by
  have H := Lib.hid h
  have c0 := h.c0
  have hn := h.n2
  clear h
  go_enter Try.func17, Try.ntmps17
  go_wp2_with fail
  go_loopw [13] (fun i wr => ∃ k : Nat, k ≤ n ∧ i = .int .i64 k ∧ Hid (∀ i, i < k → inD D bike i = false) ∧ w = wr) (fun i _ => n - (intOf i).toNat)
  case atStart => exact ⟨0, by omega, rfl, Lib.hid (fun i hi => absurd hi (by omega)), rfl⟩
  case round =>
    obtain ⟨k, hk, rfl, Hs, rfl⟩ := hrel
    by_cases hlt : k < n
    case neg =>
      have hkn : k = n := by omega
      subst hkn
      have HN := Lib.hid (fi_none Hs.out)
      have hltI : ¬ (k : Int) < (k : Int) := by omega
      go_wp2_with fail
      go_ret2
      exact ⟨by rw [HN.out.1, HN.out.2]; rfl, rfl⟩
    obtain ⟨r0, r1, r2⟩ := H.out.row k (by omega)
    have hltI : (k : Int) < (n : Int) := by omega
    have hlt32 : (k : Int) < 32 := by omega
    cases hf : D.f k with
    | false =>
      rw [hf] at r1
      have HN : Hid (∀ i, i < k + 1 → inD D bike i = false) := Lib.hid (fun i hi => by
        by_cases hik : i = k
        · subst hik; unfold inD; rw [hf]; rfl
        · exact Hs.out i (by omega))
      clear hf
      go_wp2_with fail
      go_roundw
      case rel => exact ⟨k + 1, by omega, by go_num, HN, by first | rfl | trivial⟩
      case measure => simp [intOf]; omega
    | true =>
      rw [hf] at r1
      cases hb : (D.b k == bike) with
      | false =>
        have HN : Hid (∀ i, i < k + 1 → inD D bike i = false) := Lib.hid (fun i hi => by
          by_cases hik : i = k
          · subst hik; unfold inD; rw [hf, hb]; rfl
          · exact Hs.out i (by omega))
        clear hf
        go_wp2_with fail
        go_roundw
        case rel => exact ⟨k + 1, by omega, by go_num, HN, by first | rfl | trivial⟩
        case measure => simp [intOf]; omega
      | true =>
        have HN := Lib.hid (fi_hit Hs.out (show inD D bike k = true by unfold inD; rw [hf, hb]; rfl) hlt)
        clear hf
        go_wp2_with fail
        go_ret2
        exact ⟨by rw [HN.out.1, HN.out.2]; rfl, rfl⟩
theorem find17_nil (bike : Int) (w : World) : Calls Try.prog 17 #[.pointer none, .int .i64 bike] w fun x w' => x = .returned (.tuple #[.int .i64 0, .bool false]) ∧ w = w' := by
  go_enter Try.func17, Try.ntmps17
  go_wp2_with fail
  go_ret2
  exact ⟨rfl, rfl⟩

def zeroD : Dk := ⟨fun _ => 0, fun _ => false, fun _ => false⟩
end Go.Proofs.Ytdallemhhdfemaa
