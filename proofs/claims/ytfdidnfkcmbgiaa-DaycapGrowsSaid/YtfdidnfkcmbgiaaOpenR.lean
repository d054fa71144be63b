/- A list of rides that came in, as the walks want it. -/
import Derived.Test.YtfdidnfkcmbgiaaOpen
import Derived.Test.YtfdidnfkcmbgiaaWalkD
namespace Go.Proofs.Ytfdidnfkcmbgiaa
open Go.RowKit Go.ChangeShapes Go.WideShapes
theorem okWide_array {P : Program} {w : World} {r : Reach} {b0 : Nat} {t : TypeId} {v : Value} {n : Nat} {e : TypeId} (ht : P.underlying t = some (.array n e)) (h : Value.okWide P w r b0 t v) : ∃ cs, v = .agg cs ∧ cs.size = P.cellsOf t := by
  simp only [Value.okWide, ht] at h
  obtain ⟨cs, h1, h2, _⟩ := h
  exact ⟨cs, h1, h2⟩
theorem rides {w : World} {A : Option Addr} {n : Nat} {g : Nat → Nat → Int} (h : FlatRd w A n 3 g) : SlR w A n (fun i => g i 0) (fun i => g i 1) (fun i => g i 2) := fun hn => by
  obtain ⟨b, o, h1, h2, h3⟩ := h hn
  exact ⟨b, o, h1, h2, fun j hj => ⟨h3 j hj 0 (by omega), h3 j hj 1 (by omega), h3 j hj 2 (by omega)⟩⟩
theorem wf_u8 {q : Int} (h : (Lit.int .u8 q).wf = true) : 0 ≤ q ∧ q ≤ 255 := by
  simpa [Lit.wf, IntKind.min, IntKind.max, IntKind.signed, IntKind.bits] using h
end Go.Proofs.Ytfdidnfkcmbgiaa
