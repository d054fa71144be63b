/- An array that came in by value. -/
import Derived.Test.YtdallemhhdfemaaOpen
namespace Go.Proofs.Ytdallemhhdfemaa
open Go.ChangeShapes Go.WideShapes
theorem okWide_array {P : Program} {w : World} {r : Reach} {b0 : Nat} {t : TypeId} {v : Value} {n : Nat} {e : TypeId} (ht : P.underlying t = some (.array n e)) (h : Value.okWide P w r b0 t v) : ∃ cs, v = .agg cs ∧ cs.size = P.cellsOf t := by
  simp only [Value.okWide, ht] at h
  obtain ⟨cs, h1, h2, _⟩ := h
  exact ⟨cs, h1, h2⟩
end Go.Proofs.Ytdallemhhdfemaa
