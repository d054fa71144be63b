/- A ride's cells, by its place. -/
import Derived.Test.YtfdidnfkcmbgiaaWalkD
namespace Go.Proofs.Ytfdidnfkcmbgiaa
theorem SlR.cell {w : World} {b o n : Nat} {r d a : Nat → Int} (h : SlR w (some ⟨b, o, none⟩) n r d a) (k : Nat) (hk : k < n) :
    w.cell? ⟨b, o + k * 3, none⟩ = some (.int .i64 (r k)) ∧ w.cell? ⟨b, o + k * 3 + 1, none⟩ = some (.int .i64 (d k)) ∧ w.cell? ⟨b, o + k * 3 + 2, none⟩ = some (.int .i64 (a k)) := by
  obtain ⟨b', o', h1, h2, h3⟩ := h (by omega)
  injection h1 with h1; injection h1 with h4 h5; subst h4 h5
  exact h3 k hk

end Go.Proofs.Ytfdidnfkcmbgiaa
