/- Slices of slices that are read: their opening, and how they stay. -/
import Derived.Test.YtnfgbghjdmimgaaBase
import Derived.Test.YtnfgbghjdmimgaaOpen
namespace Go.Proofs.Ytnfgbghjdmimgaa
open Go.RowKit Go.ChangeShapes Go.WideShapes Go.ChangeAt

/-- the slice with array A and n elements (one cell each) reads in w: element i is what Q says of f i -/
def Elems {α : Type} (Q : World → α → Value → Prop) (w : World) (A : Option Addr) (n : Nat) (f : Nat → α) : Prop :=
  0 < n → ∃ b o, A = some ⟨b, o, none⟩ ∧ b < w.heap.size ∧ ∀ i, i < n → ∃ u, w.cell? ⟨b, o + i, none⟩ = some u ∧ Q w (f i) u
/-- what stays where nothing that was there is written -/
def Stays {α : Type} (Q : World → α → Value → Prop) : Prop := ∀ w w' x u, Q w x u → Below w.heap.size w w' → Q w' x u
theorem Elems.bel {α : Type} {Q : World → α → Value → Prop} (hQ : Stays Q) {w w' : World} {A : Option Addr} {n : Nat} {f : Nat → α} (h : Elems Q w A n f) (hb : Below w.heap.size w w') : Elems Q w' A n f := fun hn => by
  obtain ⟨b, o, h1, h2, h3⟩ := h hn
  refine ⟨b, o, h1, Nat.lt_of_lt_of_le h2 hb.size, fun i hi => ?_⟩
  obtain ⟨u, hu, hq⟩ := h3 i hi
  exact ⟨u, (hb.cell (p := ⟨b, o + i, none⟩) h2).trans hu, hQ _ _ _ _ hq hb⟩
theorem Elems.at_ {α : Type} {Q : World → α → Value → Prop} {w : World} {A : Option Addr} {n : Nat} {f : Nat → α} (h : Elems Q w A n f) (i : Nat) (hi : i < n) :
    ∃ b o u, A = some ⟨b, o, none⟩ ∧ b < w.heap.size ∧ w.cell? ⟨b, o + i, none⟩ = some u ∧ Q w (f i) u := by
  obtain ⟨b, o, h1, h2, h3⟩ := h (by omega)
  obtain ⟨u, hu, hq⟩ := h3 i hi
  exact ⟨b, o, u, h1, h2, hu, hq⟩

/-- a value that is a slice of ints -/
def RowV (w : World) (x : Nat × (Nat → Int)) (u : Value) : Prop := ∃ A c, u = .slice A x.1 c ∧ SlI w A x.1 x.2 ∧ x.1 ≤ 9223372036854775807
theorem rowV_stays : Stays RowV := fun w w' x u h hb => by
  obtain ⟨A, c, h1, h2, h3⟩ := h
  exact ⟨A, c, h1, h2.bel hb, h3⟩
/-- a value that is a slice of slices of ints -/
def RowsV (w : World) (x : Nat × (Nat → Nat × (Nat → Int))) (u : Value) : Prop := ∃ A c, u = .slice A x.1 c ∧ Elems RowV w A x.1 x.2 ∧ x.1 ≤ 9223372036854775807
theorem rowsV_stays : Stays RowsV := fun w w' x u h hb => by
  obtain ⟨A, c, h1, h2, h3⟩ := h
  exact ⟨A, c, h1, h2.bel rowV_stays hb, h3⟩

section
variable {H : Type} {enc : TypeId × Value → H} {P : Program} {w : World} {base : Nat} {spare : Nat → Bool} {held : Bool}
theorem open_elems {α : Type} (Q : World → α → Value → Prop) (y0 : α) {t e : TypeId} {v : Value} {d : DataW H} {p : List MemPlace} (ht : P.underlying t = some (.slice e)) (hk : P.cellsOf e = 1)
    (hel : ∀ (c : Value) fuel x, DataW.trod enc P w base spare held fuel e [c] = some x → ∃ y, Q w y c)
    (hv : ∃ a len cap, v = .slice a len cap) (h : DataW.Trod enc P w base spare held t v d p) :
    ∃ (A : Option Addr) (n c : Nat) (f : Nat → α), v = .slice A n c ∧ Elems Q w A n f ∧ n ≤ 9223372036854775807 ∧ n ≤ c := by
  obtain ⟨a, len, cap, rfl⟩ := hv
  obtain ⟨fuel, hf⟩ := h
  rcases Deep.open_slice ht hf with ⟨hcs, _⟩ | ⟨a', len', cap', m, n', D, Pl, hcs, _, hl, hm, hmm, _, hi⟩
  · simp [Value.cells] at hcs
    obtain ⟨rfl, rfl, rfl⟩ := hcs
    exact ⟨none, 0, 0, fun _ => y0, rfl, fun h => absurd h (by omega), by omega, by omega⟩
  · simp [Value.cells] at hcs
    obtain ⟨rfl, rfl, rfl⟩ := hcs
    rw [hk] at hi
    have key : ∀ i, ∃ y : α, i < len → ∃ u, w.cell? (a'.add i) = some u ∧ Q w y u := by
      intro i
      by_cases him : i < len
      · have hlm : len ≤ m := by rw [hmm]; split <;> omega
        obtain ⟨cs', hc, htr⟩ := hi i (by omega)
        obtain ⟨_, hcl, hat⟩ := World.cells?_some hc
        match cs', hcl with
        | [c], _ =>
          obtain ⟨y, hy⟩ := hel c _ _ htr
          refine ⟨y, fun _ => ⟨c, ?_, hy⟩⟩
          have := hat 0 (by omega)
          simpa [Addr.add] using this
      · exact ⟨y0, fun h => absurd h him⟩
    obtain ⟨f, hf⟩ := Classical.axiomOfChoice key
    refine ⟨some a', len, cap, f, rfl, fun hn => ?_, by have := hm; unfold maxLen at this; omega, hl⟩
    obtain ⟨u0, h0, _⟩ := hf 0 hn
    have hspot := World.cell?_spot h0
    have hblk := World.block_lt_of_cell? w _ h0
    obtain ⟨b, o, sp⟩ := a'
    have hsp : sp = none := by simpa [Addr.add] using hspot
    subst hsp
    have hadd : ∀ x : Nat, (⟨b, o, none⟩ : Addr).add x = ⟨b, o + x, none⟩ := fun x => by
      by_cases hx : x = 0
      · subst hx; simp [Addr.add]
      · simp [Addr.add, hx]
    refine ⟨b, o, rfl, by simpa [Addr.add] using hblk, fun i hi' => ?_⟩
    obtain ⟨u, hu, hq⟩ := hf i hi'
    rw [hadd] at hu
    exact ⟨u, hu, hq⟩

theorem row_el {e e' : TypeId} (hu : P.underlying e = some (.slice e')) (fl : Nat) (hfl : flatB P fl e' = true) (hk : P.cellsOf e' = 1) (c : Value) (fuel : Nat) (x : DataW H × List MemPlace)
    (h : DataW.trod enc P w base spare held fuel e [c] = some x) : ∃ y, RowV w y c := by
  have hc : ∃ a len cap, c = .slice a len cap := by
    rcases Deep.open_slice hu h with ⟨hcs, _⟩ | ⟨a', len', cap', m, n', D, Pl, hcs, _⟩
    · simp only [List.cons.injEq, and_true] at hcs
      exact ⟨none, 0, 0, hcs⟩
    · simp only [List.cons.injEq, and_true] at hcs
      exact ⟨some a', len', cap', hcs⟩
  obtain ⟨a, len, cap, rfl⟩ := hc
  obtain ⟨A, n, c, g, h1, h2, h3, _, _⟩ := open_flat_slice (k := 1) (d := x.1) (p := x.2) hu fl hfl hk (by omega) ⟨a, len, cap, rfl⟩ ⟨fuel, h⟩
  exact ⟨(n, fun i => g i 0), A, c, h1, h2.ints, h3⟩
theorem rows_el {e e' e'' : TypeId} (hu : P.underlying e = some (.slice e')) (hu' : P.underlying e' = some (.slice e'')) (fl : Nat) (hfl : flatB P fl e'' = true) (hk : P.cellsOf e'' = 1) (hk' : P.cellsOf e' = 1) (c : Value) (fuel : Nat) (x : DataW H × List MemPlace)
    (h : DataW.trod enc P w base spare held fuel e [c] = some x) : ∃ y, RowsV w y c := by
  have hc : ∃ a len cap, c = .slice a len cap := by
    rcases Deep.open_slice hu h with ⟨hcs, _⟩ | ⟨a', len', cap', m, n', D, Pl, hcs, _⟩
    · simp only [List.cons.injEq, and_true] at hcs
      exact ⟨none, 0, 0, hcs⟩
    · simp only [List.cons.injEq, and_true] at hcs
      exact ⟨some a', len', cap', hcs⟩
  obtain ⟨a, len, cap, rfl⟩ := hc
  obtain ⟨A, n, c, g, h1, h2, h3, _⟩ := open_elems (d := x.1) (p := x.2) RowV (0, fun _ => 0) hu hk' (row_el hu' fl hfl hk) ⟨a, len, cap, rfl⟩ ⟨fuel, h⟩
  exact ⟨(n, g), A, c, h1, h2, h3⟩
end
end Go.Proofs.Ytnfgbghjdmimgaa
