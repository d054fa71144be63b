/- Appending a whole list of slices to a list of the call's own: append([][]T{}, l...). -/
import Derived.Test.YtnfgbghjdmimgaaNest
import Derived.Test.YtnfgbghjdmimgaaMade
namespace Go.Proofs.Ytnfgbghjdmimgaa
open Go.RowKit

theorem own_none {P : Program} (w : World) {ops : Array Oper} {rest : List Oper} {o : Oper} {a : Act} {Q : Exit → Act → World → Prop} (hgd : o.guard = none) (s x : Operand) (t : TypeId)
    (ho : o.op = .call { callee := .builtin .append, args := #[s, x], argTypes := #[t, t] }) {e : TypeId} (ht : P.underlying t = some (.slice e)) {i : TypeInfo} (hi : P.info? e = some i)
    {B size : Nat} {v : Value} {n : Nat} {xs : List Value} (hs : a.eval s = v) (hx : a.eval x = .slice none 0 0) (hown : w.ownsRow B e size v n xs)
    (h : wpList P ops Q rest (a.put o.dst v) w) : wpList P ops Q (o :: rest) a w := by
  refine wpList_plain hgd fun K hK => ?_
  have hr := run_append_owned_none (P := P) w B t o.type e i size ht hi v n xs hown
  unfold Oper.wp execOp
  simp only [ho, resolve, invoke, builtin, Sem.run_bind, Sem.run_pure, Result.andThen_ok, List.map_toArray, List.map_cons, List.map_nil, hs, hx, hr]
  exact hK _ _ h

/-- an element type that is a slice: one cell of 24 bytes -/
def IsRow (P : Program) (e : TypeId) : Prop := (P.info? e).map (fun i => (i.zero, i.size, i.bytes)) = some (some (.slice none 0 0), 1, 24)

theorem app_rows {P : Program} (w : World) {ops : Array Oper} {rest : List Oper} {o : Oper} {a : Act} {Q : Exit → Act → World → Prop} (hgd : o.guard = none) (s x : Operand) (t : TypeId)
    (ho : o.op = .call { callee := .builtin .append, args := #[s, x], argTypes := #[t, t] }) {e : TypeId} (ht : P.underlying t = some (.slice e)) (he : IsRow P e)
    {B : Nat} {v : Value} {n : Nat} {xs : List Value} (hs : a.eval s = v) (hown : w.ownsRow B e 1 v n xs) {A : Option Addr} {m c : Nat} (hx : a.eval x = .slice A m c)
    (news : List Value) (hl : news.length = m) (hnews : 0 < m → ∃ b o, A = some ⟨b, o, none⟩ ∧ ∀ j u, news[j]? = some u → w.cell? ⟨b, o + j, none⟩ = some u) (hnil : A = none → c = 0)
    (h1 : ∀ u ∈ news, u.oneCell' = true) (hn : n + m ≤ 1000) (hB : B ≤ w.heap.size)
    (h : ∀ v' w', w'.ownsRow B e 1 v' (n + m) (xs ++ news) → Below B w w' → wpList P ops Q rest (a.put o.dst v') w') :
    wpList P ops Q (o :: rest) a w := by
  obtain ⟨i0, hi, hz0, hz1, hz2⟩ := info_parts he
  cases A with
  | none =>
    have hm : m = 0 := by
      rcases Nat.eq_zero_or_pos m with hm | hm
      · exact hm
      · obtain ⟨_, _, e1, _⟩ := hnews hm; cases e1
    subst hm
    have hc := hnil rfl
    subst hc
    have hnw : news = [] := List.length_eq_zero_iff.1 hl
    subst hnw
    refine own_none w hgd s x t ho ht hi hs hx hown (h v w ?_ (Below.refl _ _))
    rw [List.append_nil]; exact hown
  | some ad =>
    refine wpList_append_own_at _ hgd s x t ho B e i0 (.slice none 0 0) 1 24 ht hi hz0 hz1 hz2 rfl (by omega) v n xs hs hown ad m c news hx (by omega) ?_ h1
      (by unfold maxLen; omega) (by omega) hB ?_
    · intro j u hj
      have hm : 0 < m := by have := (List.getElem?_eq_some_iff.1 hj).1; omega
      obtain ⟨b, o', e1, h2⟩ := hnews hm
      injection e1 with e1
      subst e1
      have := h2 j u hj
      by_cases hj0 : j = 0
      · subst hj0; simpa [Addr.add] using this
      · simpa [Addr.add, hj0] using this
    · intro v' w' hown' hg _ _
      exact h v' w' hown' ((Below.refl B w).grown hg hB (fun k hk => (World.ownsRow.lt hown k hk).1))

/-- the values of a list of slices -/
theorem Elems.list {w : World} {A : Option Addr} {n : Nat} {f : Nat → Nat × (Nat → Int)} (h : Elems RowV w A n f) :
    ∃ news : List Value, news.length = n ∧ (∀ w', Below w.heap.size w w' → 0 < n → ∃ b o, A = some ⟨b, o, none⟩ ∧ ∀ j u, news[j]? = some u → w'.cell? ⟨b, o + j, none⟩ = some u) ∧
      (∀ j, j < n → ∃ u, news[j]? = some u ∧ RowV w (f j) u) ∧ ∀ u ∈ news, u.oneCell' = true := by
  rcases Nat.eq_zero_or_pos n with hn | hn
  · subst hn
    exact ⟨[], rfl, fun _ _ h => by omega, fun j hj => by omega, fun u hu => by cases hu⟩
  · obtain ⟨b, o, h1, h2, h3⟩ := h hn
    have key : ∀ i, ∃ u : Value, i < n → w.cell? ⟨b, o + i, none⟩ = some u ∧ RowV w (f i) u := by
      intro i
      by_cases hi : i < n
      · obtain ⟨u, hu⟩ := h3 i hi; exact ⟨u, fun _ => hu⟩
      · exact ⟨.slice none 0 0, fun h => absurd h hi⟩
    obtain ⟨U, hU⟩ := Classical.axiomOfChoice key
    refine ⟨(List.range n).map U, by simp, fun w' hb _ => ⟨b, o, h1, fun j u hj => ?_⟩, fun j hj => ⟨U j, by simp [hj], (hU j hj).2⟩, fun u hu => ?_⟩
    · have hjn : j < n := by have := (List.getElem?_eq_some_iff.1 hj).1; simpa using this
      have e1 : u = U j := by simp [hjn] at hj; exact hj.symm
      rw [e1]
      exact (hb.cell (p := ⟨b, o + j, none⟩) h2).trans (hU j hjn).1
    · obtain ⟨i, hi, rfl⟩ := List.mem_map.1 hu
      obtain ⟨A', c', e1, _⟩ := (hU i (List.mem_range.1 hi)).2
      rw [e1]; rfl

/-- a list of slices that the call has made reads -/
theorem own_elems {w : World} {B e : Nat} {v : Value} {n : Nat} {xs : List Value} (h : w.ownsRow B e 1 v n xs) (f : Nat → Nat × (Nat → Int)) (hf : ∀ i, i < n → ∃ u, xs[i]? = some u ∧ RowV w (f i) u) :
    ∃ A c, v = .slice A n c ∧ Elems RowV w A n f := by
  have h0 := h
  obtain ⟨hl, h1⟩ := h
  rcases h1 with ⟨rfl, rfl⟩ | ⟨g, cap, cur, rfl, hb, hg, hn, hm, hcs, htk⟩
  · exact ⟨none, 0, rfl, fun h => by omega⟩
  · refine ⟨_, _, rfl, fun hn0 => ⟨g, 0, rfl, (Array.getElem?_eq_some_iff.1 hg).1, fun j hj => ?_⟩⟩
    obtain ⟨u, hu, hr⟩ := hf j hj
    refine ⟨u, ?_, hr⟩
    have := World.ownsRow.cells h0 (g := g) rfl j u hu
    by_cases hj0 : j = 0
    · subst hj0; simpa [Addr.add] using this
    · simpa [Addr.add, hj0] using this

section
variable {H : Type} {enc : TypeId × Value → H} {P : Program} {w : World} {base : Nat} {spare : Nat → Bool} {held : Bool}
/-- a nil slice that came in has no room -/
theorem nil_room {t e : TypeId} {A : Option Addr} {n c : Nat} {d : DataW H} {p : List MemPlace} (ht : P.underlying t = some (.slice e)) (h : DataW.Trod enc P w base spare held t (.slice A n c) d p) : A = none → c = 0 := by
  obtain ⟨fuel, hf⟩ := h
  rcases Deep.open_slice ht hf with ⟨hcs, _⟩ | ⟨a', len', cap', m, n', D, Pl, hcs, _⟩
  · simp [Value.cells] at hcs
    exact fun _ => hcs.2.2
  · simp [Value.cells] at hcs
    rw [hcs.1]; intro h; cases h
end
end Go.Proofs.Ytnfgbghjdmimgaa
