/- Appending reservations to a list of the call's own. -/
import Derived.Test.YtmfkkmonedgdnaaROwn
import Derived.Test.YtmfkkmonedgdnaaRM2
import Derived.Maps.AppendAt
import Derived.Deep.RegionHeld3
namespace Go.Proofs.Ytmfkkmonedgdnaa
open Go.RowKit
set_option linter.unusedVariables false

/-- the slice v is the call's own (blocks from B on): n reservations -/
def OwnA (w : World) (B : Nat) (v : Value) (n : Nat) (g : Nat → Nat → Int) : Prop := w.ownsRow B 26 5 v n (flatC n g)
theorem OwnA.nil (w : World) (B : Nat) (g : Nat → Nat → Int) : OwnA w B (.slice none 0 0) 0 g := World.ownsRow_nil w B 26 5
theorem OwnA.made (w : World) (B q : Nat) (hq : q = w.heap.size) (hB : B ≤ w.heap.size) (g : Nat → Nat → Int) : OwnA (w.alloc (.cells #[] 26)) B (.slice (some ⟨q, 0, none⟩) 0 0) 0 g := by
  subst hq; exact World.ownsRow_made (size := 5) w #[] 0 hB (Nat.zero_le _) rfl
theorem OwnA.form {w : World} {B : Nat} {v : Value} {n : Nat} {g : Nat → Nat → Int} (h : OwnA w B v n g) : ∃ A c, v = .slice A n c ∧ FlatRd w A n 5 g ∧ n ≤ c := by
  have h0 := h
  obtain ⟨hl, h1⟩ := h
  rcases h1 with ⟨rfl, rfl⟩ | ⟨p, cap, cur, rfl, hb, hg, hn, hm, hcs, htk⟩
  · exact ⟨none, 0, rfl, fun h => absurd h (by omega), Nat.le_refl _⟩
  · refine ⟨_, _, rfl, fun hn0 => ⟨p, 0, rfl, (Array.getElem?_eq_some_iff.1 hg).1, fun i hi j hj => ?_⟩, hn⟩
    have := World.ownsRow.cells h0 (g := p) rfl (i * 5 + j) _ (flatC_at n g i j hi hj)
    have hadd : (⟨p, 0, none⟩ : Addr).add (i * 5 + j) = ⟨p, 0 + (i * 5 + j), none⟩ := by unfold Addr.add; split <;> simp_all
    rw [hadd] at this
    rw [Nat.add_assoc]
    exact this
theorem OwnA.bel {w w' : World} {B : Nat} {v : Value} {n : Nat} {g : Nat → Nat → Int} (h : OwnA w B v n g) (hb : Below w.heap.size w w') : OwnA w' B v n g :=
  World.ownsRow.kept (row := none) h ⟨hb.os, hb.tape, hb.output, hb.size, fun k hk _ => hb.block k hk⟩ (by cases hv : v.ownBlock <;> simp)
theorem OwnA.alloc {w : World} {B : Nat} {v : Value} {n : Nat} {g : Nat → Nat → Int} (h : OwnA w B v n g) (o : Obj) : OwnA (w.alloc o) B v n g := h.bel (box_bel w o)
theorem OwnA.drew {w : World} {B : Nat} {v : Value} {n : Nat} {g : Nat → Nat → Int} (h : OwnA w B v n g) : OwnA w.drew B v n g := h
theorem K5.newq (w : World) (q : Nat) (hq : q = w.heap.size) (a b c d e : Int) : K5 (w.alloc (.cells #[.int .i64 a, .int .i64 b, .int .i64 c, .int .i64 d, .int .i64 e] 26)) q a b c d e := by subst hq; exact K5.new w a b c d e 26

theorem K5.grown {w w' : World} {q : Nat} {a b c d e : Int} {row : Option Nat} (h : K5 w q a b c d e) (hg : w.grownBy w' row) (hne : some q ≠ row) : K5 w' q a b c d e := by
  have hb := hg.block q h.1 hne
  have hc : ∀ i, w'.cell? ⟨q, i, none⟩ = w.cell? ⟨q, i, none⟩ := fun i => by simp only [World.cell?, hb]
  refine ⟨Nat.lt_of_lt_of_le h.1 hg.size, ?_⟩
  rw [hc 0, hc 1, hc 2, hc 3, hc 4]
  exact h.2
/-- one list behind another -/
def catG (n : Nat) (g h : Nat → Nat → Int) (i j : Nat) : Int := if i < n then g i j else h (i - n) j
theorem flatC_cat (n m : Nat) (g h : Nat → Nat → Int) : flatC n g ++ flatC m h = flatC (n + m) (catG n g h) := by
  have h1 := flatC_len n g
  have h2 := flatC_len m h
  refine flatC_ext (by rw [List.length_append]; omega) (fun i j hi hj => ?_)
  unfold catG
  by_cases hin : i < n
  · rw [List.getElem?_append_left (by omega), if_pos hin]; exact flatC_at n g i j hin hj
  · rw [List.getElem?_append_right (by omega), if_neg hin]
    have : i * 5 + j - (flatC n g).length = (i - n) * 5 + j := by omega
    rw [this]
    exact flatC_at m h (i - n) j (by omega) hj
theorem OwnA.congr {w : World} {B : Nat} {v : Value} {n : Nat} {g g' : Nat → Nat → Int} (h : OwnA w B v n g) (hg : ∀ i j, i < n → j < 5 → g i j = g' i j) : OwnA w B v n g' := by
  unfold OwnA
  rw [← flatC_ext (flatC_len n g) (fun i j hi hj => by rw [flatC_at n g i j hi hj, hg i j hi hj])]
  exact h

/-- what append(v, l...) gives -/
theorem run_app_list (w : World) (ty : TypeId) {B : Nat} {v : Value} {n : Nat} {g : Nat → Nat → Int} (hown : OwnA w B v n g) {A : Option Addr} {m c : Nat} {h : Nat → Nat → Int} (hr : FlatRd w A m 5 h) (hA : A = none → c = 0)
    (hn : n + m ≤ 100000) (hB : B ≤ w.heap.size) :
    ∃ v' w', (Builtin.append_ #[22, 22] ty #[v, .slice A m c]).run Try.prog w = .ok v' w' ∧ OwnA w' B v' (n + m) (catG n g h) ∧ Below B w w' ∧ w.grownBy w' v.ownBlock := by
  obtain ⟨i0, hi, hz0, hz1, hz2⟩ := info_parts isHold
  cases A with
  | none =>
    have hm : m = 0 := by
      rcases Nat.eq_zero_or_pos m with hm | hm
      · exact hm
      · obtain ⟨_, _, e1, _⟩ := hr hm; cases e1
    subst hm
    have hc := hA rfl
    subst hc
    refine ⟨v, w, run_append_owned_none (P := Try.prog) w B 22 ty 26 i0 5 Try.underlying22 hi v n _ hown, hown.congr (fun i j hi hj => by unfold catG; rw [if_pos hi]), Below.refl _ _, ⟨rfl, rfl, rfl, Nat.le_refl _, fun _ _ _ => rfl⟩⟩
  | some ad =>
    obtain ⟨v', w', hrun, h1, h2, _, _⟩ := run_append_own_at (P := Try.prog) w B 22 ty 26 i0 _ 5 40 Try.underlying22 hi hz0 hz1 hz2 rfl (by omega) v n _ hown ad m c (flatC m h) (flatC_len m h) (fun j u hj => by
      have hjm : j < m * 5 := by have := (List.getElem?_eq_some_iff.1 hj).1; rwa [flatC_len] at this
      obtain ⟨b, o, e1, hbw, hc⟩ := hr (by omega)
      injection e1 with e1
      subst e1
      rw [flatC_get m h j hjm] at hj
      injection hj with hj
      subst hj
      have := hc (j / 5) (by omega) (j % 5) (by omega)
      rw [show o + j / 5 * 5 + j % 5 = o + j by omega] at this
      by_cases hj0 : j = 0
      · subst hj0; simpa [Addr.add] using this
      · simpa [Addr.add, hj0] using this) (fun u hu => by
      obtain ⟨q, _, rfl⟩ := List.mem_map.1 hu; rfl) (by unfold maxLen; omega) (by omega) hB
    refine ⟨v', w', hrun, ?_, (Below.refl B w).grown h2 hB (fun k hk => (World.ownsRow.lt hown k hk).1), h2⟩
    unfold OwnA
    rw [← flatC_cat]
    exact h1

theorem app_list {ops : Array Oper} {rest : List Oper} {o : Oper} {a : Act} {Q : Exit → Act → World → Prop} (w : World) (hgd : o.guard = none) (s x : Operand)
    (ho : o.op = .call { callee := .builtin .append, args := #[s, x], argTypes := #[22, 22] }) {B : Nat} {v : Value} {n : Nat} {g : Nat → Nat → Int} (hs : a.eval s = v) (hown : OwnA w B v n g) {A : Option Addr} {m c : Nat} {h : Nat → Nat → Int}
    (hx : a.eval x = .slice A m c) (hr : FlatRd w A m 5 h) (hA : A = none → c = 0) (hn : n + m ≤ 100000) (hB : B ≤ w.heap.size)
    (K : ∀ v' w', OwnA w' B v' (n + m) (catG n g h) → Below B w w' → w.grownBy w' v.ownBlock → wpList Try.prog ops Q rest (a.put o.dst v') w') : wpList Try.prog ops Q (o :: rest) a w := by
  obtain ⟨v', w', hrun, h1, h2, h3⟩ := run_app_list w o.type hown hr hA hn hB
  refine wpList_plain hgd fun K' hK' => ?_
  unfold Oper.wp execOp
  simp only [ho, resolve, invoke, builtin, Sem.run_bind, Sem.run_pure, Result.andThen_ok, List.map_toArray, List.map_cons, List.map_nil, hs, hx, hrun]
  exact hK' _ _ (K v' w' h1 h2 h3)
theorem step_list {ops : Array Oper} {o : Oper} {a : Act} {w : World} {K : Act → World → Prop} {Q : Exit → Act → World → Prop} {E : Prop} (hgd : o.guard = none) (s x : Operand)
    (ho : o.op = .call { callee := .builtin .append, args := #[s, x], argTypes := #[22, 22] }) {B : Nat} {v : Value} {n : Nat} {g : Nat → Nat → Int} (hs : a.eval s = v) (hown : OwnA w B v n g) {A : Option Addr} {m c : Nat} {h : Nat → Nat → Int}
    (hx : a.eval x = .slice A m c) (hr : FlatRd w A m 5 h) (hA : A = none → c = 0) (hn : n + m ≤ 100000) (hB : B ≤ w.heap.size)
    (hK : ∀ v' w', OwnA w' B v' (n + m) (catG n g h) → Below B w w' → w.grownBy w' v.ownBlock → K (a.put o.dst v') w') :
    if Region.wanted o (yielded ops a.tmps) = true then Oper.wp Try.prog o a w K Q else E := by
  have hw : Region.wanted o (yielded ops a.tmps) = true := by simp [Region.wanted, hgd]
  rw [if_pos hw]
  obtain ⟨v', w', hrun, h1, h2, h3⟩ := run_app_list w o.type hown hr hA hn hB
  unfold Oper.wp execOp
  simp only [ho, resolve, invoke, builtin, Sem.run_bind, Sem.run_pure, Result.andThen_ok, List.map_toArray, List.map_cons, List.map_nil, hs, hx, hrun]
  exact hK v' w' h1 h2 h3
/-- the same, where it must first be seen what another slot holds: an arm that does not fit fails at once -/
theorem step_listC {ops : Array Oper} {o : Oper} {a : Act} {w : World} {K : Act → World → Prop} {Q : Exit → Act → World → Prop} {E : Prop} (z : Operand) (V : Value) (hz : a.eval z = V) (hgd : o.guard = none) (s x : Operand)
    (ho : o.op = .call { callee := .builtin .append, args := #[s, x], argTypes := #[22, 22] }) {B : Nat} {v : Value} {n : Nat} {g : Nat → Nat → Int} (hs : a.eval s = v) (hown : OwnA w B v n g) {A : Option Addr} {m c : Nat} {h : Nat → Nat → Int}
    (hx : a.eval x = .slice A m c) (hr : FlatRd w A m 5 h) (hA : A = none → c = 0) (hn : n + m ≤ 100000) (hB : B ≤ w.heap.size)
    (hK : ∀ v' w', OwnA w' B v' (n + m) (catG n g h) → Below B w w' → w.grownBy w' v.ownBlock → K (a.put o.dst v') w') :
    if Region.wanted o (yielded ops a.tmps) = true then Oper.wp Try.prog o a w K Q else E := step_list hgd s x ho hs hown hx hr hA hn hB hK
/-- a block with one reservation, as a list -/
theorem K5.rd {w : World} {q : Nat} {a b c d e : Int} (h : K5 w q a b c d e) (n : Nat) : FlatRd w (some ⟨q, 0, none⟩) 1 5 (fun i j => addG 0 (fun _ _ => 0) a b c d e i j) := fun _ =>
  ⟨q, 0, rfl, h.1, fun i hi j hj => by
    obtain rfl : i = 0 := by omega
    match j, hj with
    | 0, _ => exact h.2.1
    | 1, _ => exact h.2.2.1
    | 2, _ => exact h.2.2.2.1
    | 3, _ => exact h.2.2.2.2.1
    | 4, _ => exact h.2.2.2.2.2⟩
end Go.Proofs.Ytmfkkmonedgdnaa
