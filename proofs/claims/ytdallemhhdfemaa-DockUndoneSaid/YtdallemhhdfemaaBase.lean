/- Plain words for the walks of this seat: slices of integers that are read, slices that the call itself appends to. No statement of the program. -/
import Derived.WalkKit
import Derived.WalkSpells
import Derived.WalkLawsBesides
import Derived.Lib.Hide
import Derived.Deep.QuietTactic
import Derived.BigQuiet
import Derived.Maps.AppendAt
namespace Go.Proofs.Ytdallemhhdfemaa
open Go.RowKit

theorem ret_int {k : IntKind} {a b : Int} (h : a = b) : Ending.returned (.int k a) = .returned (.int k b) := by rw [h]
theorem ret_bool {a b : Bool} (h : a = b) : Ending.returned (.bool a) = .returned (.bool b) := by rw [h]

/-- the slice with array A and n elements reads in w: the integers f 0 .. f (n - 1) -/
def SlI (w : World) (A : Option Addr) (n : Nat) (f : Nat → Int) : Prop :=
  0 < n → ∃ b o, A = some ⟨b, o, none⟩ ∧ b < w.heap.size ∧ ∀ j, j < n → w.cell? ⟨b, o + j, none⟩ = some (.int .i64 (f j))

theorem SlI.at_ {w : World} {A : Option Addr} {n : Nat} {f : Nat → Int} (h : SlI w A n f) (k : Nat) (hk : k < n) :
    ∃ b o, A = some ⟨b, o, none⟩ ∧ b < w.heap.size ∧ w.cell? ⟨b, o + k, none⟩ = some (.int .i64 (f k)) := by
  obtain ⟨b, o, h1, h2, h3⟩ := h (by omega)
  exact ⟨b, o, h1, h2, h3 k hk⟩
theorem SlI.cell {w : World} {b o n : Nat} {f : Nat → Int} (h : SlI w (some ⟨b, o, none⟩) n f) (k : Nat) (hk : k < n) : w.cell? ⟨b, o + k, none⟩ = some (.int .i64 (f k)) := by
  obtain ⟨b', o', h1, h2, h3⟩ := h (by omega)
  injection h1 with h1; injection h1 with h4 h5; subst h4 h5
  exact h3 k hk
theorem SlI.nil {w : World} {A : Option Addr} {f : Nat → Int} : SlI w A 0 f := fun h => absurd h (by omega)
theorem SlI.below {w w' : World} {B : Nat} {A : Option Addr} {n : Nat} {f : Nat → Int} (h : SlI w A n f) (hb : Below B w w') (hB : w.heap.size ≤ B) : SlI w' A n f := fun hn => by
  obtain ⟨b, o, h1, h2, h3⟩ := h hn
  exact ⟨b, o, h1, Nat.lt_of_lt_of_le h2 hb.size, fun j hj => (hb.cell (p := ⟨b, o + j, none⟩) (show b < B by omega)).trans (h3 j hj)⟩
theorem SlI.bel {w w' : World} {A : Option Addr} {n : Nat} {f : Nat → Int} (h : SlI w A n f) (hb : Below w.heap.size w w') : SlI w' A n f := h.below hb (Nat.le_refl _)
theorem SlI.drewN {w : World} {A : Option Addr} {n : Nat} {f : Nat → Int} (h : SlI w A n f) (k : Nat) : SlI (w.drewN k) A n f := h
theorem SlI.congr {w : World} {A : Option Addr} {n : Nat} {f g : Nat → Int} (h : SlI w A n f) (hfg : ∀ i, i < n → f i = g i) : SlI w A n g := fun hn => by
  obtain ⟨b, o, h1, h2, h3⟩ := h hn
  exact ⟨b, o, h1, h2, fun j hj => by rw [← hfg j hj]; exact h3 j hj⟩
theorem SlI.take {w : World} {A : Option Addr} {n m : Nat} {f : Nat → Int} (h : SlI w A n f) (hm : m ≤ n) : SlI w A m f := fun hn => by
  obtain ⟨b, o, h1, h2, h3⟩ := h (by omega)
  exact ⟨b, o, h1, h2, fun j hj => h3 j (by omega)⟩
theorem SlI.fn_eq {w : World} {A : Option Addr} {n : Nat} {f g : Nat → Int} (h : SlI w A n f) (h' : SlI w A n g) (i : Nat) (hi : i < n) : f i = g i := by
  obtain ⟨b, o, rfl, h2, h3⟩ := h (by omega)
  have h4 := h'.cell i hi
  rw [h3 i hi] at h4
  simpa using h4

theorem below_drewN {B : Nat} {a w : World} (h : Below B a w) (n : Nat) : Below B a (w.drewN n) := ⟨h.os, h.tape, h.output, h.size, h.block⟩
/-- two steps, each told from where it begins -/
theorem bel_trans {a b c : World} (h : Below a.heap.size a b) (k : Below b.heap.size b c) : Below a.heap.size a c := h.trans (k.mono h.size)

/-- the cells of a list of integers -/
def cellsI (n : Nat) (f : Nat → Int) : List Value := (List.range n).map fun i => .int .i64 (f i)
theorem cellsI_succ (n : Nat) (f : Nat → Int) : cellsI (n + 1) f = cellsI n f ++ [.int .i64 (f n)] := by simp [cellsI, List.range_succ]
theorem cellsI_len (n : Nat) (f : Nat → Int) : (cellsI n f).length = n := by simp [cellsI]
theorem cellsI_get (n : Nat) (f : Nat → Int) (i : Nat) (hi : i < n) : (cellsI n f)[i]? = some (.int .i64 (f i)) := by simp [cellsI, hi]
theorem cellsI_congr {n : Nat} {f g : Nat → Int} (h : ∀ i, i < n → f i = g i) : cellsI n f = cellsI n g := by
  unfold cellsI
  exact List.map_congr_left (fun i hi => by rw [h i (List.mem_range.1 hi)])

/-- the slice v (n elements) is the call's own (blocks from B on; elements of type e): the integers f 0 .. f (n - 1) -/
def OwnI (w : World) (B e : Nat) (v : Value) (n : Nat) (f : Nat → Int) : Prop := w.ownsRow B e 1 v n (cellsI n f)

theorem OwnI.nil (w : World) (B e : Nat) (f : Nat → Int) : OwnI w B e (.slice none 0 0) 0 f := World.ownsRow_nil w B e 1
theorem OwnI.form {w : World} {B e : Nat} {v : Value} {n : Nat} {f : Nat → Int} (h : OwnI w B e v n f) : ∃ A c, v = .slice A n c ∧ SlI w A n f ∧ n ≤ maxLen ∧ n ≤ c := by
  have h0 := h
  obtain ⟨hl, h1⟩ := h
  rcases h1 with ⟨rfl, rfl⟩ | ⟨g, cap, cur, rfl, hb, hg, hn, hm, hcs, htk⟩
  · exact ⟨none, 0, rfl, SlI.nil, Nat.zero_le _, Nat.le_refl _⟩
  · refine ⟨_, _, rfl, fun hn0 => ⟨g, 0, rfl, (Array.getElem?_eq_some_iff.1 hg).1, fun j hj => ?_⟩, Nat.le_trans hn hm, hn⟩
    have := World.ownsRow.cells h0 (g := g) rfl j _ (cellsI_get n f j hj)
    by_cases hj0 : j = 0
    · subst hj0; simpa [Addr.add] using this
    · simpa [Addr.add, hj0] using this
theorem OwnI.congr {w : World} {B e : Nat} {v : Value} {n : Nat} {f g : Nat → Int} (h : OwnI w B e v n f) (hfg : ∀ i, i < n → f i = g i) : OwnI w B e v n g := by
  unfold OwnI; rw [← cellsI_congr hfg]; exact h
theorem OwnI.kept {w w' : World} {B e : Nat} {v : Value} {n : Nat} {f : Nat → Int} {row : Option Nat} (h : OwnI w B e v n f) (hg : w.grownBy w' row) (hne : v.ownBlock = none ∨ v.ownBlock ≠ row) : OwnI w' B e v n f :=
  World.ownsRow.kept h hg hne
theorem OwnI.bel {w w' : World} {B e : Nat} {v : Value} {n : Nat} {f : Nat → Int} (h : OwnI w B e v n f) (hb : Below w.heap.size w w') : OwnI w' B e v n f :=
  World.ownsRow.kept (row := none) h ⟨hb.os, hb.tape, hb.output, hb.size, fun k hk _ => hb.block k hk⟩ (by cases hv : v.ownBlock <;> simp)
theorem OwnI.drewN {w : World} {B e : Nat} {v : Value} {n : Nat} {f : Nat → Int} (h : OwnI w B e v n f) (k : Nat) : OwnI (w.drewN k) B e v n f := h
theorem OwnI.lt {w : World} {B e : Nat} {v : Value} {n : Nat} {f : Nat → Int} (h : OwnI w B e v n f) : ∀ k, v.ownBlock = some k → B ≤ k ∧ k < w.heap.size := World.ownsRow.lt h

/-- two slices of the call's own lie in different blocks -/
def Apart (u v : Value) : Prop := ∀ k, u.ownBlock = some k → v.ownBlock ≠ some k
theorem Apart.symm {u v : Value} (h : Apart u v) : Apart v u := fun k hk he => h k he hk
theorem Apart.ne {u v : Value} (h : Apart u v) : u.ownBlock = none ∨ u.ownBlock ≠ v.ownBlock := by
  cases hu : u.ownBlock with
  | none => exact .inl rfl
  | some k => exact .inr (fun e => h k hu e.symm)
theorem Apart.step {u v v' : Value} {m : Nat} (h : Apart u v) (hm : ∀ k, u.ownBlock = some k → k < m) (hv : v'.ownBlock = v.ownBlock ∨ v'.ownBlock = some m) : Apart u v' := by
  intro k hk he
  rcases hv with hv | hv
  · exact h k hk (hv ▸ he)
  · rw [hv] at he; injection he with he; have := hm k hk; omega
theorem Apart.nil_right (u : Value) : Apart u (.slice none 0 0) := fun k _ h => by cases h
theorem Apart.nil_left (u : Value) : Apart (.slice none 0 0) u := fun k h => by cases h

/-- what an element type's row of the table must say: one cell of 8 bytes, zero 0 -/
def IsInt (P : Program) (e : TypeId) : Prop := (P.info? e).map (fun i => (i.zero, i.size, i.bytes)) = some (some (.int .i64 0), 1, 8)

/-- append(v, y): the one-element slice lies in the block that was laid last -/
theorem app_int {P : Program} (w : World) {ops : Array Oper} {rest : List Oper} {o : Oper} {a : Act} {Q : Exit → Act → World → Prop} (hgd : o.guard = none) (s x : Operand) (t : TypeId)
    (ho : o.op = .call { callee := .builtin .append, args := #[s, x], argTypes := #[t, t] }) {e : TypeId} (ht : P.underlying t = some (.slice e)) (he : IsInt P e)
    {B : Nat} {v : Value} {n : Nat} {f : Nat → Int} (hs : a.eval s = v) (y : Int) (hx : a.eval x = .slice (some ⟨w.heap.size, 0, none⟩) 1 1) (hown : OwnI w B e v n f)
    (hn : n + 1 ≤ 1099511627776) (hB : B ≤ w.heap.size) (hy : f n = y)
    (h : ∀ v' w', OwnI w' B e v' (n + 1) f → w.grownBy w' v.ownBlock → (v'.ownBlock = v.ownBlock ∨ v'.ownBlock = some (w.heap.size + 1)) → wpList P ops Q rest (a.put o.dst v') w') :
    wpList P ops Q (o :: rest) a (w.alloc (.cells #[.int .i64 y] e)) := by
  obtain ⟨i0, hi, hz0, hz1, hz2⟩ := info_parts he
  refine wpList_append_own_at _ hgd s x t ho B e i0 (.int .i64 0) 1 8 ht hi hz0 hz1 hz2 rfl (by omega) v n (cellsI n f) hs (World.ownsRow.alloc hown _) ⟨w.heap.size, 0, none⟩ 1 1 [.int .i64 y] hx rfl
    (cell_one_new _ _ _) (fun u hu => by simp at hu; subst hu; rfl) (by unfold maxLen; omega) (by omega) (by simp; omega) ?_
  intro v' w' hown' hg _ hloc
  refine h v' w' ?_ ((World.grownBy_alloc w _ _).trans hg) (by simpa using hloc)
  unfold OwnI
  rw [cellsI_succ, hy]
  exact hown'

theorem grown_bel {w w' : World} {B : Nat} {v : Value} (hg : w.grownBy w' v.ownBlock) (hB : B ≤ w.heap.size) (hv : ∀ k, v.ownBlock = some k → B ≤ k) : Below B w w' :=
  (Below.refl B w).grown hg hB hv
end Go.Proofs.Ytdallemhhdfemaa
