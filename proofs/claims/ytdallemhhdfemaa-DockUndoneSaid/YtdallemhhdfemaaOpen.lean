/- Opening the arguments of a law: types that are made of ints alone (flat), slices of them. -/
import Derived.Test.YtdallemhhdfemaaBase
import Derived.ProofKit
import Derived.OpenShut
import Derived.ChangeOld
import Derived.Deep.Slices
import Derived.Deep.Fields
import Derived.Lib.SmallJoins
namespace Go.Proofs.Ytdallemhhdfemaa
open Go.RowKit Go.ChangeShapes Go.WideShapes Go.ChangeAt

/-- a type all of whose cells are ints -/
def flatB (P : Program) : Nat → TypeId → Bool
  | 0, _ => false
  | n + 1, t => match P.underlying t with
    | some (.int .i64) => true
    | some (.struct fs) => ((List.range (P.cellsOf t)).all fun i => fs.any fun f => decide (f.offset ≤ i) && decide (i < f.offset + P.cellsOf f.type) && flatB P n f.type)
    | some (.array len e) => decide (0 < P.cellsOf e) && decide (P.cellsOf t = len * P.cellsOf e) && flatB P n e
    | _ => false

def IntCells (cs : List Value) : Prop := ∀ (i : Nat) (c : Value), cs[i]? = some c → ∃ q, c = .int .i64 q ∧ (Lit.int .i64 q).wf = true

section
variable {H : Type} {enc : TypeId × Value → H} {P : Program} {w : World} {base : Nat} {spare : Nat → Bool} {held : Bool}
theorem flat_cells : ∀ (n : Nat) (t : TypeId) (fuel : Nat) (cs : List Value) (x : DataW H × List MemPlace), flatB P n t = true → DataW.trod enc P w base spare held fuel t cs = some x → IntCells cs := by
  intro n
  induction n with
  | zero => intro t fuel cs x h; simp [flatB] at h
  | succ n ih =>
    intro t fuel cs x h hx
    unfold flatB at h
    split at h
    · rename_i ht
      obtain ⟨q, rfl, _, hw⟩ := DataW.trod_int ht hx
      intro i c hc
      match i, hc with
      | 0, hc => simp at hc; exact ⟨q, hc.symm, hw⟩
    · rename_i fs ht
      obtain ⟨ys, m, _, _, hlen, hyl, hf⟩ := DataW.trod_struct ht hx
      intro i c hc
      have hi : i < P.cellsOf t := by rw [← hlen]; exact (List.getElem?_eq_some_iff.1 hc).1
      have h1 := List.all_eq_true.1 h i (List.mem_range.2 hi)
      obtain ⟨j, hj, h2⟩ := Array.any_eq_true.1 h1
      simp only [Bool.and_eq_true, decide_eq_true_eq] at h2
      have h3 := hf j fs[j] (by simp [hj])
      have hys : ys[j]? = some (ys[j]'(by omega)) := List.getElem?_eq_getElem (by omega)
      rw [hys] at h3
      refine ih _ _ _ _ h2.2 h3 (i - fs[j].offset) c ?_
      rw [List.getElem?_take, if_pos (by omega), List.getElem?_drop, show fs[j].offset + (i - fs[j].offset) = i by omega]
      exact hc
    · rename_i len e ht
      simp only [Bool.and_eq_true, decide_eq_true_eq] at h
      obtain ⟨⟨h0, h1⟩, h2⟩ := h
      obtain ⟨ys, m, _, _, hlen, hyl, hf⟩ := DataW.trod_array ht hx
      intro i c hc
      have hi : i < P.cellsOf t := by rw [← hlen]; exact (List.getElem?_eq_some_iff.1 hc).1
      rw [h1] at hi
      have hj : i / P.cellsOf e < len := Nat.div_lt_of_lt_mul (by rw [Nat.mul_comm]; exact hi)
      have h3 := hf (i / P.cellsOf e) hj
      have hys : ys[i / P.cellsOf e]? = some (ys[i / P.cellsOf e]'(by omega)) := List.getElem?_eq_getElem (by omega)
      rw [hys] at h3
      refine ih _ _ _ _ h2 h3 (i % P.cellsOf e) c ?_
      have hm := Nat.div_add_mod i (P.cellsOf e)
      have hlt := Nat.mod_lt i h0
      rw [List.getElem?_take, if_pos hlt, List.getElem?_drop, Nat.mul_comm, hm]
      exact hc
    · cases h
end

theorem wf_bd {q : Int} (h : (Lit.int .i64 q).wf = true) : -9223372036854775808 ≤ q ∧ q ≤ 9223372036854775807 := by
  simpa [Lit.wf, IntKind.min, IntKind.max, IntKind.signed, IntKind.bits] using h

/-- a slice of n elements of k ints each reads in w -/
def FlatRd (w : World) (A : Option Addr) (n k : Nat) (g : Nat → Nat → Int) : Prop :=
  0 < n → ∃ b o, A = some ⟨b, o, none⟩ ∧ b < w.heap.size ∧ ∀ i, i < n → ∀ j, j < k → w.cell? ⟨b, o + i * k + j, none⟩ = some (.int .i64 (g i j))

def rdI : Option Value → Int
  | some (.int _ q) => q
  | _ => 0

theorem open_flat_slice {H : Type} {enc : TypeId × Value → H} {P : Program} {w : World} {base : Nat} {spare : Nat → Bool} {held : Bool} {t e : TypeId} {v : Value} {d : DataW H} {p : List MemPlace} {k : Nat}
    (ht : P.underlying t = some (.slice e)) (fl : Nat) (hfl : flatB P fl e = true) (hk : P.cellsOf e = k) (hk0 : 0 < k) (hv : ∃ a len cap, v = .slice a len cap) (h : DataW.Trod enc P w base spare held t v d p) :
    ∃ (A : Option Addr) (n c : Nat) (g : Nat → Nat → Int), v = .slice A n c ∧ FlatRd w A n k g ∧ n ≤ 9223372036854775807 ∧ n ≤ c ∧ ∀ i j, -9223372036854775808 ≤ g i j ∧ g i j ≤ 9223372036854775807 := by
  obtain ⟨a, len, cap, rfl⟩ := hv
  obtain ⟨fuel, hf⟩ := h
  rcases Deep.open_slice ht hf with ⟨hcs, _⟩ | ⟨a', len', cap', m, n', D, Pl, hcs, _, hl, hm, hmm, _, hi⟩
  · simp [Value.cells] at hcs
    obtain ⟨rfl, rfl, rfl⟩ := hcs
    exact ⟨none, 0, 0, fun _ _ => 0, rfl, fun h => absurd h (by omega), by omega, by omega, fun _ _ => by dsimp only; omega⟩
  · simp [Value.cells] at hcs
    obtain ⟨rfl, rfl, rfl⟩ := hcs
    rw [hk] at hi
    have key : ∀ i, i < len → ∀ j, j < k → ∃ q, w.cell? (a'.add (i * k + j)) = some (.int .i64 q) ∧ (Lit.int .i64 q).wf = true := by
      intro i him j hj
      have hlm : len ≤ m := by rw [hmm]; split <;> omega
      obtain ⟨cs', hc, htr⟩ := hi i (by omega)
      obtain ⟨_, hcl, hat⟩ := World.cells?_some hc
      have hq := flat_cells fl e n' cs' _ hfl htr
      have hv : cs'[j]? = some (cs'[j]'(by omega)) := List.getElem?_eq_getElem (by omega)
      obtain ⟨q, hq1, hq2⟩ := hq j _ hv
      refine ⟨q, ?_, hq2⟩
      rw [← Deep.add_add, hat j hj, hv, hq1]
    refine ⟨some a', len, cap, fun i j => if i < len ∧ j < k then rdI (w.cell? (a'.add (i * k + j))) else 0, rfl, fun hn => ?_, by have := hm; unfold maxLen at this; omega, hl, fun i j => ?_⟩
    · obtain ⟨q0, h0, _⟩ := key 0 hn 0 hk0
      have hspot := World.cell?_spot h0
      have hblk := World.block_lt_of_cell? w _ h0
      obtain ⟨b, o, sp⟩ := a'
      have hsp : sp = none := by simpa [Addr.add] using hspot
      subst hsp
      have hadd : ∀ x : Nat, (⟨b, o, none⟩ : Addr).add x = ⟨b, o + x, none⟩ := fun x => by
        by_cases hx : x = 0
        · subst hx; simp [Addr.add]
        · simp [Addr.add, hx]
      refine ⟨b, o, rfl, by simpa [Addr.add] using hblk, fun i hi' j hj => ?_⟩
      obtain ⟨q, hq, _⟩ := key i hi' j hj
      simp only [hi', hj, and_self, if_true]
      rw [hq]
      rw [hadd] at hq
      rw [Nat.add_assoc]
      exact hq
    · dsimp only
      split
      · rename_i hij
        obtain ⟨q, hq, hw⟩ := key i hij.1 j hij.2
        rw [hq]
        exact wf_bd hw
      · omega

theorem open_flat_agg2 {H : Type} {enc : TypeId × Value → H} {P : Program} {w : World} {base : Nat} {spare : Nat → Bool} {held : Bool} {t : TypeId} {v : Value} {d : DataW H} {p : List MemPlace}
    (hagg : ∃ cs, v = .agg cs ∧ cs.size = P.cellsOf t) (fl : Nat) (hfl : flatB P fl t = true) (hk : P.cellsOf t = 2) (h : DataW.Trod enc P w base spare held t v d p) :
    ∃ x0 x1 : Int, v = .agg #[.int .i64 x0, .int .i64 x1] ∧ (-9223372036854775808 ≤ x0 ∧ x0 ≤ 9223372036854775807) ∧ (-9223372036854775808 ≤ x1 ∧ x1 ≤ 9223372036854775807) := by
  obtain ⟨cs, rfl, hsz⟩ := hagg
  rw [hk] at hsz
  obtain ⟨fuel, hf⟩ := h
  obtain ⟨l⟩ := cs
  have hi := flat_cells fl t fuel _ _ hfl hf
  match l, hsz with
  | [c0, c1], _ =>
    obtain ⟨x0, rfl, w0⟩ := hi 0 c0 rfl
    obtain ⟨x1, rfl, w1⟩ := hi 1 c1 rfl
    exact ⟨x0, x1, rfl, wf_bd w0, wf_bd w1⟩

theorem open_flat_agg3 {H : Type} {enc : TypeId × Value → H} {P : Program} {w : World} {base : Nat} {spare : Nat → Bool} {held : Bool} {t : TypeId} {v : Value} {d : DataW H} {p : List MemPlace}
    (hagg : ∃ cs, v = .agg cs ∧ cs.size = P.cellsOf t) (fl : Nat) (hfl : flatB P fl t = true) (hk : P.cellsOf t = 3) (h : DataW.Trod enc P w base spare held t v d p) :
    ∃ x0 x1 x2 : Int, v = .agg #[.int .i64 x0, .int .i64 x1, .int .i64 x2] ∧ (-9223372036854775808 ≤ x0 ∧ x0 ≤ 9223372036854775807) ∧ (-9223372036854775808 ≤ x1 ∧ x1 ≤ 9223372036854775807) ∧ (-9223372036854775808 ≤ x2 ∧ x2 ≤ 9223372036854775807) := by
  obtain ⟨cs, rfl, hsz⟩ := hagg
  rw [hk] at hsz
  obtain ⟨fuel, hf⟩ := h
  obtain ⟨l⟩ := cs
  have hi := flat_cells fl t fuel _ _ hfl hf
  match l, hsz with
  | [c0, c1, c2], _ =>
    obtain ⟨x0, rfl, w0⟩ := hi 0 c0 rfl
    obtain ⟨x1, rfl, w1⟩ := hi 1 c1 rfl
    obtain ⟨x2, rfl, w2⟩ := hi 2 c2 rfl
    exact ⟨x0, x1, x2, rfl, wf_bd w0, wf_bd w1, wf_bd w2⟩

theorem open_flat_agg5 {H : Type} {enc : TypeId × Value → H} {P : Program} {w : World} {base : Nat} {spare : Nat → Bool} {held : Bool} {t : TypeId} {v : Value} {d : DataW H} {p : List MemPlace}
    (hagg : ∃ cs, v = .agg cs ∧ cs.size = P.cellsOf t) (fl : Nat) (hfl : flatB P fl t = true) (hk : P.cellsOf t = 5) (h : DataW.Trod enc P w base spare held t v d p) :
    ∃ x0 x1 x2 x3 x4 : Int, v = .agg #[.int .i64 x0, .int .i64 x1, .int .i64 x2, .int .i64 x3, .int .i64 x4] ∧ (-9223372036854775808 ≤ x0 ∧ x0 ≤ 9223372036854775807) ∧ (-9223372036854775808 ≤ x1 ∧ x1 ≤ 9223372036854775807) ∧ (-9223372036854775808 ≤ x2 ∧ x2 ≤ 9223372036854775807) ∧ (-9223372036854775808 ≤ x3 ∧ x3 ≤ 9223372036854775807) ∧ (-9223372036854775808 ≤ x4 ∧ x4 ≤ 9223372036854775807) := by
  obtain ⟨cs, rfl, hsz⟩ := hagg
  rw [hk] at hsz
  obtain ⟨fuel, hf⟩ := h
  obtain ⟨l⟩ := cs
  have hi := flat_cells fl t fuel _ _ hfl hf
  match l, hsz with
  | [c0, c1, c2, c3, c4], _ =>
    obtain ⟨x0, rfl, w0⟩ := hi 0 c0 rfl
    obtain ⟨x1, rfl, w1⟩ := hi 1 c1 rfl
    obtain ⟨x2, rfl, w2⟩ := hi 2 c2 rfl
    obtain ⟨x3, rfl, w3⟩ := hi 3 c3 rfl
    obtain ⟨x4, rfl, w4⟩ := hi 4 c4 rfl
    exact ⟨x0, x1, x2, x3, x4, rfl, wf_bd w0, wf_bd w1, wf_bd w2, wf_bd w3, wf_bd w4⟩

theorem open_flat_agg6 {H : Type} {enc : TypeId × Value → H} {P : Program} {w : World} {base : Nat} {spare : Nat → Bool} {held : Bool} {t : TypeId} {v : Value} {d : DataW H} {p : List MemPlace}
    (hagg : ∃ cs, v = .agg cs ∧ cs.size = P.cellsOf t) (fl : Nat) (hfl : flatB P fl t = true) (hk : P.cellsOf t = 6) (h : DataW.Trod enc P w base spare held t v d p) :
    ∃ x0 x1 x2 x3 x4 x5 : Int, v = .agg #[.int .i64 x0, .int .i64 x1, .int .i64 x2, .int .i64 x3, .int .i64 x4, .int .i64 x5] ∧ (-9223372036854775808 ≤ x0 ∧ x0 ≤ 9223372036854775807) ∧ (-9223372036854775808 ≤ x1 ∧ x1 ≤ 9223372036854775807) ∧ (-9223372036854775808 ≤ x2 ∧ x2 ≤ 9223372036854775807) ∧ (-9223372036854775808 ≤ x3 ∧ x3 ≤ 9223372036854775807) ∧ (-9223372036854775808 ≤ x4 ∧ x4 ≤ 9223372036854775807) ∧ (-9223372036854775808 ≤ x5 ∧ x5 ≤ 9223372036854775807) := by
  obtain ⟨cs, rfl, hsz⟩ := hagg
  rw [hk] at hsz
  obtain ⟨fuel, hf⟩ := h
  obtain ⟨l⟩ := cs
  have hi := flat_cells fl t fuel _ _ hfl hf
  match l, hsz with
  | [c0, c1, c2, c3, c4, c5], _ =>
    obtain ⟨x0, rfl, w0⟩ := hi 0 c0 rfl
    obtain ⟨x1, rfl, w1⟩ := hi 1 c1 rfl
    obtain ⟨x2, rfl, w2⟩ := hi 2 c2 rfl
    obtain ⟨x3, rfl, w3⟩ := hi 3 c3 rfl
    obtain ⟨x4, rfl, w4⟩ := hi 4 c4 rfl
    obtain ⟨x5, rfl, w5⟩ := hi 5 c5 rfl
    exact ⟨x0, x1, x2, x3, x4, x5, rfl, wf_bd w0, wf_bd w1, wf_bd w2, wf_bd w3, wf_bd w4, wf_bd w5⟩

theorem FlatRd.ints {w : World} {A : Option Addr} {n : Nat} {g : Nat → Nat → Int} (h : FlatRd w A n 1 g) : SlI w A n (fun i => g i 0) := fun hn => by
  obtain ⟨b, o, h1, h2, h3⟩ := h hn
  exact ⟨b, o, h1, h2, fun j hj => by have := h3 j hj 0 (by omega); simpa using this⟩
end Go.Proofs.Ytdallemhhdfemaa
