/- What the calls keep of a station (plain), and the walk of the reference's Insert. -/
import Derived.Test.YtdallemhhdfemaaDQ
namespace Go.Proofs.Ytdallemhhdfemaa
open Go.RowKit
set_option maxHeartbeats 4000000
set_option maxRecDepth 100000
set_option linter.unusedVariables false

theorem Inv.zero (n : Nat) : Inv n zeroD := ⟨fun i _ h => (by cases h), fun _ _ _ => rfl, fun i j _ _ h => (by cases h)⟩
theorem Inv.setX {n : Nat} {D : Dk} (h : Inv n D) (i : Nat) (v : Bool) : Inv n (setX D i v) := ⟨h.b, h.z, h.u⟩
theorem Inv.rem {n : Nat} {D : Dk} (h : Inv n D) (i : Nat) : Inv n (setF (setB D i 0) i false) := by
  have hf : ∀ k, (setF (setB D i 0) i false).f k = true → k ≠ i ∧ D.f k = true := fun k hk => by
    by_cases hki : k = i
    · simp [setF, setB, hki] at hk
    · simp [setF, setB, hki] at hk; exact ⟨hki, hk⟩
  have hb : ∀ k, k ≠ i → (setF (setB D i 0) i false).b k = D.b k := fun k hk => by simp [setF, setB, hk]
  refine ⟨fun k hk h1 => ?_, fun k hk h1 => ?_, fun k l hk hl h1 h2 h3 => ?_⟩
  · obtain ⟨h2, h3⟩ := hf k h1; rw [hb k h2]; exact h.b k hk h3
  · by_cases hki : k = i
    · simp [setF, setB, hki]
    · rw [hb k hki]; simp [setF, setB, hki] at h1; exact h.z k hk h1
  · obtain ⟨a1, a2⟩ := hf k h1; obtain ⟨b1, b2⟩ := hf l h2; rw [hb k a1, hb l b1] at h3; exact h.u k l hk hl a2 b2 h3
theorem first_lt {p : Nat → Bool} {n k : Nat} (hk : k < n) (h : p k = true) : firstI p n < n := by
  induction n with
  | zero => omega
  | succ n ih =>
    unfold firstI
    split
    · omega
    · rename_i h1
      split
      · omega
      · rename_i h2
        have hkn : k ≠ n := fun e => h2 (e ▸ h)
        exact absurd (ih (by omega)) h1
theorem fiF_no {n : Nat} {D : Dk} {bike : Int} (h : fiF n D bike = false) {k : Nat} (hk : k < n) (hf : D.f k = true) : D.b k ≠ bike := by
  intro hb
  have h1 : inD D bike k = true := by unfold inD; rw [hf, hb]; simp
  have := first_lt hk h1
  simp [fiF] at h
  omega
theorem Inv.ins {n : Nat} {D : Dk} (h : Inv n D) (i : Nat) (bike : Int) (h0 : 0 ≤ bike) (h1 : bike < 128) (hq : fiF n D bike = false) : Inv n (setF (setB D i bike) i true) := by
  have hb : ∀ k, k ≠ i → (setF (setB D i bike) i true).b k = D.b k ∧ (setF (setB D i bike) i true).f k = D.f k := fun k hk => by simp [setF, setB, hk]
  have hb' : (setF (setB D i bike) i true).b i = bike := by simp [setF, setB]
  have hf' : (setF (setB D i bike) i true).f i = true := by simp [setF, setB]
  refine ⟨fun k hk a => ?_, fun k hk a => ?_, fun k l hk hl a b c => ?_⟩
  · by_cases hki : k = i
    · subst hki; rw [hb']; exact ⟨h0, h1⟩
    · rw [(hb k hki).2] at a; rw [(hb k hki).1]; exact h.b k hk a
  · by_cases hki : k = i
    · subst hki; rw [hf'] at a; cases a
    · rw [(hb k hki).2] at a; rw [(hb k hki).1]; exact h.z k hk a
  · by_cases hki : k = i
    · by_cases hli : l = i
      · omega
      · subst hki; rw [hb', (hb l hli).1] at c; rw [(hb l hli).2] at b; exact absurd c.symm (fiF_no hq hl b)
    · by_cases hli : l = i
      · subst hli; rw [hb', (hb k hki).1] at c; rw [(hb k hki).2] at a; exact absurd c (fiF_no hq hk a)
      · rw [(hb k hki).2] at a; rw [(hb l hli).2] at b; rw [(hb k hki).1, (hb l hli).1] at c; exact h.u k l hk hl a b c
theorem insE_zero {n : Nat} {D : Dk} {d bike : Int} (h : insE n D d bike = 0) : (0 ≤ d ∧ d < (n : Int)) ∧ (0 ≤ bike ∧ bike < 128) ∧ D.x d.toNat = false ∧ D.f d.toNat = false ∧ fiF n D bike = false := by
  unfold insE at h
  split at h
  · rename_i h1
    split at h
    · cases h
    · rename_i h2
      split at h
      · cases h
      · rename_i h3
        split at h
        · cases h
        · rename_i h4
          split at h
          · cases h
          · rename_i h5
            exact ⟨h1, by omega, by simpa using h3, by simpa using h4, by simpa using h5⟩
  · cases h
theorem Inv.insD {n : Nat} {D : Dk} (h : Inv n D) (d bike : Int) : Inv n (insD n D d bike) := by
  by_cases he : insE n D d bike = 0
  · obtain ⟨h1, h2, h3, h4, h5⟩ := insE_zero he
    rw [show Go.Proofs.Ytdallemhhdfemaa.insD n D d bike = setF (setB D d.toNat bike) d.toNat true from if_pos he]
    exact h.ins _ _ h2.1 h2.2 h5
  · rw [show Go.Proofs.Ytdallemhhdfemaa.insD n D d bike = D from if_neg he]; exact h
theorem Inv.remD {n : Nat} {D : Dk} (h : Inv n D) (d : Int) : Inv n (remD n D d) := by
  by_cases he : remE n D d = 0
  · rw [show Go.Proofs.Ytdallemhhdfemaa.remD n D d = setF (setB D d.toNat 0) d.toNat false from if_pos he]; exact h.rem _
  · rw [show Go.Proofs.Ytdallemhhdfemaa.remD n D d = D from if_neg he]; exact h
theorem Inv.ordD {n : Nat} {D : Dk} (h : Inv n D) (d : Int) (g : Bool) : Inv n (ordD n D d g) := by
  by_cases he : 0 ≤ d ∧ d < (n : Int)
  · rw [show Go.Proofs.Ytdallemhhdfemaa.ordD n D d g = Go.Proofs.Ytdallemhhdfemaa.setX D d.toNat (!g) from if_pos he]; exact h.setX _ _
  · rw [show Go.Proofs.Ytdallemhhdfemaa.ordD n D d g = D from if_neg he]; exact h
theorem Inv.stepD {n : Nat} {D : Dk} (h : Inv n D) (k d b : Int) : Inv n (stepD n D k d b) := by
  unfold Go.Proofs.Ytdallemhhdfemaa.stepD
  split
  · exact h.insD _ _
  · split
    · exact h.remD _
    · exact h.ordD _ _
theorem Inv.playD (n : Nat) (g : Nat → Nat → Int) : ∀ m, Inv n (playD n g m)
  | 0 => Inv.zero n
  | m + 1 => (Inv.playD n g m).stepD _ _ _
theorem rb_ins (D : Dk) (i : Nat) (bike : Int) (k : Nat) : rb (setF (setB D i bike) i true) k = if k = i then bike else rb D k := by
  unfold rb setF setB; by_cases h : k = i <;> simp [h]
theorem rb_rem (D : Dk) (i : Nat) (k : Nat) : rb (setF (setB D i 0) i false) k = if k = i then -1 else rb D k := by
  unfold rb setF setB; by_cases h : k = i <;> simp [h]

/-- what a call of the reference answers: the station and the error -/
def RefPost (w0 : World) (n : Nat) (D : Dk) (E : Int) (e : Ending) (w' : World) : Prop := ∃ A c A' c', e = .returned (.tuple #[rV A c A' c' n, .int .i64 E]) ∧ Rf w' A A' n D ∧ Below w0.heap.size w0 w'
theorem Big.all {w X : World} {A A' : Option Addr} {c c' n : Nat} (h : Big w A c A' c' n X) : ∃ u u', X.cell? ⟨w.heap.size, 0, none⟩ = some (.slice A n c) ∧ X.cell? ⟨w.heap.size, 1, none⟩ = some (.slice A' n c') ∧
    X.cell? ⟨w.heap.size + 1, 0, none⟩ = some u ∧ X.cell? ⟨w.heap.size + 1, 1, none⟩ = some u' ∧ X.frozen? ⟨w.heap.size + 1, 0, none⟩ = false ∧ X.frozen? ⟨w.heap.size + 1, 1, none⟩ = false := by
  obtain ⟨u, u', hq⟩ := h.bq
  refine ⟨u, u', ?_, ?_, ?_, ?_, ?_, ?_⟩
  · rw [cell_of_row _ _ _ _ _ _ h.bp]; rfl
  · rw [cell_of_row _ _ _ _ _ _ h.bp]; rfl
  · rw [cell_of_row _ _ _ _ _ _ hq]; rfl
  · rw [cell_of_row _ _ _ _ _ _ hq]; rfl
  · simp [World.frozen?, hq]
  · simp [World.frozen?, hq]
theorem Big.start (w : World) (A : Option Addr) (c : Nat) (A' : Option Addr) (c' n : Nat) : Big w A c A' c' n ((w.alloc (rO A c A' c' n)).alloc (.cells #[.slice none 0 0, .slice none 0 0] 31)) := by
  refine ⟨?_, ⟨.slice none 0 0, .slice none 0 0, ?_⟩, by simp, (box_bel w _).alloc (by simp) _⟩
  · rw [Below.heap_alloc _ _ _ (by simp)]; exact heap_alloc_new w _
  · have := heap_alloc_new (w.alloc (rO A c A' c' n)) (.cells #[.slice none 0 0, .slice none 0 0] 31)
    rw [alloc_size] at this
    exact this
theorem Own2.mono {w : World} {B B' : Nat} {A A' : Option Addr} {c c' n : Nat} {D : Dk} (h : Own2 w B A c A' c' n D) (hB : B' ≤ B) : Own2 w B' A c A' c' n D := by
  obtain ⟨⟨i1, i2⟩, ⟨x1, x2⟩⟩ := h
  refine ⟨⟨i1, i2.imp id ?_⟩, ⟨x1, x2.imp id ?_⟩⟩
  · rintro ⟨g, cap, cur, h1, h2, h3⟩; exact ⟨g, cap, cur, h1, Nat.le_trans hB h2, h3⟩
  · rintro ⟨g, cap, cur, h1, h2, h3⟩; exact ⟨g, cap, cur, h1, Nat.le_trans hB h2, h3⟩
theorem Own2.some_ {w : World} {B : Nat} {A A' : Option Addr} {c c' n : Nat} {D : Dk} (h : Own2 w B A c A' c' n D) (h1 : 1 ≤ n) : ∃ g g', A = some ⟨g, 0, none⟩ ∧ A' = some ⟨g', 0, none⟩ := by
  obtain ⟨⟨i1, i2⟩, ⟨x1, x2⟩⟩ := h
  rcases i2 with ⟨_, h0⟩ | ⟨g, cap, cur, e1, _⟩
  · omega
  · rcases x2 with ⟨_, h0⟩ | ⟨g', cap', cur', e2, _⟩
    · omega
    · injection e1 with e1 _ _; injection e2 with e2 _ _; exact ⟨g, g', e1, e2⟩
theorem Own2.alloc {w : World} {B : Nat} {A A' : Option Addr} {c c' n : Nat} {D : Dk} (h : Own2 w B A c A' c' n D) (o : Obj) : Own2 (w.alloc o) B A c A' c' n D := ⟨World.ownsRow.alloc h.i o, World.ownsRow.alloc h.x o⟩
theorem Own2.rf {w : World} {B : Nat} {A A' : Option Addr} {c c' n : Nat} {D : Dk} (h : Own2 w B A c A' c' n D) : Rf w A A' n D := by
  obtain ⟨A1, c1, e1, h1, _⟩ := h.i.form
  obtain ⟨A2, c2, e2, h2, _⟩ := h.x.form
  cases e1; cases e2
  exact ⟨h1, h2, own_ty h.i, own_ty h.x⟩
theorem Own2.putI {w : World} {B g : Nat} {A' : Option Addr} {c c' n : Nat} {D D' : Dk} (h : Own2 w B (some ⟨g, 0, none⟩) c A' c' n D) (i : Nat) (u : Int) (hr : ∀ k, rb D' k = if k = i then u else rb D k) (hx : D'.x = D.x) : Own2 (w.setCell ⟨g, i, none⟩ (.int .i64 u)) B (some ⟨g, 0, none⟩) c A' c' n D' := by
  refine ⟨(h.i.store i u).congr (fun k _ => (hr k).symm), ?_⟩
  rw [hx]
  exact own_heap h.x (fun k hk => heap_set_ne (fun e => by
    rcases own_ne h.x h.i (by decide) with h1 | h1
    · rw [h1] at hk; cases hk
    · exact h1 (by rw [hk, e]; rfl)))
theorem OwnB.store {w : World} {B e g n c : Nat} {f : Nat → Bool} (h : OwnB w B e (.slice (some ⟨g, 0, none⟩) n c) n f) (j : Nat) (y : Bool) :
    OwnB (w.setCell ⟨g, j, none⟩ (.bool y)) B e (.slice (some ⟨g, 0, none⟩) n c) n (fun i => if i = j then y else f i) := by
  unfold OwnB
  rw [← cellsB_set]
  exact (World.ownsRow.stored h j (.bool y)).1
theorem Own2.putX {w : World} {B g : Nat} {A : Option Addr} {c c' n : Nat} {D : Dk} (h : Own2 w B A c (some ⟨g, 0, none⟩) c' n D) (i : Nat) (u : Bool) : Own2 (w.setCell ⟨g, i, none⟩ (.bool u)) B A c (some ⟨g, 0, none⟩) c' n (setX D i u) := by
  refine ⟨?_, h.x.store i u⟩
  exact own_heap h.i (fun k hk => heap_set_ne (fun e => by
    rcases own_ne h.i h.x (by decide) with h1 | h1
    · rw [h1] at hk; cases hk
    · exact h1 (by rw [hk, e]; rfl)))
theorem Own2.ci {w : World} {B g : Nat} {A' : Option Addr} {c c' n : Nat} {D : Dk} (h : Own2 w B (some ⟨g, 0, none⟩) c A' c' n D) (i : Nat) (hi : i < n) : w.cell? ⟨g, i, none⟩ = some (.int .i64 (rb D i)) ∧ w.frozen? ⟨g, i, none⟩ = false := ⟨h.i.read i hi, h.i.thaw i⟩
theorem Own2.cx {w : World} {B g : Nat} {A : Option Addr} {c c' n : Nat} {D : Dk} (h : Own2 w B A c (some ⟨g, 0, none⟩) c' n D) (i : Nat) (hi : i < n) : w.cell? ⟨g, i, none⟩ = some (.bool (D.x i)) ∧ w.frozen? ⟨g, i, none⟩ = false :=
  ⟨by rw [World.ownsRow.cellAt h.x i (by omega), cellsB_get _ _ _ hi], World.ownsRow.frozenAt h.x i⟩
end Go.Proofs.Ytdallemhhdfemaa
