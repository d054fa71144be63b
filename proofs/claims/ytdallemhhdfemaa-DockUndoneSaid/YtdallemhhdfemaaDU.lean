/- The walk of the laws' own should. -/
import Derived.Test.YtdallemhhdfemaaDT
namespace Go.Proofs.Ytdallemhhdfemaa
open Go.RowKit
set_option maxHeartbeats 4000000
set_option maxRecDepth 100000
set_option linter.unusedVariables false

/-- the block of the result -/
structure Res (w X : World) : Prop where
  bq : X.heap[w.heap.size + 1 + 1]? = some (.cells #[.slice none 0 0, .slice none 0 0] 31 (0, 0))
  sz : w.heap.size + 1 + 1 < X.heap.size
  bel : Below w.heap.size w X
section
variable {w X Y : World}
theorem Res.go (h : Res w X) (hb : Below X.heap.size X Y) : Res w Y :=
  ⟨(hb.block _ h.sz).trans h.bq, Nat.lt_of_lt_of_le h.sz hb.size, bel_tr h.bel hb (Nat.le_refl _)⟩
theorem Res.all (h : Res w X) : X.cell? ⟨w.heap.size + 1 + 1, 0, none⟩ = some (.slice none 0 0) ∧ X.cell? ⟨w.heap.size + 1 + 1, 1, none⟩ = some (.slice none 0 0) ∧ X.frozen? ⟨w.heap.size + 1 + 1, 0, none⟩ = false ∧ X.frozen? ⟨w.heap.size + 1 + 1, 1, none⟩ = false := by
  have hq := h.bq
  refine ⟨?_, ?_, ?_, ?_⟩
  · rw [cell_of_row _ _ _ _ _ _ hq]; rfl
  · rw [cell_of_row _ _ _ _ _ _ hq]; rfl
  · simp [World.frozen?, hq]
  · simp [World.frozen?, hq]
theorem Res.start (w : World) (o o' : Obj) : Res w (((w.alloc o).alloc o').alloc (.cells #[.slice none 0 0, .slice none 0 0] 31)) := by
  refine ⟨?_, by simp, ((box_bel w _).alloc (by simp) _).alloc (by simp; omega) _⟩
  have := heap_alloc_new ((w.alloc o).alloc o') (.cells #[.slice none 0 0, .slice none 0 0] 31)
  rw [alloc_size, alloc_size] at this
  exact this
/-- the result's block holds no number and no bool -/
theorem Res.no (h : Res w X) {o : Nat} {v : Value} (hc : X.cell? ⟨w.heap.size + 1 + 1, o, none⟩ = some v) : v = .slice none 0 0 := by
  rw [cell_of_row _ _ _ _ _ _ h.bq] at hc
  match o, hc with
  | 0, hc => exact (Option.some.inj hc).symm
  | 1, hc => exact (Option.some.inj hc).symm
  | o + 2, hc => simp at hc
/-- a station that came back stays behind the stores to the result -/
theorem Res.rf {A A' : Option Addr} {n : Nat} {D : Dk} (h : Res w X) (hr : Rf X A A' n D) (u u' : Value) : Rf ((X.setCell ⟨w.heap.size + 1 + 1, 0, none⟩ u).setCell ⟨w.heap.size + 1 + 1, 1, none⟩ u') A A' n D := by
  have key : ∀ g o, g ≠ w.heap.size + 1 + 1 → ((X.setCell ⟨w.heap.size + 1 + 1, 0, none⟩ u).setCell ⟨w.heap.size + 1 + 1, 1, none⟩ u').cell? ⟨g, o, none⟩ = X.cell? ⟨g, o, none⟩ := fun g o hg => by
    refine World.cell?_of_block ?_
    show (_ : World).heap[g]? = _
    rw [heap_set_ne hg, heap_set_ne hg]
  have kb : ∀ g, g ≠ w.heap.size + 1 + 1 → ((X.setCell ⟨w.heap.size + 1 + 1, 0, none⟩ u).setCell ⟨w.heap.size + 1 + 1, 1, none⟩ u').heap[g]? = X.heap[g]? := fun g hg => by
    rw [heap_set_ne hg, heap_set_ne hg]
  have hi : ∀ b o s, A = some ⟨b, o, s⟩ → b ≠ w.heap.size + 1 + 1 := fun b o s e hb => by
    obtain ⟨cs, hc⟩ := hr.ti b o s e
    subst hb
    rw [h.bq] at hc
    injection hc with hc
    injection hc with _ ht
    cases ht
  have hx : ∀ b o s, A' = some ⟨b, o, s⟩ → b ≠ w.heap.size + 1 + 1 := fun b o s e hb => by
    obtain ⟨cs, hc⟩ := hr.tx b o s e
    subst hb
    rw [h.bq] at hc
    injection hc with hc
    injection hc with _ ht
    cases ht
  refine ⟨fun hn => ?_, fun hn => ?_, fun b o s e => ?_, fun b o s e => ?_⟩
  · obtain ⟨b, o, rfl, hb, hc⟩ := hr.i hn
    exact ⟨b, o, rfl, by rw [size_setCell, size_setCell]; exact hb, fun j hj => (key b _ (hi _ _ _ rfl)).trans (hc j hj)⟩
  · obtain ⟨b, o, rfl, hb, hc⟩ := hr.x hn
    exact ⟨b, o, rfl, by rw [size_setCell, size_setCell]; exact hb, fun j hj => (key b _ (hx _ _ _ rfl)).trans (hc j hj)⟩
  · obtain ⟨cs, hc⟩ := hr.ti b o s e
    exact ⟨cs, (kb b (hi b o s e)).trans hc⟩
  · obtain ⟨cs, hc⟩ := hr.tx b o s e
    exact ⟨cs, (kb b (hx b o s e)).trans hc⟩
theorem Res.post {A A' : Option Addr} {c c' n : Nat} {D : Dk} {N E : Int} (h : Res w X) (hr : Rf X A A' n D) (u u' : Value) : RemPost w n D N E (.returned (.tuple #[rV A c A' c' n, .int .i64 N, .int .i64 E])) ((X.setCell ⟨w.heap.size + 1 + 1, 0, none⟩ u).setCell ⟨w.heap.size + 1 + 1, 1, none⟩ u') :=
  ⟨A, c, A', c', rfl, h.rf hr u u', (h.bel.setCell (by simp; omega) _).setCell (by simp; omega) _⟩
end

theorem should11 (A A' : Option Addr) (c c' n : Nat) (D : Dk) (k d b : Int) (w : World) (h : Rf w A A' n D) (hi : Inv n D) (h1 : 1 ≤ n) (h2 : n ≤ 32) :
    Calls Try.prog 11 #[rV A c A' c' n, opV k d b] w (RemPost w n (stepD n D k d b) (stepN n D k d b) (stepE n D k d b)) := by
  have H := Lib.hid h
  have HI := Lib.hid hi
  have R0 := Lib.hid (Res.start w (rO A c A' c' n) (.cells #[.int .i64 k, .int .i64 d, .int .i64 b] 24))
  clear h hi
  by_cases h0 : k = 0
  · have HS := Lib.hid (And.intro (show stepD n D k d b = insD n D d b from if_pos h0) (And.intro (show stepN n D k d b = 0 from if_neg (by omega)) (show stepE n D k d b = insE n D d b from if_pos h0)))
    rw [HS.out.1, HS.out.2.1, HS.out.2.2]
    clear HS
    subst h0
    go_enter Try.func11, Try.ntmps11
    go_wp2_with fail
    refine (insert24 A A' c c' n D d b _ (H.out.bel R0.out.bel) HI.out h1 h2).mono ?_
    rintro x w1 ⟨A1, c1, A2, c2, rfl, hr, hb⟩
    have R1 := Lib.hid (R0.out.go hb)
    have R2 := Lib.hid ((R0.out.go hb).go (box_bel w1 (rO A1 c1 A2 c2 n)))
    have F2 := Lib.hid (hr.bel (box_bel w1 (rO A1 c1 A2 c2 n)))
    obtain ⟨q0, q1, f0, f1⟩ := R2.out.all
    clear hb hr
    go_wp2_with fail
    refine bodyPost_ret (v := .tuple #[rV A1 c1 A2 c2 n, .int .i64 0, .int .i64 (insE n D d b)]) (by simp [results, Try.results11, go_sem, q0, q1]) rfl ?_
    exact R2.out.post F2.out _ _
  · by_cases h1' : k = 1
    · have HS := Lib.hid (And.intro (show stepD n D k d b = remD n D d by unfold stepD; rw [if_neg h0, if_pos h1']) (And.intro (show stepN n D k d b = remN n D d from if_pos h1') (show stepE n D k d b = remE n D d by unfold stepE; rw [if_neg h0, if_pos h1'])))
      rw [HS.out.1, HS.out.2.1, HS.out.2.2]
      clear HS h0
      subst h1'
      go_enter Try.func11, Try.ntmps11
      go_wp2_with fail
      refine (remove25 A A' c c' n D d _ (H.out.bel R0.out.bel) HI.out h1 h2).mono ?_
      rintro x w1 ⟨A1, c1, A2, c2, rfl, hr, hb⟩
      have R2 := Lib.hid (R0.out.go hb)
      have F2 := Lib.hid hr
      obtain ⟨q0, q1, f0, f1⟩ := R2.out.all
      clear hb hr
      go_wp2_with fail
      refine bodyPost_ret (v := .tuple #[rV A1 c1 A2 c2 n, .int .i64 (remN n D d), .int .i64 (remE n D d)]) (by simp [results, Try.results11, go_sem, q0, q1]) rfl ?_
      exact R2.out.post F2.out _ _
    · have HS := Lib.hid (And.intro (show stepD n D k d b = ordD n D d (k != 2) by unfold stepD; rw [if_neg h0, if_neg h1']) (And.intro (show stepN n D k d b = 0 from if_neg h1') (show stepE n D k d b = canE n d by unfold stepE; rw [if_neg h0, if_neg h1'])))
      rw [HS.out.1, HS.out.2.1, HS.out.2.2]
      clear HS
      have q0 : (k == 0) = false := by simpa using h0
      have q1 : (k == 1) = false := by simpa using h1'
      clear h0 h1'
      go_enter Try.func11, Try.ntmps11
      go_wp2_with fail
      refine (order26 A A' c c' n D d (k != 2) _ (H.out.bel R0.out.bel) h1 h2).mono ?_
      rintro x w1 ⟨A1, c1, A2, c2, rfl, hr, hb⟩
      have R2 := Lib.hid ((R0.out.go hb).go (box_bel w1 (rO A1 c1 A2 c2 n)))
      have F2 := Lib.hid (hr.bel (box_bel w1 (rO A1 c1 A2 c2 n)))
      obtain ⟨q0, q1, f0, f1⟩ := R2.out.all
      clear hb hr
      go_wp2_with fail
      refine bodyPost_ret (v := .tuple #[rV A1 c1 A2 c2 n, .int .i64 0, .int .i64 (canE n d)]) (by simp [results, Try.results11, go_sem, q0, q1]) rfl ?_
      exact R2.out.post F2.out _ _
end Go.Proofs.Ytdallemhhdfemaa
