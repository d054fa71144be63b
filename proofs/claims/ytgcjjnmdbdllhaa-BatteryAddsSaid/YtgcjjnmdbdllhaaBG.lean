/- The walk of the example battery and of the chapter's examples. -/
import Derived.Test.YtgcjjnmdbdllhaaBF
import Derived.Deep.RegionWith
import Derived.Deep.RegionHeld3
import Derived.Deep.CutRange
namespace Go.Proofs.Ytgcjjnmdbdllhaa
open Go.RowKit
set_option maxHeartbeats 4000000
set_option maxRecDepth 100000
set_option linter.unusedVariables false

theorem small25 (w : World) : Calls Try.prog 25 #[] w fun e w' => e = .returned (smallB (w.heap.size + 1) (w.heap.size + 2)).val ∧ (smallB (w.heap.size + 1) (w.heap.size + 2)).rd w' ∧ Below w.heap.size w w' := by
  go_enter Try.func25, Try.ntmps25
  go_wp2_with fail
  have hh := heap3 w #[Value.slice (some ⟨w.heap.size + 1, 0, none⟩) 3 3, Value.slice (some ⟨w.heap.size + 1 + 1, 0, none⟩) 3 3, .int .i64 10, .int .i64 30, .int .i64 40, .int .i64 100, .int .i64 150] #[.int .i64 3000, .int .i64 3600, .int .i64 4200] #[.int .i64 0, .int .i64 400, .int .i64 1000] 26 3 3
  refine bodyPost_ret (v := (smallB (w.heap.size + 1) (w.heap.size + 2)).val) (by simp [results, Try.results25, go_sem]) rfl ⟨rfl, small_rd hh.2.1 hh.2.2, ?_⟩
  exact ((box_bel w _).alloc (by simp) _).alloc (by simp; omega) _

theorem small_ok (k j : Nat) : OkB (smallB k j) := chk_ok (small_chk k j)
theorem small_at (k j : Nat) (x : Int) (h1 : 3600 ≤ x) (h2 : x < 4200) : atP (smallB k j) x = 400 * 600 + 600 * (x - 3600) ∧ atQ (smallB k j) x = 600 :=
  at_mid (b := smallB k j) (i := 1) (show ¬ x ≤ 3000 by omega) (show ¬ 4200 ≤ x by omega) (small_ok k j).av (show 1 + 1 < 3 by omega) h1 h2
theorem small_ch (k j : Nat) : chE (smallB k j) 3700 = 0 ∧ chLo (smallB k j) 3700 = 490 ∧ chHi (smallB k j) 3700 = 510 := by
  have h : chE (smallB k j) 3700 = 0 := by unfold chE; rw [if_pos (small_chk k j), if_pos (by omega)]
  refine ⟨h, ?_, ?_⟩
  · unfold chLo loAt; rw [if_pos h]
    have := small_at k j 3690 (by omega) (by omega)
    rw [show (3700 : Int) - (smallB k j).er = 3690 by show (3700 : Int) - 10 = 3690; omega, this.1, this.2]; omega
  · unfold chHi hiAt; rw [if_pos h]
    have := small_at k j 3710 (by omega) (by omega)
    rw [show (3700 : Int) + (smallB k j).er = 3710 by show (3700 : Int) + 10 = 3710; omega, this.1, this.2]; omega
theorem small_af (k j : Nat) : afE (smallB k j) 490 510 2700 = 0 ∧ aftLo (smallB k j) 490 510 2700 false = 460 ∧ aftHi (smallB k j) 490 510 2700 false = 488 := by
  have h : afE (smallB k j) 490 510 2700 = 0 := afE_mk (small_chk k j) (by unfold spP; omega) (by omega)
  exact ⟨h, by unfold aftLo; rw [if_pos h]; show afL 40 490 2700 = 460; unfold afL; omega, by unfold aftHi; rw [if_pos h]; show afH 30 510 2700 = 488; unfold afH; omega⟩
theorem small_un (k j : Nat) : unE (smallB k j) 490 510 460 = 0 ∧ unN (smallB k j) 490 510 460 false = 2700 := by
  have h : unE (smallB k j) 490 510 460 = 0 := by unfold unE; rw [if_pos (small_chk k j), if_pos ⟨by unfold spP; omega, by omega⟩, if_neg (by omega)]
  exact ⟨h, by unfold unN; rw [if_pos h]; show unT 40 490 460 = 2700; unfold unT; rw [if_neg (by omega)]; omega⟩
theorem me_one : meE 460 488 480 900 = 0 ∧ meLo 460 488 480 900 = 480 ∧ meHi 460 488 480 900 = 488 := by
  have h : meE 460 488 480 900 = 0 := by unfold meE spP; rw [if_pos (by omega), if_neg (by omega)]
  exact ⟨h, by unfold meLo; rw [if_pos h]; omega, by unfold meHi; rw [if_pos h]; omega⟩
theorem me_two : meE 0 10 11 12 = 10 ∧ meLo 0 10 11 12 = 0 ∧ meHi 0 10 11 12 = 0 := by
  have h : meE 0 10 11 12 = 10 := by unfold meE spP; rw [if_pos (by omega), if_pos (by omega)]
  exact ⟨h, by unfold meLo; rw [h]; rfl, by unfold meHi; rw [h]; rfl⟩

/-- the block p of the world w holds the two integers x, y -/
def K2 (w : World) (p : Nat) (x y : Int) : Prop := p < w.heap.size ∧ w.cell? ⟨p, 0, none⟩ = some (.int .i64 x) ∧ w.cell? ⟨p, 1, none⟩ = some (.int .i64 y)
theorem K2.bel {w w' : World} {p : Nat} {x y : Int} (h : K2 w p x y) (hb : Below w.heap.size w w') : K2 w' p x y :=
  ⟨Nat.lt_of_lt_of_le h.1 hb.size, (hb.cell (p := ⟨p, 0, none⟩) h.1).trans h.2.1, (hb.cell (p := ⟨p, 1, none⟩) h.1).trans h.2.2⟩
theorem K2.new (w : World) (x y : Int) (t : TypeId) : K2 (w.alloc (.cells #[.int .i64 x, .int .i64 y] t)) w.heap.size x y := ⟨by simp, new_cell w _ t 0, new_cell w _ t 1⟩

/-- w0 is below w, and the blocks of L hold in w what L says -/
structure St (w0 : World) (L : List (Nat × Int × Int)) (w : World) : Prop where
  b : Below w0.heap.size w0 w
  k : ∀ t ∈ L, K2 w t.1 t.2.1 t.2.2
theorem St.bel {w0 w w' : World} {L : List (Nat × Int × Int)} (h : St w0 L w) (hb : Below w.heap.size w w') : St w0 L w' := ⟨bel_trans h.b hb, fun t ht => (h.k t ht).bel hb⟩
theorem St.alloc {w0 w : World} {L : List (Nat × Int × Int)} (h : St w0 L w) (o : Obj) : St w0 L (w.alloc o) := h.bel (box_bel w o)
theorem St.drew {w0 w : World} {L : List (Nat × Int × Int)} (h : St w0 L w) : St w0 L w.drew := h.bel (Below.refl _ _).drew
theorem St.new {w0 w : World} {L : List (Nat × Int × Int)} (h : St w0 L w) (x y : Int) (t : TypeId) : St w0 ((w.heap.size, x, y) :: L) (w.alloc (.cells #[.int .i64 x, .int .i64 y] t)) :=
  ⟨(h.alloc _).b, fun t' ht => by
    rcases List.mem_cons.1 ht with rfl | ht
    · exact K2.new w x y t
    · exact (h.alloc _).k t' ht⟩
theorem St.hd {w0 w : World} {p : Nat} {x y : Int} {L : List (Nat × Int × Int)} (h : St w0 ((p, x, y) :: L) w) : K2 w p x y := h.k (p, x, y) (List.mem_cons_self ..)
theorem St.tl {w0 w : World} {p : Nat × Int × Int} {L : List (Nat × Int × Int)} (h : St w0 (p :: L) w) : St w0 L w := ⟨h.b, fun t ht => h.k t (List.mem_cons_of_mem _ ht)⟩
/-- .. and the block q, newer than all of L, is the call's own and holds 0, 0 -/
structure Nw (w0 : World) (L : List (Nat × Int × Int)) (q : Nat) (w : World) : Prop where
  s : St w0 L w
  ne : ∀ t ∈ L, t.1 ≠ q
  lo : w0.heap.size ≤ q
  hi : q < w.heap.size
  z : w.cell? ⟨q, 0, none⟩ = some (.int .i64 0) ∧ w.cell? ⟨q, 1, none⟩ = some (.int .i64 0)
  f : w.frozen? ⟨q, 0, none⟩ = false ∧ w.frozen? ⟨q, 1, none⟩ = false
theorem Nw.of_alloc {w0 w w1 : World} {L : List (Nat × Int × Int)} (h : St w0 L w) (hb : Below (w.alloc (.cells #[.int .i64 0, .int .i64 0] 24)).heap.size (w.alloc (.cells #[.int .i64 0, .int .i64 0] 24)) w1) : Nw w0 L w.heap.size w1 := by
  have hh := row_at (k := w.heap.size) hb (by simp) (heap_alloc_new w _)
  exact ⟨(h.alloc _).bel hb, fun t ht => Nat.ne_of_lt (h.k t ht).1, h.b.size, Nat.lt_of_lt_of_le (by simp) hb.size, cells2 hh.1, hh.2 0, hh.2 1⟩
theorem Nw.of_allocq {w0 w w1 : World} {L : List (Nat × Int × Int)} (q : Nat) (hq : q = w.heap.size) (h : St w0 L w) (hb : Below (w.alloc (.cells #[.int .i64 0, .int .i64 0] 24)).heap.size (w.alloc (.cells #[.int .i64 0, .int .i64 0] 24)) w1) : Nw w0 L q w1 := by
  subst hq; exact Nw.of_alloc h hb
theorem Nw.bel {w0 w w1 : World} {L : List (Nat × Int × Int)} {q : Nat} (h : Nw w0 L q w) (hb : Below w.heap.size w w1) : Nw w0 L q w1 :=
  ⟨h.s.bel hb, h.ne, h.lo, Nat.lt_of_lt_of_le h.hi hb.size, ⟨(hb.cell (p := ⟨q, 0, none⟩) h.hi).trans h.z.1, (hb.cell (p := ⟨q, 1, none⟩) h.hi).trans h.z.2⟩,
    by simpa [World.frozen?, hb.block q h.hi] using h.f.1, by simpa [World.frozen?, hb.block q h.hi] using h.f.2⟩
theorem K2.set {w : World} {p q : Nat} {x y : Int} (h : K2 w p x y) (hne : p ≠ q) (a b : Int) : K2 ((w.setCell ⟨q, 0, none⟩ (.int .i64 a)).setCell ⟨q, 1, none⟩ (.int .i64 b)) p x y := by
  obtain ⟨h1, h2, h3⟩ := h
  refine ⟨by simpa using h1, ?_, ?_⟩
  · simp [go_sem, h2]
  · simp [go_sem, h3]
theorem Nw.set {w0 w : World} {L : List (Nat × Int × Int)} {q : Nat} (h : Nw w0 L q w) (a b : Int) : St w0 ((q, a, b) :: L) ((w.setCell ⟨q, 0, none⟩ (.int .i64 a)).setCell ⟨q, 1, none⟩ (.int .i64 b)) := by
  refine ⟨(h.s.b.setCell h.lo _).setCell h.lo _, fun t ht => ?_⟩
  rcases List.mem_cons.1 ht with rfl | ht
  · refine ⟨by simpa using h.hi, ?_, ?_⟩
    · simp [go_sem, h.z.1, h.z.2]
    · simp [go_sem, h.z.1, h.z.2]
  · exact (h.s.k t ht).set (h.ne t ht) a b
end Go.Proofs.Ytgcjjnmdbdllhaa
