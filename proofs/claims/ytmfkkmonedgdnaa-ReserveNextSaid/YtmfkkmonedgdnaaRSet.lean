/- A map that the call makes, from ints to true, into which only new keys are put: what a look-up and a store do. -/
import Derived.Test.YtmfkkmonedgdnaaProg
import Derived.Test.YtmfkkmonedgdnaaMap
namespace Go.Proofs.Ytmfkkmonedgdnaa
open Go.Maps (Keyed int_keyed keyOf_int_mk)
open Go.ChangeMaps (setBlock)
set_option linter.unusedVariables false

def entsF (f : Nat → Int) (k : Nat) : List MapEntry := (List.range k).map fun i => ⟨.int .i64 (f i), .bool true, i⟩
theorem entsF_succ (f : Nat → Int) (k : Nat) : entsF f (k + 1) = entsF f k ++ [⟨.int .i64 (f k), .bool true, k⟩] := by simp [entsF, List.range_succ]
theorem entsF_mem {f : Nat → Int} {k : Nat} {x : MapEntry} (h : x ∈ entsF f k) : ∃ i, i < k ∧ x = ⟨.int .i64 (f i), .bool true, i⟩ := by
  obtain ⟨i, hi, rfl⟩ := List.mem_map.1 h
  exact ⟨i, List.mem_range.1 hi, rfl⟩
theorem entsF_in {f : Nat → Int} {k i : Nat} (h : i < k) : (⟨.int .i64 (f i), .bool true, i⟩ : MapEntry) ∈ entsF f k := List.mem_map.2 ⟨i, List.mem_range.2 h, rfl⟩
/-- the block b is the map with the keys f 0 .. f (k - 1) -/
def SetK (w : World) (b : Nat) (f : Nat → Int) (k : Nat) : Prop := w.heap[b]? = some (.map (entsF f k).toArray k)
theorem SetK.made (w : World) (f : Nat → Int) : SetK (w.alloc (.map #[] 0)) w.heap.size f 0 := heap_alloc_new w _
theorem SetK.lt {w : World} {b : Nat} {f : Nat → Int} {k : Nat} (h : SetK w b f k) : b < w.heap.size := (Array.getElem?_eq_some_iff.1 h).1
theorem SetK.bel {w w' : World} {b : Nat} {f : Nat → Int} {k : Nat} (h : SetK w b f k) (hb : Go.RowKit.Below w.heap.size w w') : SetK w' b f k := (hb.block b h.lt).trans h
theorem K3 : Keyed Try.prog 3 := int_keyed Try.underlying3
theorem zero4 (w : World) : (zeroValue 4).run Try.prog w = .ok (.bool false) w := by kernel_rfl
def inI (q : Int) : Prop := -9223372036854775808 ≤ q ∧ q ≤ 9223372036854775807
theorem key_int {q : Int} (h : inI q) : ∃ kl, keyOf Try.prog 3 (.int .i64 q) = some kl := ⟨_, keyOf_int_mk Try.underlying3 (WalkArith.wf_i64 h)⟩

theorem SetK.keys {f : Nat → Int} {k : Nat} (hf : ∀ i, i < k → inI (f i)) : ∀ x ∈ entsF f k, ∃ l, keyOf Try.prog 3 x.key = some l := fun x hx => by
  obtain ⟨i, hi, rfl⟩ := entsF_mem hx
  exact key_int (hf i hi)
theorem SetK.look_t {w : World} {b : Nat} {f : Nat → Int} {k : Nat} (h : SetK w b f k) (hf : ∀ i, i < k → inI (f i)) {q : Int} (hq : inI q) {i : Nat} (hi : i < k) (he : f i = q) :
    (Instr.lookup 51 (.map (some b)) (.int .i64 q) false).run Try.prog w = .ok (.bool true) w := by
  obtain ⟨kl, hkl⟩ := key_int hq
  rcases K3.find w hkl (entsF f k) (SetK.keys hf) with ⟨g1, g2⟩ | ⟨j, x, g1, g2, g3⟩
  · exact absurd (by rw [he]) (g2 _ (entsF_in hi))
  · obtain ⟨i', hi', rfl⟩ := entsF_mem (List.mem_of_getElem? g2)
    simp [Instr.lookup, run_underlying Try.underlying51, MapKept.run_getObj_map h, K3.check w _ hkl, g1, Result.andThen]
theorem SetK.look_f {w : World} {b : Nat} {f : Nat → Int} {k : Nat} (h : SetK w b f k) (hf : ∀ i, i < k → inI (f i)) {q : Int} (hq : inI q) (he : ∀ i, i < k → f i ≠ q) :
    (Instr.lookup 51 (.map (some b)) (.int .i64 q) false).run Try.prog w = .ok (.bool false) w := by
  obtain ⟨kl, hkl⟩ := key_int hq
  rcases K3.find w hkl (entsF f k) (SetK.keys hf) with ⟨g1, g2⟩ | ⟨j, x, g1, g2, g3⟩
  · simp [Instr.lookup, run_underlying Try.underlying51, MapKept.run_getObj_map h, K3.check w _ hkl, g1, zero4, Result.andThen]
  · obtain ⟨i', hi', rfl⟩ := entsF_mem (List.mem_of_getElem? g2)
    have : f i' = q := by simpa using g3
    exact absurd this (he i' hi')
theorem SetK.put {w : World} {b : Nat} {f : Nat → Int} {k : Nat} (h : SetK w b f k) (hf : ∀ i, i < k → inI (f i)) (hq : inI (f k)) (he : ∀ i, i < k → f i ≠ f k) :
    (Instr.mapUpdate 51 (.map (some b)) (.int .i64 (f k)) (.bool true)).run Try.prog w = .ok () (setBlock w b (.map (entsF f (k + 1)).toArray (k + 1))) ∧ SetK (setBlock w b (.map (entsF f (k + 1)).toArray (k + 1))) b f (k + 1) := by
  obtain ⟨kl, hkl⟩ := key_int hq
  refine ⟨?_, heap_setBlock w b _ h.lt⟩
  rcases K3.find w hkl (entsF f k) (SetK.keys hf) with ⟨g1, g2⟩ | ⟨j, x, g1, g2, g3⟩
  · simp [Instr.mapUpdate, run_underlying Try.underlying51, MapKept.run_getObj_map h, K3.check w _ hkl, g1, MapKept.run_setObj_map _ h, Result.andThen, setBlock, entsF_succ]
  · obtain ⟨i', hi', rfl⟩ := entsF_mem (List.mem_of_getElem? g2)
    have : f i' = f k := by simpa using g3
    exact absurd this (he i' hi')
/-- what a store into a block of the call's own leaves -/
theorem bel_setBlock {B : Nat} {w0 w : World} {b : Nat} {o : Obj} (h : Go.RowKit.Below B w0 w) (hb : B ≤ b) : Go.RowKit.Below B w0 (setBlock w b o) := by
  refine ⟨h.os, h.tape, h.output, ?_, fun k hk => ?_⟩
  · have := h.size; simpa [setBlock] using this
  · exact (heap_setBlock_ne w b o k (by omega)).trans (h.block k hk)
end Go.Proofs.Ytmfkkmonedgdnaa
