/- A map that the call makes, told as a function on keys: what a look-up gives, and what 'm[k] op= v' (mapEntry, then entryStore) and 'm[k] = v' make of it. -/
import Derived.Test.YtmfkkmonedgdnaaBase
import Derived.WideKeyEntry
import Derived.Maps.Keyed
namespace Go.Proofs.Ytmfkkmonedgdnaa
open Go.Maps (Keyed)
open Go.ChangeMaps (setBlock)
open Go.WideElems (findIdx_born findIdx_arr modify_last)

/-- block b is a map of keys of type k; m: the element at each key (z where there is none) -/
structure MFn (P : Program) (k : TypeId) (z : Value) (w : World) (b : Nat) (m : Value → Value) : Prop where
  out : ∃ es clock, w.heap[b]? = some (.map es clock) ∧ (∀ x ∈ es.toList, ∃ l, keyOf P k x.key = some l) ∧ (∀ x ∈ es.toList, x.born < clock) ∧ (es.toList.map (·.born)).Nodup ∧
    (es.toList.map (·.key)).Nodup ∧ (∀ x ∈ es.toList, m x.key = x.val) ∧ ∀ key, (∀ x ∈ es.toList, x.key ≠ key) → m key = z

theorem MFn.made (P : Program) (k : TypeId) (z : Value) (w : World) : MFn P k z (w.alloc (.map #[] 0)) w.heap.size (fun _ => z) :=
  ⟨#[], 0, heap_alloc_new w _, by simp, by simp, by simp, by simp, by simp, fun _ _ => rfl⟩
theorem MFn.block {P : Program} {k : TypeId} {z : Value} {w w' : World} {b : Nat} {m : Value → Value} (h : MFn P k z w b m) (hb : w'.heap[b]? = w.heap[b]?) : MFn P k z w' b m := by
  obtain ⟨es, clock, h1, h2⟩ := h.out
  exact ⟨es, clock, hb.trans h1, h2⟩
theorem MFn.lt {P : Program} {k : TypeId} {z : Value} {w : World} {b : Nat} {m : Value → Value} (h : MFn P k z w b m) : b < w.heap.size := by
  obtain ⟨es, clock, h1, h2⟩ := h.out
  exact (Array.getElem?_eq_some_iff.1 h1).1
theorem MFn.congr {P : Program} {k : TypeId} {z : Value} {w : World} {b : Nat} {m m' : Value → Value} (h : MFn P k z w b m) (hm : ∀ v, m v = m' v) : MFn P k z w b m' := by
  have : m = m' := funext hm
  rw [← this]; exact h

section
variable {P : Program} {k t e : TypeId} {z : Value} {w : World} {b : Nat} {m : Value → Value}

theorem MFn.look (h : MFn P k z w b m) (K : Keyed P k) (ht : P.underlying t = some (.map k e)) (hz : ∀ u : World, (zeroValue e).run P u = .ok z u) {key : Value} {kl : Lit} (hkey : keyOf P k key = some kl) :
    (Instr.lookup t (.map (some b)) key false).run P w = .ok (m key) w := by
  obtain ⟨es, clock, hb, hk, h1, h2, h3, h4, h5⟩ := h.out
  rcases K.find w hkey es.toList hk with ⟨g1, g2⟩ | ⟨j, x, g1, g2, g3⟩
  · simp [Instr.lookup, run_underlying ht, MapKept.run_getObj_map hb, K.check w _ hkey, g1, hz, Result.andThen, h5 key g2]
  · have := h4 x (List.mem_of_getElem? g2)
    rw [g3] at this
    simp [Instr.lookup, run_underlying ht, MapKept.run_getObj_map hb, K.check w _ hkey, g1, Result.andThen, this]

/-- the stamp st marks the entry at this key -/
def Marks (w : World) (b : Nat) (key : Value) (st : Nat) : Prop :=
  ∃ (es : Array MapEntry) (clock j : Nat) (x : MapEntry), w.heap[b]? = some (.map es clock) ∧ es.toList[j]? = some x ∧ x.key = key ∧ x.born = st

theorem heap_setBlock (w : World) (b : Nat) (o : Obj) (hb : b < w.heap.size) : (setBlock w b o).heap[b]? = some o := by
  simp [setBlock, hb]

theorem heap_setBlock_ne (w : World) (b : Nat) (o : Obj) (i : Nat) (h : i ≠ b) : (setBlock w b o).heap[i]? = w.heap[i]? := by
  simp [setBlock, Ne.symm h]

theorem MFn.entry (h : MFn P k z w b m) (K : Keyed P k) (ht : P.underlying t = some (.map k e)) (hz : ∀ u : World, (zeroValue e).run P u = .ok z u) {key : Value} {kl : Lit} (hkey : keyOf P k key = some kl) :
    ∃ (v0 : Value) (st : Nat) (o : Obj), (Instr.mapEntry t (.map (some b)) key).run P w = .ok (.tuple #[v0, goInt st]) (setBlock w b o) ∧ MFn P k z (setBlock w b o) b m ∧ Marks (setBlock w b o) b key st := by
  have hlt := h.lt
  obtain ⟨es, clock, hb, hk, h1, h2, h3, h4, h5⟩ := h.out
  rcases K.find w hkey es.toList hk with ⟨g1, g2⟩ | ⟨j, x, g1, g2, g3⟩
  · refine ⟨z, clock, .map (es.push ⟨key, z, clock⟩) (clock + 1), ?_, ⟨_, _, heap_setBlock w b _ hlt, ?_, ?_, ?_, ?_, ?_, ?_⟩, ⟨_, _, es.toList.length, ⟨key, z, clock⟩, heap_setBlock w b _ hlt, ?_, rfl, rfl⟩⟩
    · simp [Instr.mapEntry, run_underlying ht, MapKept.run_getObj_map hb, K.check w false hkey, g1, hz, MapKept.run_setObj_map _ hb, Result.andThen, setBlock]
    · intro y hy
      simp only [Array.toList_push, List.mem_append, List.mem_singleton] at hy
      rcases hy with hy | rfl
      · exact hk y hy
      · exact ⟨kl, hkey⟩
    · intro y hy
      simp only [Array.toList_push, List.mem_append, List.mem_singleton] at hy
      rcases hy with hy | rfl
      · have := h1 y hy; omega
      · simp
    · simp only [Array.toList_push, List.map_append, List.map_cons, List.map_nil]
      refine List.nodup_append.2 ⟨h2, by simp, fun a ha c hc e1 => ?_⟩
      simp only [List.mem_singleton] at hc
      obtain ⟨y, hy, rfl⟩ := List.mem_map.1 ha
      have := h1 y hy
      omega
    · simp only [Array.toList_push, List.map_append, List.map_cons, List.map_nil]
      refine List.nodup_append.2 ⟨h3, by simp, fun a ha c hc e1 => ?_⟩
      simp only [List.mem_singleton] at hc
      obtain ⟨y, hy, rfl⟩ := List.mem_map.1 ha
      exact g2 y hy (e1.trans hc)
    · intro y hy
      simp only [Array.toList_push, List.mem_append, List.mem_singleton] at hy
      rcases hy with hy | rfl
      · exact h4 y hy
      · exact h5 key g2
    · intro key' hne
      refine h5 key' (fun y hy => hne y ?_)
      simp only [Array.toList_push, List.mem_append]
      exact .inl hy
    · simp
  · have hj : es[j]? = some x := by simpa using g2
    have hsame : es.modify j (fun e => { e with key := key }) = es := by
      apply Array.ext'
      rw [Array.toList_modify, ChangeMaps.modify_eq_set _ _ _ _ g2]
      have : ({ x with key := key } : MapEntry) = x := by rw [← g3]
      rw [this]
      exact WideElems.set_self _ _ _ g2
    refine ⟨x.val, x.born, .map es clock, ?_, ⟨_, _, heap_setBlock w b _ hlt, hk, h1, h2, h3, h4, h5⟩, ⟨_, _, j, x, heap_setBlock w b _ hlt, g2, g3, rfl⟩⟩
    simp [Instr.mapEntry, run_underlying ht, MapKept.run_getObj_map hb, K.check w false hkey, g1, hj, g3, K.stays w hkey, hsame, MapKept.run_setObj_map _ hb, Result.andThen, setBlock]

theorem get_modify {l : List MapEntry} {j : Nat} {x y : MapEntry} {f : MapEntry → MapEntry} (hj : l[j]? = some x) (hy : y ∈ l.modify j f) : (∃ i, i ≠ j ∧ l[i]? = some y) ∨ y = f x := by
  obtain ⟨i, hi⟩ := List.mem_iff_getElem?.1 hy
  rw [List.getElem?_modify] at hi
  by_cases hij : j = i
  · subst hij
    rw [hj] at hi
    simp at hi
    exact .inr hi.symm
  · simp [hij] at hi
    exact .inl ⟨i, fun h => hij h.symm, hi⟩

theorem MFn.store (h : MFn P k z w b m) {key : Value} {st : Nat} (hm : Marks w b key st) (val : Value) :
    ∃ o, (Instr.entryStore t (.map (some b)) (goInt st) val).run P w = .ok () (setBlock w b o) ∧ ∀ m' : Value → Value, m' key = val → (∀ x, x ≠ key → m' x = m x) → MFn P k z (setBlock w b o) b m' := by
  have hlt := h.lt
  obtain ⟨es, clock, hb, hk, h1, h2, h3, h4, h5⟩ := h.out
  obtain ⟨es', clock', j, x, hb', hx, rfl, rfl⟩ := hm
  rw [hb] at hb'
  injection hb' with hb'
  injection hb' with e1 e2
  subst e1 e2
  have hidx : es.findIdx? (fun e => ((e.born : Nat) : Int) == ((x.born : Nat) : Int)) = some j := by
    rw [findIdx_arr]
    exact findIdx_born h2 hx
  have hother : ∀ (i : Nat) (y : MapEntry), i ≠ j → es.toList[i]? = some y → y.key ≠ x.key := by
    intro i y hij hy heq
    have hi' : (es.toList.map (·.key))[i]? = some y.key := by rw [List.getElem?_map, hy]; rfl
    have hj' : (es.toList.map (·.key))[j]? = some y.key := by rw [List.getElem?_map, hx]; simp [heq]
    have hil : i < (es.toList.map (·.key)).length := (List.getElem?_eq_some_iff.1 hi').1
    exact hij ((List.getElem?_inj hil h3).1 (hi'.trans hj'.symm))
  refine ⟨.map (es.modify j fun e => { e with val := val }) clock, ?_, fun m' hm1 hm2 => ⟨_, _, heap_setBlock w b _ hlt, ?_, ?_, ?_, ?_, ?_, ?_⟩⟩
  · simp [Instr.entryStore, MapKept.run_getObj_map hb, asInt, asIntOf, goInt, hidx, MapKept.run_setObj_map _ hb, Result.andThen, setBlock]
  · intro y hy
    rw [Array.toList_modify] at hy
    rcases get_modify hx hy with ⟨i, _, hi⟩ | rfl
    · exact hk y (List.mem_of_getElem? hi)
    · exact hk x (List.mem_of_getElem? hx)
  · intro y hy
    rw [Array.toList_modify] at hy
    rcases get_modify hx hy with ⟨i, _, hi⟩ | rfl
    · exact h1 y (List.mem_of_getElem? hi)
    · exact h1 x (List.mem_of_getElem? hx)
  · rw [Array.toList_modify, ChangeMaps.modify_eq_set _ _ _ _ hx, List.map_set]
    have : (es.toList.map (·.born)).set j x.born = es.toList.map (·.born) := by
      apply List.ext_getElem?
      intro i
      rw [List.getElem?_set]
      split
      · rename_i hij; subst hij
        split
        · rw [List.getElem?_map, hx]; rfl
        · rename_i hl; rw [List.getElem?_eq_none (by omega)]
      · rfl
    simpa [this] using h2
  · rw [Array.toList_modify, ChangeMaps.modify_eq_set _ _ _ _ hx, List.map_set]
    have : (es.toList.map (·.key)).set j x.key = es.toList.map (·.key) := by
      apply List.ext_getElem?
      intro i
      rw [List.getElem?_set]
      split
      · rename_i hij; subst hij
        split
        · rw [List.getElem?_map, hx]; rfl
        · rename_i hl; rw [List.getElem?_eq_none (by omega)]
      · rfl
    simpa [this] using h3
  · intro y hy
    rw [Array.toList_modify] at hy
    rcases get_modify hx hy with ⟨i, hij, hi⟩ | rfl
    · rw [hm2 _ (hother i y hij hi)]
      exact h4 y (List.mem_of_getElem? hi)
    · exact hm1
  · intro key' hne
    have hk1 : key' ≠ x.key := by
      intro he
      have : ({ x with val := val } : MapEntry) ∈ (es.modify j fun e => { e with val := val }).toList := by
        rw [Array.toList_modify, ChangeMaps.modify_eq_set _ _ _ _ hx]
        exact List.mem_iff_getElem?.2 ⟨j, by rw [List.getElem?_set]; simp; exact (List.getElem?_eq_some_iff.1 hx).1⟩
      exact hne _ this he.symm
    rw [hm2 _ hk1]
    refine h5 key' (fun y hy heq => ?_)
    obtain ⟨i, hi⟩ := List.mem_iff_getElem?.1 hy
    have hij : i ≠ j := by
      rintro rfl
      rw [hx] at hi
      injection hi with hi
      exact hk1 (hi ▸ heq.symm)
    refine hne y ?_ heq
    rw [Array.toList_modify]
    exact List.mem_iff_getElem?.2 ⟨i, by rw [List.getElem?_modify]; simp [hij.symm, hi]⟩
end
end Go.Proofs.Ytmfkkmonedgdnaa
