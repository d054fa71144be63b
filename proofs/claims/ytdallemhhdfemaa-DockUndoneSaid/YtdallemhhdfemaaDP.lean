/- Lists of bools that the call itself makes; the walk of the reference's New. -/
import Derived.Test.YtdallemhhdfemaaDO
import Derived.Test.YtdallemhhdfemaaMade
namespace Go.Proofs.Ytdallemhhdfemaa
open Go.RowKit
set_option maxHeartbeats 4000000
set_option maxRecDepth 100000
set_option linter.unusedVariables false

def cellsB (n : Nat) (f : Nat → Bool) : List Value := (List.range n).map fun i => .bool (f i)
theorem cellsB_succ (n : Nat) (f : Nat → Bool) : cellsB (n + 1) f = cellsB n f ++ [.bool (f n)] := by simp [cellsB, List.range_succ]
theorem cellsB_len (n : Nat) (f : Nat → Bool) : (cellsB n f).length = n := by simp [cellsB]
theorem cellsB_get (n : Nat) (f : Nat → Bool) (i : Nat) (hi : i < n) : (cellsB n f)[i]? = some (.bool (f i)) := by simp [cellsB, hi]
theorem cellsB_set (n : Nat) (f : Nat → Bool) (j : Nat) (y : Bool) : (cellsB n f).set j (.bool y) = cellsB n (fun i => if i = j then y else f i) := by
  apply List.ext_getElem?
  intro i
  by_cases hi : i < n
  · by_cases hij : i = j
    · subst hij; rw [cellsB_get _ _ _ hi, List.getElem?_set_self (by simpa [cellsB] using hi), if_pos rfl]
    · rw [cellsB_get _ _ _ hi, List.getElem?_set_ne (fun e => hij e.symm), cellsB_get _ _ _ hi, if_neg hij]
  · rw [List.getElem?_eq_none (by simp [cellsB]; omega), List.getElem?_eq_none (by simp [cellsB]; omega)]
def OwnB (w : World) (B e : Nat) (v : Value) (n : Nat) (f : Nat → Bool) : Prop := w.ownsRow B e 1 v n (cellsB n f)
theorem OwnB.nil (w : World) (B e : Nat) (f : Nat → Bool) : OwnB w B e (.slice none 0 0) 0 f := World.ownsRow_nil w B e 1
theorem OwnB.form {w : World} {B e : Nat} {v : Value} {n : Nat} {f : Nat → Bool} (h : OwnB w B e v n f) : ∃ A c, v = .slice A n c ∧ SlB w A n f ∧ n ≤ c := by
  have h0 := h
  obtain ⟨hl, h1⟩ := h
  rcases h1 with ⟨rfl, rfl⟩ | ⟨g, cap, cur, rfl, hb, hg, hn, hm, hcs, htk⟩
  · exact ⟨none, 0, rfl, fun h => by omega, Nat.le_refl _⟩
  · refine ⟨_, _, rfl, fun hn0 => ⟨g, 0, rfl, (Array.getElem?_eq_some_iff.1 hg).1, fun j hj => ?_⟩, hn⟩
    have := World.ownsRow.cells h0 (g := g) rfl j _ (cellsB_get n f j hj)
    by_cases hj0 : j = 0
    · subst hj0; simpa [Addr.add] using this
    · simpa [Addr.add, hj0] using this
def IsBool (P : Program) (e : TypeId) : Prop := (P.info? e).map (fun i => (i.zero, i.size, i.bytes)) = some (some (.bool false), 1, 1)
theorem isBool4 : IsBool Try.prog 4 := by unfold IsBool; kernel_rfl

theorem app_bool {P : Program} (w : World) {ops : Array Oper} {rest : List Oper} {o : Oper} {a : Act} {Q : Exit → Act → World → Prop} (hgd : o.guard = none) (s x : Operand) (t : TypeId)
    (ho : o.op = .call { callee := .builtin .append, args := #[s, x], argTypes := #[t, t] }) {e : TypeId} (ht : P.underlying t = some (.slice e)) (he : IsBool P e)
    {B : Nat} {v : Value} {n : Nat} {f : Nat → Bool} (hs : a.eval s = v) (y : Bool) (q : Nat) (hq : q = w.heap.size) (hx : a.eval x = .slice (some ⟨q, 0, none⟩) 1 1) (hown : OwnB w B e v n f)
    (hn : n + 1 ≤ 1099511627776) (hB : B ≤ w.heap.size) (hy : f n = y)
    (h : ∀ v' w', OwnB w' B e v' (n + 1) f → w.grownBy w' v.ownBlock → wpList P ops Q rest (a.put o.dst v') w') :
    wpList P ops Q (o :: rest) a (w.alloc (.cells #[.bool y] e)) := by
  subst hq
  obtain ⟨i0, hi, hz0, hz1, hz2⟩ := info_parts he
  refine wpList_append_own_at _ hgd s x t ho B e i0 (.bool false) 1 1 ht hi hz0 hz1 hz2 rfl (by omega) v n (cellsB n f) hs (World.ownsRow.alloc hown _) ⟨w.heap.size, 0, none⟩ 1 1 [.bool y] hx rfl
    (cell_one_new _ _ _) (fun u hu => by simp at hu; subst hu; rfl) (by unfold maxLen; omega) (by omega) (by simp; omega) ?_
  intro v' w' hown' hg _ hloc
  refine h v' w' ?_ ((World.grownBy_alloc w _ _).trans hg)
  unfold OwnB
  rw [cellsB_succ, hy]
  exact hown'

/-- a list stays as long as its block does -/
theorem own_heap {w w' : World} {B e s n : Nat} {v : Value} {xs : List Value} (h : w.ownsRow B e s v n xs) (hk : ∀ k, v.ownBlock = some k → w'.heap[k]? = w.heap[k]?) : w'.ownsRow B e s v n xs := by
  obtain ⟨hl, h1⟩ := h
  refine ⟨hl, ?_⟩
  rcases h1 with h1 | ⟨g, cap, cur, rfl, hb, hg, rest⟩
  · exact .inl h1
  · exact .inr ⟨g, cap, cur, rfl, hb, (hk g rfl).trans hg, rest⟩
theorem own_ty {w : World} {B e s n c : Nat} {A : Option Addr} {xs : List Value} (h : w.ownsRow B e s (.slice A n c) n xs) : ∀ b o t, A = some ⟨b, o, t⟩ → ∃ cs, w.heap[b]? = some (.cells cs e (0, 0)) := by
  intro b o t he
  subst he
  rcases h.2 with ⟨h0, _⟩ | ⟨g, cap, cur, hv, _, hg, _⟩
  · cases h0
  · injection hv with hv _ _
    injection hv with hv
    injection hv with hb _ _
    subst hb
    exact ⟨cur, hg⟩
/-- lists of different types lie in different blocks -/
theorem own_ne {w : World} {B B' e e' s s' n m : Nat} {v u : Value} {xs ys : List Value} (h : w.ownsRow B e s v n xs) (h' : w.ownsRow B' e' s' u m ys) (hne : e ≠ e') : v.ownBlock = none ∨ v.ownBlock ≠ u.ownBlock := by
  rcases h.2 with ⟨rfl, _⟩ | ⟨g, cap, cur, rfl, _, hg, _⟩
  · exact .inl rfl
  · rcases h'.2 with ⟨rfl, _⟩ | ⟨g', cap', cur', rfl, _, hg', _⟩
    · exact .inr (by simp [Value.ownBlock])
    · refine .inr (fun he => ?_)
      have : g = g' := by simpa [Value.ownBlock] using he
      subst this
      rw [hg] at hg'
      injection hg' with hg'
      injection hg' with _ ht
      exact hne ht

/-- where New stands: p the result, p + 1 the station in the making -/
structure NewAt (w wr : World) (p i j : Nat) (v v' : Value) : Prop where
  bp : wr.heap[p]? = some (.cells #[.slice none 0 0, .slice none 0 0] 31 (0, 0))
  bq : wr.heap[p + 1]? = some (.cells #[v, v'] 31 (0, 0))
  oi : OwnI wr (p + 2) 3 v i (fun _ => -1)
  ob : OwnB wr (p + 2) 4 v' j (fun _ => false)
  bel : Below p w wr
  sz : p + 2 ≤ wr.heap.size
section
variable {w wr : World} {p i j : Nat} {v v' : Value}
theorem NewAt.c0 (h : NewAt w wr p i j v v') : wr.cell? ⟨p + 1, 0, none⟩ = some v := by rw [cell_of_row _ _ _ _ _ _ h.bq]; rfl
theorem NewAt.c1 (h : NewAt w wr p i j v v') : wr.cell? ⟨p + 1, 1, none⟩ = some v' := by rw [cell_of_row _ _ _ _ _ _ h.bq]; rfl
theorem NewAt.f (h : NewAt w wr p i j v v') (q : Nat) : wr.frozen? ⟨p + 1, q, none⟩ = false := by simp [World.frozen?, h.bq]
theorem NewAt.p0 (h : NewAt w wr p i j v v') : wr.cell? ⟨p, 0, none⟩ = some (.slice none 0 0) := by rw [cell_of_row _ _ _ _ _ _ h.bp]; rfl
theorem NewAt.p1 (h : NewAt w wr p i j v v') : wr.cell? ⟨p, 1, none⟩ = some (.slice none 0 0) := by rw [cell_of_row _ _ _ _ _ _ h.bp]; rfl
theorem NewAt.pf (h : NewAt w wr p i j v v') (q : Nat) : wr.frozen? ⟨p, q, none⟩ = false := by simp [World.frozen?, h.bp]
/-- behind an append: the station's block as it was -/
theorem NewAt.mid {w5 : World} {row : Option Nat} (h : NewAt w wr p i j v v') (hg : wr.grownBy w5 row) (hr : ∀ k, row = some k → p + 2 ≤ k) : w5.heap[p]? = some (.cells #[.slice none 0 0, .slice none 0 0] 31 (0, 0)) ∧ w5.heap[p + 1]? = some (.cells #[v, v'] 31 (0, 0)) := by
  have := h.sz
  exact ⟨(hg.block p (by omega) (fun e => by have := hr p e.symm; omega)).trans h.bp, (hg.block (p + 1) (by omega) (fun e => by have := hr (p + 1) e.symm; omega)).trans h.bq⟩
theorem NewAt.stepI {w5 : World} {v1 : Value} (h : NewAt w wr p i j v v') (ho : OwnI w5 (p + 2) 3 v1 (i + 1) (fun _ => -1)) (hg : wr.grownBy w5 v.ownBlock) : NewAt w (w5.setCell ⟨p + 1, 0, none⟩ v1) p (i + 1) j v1 v' := by
  have hlt := fun k hk => (World.ownsRow.lt h.oi k hk).1
  obtain ⟨m1, m2⟩ := h.mid hg hlt
  have ob5 : OwnB w5 (p + 2) 4 v' j (fun _ => false) := World.ownsRow.kept h.ob hg (own_ne h.ob h.oi (by decide))
  refine ⟨?_, ?_, ?_, ?_, ?_, ?_⟩
  · rw [heap_set_ne (by simp)]; exact m1
  · rw [setCell_eq_setRow w5 (p + 1) 0 _ 31 (0, 0) _ m2, setRow_heap w5 (p + 1) _ _ 31 _ m2]; rfl
  · exact own_heap ho (fun k hk => heap_set_ne (by have := (World.ownsRow.lt ho k hk).1; simp; omega))
  · exact own_heap ob5 (fun k hk => heap_set_ne (by have := (World.ownsRow.lt ob5 k hk).1; simp; omega))
  · exact (h.bel.grown hg (by have := h.sz; omega) (fun k hk => by have := hlt k hk; omega)).setCell (by simp) _
  · have h1 := h.sz; have h2 := hg.size; simp [World.setCell]; omega
theorem NewAt.stepB {w5 : World} {v1 : Value} (h : NewAt w wr p i j v v') (ho : OwnB w5 (p + 2) 4 v1 (j + 1) (fun _ => false)) (hg : wr.grownBy w5 v'.ownBlock) : NewAt w (w5.setCell ⟨p + 1, 1, none⟩ v1) p i (j + 1) v v1 := by
  have hlt := fun k hk => (World.ownsRow.lt h.ob k hk).1
  obtain ⟨m1, m2⟩ := h.mid hg hlt
  have oi5 : OwnI w5 (p + 2) 3 v i (fun _ => -1) := World.ownsRow.kept h.oi hg (own_ne h.oi h.ob (by decide))
  refine ⟨?_, ?_, ?_, ?_, ?_, ?_⟩
  · rw [heap_set_ne (by simp)]; exact m1
  · rw [setCell_eq_setRow w5 (p + 1) 1 _ 31 (0, 0) _ m2, setRow_heap w5 (p + 1) _ _ 31 _ m2]; rfl
  · exact own_heap oi5 (fun k hk => heap_set_ne (by have := (World.ownsRow.lt oi5 k hk).1; simp; omega))
  · exact own_heap ho (fun k hk => heap_set_ne (by have := (World.ownsRow.lt ho k hk).1; simp; omega))
  · exact (h.bel.grown hg (by have := h.sz; omega) (fun k hk => by have := hlt k hk; omega)).setCell (by simp) _
  · have h1 := h.sz; have h2 := hg.size; simp [World.setCell]; omega
theorem NewAt.start (w : World) : NewAt w ((w.alloc (.cells #[.slice none 0 0, .slice none 0 0] 31)).alloc (.cells #[.slice none 0 0, .slice none 0 0] 31)) w.heap.size 0 0 (.slice none 0 0) (.slice none 0 0) := by
  refine ⟨?_, ?_, OwnI.nil _ _ _ _, OwnB.nil _ _ _ _, (box_bel w _).alloc (by simp) _, by simp⟩
  · rw [Below.heap_alloc _ _ _ (by simp)]; exact heap_alloc_new w _
  · have := heap_alloc_new (w.alloc (.cells #[.slice none 0 0, .slice none 0 0] 31)) (.cells #[.slice none 0 0, .slice none 0 0] 31)
    rw [alloc_size] at this
    exact this
theorem NewAt.fin {k c c' : Nat} {A A' : Option Addr} (h : NewAt w wr p k k (.slice A k c) (.slice A' k c')) (u u' : Value) : Rf ((wr.setCell ⟨p, 0, none⟩ u).setCell ⟨p, 1, none⟩ u') A A' k zeroD := by
  have hi : OwnI ((wr.setCell ⟨p, 0, none⟩ u).setCell ⟨p, 1, none⟩ u') (p + 2) 3 (.slice A k c) k (fun _ => -1) := own_heap h.oi (fun g hg => by
    have := (World.ownsRow.lt h.oi g hg).1
    rw [heap_set_ne (by simp; omega), heap_set_ne (by simp; omega)])
  have hb : OwnB ((wr.setCell ⟨p, 0, none⟩ u).setCell ⟨p, 1, none⟩ u') (p + 2) 4 (.slice A' k c') k (fun _ => false) := own_heap h.ob (fun g hg => by
    have := (World.ownsRow.lt h.ob g hg).1
    rw [heap_set_ne (by simp; omega), heap_set_ne (by simp; omega)])
  obtain ⟨A1, c1, e1, h1, _⟩ := hi.form
  obtain ⟨A2, c2, e2, h2, _⟩ := hb.form
  cases e1; cases e2
  exact ⟨h1, h2, own_ty hi, own_ty hb⟩
end

def RefNew (w0 : World) (n : Nat) (E : Int) (e : Ending) (w' : World) : Prop := ∃ A c A' c', e = .returned (.tuple #[rV A c A' c' n, .int .i64 E]) ∧ Rf w' A A' n zeroD ∧ Below w0.heap.size w0 w'

theorem new10_bad (d : Int) (w : World) (h : d < 1 ∨ 32 < d) : Calls Try.prog 10 #[.int .i64 d] w fun x w' => x = .returned (.tuple #[rV none 0 none 0 0, .int .i64 1]) ∧ Below w.heap.size w w' := by
  have h2 : d < 1 ∨ (1 ≤ d ∧ 32 < d) := by omega
  clear h
  have HB := Lib.hid (NewAt.start w).bel
  rcases h2 with h1 | ⟨h1, h2⟩
  all_goals
    go_enter Try.func10, Try.ntmps10
    go_wp2_with fail
    refine bodyPost_ret (v := .tuple #[rV none 0 none 0 0, .int .i64 1]) (by simp [results, Try.results10, go_sem]) rfl ⟨rfl, ?_⟩
    exact HB.out

theorem new10 (n : Nat) (w : World) (h1 : 1 ≤ n) (h2 : n ≤ 32) : Calls Try.prog 10 #[.int .i64 n] w (RefNew w n 0) := by
  have k1 : (1 : Int) ≤ (n : Int) := by omega
  have k2 : (n : Int) ≤ 32 := by omega
  have HS := Lib.hid (NewAt.start w)
  go_enter Try.func10, Try.ntmps10
  go_wp2_with fail
  go_loopw [5] (fun i wr => ∃ k c c' : Nat, ∃ A A' : Option Addr, k ≤ n ∧ i = .int .i64 k ∧ Hid (NewAt w wr w.heap.size k k (.slice A k c) (.slice A' k c'))) (fun i _ => n - (intOf i).toNat)
  case atStart => exact ⟨0, _, _, _, _, by omega, rfl, HS⟩
  case round =>
    obtain ⟨k, c, c', A, A', hk, rfl, H⟩ := hrel
    have c0 := H.out.c0
    have c1 := H.out.c1
    have f0 := H.out.f 0
    have f1 := H.out.f 1
    by_cases hlt : k < n
    case neg =>
      have hkn : k = n := by omega
      subst hkn
      have hltI : ¬ (k : Int) < (k : Int) := by omega
      have p0 := H.out.p0
      have p1 := H.out.p1
      have g0 := H.out.pf 0
      have g1 := H.out.pf 1
      go_wp2_with fail
      refine bodyPost_ret (v := .tuple #[rV A c A' c' k, .int .i64 0]) (by simp [results, Try.results10, go_sem, p0, p1]) rfl ⟨A, c, A', c', rfl, ?_, ?_⟩
      · exact H.out.fin _ _
      · exact (H.out.bel.setCell (Nat.le_refl _) _).setCell (Nat.le_refl _) _
    have hltI : (k : Int) < (n : Int) := by omega
    have hsz := H.out.sz
    go_wp2_with (first
      | (at_builtin; refine app_int wr rfl (.tmp 19) (.tmp 20) 28 rfl Try.underlying28 isInt3 rfl _ rfl H.out.oi (by omega) hsz rfl ?_; intro v1 w5 hown5 hg5 hloc5; obtain ⟨A1, ca1, rfl, _, _, _⟩ := hown5.form; have M := Lib.hid (H.out.stepI hown5 hg5); have m0 := (H.out.mid hg5 (fun k hk => (World.ownsRow.lt H.out.oi k hk).1)); have d0 : w5.cell? ⟨w.heap.size + 1, 0, none⟩ = some (.slice A k c) := (by rw [cell_of_row _ _ _ _ _ _ m0.2]; rfl); have e0 : w5.frozen? ⟨w.heap.size + 1, 0, none⟩ = false := (by simp [World.frozen?, m0.2]); have d1 := M.out.c1; have hsz6 := M.out.sz; clear m0 hown5 hg5 hloc5)
      | (at_builtin; refine app_bool _ rfl (.tmp 24) (.tmp 25) 29 rfl Try.underlying29 isBool4 rfl _ w5.heap.size (size_setCell _ _ _).symm rfl M.out.ob (by omega) hsz6 rfl ?_; intro v2 w7 hown7 hg7; obtain ⟨A2, ca2, rfl, _, _⟩ := hown7.form; have M2 := Lib.hid (M.out.stepB hown7 hg7); have m1 := (M.out.mid hg7 (fun k hk => (World.ownsRow.lt M.out.ob k hk).1)); have d2 : w7.cell? ⟨w.heap.size + 1, 1, none⟩ = some (.slice A' k c') := (by rw [cell_of_row _ _ _ _ _ _ m1.2]; rfl); have e2 : w7.frozen? ⟨w.heap.size + 1, 1, none⟩ = false := (by simp [World.frozen?, m1.2]); clear m1 hown7 hg7))
    go_roundw
    case rel => exact ⟨k + 1, _, _, _, _, by omega, by go_num, M2⟩
    case measure => simp [intOf]; omega
end Go.Proofs.Ytdallemhhdfemaa
