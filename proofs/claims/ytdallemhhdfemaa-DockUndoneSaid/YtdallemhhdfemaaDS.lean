/- The walk of the reference's Insert. -/
import Derived.Test.YtdallemhhdfemaaDR
import Derived.Deep.Cut
namespace Go.Proofs.Ytdallemhhdfemaa
open Go.RowKit
set_option maxHeartbeats 4000000
set_option maxRecDepth 100000
set_option linter.unusedVariables false

theorem RefPost.same {w w' : World} {n : Nat} {D D' : Dk} {E E' : Int} {A A' : Option Addr} {c c' : Nat} (hr : Rf w A A' n D) (hb : Below w.heap.size w w') (hD : D' = D) (hE : E' = E) : RefPost w n D' E' (.returned (.tuple #[rV A c A' c' n, .int .i64 E])) w' := by
  subst hD hE
  exact ⟨A, c, A', c', rfl, hr.bel hb, hb⟩

/-- the copy under way: the parameter, the result and the variable t (block r), and the copy's own lists -/
structure Cop (w : World) (A : Option Addr) (c : Nat) (A' : Option Addr) (c' n : Nat) (X : World) (r g c3 g' c4 : Nat) (D : Dk) : Prop where
  big : Big w A c A' c' n X
  own : Own2 X (w.heap.size + 2) (some ⟨g, 0, none⟩) c3 (some ⟨g', 0, none⟩) c4 n D
  lo : w.heap.size + 2 ≤ r
  t : X.heap[r]? = some (.cells #[.slice (some ⟨g, 0, none⟩) n c3, .slice (some ⟨g', 0, none⟩) n c4] 31 (0, 0))
section
variable {w X : World} {A A' : Option Addr} {c c' n r g c3 g' c4 : Nat} {D D' : Dk}
theorem Cop.start {w3 : World} (hb : Big w A c A' c' n w3) (ho : Own2 w3 (w.heap.size + 2) (some ⟨g, 0, none⟩) c3 (some ⟨g', 0, none⟩) c4 n D) :
    Cop w A c A' c' n (w3.alloc (.cells #[.slice (some ⟨g, 0, none⟩) n c3, .slice (some ⟨g', 0, none⟩) n c4] 31)) w3.heap.size g c3 g' c4 D :=
  ⟨hb.go (box_bel w3 _) hb.sz, ho.alloc _, hb.sz, heap_alloc_new w3 _⟩
theorem Cop.all (h : Cop w A c A' c' n X r g c3 g' c4 D) : ∃ u u', X.cell? ⟨w.heap.size, 0, none⟩ = some (.slice A n c) ∧ X.cell? ⟨w.heap.size, 1, none⟩ = some (.slice A' n c') ∧
    X.cell? ⟨w.heap.size + 1, 0, none⟩ = some u ∧ X.cell? ⟨w.heap.size + 1, 1, none⟩ = some u' ∧ X.frozen? ⟨w.heap.size + 1, 0, none⟩ = false ∧ X.frozen? ⟨w.heap.size + 1, 1, none⟩ = false ∧
    X.cell? ⟨r, 0, none⟩ = some (.slice (some ⟨g, 0, none⟩) n c3) ∧ X.cell? ⟨r, 1, none⟩ = some (.slice (some ⟨g', 0, none⟩) n c4) := by
  obtain ⟨u, u', a1, a2, a3, a4, a5, a6⟩ := h.big.all
  refine ⟨u, u', a1, a2, a3, a4, a5, a6, ?_, ?_⟩
  · rw [cell_of_row _ _ _ _ _ _ h.t]; rfl
  · rw [cell_of_row _ _ _ _ _ _ h.t]; rfl
theorem Cop.putI (h : Cop w A c A' c' n X r g c3 g' c4 D) (i : Nat) (u : Int) (hr : ∀ k, rb D' k = if k = i then u else rb D k) (hx : D'.x = D.x) : Cop w A c A' c' n (X.setCell ⟨g, i, none⟩ (.int .i64 u)) r g c3 g' c4 D' := by
  have hg := (World.ownsRow.lt h.own.i g rfl).1
  have hne : r ≠ g := fun e => own_blk h.own.i h.t (by decide) (by rw [e]; rfl)
  exact ⟨h.big.go (((Below.refl X.heap.size X).mono h.big.sz).setCell hg _) (Nat.le_refl _), h.own.putI i u hr hx, h.lo, (heap_set_ne hne).trans h.t⟩
theorem Cop.putX (h : Cop w A c A' c' n X r g c3 g' c4 D) (i : Nat) (u : Bool) : Cop w A c A' c' n (X.setCell ⟨g', i, none⟩ (.bool u)) r g c3 g' c4 (setX D i u) := by
  have hg := (World.ownsRow.lt h.own.x g' rfl).1
  have hne : r ≠ g' := fun e => own_blk h.own.x h.t (by decide) (by rw [e]; rfl)
  exact ⟨h.big.go (((Below.refl X.heap.size X).mono h.big.sz).setCell hg _) (Nat.le_refl _), h.own.putX i u, h.lo, (heap_set_ne hne).trans h.t⟩
theorem Cop.fin (h : Cop w A c A' c' n X r g c3 g' c4 D) (u u' : Value) : Rf ((X.setCell ⟨w.heap.size + 1, 0, none⟩ u).setCell ⟨w.heap.size + 1, 1, none⟩ u') (some ⟨g, 0, none⟩) (some ⟨g', 0, none⟩) n D ∧
    Below w.heap.size w ((X.setCell ⟨w.heap.size + 1, 0, none⟩ u).setCell ⟨w.heap.size + 1, 1, none⟩ u') :=
  ⟨((h.own.set u).set u').rf, (h.big.set u u').bel⟩
theorem Cop.post (h : Cop w A c A' c' n X r g c3 g' c4 D') (u u' : Value) (hD : D = D') {E E' : Int} (hE : E = E') : RefPost w n D E (.returned (.tuple #[rV (some ⟨g, 0, none⟩) c3 (some ⟨g', 0, none⟩) c4 n, .int .i64 E'])) ((X.setCell ⟨w.heap.size + 1, 0, none⟩ u).setCell ⟨w.heap.size + 1, 1, none⟩ u') := by
  subst hD hE
  exact ⟨_, _, _, _, rfl, (h.fin u u').1, (h.fin u u').2⟩
end

theorem insert24 (A A' : Option Addr) (c c' n : Nat) (D : Dk) (d bike : Int) (w : World) (h : Rf w A A' n D) (hi : Inv n D) (h1 : 1 ≤ n) (h2 : n ≤ 32) :
    Calls Try.prog 24 #[rV A c A' c' n, .int .i64 d, .int .i64 bike] w (RefPost w n (insD n D d bike) (insE n D d bike)) := by
  have H := Lib.hid h
  have HI := Lib.hid hi
  have G0 := Lib.hid (Big.start w A c A' c' n)
  have HD : Hid (insE n D d bike ≠ 0 → insD n D d bike = D) := Lib.hid (fun h => if_neg h)
  clear h hi
  by_cases hd : 0 ≤ d ∧ d < (n : Int)
  case neg =>
    have hc := Lib.hid (show inN n d = false from decide_eq_false hd)
    have HE := Lib.hid (show insE n D d bike = 7 from if_neg hd)
    clear hd
    go_enter Try.func24, Try.ntmps24
    go_wp2_with fail
    refine (dock32 A A' c c' n d _ h2).mono ?_
    rw [hc.out]
    rintro x w1 ⟨rfl, hb⟩
    have G1 := Lib.hid (G0.out.go hb G0.out.sz)
    obtain ⟨u, u', p0, p1, q0, q1, f0, f1⟩ := G1.out.all
    clear hb
    go_wp2_with fail
    refine bodyPost_ret (v := .tuple #[rV A c A' c' n, .int .i64 7]) (by simp [results, Try.results24, go_sem, q0, q1]) rfl ?_
    exact RefPost.same H.out (G1.out.set _ _).bel (HD.out (by rw [HE.out]; decide)) HE.out
  obtain ⟨i, rfl⟩ : ∃ i : Nat, d = (i : Int) := ⟨d.toNat, by omega⟩
  have hi : i < n := by omega
  have hiI : (i : Int) < (n : Int) := by omega
  have hc := Lib.hid (show inN n (i : Int) = true from decide_eq_true hd)
  have HX : Hid (insE n D (i : Int) bike = if bike < 0 ∨ 128 ≤ bike then 1 else if D.x i = true then 12 else if D.f i = true then 22 else if fiF n D bike = true then 6 else 0) := Lib.hid (by unfold insE; rw [if_pos hd, Int.toNat_natCast])
  clear hd
  by_cases hb : bike < 0 ∨ 128 ≤ bike
  case pos =>
    have HE := Lib.hid (show insE n D (i : Int) bike = 1 by rw [HX.out, if_pos hb])
    have hb2 : bike < 0 ∨ (0 ≤ bike ∧ 128 ≤ bike) := by omega
    clear hb
    rcases hb2 with hb | ⟨hb, hb3⟩
    all_goals
      go_enter Try.func24, Try.ntmps24
      go_wp2_with fail
      refine (dock32 A A' c c' n (i : Int) _ h2).mono ?_
      rw [hc.out]
      rintro x w1 ⟨rfl, hb⟩
      have G1 := Lib.hid (G0.out.go hb G0.out.sz)
      obtain ⟨u, u', p0, p1, q0, q1, f0, f1⟩ := G1.out.all
      clear hb
      go_wp2_with fail
      refine bodyPost_ret (v := .tuple #[rV A c A' c' n, .int .i64 1]) (by simp [results, Try.results24, go_sem, q0, q1]) rfl ?_
      exact RefPost.same H.out (G1.out.set _ _).bel (HD.out (by rw [HE.out]; decide)) HE.out
  have hb1 : 0 ≤ bike := by omega
  have hb2 : bike < 128 := by omega
  obtain ⟨b, o, rfl, hbw, _⟩ := H.out.i.at_ i hi
  obtain ⟨b', o', rfl, hbw', _⟩ := H.out.x.at_ i hi
  clear hbw hbw'
  have r0 : Hid (∀ X, Below w.heap.size w X → X.cell? ⟨b, o + i, none⟩ = some (.int .i64 (rb D i)) ∧ X.cell? ⟨b', o' + i, none⟩ = some (.bool (D.x i))) := Lib.hid (fun X hX => by
    obtain ⟨b1, o1, e1, _, h1⟩ := (H.out.bel hX).i.at_ i hi
    obtain ⟨b2, o2, e2, _, h2⟩ := (H.out.bel hX).x.at_ i hi
    cases e1; cases e2
    exact ⟨h1, h2⟩)
  cases hx : D.x i with
  | true =>
    have HE := Lib.hid (show insE n D (i : Int) bike = 12 by rw [HX.out, if_neg hb, if_pos hx])
    rw [hx] at r0
    clear hb hx
    go_enter Try.func24, Try.ntmps24
    go_wp2_with fail
    refine (dock32 _ _ c c' n (i : Int) _ h2).mono ?_
    rw [hc.out]
    rintro x w1 ⟨rfl, hb⟩
    have G1 := Lib.hid (G0.out.go hb G0.out.sz)
    obtain ⟨u, u', p0, p1, q0, q1, f0, f1⟩ := G1.out.all
    obtain ⟨s0, s1⟩ := r0.out w1 G1.out.bel
    clear hb
    go_wp2_with fail
    refine bodyPost_ret (v := .tuple #[rV (some ⟨b, o, none⟩) c (some ⟨b', o', none⟩) c' n, .int .i64 12]) (by simp [results, Try.results24, go_sem, q0, q1]) rfl ?_
    exact RefPost.same H.out (G1.out.set _ _).bel (HD.out (by rw [HE.out]; decide)) HE.out
  | false =>
    rw [hx] at r0
    cases hf : D.f i with
    | true =>
      have hr : rb D i = D.b i := if_pos hf
      have hge := (HI.out.b i hi hf).1
      rw [hr] at r0
      have HE := Lib.hid (show insE n D (i : Int) bike = 22 by rw [HX.out, if_neg hb, if_neg (by rw [hx]; decide), if_pos hf])
      clear hb hx hf hr
      go_enter Try.func24, Try.ntmps24
      go_wp2_with fail
      refine (dock32 _ _ c c' n (i : Int) _ h2).mono ?_
      rw [hc.out]
      rintro x w1 ⟨rfl, hb⟩
      have G1 := Lib.hid (G0.out.go hb G0.out.sz)
      obtain ⟨u, u', p0, p1, q0, q1, f0, f1⟩ := G1.out.all
      obtain ⟨s0, s1⟩ := r0.out w1 G1.out.bel
      clear hb
      go_wp2_with fail
      refine bodyPost_ret (v := .tuple #[rV (some ⟨b, o, none⟩) c (some ⟨b', o', none⟩) c' n, .int .i64 22]) (by simp [results, Try.results24, go_sem, q0, q1]) rfl ?_
      exact RefPost.same H.out (G1.out.set _ _).bel (HD.out (by rw [HE.out]; decide)) HE.out
    | false =>
      have hr : rb D i = -1 := if_neg (by rw [hf]; decide)
      rw [hr] at r0
      clear hr
      cases hq : fiF n D bike with
      | true =>
        have HE := Lib.hid (show insE n D (i : Int) bike = 6 by rw [HX.out, if_neg hb, if_neg (by rw [hx]; decide), if_neg (by rw [hf]; decide), if_pos hq])
        have HQ := Lib.hid hq
        clear hb hx hf hq
        go_enter Try.func24, Try.ntmps24
        go_wp2_with fail
        refine (dock32 _ _ c c' n (i : Int) _ h2).mono ?_
        rw [hc.out]
        rintro x w1 ⟨rfl, hb⟩
        have G1 := Lib.hid (G0.out.go hb G0.out.sz)
        obtain ⟨u, u', p0, p1, q0, q1, f0, f1⟩ := G1.out.all
        obtain ⟨s0, s1⟩ := r0.out w1 G1.out.bel
        clear hb
        go_wp2_with fail
        refine (find28 _ _ c c' n D bike w1 (H.out.bel G1.out.bel) HI.out h2).mono ?_
        rw [HQ.out]
        rintro x w2 ⟨rfl, hb⟩
        have G2 := Lib.hid (G1.out.go hb G1.out.sz)
        clear hb p0 p1 q0 q1 f0 f1 s0 s1
        obtain ⟨u, u', p0, p1, q0, q1, f0, f1⟩ := G2.out.all
        go_wp2_with fail
        refine bodyPost_ret (v := .tuple #[rV (some ⟨b, o, none⟩) c (some ⟨b', o', none⟩) c' n, .int .i64 6]) (by simp [results, Try.results24, go_sem, q0, q1]) rfl ?_
        exact RefPost.same H.out (G2.out.set _ _).bel (HD.out (by rw [HE.out]; decide)) HE.out
      | false =>
        have HE := Lib.hid (show insE n D (i : Int) bike = 0 by rw [HX.out, if_neg hb, if_neg (by rw [hx]; decide), if_neg (by rw [hf]; decide), if_neg (by rw [hq]; decide)])
        have HN := Lib.hid (show insD n D (i : Int) bike = setF (setB D i bike) i true by unfold insD; rw [if_pos HE.out, Int.toNat_natCast])
        have HQ := Lib.hid hq
        clear hb hx hf hq
        go_enter Try.func24, Try.ntmps24
        go_wp2_with fail
        refine (dock32 _ _ c c' n (i : Int) _ h2).mono ?_
        rw [hc.out]
        rintro x w1 ⟨rfl, hb⟩
        have G1 := Lib.hid (G0.out.go hb G0.out.sz)
        obtain ⟨u, u', p0, p1, q0, q1, f0, f1⟩ := G1.out.all
        obtain ⟨s0, s1⟩ := r0.out w1 G1.out.bel
        clear hb
        go_wp2_with fail
        refine (find28 _ _ c c' n D bike w1 (H.out.bel G1.out.bel) HI.out h2).mono ?_
        rw [HQ.out]
        rintro x w2 ⟨rfl, hb⟩
        have G2 := Lib.hid (G1.out.go hb G1.out.sz)
        clear hb p0 p1 q0 q1 f0 f1 s0 s1
        obtain ⟨u, u', p0, p1, q0, q1, f0, f1⟩ := G2.out.all
        go_wp2_with fail
        refine (copied33 _ _ c c' n D w2 (H.out.bel G2.out.bel) h1 h2).mono ?_
        rintro x w3 ⟨A3, c3, A4, c4, rfl, ho, hb⟩
        have G3 := Lib.hid (G2.out.go hb G2.out.sz)
        have O3 := Lib.hid (ho.mono (B' := w.heap.size + 2) (by have := G2.out.sz; omega))
        clear hb p0 p1 q0 q1 f0 f1 ho
        obtain ⟨g, g', rfl, rfl⟩ := O3.out.some_ h1
        have C3 := Lib.hid (Cop.start G3.out O3.out)
        clear O3 G3
        obtain ⟨X3, hX3⟩ : ∃ X3, X3 = w3.alloc (.cells #[.slice (some ⟨g, 0, none⟩) n c3, .slice (some ⟨g', 0, none⟩) n c4] 31) := ⟨_, rfl⟩
        go_upto_region 13 with (fail)
        rw [← hX3] at C3 ⊢
        clear hX3
        obtain ⟨r, hr⟩ : ∃ r, r = w3.heap.size := ⟨_, rfl⟩
        rw [← hr] at C3 ⊢
        clear hr
        obtain ⟨u, u', p0, p1, q0, q1, f0, f1, t0, t1⟩ := C3.out.all
        obtain ⟨s0, s1⟩ := C3.out.own.ci i hi
        have C4 := Lib.hid (C3.out.putI (D' := setF (setB D i bike) i true) i bike (rb_ins D i bike) rfl)
        go_upto_region 14 with (fail)
        clear p0 p1 q0 q1 f0 f1 t0 t1 s0 s1 C3
        obtain ⟨X4, hX4⟩ : ∃ X4, X4 = X3.setCell ⟨g, i, none⟩ (.int .i64 bike) := ⟨_, rfl⟩
        rw [← hX4] at C4 ⊢
        clear hX4
        obtain ⟨u, u', p0, p1, q0, q1, f0, f1, t0, t1⟩ := C4.out.all
        go_wp2_with fail
        refine bodyPost_ret (v := .tuple #[rV (some ⟨g, 0, none⟩) c3 (some ⟨g', 0, none⟩) c4 n, .int .i64 0]) (by simp [results, Try.results24, go_sem, q0, q1]) rfl ?_
        exact C4.out.post _ _ HN.out HE.out
end Go.Proofs.Ytdallemhhdfemaa
