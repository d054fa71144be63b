/- The walks of the reference's Order and Remove. -/
import Derived.Test.YtdallemhhdfemaaDS
namespace Go.Proofs.Ytdallemhhdfemaa
open Go.RowKit
set_option maxHeartbeats 4000000
set_option maxRecDepth 100000
set_option linter.unusedVariables false

theorem order26 (A A' : Option Addr) (c c' n : Nat) (D : Dk) (d : Int) (good : Bool) (w : World) (h : Rf w A A' n D) (h1 : 1 ≤ n) (h2 : n ≤ 32) :
    Calls Try.prog 26 #[rV A c A' c' n, .int .i64 d, .bool good] w (RefPost w n (ordD n D d good) (canE n d)) := by
  have H := Lib.hid h
  have G0 := Lib.hid (Big.start w A c A' c' n)
  clear h
  by_cases hd : 0 ≤ d ∧ d < (n : Int)
  case neg =>
    have hc := Lib.hid (show inN n d = false from decide_eq_false hd)
    have HE := Lib.hid (canE_out hd)
    have HD := Lib.hid (show ordD n D d good = D from if_neg hd)
    clear hd
    go_enter Try.func26, Try.ntmps26
    go_wp2_with fail
    refine (dock32 A A' c c' n d _ h2).mono ?_
    rw [hc.out]
    rintro x w1 ⟨rfl, hb⟩
    have G1 := Lib.hid (G0.out.go hb G0.out.sz)
    obtain ⟨u, u', p0, p1, q0, q1, f0, f1⟩ := G1.out.all
    clear hb
    go_wp2_with fail
    refine bodyPost_ret (v := .tuple #[rV A c A' c' n, .int .i64 7]) (by simp [results, Try.results26, go_sem, q0, q1]) rfl ?_
    exact RefPost.same H.out (G1.out.set _ _).bel HD.out HE.out
  obtain ⟨i, rfl⟩ : ∃ i : Nat, d = (i : Int) := ⟨d.toNat, by omega⟩
  have hi : i < n := by omega
  have hiI : (i : Int) < (n : Int) := by omega
  have hc := Lib.hid (show inN n (i : Int) = true from decide_eq_true hd)
  have HE := Lib.hid (canE_in hi)
  have HD := Lib.hid (show ordD n D (i : Int) good = setX D i (!good) by unfold ordD; rw [if_pos hd, Int.toNat_natCast])
  clear hd
  go_enter Try.func26, Try.ntmps26
  go_wp2_with fail
  refine (dock32 _ _ c c' n (i : Int) _ h2).mono ?_
  rw [hc.out]
  rintro x w1 ⟨rfl, hb⟩
  have G1 := Lib.hid (G0.out.go hb G0.out.sz)
  obtain ⟨u, u', p0, p1, q0, q1, f0, f1⟩ := G1.out.all
  clear hb
  go_wp2_with fail
  refine (copied33 _ _ c c' n D w1 (H.out.bel G1.out.bel) h1 h2).mono ?_
  rintro x w3 ⟨A3, c3, A4, c4, rfl, ho, hb⟩
  have G3 := Lib.hid (G1.out.go hb G1.out.sz)
  have O3 := Lib.hid (ho.mono (B' := w.heap.size + 2) (by have := G1.out.sz; omega))
  clear hb p0 p1 q0 q1 f0 f1 ho
  obtain ⟨g, g', rfl, rfl⟩ := O3.out.some_ h1
  have C3 := Lib.hid (Cop.start G3.out O3.out)
  clear O3 G3
  obtain ⟨X3, hX3⟩ : ∃ X3, X3 = w3.alloc (.cells #[.slice (some ⟨g, 0, none⟩) n c3, .slice (some ⟨g', 0, none⟩) n c4] 31) := ⟨_, rfl⟩
  go_upto_region 4 with (fail)
  rw [← hX3] at C3 ⊢
  clear hX3
  obtain ⟨r, hr⟩ : ∃ r, r = w3.heap.size := ⟨_, rfl⟩
  rw [← hr] at C3 ⊢
  clear hr
  obtain ⟨u, u', p0, p1, q0, q1, f0, f1, t0, t1⟩ := C3.out.all
  obtain ⟨s0, s1⟩ := C3.out.own.cx i hi
  have C4 := Lib.hid (C3.out.putX i (!good))
  go_upto_region 5 with (fail)
  clear p0 p1 q0 q1 f0 f1 t0 t1 s0 s1 C3
  obtain ⟨X4, hX4⟩ : ∃ X4, X4 = X3.setCell ⟨g', i, none⟩ (.bool (!good)) := ⟨_, rfl⟩
  rw [← hX4] at C4 ⊢
  clear hX4
  obtain ⟨u, u', p0, p1, q0, q1, f0, f1, t0, t1⟩ := C4.out.all
  go_wp2_with fail
  refine bodyPost_ret (v := .tuple #[rV (some ⟨g, 0, none⟩) c3 (some ⟨g', 0, none⟩) c4 n, .int .i64 0]) (by simp [results, Try.results26, go_sem, q0, q1]) rfl ?_
  exact C4.out.post _ _ HD.out HE.out

theorem Cop.drew {w X : World} {A A' : Option Addr} {c c' n r g c3 g' c4 : Nat} {D : Dk} (h : Cop w A c A' c' n X r g c3 g' c4 D) : Cop w A c A' c' n X.drew r g c3 g' c4 D :=
  ⟨⟨h.big.bp, h.big.bq, h.big.sz, h.big.bel.drew⟩, ⟨h.own.i, h.own.x⟩, h.lo, h.t⟩
def RemPost (w0 : World) (n : Nat) (D : Dk) (N E : Int) (e : Ending) (w' : World) : Prop := ∃ A c A' c', e = .returned (.tuple #[rV A c A' c' n, .int .i64 N, .int .i64 E]) ∧ Rf w' A A' n D ∧ Below w0.heap.size w0 w'
theorem RemPost.same {w w' : World} {n : Nat} {D D' : Dk} {N N' E E' : Int} {A A' : Option Addr} {c c' : Nat} (hr : Rf w A A' n D) (hb : Below w.heap.size w w') (hD : D' = D) (hN : N' = N) (hE : E' = E) : RemPost w n D' N' E' (.returned (.tuple #[rV A c A' c' n, .int .i64 N, .int .i64 E])) w' := by
  subst hD hE hN
  exact ⟨A, c, A', c', rfl, hr.bel hb, hb⟩
theorem Cop.rem {w X : World} {A A' : Option Addr} {c c' n r g c3 g' c4 : Nat} {D D' : Dk} (h : Cop w A c A' c' n X r g c3 g' c4 D') (u u' : Value) (hD : D = D') {N N' E E' : Int} (hN : N = N') (hE : E = E') : RemPost w n D N E (.returned (.tuple #[rV (some ⟨g, 0, none⟩) c3 (some ⟨g', 0, none⟩) c4 n, .int .i64 N', .int .i64 E'])) ((X.setCell ⟨w.heap.size + 1, 0, none⟩ u).setCell ⟨w.heap.size + 1, 1, none⟩ u') := by
  subst hD hE hN
  exact ⟨_, _, _, _, rfl, (h.fin u u').1, (h.fin u u').2⟩

theorem remove25 (A A' : Option Addr) (c c' n : Nat) (D : Dk) (d : Int) (w : World) (h : Rf w A A' n D) (hi : Inv n D) (h1 : 1 ≤ n) (h2 : n ≤ 32) :
    Calls Try.prog 25 #[rV A c A' c' n, .int .i64 d] w (RemPost w n (remD n D d) (remN n D d) (remE n D d)) := by
  have H := Lib.hid h
  have HI := Lib.hid hi
  have G0 := Lib.hid (Big.start w A c A' c' n)
  clear h hi
  by_cases hd : 0 ≤ d ∧ d < (n : Int)
  case neg =>
    have hc := Lib.hid (show inN n d = false from decide_eq_false hd)
    have he := show remE n D d = 7 from if_neg hd
    have HD := Lib.hid (And.intro he (And.intro (show remN n D d = 0 by unfold remN; rw [he]; rfl) (show remD n D d = D by unfold remD; rw [he]; rfl)))
    clear hd he
    go_enter Try.func25, Try.ntmps25
    go_wp2_with fail
    refine (dock32 A A' c c' n d _ h2).mono ?_
    rw [hc.out]
    rintro x w1 ⟨rfl, hb⟩
    have G1 := Lib.hid (G0.out.go hb G0.out.sz)
    obtain ⟨u, u', p0, p1, q0, q1, f0, f1⟩ := G1.out.all
    clear hb
    go_wp2_with fail
    refine bodyPost_ret (v := .tuple #[rV A c A' c' n, .int .i64 0, .int .i64 7]) (by simp [results, Try.results25, go_sem, q0, q1]) rfl ?_
    exact RemPost.same H.out (G1.out.set _ _).bel HD.out.2.2 HD.out.2.1 HD.out.1
  obtain ⟨i, rfl⟩ : ∃ i : Nat, d = (i : Int) := ⟨d.toNat, by omega⟩
  have hi : i < n := by omega
  have hiI : (i : Int) < (n : Int) := by omega
  have hc := Lib.hid (show inN n (i : Int) = true from decide_eq_true hd)
  obtain ⟨b, o, rfl, hbw, _⟩ := H.out.i.at_ i hi
  clear hbw
  have r0 : Hid (∀ X, Below w.heap.size w X → X.cell? ⟨b, o + i, none⟩ = some (.int .i64 (rb D i))) := Lib.hid (fun X hX => by
    obtain ⟨b1, o1, e1, _, h1⟩ := (H.out.bel hX).i.at_ i hi
    cases e1
    exact h1)
  cases hf : D.f i with
  | false =>
    have hr : rb D i = -1 := if_neg (by rw [hf]; decide)
    rw [hr] at r0
    have he : remE n D (i : Int) = 10 := by unfold remE; rw [if_pos hd, Int.toNat_natCast, if_neg (by rw [hf]; decide)]
    have HD := Lib.hid (And.intro he (And.intro (show remN n D (i : Int) = 0 by unfold remN; rw [he]; rfl) (show remD n D (i : Int) = D by unfold remD; rw [he]; rfl)))
    clear hd he hf hr
    go_enter Try.func25, Try.ntmps25
    go_wp2_with fail
    refine (dock32 _ _ c c' n (i : Int) _ h2).mono ?_
    rw [hc.out]
    rintro x w1 ⟨rfl, hb⟩
    have G1 := Lib.hid (G0.out.go hb G0.out.sz)
    obtain ⟨u, u', p0, p1, q0, q1, f0, f1⟩ := G1.out.all
    have s0 := r0.out w1 G1.out.bel
    clear hb
    go_wp2_with fail
    refine bodyPost_ret (v := .tuple #[rV (some ⟨b, o, none⟩) c A' c' n, .int .i64 0, .int .i64 10]) (by simp [results, Try.results25, go_sem, q0, q1]) rfl ?_
    exact RemPost.same H.out (G1.out.set _ _).bel HD.out.2.2 HD.out.2.1 HD.out.1
  | true =>
    have hr : rb D i = D.b i := if_pos hf
    have hge := (HI.out.b i hi hf).1
    rw [hr] at r0
    have he : remE n D (i : Int) = 0 := by unfold remE; rw [if_pos hd, Int.toNat_natCast, if_pos hf]
    have HD := Lib.hid (And.intro he (And.intro (show remN n D (i : Int) = D.b i by unfold remN; rw [if_pos he, Int.toNat_natCast]) (show remD n D (i : Int) = setF (setB D i 0) i false by unfold remD; rw [if_pos he, Int.toNat_natCast])))
    clear hd he hf hr
    go_enter Try.func25, Try.ntmps25
    go_wp2_with fail
    refine (dock32 _ _ c c' n (i : Int) _ h2).mono ?_
    rw [hc.out]
    rintro x w1 ⟨rfl, hb⟩
    have G1 := Lib.hid (G0.out.go hb G0.out.sz)
    obtain ⟨u, u', p0, p1, q0, q1, f0, f1⟩ := G1.out.all
    have s0 := r0.out w1 G1.out.bel
    clear hb
    go_wp2_with fail
    refine (copied33 _ _ c c' n D w1 (H.out.bel G1.out.bel) h1 h2).mono ?_
    rintro x w3 ⟨A3, c3, A4, c4, rfl, ho, hb⟩
    have G3 := Lib.hid (G1.out.go hb G1.out.sz)
    have O3 := Lib.hid (ho.mono (B' := w.heap.size + 2) (by have := G1.out.sz; omega))
    clear hb p0 p1 q0 q1 f0 f1 ho s0
    obtain ⟨g, g', rfl, rfl⟩ := O3.out.some_ h1
    have C3 := Lib.hid (Cop.start G3.out O3.out)
    clear O3 G3
    obtain ⟨X3, hX3⟩ : ∃ X3, X3 = w3.alloc (.cells #[.slice (some ⟨g, 0, none⟩) n c3, .slice (some ⟨g', 0, none⟩) n c4] 31) := ⟨_, rfl⟩
    go_upto_region 6 with (fail)
    rw [← hX3] at C3 ⊢
    clear hX3
    obtain ⟨r, hr⟩ : ∃ r, r = w3.heap.size := ⟨_, rfl⟩
    rw [← hr] at C3 ⊢
    clear hr
    obtain ⟨u, u', p0, p1, q0, q1, f0, f1, t0, t1⟩ := C3.out.all
    obtain ⟨s0, s1⟩ := C3.out.own.ci i hi
    have C4 := Lib.hid (C3.out.putI (D' := setF (setB D i 0) i false) i (-1) (rb_rem D i) rfl)
    go_upto_region 7 with (fail)
    clear p0 p1 q0 q1 f0 f1 t0 t1 s0 s1 C3
    obtain ⟨X4, hX4⟩ : ∃ X4, X4 = X3.setCell ⟨g, i, none⟩ (.int .i64 (-1)) := ⟨_, rfl⟩
    rw [← hX4] at C4 ⊢
    clear hX4
    have C5 := Lib.hid C4.out.drew
    obtain ⟨u, u', p0, p1, q0, q1, f0, f1, t0, t1⟩ := C4.out.all
    have s0 := r0.out X4 C4.out.big.bel
    have s1 := r0.out _ (C4.out.fin (.slice (some ⟨g, 0, none⟩) n c3) (.slice (some ⟨g', 0, none⟩) n c4)).2
    go_region
    all_goals
      go_wp2_with fail
      refine bodyPost_ret (v := .tuple #[rV (some ⟨g, 0, none⟩) c3 (some ⟨g', 0, none⟩) c4 n, .int .i64 (D.b i), .int .i64 0]) (by simp [results, Try.results25, go_sem, q0, q1]) rfl ?_
      exact C5.out.rem _ _ HD.out.2.2 HD.out.2.1 HD.out.1
end Go.Proofs.Ytdallemhhdfemaa
