/- The walk of the law DockUndone. -/
import Derived.Test.YtdallemhhdfemaaDLB
import Derived.Deep.RegionWith
namespace Go.Proofs.Ytdallemhhdfemaa
open Go.RowKit
set_option maxHeartbeats 8000000
set_option maxRecDepth 100000
set_option linter.unusedVariables false

theorem dk_ext {D E : Dk} (h1 : ∀ k, D.b k = E.b k) (h2 : ∀ k, D.f k = E.f k) (h3 : ∀ k, D.x k = E.x k) : D = E := by
  obtain ⟨b, f, x⟩ := D
  obtain ⟨b', f', x'⟩ := E
  obtain rfl : b = b' := funext h1
  obtain rfl : f = f' := funext h2
  obtain rfl : x = x' := funext h3
  rfl
theorem undone {n : Nat} {D : Dk} {d b : Int} (hi : Inv n D) (h : insE n D d b = 0) : remN n (insD n D d b) d = b ∧ remE n (insD n D d b) d = 0 ∧ remD n (insD n D d b) d = D := by
  obtain ⟨hd, _, hx, hf, _⟩ := insE_zero h
  have hI : insD n D d b = setF (setB D d.toNat b) d.toNat true := if_pos h
  have hE : remE n (insD n D d b) d = 0 := by
    rw [hI]; unfold remE; rw [if_pos hd, if_pos (by simp [setF])]
  refine ⟨?_, hE, ?_⟩
  · unfold remN; rw [if_pos hE, hI]; simp [setF, setB]
  · unfold remD; rw [if_pos hE, hI]
    have hz := hi.z d.toNat (by omega) hf
    refine dk_ext (fun k => ?_) (fun k => ?_) (fun k => ?_)
    · by_cases hk : k = d.toNat
      · simp [setF, setB, hk, hz]
      · simp [setF, setB, hk]
    · by_cases hk : k = d.toNat
      · simp [setF, setB, hk, hf]
      · simp [setF, setB, hk]
    · simp [setF, setB]
theorem noop {n : Nat} {D : Dk} {k d b : Int} (h : stepE n D k d b ≠ 0) : stepD n D k d b = D := by
  unfold stepE at h
  unfold stepD
  by_cases h0 : k = 0
  · rw [if_pos h0] at h ⊢; exact if_neg h
  · rw [if_neg h0] at h ⊢
    by_cases h1 : k = 1
    · rw [if_pos h1] at h ⊢; exact if_neg h
    · rw [if_neg h1] at h ⊢
      unfold ordD
      rw [if_neg]
      intro hd
      exact h (if_neg (by omega))

theorem Sta.grown {X Y : World} {p pc n : Nat} {D : Dk} (h : Sta X p n D) (hg : X.grownBy Y (some pc)) (hne : p ≠ pc) : Sta Y p n D :=
  ⟨(hg.block p h.lt (fun e => hne (Option.some.inj e))).trans h.out, h.n1, h.n2⟩
/-- the station, the reference's, and the call under test -/
structure Ku (w X : World) (k d b : Int) (p q : Nat) (A : Option Addr) (c : Nat) (A' : Option Addr) (c' n : Nat) (D Dr : Dk) : Prop where
  lw : Lw w X p q A c A' c' n D Dr
  op : X.heap[w.heap.size]? = some (.cells #[.int .i64 k, .int .i64 d, .int .i64 b] 24 (0, 0))
/-- and a copy -/
structure Mu (w X : World) (k d b : Int) (p pc q : Nat) (A : Option Addr) (c : Nat) (A' : Option Addr) (c' n : Nat) (D Dc Dr : Dk) : Prop where
  ku : Ku w X k d b p q A c A' c' n D Dr
  cp : Sta X pc n Dc
  ne : pc ≠ p
  loc : w.heap.size ≤ pc
section
variable {w X Y : World} {k d b : Int} {p pc q : Nat} {A A' A1 A2 : Option Addr} {c c' c1 c2 n : Nat} {D D2 Dc Dr : Dk}
theorem Ku.go (h : Ku w X k d b p q A c A' c' n D Dr) (hb : Below X.heap.size X Y) : Ku w Y k d b p q A c A' c' n D Dr :=
  ⟨h.lw.go hb, (hb.block _ (Array.getElem?_eq_some_iff.1 h.op).1).trans h.op⟩
theorem Ku.ops (h : Ku w X k d b p q A c A' c' n D Dr) : X.cell? ⟨w.heap.size, 0, none⟩ = some (.int .i64 k) ∧ X.cell? ⟨w.heap.size, 1, none⟩ = some (.int .i64 d) ∧ X.cell? ⟨w.heap.size, 2, none⟩ = some (.int .i64 b) := by
  refine ⟨?_, ?_, ?_⟩
  · rw [cell_of_row _ _ _ _ _ _ h.op]; rfl
  · rw [cell_of_row _ _ _ _ _ _ h.op]; rfl
  · rw [cell_of_row _ _ _ _ _ _ h.op]; rfl
theorem Ku.qs (h : Ku w X k d b p q A c A' c' n D Dr) : X.cell? ⟨q, 0, none⟩ = some (.slice A n c) ∧ X.cell? ⟨q, 1, none⟩ = some (.slice A' n c') := ⟨(row2 h.lw.bq).1, (row2 h.lw.bq).2.1⟩
theorem Ku.store (h : Ku w X k d b p q A c A' c' n D Dr) (hr : Rf X A1 A2 n D2) : Ku w ((X.setCell ⟨q, 0, none⟩ (.slice A1 n c1)).setCell ⟨q, 1, none⟩ (.slice A2 n c2)) k d b p q A1 c1 A2 c2 n D D2 := by
  have hne : w.heap.size ≠ q := fun e => ty_ne h.op h.lw.bq (by decide) e
  exact ⟨h.lw.store hr, by rw [heap_set_ne hne, heap_set_ne hne]; exact h.op⟩
theorem Mu.go (h : Mu w X k d b p pc q A c A' c' n D Dc Dr) (hb : Below X.heap.size X Y) : Mu w Y k d b p pc q A c A' c' n D Dc Dr := ⟨h.ku.go hb, h.cp.bel hb, h.ne, h.loc⟩
theorem Mu.left (h : Mu w X k d b p pc q A c A' c' n D Dc Dr) (hl : LeftAt X p n D2 Y) : Mu w Y k d b p pc q A c A' c' n D2 Dc Dr := by
  refine ⟨⟨h.ku.lw.left hl, (hl.2.block _ (Array.getElem?_eq_some_iff.1 h.ku.op).1 (fun e1 => ?_)).trans h.ku.op⟩, h.cp.grown hl.2 h.ne, h.ne, h.loc⟩
  injection e1 with e1
  exact ty_ne h.ku.op h.ku.lw.sta.out (by decide) e1
theorem Mu.leftc (h : Mu w X k d b p pc q A c A' c' n D Dc Dr) (hl : LeftAt X pc n D2 Y) : Mu w Y k d b p pc q A c A' c' n D D2 Dr := by
  have hs := h.cp.out
  refine ⟨⟨⟨h.ku.lw.sta.grown hl.2 (fun e => h.ne e.symm), h.ku.lw.rf.kept hl.2.size (fun b cs e hb he => hl.2.block b (Array.getElem?_eq_some_iff.1 hb).1 (fun e1 => ?_)), (hl.2.block q (Array.getElem?_eq_some_iff.1 h.ku.lw.bq).1 (fun e1 => ?_)).trans h.ku.lw.bq, h.ku.lw.bel.trans (hl.bel h.loc h.ku.lw.bel.size), h.ku.lw.lop, h.ku.lw.loq⟩, (hl.2.block _ (Array.getElem?_eq_some_iff.1 h.ku.op).1 (fun e1 => ?_)).trans h.ku.op⟩, hl.1, h.ne, h.loc⟩
  · injection e1 with e1
    exact ty_ne hb hs (by rcases he with rfl | rfl <;> decide) e1
  · injection e1 with e1
    exact ty_ne h.ku.lw.bq hs (by decide) e1
  · injection e1 with e1
    exact ty_ne h.ku.op hs (by decide) e1
/-- a new variable for a station of the reference -/
theorem Ku.var (h : Ku w X k d b p q A c A' c' n D Dr) (hr : Rf X A1 A2 n D2) : Ku w (X.alloc (.cells #[.slice A1 n c1, .slice A2 n c2] 31)) k d b p X.heap.size A1 c1 A2 c2 n D D2 :=
  have h' := h.go (box_bel X (.cells #[.slice A1 n c1, .slice A2 n c2] 31))
  ⟨⟨h'.lw.sta, hr.bel (box_bel X _), heap_alloc_new X _, h'.lw.bel, h.lw.lop, h.lw.bel.size⟩, h'.op⟩
end

theorem law3_out (d0 : Int) (A : Option Addr) (m c : Nat) (g : Nat → Nat → Int) (k d b : Int) (w : World) (hr : FlatRd w A m 3 g) (hd : d0 < 1 ∨ 32 < d0) :
    Calls Try.prog 3 #[.int .i64 d0, .slice A m c, opV k d b] w fun x w' => x = .returned (.bool true) ∧ Below w.heap.size w w' := by
  have HD := Lib.hid hd
  have B0 := Lib.hid (box_bel w (.cells #[.int .i64 k, .int .i64 d, .int .i64 b] 24))
  clear hd hr
  go_enter Try.func3, Try.ntmps3
  go_wp2_with fail
  refine (played8_bad d0 A m c _ HD.out).mono ?_
  rintro x w1 ⟨rfl, rfl⟩
  go_wp2_with fail
  refine (awake_any _).mono ?_
  rintro x w2 ⟨rfl, hb⟩
  have B := Lib.hid (bel_tr B0.out hb (Nat.le_refl _))
  clear hb
  go_wp2_with fail
  go_ret
  exact ⟨rfl, B.out⟩
theorem law3_many (n : Nat) (A : Option Addr) (m c : Nat) (g : Nat → Nat → Int) (k d b : Int) (w : World) (hr : FlatRd w A m 3 g) (m1 : m ≤ 9223372036854775807) (hm : 60 < m) (h1 : 1 ≤ n) (h2 : n ≤ 32) :
    Calls Try.prog 3 #[.int .i64 n, .slice A m c, opV k d b] w fun x w' => x = .returned (.bool true) ∧ Below w.heap.size w w' := by
  have hmI : (60 : Int) < (m : Int) := by omega
  obtain ⟨w0, HW⟩ : ∃ w0, Hid (w.alloc (.cells #[.int .i64 k, .int .i64 d, .int .i64 b] 24) = w0) := ⟨_, Lib.hid rfl⟩
  have B0 := Lib.hid (box_bel w (.cells #[.int .i64 k, .int .i64 d, .int .i64 b] 24))
  rw [HW.out] at B0
  have HR := Lib.hid (hr.bel B0.out)
  clear hr
  obtain ⟨p, HP⟩ : ∃ p, Hid (w0.heap.size = p) := ⟨_, Lib.hid rfl⟩
  go_enter Try.func3, Try.ntmps3
  go_wp2_with fail
  rw [HW.out]
  refine (played8 n p A m c g w0 HP.out h1 h2 HR.out m1).mono ?_
  rintro x w1 ⟨rfl, ha⟩
  have B1 := Lib.hid (bel_tr B0.out ha.bel (Nat.le_refl _))
  clear ha
  go_wp2_with fail
  refine (awake_any _).mono ?_
  rintro x w2 ⟨rfl, hb⟩
  have B := Lib.hid (bel_tr B1.out hb (Nat.le_refl _))
  clear hb
  go_wp2_with fail
  go_ret
  exact ⟨rfl, B.out⟩

theorem law3_in (n : Nat) (A0 : Option Addr) (m c0 : Nat) (g : Nat → Nat → Int) (kd d b : Int) (w : World) (hr : FlatRd w A0 m 3 g) (m1 : m ≤ 9223372036854775807) (hm : m ≤ 60) (h1 : 1 ≤ n) (h2 : n ≤ 32) :
    Calls Try.prog 3 #[.int .i64 n, .slice A0 m c0, opV kd d b] w fun x w' => x = .returned (.bool true) ∧ Below w.heap.size w w' := by
  have Hr := Lib.hid hr
  have hmI : ¬ (60 : Int) < (m : Int) := by omega
  obtain ⟨w0, HW⟩ : ∃ w0, Hid (w.alloc (.cells #[.int .i64 kd, .int .i64 d, .int .i64 b] 24) = w0) := ⟨_, Lib.hid rfl⟩
  have B0 := Lib.hid (box_bel w (.cells #[.int .i64 kd, .int .i64 d, .int .i64 b] 24))
  have P0 := Lib.hid (heap_alloc_new w (.cells #[.int .i64 kd, .int .i64 d, .int .i64 b] 24))
  rw [HW.out] at B0 P0
  have HR := Lib.hid (hr.bel B0.out)
  clear hr
  obtain ⟨p, HP⟩ : ∃ p, Hid (w0.heap.size = p) := ⟨_, Lib.hid rfl⟩
  go_enter Try.func3, Try.ntmps3
  go_wp2_with fail
  rw [HW.out]
  refine (played8 n p A0 m c0 g w0 HP.out h1 h2 HR.out m1).mono ?_
  rintro x w1 ⟨rfl, ha⟩
  have A1 := Lib.hid ha
  clear ha HR
  obtain ⟨D, HD⟩ : ∃ D, Hid (playD n g m = D) := ⟨_, Lib.hid rfl⟩
  rw [HD.out] at A1
  go_wp2_with fail
  refine (new10 n w1 h1 h2).mono ?_
  rintro x w2 ⟨A, c, A', c', rfl, hrf, hb⟩
  have L2 : Hid (Ku w (w2.alloc (rO A c A' c' n)) kd d b p w2.heap.size A c A' c' n D zeroD) := Lib.hid (by
    have b1 := bel_tr B0.out A1.out.bel (Nat.le_refl _)
    have b2 := bel_tr b1 hb (Nat.le_refl _)
    exact ⟨⟨(A1.out.sta.bel hb).bel (box_bel w2 _), hrf.bel (box_bel w2 _), heap_alloc_new w2 _, bel_tr b2 (box_bel w2 _) (Nat.le_refl _), by rw [← HP.out]; exact B0.out.size, b2.size⟩,
      ((bel_tr (bel_tr A1.out.bel hb (Nat.le_refl _)) (box_bel w2 _) (Nat.le_refl _)).block _ (Array.getElem?_eq_some_iff.1 P0.out).1).trans P0.out⟩)
  clear hrf hb A1 B0 P0
  obtain ⟨q, HQ⟩ : ∃ q, Hid (w2.heap.size = q) := ⟨_, Lib.hid rfl⟩
  rw [HQ.out] at L2
  go_upto_region 5 with (fail)
  rw [HQ.out]
  obtain ⟨X2, hX2⟩ : ∃ X, X = w2.alloc (rO A c A' c' n) := ⟨_, rfl⟩
  rw [← hX2] at L2 ⊢
  clear hX2 HQ HW
  go_wp2_with fail
  go_loopw [10] (fun i wr => ∃ (k c c' : Nat) (A A' : Option Addr), k ≤ m ∧ i = .int .i64 k ∧ Hid (Ku w wr kd d b p q A c A' c' n D (playD n g k))) (fun i _ => m - (intOf i).toNat)
  case atStart => exact ⟨0, _, _, _, _, by omega, rfl, L2⟩
  case round =>
    clear L2
    obtain ⟨k, c, c', A, A', hk, rfl, G⟩ := hrel
    by_cases hlt : k < m
    case pos =>
      have hltI : (k : Int) < (m : Int) := by omega
      have HI := Lib.hid (Inv.playD n g k)
      have HN := Lib.hid (show playD n g (k + 1) = stepD n (playD n g k) (g k 0) (g k 1) (g k 2) from rfl)
      obtain ⟨q0, q1⟩ := G.out.qs
      have HR := Lib.hid (Hr.out.bel G.out.lw.bel)
      obtain ⟨bb, o, rfl, hbw⟩ := HR.out.at_ (by omega)
      obtain ⟨r0, r1, r2⟩ := HR.out.row k hlt
      go_wp2_with fail
      go_region_with (first | (go_at_call 11; refine (should11 A A' c c' n (playD n g k) (g k 0) (g k 1) (g k 2) _ (G.out.go (Below.refl _ _).drew).lw.rf HI.out h1 h2).mono ?_; rw [← HN.out]; rintro x w4 ⟨A1, c1, A2, c2, rfl, hr4, hb4⟩; have G4 := Lib.hid (G.out.go (bel_tr (Below.refl wr.heap.size wr).drew hb4 (Nat.le_refl _))); have R4 := Lib.hid hr4; obtain ⟨x0, x1, f0, f1⟩ := row2 G4.out.lw.bq; clear hr4 hb4))
      all_goals
        have G5 := Lib.hid (G4.out.store (c1 := c1) (c2 := c2) R4.out)
        clear G4 R4
        go_wp2_with fail
        go_roundw
        case rel => exact ⟨k + 1, _, _, _, _, by omega, by go_num, G5⟩
        case measure => simp [intOf]; omega
    -- behind the loop
    have hkm : k = m := by omega
    subst hkm
    have hltI : ¬ (k : Int) < (k : Int) := by omega
    rw [HD.out] at G
    have HI := Lib.hid (Inv.playD n g k)
    rw [HD.out] at HI
    obtain ⟨pc, HPC⟩ : ∃ pc, Hid (wr.heap.size = pc) := ⟨_, Lib.hid rfl⟩
    obtain ⟨D1, HD1⟩ : ∃ D1, Hid (stepD n D kd d b = D1) := ⟨_, Lib.hid rfl⟩
    obtain ⟨N, HNN⟩ : ∃ N, Hid (stepN n D kd d b = N) := ⟨_, Lib.hid rfl⟩
    obtain ⟨E, HEE⟩ : ∃ E, Hid (stepE n D kd d b = E) := ⟨_, Lib.hid rfl⟩
    have HI1 := Lib.hid (HI.out.stepD kd d b)
    rw [HD1.out] at HI1
    go_wp2_with fail
    refine (copy12 p n D wr G.out.lw.sta).mono ?_
    rw [HPC.out]
    rintro x w5 ⟨rfl, hs, hb⟩
    have M5 : Hid (Mu w w5 kd d b p pc q A c A' c' n D D D) := Lib.hid ⟨G.out.go (by rw [HPC.out]; exact hb), hs, by have := G.out.lw.sta.lt; have := HPC.out; omega, by rw [← HPC.out]; exact G.out.lw.bel.size⟩
    clear hs hb G
    obtain ⟨o0, o1, o2⟩ := M5.out.ku.ops
    go_wp2_with fail
    refine (do13 p n D kd d b w5 M5.out.ku.lw.sta).mono ?_
    rw [HNN.out, HEE.out, HD1.out]
    rintro x w6 ⟨rfl, hl⟩
    have M6 := Lib.hid (M5.out.left hl)
    clear hl M5 o0 o1 o2
    obtain ⟨o0, o1, o2⟩ := M6.out.ku.ops
    obtain ⟨q0, q1⟩ := M6.out.ku.qs
    go_wp2_with fail
    refine (is14 pc A A' c c' n D d b w6 M6.out.cp M6.out.ku.lw.rf HI.out).mono ?_
    rintro x w7 ⟨rfl, hb⟩
    have M7 := Lib.hid (M6.out.go hb)
    clear hb M6 o0 o1 o2 q0 q1
    obtain ⟨o0, o1, o2⟩ := M7.out.ku.ops
    obtain ⟨q0, q1⟩ := M7.out.ku.qs
    by_cases hE : E = 0
    · subst hE
      by_cases hk0 : kd = 0
      · subst hk0
        have hins : insE n D d b = 0 := by have := HEE.out; unfold stepE at this; rw [if_pos rfl] at this; exact this
        have HU := Lib.hid (undone HI.out hins)
        have hst : D1 = insD n D d b := by rw [← HD1.out]; exact if_pos rfl
        rw [← hst] at HU
        clear hins hst
        go_wp2_with fail
        refine (remove15 p n D1 d w7 M7.out.ku.lw.sta).mono ?_
        rw [HU.out.1, HU.out.2.1, HU.out.2.2]
        rintro x w8 ⟨rfl, hl⟩
        have M8 := Lib.hid (M7.out.left hl)
        clear hl M7
        clear o0 o1 o2 q0 q1
        obtain ⟨o0, o1, o2⟩ := M8.out.ku.ops
        obtain ⟨q0, q1⟩ := M8.out.ku.qs
        have e1 : (b != b) = false := by simp
        go_wp2_with fail
        refine (is14 p A A' c c' n D d b w8 M8.out.ku.lw.sta M8.out.ku.lw.rf HI.out).mono ?_
        rintro x w9 ⟨rfl, hb⟩
        have M9 := Lib.hid (M8.out.go hb)
        clear hb M8
        clear o0 o1 o2 q0 q1
        obtain ⟨o0, o1, o2⟩ := M9.out.ku.ops
        obtain ⟨q0, q1⟩ := M9.out.ku.qs
        go_wp2_with fail
        refine (do13 pc n D 1 d 0 _ M9.out.cp).mono ?_
        rintro x w20 ⟨rfl, hl⟩
        have M20 := Lib.hid (M9.out.leftc hl)
        clear hl M9
        clear o0 o1 o2 q0 q1
        obtain ⟨o0, o1, o2⟩ := M20.out.ku.ops
        obtain ⟨q0, q1⟩ := M20.out.ku.qs
        go_wp2_with fail
        refine (do13 pc n (stepD n D 1 d 0) 2 d 0 w20 M20.out.cp).mono ?_
        rintro x w21 ⟨rfl, hl⟩
        have M21 := Lib.hid (M20.out.leftc hl)
        clear hl M20
        clear o0 o1 o2 q0 q1
        obtain ⟨o0, o1, o2⟩ := M21.out.ku.ops
        obtain ⟨q0, q1⟩ := M21.out.ku.qs
        go_wp2_with fail
        refine (should11 A A' c c' n D 0 d b w21 M21.out.ku.lw.rf HI.out h1 h2).mono ?_
        rw [HNN.out, HEE.out, HD1.out]
        rintro x w22 ⟨A1, c1, A2, c2, rfl, hr, hb⟩
        have K22 := Lib.hid (M21.out.ku.go hb)
        have R22 := Lib.hid hr
        have V := Lib.hid (K22.out.var (c1 := c1) (c2 := c2) R22.out)
        obtain ⟨s0, s1, g0, g1⟩ := row2 (K22.out.go (box_bel w22 (.cells #[.slice A1 n c1, .slice A2 n c2] 31))).lw.bq
        have O23 := Lib.hid (K22.out.go (box_bel w22 (.cells #[.slice A1 n c1, .slice A2 n c2] 31))).lw.rf
        clear hr hb M21
        clear o0 o1 o2 q0 q1
        obtain ⟨X23, hX23⟩ : ∃ X, X = w22.alloc (.cells #[.slice A1 n c1, .slice A2 n c2] 31) := ⟨_, rfl⟩
        go_upto_region 20 with (fail)
        rw [← hX23] at V O23 s0 s1 g0 g1 ⊢
        clear hX23
        obtain ⟨q2, hq2⟩ : ∃ q2, q2 = w22.heap.size := ⟨_, rfl⟩
        rw [← hq2] at V ⊢
        clear hq2
        obtain ⟨t0, t1, f0, f1⟩ := row2 V.out.lw.bq
        obtain ⟨o0, o1, o2⟩ := V.out.ops
        have V2 := Lib.hid (V.out.store (c1 := c) (c2 := c') O23.out)
        go_upto_region 22 with (fail)
        obtain ⟨X24, hX24⟩ : ∃ X, X = (X23.setCell ⟨q2, 0, none⟩ (.slice A n c)).setCell ⟨q2, 1, none⟩ (.slice A' n c') := ⟨_, rfl⟩
        rw [← hX24] at V2 ⊢
        clear hX24 t0 t1 f0 f1 o0 o1 o2 s0 s1 g0 g1 V
        obtain ⟨t0, t1⟩ := V2.out.qs
        obtain ⟨o0, o1, o2⟩ := V2.out.ops
        go_wp2_with fail
        refine (is14 p A A' c c' n D d b X24 V2.out.lw.sta V2.out.lw.rf HI.out).mono ?_
        rintro x w25 ⟨rfl, hb⟩
        have K25 := Lib.hid (V2.out.go hb)
        clear hb t0 t1 o0 o1 o2
        go_wp2_with fail
        refine (awake_any _).mono ?_
        rintro x w26 ⟨rfl, hb⟩
        have B26 := Lib.hid (K25.out.go hb).lw.bel
        clear hb
        go_wp2_with fail
        go_ret
        exact ⟨rfl, B26.out⟩
      · have qk : (kd == 0) = false := by simpa using hk0
        clear hk0
        go_wp2_with fail
        refine (do13 pc n D 1 d 0 _ M7.out.cp).mono ?_
        rintro x w20 ⟨rfl, hl⟩
        have M20 := Lib.hid (M7.out.leftc hl)
        clear hl M7
        clear o0 o1 o2 q0 q1
        obtain ⟨o0, o1, o2⟩ := M20.out.ku.ops
        obtain ⟨q0, q1⟩ := M20.out.ku.qs
        go_wp2_with fail
        refine (do13 pc n (stepD n D 1 d 0) 2 d 0 w20 M20.out.cp).mono ?_
        rintro x w21 ⟨rfl, hl⟩
        have M21 := Lib.hid (M20.out.leftc hl)
        clear hl M20
        clear o0 o1 o2 q0 q1
        obtain ⟨o0, o1, o2⟩ := M21.out.ku.ops
        obtain ⟨q0, q1⟩ := M21.out.ku.qs
        go_wp2_with fail
        refine (should11 A A' c c' n D kd d b w21 M21.out.ku.lw.rf HI.out h1 h2).mono ?_
        rw [HNN.out, HEE.out, HD1.out]
        rintro x w22 ⟨A1, c1, A2, c2, rfl, hr, hb⟩
        have K22 := Lib.hid (M21.out.ku.go hb)
        have R22 := Lib.hid hr
        have V := Lib.hid (K22.out.var (c1 := c1) (c2 := c2) R22.out)
        obtain ⟨s0, s1, g0, g1⟩ := row2 (K22.out.go (box_bel w22 (.cells #[.slice A1 n c1, .slice A2 n c2] 31))).lw.bq
        have O23 := Lib.hid (K22.out.go (box_bel w22 (.cells #[.slice A1 n c1, .slice A2 n c2] 31))).lw.rf
        clear hr hb M21
        clear o0 o1 o2 q0 q1
        obtain ⟨X23, hX23⟩ : ∃ X, X = w22.alloc (.cells #[.slice A1 n c1, .slice A2 n c2] 31) := ⟨_, rfl⟩
        go_upto_region 20 with (fail)
        rw [← hX23] at V O23 s0 s1 g0 g1 ⊢
        clear hX23
        obtain ⟨q2, hq2⟩ : ∃ q2, q2 = w22.heap.size := ⟨_, rfl⟩
        rw [← hq2] at V ⊢
        clear hq2 s0 s1 g0 g1
        obtain ⟨t0, t1, f0, f1⟩ := row2 V.out.lw.bq
        obtain ⟨o0, o1, o2⟩ := V.out.ops
        have V2 := V
        go_wp2_with fail
        refine (is14 p A1 A2 c1 c2 n D1 d b X23 V2.out.lw.sta V2.out.lw.rf HI1.out).mono ?_
        rintro x w25 ⟨rfl, hb⟩
        have K25 := Lib.hid (V2.out.go hb)
        clear hb t0 t1 o0 o1 o2
        go_wp2_with fail
        refine (awake_any _).mono ?_
        rintro x w26 ⟨rfl, hb⟩
        have B26 := Lib.hid (K25.out.go hb).lw.bel
        clear hb
        go_wp2_with fail
        go_ret
        exact ⟨rfl, B26.out⟩
    · have hst : D1 = D := by rw [← HD1.out]; exact noop (by rw [HEE.out]; exact hE)
      subst hst
      have qE : (E != 0) = true := by simpa using hE
      have qE2 : (E == 0) = false := by simpa using hE
      clear hE
      go_wp2_with fail
      refine (is14 p A A' c c' n D1 d b w7 M7.out.ku.lw.sta M7.out.ku.lw.rf HI.out).mono ?_
      rintro x w9 ⟨rfl, hb⟩
      have M9 := Lib.hid (M7.out.go hb)
      clear hb M7
      clear o0 o1 o2 q0 q1
      obtain ⟨o0, o1, o2⟩ := M9.out.ku.ops
      obtain ⟨q0, q1⟩ := M9.out.ku.qs
      by_cases hk0 : kd = 0
      · subst hk0
        go_wp2_with fail
        refine (do13 pc n D1 1 d 0 _ M9.out.cp).mono ?_
        rintro x w20 ⟨rfl, hl⟩
        have M20 := Lib.hid (M9.out.leftc hl)
        clear hl M9
        clear o0 o1 o2 q0 q1
        obtain ⟨o0, o1, o2⟩ := M20.out.ku.ops
        obtain ⟨q0, q1⟩ := M20.out.ku.qs
        go_wp2_with fail
        refine (do13 pc n (stepD n D1 1 d 0) 2 d 0 w20 M20.out.cp).mono ?_
        rintro x w21 ⟨rfl, hl⟩
        have M21 := Lib.hid (M20.out.leftc hl)
        clear hl M20
        clear o0 o1 o2 q0 q1
        obtain ⟨o0, o1, o2⟩ := M21.out.ku.ops
        obtain ⟨q0, q1⟩ := M21.out.ku.qs
        go_wp2_with fail
        refine (should11 A A' c c' n D1 0 d b w21 M21.out.ku.lw.rf HI.out h1 h2).mono ?_
        rw [HNN.out, HEE.out, HD1.out]
        rintro x w22 ⟨A1, c1, A2, c2, rfl, hr, hb⟩
        have K22 := Lib.hid (M21.out.ku.go hb)
        have R22 := Lib.hid hr
        have V := Lib.hid (K22.out.var (c1 := c1) (c2 := c2) R22.out)
        obtain ⟨s0, s1, g0, g1⟩ := row2 (K22.out.go (box_bel w22 (.cells #[.slice A1 n c1, .slice A2 n c2] 31))).lw.bq
        have O23 := Lib.hid (K22.out.go (box_bel w22 (.cells #[.slice A1 n c1, .slice A2 n c2] 31))).lw.rf
        clear hr hb M21
        clear o0 o1 o2 q0 q1
        obtain ⟨X23, hX23⟩ : ∃ X, X = w22.alloc (.cells #[.slice A1 n c1, .slice A2 n c2] 31) := ⟨_, rfl⟩
        go_upto_region 20 with (fail)
        rw [← hX23] at V O23 s0 s1 g0 g1 ⊢
        clear hX23
        obtain ⟨q2, hq2⟩ : ∃ q2, q2 = w22.heap.size := ⟨_, rfl⟩
        rw [← hq2] at V ⊢
        clear hq2
        obtain ⟨t0, t1, f0, f1⟩ := row2 V.out.lw.bq
        obtain ⟨o0, o1, o2⟩ := V.out.ops
        have V2 := Lib.hid (V.out.store (c1 := c) (c2 := c') O23.out)
        go_upto_region 22 with (fail)
        obtain ⟨X24, hX24⟩ : ∃ X, X = (X23.setCell ⟨q2, 0, none⟩ (.slice A n c)).setCell ⟨q2, 1, none⟩ (.slice A' n c') := ⟨_, rfl⟩
        rw [← hX24] at V2 ⊢
        clear hX24 t0 t1 f0 f1 o0 o1 o2 s0 s1 g0 g1 V
        obtain ⟨t0, t1⟩ := V2.out.qs
        obtain ⟨o0, o1, o2⟩ := V2.out.ops
        go_wp2_with fail
        refine (is14 p A A' c c' n D1 d b X24 V2.out.lw.sta V2.out.lw.rf HI.out).mono ?_
        rintro x w25 ⟨rfl, hb⟩
        have K25 := Lib.hid (V2.out.go hb)
        clear hb t0 t1 o0 o1 o2
        go_wp2_with fail
        refine (awake_any _).mono ?_
        rintro x w26 ⟨rfl, hb⟩
        have B26 := Lib.hid (K25.out.go hb).lw.bel
        clear hb
        go_wp2_with fail
        go_ret
        exact ⟨rfl, B26.out⟩
      · have qk : (kd == 0) = false := by simpa using hk0
        clear hk0
        go_wp2_with fail
        refine (do13 pc n D1 1 d 0 _ M9.out.cp).mono ?_
        rintro x w20 ⟨rfl, hl⟩
        have M20 := Lib.hid (M9.out.leftc hl)
        clear hl M9
        clear o0 o1 o2 q0 q1
        obtain ⟨o0, o1, o2⟩ := M20.out.ku.ops
        obtain ⟨q0, q1⟩ := M20.out.ku.qs
        go_wp2_with fail
        refine (do13 pc n (stepD n D1 1 d 0) 2 d 0 w20 M20.out.cp).mono ?_
        rintro x w21 ⟨rfl, hl⟩
        have M21 := Lib.hid (M20.out.leftc hl)
        clear hl M20
        clear o0 o1 o2 q0 q1
        obtain ⟨o0, o1, o2⟩ := M21.out.ku.ops
        obtain ⟨q0, q1⟩ := M21.out.ku.qs
        go_wp2_with fail
        refine (should11 A A' c c' n D1 kd d b w21 M21.out.ku.lw.rf HI.out h1 h2).mono ?_
        rw [HNN.out, HEE.out, HD1.out]
        rintro x w22 ⟨A1, c1, A2, c2, rfl, hr, hb⟩
        have K22 := Lib.hid (M21.out.ku.go hb)
        have R22 := Lib.hid hr
        have V := Lib.hid (K22.out.var (c1 := c1) (c2 := c2) R22.out)
        obtain ⟨s0, s1, g0, g1⟩ := row2 (K22.out.go (box_bel w22 (.cells #[.slice A1 n c1, .slice A2 n c2] 31))).lw.bq
        have O23 := Lib.hid (K22.out.go (box_bel w22 (.cells #[.slice A1 n c1, .slice A2 n c2] 31))).lw.rf
        clear hr hb M21
        clear o0 o1 o2 q0 q1
        obtain ⟨X23, hX23⟩ : ∃ X, X = w22.alloc (.cells #[.slice A1 n c1, .slice A2 n c2] 31) := ⟨_, rfl⟩
        go_upto_region 20 with (fail)
        rw [← hX23] at V O23 s0 s1 g0 g1 ⊢
        clear hX23
        obtain ⟨q2, hq2⟩ : ∃ q2, q2 = w22.heap.size := ⟨_, rfl⟩
        rw [← hq2] at V ⊢
        clear hq2
        obtain ⟨t0, t1, f0, f1⟩ := row2 V.out.lw.bq
        obtain ⟨o0, o1, o2⟩ := V.out.ops
        have V2 := Lib.hid (V.out.store (c1 := c) (c2 := c') O23.out)
        go_upto_region 22 with (fail)
        obtain ⟨X24, hX24⟩ : ∃ X, X = (X23.setCell ⟨q2, 0, none⟩ (.slice A n c)).setCell ⟨q2, 1, none⟩ (.slice A' n c') := ⟨_, rfl⟩
        rw [← hX24] at V2 ⊢
        clear hX24 t0 t1 f0 f1 o0 o1 o2 s0 s1 g0 g1 V
        obtain ⟨t0, t1⟩ := V2.out.qs
        obtain ⟨o0, o1, o2⟩ := V2.out.ops
        go_wp2_with fail
        refine (is14 p A A' c c' n D1 d b X24 V2.out.lw.sta V2.out.lw.rf HI.out).mono ?_
        rintro x w25 ⟨rfl, hb⟩
        have K25 := Lib.hid (V2.out.go hb)
        clear hb t0 t1 o0 o1 o2
        go_wp2_with fail
        refine (awake_any _).mono ?_
        rintro x w26 ⟨rfl, hb⟩
        have B26 := Lib.hid (K25.out.go hb).lw.bel
        clear hb
        go_wp2_with fail
        go_ret
        exact ⟨rfl, B26.out⟩

theorem law3_any (d0 : Int) (A : Option Addr) (m c : Nat) (g : Nat → Nat → Int) (k d b : Int) (w : World) (hr : FlatRd w A m 3 g) (m1 : m ≤ 9223372036854775807) (hmc : m ≤ c) :
    Calls Try.prog 3 #[.int .i64 d0, .slice A m c, opV k d b] w fun x w' => x = .returned (.bool true) ∧ Below w.heap.size w w' := by
  by_cases hd : d0 < 1 ∨ 32 < d0
  · exact law3_out d0 A m c g k d b w hr hd
  · obtain ⟨n, rfl⟩ : ∃ n : Nat, d0 = (n : Int) := ⟨d0.toNat, by omega⟩
    by_cases hm : 60 < m
    · exact law3_many n A m c g k d b w hr m1 hm (by omega) (by omega)
    · exact law3_in n A m c g k d b w hr m1 (by omega) (by omega) (by omega)
end Go.Proofs.Ytdallemhhdfemaa
