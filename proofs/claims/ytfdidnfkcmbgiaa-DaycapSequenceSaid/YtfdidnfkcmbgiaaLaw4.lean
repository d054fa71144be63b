/- The walk of the law DaycapSequence. -/
import Derived.Test.YtfdidnfkcmbgiaaRd
import Derived.Deep.RegionHeld3
import Derived.Deep.RegionWith
namespace Go.Proofs.Ytfdidnfkcmbgiaa
open Go.RowKit
open Dc
set_option maxHeartbeats 1000000
set_option maxRecDepth 100000
set_option linter.unusedVariables false

/-- the cells of some rides -/
def rideCells (r d a : Nat → Int) (l : List Nat) : List Value := l.flatMap fun t => [.int .i64 (r t), .int .i64 (d t), .int .i64 (a t)]
theorem rideCells_snoc (r d a : Nat → Int) (l : List Nat) (k : Nat) : rideCells r d a (l ++ [k]) = rideCells r d a l ++ [.int .i64 (r k), .int .i64 (d k), .int .i64 (a k)] := by simp [rideCells]
theorem rideCells_len (r d a : Nat → Int) (l : List Nat) : (rideCells r d a l).length = l.length * 3 := by
  induction l with
  | nil => rfl
  | cons x l ih => simp only [rideCells, List.flatMap_cons, List.length_append, List.length_cons, List.length_nil] at ih ⊢; omega
theorem rideCells_get (r d a : Nat → Int) (l : List Nat) (m t : Nat) (h : l[m]? = some t) :
    (rideCells r d a l)[m * 3]? = some (.int .i64 (r t)) ∧ (rideCells r d a l)[m * 3 + 1]? = some (.int .i64 (d t)) ∧ (rideCells r d a l)[m * 3 + 2]? = some (.int .i64 (a t)) := by
  induction l generalizing m with
  | nil => simp at h
  | cons x l ih =>
    cases m with
    | zero => simp at h; subst h; simp [rideCells]
    | succ m =>
      simp only [List.getElem?_cons_succ] at h
      obtain ⟨h1, h2, h3⟩ := ih m h
      have e : rideCells r d a (x :: l) = [.int .i64 (r x), .int .i64 (d x), .int .i64 (a x)] ++ rideCells r d a l := rfl
      rw [e]
      refine ⟨?_, ?_, ?_⟩
      · rw [show (m + 1) * 3 = m * 3 + 3 by omega, List.getElem?_append_right (by simp)]; simpa using h1
      · rw [show (m + 1) * 3 + 1 = m * 3 + 1 + 3 by omega, List.getElem?_append_right (by simp)]; simpa using h2
      · rw [show (m + 1) * 3 + 2 = m * 3 + 2 + 3 by omega, List.getElem?_append_right (by simp)]; simpa using h3

/-- the slice v is the call's own: the rides of the list l -/
def OwnR (w : World) (B : Nat) (v : Value) (r d a : Nat → Int) (l : List Nat) : Prop := w.ownsRow B 37 3 v l.length (rideCells r d a l)
theorem OwnR.form {w : World} {B : Nat} {v : Value} {r d a : Nat → Int} {l : List Nat} (h : OwnR w B v r d a l) (g : Nat → Nat) (hg : ∀ m, m < l.length → l[m]? = some (g m)) :
    ∃ A c, v = .slice A l.length c ∧ SlR w A l.length (fun m => r (g m)) (fun m => d (g m)) (fun m => a (g m)) := by
  have h0 := h
  obtain ⟨hl, h1⟩ := h
  rcases h1 with ⟨rfl, hn⟩ | ⟨b, cap, cur, rfl, hb, hbk, hn, hm, hcs, htk⟩
  · rw [hn]; exact ⟨none, 0, rfl, fun h => absurd h (by omega)⟩
  · refine ⟨_, _, rfl, fun hn0 => ⟨b, 0, rfl, (Array.getElem?_eq_some_iff.1 hbk).1, fun j hj => ?_⟩⟩
    have hc := World.ownsRow.cells h0 (g := b) rfl
    have hadd : ∀ x : Nat, (⟨b, 0, none⟩ : Addr).add x = ⟨b, 0 + x, none⟩ := fun x => by
      by_cases hx : x = 0
      · subst hx; simp [Addr.add]
      · simp [Addr.add, hx]
    obtain ⟨g1, g2, g3⟩ := rideCells_get r d a l j (g j) (hg j hj)
    refine ⟨?_, ?_, ?_⟩
    · have := hc _ _ g1; rwa [hadd] at this
    · have := hc _ _ g2; rwa [hadd] at this
    · have := hc _ _ g3; rwa [hadd] at this
theorem info37 : (Try.prog.info? 37).map (fun i => (i.zero, i.size, i.bytes)) = some (some (.agg #[.int .i64 0, .int .i64 0, .int .i64 0]), 3, 24) := by kernel_rfl

theorem app_ride (w : World) {ops : Array Oper} {rest : List Oper} {o : Oper} {a : Act} {Q : Exit → Act → World → Prop} (hgd : o.guard = none) (s x : Operand)
    (ho : o.op = .call { callee := .builtin .append, args := #[s, x], argTypes := #[29, 29] })
    {B : Nat} {v : Value} {r d am : Nat → Int} {l : List Nat} (hs : a.eval s = v) (k : Nat) (hx : a.eval x = .slice (some ⟨w.heap.size, 0, none⟩) 1 1) (hown : OwnR w B v r d am l)
    (hn : l.length + 1 ≤ 1099511627776) (hB : B ≤ w.heap.size)
    (h : ∀ v' w', OwnR w' B v' r d am (l ++ [k]) → w.grownBy w' v.ownBlock → wpList Try.prog ops Q rest (a.put o.dst v') w') :
    wpList Try.prog ops Q (o :: rest) a (w.alloc (.cells #[.int .i64 (r k), .int .i64 (d k), .int .i64 (am k)] 37)) := by
  obtain ⟨i0, hi, hz0, hz1, hz2⟩ := info_parts info37
  refine wpList_append_own_at _ hgd s x 29 ho B 37 i0 _ 3 24 Try.underlying29 hi hz0 hz1 hz2 rfl (by omega) v l.length (rideCells r d am l) hs (World.ownsRow.alloc hown _) ⟨w.heap.size, 0, none⟩ 1 1
    [.int .i64 (r k), .int .i64 (d k), .int .i64 (am k)] hx rfl ?_ (fun u hu => by simp at hu; rcases hu with rfl | rfl | rfl <;> rfl) (by unfold maxLen; omega) (by omega) (by simp; omega) ?_
  · intro j u hu
    have hc := cell_of_row (w.alloc (.cells #[.int .i64 (r k), .int .i64 (d k), .int .i64 (am k)] 37)) w.heap.size j _ 37 (0, 0) (heap_alloc_new w _)
    have hadd : (⟨w.heap.size, 0, none⟩ : Addr).add j = ⟨w.heap.size, j, none⟩ := by
      by_cases hx : j = 0
      · subst hx; simp [Addr.add]
      · simp [Addr.add, hx]
    rw [hadd, hc]
    simpa using hu
  · intro v' w' hown' hg _ hloc
    refine h v' w' ?_ ((World.grownBy_alloc w _ _).trans hg)
    unfold OwnR
    rw [rideCells_snoc, List.length_append]
    exact hown'

theorem idx_len_le (r d : Nat → Int) (x y : Int) (k : Nat) : (idx r d x y k).length ≤ k := by
  induction k with
  | zero => simp [idx]
  | succ k ih => rw [idx, List.length_append]; split <;> simp <;> omega
theorem chk_sub {lim : Int} {n m : Nat} {r d a : Nat → Int} (V : Valid lim n r d a) (g : Nat → Nat) (hm : m ≤ 256) (hg : ∀ i, i < m → g i < n) : chk lim m m m (fun i => r (g i)) (fun i => d (g i)) (fun i => a (g i)) = 0 := by
  refine chk_ok (inB_iff.2 ⟨V.lim0, V.lim1⟩) hm (fun i hi => ?_)
  have h := hg i hi
  simp only [good, Bool.and_eq_true, inB_iff]
  exact ⟨⟨⟨V.r0 _ h, V.r1 _ h⟩, ⟨V.d0 _ h, V.d1 _ h⟩⟩, ⟨V.a0 _ h, V.a1 _ h⟩⟩

theorem sameB_self' (n : Nat) (f : Nat → Int) : sameB n n f f = true := by simp [sameB]
theorem law7_any (lim : Int) (A : Option Addr) (n c : Nat) (r d a : Nat → Int) (q : Int) (w : World) (hr : SlR w A n r d a) (m1 : n ≤ 9223372036854775807) (hq : 0 ≤ q ∧ q ≤ 255) :
    Calls Try.prog 7 #[.int .i64 lim, .slice A n c, .int .u8 q] w fun e w' => e = .returned (.bool true) ∧ Below w.heap.size w w' := by
  have Hr := Lib.hid hr
  clear hr
  by_cases h1 : 200 < n
  · go_enter Try.func7, Try.ntmps7
    go_wp2_with fail
    refine (awake_any w).mono ?_
    rintro e w1 ⟨rfl, hb⟩
    go_wp2_with fail
    go_ret
    exact ⟨rfl, hb⟩
  by_cases h2 : n = 0
  · subst h2
    go_enter Try.func7, Try.ntmps7
    go_wp2_with fail
    refine (awake_any w).mono ?_
    rintro e w1 ⟨rfl, hb⟩
    go_wp2_with fail
    go_ret
    exact ⟨rfl, hb⟩
  have m2 : n ≤ 200 := by omega
  have hn0 : 0 < n := by omega
  have hnb : ((n : Int) == 0) = false := by simp; omega
  clear h1 h2
  obtain ⟨k, hK⟩ : ∃ k : Nat, q % (n : Int) = (k : Int) := ⟨(q % (n : Int)).toNat, by have := Int.emod_nonneg q (b := (n : Int)) (by omega); omega⟩
  have hkn : k < n := by have := Int.emod_lt_of_pos q (b := (n : Int)) (by omega); omega
  obtain ⟨C, hC⟩ : ∃ C, chk lim n n n r d a = C := ⟨_, rfl⟩
  obtain ⟨L, hL⟩ : ∃ L, outLen lim n n n r d a = L := ⟨_, rfl⟩
  have HC := Lib.hid hC
  have HL := Lib.hid hL
  clear hC hL
  go_enter Try.func7, Try.ntmps7
  go_wp2_with fail
  refine (lists_any A n c r d a w Hr.out (by omega)).mono ?_
  rintro e w1 ⟨A1, c1, A2, c2, A3, c3, rfl, s1, s2, s3, e1, e2, e3, hb1⟩
  have b1 := Lib.hid hb1
  have S1 := Lib.hid s1
  have S2 := Lib.hid s2
  have S3 := Lib.hid s3
  clear s1 s2 s3 hb1
  go_wp2_with fail
  refine (papply_any lim A1 A2 A3 n n n c1 c2 c3 r d a w1 S1.out S2.out S3.out m1 m1 m1).mono ?_
  unfold ApPost
  rw [HL.out, HC.out]
  rintro e w2 ⟨A4, c4, rfl, s4, hb, e4⟩
  have b2 := Lib.hid (b1.out.trans (hb.mono b1.out.size))
  have S1 := Lib.hid (S1.out.bel hb)
  have S2 := Lib.hid (S2.out.bel hb)
  have S3 := Lib.hid (S3.out.bel hb)
  have S4 := Lib.hid s4
  have R2 := Lib.hid (Hr.out.bel b2.out)
  clear hb s4
  obtain ⟨rb, ro, rfl, hrb, y1, y2, y3⟩ := R2.out.at_ k hkn
  go_wp2_with fail
  go_loopw [14, 13] (fun j v wr => ∃ j' : Nat, j' ≤ k + 1 ∧ j = .int .i64 j' ∧ Hid (OwnR wr w2.heap.size v r d a (idx r d (r k) (d k) j')) ∧ Hid (Below w2.heap.size w2 wr)) (fun j _ _ => (k + 1) - (intOf j).toNat)
  case atStart => exact ⟨0, by omega, rfl, Lib.hid (World.ownsRow_nil _ _ _ _), Lib.hid (Below.refl _ _)⟩
  case round =>
    obtain ⟨j, hj, rfl, Hown, Hb⟩ := hrel
    by_cases hjk : j < k + 1
    · obtain ⟨z1, z2, z3⟩ := R2.out.cell j (by omega)
      have hlen := idx_len_le r d (r k) (d k) j
      have hstep : idx r d (r k) (d k) (j + 1) = idx r d (r k) (d k) j ++ if r j = r k ∧ d j = d k then [j] else [] := rfl
      have Hstep := Lib.hid hstep
      have hws := Hb.out.size
      have u1 := (Hb.out.cell (p := ⟨rb, ro + j * 3, none⟩) hrb).trans z1
      have u2 := (Hb.out.cell (p := ⟨rb, ro + j * 3 + 1, none⟩) hrb).trans z2
      have u3 := (Hb.out.cell (p := ⟨rb, ro + j * 3 + 2, none⟩) hrb).trans z3
      have x1 := (Hb.out.cell (p := ⟨rb, ro + k * 3, none⟩) hrb).trans y1
      have x2 := (Hb.out.cell (p := ⟨rb, ro + k * 3 + 1, none⟩) hrb).trans y2
      have hjI : (j : Int) < (n : Int) := by omega
      have hkI : (k : Int) < (n : Int) := by omega
      clear z1 z2 z3 hstep
      by_cases g1 : r j = r k
      · have g1b : (r j == r k) = true := by simpa using g1
        by_cases g2 : d j = d k
        · have g2b : (d j == d k) = true := by simpa using g2
          have HS := Lib.hid (show idx r d (r k) (d k) (j + 1) = idx r d (r k) (d k) j ++ [j] by rw [Hstep.out, if_pos ⟨g1, g2⟩])
          clear g1 g2
          go_wp2
          go_quiet (fail)
          go_wp2_with (at_builtin; refine app_ride (wr.drewN nq) rfl (.tmp 76) (.tmp 81) rfl rfl j rfl Hown.out (by omega) Hb.out.size ?_; intro v' w5 hown5 hg5)
          go_roundw
          case rel => exact ⟨j + 1, by omega, by go_num, Lib.hid (by rw [HS.out]; exact hown5), Lib.hid ((below_drewN Hb.out nq).trans (grown_bel hg5 Hb.out.size (fun k hk => (World.ownsRow.lt Hown.out k hk).1)))⟩
          case measure => simp [intOf]; omega
        · have g2b : (d j == d k) = false := by simpa using g2
          have HS := Lib.hid (show idx r d (r k) (d k) (j + 1) = idx r d (r k) (d k) j by rw [Hstep.out, if_neg (fun h => g2 h.2), List.append_nil])
          clear g1 g2
          go_wp2
          go_quiet (fail)
          go_wp2
          go_roundw
          case rel => exact ⟨j + 1, by omega, by go_num, Lib.hid (by rw [HS.out]; exact Hown.out), Lib.hid (below_drewN Hb.out nq)⟩
          case measure => simp [intOf]; omega
      · have g1b : (r j == r k) = false := by simpa using g1
        have HS := Lib.hid (show idx r d (r k) (d k) (j + 1) = idx r d (r k) (d k) j by rw [Hstep.out, if_neg (fun h => g1 h.1), List.append_nil])
        clear g1
        go_wp2
        go_quiet (fail)
        go_wp2
        go_roundw
        case rel => exact ⟨j + 1, by omega, by go_num, Lib.hid (by rw [HS.out]; exact Hown.out), Lib.hid (below_drewN Hb.out nq)⟩
        case measure => simp [intOf]; omega
    · have hjk' : j = k + 1 := by omega
      subst hjk'
      have hgg : ∀ m, m < (idx r d (r k) (d k) (k + 1)).length → (idx r d (r k) (d k) (k + 1))[m]? = some ((idx r d (r k) (d k) (k + 1)).getD m 0) := fun m hm => by simp [List.getD, List.getElem?_eq_getElem hm]
      obtain ⟨g, hg⟩ : ∃ g : Nat → Nat, g = fun m => (idx r d (r k) (d k) (k + 1)).getD m 0 := ⟨_, rfl⟩
      have hgg' : ∀ m, m < (idx r d (r k) (d k) (k + 1)).length → (idx r d (r k) (d k) (k + 1))[m]? = some (g m) := fun m hm => by rw [hg]; exact hgg m hm
      obtain ⟨M, hM⟩ : ∃ M, M = (idx r d (r k) (d k) k).length := ⟨_, rfl⟩
      obtain ⟨hM1, hpg⟩ := pay_group lim r d a k g hgg'
      rw [← hM] at hM1 hpg
      have hMk : M ≤ k := by rw [hM]; exact idx_len_le _ _ _ _ _
      have hf := Hown.out.form g hgg'
      rw [hM1] at hf
      obtain ⟨A6, c6, rfl, sR⟩ := hf
      have hgn : ∀ i, i < M + 1 → g i < n := fun i hi => by
        have := List.mem_of_getElem? (hgg' i (by rw [hM1]; exact hi))
        have := idx_lt _ _ _ _ _ _ this
        omega
      have SR := Lib.hid sR
      have HG := Lib.hid hgn
      have HE := Lib.hid hpg
      clear sR hgg hgg' hg hM hM1 hpg hgn
      obtain ⟨a1b, a1o, rfl, _, _⟩ := S1.out (by omega)
      obtain ⟨a2b, a2o, rfl, _, _⟩ := S2.out (by omega)
      obtain ⟨a3b, a3o, rfl, _, _⟩ := S3.out (by omega)
      have T1 := Lib.hid ((S1.out.bel Hb.out).take (m := k + 1) (by omega))
      have T2 := Lib.hid ((S2.out.bel Hb.out).take (m := k + 1) (by omega))
      have T3 := Lib.hid ((S3.out.bel Hb.out).take (m := k + 1) (by omega))
      have k1 : (k : Int) + 1 ≤ (c1 : Int) := by omega
      have k2 : (k : Int) + 1 ≤ (c2 : Int) := by omega
      have k3 : (k : Int) + 1 ≤ (c3 : Int) := by omega
      have k0 : (0 : Int) ≤ (k : Int) + 1 := by omega
      have hw1 : IntKind.i64.wrap ((k : Int) + 1) = (k : Int) + 1 := IntWalk.i64_in _ (by omega)
      have ht : ((k : Int) + 1).toNat = k + 1 := by omega
      go_wp2
      go_region_with (go_at_call 10; refine (papply_any lim _ _ _ (k + 1) (k + 1) (k + 1) c1 c2 c3 r d a _ (by exact T1.out) (by exact T2.out) (by exact T3.out) (by omega) (by omega) (by omega)).mono ?_; rintro e w3 ⟨A5, c5, rfl, s5, hb, e5⟩)
      have b3 := Lib.hid ((Below.drew Hb.out).trans (hb.mono Hb.out.size))
      have SR3 := Lib.hid (SlR.bel (by exact SR.out) hb)
      have S5 := Lib.hid s5
      obtain ⟨C2, hC2⟩ : ∃ C2, chk lim (k + 1) (k + 1) (k + 1) r d a = C2 := ⟨_, rfl⟩
      obtain ⟨L2, hL2⟩ : ∃ L2, outLen lim (k + 1) (k + 1) (k + 1) r d a = L2 := ⟨_, rfl⟩
      have HC2 := Lib.hid hC2
      have HL2 := Lib.hid hL2
      clear hC2 hL2
      rw [HL2.out, HC2.out]
      rw [HL2.out] at S5
      clear hb s5 e5
      go_wp2_with fail
      refine (lists_any A6 (M + 1) c6 (fun m => r (g m)) (fun m => d (g m)) (fun m => a (g m)) w3 SR3.out (by omega)).mono ?_
      rintro e w4 ⟨B1, d1, B2, d2, B3, d3, rfl, t1, t2, t3, f1, f2, f3, hb⟩
      have b4 := Lib.hid (b3.out.trans (hb.mono b3.out.size))
      have S5 := Lib.hid (S5.out.bel hb)
      have U1 := Lib.hid t1
      have U2 := Lib.hid t2
      have U3 := Lib.hid t3
      clear hb t1 t2 t3 f1 f2 f3
      obtain ⟨C3, hC3⟩ : ∃ C3, chk lim (M + 1) (M + 1) (M + 1) (fun m => r (g m)) (fun m => d (g m)) (fun m => a (g m)) = C3 := ⟨_, rfl⟩
      obtain ⟨L3, hL3⟩ : ∃ L3, outLen lim (M + 1) (M + 1) (M + 1) (fun m => r (g m)) (fun m => d (g m)) (fun m => a (g m)) = L3 := ⟨_, rfl⟩
      have HC3 := Lib.hid hC3
      have HL3 := Lib.hid hL3
      clear hC3 hL3
      go_wp2_with fail
      refine (papply_any lim B1 B2 B3 (M + 1) (M + 1) (M + 1) d1 d2 d3 (fun m => r (g m)) (fun m => d (g m)) (fun m => a (g m)) w4 U1.out U2.out U3.out (by omega) (by omega) (by omega)).mono ?_
      unfold ApPost
      rw [HL3.out, HC3.out]
      rintro e w5 ⟨B4, d4, rfl, t4, hb, f4⟩
      have b5 := Lib.hid (b4.out.trans (hb.mono b4.out.size))
      have S5 := Lib.hid (S5.out.bel hb)
      have U4 := Lib.hid t4
      have S4' := Lib.hid (S4.out.bel b5.out)
      clear hb t4 f4
      by_cases hC0 : C = 0
      · have V := (chk_zero (HC.out.trans hC0)).2.2
        have hl2 : C2 = 0 := by rw [← HC2.out]; exact chk_sub V (fun i => i) (by have := V.len; omega) (fun i hi => by omega)
        have hl3 : C3 = 0 := by rw [← HC3.out]; exact chk_sub V g (by have := V.len; omega) HG.out
        have q1 : L = n := by rw [← HL.out]; exact outLen_pos (HC.out.trans hC0)
        have q2 : L2 = k + 1 := by rw [← HL2.out]; exact outLen_pos (HC2.out.trans hl2)
        have q3 : L3 = M + 1 := by rw [← HL3.out]; exact outLen_pos (HC3.out.trans hl3)
        subst hC0 hl2 hl3 q1 q2 q3
        clear V
        obtain ⟨a4b, a4o, rfl, _, _⟩ := S4'.out (by omega)
        have k4 : (k : Int) + 1 ≤ (c4 : Int) := by omega
        have S4t := Lib.hid (S4'.out.take (m := k + 1) (by omega))
        have hbq : (pay lim (fun m => r (g m)) (fun m => d (g m)) (fun m => a (g m)) M == pay lim r d a k) = true := by rw [HE.out]; simp
        clear hK
        go_wp2_with fail
        refine (same_any _ A5 (k + 1) (k + 1) _ c5 _ _ w5 S4t.out S5.out (by omega) (by omega)).mono ?_
        rw [sameB_self']
        rintro e w6 ⟨rfl, hb⟩
        have b6 := Lib.hid (b5.out.trans (hb.mono b5.out.size))
        have y4 := ((S4'.out.bel hb).cell k (by omega))
        obtain ⟨fb, fo, rfl, hfb, y5⟩ := ((U4.out.bel hb).at_ M (by omega))
        clear hb
        have hwm : IntKind.i64.wrap (M : Int) = (M : Int) := IntWalk.i64_in _ (by omega)
        have hmm1 : (M : Int) < (M : Int) + 1 := by omega
        have hmm2 : (k : Int) < (L : Int) := by omega
        go_wp2_with fail
        go_region_with (go_at_call 9; refine (awake_any _).mono ?_; rintro e w7 ⟨rfl, hb⟩; have b7 := Lib.hid (Below.trans (b2.out.trans ((Below.drew b6.out).mono b2.out.size)) (hb.mono (Nat.le_trans b2.out.size b6.out.size))); clear hb)
        all_goals
          go_wp2_with fail
          go_ret
          exact ⟨rfl, b7.out⟩
      · have hcb : (C != 0) = true := by simpa using hC0
        have q1 : L = 0 := by rw [← HL.out]; exact outLen_neg (fun h => hC0 (HC.out.symm.trans h))
        subst q1
        clear hC0
        go_wp2_with fail
        refine (awake_any _).mono ?_
        rintro e w6 ⟨rfl, hb⟩
        have b6 := Lib.hid (Below.trans (b2.out.trans (b5.out.mono b2.out.size)) (hb.mono (Nat.le_trans b2.out.size b5.out.size)))
        clear hb
        go_wp2_with fail
        go_ret
        exact ⟨rfl, b6.out⟩
end Go.Proofs.Ytfdidnfkcmbgiaa
