/- The walk of lists (three lists out of one list of rides), and of awake. -/
import Derived.Test.YtfdidnfkcmbgiaaWalkC
namespace Go.Proofs.Ytfdidnfkcmbgiaa
open Go.RowKit
open Dc
set_option maxHeartbeats 400000
set_option linter.unusedVariables false

/-- the slice with array A and n rides reads in w -/
def SlR (w : World) (A : Option Addr) (n : Nat) (r d a : Nat → Int) : Prop :=
  0 < n → ∃ b o, A = some ⟨b, o, none⟩ ∧ b < w.heap.size ∧ ∀ j, j < n → w.cell? ⟨b, o + j * 3, none⟩ = some (.int .i64 (r j)) ∧ w.cell? ⟨b, o + j * 3 + 1, none⟩ = some (.int .i64 (d j)) ∧ w.cell? ⟨b, o + j * 3 + 2, none⟩ = some (.int .i64 (a j))
theorem SlR.at_ {w : World} {A : Option Addr} {n : Nat} {r d a : Nat → Int} (h : SlR w A n r d a) (k : Nat) (hk : k < n) :
    ∃ b o, A = some ⟨b, o, none⟩ ∧ b < w.heap.size ∧ w.cell? ⟨b, o + k * 3, none⟩ = some (.int .i64 (r k)) ∧ w.cell? ⟨b, o + k * 3 + 1, none⟩ = some (.int .i64 (d k)) ∧ w.cell? ⟨b, o + k * 3 + 2, none⟩ = some (.int .i64 (a k)) := by
  obtain ⟨b, o, h1, h2, h3⟩ := h (by omega)
  exact ⟨b, o, h1, h2, h3 k hk⟩
theorem SlR.bel {w w' : World} {A : Option Addr} {n : Nat} {r d a : Nat → Int} (h : SlR w A n r d a) (hb : Below w.heap.size w w') : SlR w' A n r d a := fun hn => by
  obtain ⟨b, o, h1, h2, h3⟩ := h hn
  refine ⟨b, o, h1, Nat.lt_of_lt_of_le h2 hb.size, fun j hj => ?_⟩
  obtain ⟨x1, x2, x3⟩ := h3 j hj
  exact ⟨(hb.cell (p := ⟨b, _, none⟩) h2).trans x1, (hb.cell (p := ⟨b, _, none⟩) h2).trans x2, (hb.cell (p := ⟨b, _, none⟩) h2).trans x3⟩
theorem SlR.at' {w w' : World} {A : Option Addr} {n : Nat} {r d a : Nat → Int} (h : SlR w A n r d a) (hb : Below w.heap.size w w') (k : Nat) (hk : k < n) :
    ∃ b o, A = some ⟨b, o, none⟩ ∧ b < w.heap.size ∧ w'.cell? ⟨b, o + k * 3, none⟩ = some (.int .i64 (r k)) ∧ w'.cell? ⟨b, o + k * 3 + 1, none⟩ = some (.int .i64 (d k)) ∧ w'.cell? ⟨b, o + k * 3 + 2, none⟩ = some (.int .i64 (a k)) := by
  obtain ⟨b, o, h1, h2, h3⟩ := h (by omega)
  obtain ⟨x1, x2, x3⟩ := h3 k hk
  exact ⟨b, o, h1, h2, (hb.cell (p := ⟨b, _, none⟩) h2).trans x1, (hb.cell (p := ⟨b, _, none⟩) h2).trans x2, (hb.cell (p := ⟨b, _, none⟩) h2).trans x3⟩

structure ListsRel (w : World) (r d a : Nat → Int) (k1 k2 k3 : Nat) (v1 v2 v3 : Value) (wr : World) : Prop where
  h1 : OwnI wr w.heap.size 3 v1 k1 r
  h2 : OwnI wr w.heap.size 3 v2 k2 d
  h3 : OwnI wr w.heap.size 3 v3 k3 a
  a12 : Apart v1 v2
  a13 : Apart v1 v3
  a23 : Apart v2 v3
  bel : Below w.heap.size w wr

theorem own_lt {w : World} {B e : Nat} {v : Value} {n : Nat} {f : Nat → Int} (h : OwnI w B e v n f) : ∀ k, v.ownBlock = some k → k < w.heap.size + 1 := fun k hk => by have := (h.lt k hk).2; omega
theorem ListsRel.step1 {w : World} {r d a : Nat → Int} {k1 k2 k3 : Nat} {v1 v2 v3 v' : Value} {wr w' : World} (h : ListsRel w r d a k1 k2 k3 v1 v2 v3 wr) (p : OwnI w' w.heap.size 3 v' (k1 + 1) r) (g : wr.grownBy w' v1.ownBlock)
    (l : v'.ownBlock = v1.ownBlock ∨ v'.ownBlock = some (wr.heap.size + 1)) : ListsRel w r d a (k1 + 1) k2 k3 v' v2 v3 w' :=
  ⟨p, h.h2.kept g h.a12.symm.ne, h.h3.kept g h.a13.symm.ne, (h.a12.symm.step (own_lt h.h2) l).symm, (h.a13.symm.step (own_lt h.h3) l).symm, h.a23, h.bel.trans (grown_bel g h.bel.size (fun k hk => (h.h1.lt k hk).1))⟩
theorem ListsRel.step2 {w : World} {r d a : Nat → Int} {k1 k2 k3 : Nat} {v1 v2 v3 v' : Value} {wr w' : World} (h : ListsRel w r d a k1 k2 k3 v1 v2 v3 wr) (p : OwnI w' w.heap.size 3 v' (k2 + 1) d) (g : wr.grownBy w' v2.ownBlock)
    (l : v'.ownBlock = v2.ownBlock ∨ v'.ownBlock = some (wr.heap.size + 1)) : ListsRel w r d a k1 (k2 + 1) k3 v1 v' v3 w' :=
  ⟨h.h1.kept g h.a12.ne, p, h.h3.kept g h.a23.symm.ne, h.a12.step (own_lt h.h1) l, h.a13, (h.a23.symm.step (own_lt h.h3) l).symm, h.bel.trans (grown_bel g h.bel.size (fun k hk => (h.h2.lt k hk).1))⟩
theorem ListsRel.step3 {w : World} {r d a : Nat → Int} {k1 k2 k3 : Nat} {v1 v2 v3 v' : Value} {wr w' : World} (h : ListsRel w r d a k1 k2 k3 v1 v2 v3 wr) (p : OwnI w' w.heap.size 3 v' (k3 + 1) a) (g : wr.grownBy w' v3.ownBlock)
    (l : v'.ownBlock = v3.ownBlock ∨ v'.ownBlock = some (wr.heap.size + 1)) : ListsRel w r d a k1 k2 (k3 + 1) v1 v2 v' w' :=
  ⟨h.h1.kept g h.a13.ne, h.h2.kept g h.a23.ne, p, h.a12, h.a13.step (own_lt h.h1) l, h.a23.step (own_lt h.h2) l, h.bel.trans (grown_bel g h.bel.size (fun k hk => (h.h3.lt k hk).1))⟩

def ListsPost (n : Nat) (r d a : Nat → Int) (w : World) (e : Ending) (w' : World) : Prop :=
  ∃ A1 c1 A2 c2 A3 c3, e = .returned (.tuple #[.slice A1 n c1, .slice A2 n c2, .slice A3 n c3]) ∧ SlI w' A1 n r ∧ SlI w' A2 n d ∧ SlI w' A3 n a ∧ n ≤ c1 ∧ n ≤ c2 ∧ n ≤ c3 ∧ Below w.heap.size w w'

theorem lists_any (A : Option Addr) (n c : Nat) (r d a : Nat → Int) (w : World) (hr : SlR w A n r d a) (m1 : n ≤ 300) :
    Calls Try.prog 13 #[.slice A n c] w (ListsPost n r d a w) := by
  have Hr := Lib.hid hr
  clear hr
  go_enter Try.func13, Try.ntmps13
  go_wp2
  go_loopw [8, 5, 6, 7] (fun i v1 v2 v3 wr => ∃ k : Nat, k ≤ n ∧ i = .int .i64 k ∧ Hid (ListsRel w r d a k k k v1 v2 v3 wr)) (fun i _ _ _ _ => n - (intOf i).toNat)
  case atStart => exact ⟨0, by omega, rfl, Lib.hid ⟨OwnI.nil _ _ _ _, OwnI.nil _ _ _ _, OwnI.nil _ _ _ _, Apart.nil_left _, Apart.nil_left _, Apart.nil_left _, Below.refl _ _⟩⟩
  case round =>
    obtain ⟨k, hk, rfl, H⟩ := hrel
    by_cases hlt : k < n
    · obtain ⟨b1, o1, rfl, q1, z1, z2, z3⟩ := Hr.out.at_ k hlt
      have Z2 := Lib.hid z2
      have Z3 := Lib.hid z3
      have x1 := (H.out.bel.cell (p := ⟨b1, o1 + k * 3, none⟩) q1).trans z1
      have hws := H.out.bel.size
      clear z1 z2 z3
      go_wp2_with (first
        | (at_builtin; refine app_int wr rfl (.tmp 15) (.tmp 21) 22 rfl Try.underlying22 isInt3 rfl _ rfl H.out.h1 (by omega) (by omega) rfl ?_; intro v1 w1 p1 g1 l1; have S1 := Lib.hid (H.out.step1 p1 g1 l1); have x2 := (S1.out.bel.cell (p := ⟨b1, o1 + k * 3 + 1, none⟩) q1).trans Z2.out; have hw1 := S1.out.bel.size; clear p1 g1 l1 x1)
        | (at_builtin; refine app_int w1 rfl (.tmp 23) (.tmp 29) 22 rfl Try.underlying22 isInt3 rfl _ rfl S1.out.h2 (by omega) (by omega) rfl ?_; intro v2 w2 p2 g2 l2; have S2 := Lib.hid (S1.out.step2 p2 g2 l2); have x3 := (S2.out.bel.cell (p := ⟨b1, o1 + k * 3 + 2, none⟩) q1).trans Z3.out; have hw2 := S2.out.bel.size; clear p2 g2 l2 x2)
        | (at_builtin; refine app_int w2 rfl (.tmp 31) (.tmp 37) 22 rfl Try.underlying22 isInt3 rfl _ rfl S2.out.h3 (by omega) (by omega) rfl ?_; intro v3 w3 p3 g3 l3; have S3 := Lib.hid (S2.out.step3 p3 g3 l3); clear p3 g3 l3 x3))
      go_roundw
      case rel => exact ⟨k + 1, by omega, by go_num, S3⟩
      case measure => simp [intOf]; omega
    · have hkn : k = n := by omega
      subst hkn
      go_wp2
      refine bodyPost_ret (v := .tuple #[u5, u6, u7]) (by simp [results, Try.results13, go_sem]) rfl ?_
      obtain ⟨A1, c1, rfl, s1, _, e1⟩ := H.out.h1.form
      obtain ⟨A2, c2, rfl, s2, _, e2⟩ := H.out.h2.form
      obtain ⟨A3, c3, rfl, s3, _, e3⟩ := H.out.h3.form
      exact ⟨A1, c1, A2, c2, A3, c3, rfl, s1, s2, s3, e1, e2, e3, H.out.bel⟩

/-! the examples -/
def xr : Nat → Int := fun i => [7, 7, 7, 7].getD i 0
def xd : Nat → Int := fun i => [4, 4, 5, 4].getD i 0
def xa : Nat → Int := fun i => [300, 300, 100, 100].getD i 0
def xo : Nat → Int := fun i => [300, 200, 100, 0].getD i 0
theorem xc500 : chk 500 4 4 4 xr xd xa = 0 := by decide
theorem xl500 : outLen 500 4 4 4 xr xd xa = 4 := by decide
theorem xp500 : paidR 500 4 4 4 xr xd xa 7 4 = 500 := by decide
theorem xq500 : leftR 500 4 4 4 xr xd xa 7 6 = 500 := by decide
theorem xc0 : chk 0 4 4 4 xr xd xa = 0 := by decide
theorem xq0 : leftR 0 4 4 4 xr xd xa 7 4 = 1000000000000 := by decide
theorem xc3 (f : Nat → Int) : chk 500 4 4 3 xr xd f = 3 := by unfold chk; rw [if_neg (by decide), if_pos (by decide)]
theorem xl3 (f : Nat → Int) : outLen 500 4 4 3 xr xd f = 0 := by rw [outLen_neg]; rw [xc3]; decide
theorem xsame : sameB 4 4 (pay 500 xr xd xa) xo = true := by decide

theorem slr0 (w : World) : SlR (w.alloc (.cells #[.int .i64 7, .int .i64 4, .int .i64 300, .int .i64 7, .int .i64 4, .int .i64 300, .int .i64 7, .int .i64 5, .int .i64 100, .int .i64 7, .int .i64 4, .int .i64 100] 37))
    (some ⟨w.heap.size, 0, none⟩) 4 xr xd xa := fun _ => by
  refine ⟨_, 0, rfl, by simp, fun j hj => ?_⟩
  have hc := fun i => cell_of_row (w.alloc (.cells #[.int .i64 7, .int .i64 4, .int .i64 300, .int .i64 7, .int .i64 4, .int .i64 300, .int .i64 7, .int .i64 5, .int .i64 100, .int .i64 7, .int .i64 4, .int .i64 100] 37)) w.heap.size i _ 37 (0, 0) (heap_alloc_new w _)
  rw [hc, hc, hc]
  match j, hj with
  | 0, _ => exact ⟨rfl, rfl, rfl⟩
  | 1, _ => exact ⟨rfl, rfl, rfl⟩
  | 2, _ => exact ⟨rfl, rfl, rfl⟩
  | 3, _ => exact ⟨rfl, rfl, rfl⟩
theorem sli0 (w : World) : SlI (w.alloc (.cells #[.int .i64 300, .int .i64 200, .int .i64 100, .int .i64 0] 3)) (some ⟨w.heap.size, 0, none⟩) 4 xo := fun _ => by
  refine ⟨_, 0, rfl, by simp, fun j hj => ?_⟩
  rw [cell_of_row _ w.heap.size _ _ 3 (0, 0) (heap_alloc_new w _)]
  match j, hj with
  | 0, _ => rfl
  | 1, _ => rfl
  | 2, _ => rfl
  | 3, _ => rfl
theorem sli_tail {w : World} {b o n : Nat} {f : Nat → Int} (h : SlI w (some ⟨b, o, none⟩) (n + 1) f) : SlI w (some ⟨b, o + 1, none⟩) n (fun i => f (i + 1)) := fun hn => by
  obtain ⟨b', o', h1, h2, h3⟩ := h (by omega)
  injection h1 with h1
  injection h1 with h4 h5
  subst h4 h5
  exact ⟨b, o + 1, rfl, h2, fun j hj => by have := h3 (j + 1) (by omega); rwa [show o + 1 + j = o + (j + 1) from by omega]⟩
theorem sli_alloc {w : World} {A : Option Addr} {n : Nat} {f : Nat → Int} (h : SlI w A n f) (o : Obj) : SlI (w.alloc o) A n f := h.bel ((Below.refl _ _).alloc (Nat.le_refl _) _)

theorem awake_any (w : World) : Calls Try.prog 9 #[] w fun e w' => e = .returned (.bool true) ∧ Below w.heap.size w w' := by
  go_enter Try.func9, Try.ntmps9
  go_wp2_with fail
  refine (lists_any _ 4 4 xr xd xa _ (slr0 w) (by omega)).mono ?_
  rintro e w1 ⟨A1, c1, A2, c2, A3, c3, rfl, s1, s2, s3, e1, e2, e3, hb1⟩
  have b1 := Lib.hid (((Below.refl w.heap.size w).alloc (Nat.le_refl _) _).trans (hb1.mono (by simp)))
  obtain ⟨ab, ao, rfl, _, _⟩ := s3 (by omega)
  have S1 := Lib.hid s1
  have S2 := Lib.hid s2
  have S3 := Lib.hid s3
  have hcap : ¬ c3 = 1 := by omega
  clear s1 s2 s3 e1 e2 hb1
  go_wp2_with fail
  refine (papply_any 500 A1 A2 _ 4 4 4 c1 c2 c3 xr xd xa w1 S1.out S2.out S3.out (by omega) (by omega) (by omega)).mono ?_
  unfold ApPost
  rw [xc500, xl500]
  rintro e w2 ⟨B1, d1, rfl, t1, hb2, _⟩
  have b2 := Lib.hid (b1.out.trans (hb2.mono b1.out.size))
  have S1 := Lib.hid (S1.out.bel hb2)
  have S2 := Lib.hid (S2.out.bel hb2)
  have S3 := Lib.hid (S3.out.bel hb2)
  have T1 := Lib.hid t1
  clear t1 hb2
  go_wp2_with fail
  refine (ppaid_any 500 A1 A2 _ 4 4 4 c1 c2 c3 xr xd xa 7 4 w2 S1.out S2.out S3.out (by omega) (by omega) (by omega) (by omega) (by omega)).mono ?_
  rw [xc500, xp500]
  rintro e w3 ⟨rfl, hb3⟩
  have b3 := Lib.hid (b2.out.trans (hb3.mono b2.out.size))
  have S1 := Lib.hid (S1.out.bel hb3)
  have S2 := Lib.hid (S2.out.bel hb3)
  have S3 := Lib.hid (S3.out.bel hb3)
  have T1 := Lib.hid (T1.out.bel hb3)
  clear hb3
  go_wp2_with fail
  refine (pleft_any 500 A1 A2 _ 4 4 4 c1 c2 c3 xr xd xa 7 6 w3 S1.out S2.out S3.out (by omega) (by omega) (by omega) (by omega) (by omega)).mono ?_
  rw [xc500, xq500]
  rintro e w4 ⟨rfl, hb4⟩
  have b4 := Lib.hid (b3.out.trans (hb4.mono b3.out.size))
  have S1 := Lib.hid (S1.out.bel hb4)
  have S2 := Lib.hid (S2.out.bel hb4)
  have S3 := Lib.hid (S3.out.bel hb4)
  have T1 := Lib.hid (T1.out.bel hb4)
  clear hb4
  go_wp2_with fail
  refine (pleft_any 0 A1 A2 _ 4 4 4 c1 c2 c3 xr xd xa 7 4 w4 S1.out S2.out S3.out (by omega) (by omega) (by omega) (by omega) (by omega)).mono ?_
  rw [xc0, xq0]
  rintro e w5 ⟨rfl, hb5⟩
  have b5 := Lib.hid (b4.out.trans (hb5.mono b4.out.size))
  have S1 := Lib.hid (S1.out.bel hb5)
  have S2 := Lib.hid (S2.out.bel hb5)
  have S3 := Lib.hid (S3.out.bel hb5)
  have T1 := Lib.hid (T1.out.bel hb5)
  clear hb5
  go_wp2_with fail
  refine (papply_any 500 A1 A2 _ 4 4 3 c1 c2 (c3 - 1) xr xd (fun i => xa (i + 1)) w5 S1.out S2.out (sli_tail S3.out) (by omega) (by omega) (by omega)).mono ?_
  unfold ApPost
  rw [xc3, xl3]
  rintro e w6 ⟨B2, d2, rfl, t2, hb6, _⟩
  have b6 := Lib.hid (b5.out.trans (hb6.mono b5.out.size))
  have T1 := Lib.hid (T1.out.bel hb6)
  clear t2 hb6
  go_wp2_with fail
  refine (same_any B1 _ 4 4 d1 4 (pay 500 xr xd xa) xo _ (sli_alloc T1.out _) (sli0 w6) (by omega) (by omega)).mono ?_
  rw [xsame]
  rintro e w7 ⟨rfl, hb7⟩
  have b7 := Lib.hid ((b6.out.alloc b6.out.size (.cells #[.int .i64 300, .int .i64 200, .int .i64 100, .int .i64 0] 3)).trans (hb7.mono (by have := b6.out.size; simp; omega)))
  clear hb7
  go_wp2_with fail
  go_ret
  exact ⟨rfl, b7.out⟩
end Go.Proofs.Ytfdidnfkcmbgiaa
