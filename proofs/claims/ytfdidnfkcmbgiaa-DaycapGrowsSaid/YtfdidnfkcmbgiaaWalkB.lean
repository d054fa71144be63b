/- The walk of apply (the program's): the map of what each group has paid, and the list of what is paid. -/
import Derived.Test.YtfdidnfkcmbgiaaWalkA
import Derived.Test.YtfdidnfkcmbgiaaMap
import Derived.Test.YtfdidnfkcmbgiaaMath
import Derived.WideKeyPair
import Derived.DeepKeys4
import Derived.BigRegion
namespace Go.Proofs.Ytfdidnfkcmbgiaa
open Go.RowKit
open Go.Maps (Keyed)
open Go.ChangeMaps (setBlock)
set_option maxHeartbeats 400000
set_option linter.unusedVariables false

theorem laidOut : laidOutB Try.prog = true := by kernel_rfl
theorem row40 : (40 : TypeId) < Try.prog.types.size := of_decide_eq_true (by kernel_rfl)
theorem cells40 : Try.prog.cellsOf 40 = 2 := by kernel_rfl
theorem arr40 : WideMaps.ArrKey Try.prog 40 3 2 := ⟨Try.underlying40, by kernel_rfl, by kernel_rfl, cells40⟩
theorem wide40 : (match Try.prog.underlying 40 with | some (.array _ _) | some (.struct _) => true | _ => false) = true := by rw [Try.underlying40]
theorem law40 : Keyed Try.prog 40 := Keyed.of_law (deep_law_laid laidOut (m := 2) (by omega) row40 (by kernel_rfl) wide40)
theorem zero3 (w : World) : (zeroValue 3).run Try.prog w = .ok (.int .i64 0) w := by kernel_rfl
theorem key40 {x y : Int} (hx : 0 ≤ x ∧ x ≤ 49709) (hy : 0 ≤ y ∧ y ≤ 49709) : ∃ kl, keyOf Try.prog 40 (.agg #[.int .i64 x, .int .i64 y]) = some kl :=
  ⟨_, WideMaps.keyOf_pair arr40 Try.underlying3 ⟨63, by kernel_rfl⟩ (WalkArith.wf_i64 (by omega)) (WalkArith.wf_i64 (by omega))⟩
theorem isInt3 : IsInt Try.prog 3 := by unfold IsInt; kernel_rfl


open Dc
/-- the map after k rides -/
def paidM (lim : Int) (r d a : Nat → Int) (k : Nat) : Value → Value
  | .agg ⟨[.int .i64 x, .int .i64 y]⟩ => .int .i64 (paidG lim r d a k x y)
  | _ => .int .i64 0

structure Valid (lim : Int) (n : Nat) (r d a : Nat → Int) : Prop where
  lim0 : 0 ≤ lim
  lim1 : lim ≤ 1000000000000
  len : n ≤ 256
  r0 : ∀ i, i < n → 0 ≤ r i
  r1 : ∀ i, i < n → r i ≤ 127
  d0 : ∀ i, i < n → 0 ≤ d i
  d1 : ∀ i, i < n → d i ≤ 49709
  a0 : ∀ i, i < n → 0 ≤ a i
  a1 : ∀ i, i < n → a i ≤ 1000000000000

theorem Valid.paid {lim : Int} {n : Nat} {r d a : Nat → Int} (V : Valid lim n r d a) (k : Nat) (hk : k ≤ n) (x y : Int) : 0 ≤ paidG lim r d a k x y ∧ paidG lim r d a k x y ≤ 256000000000000 := by
  rw [paidG_eq_sumG]
  have hb := fun j (hj : j < k) => pay_bd lim r d a V.lim0 j (fun i hi => V.a0 i (by omega))
  have h := sumG_le r d (pay lim r d a) 1000000000000 k (fun j hj => ⟨(hb j hj).1, Int.le_trans (hb j hj).2.1 (V.a1 j (by omega))⟩) x y
  have := V.len
  omega

def ApplyRel (w : World) (lim : Int) (n : Nat) (r d a : Nat → Int) (v : Value) (k : Nat) (wr : World) : Prop :=
  OwnI wr w.heap.size 3 v k (pay lim r d a) ∧ MFn Try.prog 40 (.int .i64 0) wr w.heap.size (paidM lim r d a k) ∧ Below w.heap.size w wr ∧ w.heap.size < wr.heap.size

def ApplyPost (lim : Int) (n : Nat) (r d a : Nat → Int) (w : World) (e : Ending) (w' : World) : Prop :=
  ∃ A c, e = .returned (.tuple #[.slice A n c, .map (some w.heap.size)]) ∧ SlI w' A n (pay lim r d a) ∧ MFn Try.prog 40 (.int .i64 0) w' w.heap.size (paidM lim r d a n) ∧ Below w.heap.size w w' ∧ n ≤ c


/-- what 'paid[group] += y' does, in whatever of the two orders; w2: the world in which it begins, g: the block of the key -/
theorem entry_step (lim : Int) (r d a : Nat → Int) (k : Nat) (w2 : World) (b g : Nat) (hm : MFn Try.prog 40 (.int .i64 0) w2 b (paidM lim r d a k)) (hb : b < g) {kl : Lit} (hkl : keyOf Try.prog 40 (.agg #[.int .i64 (r k), .int .i64 (d k)]) = some kl)
    (hg : w2.heap[g]? = some (Obj.cells #[Value.int IntKind.i64 (r k), Value.int IntKind.i64 (d k)] 40)) :
    ∃ (w3 w4 : World) (v0 : Value) (st : Nat),
      (Instr.lookup 42 (.map (some b)) (.agg #[.int .i64 (r k), .int .i64 (d k)]) false).run Try.prog w2 = .ok (.int .i64 (paidG lim r d a k (r k) (d k))) w2 ∧
      (Instr.mapEntry 42 (.map (some b)) (.agg #[.int .i64 (r k), .int .i64 (d k)])).run Try.prog w2 = .ok (.tuple #[v0, .int .i64 st]) w3 ∧
      (Instr.lookup 42 (.map (some b)) (.agg #[.int .i64 (r k), .int .i64 (d k)]) false).run Try.prog w3 = .ok (.int .i64 (paidG lim r d a k (r k) (d k))) w3 ∧
      w3.cell? ⟨g, 0, none⟩ = some (.int .i64 (r k)) ∧ w3.cell? ⟨g, 1, none⟩ = some (.int .i64 (d k)) ∧
      (Instr.entryStore 42 (.map (some b)) (.int .i64 st) (.int .i64 (paidG lim r d a k (r k) (d k) + pay lim r d a k))).run Try.prog w3 = .ok () w4 ∧
      MFn Try.prog 40 (.int .i64 0) w4 b (paidM lim r d a (k + 1)) ∧ w2.grownBy w4 (some b) ∧ w4.heap.size = w2.heap.size := by
  obtain ⟨v0, st, o1, hE, hm3, hmk⟩ := hm.entry law40 Try.underlying42 zero3 hkl
  obtain ⟨o2, hS, hm4⟩ := hm3.store (t := 42) hmk (.int .i64 (paidG lim r d a k (r k) (d k) + pay lim r d a k))
  have hgs : (setBlock w2 b o1).heap[g]? = some (Obj.cells #[Value.int IntKind.i64 (r k), Value.int IntKind.i64 (d k)] 40) := by
    rw [heap_setBlock_ne _ _ _ _ (by omega)]; exact hg
  have hcell : ∀ i, (setBlock w2 b o1).cell? ⟨g, i, none⟩ = #[Value.int IntKind.i64 (r k), Value.int IntKind.i64 (d k)][i]? := fun i => cell_of_row _ g i _ 40 (0, 0) hgs
  refine ⟨_, _, v0, st, hm.look law40 Try.underlying42 zero3 hkl, hE, hm3.look law40 Try.underlying42 zero3 hkl, hcell 0, hcell 1, hS, hm4 _ ?_ ?_, ?_, ?_⟩
  · show Value.int .i64 (paidG lim r d a (k + 1) (r k) (d k)) = _
    rw [paidG_succ, if_pos ⟨rfl, rfl⟩]
  · intro v hv
    unfold paidM
    split
    · rename_i x y
      rw [paidG_succ, if_neg (fun h => hv (by rw [h.1, h.2]))]
      simp
    · rfl
  · refine ⟨rfl, rfl, rfl, by simp [setBlock], fun i hi hne => ?_⟩
    have : i ≠ b := fun e => hne (by rw [e])
    rw [heap_setBlock_ne _ _ _ _ this, heap_setBlock_ne _ _ _ _ this]
  · simp [setBlock]

set_option maxHeartbeats 1000000 in
theorem apply_any (lim : Int) (A B C : Option Addr) (n c1 c2 c3 : Nat) (r d a : Nat → Int) (w : World) (hr : SlI w A n r) (hd : SlI w B n d) (ha : SlI w C n a) (V : Valid lim n r d a) :
    Calls Try.prog 20 #[.int .i64 lim, .slice A n c1, .slice B n c2, .slice C n c3] w (ApplyPost lim n r d a w) := by
  have Hr := Lib.hid hr
  have Hd := Lib.hid hd
  have Ha := Lib.hid ha
  clear hr hd ha
  have m1 := V.len
  have HV := Lib.hid V
  clear V
  have hmm := @run_makeMap Try.prog
  go_enter Try.func20, Try.ntmps20
  go_wp2
  go_loopw [18, 10] (fun i v wr => ∃ k : Nat, k ≤ n ∧ i = .int .i64 k ∧ Hid (ApplyRel w lim n r d a v k wr)) (fun i _ _ => n - (intOf i).toNat)
  case atStart => exact ⟨0, by omega, rfl, Lib.hid ⟨OwnI.nil _ _ _ _, (MFn.made Try.prog 40 _ w).congr (fun v => by unfold paidM; split <;> rfl), (Below.refl _ _).alloc (Nat.le_refl _) _, by simp⟩⟩
  case round =>
    obtain ⟨k, hk, rfl, hrel⟩ := hrel
    by_cases hlt : k < n
    · obtain ⟨hown, hm, hbel, hsz⟩ := hrel.out
      clear hrel
      have Hown := Lib.hid hown
      have Hm := Lib.hid hm
      have Hbel := Lib.hid hbel
      obtain ⟨b1, o1, rfl, q1, hr2⟩ := (Hr.out.bel hbel).at_ k hlt
      obtain ⟨b2, o2, rfl, q2, hd2⟩ := (Hd.out.bel hbel).at_ k hlt
      obtain ⟨b3, o3, rfl, q3, ha2⟩ := (Ha.out.bel hbel).at_ k hlt
      have hltI : (k : Int) < (n : Int) := by omega
      have V := HV.out
      have hvr := V.r0 k hlt
      have hvr1 := V.r1 k hlt
      have hvd := V.d0 k hlt
      have hvd1 := V.d1 k hlt
      have hva := V.a0 k hlt
      have hva1 := V.a1 k hlt
      have hl0 := V.lim0
      have hl1 := V.lim1
      have hpd := V.paid k hk (r k) (d k)
      obtain ⟨kl, hkl⟩ := key40 (x := r k) (y := d k) (by omega) (by omega)
      have Hkl := Lib.hid hkl
      have hpay : pay lim r d a k = if 0 < lim then min (a k) (lim - paidG lim r d a k (r k) (d k)) else a k := rfl
      have hm1 : MFn Try.prog 40 (.int .i64 0) (wr.alloc (Obj.cells #[Value.int IntKind.i64 (r k), Value.int IntKind.i64 (d k)] 40)).drew w.heap.size (paidM lim r d a k) :=
        hm.block (Below.heap_alloc wr _ _ hsz)
      have hL : (Instr.lookup 42 (.map (some w.heap.size)) (.agg #[.int .i64 (r k), .int .i64 (d k)]) false).run Try.prog (wr.alloc (Obj.cells #[Value.int IntKind.i64 (r k), Value.int IntKind.i64 (d k)] 40)).drew =
        .ok (.int .i64 (paidG lim r d a k (r k) (d k))) (wr.alloc (Obj.cells #[Value.int IntKind.i64 (r k), Value.int IntKind.i64 (d k)] 40)).drew := hm1.look law40 Try.underlying42 zero3 hkl
      have hm2 : MFn Try.prog 40 (.int .i64 0) (wr.alloc (Obj.cells #[Value.int IntKind.i64 (r k), Value.int IntKind.i64 (d k)] 40)).drew.drew w.heap.size (paidM lim r d a k) := hm1.block rfl
      obtain ⟨w3, w4, v0, st, hL2, hE, hL3, hc0, hc1, hS, hm4, hg4, hz4⟩ := entry_step lim r d a k _ _ wr.heap.size hm2 hsz hkl (heap_alloc_new wr _)
      have hgr : wr.grownBy w4 (some w.heap.size) := (World.grownBy_alloc wr _ _).trans ⟨hg4.os, hg4.tape, hg4.output, hg4.size, hg4.block⟩
      have hz5 : w4.heap.size = wr.heap.size + 1 := by rw [hz4]; simp
      have hbel4 : Below w.heap.size w w4 := hbel.grown hgr hbel.size (fun k hk => by injection hk with hk; omega)
      have hne4 : u10.ownBlock ≠ some w.heap.size := by
        intro hv
        rcases hown.2 with ⟨rfl, _⟩ | ⟨g, cap, cur, rfl, _, hgg, _⟩
        · cases hv
        · replace hv : g = w.heap.size := by simpa [Value.ownBlock] using hv
          obtain ⟨es, cl, hes, _⟩ := hm.out
          rw [hv, hes] at hgg
          cases hgg
      have hown4 : OwnI w4 w.heap.size 3 u10 k (pay lim r d a) := hown.kept hgr (.inr hne4)
      have Hpay := Lib.hid hpay
      have Hm4 := Lib.hid hm4
      have Hbel4 := Lib.hid hbel4
      have Hown4 := Lib.hid hown4
      have Hne4 := Lib.hid hne4
      have Hz5 := Lib.hid hz5
      have hsz4 : w.heap.size < w4.heap.size := by omega
      have hw1 : IntKind.i64.wrap (paidG lim r d a k (r k) (d k) + a k) = paidG lim r d a k (r k) (d k) + a k := IntWalk.i64_in _ (by omega)
      have hw2 : IntKind.i64.wrap (paidG lim r d a k (r k) (d k) + (lim - paidG lim r d a k (r k) (d k))) = paidG lim r d a k (r k) (d k) + (lim - paidG lim r d a k (r k) (d k)) := IntWalk.i64_in _ (by omega)
      clear hown hm hbel V hm1 hm2 hkl hpay hm4 hg4 hz4 hgr hz5 hbel4 hne4 hown4
      by_cases hp : 0 < lim
      · by_cases hq : a k ≤ lim - paidG lim r d a k (r k) (d k)
        · have hpv : pay lim r d a k = a k := by rw [Hpay.out]; rw [if_pos hp]; omega
          rw [hpv] at hS
          have Hpv := Lib.hid hpv
          clear hpv
          go_wp2
          go_region
          go_wp2
          go_region
          go_wp2_with (at_builtin; refine app_int w4 rfl (.tmp 48) (.tmp 50) 22 rfl Try.underlying22 isInt3 rfl _ rfl Hown4.out (by omega) (by omega) Hpv.out ?_; intro v' w5 hown5 hg5 hloc5)
          go_roundw
          case rel => exact ⟨k + 1, by omega, by go_num, Lib.hid ⟨hown5, Hm4.out.block (hg5.block _ (by omega) (fun h => Hne4.out h.symm)), Hbel4.out.trans (grown_bel hg5 (by omega) (fun k hk => (Hown4.out.lt k hk).1)), by have := hg5.size; omega⟩⟩
          case measure => simp [intOf]; omega
        · have hpv : pay lim r d a k = lim - paidG lim r d a k (r k) (d k) := by rw [Hpay.out]; rw [if_pos hp]; omega
          rw [hpv] at hS
          have Hpv := Lib.hid hpv
          clear hpv
          go_wp2
          go_region
          go_wp2
          go_region
          go_wp2_with (at_builtin; refine app_int w4 rfl (.tmp 48) (.tmp 50) 22 rfl Try.underlying22 isInt3 rfl _ rfl Hown4.out (by omega) (by omega) Hpv.out ?_; intro v' w5 hown5 hg5 hloc5)
          go_roundw
          case rel => exact ⟨k + 1, by omega, by go_num, Lib.hid ⟨hown5, Hm4.out.block (hg5.block _ (by omega) (fun h => Hne4.out h.symm)), Hbel4.out.trans (grown_bel hg5 (by omega) (fun k hk => (Hown4.out.lt k hk).1)), by have := hg5.size; omega⟩⟩
          case measure => simp [intOf]; omega
      · have hpv : pay lim r d a k = a k := by rw [Hpay.out]; rw [if_neg hp]
        rw [hpv] at hS
        have Hpv := Lib.hid hpv
        clear hpv
        go_wp2
        go_region
        go_wp2
        go_region
        go_wp2_with (at_builtin; refine app_int w4 rfl (.tmp 48) (.tmp 50) 22 rfl Try.underlying22 isInt3 rfl _ rfl Hown4.out (by omega) (by omega) Hpv.out ?_; intro v' w5 hown5 hg5 hloc5)
        go_roundw
        case rel => exact ⟨k + 1, by omega, by go_num, Lib.hid ⟨hown5, Hm4.out.block (hg5.block _ (by omega) (fun h => Hne4.out h.symm)), Hbel4.out.trans (grown_bel hg5 (by omega) (fun k hk => (Hown4.out.lt k hk).1)), by have := hg5.size; omega⟩⟩
        case measure => simp [intOf]; omega
    · have hkn : k = n := by omega
      subst hkn
      have hrel2 := hrel
      go_wp2
      go_ret2
      obtain ⟨hown, hm, hbel, hsz⟩ := hrel2.out
      obtain ⟨A', c', rfl, hs, _, hcap⟩ := hown.form
      exact ⟨A', c', rfl, hs, hm, hbel, hcap⟩
end Go.Proofs.Ytfdidnfkcmbgiaa
