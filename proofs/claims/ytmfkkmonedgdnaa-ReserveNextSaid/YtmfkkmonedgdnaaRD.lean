/- The walks of own, of By (both), and of Same. -/
import Derived.Test.YtmfkkmonedgdnaaROwn
import Derived.Test.YtmfkkmonedgdnaaRM2
import Derived.Deep.RegionWith
namespace Go.Proofs.Ytmfkkmonedgdnaa
open Go.RowKit
set_option maxHeartbeats 4000000
set_option maxRecDepth 100000
set_option linter.unusedVariables false

/-- copy(dst, src) as a law for the walk -/
theorem copy_hold {ops : Array Oper} {rest : List Oper} {o : Oper} {a : Act} {Q : Exit → Act → World → Prop} (w : World) (hgd : o.guard = none) (d s : Operand)
    (ho : o.op = .call { callee := .builtin .copy, args := #[d, s], argTypes := #[22, 22] }) {B p n : Nat} {g h : Nat → Nat → Int} (hown : OwnF w B p n g) (m r dLen dCap sLen sCap : Nat) (sp : Option Addr)
    (hd : a.eval d = .slice (some ⟨p, m * 5, none⟩) dLen dCap) (hs : a.eval s = .slice sp sLen sCap) (hr : Nat.min sLen dLen = r) (hm : m + r ≤ n) (hrd : FlatRd w sp r 5 h) (hs0 : r = 0 → sp = none ∨ ∃ ad, sp = some ad)
    (K : ∀ w', OwnF w' B p n (fun i j => if m ≤ i ∧ i < m + r then h (i - m) j else g i j) → Below B w w' → wpList Try.prog ops Q rest (a.put o.dst (goInt r)) w') :
    wpList Try.prog ops Q (o :: rest) a w := by
  obtain ⟨w', hrun, h1, h2⟩ := run_copy_hold w o.type B p n g h hown m r dLen dCap sLen sCap sp hr hm hrd hs0
  refine wpList_plain hgd fun K' hK' => ?_
  unfold Oper.wp
  simp [execOp, ho, resolve, invoke, builtin, hd, hs, hrun, Result.andThen]
  exact hK' _ _ (K w' h1 h2)

theorem own26 (A : Option Addr) (n c m : Nat) (g : Nat → Nat → Int) (w : World) (hr : FlatRd w A n 5 g) (hn : n ≤ 1000) (hm : m ≤ 1000) :
    Calls Try.prog 26 #[.slice A n c, .int .i64 m] w fun x w' => x = .returned (.slice (some ⟨w.heap.size, 0, none⟩) (n + m) (n + m)) ∧ OwnF w' w.heap.size w.heap.size (n + m) (fun i j => if i < n then g i j else 0) ∧ Below w.heap.size w w' := by
  have Hr := Lib.hid hr
  clear hr
  have hmk := run_mk_hold w (n + m) (by omega)
  have hw1 : IntKind.i64.wrap ((n : Int) + (m : Int)) = (n : Int) + (m : Int) := IntWalk.i64_in _ (by omega)
  rw [Int.natCast_add] at hmk
  have HO := Lib.hid (OwnF.made w w.heap.size (n + m) (Nat.le_refl _))
  obtain ⟨w1, hw⟩ : ∃ w1, w1 = w.alloc (.cells (flatC (n + m) (fun _ _ => 0)).toArray 26) := ⟨_, rfl⟩
  have B1 := Lib.hid (box_bel w (.cells (flatC (n + m) (fun _ _ => 0)).toArray 26))
  have hmin : Nat.min n (n + m) = n := Nat.min_eq_left (by omega)
  rw [← hw] at hmk HO B1
  clear hw
  obtain ⟨w2, hcp, hown2, hb2⟩ := run_copy_hold w1 3 w.heap.size w.heap.size (n + m) _ g HO.out 0 n (n + m) (n + m) n c A hmin (by omega) (Hr.out.bel B1.out) (fun _ => by cases A; exact .inl rfl; exact .inr ⟨_, rfl⟩)
  rw [Nat.zero_mul] at hcp
  have O2 := Lib.hid hown2
  have B2 := Lib.hid (B1.out.trans hb2)
  clear hown2 hb2
  go_enter Try.func26, Try.ntmps26
  go_wp2_with fail
  go_ret
  refine ⟨rfl, O2.out.congr (fun i j hi hj => ?_), B2.out⟩
  by_cases h : i < n
  · simp [h]
  · simp [h]

theorem by_round_t {g : Nat → Nat → Int} {bike t : Int} {k : Nat} (h : ∀ i, i < k → hitB g bike t i = false) (hk : hitB g bike t k = false) : ∀ i, i < k + 1 → hitB g bike t i = false := fun i hi => by
  by_cases he : i = k
  · subst he; exact hk
  · exact h i (by omega)
theorem by19 (A : Option Addr) (n c : Nat) (g : Nat → Nat → Int) (bike t : Int) (w : World) (hr : FlatRd w A n 5 g) (m1 : n ≤ 9223372036854775807) :
    Calls Try.prog 19 #[.slice A n c, .int .i64 bike, .int .i64 t] w fun x w' => x = .returned (.tuple #[.int .i64 (byR n g bike t), .bool (byF n g bike t)]) ∧ Below w.heap.size w w' := by
  have Hr := Lib.hid hr
  clear hr
  go_enter Try.func19, Try.ntmps19
  go_wp2_with fail
  go_loopw [12] (fun i wr => ∃ k : Nat, k ≤ n ∧ i = .int .i64 k ∧ Hid (∀ i, i < k → hitB g bike t i = false) ∧ Hid (Below w.heap.size w wr)) (fun i _ => n - (intOf i).toNat)
  case atStart => exact ⟨0, by omega, rfl, Lib.hid (fun i hi => absurd hi (by omega)), Lib.hid (Below.refl _ _)⟩
  case round =>
    obtain ⟨k, hk, rfl, Hs, Hb⟩ := hrel
    by_cases hlt : k < n
    case neg =>
      have hkn : k = n := by omega
      subst hkn
      have HN := Lib.hid (by_none Hs.out)
      go_wp2_with fail
      go_ret2
      exact ⟨by rw [HN.out.1, HN.out.2]; rfl, Hb.out⟩
    obtain ⟨b, o, rfl, hbw⟩ := Hr.out.at_ (by omega)
    have HR := Lib.hid (Hr.out.bel Hb.out)
    obtain ⟨r0, r1, r2, r3, r4⟩ := HR.out.row k hlt
    have hltI : (k : Int) < (n : Int) := by omega
    have B1 := Lib.hid (Hb.out.alloc Hb.out.size (.cells #[.int .i64 (g k 0), .int .i64 (g k 1), .int .i64 (g k 2), .int .i64 (g k 3), .int .i64 (g k 4)] 26))
    by_cases hh : g k 1 = bike ∧ g k 3 ≤ t ∧ t < g k 4
    · have HN := Lib.hid (by_hit Hs.out (hitB_t hh) hlt)
      have q1 : (g k 1 == bike) = true := by simpa using hh.1
      have h2 := hh.2.1
      have h3 := hh.2.2
      clear hh
      go_wp2_with fail
      go_ret2
      exact ⟨by rw [HN.out.1, HN.out.2]; rfl, B1.out⟩
    · have HN := Lib.hid (by_round_t Hs.out (hitB_f hh))
      have hc : (g k 1 == bike) = false ∨ ((g k 1 == bike) = true ∧ t < g k 3) ∨ ((g k 1 == bike) = true ∧ g k 3 ≤ t ∧ g k 4 ≤ t) := by
        by_cases h1 : g k 1 = bike
        · have q1 : (g k 1 == bike) = true := by simpa using h1
          by_cases h2 : g k 3 ≤ t
          · exact .inr (.inr ⟨q1, h2, by omega⟩)
          · exact .inr (.inl ⟨q1, by omega⟩)
        · exact .inl (by simpa using h1)
      clear hh
      rcases hc with q1 | ⟨q1, h2⟩ | ⟨q1, h2, h3⟩
      all_goals
        go_wp2_with fail
        go_roundw
        case rel => exact ⟨k + 1, by omega, by go_num, HN, B1⟩
        case measure => simp [intOf]; omega
theorem by20 (A : Option Addr) (n c : Nat) (g : Nat → Nat → Int) (bike t : Int) (w : World) (hr : FlatRd w A n 5 g) (m1 : n ≤ 9223372036854775807) :
    Calls Try.prog 20 #[.slice A n c, .int .i64 bike, .int .i64 t] w fun x w' => x = .returned (.tuple #[.int .i64 (byR n g bike t), .bool (byF n g bike t)]) ∧ Below w.heap.size w w' := by
  have Hr := Lib.hid hr
  clear hr
  go_enter Try.func20, Try.ntmps20
  go_wp2_with fail
  go_loopw [8] (fun i wr => ∃ k : Nat, k ≤ n ∧ i = .int .i64 k ∧ Hid (∀ i, i < k → hitB g bike t i = false) ∧ Hid (Below w.heap.size w wr)) (fun i _ => n - (intOf i).toNat)
  case atStart => exact ⟨0, by omega, rfl, Lib.hid (fun i hi => absurd hi (by omega)), Lib.hid (Below.refl _ _)⟩
  case round =>
    obtain ⟨k, hk, rfl, Hs, Hb⟩ := hrel
    by_cases hlt : k < n
    case neg =>
      have hkn : k = n := by omega
      subst hkn
      have HN := Lib.hid (by_none Hs.out)
      go_wp2_with fail
      go_ret2
      exact ⟨by rw [HN.out.1, HN.out.2]; rfl, Hb.out⟩
    obtain ⟨b, o, rfl, hbw⟩ := Hr.out.at_ (by omega)
    have HR := Lib.hid (Hr.out.bel Hb.out)
    obtain ⟨r0, r1, r2, r3, r4⟩ := HR.out.row k hlt
    have hltI : (k : Int) < (n : Int) := by omega
    by_cases hh : g k 1 = bike ∧ g k 3 ≤ t ∧ t < g k 4
    · have HN := Lib.hid (by_hit Hs.out (hitB_t hh) hlt)
      have q1 : (g k 1 == bike) = true := by simpa using hh.1
      have h2 := hh.2.1
      have h3 := hh.2.2
      clear hh
      go_wp2_with fail
      go_ret2
      exact ⟨by rw [HN.out.1, HN.out.2]; rfl, Hb.out⟩
    · have HN := Lib.hid (by_round_t Hs.out (hitB_f hh))
      have hc : (g k 1 == bike) = false ∨ ((g k 1 == bike) = true ∧ t < g k 3) ∨ ((g k 1 == bike) = true ∧ g k 3 ≤ t ∧ g k 4 ≤ t) := by
        by_cases h1 : g k 1 = bike
        · have q1 : (g k 1 == bike) = true := by simpa using h1
          by_cases h2 : g k 3 ≤ t
          · exact .inr (.inr ⟨q1, h2, by omega⟩)
          · exact .inr (.inl ⟨q1, by omega⟩)
        · exact .inl (by simpa using h1)
      clear hh
      rcases hc with q1 | ⟨q1, h2⟩ | ⟨q1, h2, h3⟩
      all_goals
        go_wp2_with fail
        go_roundw
        case rel => exact ⟨k + 1, by omega, by go_num, HN, Hb⟩
        case measure => simp [intOf]; omega
end Go.Proofs.Ytmfkkmonedgdnaa
