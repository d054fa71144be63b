/- The walk of the law DockOnce. -/
import Derived.Test.YtdallemhhdfemaaDR
namespace Go.Proofs.Ytdallemhhdfemaa
open Go.RowKit
set_option maxHeartbeats 4000000
set_option maxRecDepth 100000
set_option linter.unusedVariables false

/-- was the bicycle seen below a dock? -/
def thB (D : Dk) (bike : Int) : Nat → Bool
  | 0 => false
  | k + 1 => thB D bike k || inD D bike k
theorem thB_f {D : Dk} {bike : Int} {k : Nat} (h : thB D bike k = false) : ∀ i, i < k → inD D bike i = false := by
  induction k with
  | zero => intro i hi; omega
  | succ k ih =>
    intro i hi
    unfold thB at h
    rw [Bool.or_eq_false_iff] at h
    by_cases hik : i = k
    · subst hik; exact h.2
    · exact ih h.1 i (by omega)
theorem thB_t {D : Dk} {bike : Int} {k : Nat} (h : thB D bike k = true) : ∃ i, i < k ∧ inD D bike i = true := by
  induction k with
  | zero => cases h
  | succ k ih =>
    unfold thB at h
    rw [Bool.or_eq_true] at h
    rcases h with h | h
    · obtain ⟨i, hi, hp⟩ := ih h; exact ⟨i, by omega, hp⟩
    · exact ⟨k, by omega, h⟩
theorem th_fi (D : Dk) (bike : Int) (n : Nat) : thB D bike n = fiF n D bike := by
  cases h : thB D bike n with
  | false => exact (fi_none (thB_f h)).2.symm
  | true =>
    obtain ⟨i, hi, hp⟩ := thB_t h
    unfold fiF
    rw [decide_eq_true (first_lt hi hp)]
theorem fi_zero {n : Nat} {D : Dk} {bike : Int} (h : fiF n D bike = false) : fiN n D bike = 0 := by
  rw [← th_fi] at h
  exact (fi_none (thB_f h)).1
theorem fi_own {n : Nat} {D : Dk} (h : Inv n D) {k : Nat} (hk : k < n) (hf : D.f k = true) : fiN n D (D.b k) = k ∧ fiF n D (D.b k) = true := by
  refine fi_hit (fun i hi => ?_) (by unfold inD; rw [hf]; simp) hk
  cases hp : inD D (D.b k) i with
  | false => rfl
  | true =>
    unfold inD at hp
    rw [Bool.and_eq_true] at hp
    have := h.u i k (by omega) hk hp.1 hf (by simpa using hp.2)
    omega

theorem law6_out (d : Int) (A : Option Addr) (m c : Nat) (g : Nat → Nat → Int) (bike : Int) (w : World) (hr : FlatRd w A m 3 g) (m1 : m ≤ 9223372036854775807) (hd : d < 1 ∨ 32 < d) :
    Calls Try.prog 6 #[.int .i64 d, .slice A m c, .int .i64 bike] w fun x w' => x = .returned (.bool true) ∧ Below w.heap.size w w' := by
  have HD := Lib.hid hd
  clear hd hr
  go_enter Try.func6, Try.ntmps6
  go_wp2_with fail
  refine (played8_bad d A m c w HD.out).mono ?_
  rintro x w1 ⟨rfl, rfl⟩
  go_wp2_with fail
  refine (awake_any _).mono ?_
  rintro x w2 ⟨rfl, hb⟩
  have B := Lib.hid hb
  clear hb
  go_wp2_with fail
  go_ret
  exact ⟨rfl, B.out⟩

theorem law6_in (n : Nat) (A : Option Addr) (m c : Nat) (g : Nat → Nat → Int) (bike : Int) (w : World) (hr : FlatRd w A m 3 g) (m1 : m ≤ 9223372036854775807) (h1 : 1 ≤ n) (h2 : n ≤ 32) :
    Calls Try.prog 6 #[.int .i64 n, .slice A m c, .int .i64 bike] w fun x w' => x = .returned (.bool true) ∧ Below w.heap.size w w' := by
  have Hr := Lib.hid hr
  clear hr
  obtain ⟨p, HP⟩ : ∃ p, Hid (w.heap.size = p) := ⟨_, Lib.hid rfl⟩
  have n2 : ¬ (32 : Int) < (n : Int) := by omega
  go_enter Try.func6, Try.ntmps6
  go_wp2_with fail
  refine (played8 n p A m c g w HP.out h1 h2 Hr.out m1).mono ?_
  rintro x w1 ⟨rfl, ha⟩
  have A1 := Lib.hid ha
  clear ha
  by_cases hm : 60 < m
  · have hmI : (60 : Int) < (m : Int) := by omega
    go_wp2_with fail
    refine (awake_any _).mono ?_
    rintro x w2 ⟨rfl, hb⟩
    have A2 := Lib.hid (A1.out.go hb)
    clear hb
    go_wp2_with fail
    go_ret
    exact ⟨rfl, A2.out.bel⟩
  have hmI : ¬ (60 : Int) < (m : Int) := by omega
  have HI := Lib.hid (Inv.playD n g m)
  obtain ⟨D, hD⟩ : ∃ D, D = playD n g m := ⟨_, rfl⟩
  rw [← hD] at A1 HI
  clear hD
  go_wp2_with fail
  go_loopw [9, 8] (fun i t wr => ∃ k : Nat, k ≤ n ∧ i = .int .i64 k ∧ t = .bool (thB D bike k) ∧ Hid (At w wr p n D)) (fun i _ _ => n - (intOf i).toNat)
  case atStart => exact ⟨0, by omega, rfl, rfl, A1⟩
  case round =>
    obtain ⟨k, hk, rfl, rfl, G⟩ := hrel
    by_cases hlt : k < n
    case neg =>
      have hkn : k = n := by omega
      subst hkn
      have hltI : ¬ (k : Int) < (k : Int) := by omega
      rw [th_fi]
      cases hq : fiF k D bike with
      | true =>
        have HQ := Lib.hid hq
        clear hq
        go_wp2_with fail
        refine (find17 p k D bike wr G.out.sta).mono ?_
        rw [HQ.out]
        rintro x w2 ⟨rfl, rfl⟩
        go_wp2_with fail
        refine (awake_any _).mono ?_
        rintro x w2 ⟨rfl, hb⟩
        have A2 := Lib.hid (G.out.go hb)
        clear hb
        go_wp2_with fail
        go_ret
        exact ⟨rfl, A2.out.bel⟩
      | false =>
        have HZ := Lib.hid (fi_zero hq)
        have HQ := Lib.hid hq
        clear hq
        go_wp2_with fail
        refine (find17 p k D bike wr G.out.sta).mono ?_
        rw [HQ.out, HZ.out]
        rintro x w2 ⟨rfl, rfl⟩
        go_wp2_with fail
        refine (awake_any _).mono ?_
        rintro x w2 ⟨rfl, hb⟩
        have A2 := Lib.hid (G.out.go hb)
        clear hb
        go_wp2_with fail
        go_ret
        exact ⟨rfl, A2.out.bel⟩
    have hltI : (k : Int) < (n : Int) := by omega
    have HB := Lib.hid (show bikN n D (k : Int) = D.b k ∧ bikF n D (k : Int) = D.f k by
      have hd : 0 ≤ (k : Int) ∧ (k : Int) < (n : Int) := by omega
      unfold bikN bikF; rw [if_pos hd, if_pos hd, Int.toNat_natCast]; exact ⟨rfl, rfl⟩)
    cases hf : D.f k with
    | false =>
      have HF := Lib.hid hf
      have HZ := Lib.hid (HI.out.z k hlt hf)
      have HT := Lib.hid (show thB D bike (k + 1) = thB D bike k by rw [thB]; unfold inD; rw [hf]; simp)
      clear hf
      go_wp2_with fail
      refine (bike16 p n D (k : Int) wr G.out.sta).mono ?_
      rw [HB.out.1, HB.out.2, HF.out, HZ.out]
      rintro x w2 ⟨rfl, hb⟩
      have G2 := Lib.hid (G.out.go hb)
      clear hb
      go_wp2_with fail
      go_roundw
      case rel => exact ⟨k + 1, by omega, by go_num, by rw [HT.out], G2⟩
      case measure => simp [intOf]; omega
    | true =>
      have HF := Lib.hid hf
      have HO := Lib.hid (fi_own HI.out hlt hf)
      obtain ⟨hb0, hb1⟩ := HI.out.b k hlt hf
      have HT := Lib.hid (show thB D bike (k + 1) = (thB D bike k || (D.b k == bike)) by rw [thB]; unfold inD; rw [hf]; simp)
      clear hf
      have q1 : ((k : Int) != (k : Int)) = false := by simp
      obtain ⟨y, hy⟩ : ∃ y, y = D.b k := ⟨_, rfl⟩
      cases ht : thB D bike k with
      | true =>
        rw [ht] at HT
        clear ht
        go_wp2_with fail
        refine (bike16 p n D (k : Int) wr G.out.sta).mono ?_
        rw [HB.out.1, HB.out.2, HF.out]
        rintro x w2 ⟨rfl, hb⟩
        have G2 := Lib.hid (G.out.go hb)
        clear hb
        go_wp2_with fail
        refine (find17 p n D (D.b k) w2 G2.out.sta).mono ?_
        rw [HO.out.1, HO.out.2]
        rintro x w3 ⟨rfl, rfl⟩
        go_wp2_with fail
        go_roundw
        case rel => exact ⟨k + 1, by omega, by go_num, by rw [HT.out]; rfl, G2⟩
        case measure => simp [intOf]; omega
      | false =>
        rw [ht] at HT
        clear ht
        go_wp2_with fail
        refine (bike16 p n D (k : Int) wr G.out.sta).mono ?_
        rw [HB.out.1, HB.out.2, HF.out]
        rintro x w2 ⟨rfl, hb⟩
        have G2 := Lib.hid (G.out.go hb)
        clear hb
        go_wp2_with fail
        refine (find17 p n D (D.b k) w2 G2.out.sta).mono ?_
        rw [HO.out.1, HO.out.2]
        rintro x w3 ⟨rfl, rfl⟩
        go_wp2_with fail
        go_roundw
        case rel => exact ⟨k + 1, by omega, by go_num, by rw [HT.out]; rfl, G2⟩
        case measure => simp [intOf]; omega

theorem law6_any (d : Int) (A : Option Addr) (m c : Nat) (g : Nat → Nat → Int) (bike : Int) (w : World) (hr : FlatRd w A m 3 g) (m1 : m ≤ 9223372036854775807) (hmc : m ≤ c) :
    Calls Try.prog 6 #[.int .i64 d, .slice A m c, .int .i64 bike] w fun x w' => x = .returned (.bool true) ∧ Below w.heap.size w w' := by
  by_cases hd : d < 1 ∨ 32 < d
  · exact law6_out d A m c g bike w hr m1 hd
  · obtain ⟨n, rfl⟩ : ∃ n : Nat, d = (n : Int) := ⟨d.toNat, by omega⟩
    exact law6_in n A m c g bike w hr m1 (by omega) (by omega)
end Go.Proofs.Ytdallemhhdfemaa
