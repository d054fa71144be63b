/- The walk of the law DockParts. -/
import Derived.Test.YtdallemhhdfemaaDL6
namespace Go.Proofs.Ytdallemhhdfemaa
open Go.RowKit
set_option maxHeartbeats 4000000
set_option maxRecDepth 100000
set_option linter.unusedVariables false

/-- the docks out of order below a dock -/
def badN (D : Dk) : Nat → Nat
  | 0 => 0
  | k + 1 => if D.x k = true then badN D k + 1 else badN D k
theorem parts_sum (D : Dk) (k : Nat) : (freeL D k).length + (bikesL D k).length + badN D k = k := by
  induction k with
  | zero => rfl
  | succ k ih =>
    unfold freeL bikesL badN
    cases hx : D.x k <;> cases hf : D.f k <;> simp <;> omega
theorem free_rest (D : Dk) (i : Nat) : ∀ j, ∃ r, freeL D (i + j) = freeL D i ++ r ∧ ∀ y ∈ r, (i : Int) ≤ y := by
  intro j
  induction j with
  | zero => exact ⟨[], by simp, fun y hy => by cases hy⟩
  | succ j ih =>
    obtain ⟨r, h1, h2⟩ := ih
    rw [← Nat.add_assoc, show freeL D (i + j + 1) = if D.f (i + j) = false ∧ D.x (i + j) = false then freeL D (i + j) ++ [((i + j : Nat) : Int)] else freeL D (i + j) from rfl]
    split
    · refine ⟨r ++ [((i + j : Nat) : Int)], by rw [h1, List.append_assoc], fun y hy => ?_⟩
      rcases List.mem_append.1 hy with hy | hy
      · exact h2 y hy
      · simp at hy; omega
    · exact ⟨r, h1, h2⟩
theorem bikes_rest (D : Dk) (i : Nat) : ∀ j, ∃ r, bikesL D (i + j) = bikesL D i ++ r := by
  intro j
  induction j with
  | zero => exact ⟨[], by simp⟩
  | succ j ih =>
    obtain ⟨r, h1⟩ := ih
    rw [← Nat.add_assoc, show bikesL D (i + j + 1) = if D.f (i + j) = true ∧ D.x (i + j) = false then bikesL D (i + j) ++ [D.b (i + j)] else bikesL D (i + j) from rfl]
    split
    · exact ⟨r ++ [D.b (i + j)], by rw [h1, List.append_assoc]⟩
    · exact ⟨r, h1⟩
theorem getI_mid (l r : List Int) (y : Int) : l.length < (l ++ [y] ++ r).length ∧ getI (l ++ [y] ++ r) l.length = y := by
  refine ⟨by simp, ?_⟩
  unfold getI
  rw [List.getD_eq_getElem?_getD, List.append_assoc, List.getElem?_append_right (Nat.le_refl _)]
  simp
theorem free_hit {D : Dk} {n k : Nat} (hk : k < n) (hf : D.f k = false) (hx : D.x k = false) : (freeL D k).length < (freeL D n).length ∧ getI (freeL D n) (freeL D k).length = k := by
  obtain ⟨r, h1, _⟩ := free_rest D (k + 1) (n - (k + 1))
  rw [show k + 1 + (n - (k + 1)) = n by omega, show freeL D (k + 1) = freeL D k ++ [(k : Int)] from if_pos ⟨hf, hx⟩] at h1
  rw [h1]
  exact getI_mid _ _ _
theorem free_miss {D : Dk} {n k : Nat} (hk : k < n) (h : ¬ (D.f k = false ∧ D.x k = false)) (hl : (freeL D k).length < (freeL D n).length) : getI (freeL D n) (freeL D k).length ≠ k := by
  obtain ⟨r, h1, h2⟩ := free_rest D (k + 1) (n - (k + 1))
  rw [show k + 1 + (n - (k + 1)) = n by omega, show freeL D (k + 1) = freeL D k from if_neg h] at h1
  rw [h1] at hl ⊢
  cases r with
  | nil => simp at hl
  | cons y r =>
    have h3 := h2 y (by simp)
    have := (getI_mid (freeL D k) r y).2
    rw [List.append_assoc] at this
    simp only [List.cons_append, List.nil_append] at this
    rw [this]
    omega
theorem bikes_hit {D : Dk} {n k : Nat} (hk : k < n) (hf : D.f k = true) (hx : D.x k = false) : (bikesL D k).length < (bikesL D n).length ∧ getI (bikesL D n) (bikesL D k).length = D.b k := by
  obtain ⟨r, h1⟩ := bikes_rest D (k + 1) (n - (k + 1))
  rw [show k + 1 + (n - (k + 1)) = n by omega, show bikesL D (k + 1) = bikesL D k ++ [D.b k] from if_pos ⟨hf, hx⟩] at h1
  rw [h1]
  exact getI_mid _ _ _
theorem insE_part {n : Nat} {D : Dk} {k : Nat} {bike : Int} (hk : k < n) (h0 : 0 ≤ bike) (h1 : bike < 128) (hq : fiF n D bike = false) :
    insE n D (k : Int) bike = if D.x k = true then 12 else if D.f k = true then 22 else 0 := by
  unfold insE
  rw [if_pos ⟨by omega, by omega⟩, if_neg (by omega), Int.toNat_natCast, hq]
  simp

/-- where the loop stands -/
structure Pt (w X : World) (p n : Nat) (D : Dk) (Af Ab : Option Addr) (mf mb : Nat) (lf lb : List Int) : Prop where
  at_ : At w X p n D
  f : SlI X Af mf (getI lf)
  b : SlI X Ab mb (getI lb)
theorem Pt.go {w X Y : World} {p n : Nat} {D : Dk} {Af Ab : Option Addr} {mf mb : Nat} {lf lb : List Int} (h : Pt w X p n D Af Ab mf mb lf lb) (hb : Below X.heap.size X Y) : Pt w Y p n D Af Ab mf mb lf lb :=
  ⟨h.at_.go hb, h.f.bel hb, h.b.bel hb⟩

theorem law7_out (d : Int) (A : Option Addr) (m c : Nat) (bike : Int) (w : World) (hd : d < 1 ∨ 32 < d) :
    Calls Try.prog 7 #[.int .i64 d, .slice A m c, .int .i64 bike] w fun x w' => x = .returned (.bool true) ∧ Below w.heap.size w w' := by
  have HD := Lib.hid hd
  clear hd
  go_enter Try.func7, Try.ntmps7
  go_wp2_with fail
  refine (played8_bad d A m c w HD.out).mono ?_
  rintro x w1 ⟨rfl, rfl⟩
  go_wp2_with fail
  refine (awake_any _).mono ?_
  rintro x w2 ⟨rfl, hb⟩
  have B := Lib.hid hb
  clear hb
  go_wp2_with fail
  go_ret
  exact ⟨rfl, B.out⟩

theorem law7_in (n : Nat) (A : Option Addr) (m c : Nat) (g : Nat → Nat → Int) (bike : Int) (w : World) (hr : FlatRd w A m 3 g) (m1 : m ≤ 9223372036854775807) (h1 : 1 ≤ n) (h2 : n ≤ 32) :
    Calls Try.prog 7 #[.int .i64 n, .slice A m c, .int .i64 bike] w fun x w' => x = .returned (.bool true) ∧ Below w.heap.size w w' := by
  have Hr := Lib.hid hr
  clear hr
  obtain ⟨p, HP⟩ : ∃ p, Hid (w.heap.size = p) := ⟨_, Lib.hid rfl⟩
  have n2 : ¬ (32 : Int) < (n : Int) := by omega
  go_enter Try.func7, Try.ntmps7
  go_wp2_with fail
  refine (played8 n p A m c g w HP.out h1 h2 Hr.out m1).mono ?_
  rintro x w1 ⟨rfl, ha⟩
  have A1 := Lib.hid ha
  clear ha
  by_cases hm : 60 < m
  · have hmI : (60 : Int) < (m : Int) := by omega
    go_wp2_with fail
    refine (awake_any _).mono ?_
    rintro x w2 ⟨rfl, hb⟩
    have A2 := Lib.hid (A1.out.go hb)
    clear hb
    go_wp2_with fail
    go_ret
    exact ⟨rfl, A2.out.bel⟩
  have hmI : ¬ (60 : Int) < (m : Int) := by omega
  have HI := Lib.hid (Inv.playD n g m)
  obtain ⟨D, hD⟩ : ∃ D, D = playD n g m := ⟨_, rfl⟩
  rw [← hD] at A1 HI
  clear hD
  have hl1 := freeL_len D n
  have hl2 := bikesL_len D n
  obtain ⟨lf, HF⟩ : ∃ l, Hid (freeL D n = l) := ⟨_, Lib.hid rfl⟩
  obtain ⟨lb, HB⟩ : ∃ l, Hid (bikesL D n = l) := ⟨_, Lib.hid rfl⟩
  obtain ⟨mf, HMF⟩ : ∃ m, Hid (lf.length = m) := ⟨_, Lib.hid rfl⟩
  obtain ⟨mb, HMB⟩ : ∃ m, Hid (lb.length = m) := ⟨_, Lib.hid rfl⟩
  rw [HF.out, HMF.out] at hl1
  rw [HB.out, HMB.out] at hl2
  go_wp2_with fail
  refine (free20N p n D lf mf w1 A1.out.sta HF.out HMF.out).mono ?_
  rintro x w2 ⟨Af, cf, rfl, hs, _, hb⟩
  have A2 := Lib.hid (A1.out.go hb)
  have SF := Lib.hid hs
  clear hs hb A1
  go_wp2_with fail
  refine (bikes21N p n D lb mb w2 A2.out.sta HB.out HMB.out).mono ?_
  rintro x w3 ⟨Ab, cb, rfl, hs, _, hb⟩
  have P3 : Hid (Pt w w3 p n D Af Ab mf mb lf lb) := Lib.hid ⟨A2.out.go hb, SF.out.bel hb, hs⟩
  clear hs hb A2 SF
  go_wp2_with fail
  refine (find17 p n D bike w3 P3.out.at_.sta).mono ?_
  rintro x w4 ⟨rfl, rfl⟩
  by_cases hgo : fiF n D bike = true ∨ bike < 0 ∨ 128 ≤ bike
  · rcases (show fiF n D bike = true ∨ (fiF n D bike = false ∧ bike < 0) ∨ (fiF n D bike = false ∧ 0 ≤ bike ∧ 128 ≤ bike) by
      cases hq : fiF n D bike
      · rw [hq] at hgo; simp at hgo
        rcases hgo with h | h
        · exact .inr (.inl ⟨rfl, h⟩)
        · by_cases h0 : bike < 0
          · exact .inr (.inl ⟨rfl, h0⟩)
          · exact .inr (.inr ⟨rfl, by omega, h⟩)
      · exact .inl rfl) with hq | ⟨hq, hb0⟩ | ⟨hq, hb0, hb1⟩
    all_goals
      clear hgo
      rw [hq]
      clear hq
      go_wp2_with fail
      refine (awake_any _).mono ?_
      rintro x w5 ⟨rfl, hb⟩
      have B := Lib.hid (P3.out.at_.go hb).bel
      clear hb
      go_wp2_with fail
      go_ret
      exact ⟨rfl, B.out⟩
  have hq : fiF n D bike = false := by
    cases hq : fiF n D bike
    · rfl
    · exact absurd (.inl hq) hgo
  have hb0 : 0 ≤ bike := by omega
  have hb1 : bike < 128 := by omega
  have HQ := Lib.hid hq
  rw [hq]
  clear hgo hq
  go_wp2_with fail
  go_loopw [15, 12, 13, 14] (fun i t u v wr => ∃ k a b e : Nat, k ≤ n ∧ i = .int .i64 k ∧ t = .int .i64 a ∧ u = .int .i64 b ∧ v = .int .i64 e ∧ Hid ((freeL D k).length = a ∧ (bikesL D k).length = b ∧ badN D k = e) ∧ Hid (Pt w wr p n D Af Ab mf mb lf lb)) (fun i _ _ _ _ => n - (intOf i).toNat)
  case atStart => exact ⟨0, 0, 0, 0, by omega, rfl, rfl, rfl, rfl, Lib.hid ⟨rfl, rfl, rfl⟩, P3⟩
  case round =>
    obtain ⟨k, a, b, e, hk, rfl, rfl, rfl, rfl, HC, P⟩ := hrel
    have hsum := parts_sum D k
    rw [HC.out.1, HC.out.2.1, HC.out.2.2] at hsum
    by_cases hlt : k < n
    case neg =>
      have hkn : k = n := by omega
      subst hkn
      have ea : a = mf := by rw [← HMF.out, ← HF.out]; exact HC.out.1.symm
      have eb : b = mb := by rw [← HMB.out, ← HB.out]; exact HC.out.2.1.symm
      have hltI : ¬ (k : Int) < (k : Int) := by omega
      have q1 : ((a : Int) == (mf : Int)) = true := by rw [ea]; simp
      have q2 : ((b : Int) == (mb : Int)) = true := by rw [eb]; simp
      have q3 : ((a : Int) + (b : Int) + (e : Int) == (k : Int)) = true := by simp; omega
      have ha : a ≤ 32 := by omega
      have hb : b ≤ 32 := by omega
      have he : e ≤ 32 := by omega
      clear ea eb hsum
      go_wp2_with fail
      refine (awake_any _).mono ?_
      rintro x w5 ⟨rfl, hb⟩
      have B := Lib.hid (P.out.at_.go hb).bel
      clear hb
      go_wp2_with fail
      go_ret
      exact ⟨rfl, B.out⟩
    have hltI : (k : Int) < (n : Int) := by omega
    have HBK := Lib.hid (show bikN n D (k : Int) = D.b k ∧ bikF n D (k : Int) = D.f k by
      have hd : 0 ≤ (k : Int) ∧ (k : Int) < (n : Int) := by omega
      unfold bikN bikF; rw [if_pos hd, if_pos hd, Int.toNat_natCast]; exact ⟨rfl, rfl⟩)
    have HE := Lib.hid (insE_part hlt hb0 hb1 HQ.out)
    obtain ⟨E, HEE⟩ : ∃ E, Hid (insE n D (k : Int) bike = E) := ⟨_, Lib.hid rfl⟩
    obtain ⟨fk, HFK⟩ : ∃ y, Hid (D.f k = y) := ⟨_, Lib.hid rfl⟩
    obtain ⟨bk, HBB⟩ : ∃ y, Hid (D.b k = y) := ⟨_, Lib.hid rfl⟩
    have ha : a ≤ 32 := by omega
    have hb : b ≤ 32 := by omega
    have he : e ≤ 32 := by omega
    obtain ⟨q, HQQ⟩ : ∃ q, Hid (wr.heap.size = q) := ⟨_, Lib.hid rfl⟩
    go_wp2_with fail
    refine (copy12 p n D wr P.out.at_.sta).mono ?_
    rw [HQQ.out]
    rintro x w5 ⟨rfl, hsta, hb5⟩
    have S5 := Lib.hid hsta
    have B5 := Lib.hid hb5
    have P5 := Lib.hid (P.out.go (by rw [HQQ.out]; exact hb5))
    clear hsta hb5
    go_wp2_with fail
    refine (bike16 p n D (k : Int) w5 P5.out.at_.sta).mono ?_
    rw [HBK.out.1, HBK.out.2, HFK.out, HBB.out]
    rintro x w6 ⟨rfl, hb6⟩
    have S6 := Lib.hid (S5.out.bel hb6)
    have B6 := Lib.hid (bel_tr B5.out hb6 (by rw [HQQ.out]; exact Nat.le_refl _))
    clear hb6 P5 S5 B5
    go_wp2_with fail
    refine (insert18 q n D (k : Int) bike w6 S6.out).mono ?_
    rw [HEE.out]
    rintro x w7 ⟨rfl, hl⟩
    have P7 := Lib.hid (P.out.go (Y := w7) (by rw [HQQ.out]; exact B6.out.trans (hl.bel (Nat.le_refl _) (by have := B6.out.size; have := HQQ.out; omega))))
    clear hl S6 B6 P
    cases hx : D.x k with
    | false =>
      cases hf : D.f k with
      | false =>
        obtain rfl : E = 0 := by rw [← HEE.out, HE.out, if_neg (by rw [hx]; decide), if_neg (by rw [hf]; decide)]
        obtain rfl : fk = false := by rw [← HFK.out, hf]
        obtain ⟨z1, z2⟩ := free_hit hlt hf hx
        rw [HF.out, HMF.out, HC.out.1] at z1
        rw [HF.out, HC.out.1] at z2
        have HN := Lib.hid (And.intro (show (freeL D (k + 1)).length = a + 1 by rw [show freeL D (k + 1) = freeL D k ++ [(k : Int)] from if_pos ⟨hf, hx⟩, List.length_append, HC.out.1]; rfl) (And.intro (show (bikesL D (k + 1)).length = b by rw [show bikesL D (k + 1) = bikesL D k from if_neg (by rw [hf]; simp), HC.out.2.1]) (show badN D (k + 1) = e by rw [show badN D (k + 1) = badN D k from if_neg (by rw [hx]; decide), HC.out.2.2])))
        clear hx hf
        obtain ⟨b', o', rfl, hbw, r0⟩ := P7.out.f.at_ a z1
        rw [z2] at r0
        have z3 : (a : Int) < (mf : Int) := by omega
        clear z2
        go_wp2_with fail
        go_roundw
        case rel => exact ⟨k + 1, a + 1, b, e, by omega, by go_num, by go_num, by go_num, by go_num, HN, P7⟩
        case measure => simp [intOf]; omega
      | true =>
        obtain rfl : E = 22 := by rw [← HEE.out, HE.out, if_neg (by rw [hx]; decide), if_pos hf]
        obtain rfl : fk = true := by rw [← HFK.out, hf]
        obtain ⟨y1, y2⟩ := bikes_hit hlt hf hx
        rw [HB.out, HMB.out, HC.out.2.1] at y1
        rw [HB.out, HC.out.2.1, HBB.out] at y2
        have hm := Lib.hid (fun h => free_miss hlt (by rw [hf]; simp) h)
        have HN := Lib.hid (And.intro (show (freeL D (k + 1)).length = a by rw [show freeL D (k + 1) = freeL D k from if_neg (by rw [hf]; simp), HC.out.1]) (And.intro (show (bikesL D (k + 1)).length = b + 1 by rw [show bikesL D (k + 1) = bikesL D k ++ [D.b k] from if_pos ⟨hf, hx⟩, List.length_append, HC.out.2.1]; rfl) (show badN D (k + 1) = e by rw [show badN D (k + 1) = badN D k from if_neg (by rw [hx]; decide), HC.out.2.2])))
        clear hx hf
        obtain ⟨b2, o2, rfl, hbw2, s0⟩ := P7.out.b.at_ b y1
        rw [y2] at s0
        have y3 : (b : Int) < (mb : Int) := by omega
        clear y2
        by_cases z1 : a < mf
        · have z2 : getI lf a ≠ k := by
            have := hm.out (by rw [HF.out, HMF.out, HC.out.1]; exact z1)
            rwa [HF.out, HC.out.1] at this
          have z4 : (getI lf a == (k : Int)) = false := by simpa using z2
          obtain ⟨b', o', rfl, hbw, r0⟩ := P7.out.f.at_ a z1
          have z3 : (a : Int) < (mf : Int) := by omega
          clear z2
          go_wp2_with fail
          go_roundw
          case rel => exact ⟨k + 1, a, b + 1, e, by omega, by go_num, by go_num, by go_num, by go_num, HN, P7⟩
          case measure => simp [intOf]; omega
        · have z3 : ¬ (a : Int) < (mf : Int) := by omega
          go_wp2_with fail
          go_roundw
          case rel => exact ⟨k + 1, a, b + 1, e, by omega, by go_num, by go_num, by go_num, by go_num, HN, P7⟩
          case measure => simp [intOf]; omega
    | true =>
      obtain rfl : E = 12 := by rw [← HEE.out, HE.out, if_pos hx]
      have hm := Lib.hid (fun h => free_miss hlt (by rw [hx]; simp) h)
      have HN := Lib.hid (And.intro (show (freeL D (k + 1)).length = a by rw [show freeL D (k + 1) = freeL D k from if_neg (by rw [hx]; simp), HC.out.1]) (And.intro (show (bikesL D (k + 1)).length = b by rw [show bikesL D (k + 1) = bikesL D k from if_neg (by rw [hx]; simp), HC.out.2.1]) (show badN D (k + 1) = e + 1 by rw [show badN D (k + 1) = badN D k + 1 from if_pos hx, HC.out.2.2])))
      clear hx
      by_cases z1 : a < mf
      · have z2 : getI lf a ≠ k := by
          have := hm.out (by rw [HF.out, HMF.out, HC.out.1]; exact z1)
          rwa [HF.out, HC.out.1] at this
        have z4 : (getI lf a == (k : Int)) = false := by simpa using z2
        obtain ⟨b', o', rfl, hbw, r0⟩ := P7.out.f.at_ a z1
        have z3 : (a : Int) < (mf : Int) := by omega
        clear z2
        go_wp2_with fail
        go_roundw
        case rel => exact ⟨k + 1, a, b, e + 1, by omega, by go_num, by go_num, by go_num, by go_num, HN, P7⟩
        case measure => simp [intOf]; omega
      · have z3 : ¬ (a : Int) < (mf : Int) := by omega
        go_wp2_with fail
        go_roundw
        case rel => exact ⟨k + 1, a, b, e + 1, by omega, by go_num, by go_num, by go_num, by go_num, HN, P7⟩
        case measure => simp [intOf]; omega

theorem law7_any (d : Int) (A : Option Addr) (m c : Nat) (g : Nat → Nat → Int) (bike : Int) (w : World) (hr : FlatRd w A m 3 g) (m1 : m ≤ 9223372036854775807) (hmc : m ≤ c) :
    Calls Try.prog 7 #[.int .i64 d, .slice A m c, .int .i64 bike] w fun x w' => x = .returned (.bool true) ∧ Below w.heap.size w w' := by
  by_cases hd : d < 1 ∨ 32 < d
  · exact law7_out d A m c bike w hd
  · obtain ⟨n, rfl⟩ : ∃ n : Nat, d = (n : Int) := ⟨d.toNat, by omega⟩
    exact law7_in n A m c g bike w hr m1 (by omega) (by omega)
end Go.Proofs.Ytdallemhhdfemaa
