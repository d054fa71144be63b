/- The walks of the reference's Find, Free and Bikes. -/
import Derived.Test.YtdallemhhdfemaaDN
namespace Go.Proofs.Ytdallemhhdfemaa
open Go.RowKit
set_option maxHeartbeats 4000000
set_option maxRecDepth 100000
set_option linter.unusedVariables false

theorem inD_f {D : Dk} {bike : Int} {i : Nat} (hf : D.f i = false) : inD D bike i = false := by unfold inD; rw [hf]; rfl
theorem find28 (A A' : Option Addr) (c c' n : Nat) (D : Dk) (bike : Int) (w : World) (h : Rf w A A' n D) (hi : Inv n D) (h2 : n ≤ 32) :
    Calls Try.prog 28 #[rV A c A' c' n, .int .i64 bike] w fun x w' => x = .returned (.tuple #[.int .i64 (fiN n D bike), .bool (fiF n D bike)]) ∧ Below w.heap.size w w' := by
  have HB := Lib.hid (box_bel w (rO A c A' c' n))
  have H := Lib.hid (h.bel HB.out)
  have HI := Lib.hid hi
  clear h hi
  by_cases hb0 : 0 ≤ bike
  case neg =>
    have HN := Lib.hid (fi_none (n := n) (D := D) (bike := bike) (fun i hi => by
      cases hf : D.f i with
      | false => exact inD_f hf
      | true => have := (HI.out.b i hi hf).1; unfold inD; rw [hf]; simp; omega))
    go_enter Try.func28, Try.ntmps28
    go_wp2_with fail
    go_loopw [6] (fun i wr => ∃ k : Nat, k ≤ n ∧ i = .int .i64 k ∧ w.alloc (rO A c A' c' n) = wr) (fun i _ => n - (intOf i).toNat)
    case atStart => exact ⟨0, by omega, rfl, rfl⟩
    case round =>
      obtain ⟨k, hk, rfl, rfl⟩ := hrel
      by_cases hlt : k < n
      case neg =>
        have hltI : ¬ (k : Int) < (n : Int) := by omega
        go_wp2_with fail
        go_ret2
        exact ⟨by rw [HN.out.1, HN.out.2]; rfl, HB.out⟩
      have hltI : (k : Int) < (n : Int) := by omega
      go_wp2_with fail
      go_roundw
      case rel => exact ⟨k + 1, by omega, by go_num, by first | rfl | trivial⟩
      case measure => simp [intOf]; omega
  go_enter Try.func28, Try.ntmps28
  go_wp2_with fail
  go_loopw [6] (fun i wr => ∃ k : Nat, k ≤ n ∧ i = .int .i64 k ∧ Hid (∀ i, i < k → inD D bike i = false) ∧ w.alloc (rO A c A' c' n) = wr) (fun i _ => n - (intOf i).toNat)
  case atStart => exact ⟨0, by omega, rfl, Lib.hid (fun i hi => absurd hi (by omega)), rfl⟩
  case round =>
    obtain ⟨k, hk, rfl, Hs, rfl⟩ := hrel
    by_cases hlt : k < n
    case neg =>
      have hkn : k = n := by omega
      subst hkn
      have HN := Lib.hid (fi_none Hs.out)
      have hltI : ¬ (k : Int) < (k : Int) := by omega
      go_wp2_with fail
      go_ret2
      exact ⟨by rw [HN.out.1, HN.out.2]; rfl, HB.out⟩
    obtain ⟨b, o, rfl, hbw, r0⟩ := H.out.i.at_ k (by omega)
    have hltI : (k : Int) < (n : Int) := by omega
    cases hf : D.f k with
    | false =>
      have hr : rb D k = -1 := if_neg (by rw [hf]; decide)
      rw [hr] at r0
      have HN : Hid (∀ i, i < k + 1 → inD D bike i = false) := Lib.hid (fun i hi => by
        by_cases hik : i = k
        · subst hik; exact inD_f hf
        · exact Hs.out i (by omega))
      have q : ((-1 : Int) == bike) = false := by simp; omega
      clear hf hr
      go_wp2_with fail
      go_roundw
      case rel => exact ⟨k + 1, by omega, by go_num, HN, by first | rfl | trivial⟩
      case measure => simp [intOf]; omega
    | true =>
      have hr : rb D k = D.b k := if_pos hf
      rw [hr] at r0
      clear hr
      cases hb : (D.b k == bike) with
      | false =>
        have HN : Hid (∀ i, i < k + 1 → inD D bike i = false) := Lib.hid (fun i hi => by
          by_cases hik : i = k
          · subst hik; unfold inD; rw [hf, hb]; rfl
          · exact Hs.out i (by omega))
        clear hf
        go_wp2_with fail
        go_roundw
        case rel => exact ⟨k + 1, by omega, by go_num, HN, by first | rfl | trivial⟩
        case measure => simp [intOf]; omega
      | true =>
        have HN := Lib.hid (fi_hit Hs.out (show inD D bike k = true by unfold inD; rw [hf, hb]; rfl) hlt)
        clear hf
        go_wp2_with fail
        go_ret2
        exact ⟨by rw [HN.out.1, HN.out.2]; rfl, HB.out⟩

theorem free29 (A A' : Option Addr) (c c' n : Nat) (D : Dk) (w : World) (h : Rf w A A' n D) (hi : Inv n D) (h2 : n ≤ 32) :
    Calls Try.prog 29 #[rV A c A' c' n] w (ListPost w (freeL D n)) := by
  have HB := Lib.hid (box_bel w (rO A c A' c' n))
  have H := Lib.hid (h.bel HB.out)
  have HI := Lib.hid hi
  clear h hi
  go_enter Try.func29, Try.ntmps29
  go_wp2_with fail
  go_loopw [4, 3] (fun i v wr => ∃ k : Nat, k ≤ n ∧ i = .int .i64 k ∧ Hid (OwnL (w.alloc (rO A c A' c' n)) wr v (freeL D k))) (fun i _ _ => n - (intOf i).toNat)
  case atStart => exact ⟨0, by omega, rfl, Lib.hid (OwnL.nil _)⟩
  case round =>
    obtain ⟨k, hk, rfl, Ho⟩ := hrel
    have s0 := (Ho.out.2.cell (p := ⟨w.heap.size, 0, none⟩) (box2 w _ _ 31).1).trans (box2 w _ _ 31).2.1
    have s1 := (Ho.out.2.cell (p := ⟨w.heap.size, 1, none⟩) (box2 w _ _ 31).1).trans (box2 w _ _ 31).2.2
    by_cases hlt : k < n
    case neg =>
      have hkn : k = n := by omega
      subst hkn
      have hltI : ¬ (k : Int) < (k : Int) := by omega
      go_wp2_with fail
      go_ret
      obtain ⟨A1, c1, he, hs, hl, hb⟩ := Ho.out.post
      exact ⟨A1, c1, he, hs, hl, bel_tr HB.out hb (Nat.le_refl _)⟩
    have hB := Ho.out.2.size
    have hll := freeL_len D k
    have HR := H.out.bel Ho.out.2
    obtain ⟨b, o, rfl, hbw, r0⟩ := HR.i.at_ k (by omega)
    obtain ⟨b', o', rfl, hbw', r1⟩ := HR.x.at_ k (by omega)
    have hltI : (k : Int) < (n : Int) := by omega
    clear HR
    cases hx : D.x k with
    | true =>
      rw [hx] at r1
      have HN := Lib.hid (show freeL D (k + 1) = freeL D k from if_neg (by rw [hx]; simp))
      clear hx
      go_wp2_with fail
      go_roundw
      case rel => exact ⟨k + 1, by omega, by go_num, by rw [HN.out]; exact Ho⟩
      case measure => simp [intOf]; omega
    | false =>
      rw [hx] at r1
      cases hf : D.f k with
      | true =>
        have hr : rb D k = D.b k := if_pos hf
        have hge := (HI.out.b k hlt hf).1
        rw [hr] at r0
        have HN := Lib.hid (show freeL D (k + 1) = freeL D k from if_neg (by rw [hf]; simp))
        clear hf hx hr
        go_wp2_with fail
        go_roundw
        case rel => exact ⟨k + 1, by omega, by go_num, by rw [HN.out]; exact Ho⟩
        case measure => simp [intOf]; omega
      | false =>
        have hr : rb D k = -1 := if_neg (by rw [hf]; decide)
        rw [hr] at r0
        have HN := Lib.hid (show freeL D (k + 1) = freeL D k ++ [(k : Int)] from if_pos ⟨hf, hx⟩)
        clear hf hx hr
        go_wp2_with (at_builtin; refine app_int wr rfl (.tmp 26) (.tmp 28) 28 rfl Try.underlying28 isInt3 rfl _ rfl (Ho.out.pre (k : Int)) (by omega) hB (getI_last _ _) ?_; intro v' w5 hown5 hg5 hloc5)
        go_wp2
        go_roundw
        case rel => exact ⟨k + 1, by omega, by go_num, by rw [HN.out]; exact Lib.hid (Ho.out.app hown5 hg5)⟩
        case measure => simp [intOf]; omega

theorem bikes30 (A A' : Option Addr) (c c' n : Nat) (D : Dk) (w : World) (h : Rf w A A' n D) (hi : Inv n D) (h2 : n ≤ 32) :
    Calls Try.prog 30 #[rV A c A' c' n] w (ListPost w (bikesL D n)) := by
  have HB := Lib.hid (box_bel w (rO A c A' c' n))
  have H := Lib.hid (h.bel HB.out)
  have HI := Lib.hid hi
  clear h hi
  go_enter Try.func30, Try.ntmps30
  go_wp2_with fail
  go_loopw [4, 3] (fun i v wr => ∃ k : Nat, k ≤ n ∧ i = .int .i64 k ∧ Hid (OwnL (w.alloc (rO A c A' c' n)) wr v (bikesL D k))) (fun i _ _ => n - (intOf i).toNat)
  case atStart => exact ⟨0, by omega, rfl, Lib.hid (OwnL.nil _)⟩
  case round =>
    obtain ⟨k, hk, rfl, Ho⟩ := hrel
    have s0 := (Ho.out.2.cell (p := ⟨w.heap.size, 0, none⟩) (box2 w _ _ 31).1).trans (box2 w _ _ 31).2.1
    have s1 := (Ho.out.2.cell (p := ⟨w.heap.size, 1, none⟩) (box2 w _ _ 31).1).trans (box2 w _ _ 31).2.2
    by_cases hlt : k < n
    case neg =>
      have hkn : k = n := by omega
      subst hkn
      have hltI : ¬ (k : Int) < (k : Int) := by omega
      go_wp2_with fail
      go_ret
      obtain ⟨A1, c1, he, hs, hl, hb⟩ := Ho.out.post
      exact ⟨A1, c1, he, hs, hl, bel_tr HB.out hb (Nat.le_refl _)⟩
    have hB := Ho.out.2.size
    have hll := bikesL_len D k
    have HR := H.out.bel Ho.out.2
    obtain ⟨b, o, rfl, hbw, r0⟩ := HR.i.at_ k (by omega)
    obtain ⟨b', o', rfl, hbw', r1⟩ := HR.x.at_ k (by omega)
    have hltI : (k : Int) < (n : Int) := by omega
    clear HR
    cases hx : D.x k with
    | true =>
      rw [hx] at r1
      have HN := Lib.hid (show bikesL D (k + 1) = bikesL D k from if_neg (by rw [hx]; simp))
      clear hx
      go_wp2_with fail
      go_roundw
      case rel => exact ⟨k + 1, by omega, by go_num, by rw [HN.out]; exact Ho⟩
      case measure => simp [intOf]; omega
    | false =>
      rw [hx] at r1
      cases hf : D.f k with
      | false =>
        have hr : rb D k = -1 := if_neg (by rw [hf]; decide)
        rw [hr] at r0
        have HN := Lib.hid (show bikesL D (k + 1) = bikesL D k from if_neg (by rw [hf]; simp))
        clear hf hx hr
        go_wp2_with fail
        go_roundw
        case rel => exact ⟨k + 1, by omega, by go_num, by rw [HN.out]; exact Ho⟩
        case measure => simp [intOf]; omega
      | true =>
        have hr : rb D k = D.b k := if_pos hf
        have hge := (HI.out.b k hlt hf).1
        rw [hr] at r0
        have HN := Lib.hid (show bikesL D (k + 1) = bikesL D k ++ [D.b k] from if_pos ⟨hf, hx⟩)
        clear hf hx hr
        go_wp2_with (at_builtin; refine app_int wr rfl (.tmp 26) (.tmp 32) 28 rfl Try.underlying28 isInt3 rfl _ rfl (Ho.out.pre (D.b k)) (by omega) hB (getI_last _ _) ?_; intro v' w5 hown5 hg5 hloc5)
        go_wp2
        go_roundw
        case rel => exact ⟨k + 1, by omega, by go_num, by rw [HN.out]; exact Lib.hid (Ho.out.app hown5 hg5)⟩
        case measure => simp [intOf]; omega
end Go.Proofs.Ytdallemhhdfemaa
