/- The walk of Insert of the program. -/
import Derived.Test.YtdallemhhdfemaaDE
namespace Go.Proofs.Ytdallemhhdfemaa
open Go.RowKit
set_option maxHeartbeats 4000000
set_option maxRecDepth 100000
set_option linter.unusedVariables false

def insE (n : Nat) (D : Dk) (d bike : Int) : Int :=
  if 0 ≤ d ∧ d < (n : Int) then (if bike < 0 ∨ 128 ≤ bike then 1 else if D.x d.toNat = true then 12 else if D.f d.toNat = true then 22 else if fiF n D bike = true then 6 else 0) else 7
def insD (n : Nat) (D : Dk) (d bike : Int) : Dk := if insE n D d bike = 0 then setF (setB D d.toNat bike) d.toNat true else D
theorem insert18 (p n : Nat) (D : Dk) (d bike : Int) (w : World) (h : Sta w p n D) : Calls Try.prog 18 #[ptr p, .int .i64 d, .int .i64 bike] w fun x w' => x = .returned (.int .i64 (insE n D d bike)) ∧ LeftAt w p n (insD n D d bike) w' := by
  have H := Lib.hid h
  have hn := h.n2
  clear h
  have HD : Hid (insE n D d bike ≠ 0 → insD n D d bike = D) := Lib.hid (fun h => if_neg h)
  by_cases hd : 0 ≤ d ∧ d < (n : Int)
  case neg =>
    have hc := Lib.hid (canE_out hd)
    have HE := Lib.hid (show insE n D d bike = 7 from if_neg hd)
    clear hd
    go_enter Try.func18, Try.ntmps18
    go_wp2_with fail
    refine (can31 p n D d w H.out).mono ?_
    rw [hc.out]
    rintro x w1 ⟨rfl, rfl⟩
    go_wp2_with fail
    go_ret
    exact ⟨ret_int HE.out.symm, by rw [HD.out (by rw [HE.out]; decide)]; exact LeftAt.same H.out⟩
  obtain ⟨i, rfl⟩ : ∃ i : Nat, d = (i : Int) := ⟨d.toNat, by omega⟩
  have hi : i < n := by omega
  have hc := Lib.hid (canE_in hi)
  have HX : Hid (insE n D (i : Int) bike = if bike < 0 ∨ 128 ≤ bike then 1 else if D.x i = true then 12 else if D.f i = true then 22 else if fiF n D bike = true then 6 else 0) := Lib.hid (by unfold insE; rw [if_pos hd, Int.toNat_natCast])
  obtain ⟨r0, r1, r2⟩ := H.out.row i (by omega)
  have hiI : (i : Int) < 32 := by omega
  clear hd
  by_cases hb : bike < 0 ∨ 128 ≤ bike
  case pos =>
    have HE := Lib.hid (show insE n D (i : Int) bike = 1 by rw [HX.out, if_pos hb])
    have hb2 : bike < 0 ∨ (0 ≤ bike ∧ 128 ≤ bike) := by omega
    clear hb
    rcases hb2 with hb | ⟨hb, hb3⟩
    all_goals
      go_enter Try.func18, Try.ntmps18
      go_wp2_with fail
      refine (can31 p n D (i : Int) w H.out).mono ?_
      rw [hc.out]
      rintro x w1 ⟨rfl, rfl⟩
      go_wp2_with fail
      go_ret
      exact ⟨ret_int HE.out.symm, by rw [HD.out (by rw [HE.out]; decide)]; exact LeftAt.same H.out⟩
  have hb1 : 0 ≤ bike := by omega
  have hb2 : bike < 128 := by omega
  cases hx : D.x i with
  | true =>
    have HE := Lib.hid (show insE n D (i : Int) bike = 12 by rw [HX.out, if_neg hb, if_pos hx])
    rw [hx] at r2
    clear hb hx
    go_enter Try.func18, Try.ntmps18
    go_wp2_with fail
    refine (can31 p n D (i : Int) w H.out).mono ?_
    rw [hc.out]
    rintro x w1 ⟨rfl, rfl⟩
    go_wp2_with fail
    go_ret
    exact ⟨ret_int HE.out.symm, by rw [HD.out (by rw [HE.out]; decide)]; exact LeftAt.same H.out⟩
  | false =>
    rw [hx] at r2
    cases hf : D.f i with
    | true =>
      have HE := Lib.hid (show insE n D (i : Int) bike = 22 by rw [HX.out, if_neg hb, if_neg (by rw [hx]; decide), if_pos hf])
      rw [hf] at r1
      clear hb hx hf
      go_enter Try.func18, Try.ntmps18
      go_wp2_with fail
      refine (can31 p n D (i : Int) w H.out).mono ?_
      rw [hc.out]
      rintro x w1 ⟨rfl, rfl⟩
      go_wp2_with fail
      go_ret
      exact ⟨ret_int HE.out.symm, by rw [HD.out (by rw [HE.out]; decide)]; exact LeftAt.same H.out⟩
    | false =>
      rw [hf] at r1
      have f0 := H.out.thaw (1 + i * 3)
      have f1 := H.out.thaw (1 + i * 3 + 1)
      cases hq : fiF n D bike with
      | true =>
        have HE := Lib.hid (show insE n D (i : Int) bike = 6 by rw [HX.out, if_neg hb, if_neg (by rw [hx]; decide), if_neg (by rw [hf]; decide), if_pos hq])
        have HQ := Lib.hid hq
        clear hb hx hf hq
        go_enter Try.func18, Try.ntmps18
        go_wp2_with fail
        refine (can31 p n D (i : Int) w H.out).mono ?_
        rw [hc.out]
        rintro x w1 ⟨rfl, rfl⟩
        go_wp2_with fail
        refine (find17 p n D bike w H.out).mono ?_
        rw [HQ.out]
        rintro x w1 ⟨rfl, rfl⟩
        go_wp2_with fail
        go_ret
        exact ⟨ret_int HE.out.symm, by rw [HD.out (by rw [HE.out]; decide)]; exact LeftAt.same H.out⟩
      | false =>
        have HE := Lib.hid (show insE n D (i : Int) bike = 0 by rw [HX.out, if_neg hb, if_neg (by rw [hx]; decide), if_neg (by rw [hf]; decide), if_neg (by rw [hq]; decide)])
        have HG := Lib.hid (show insD n D (i : Int) bike = setF (setB D i bike) i true by unfold insD; rw [if_pos HE.out, Int.toNat_natCast])
        have HQ := Lib.hid hq
        clear hb hx hf hq
        go_enter Try.func18, Try.ntmps18
        go_wp2_with fail
        refine (can31 p n D (i : Int) w H.out).mono ?_
        rw [hc.out]
        rintro x w1 ⟨rfl, rfl⟩
        go_wp2_with fail
        refine (find17 p n D bike w H.out).mono ?_
        rw [HQ.out]
        rintro x w1 ⟨rfl, rfl⟩
        go_wp2_with fail
        go_ret
        exact ⟨ret_int HE.out.symm, by rw [HG.out]; exact ⟨(H.out.setB i (by omega) bike).setF i (by omega) true, grown_set (grown_set (grown_refl _ _) _ _) _ _⟩⟩
end Go.Proofs.Ytdallemhhdfemaa
