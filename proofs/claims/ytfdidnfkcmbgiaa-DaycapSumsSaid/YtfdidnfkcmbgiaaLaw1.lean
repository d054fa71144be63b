/- The walks of the laws DaycapApplies and DaycapSums: each returns true, and writes nothing that was there. -/
import Derived.Test.YtfdidnfkcmbgiaaWalkD
namespace Go.Proofs.Ytfdidnfkcmbgiaa
open Go.RowKit
open Dc
set_option maxHeartbeats 400000
set_option linter.unusedVariables false

theorem sameB_self (n : Nat) (f : Nat → Int) : sameB n n f f = true := by simp [sameB]

theorem law3_any (lim : Int) (A B C : Option Addr) (nr nd na c1 c2 c3 : Nat) (r d a : Nat → Int) (w : World) (hr : SlI w A nr r) (hd : SlI w B nd d) (ha : SlI w C na a)
   (m1 : nr ≤ 9223372036854775807) (m2 : nd ≤ 9223372036854775807) (m3 : na ≤ 9223372036854775807) :
    Calls Try.prog 3 #[.int .i64 lim, .slice A nr c1, .slice B nd c2, .slice C na c3] w fun e w' => e = .returned (.bool true) ∧ Below w.heap.size w w' := by
  have Hr := Lib.hid hr
  have Hd := Lib.hid hd
  have Ha := Lib.hid ha
  clear hr hd ha
  by_cases h1 : 300 < nr
  · go_enter Try.func3, Try.ntmps3
    go_wp2_with fail
    refine (awake_any w).mono ?_
    rintro e w1 ⟨rfl, hb⟩
    go_wp2_with fail
    go_ret
    exact ⟨rfl, hb⟩
  by_cases h2 : 300 < nd
  · go_enter Try.func3, Try.ntmps3
    go_wp2_with fail
    refine (awake_any w).mono ?_
    rintro e w1 ⟨rfl, hb⟩
    go_wp2_with fail
    go_ret
    exact ⟨rfl, hb⟩
  by_cases h3 : 300 < na
  · go_enter Try.func3, Try.ntmps3
    go_wp2_with fail
    refine (awake_any w).mono ?_
    rintro e w1 ⟨rfl, hb⟩
    go_wp2_with fail
    go_ret
    exact ⟨rfl, hb⟩
  go_enter Try.func3, Try.ntmps3
  go_wp2_with fail
  refine (papply_any lim A B C nr nd na c1 c2 c3 r d a w Hr.out Hd.out Ha.out m1 m2 m3).mono ?_
  rintro e w1 ⟨A1, k1, rfl, s1, hb1, _⟩
  have b1 := Lib.hid hb1
  have S1 := Lib.hid s1
  have Hr := Lib.hid (Hr.out.bel hb1)
  have Hd := Lib.hid (Hd.out.bel hb1)
  have Ha := Lib.hid (Ha.out.bel hb1)
  clear s1 hb1
  go_wp2_with fail
  refine (rapply_any lim A B C nr nd na c1 c2 c3 r d a w1 Hr.out Hd.out Ha.out m1 m2 m3).mono ?_
  rintro e w2 ⟨A2, k2, rfl, s2, hb2, _⟩
  have b2 := Lib.hid (b1.out.trans (hb2.mono b1.out.size))
  have S1 := Lib.hid (S1.out.bel hb2)
  have S2 := Lib.hid s2
  clear s2 hb2
  have ho := outLen_le lim nr nd na r d a
  go_wp2_with fail
  refine (same_any A1 A2 _ _ k1 k2 _ _ w2 S1.out S2.out (by omega) (by omega)).mono ?_
  rw [sameB_self]
  rintro e w3 ⟨rfl, hb3⟩
  have b3 := Lib.hid (b2.out.trans (hb3.mono b2.out.size))
  clear hb3
  go_wp2_with fail
  refine (awake_any w3).mono ?_
  rintro e w4 ⟨rfl, hb4⟩
  have b4 := Lib.hid (b3.out.trans (hb4.mono b3.out.size))
  clear hb4
  go_wp2_with fail
  go_ret
  exact ⟨rfl, b4.out⟩

theorem law4_any (lim : Int) (A : Option Addr) (n c : Nat) (r d a : Nat → Int) (x y : Int) (w : World) (hr : SlR w A n r d a) (m1 : n ≤ 9223372036854775807)
   (hx : -9223372036854775808 ≤ x ∧ x ≤ 9223372036854775807) (hy : -9223372036854775808 ≤ y ∧ y ≤ 9223372036854775807) :
    Calls Try.prog 4 #[.int .i64 lim, .slice A n c, .int .i64 x, .int .i64 y] w fun e w' => e = .returned (.bool true) ∧ Below w.heap.size w w' := by
  have Hr := Lib.hid hr
  clear hr
  by_cases h1 : 300 < n
  · go_enter Try.func4, Try.ntmps4
    go_wp2_with fail
    refine (awake_any w).mono ?_
    rintro e w1 ⟨rfl, hb⟩
    go_wp2_with fail
    go_ret
    exact ⟨rfl, hb⟩
  have m2 : n ≤ 300 := by omega
  clear h1
  go_enter Try.func4, Try.ntmps4
  go_wp2_with fail
  refine (lists_any A n c r d a w Hr.out m2).mono ?_
  rintro e w1 ⟨A1, c1, A2, c2, A3, c3, rfl, s1, s2, s3, e1, e2, e3, hb1⟩
  have b1 := Lib.hid hb1
  have S1 := Lib.hid s1
  have S2 := Lib.hid s2
  have S3 := Lib.hid s3
  clear s1 s2 s3 e1 e2 e3 hb1
  go_wp2_with fail
  refine (ppaid_any lim A1 A2 A3 n n n c1 c2 c3 r d a x y w1 S1.out S2.out S3.out m1 m1 m1 hx hy).mono ?_
  rintro e w2 ⟨rfl, hb⟩
  have b2 := Lib.hid (b1.out.trans (hb.mono b1.out.size))
  have S1 := Lib.hid (S1.out.bel hb)
  have S2 := Lib.hid (S2.out.bel hb)
  have S3 := Lib.hid (S3.out.bel hb)
  clear hb
  go_wp2_with fail
  refine (rpaid_any lim A1 A2 A3 n n n c1 c2 c3 r d a x y w2 S1.out S2.out S3.out m1 m1 m1).mono ?_
  rintro e w3 ⟨rfl, hb⟩
  have b3 := Lib.hid (b2.out.trans (hb.mono b2.out.size))
  have S1 := Lib.hid (S1.out.bel hb)
  have S2 := Lib.hid (S2.out.bel hb)
  have S3 := Lib.hid (S3.out.bel hb)
  clear hb
  go_wp2_with fail
  refine (pleft_any lim A1 A2 A3 n n n c1 c2 c3 r d a x y w3 S1.out S2.out S3.out m1 m1 m1 hx hy).mono ?_
  rintro e w4 ⟨rfl, hb⟩
  have b4 := Lib.hid (b3.out.trans (hb.mono b3.out.size))
  have S1 := Lib.hid (S1.out.bel hb)
  have S2 := Lib.hid (S2.out.bel hb)
  have S3 := Lib.hid (S3.out.bel hb)
  clear hb
  go_wp2_with fail
  refine (rleft_any lim A1 A2 A3 n n n c1 c2 c3 r d a x y w4 S1.out S2.out S3.out m1 m1 m1).mono ?_
  rintro e w5 ⟨rfl, hb⟩
  have b5 := Lib.hid (b4.out.trans (hb.mono b4.out.size))
  clear hb
  go_wp2_with fail
  refine (awake_any w5).mono ?_
  rintro e w6 ⟨rfl, hb⟩
  have b6 := Lib.hid (b5.out.trans (hb.mono b5.out.size))
  clear hb
  go_wp2_with fail
  go_ret
  exact ⟨rfl, b6.out⟩
end Go.Proofs.Ytfdidnfkcmbgiaa
