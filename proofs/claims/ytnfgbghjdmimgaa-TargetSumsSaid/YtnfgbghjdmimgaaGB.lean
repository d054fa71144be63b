/- The walks of Costs and Best, of the program and of the reference. -/
import Derived.Test.YtnfgbghjdmimgaaGA
import Derived.Test.YtnfgbghjdmimgaaMade
namespace Go.Proofs.Ytnfgbghjdmimgaa
open Go.RowKit
set_option maxHeartbeats 4000000
set_option maxRecDepth 100000
set_option linter.unusedVariables false
theorem isInt3 : IsInt Try.prog 3 := by unfold IsInt; kernel_rfl

/-- a list of ints that was returned -/
def ListAt (w0 w' : World) (v : Value) (n : Nat) (f : Nat → Int) : Prop := ∃ A c, v = .slice A n c ∧ SlI w' A n f ∧ n ≤ 1000000 ∧ n ≤ c
theorem ListAt.nil {w0 w' : World} {f : Nat → Int} : ListAt w0 w' (.slice none 0 0) 0 f := ⟨none, 0, rfl, SlI.nil, by omega, Nat.le_refl _⟩

/-- where the loops of Costs stand -/
def CostAt (w0 wr : World) (d : Int) (f : Cs) (m k j : Nat) : Prop :=
  OwnI wr w0.heap.size 3 (.slice (some ⟨w0.heap.size, 0, none⟩) m m) m (fun l => if l < j then sumC d f (k + 1) l else sumC d f k l) ∧ Below w0.heap.size w0 wr ∧ (0 < j → errC (f k).1 (f k).2 = 0) ∧ scanC f k = 0
theorem CostAt.start {w0 w1 : World} {d : Int} {f : Cs} {m : Nat} (h : OwnI w1 w0.heap.size 3 (.slice (some ⟨w0.heap.size, 0, none⟩) m m) m (fun _ => 0)) (hb : Below w0.heap.size w0 w1) : CostAt w0 w1 d f m 0 0 :=
  ⟨h.congr (fun i hi => by rw [if_neg (by omega)]; rfl), hb, fun h => by omega, rfl⟩
theorem CostAt.call {w0 wr w2 : World} {d : Int} {f : Cs} {m k j : Nat} (h : CostAt w0 wr d f m k j) (hb : Below wr.heap.size wr w2) : CostAt w0 w2 d f m k j :=
  ⟨h.1.bel hb, h.2.1.trans (hb.mono h.2.1.size), h.2.2⟩
theorem CostAt.old {w0 wr : World} {d : Int} {f : Cs} {m k j : Nat} (h : CostAt w0 wr d f m k j) (hj : j < m) : wr.cell? ⟨w0.heap.size, j, none⟩ = some (.int .i64 (sumC d f k j)) := by
  have := h.1.read j hj
  rw [if_neg (by omega)] at this
  exact this
theorem CostAt.thaw {w0 wr : World} {d : Int} {f : Cs} {m k j : Nat} (h : CostAt w0 wr d f m k j) : wr.frozen? ⟨w0.heap.size, j, none⟩ = false := h.1.thaw j
theorem CostAt.put {w0 wr : World} {d : Int} {f : Cs} {m k j : Nat} (h : CostAt w0 wr d f m k j) (he : errC (f k).1 (f k).2 = 0) {y : Int} (hy : y = sumC d f k j + lostR d (f k).1 (f k).2 j) :
    CostAt w0 (wr.setCell ⟨w0.heap.size, j, none⟩ (.int .i64 y)) d f m k (j + 1) := by
  refine ⟨(h.1.store j y).congr (fun i hi => ?_), h.2.1.setCell (Nat.le_refl _) _, fun _ => he, h.2.2.2⟩
  by_cases hij : i = j
  · subst hij; rw [if_pos rfl, if_pos (by omega), hy]; rfl
  · rw [if_neg hij]
    by_cases hl : i < j
    · rw [if_pos hl, if_pos (by omega)]
    · rw [if_neg hl, if_neg (by omega)]
theorem CostAt.next {w0 wr : World} {d : Int} {f : Cs} {m k : Nat} (h : CostAt w0 wr d f m k m) (hm : 0 < m) : CostAt w0 wr d f m (k + 1) 0 :=
  ⟨h.1.congr (fun i hi => by rw [if_pos hi, if_neg (by omega)]), h.2.1, fun h => by omega, scanC_next f k h.2.2.2 (h.2.2.1 hm)⟩
theorem CostAt.end_ {w0 wr : World} {d : Int} {f : Cs} {m k : Nat} (h : CostAt w0 wr d f m k 0) : OwnI wr w0.heap.size 3 (.slice (some ⟨w0.heap.size, 0, none⟩) m m) m (costF d k f) :=
  h.1.congr (fun i hi => by rw [if_neg (by omega)]; rfl)
def CostsPost (w0 : World) (d : Int) (n : Nat) (f : Cs) (e : Ending) (w' : World) : Prop :=
  (∃ v, e = .returned (.tuple #[v, .int .i64 (codeCs d n f)]) ∧ ListAt w0 w' v (lenCs d n f) (costF d n f)) ∧ Below w0.heap.size w0 w'

theorem costs14 (A : Option Addr) (n c : Nat) (f : Cs) (d : Int) (w : World) (hr : Elems RowV w A n f) (m1 : n ≤ 9223372036854775807) :
    Calls Try.prog 14 #[.int .i64 d, .slice A n c] w (CostsPost w d n f) := by
  have Hr := Lib.hid hr
  clear hr
  by_cases hd : d < 1 ∨ 32 < d
  · have h1 := Lib.hid (show codeCs d n f = 1 from if_pos hd)
    have h2 := Lib.hid (show lenCs d n f = 0 by unfold lenCs; rw [h1.out]; rfl)
    rcases (show d < 1 ∨ (1 ≤ d ∧ 32 < d) by omega) with h | ⟨h, h'⟩
    all_goals
      clear hd
      go_enter Try.func14, Try.ntmps14
      go_wp2_with fail
      go_ret2
      exact ⟨⟨_, by rw [h1.out]; rfl, by rw [h2.out]; exact ListAt.nil⟩, Below.refl _ _⟩
  have d1 : 1 ≤ d := by omega
  have d2 : d ≤ 32 := by omega
  by_cases hn : 32 < n
  · have h1 := Lib.hid (show codeCs d n f = 8 by unfold codeCs; rw [if_neg hd, if_pos hn])
    have h2 := Lib.hid (show lenCs d n f = 0 by unfold lenCs; rw [h1.out]; rfl)
    clear hd
    go_enter Try.func14, Try.ntmps14
    go_wp2_with fail
    go_ret2
    exact ⟨⟨_, by rw [h1.out]; rfl, by rw [h2.out]; exact ListAt.nil⟩, Below.refl _ _⟩
  have Hcode := Lib.hid (show codeCs d n f = scanC f n by unfold codeCs; rw [if_neg hd, if_neg hn])
  clear hd
  obtain ⟨D, rfl⟩ : ∃ D : Nat, d = D := ⟨d.toNat, by omega⟩
  have hw : IntKind.i64.wrap ((D : Int) + 1) = D + 1 := IntWalk.i64_in _ (by omega)
  have hn2 : n ≤ 32 := by omega
  go_enter Try.func14, Try.ntmps14
  go_wp2_with (refine mk_int _ rfl (.tmp 22) (.tmp 22) 22 rfl Try.underlying22 isInt3 (B := w.heap.size) (D + 1) rfl rfl (by omega) (by exact Nat.le_refl _) ?_; intro w1 hown hbel)
  have Hs := Lib.hid (CostAt.start (d := D) (f := f) hown hbel)
  clear hown hbel
  go_wp2_with fail
  go_loopw [26] (fun i wr => ∃ k : Nat, k ≤ n ∧ i = .int .i64 k ∧ Hid (CostAt w wr D f (D + 1) k 0)) (fun i _ => n - (intOf i).toNat)
  case atStart => exact ⟨0, by omega, rfl, Hs⟩
  case round =>
    obtain ⟨k, hk, rfl, Ha⟩ := hrel
    by_cases hlt : k < n
    · obtain ⟨b, o, u, rfl, hbw, z0, A2, c2, rfl, hsl, m2⟩ := Hr.out.at_ k hlt
      obtain ⟨L, hL⟩ : ∃ L, (f k).1 = L := ⟨_, rfl⟩
      obtain ⟨g, hg⟩ : ∃ g, (f k).2 = g := ⟨_, rfl⟩
      rw [hL] at z0 hsl m2
      rw [hg] at hsl
      have HL := Lib.hid hL
      have Hg := Lib.hid hg
      have Hk := Lib.hid (fun (wi : World) (hb : Below w.heap.size w wi) => And.intro ((hb.cell (p := ⟨b, o + k, none⟩) hbw).trans z0) (hsl.bel hb))
      have z := (Hk.out wr Ha.out.2.1).1
      clear hsl hL hg z0
      go_wp2_with fail
      obtain ⟨wo, hwo⟩ : ∃ wo, wo = wr := ⟨_, rfl⟩
      subst hwo
      go_loopw [32] (fun i wi => ∃ j : Nat, j ≤ D + 1 ∧ i = .int .i64 j ∧ Hid (CostAt w wi D f (D + 1) k j) ∧ Hid (Below wo.heap.size wo wi ∨ True)) (fun i _ => D + 1 - (intOf i).toNat)
      case atStart => exact ⟨0, by omega, rfl, Ha, Lib.hid (.inr trivial)⟩
      case round =>
        obtain ⟨j, hj, rfl, Hi, _⟩ := hrel
        by_cases hjl : j < D + 1
        · have hjd : (j : Int) ≤ D := by omega
          have hzr := Hk.out wr Hi.out.2.1
          have Hsl2 := Lib.hid hzr.2
          have z2 := hzr.1
          clear hzr
          have hcode := codeLs_in (d := D) (l := j) (n := L) (g := g) d1 d2 (by omega) hjd
          by_cases he : errC L g = 0
          · have HC := Lib.hid (hcode.trans he)
            have HV := Lib.hid (show valLs D j L g = lostR D L g j from if_pos HC.out)
            have He := Lib.hid he
            have hb1 := lost_bd D L g j
            have hL64 := (errC_zero he).1
            have hb2 := sumC_bd D f j k Hi.out.2.2.2
            obtain ⟨X, hX⟩ : ∃ X, lostR D L g j = X := ⟨_, rfl⟩
            obtain ⟨Y, hY⟩ : ∃ Y, sumC D f k j = Y := ⟨_, rfl⟩
            rw [hX] at hb1
            rw [hY] at hb2
            have HX := Lib.hid hX
            have HY := Lib.hid hY
            have hw2 : IntKind.i64.wrap (Y + X) = Y + X := IntWalk.i64_in _ (by omega)
            clear hcode he hX hY
            go_wp2_with fail
            refine (lost11 A2 L c2 g D j wr Hsl2.out m2).mono ?_
            rw [HC.out, HV.out, HX.out]
            rintro e w2 ⟨rfl, hb⟩
            have Hi2 := Lib.hid (Hi.out.call hb)
            clear hb
            have y0 := Hi2.out.old (by omega)
            rw [HY.out] at y0
            have y1 := Hi2.out.thaw
            go_wp2_with fail
            go_roundw
            case rel => exact ⟨j + 1, by omega, by go_num, Lib.hid (Hi2.out.put (by rw [HL.out, Hg.out]; exact He.out) (by rw [HL.out, Hg.out, HX.out, HY.out])), Lib.hid (.inr trivial)⟩
            case measure => simp [intOf]; omega
          · have h1 := Lib.hid (show codeCs D n f = errC L g by rw [Hcode.out]; have := scanC_hit f k n hlt Hi.out.2.2.2 (by rw [HL.out, Hg.out]; exact he); rw [HL.out, Hg.out] at this; exact this)
            have h2 := Lib.hid (show lenCs D n f = 0 by unfold lenCs; rw [h1.out, if_neg he])
            have heb : (errC L g != 0) = true := by simpa using he
            have HC := Lib.hid hcode
            clear hcode he
            go_wp2_with fail
            refine (lost11 A2 L c2 g D j wr Hsl2.out m2).mono ?_
            rw [HC.out]
            rintro e w2 ⟨rfl, hb⟩
            have Hi2 := Lib.hid (Hi.out.call hb)
            clear hb
            go_wp2_with fail
            go_ret2
            exact ⟨⟨_, by rw [h1.out]; rfl, by rw [h2.out]; exact ListAt.nil⟩, Hi2.out.2.1⟩
        · have hjm : j = D + 1 := by omega
          subst hjm
          go_wp2_with fail
          go_roundw
          case rel => exact ⟨k + 1, by omega, by go_num, Lib.hid (Hi.out.next (by omega))⟩
          case measure => simp [intOf]; omega
    · have hkn : k = n := by omega
      subst hkn
      have h1 := Lib.hid (show codeCs D k f = 0 by rw [Hcode.out]; exact Ha.out.2.2.2)
      have h2 := Lib.hid (show lenCs D k f = D + 1 by unfold lenCs; rw [if_pos h1.out]; rfl)
      go_wp2_with fail
      go_ret2
      exact ⟨⟨_, by rw [h1.out]; rfl, by rw [h2.out]; exact ⟨_, _, rfl, Ha.out.end_.sl, by omega, Nat.le_refl _⟩⟩, Ha.out.2.1⟩

theorem costs15 (A : Option Addr) (n c : Nat) (f : Cs) (d : Int) (w : World) (hr : Elems RowV w A n f) (m1 : n ≤ 9223372036854775807) :
    Calls Try.prog 15 #[.int .i64 d, .slice A n c] w (CostsPost w d n f) := by
  have Hr := Lib.hid hr
  clear hr
  by_cases hd : d < 1 ∨ 32 < d
  · have h1 := Lib.hid (show codeCs d n f = 1 from if_pos hd)
    have h2 := Lib.hid (show lenCs d n f = 0 by unfold lenCs; rw [h1.out]; rfl)
    rcases (show d < 1 ∨ (1 ≤ d ∧ 32 < d) by omega) with h | ⟨h, h'⟩
    all_goals
      clear hd
      go_enter Try.func15, Try.ntmps15
      go_wp2_with fail
      go_ret2
      exact ⟨⟨_, by rw [h1.out]; rfl, by rw [h2.out]; exact ListAt.nil⟩, Below.refl _ _⟩
  have d1 : 1 ≤ d := by omega
  have d2 : d ≤ 32 := by omega
  by_cases hn : 32 < n
  · have h1 := Lib.hid (show codeCs d n f = 8 by unfold codeCs; rw [if_neg hd, if_pos hn])
    have h2 := Lib.hid (show lenCs d n f = 0 by unfold lenCs; rw [h1.out]; rfl)
    clear hd
    go_enter Try.func15, Try.ntmps15
    go_wp2_with fail
    go_ret2
    exact ⟨⟨_, by rw [h1.out]; rfl, by rw [h2.out]; exact ListAt.nil⟩, Below.refl _ _⟩
  have Hcode := Lib.hid (show codeCs d n f = scanC f n by unfold codeCs; rw [if_neg hd, if_neg hn])
  clear hd
  obtain ⟨D, rfl⟩ : ∃ D : Nat, d = D := ⟨d.toNat, by omega⟩
  have hw : IntKind.i64.wrap ((D : Int) + 1) = D + 1 := IntWalk.i64_in _ (by omega)
  have hn2 : n ≤ 32 := by omega
  go_enter Try.func15, Try.ntmps15
  go_wp2_with (refine mk_int _ rfl (.tmp 21) (.tmp 21) 22 rfl Try.underlying22 isInt3 (B := w.heap.size) (D + 1) rfl rfl (by omega) (by exact Nat.le_refl _) ?_; intro w1 hown hbel)
  have Hs := Lib.hid (CostAt.start (d := D) (f := f) hown hbel)
  clear hown hbel
  go_wp2_with fail
  go_loopw [7] (fun i wr => ∃ k : Nat, k ≤ n ∧ i = .int .i64 k ∧ Hid (CostAt w wr D f (D + 1) k 0)) (fun i _ => n - (intOf i).toNat)
  case atStart => exact ⟨0, by omega, rfl, Hs⟩
  case round =>
    obtain ⟨k, hk, rfl, Ha⟩ := hrel
    by_cases hlt : k < n
    · obtain ⟨b, o, u, rfl, hbw, z0, A2, c2, rfl, hsl, m2⟩ := Hr.out.at_ k hlt
      obtain ⟨L, hL⟩ : ∃ L, (f k).1 = L := ⟨_, rfl⟩
      obtain ⟨g, hg⟩ : ∃ g, (f k).2 = g := ⟨_, rfl⟩
      rw [hL] at z0 hsl m2
      rw [hg] at hsl
      have HL := Lib.hid hL
      have Hg := Lib.hid hg
      have Hk := Lib.hid (fun (wi : World) (hb : Below w.heap.size w wi) => And.intro ((hb.cell (p := ⟨b, o + k, none⟩) hbw).trans z0) (hsl.bel hb))
      have z := (Hk.out wr Ha.out.2.1).1
      clear hsl hL hg z0
      go_wp2_with fail
      obtain ⟨wo, hwo⟩ : ∃ wo, wo = wr := ⟨_, rfl⟩
      subst hwo
      go_loopw [8] (fun i wi => ∃ j : Nat, j ≤ D + 1 ∧ i = .int .i64 j ∧ Hid (CostAt w wi D f (D + 1) k j) ∧ Hid (Below wo.heap.size wo wi ∨ True)) (fun i _ => D + 1 - (intOf i).toNat)
      case atStart => exact ⟨0, by omega, rfl, Ha, Lib.hid (.inr trivial)⟩
      case round =>
        obtain ⟨j, hj, rfl, Hi, _⟩ := hrel
        by_cases hjl : j < D + 1
        · have hjd : (j : Int) ≤ D := by omega
          have hzr := Hk.out wr Hi.out.2.1
          have Hsl2 := Lib.hid hzr.2
          have z2 := hzr.1
          clear hzr
          have hcode := codeLs_in (d := D) (l := j) (n := L) (g := g) d1 d2 (by omega) hjd
          by_cases he : errC L g = 0
          · have HC := Lib.hid (hcode.trans he)
            have HV := Lib.hid (show valLs D j L g = lostR D L g j from if_pos HC.out)
            have He := Lib.hid he
            have hb1 := lost_bd D L g j
            have hL64 := (errC_zero he).1
            have hb2 := sumC_bd D f j k Hi.out.2.2.2
            obtain ⟨X, hX⟩ : ∃ X, lostR D L g j = X := ⟨_, rfl⟩
            obtain ⟨Y, hY⟩ : ∃ Y, sumC D f k j = Y := ⟨_, rfl⟩
            rw [hX] at hb1
            rw [hY] at hb2
            have HX := Lib.hid hX
            have HY := Lib.hid hY
            have hw2 : IntKind.i64.wrap (Y + X) = Y + X := IntWalk.i64_in _ (by omega)
            clear hcode he hX hY
            go_wp2_with fail
            refine (lost12 A2 L c2 g D j wr Hsl2.out m2).mono ?_
            rw [HC.out, HV.out, HX.out]
            rintro e w2 ⟨rfl, hb⟩
            have Hi2 := Lib.hid (Hi.out.call hb)
            clear hb
            have y0 := Hi2.out.old (by omega)
            rw [HY.out] at y0
            have y1 := Hi2.out.thaw
            go_wp2_with fail
            go_roundw
            case rel => exact ⟨j + 1, by omega, by go_num, Lib.hid (Hi2.out.put (by rw [HL.out, Hg.out]; exact He.out) (by rw [HL.out, Hg.out, HX.out, HY.out])), Lib.hid (.inr trivial)⟩
            case measure => simp [intOf]; omega
          · have h1 := Lib.hid (show codeCs D n f = errC L g by rw [Hcode.out]; have := scanC_hit f k n hlt Hi.out.2.2.2 (by rw [HL.out, Hg.out]; exact he); rw [HL.out, Hg.out] at this; exact this)
            have h2 := Lib.hid (show lenCs D n f = 0 by unfold lenCs; rw [h1.out, if_neg he])
            have heb : (errC L g != 0) = true := by simpa using he
            have HC := Lib.hid hcode
            clear hcode he
            go_wp2_with fail
            refine (lost12 A2 L c2 g D j wr Hsl2.out m2).mono ?_
            rw [HC.out]
            rintro e w2 ⟨rfl, hb⟩
            have Hi2 := Lib.hid (Hi.out.call hb)
            clear hb
            go_wp2_with fail
            go_ret2
            exact ⟨⟨_, by rw [h1.out]; rfl, by rw [h2.out]; exact ListAt.nil⟩, Hi2.out.2.1⟩
        · have hjm : j = D + 1 := by omega
          subst hjm
          go_wp2_with fail
          go_roundw
          case rel => exact ⟨k + 1, by omega, by go_num, Lib.hid (Hi.out.next (by omega))⟩
          case measure => simp [intOf]; omega
    · have hkn : k = n := by omega
      subst hkn
      have h1 := Lib.hid (show codeCs D k f = 0 by rw [Hcode.out]; exact Ha.out.2.2.2)
      have h2 := Lib.hid (show lenCs D k f = D + 1 by unfold lenCs; rw [if_pos h1.out]; rfl)
      go_wp2_with fail
      go_ret2
      exact ⟨⟨_, by rw [h1.out]; rfl, by rw [h2.out]; exact ⟨_, _, rfl, Ha.out.end_.sl, by omega, Nat.le_refl _⟩⟩, Ha.out.2.1⟩
end Go.Proofs.Ytnfgbghjdmimgaa
