/- The walks of the laws' own do and played. -/
import Derived.Test.YtdallemhhdfemaaDK
import Derived.Test.YtdallemhhdfemaaOpen
namespace Go.Proofs.Ytdallemhhdfemaa
open Go.RowKit
set_option maxHeartbeats 4000000
set_option maxRecDepth 100000
set_option linter.unusedVariables false

theorem FlatRd.at_ {w : World} {A : Option Addr} {n k : Nat} {g : Nat → Nat → Int} (h : FlatRd w A n k g) (hn : 0 < n) : ∃ b o, A = some ⟨b, o, none⟩ ∧ b < w.heap.size := by
  obtain ⟨b', o', h1, h2, h3⟩ := h hn
  exact ⟨b', o', h1, h2⟩
theorem FlatRd.bel {w w' : World} {A : Option Addr} {n k : Nat} {g : Nat → Nat → Int} (h : FlatRd w A n k g) (hb : Below w.heap.size w w') : FlatRd w' A n k g := fun hn => by
  obtain ⟨b, o, h1, h2, h3⟩ := h hn
  exact ⟨b, o, h1, Nat.lt_of_lt_of_le h2 hb.size, fun i hi j hj => (hb.cell (p := ⟨b, _, none⟩) h2).trans (h3 i hi j hj)⟩
theorem FlatRd.row {w : World} {b o n : Nat} {g : Nat → Nat → Int} (h : FlatRd w (some ⟨b, o, none⟩) n 3 g) (i : Nat) (hi : i < n) :
    w.cell? ⟨b, o + i * 3, none⟩ = some (.int .i64 (g i 0)) ∧ w.cell? ⟨b, o + i * 3 + 1, none⟩ = some (.int .i64 (g i 1)) ∧ w.cell? ⟨b, o + i * 3 + 2, none⟩ = some (.int .i64 (g i 2)) := by
  obtain ⟨b', o', h1, h2, h3⟩ := h (by omega)
  injection h1 with h1; injection h1 with h4 h5; subst h4 h5
  exact ⟨h3 i hi 0 (by omega), h3 i hi 1 (by omega), h3 i hi 2 (by omega)⟩

/-- a call, of which it is told what it leaves, returns and what error it has -/
def stepD (n : Nat) (D : Dk) (k d b : Int) : Dk := if k = 0 then insD n D d b else if k = 1 then remD n D d else ordD n D d (k != 2)
def stepN (n : Nat) (D : Dk) (k d b : Int) : Int := if k = 1 then remN n D d else 0
def stepE (n : Nat) (D : Dk) (k d b : Int) : Int := if k = 0 then insE n D d b else if k = 1 then remE n D d else canE n d
def playD (n : Nat) (g : Nat → Nat → Int) : Nat → Dk
  | 0 => zeroD
  | k + 1 => stepD n (playD n g k) (g k 0) (g k 1) (g k 2)
theorem LeftAt.box {w w' : World} {o : Obj} {p n : Nat} {D' : Dk} (h : LeftAt (w.alloc o) p n D' w') : LeftAt w p n D' w' :=
  ⟨h.1, ⟨h.2.os, h.2.tape, h.2.output, Nat.le_trans (box_bel w o).size h.2.size, fun k hk hne => (h.2.block k (Nat.lt_of_lt_of_le hk (box_bel w o).size) hne).trans ((box_bel w o).block k hk)⟩⟩

abbrev opV (k d b : Int) : Value := .agg #[.int .i64 k, .int .i64 d, .int .i64 b]
theorem do13 (p n : Nat) (D : Dk) (k d b : Int) (w : World) (h : Sta w p n D) :
    Calls Try.prog 13 #[ptr p, opV k d b] w fun x w' => x = .returned (.tuple #[.int .i64 (stepN n D k d b), .int .i64 (stepE n D k d b)]) ∧ LeftAt w p n (stepD n D k d b) w' := by
  have H := Lib.hid (h.bel (box_bel w (.cells #[.int .i64 k, .int .i64 d, .int .i64 b] 24)))
  clear h
  by_cases h0 : k = 0
  · have HS := Lib.hid (And.intro (show stepD n D k d b = insD n D d b from if_pos h0) (And.intro (show stepN n D k d b = 0 from if_neg (by omega)) (show stepE n D k d b = insE n D d b from if_pos h0)))
    rw [HS.out.1, HS.out.2.1, HS.out.2.2]
    clear HS
    subst h0
    go_enter Try.func13, Try.ntmps13
    go_wp2_with fail
    refine (insert18 p n D d b _ H.out).mono ?_
    rintro x w1 ⟨rfl, hl⟩
    have HL := Lib.hid hl.box
    clear hl
    go_wp2_with fail
    go_ret2
    exact ⟨rfl, HL.out⟩
  · by_cases h1 : k = 1
    · have HS := Lib.hid (And.intro (show stepD n D k d b = remD n D d by unfold stepD; rw [if_neg h0, if_pos h1]) (And.intro (show stepN n D k d b = remN n D d from if_pos h1) (show stepE n D k d b = remE n D d by unfold stepE; rw [if_neg h0, if_pos h1])))
      rw [HS.out.1, HS.out.2.1, HS.out.2.2]
      clear HS h0
      subst h1
      go_enter Try.func13, Try.ntmps13
      go_wp2_with fail
      refine (remove15 p n D d _ H.out).mono ?_
      rintro x w1 ⟨rfl, hl⟩
      have HL := Lib.hid hl.box
      clear hl
      go_wp2_with fail
      go_ret2
      exact ⟨rfl, HL.out⟩
    · have HS := Lib.hid (And.intro (show stepD n D k d b = ordD n D d (k != 2) by unfold stepD; rw [if_neg h0, if_neg h1]) (And.intro (show stepN n D k d b = 0 from if_neg h1) (show stepE n D k d b = canE n d by unfold stepE; rw [if_neg h0, if_neg h1])))
      rw [HS.out.1, HS.out.2.1, HS.out.2.2]
      clear HS
      have q0 : (k == 0) = false := by simpa using h0
      have q1 : (k == 1) = false := by simpa using h1
      clear h0 h1
      go_enter Try.func13, Try.ntmps13
      go_wp2_with fail
      refine (order19 p n D d (k != 2) _ H.out).mono ?_
      rintro x w1 ⟨rfl, hl⟩
      have HL := Lib.hid hl.box
      clear hl
      go_wp2_with fail
      go_ret2
      exact ⟨rfl, HL.out⟩

theorem played8_bad (d : Int) (A : Option Addr) (m c : Nat) (w : World) (h : d < 1 ∨ 32 < d) : Calls Try.prog 8 #[.int .i64 d, .slice A m c] w fun x w' => x = .returned (.pointer none) ∧ w = w' := by
  have H := Lib.hid h
  clear h
  go_enter Try.func8, Try.ntmps8
  go_wp2_with fail
  refine (new22_bad d _ H.out).mono ?_
  rintro x w1 ⟨rfl, rfl⟩
  go_wp2_with fail
  go_ret
  exact ⟨rfl, rfl⟩

theorem played8 (n p : Nat) (A : Option Addr) (m c : Nat) (g : Nat → Nat → Int) (w : World) (hp : w.heap.size = p) (h1 : 1 ≤ n) (h2 : n ≤ 32) (hr : FlatRd w A m 3 g) (m1 : m ≤ 9223372036854775807) :
    Calls Try.prog 8 #[.int .i64 n, .slice A m c] w fun x w' => x = .returned (ptr p) ∧ At w w' p n (playD n g m) := by
  have Hr := Lib.hid hr
  have HP := Lib.hid hp
  clear hr hp
  go_enter Try.func8, Try.ntmps8
  go_wp2_with fail
  refine (new22 n w h1 h2).mono ?_
  rintro x w1 ⟨rfl, hs, hb⟩
  have A1 := Lib.hid (At.of_new hs hb)
  rw [HP.out] at A1 ⊢
  clear hs hb
  go_wp2_with fail
  go_loopw [7] (fun i wr => ∃ k : Nat, k ≤ m ∧ i = .int .i64 k ∧ Hid (At w wr p n (playD n g k))) (fun i _ => m - (intOf i).toNat)
  case atStart => exact ⟨0, by omega, rfl, A1⟩
  case round =>
    obtain ⟨k, hk, rfl, Hb⟩ := hrel
    by_cases hlt : k < m
    case neg =>
      have hkm : k = m := by omega
      subst hkm
      have hltI : ¬ (k : Int) < (k : Int) := by omega
      go_wp2_with fail
      go_ret
      exact ⟨rfl, Hb.out⟩
    have HR := Lib.hid (Hr.out.bel Hb.out.bel)
    obtain ⟨b, o, rfl, hbw⟩ := HR.out.at_ (by omega)
    obtain ⟨r0, r1, r2⟩ := HR.out.row k hlt
    have hltI : (k : Int) < (m : Int) := by omega
    have HN := Lib.hid (show playD n g (k + 1) = stepD n (playD n g k) (g k 0) (g k 1) (g k 2) from rfl)
    go_wp2_with fail
    refine (do13 p n (playD n g k) (g k 0) (g k 1) (g k 2) _ Hb.out.sta).mono ?_
    rintro x w2 ⟨rfl, hl⟩
    have A2 := Lib.hid (Hb.out.left hl)
    clear hl Hb HR hbw r0 r1 r2
    go_wp2_with fail
    go_roundw
    case rel => exact ⟨k + 1, by omega, by go_num, by rw [HN.out]; exact A2⟩
    case measure => simp [intOf]; omega
end Go.Proofs.Ytdallemhhdfemaa
