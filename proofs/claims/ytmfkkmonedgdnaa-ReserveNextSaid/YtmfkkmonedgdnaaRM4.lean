/- Plain mathematics of the laws ReserveOnce, ReserveKeeps, ReserveShorter. No program in sight. -/
import Derived.Test.YtmfkkmonedgdnaaRM2
namespace Go.Proofs.Ytmfkkmonedgdnaa
set_option linter.unusedVariables false

theorem hitB_iff {g : Nat → Nat → Int} {bike t : Int} {i : Nat} : hitB g bike t i = true ↔ (g i 1 = bike ∧ g i 3 ≤ t ∧ t < g i 4) := by unfold hitB; exact decide_eq_true_iff
/-- two that hold at one moment, of one bicycle or for one rider, are one -/
theorem one_at {n : Nat} {g : Nat → Nat → Int} (h : OkH n g) {i k : Nat} (hi : i < n) (hk : k < n) {t : Int} (h1 : g i 3 ≤ t ∧ t < g i 4) (h2 : g k 3 ≤ t ∧ t < g k 4) (hs : g i 1 = g k 1 ∨ g i 2 = g k 2) : i = k := by
  by_cases hlt : i < k
  · exact absurd ⟨hs, by omega, by omega⟩ (h.col i k hlt hk)
  · by_cases hgt : k < i
    · exact absurd ⟨hs.imp Eq.symm Eq.symm, by omega, by omega⟩ (h.col k i hgt hi)
    · omega
/-- the only one that holds is found -/
theorem by_unique {n p : Nat} {g : Nat → Nat → Int} {bike t : Int} (hp : p < n) (h : hitB g bike t p = true) (hu : ∀ q, q < n → hitB g bike t q = true → q = p) : byR n g bike t = g p 2 ∧ byF n g bike t = true :=
  by_hit (fun i hi => by
    cases hq : hitB g bike t i with
    | false => rfl
    | true => have := hu i (by omega) hq; omega) h hp
theorem by_nobody {n : Nat} {g : Nat → Nat → Int} {bike t : Int} (hu : ∀ q, q < n → hitB g bike t q ≠ true) : byR n g bike t = 0 ∧ byF n g bike t = false :=
  by_none (fun i hi => by simpa using hu i hi)
theorem by_congr {n : Nat} {g g' : Nat → Nat → Int} {bike t : Int} (h : ∀ i, i < n → ∀ j, j < 5 → g i j = g' i j) : byR n g bike t = byR n g' bike t ∧ byF n g bike t = byF n g' bike t := by
  have hh : ∀ i, i < n → hitB g bike t i = hitB g' bike t i := fun i hi => by
    unfold hitB; rw [h i hi 1 (by omega), h i hi 3 (by omega), h i hi 4 (by omega)]
  rcases firstI_cases (hitB g bike t) n with ⟨h1, h2⟩ | ⟨h1, h2, h3⟩
  · have a := by_none h2
    have b := by_none (n := n) (g := g') (bike := bike) (t := t) (fun i hi => by rw [← hh i hi]; exact h2 i hi)
    rw [a.1, a.2, b.1, b.2]; exact ⟨rfl, rfl⟩
  · have a := by_hit h3 h2 h1
    have b := by_hit (g := g') (bike := bike) (t := t) (fun i hi => by rw [← hh i (by omega)]; exact h3 i hi) (by rw [← hh _ h1]; exact h2) h1
    rw [a.1, a.2, b.1, b.2, h _ h1 2 (by omega)]; exact ⟨rfl, rfl⟩

/-- law 6: whoever holds is found -/
theorem once_by {n : Nat} {g : Nat → Nat → Int} (h : OkH n g) {i : Nat} (hi : i < n) {t : Int} (h1 : g i 3 ≤ t) (h2 : t < g i 4) : byR n g (g i 1) t = g i 2 ∧ byF n g (g i 1) t = true :=
  by_unique hi (hitB_t ⟨rfl, h1, h2⟩) (fun q hq hh => by
    have := hitB_iff.1 hh
    exact one_at h hq hi ⟨this.2.1, this.2.2⟩ ⟨h1, h2⟩ (.inl this.1))

/-- law 7 -/
theorem mkE_ok {n : Nat} {g : Nat → Nat → Int} {a b d e f : Int} (h : mkE n g a b d e f = 0) : OkH n g ∧ OkH (n + 1) (addG n g a b d e f) := by
  unfold mkE at h
  split at h
  · rename_i h1; exact ⟨chkH_ok h1, chkH_ok h⟩
  · rename_i h1; exact absurd h h1
theorem add_old {n : Nat} {g : Nat → Nat → Int} {a b d e f : Int} {i j : Nat} (hi : i < n) : addG n g a b d e f i j = g i j := if_pos hi
theorem add_new {n : Nat} {g : Nat → Nat → Int} {a b d e f : Int} : addG n g a b d e f n 0 = a ∧ addG n g a b d e f n 1 = b ∧ addG n g a b d e f n 2 = d ∧ addG n g a b d e f n 3 = e ∧ addG n g a b d e f n 4 = f := by
  unfold addG; simp
theorem keeps_t {n : Nat} {g : Nat → Nat → Int} {a b d e f t : Int} (h : OkH (n + 1) (addG n g a b d e f)) (h1 : e ≤ t) (h2 : t < f) : byR (n + 1) (addG n g a b d e f) b t = d ∧ byF (n + 1) (addG n g a b d e f) b t = true := by
  obtain ⟨q0, q1, q2, q3, q4⟩ := add_new (n := n) (g := g) (a := a) (b := b) (d := d) (e := e) (f := f)
  have := once_by h (i := n) (by omega) (t := t) (by rw [q3]; exact h1) (by rw [q4]; exact h2)
  rw [q1, q2] at this
  exact this
theorem keeps_f {n : Nat} {g : Nat → Nat → Int} {a b d e f bike t : Int} (h : ¬ (bike = b ∧ e ≤ t ∧ t < f)) : byR (n + 1) (addG n g a b d e f) bike t = byR n g bike t ∧ byF (n + 1) (addG n g a b d e f) bike t = byF n g bike t := by
  obtain ⟨q0, q1, q2, q3, q4⟩ := add_new (n := n) (g := g) (a := a) (b := b) (d := d) (e := e) (f := f)
  have hl : hitB (addG n g a b d e f) bike t n = false := hitB_f (by rw [q1, q3, q4]; exact fun x => h ⟨x.1.symm, x.2⟩)
  have hc := by_congr (n := n) (g := addG n g a b d e f) (g' := g) (bike := bike) (t := t) (fun i hi j _ => add_old hi)
  rw [← hc.1, ← hc.2]
  rcases firstI_cases (hitB (addG n g a b d e f) bike t) n with ⟨h1, h2⟩ | ⟨h1, h2, h3⟩
  · have x := by_none h2
    have y := by_none (n := n + 1) (g := addG n g a b d e f) (bike := bike) (t := t) (fun i hi => by
      by_cases hin : i = n
      · subst hin; exact hl
      · exact h2 i (by omega))
    rw [x.1, x.2, y.1, y.2]; exact ⟨rfl, rfl⟩
  · have x := by_hit h3 h2 h1
    have y := by_hit (n := n + 1) h3 h2 (by omega)
    rw [x.1, x.2, y.1, y.2]; exact ⟨rfl, rfl⟩
theorem last_new {n : Nat} {g : Nat → Nat → Int} {a b d e f : Int} : lastI (idB (addG n g a b d e f) a) (n + 1) = n := by
  obtain ⟨q0, _⟩ := add_new (n := n) (g := g) (a := a) (b := b) (d := d) (e := e) (f := f)
  show (if idB (addG n g a b d e f) a n = true then (n : Int) else _) = n
  rw [if_pos (by unfold idB; rw [q0]; simp)]
theorem keeps_end {n : Nat} {g : Nat → Nat → Int} {a b d e f : Int} (h : OkH (n + 1) (addG n g a b d e f)) : endE (n + 1) (addG n g a b d e f) a e = 0 ∧ addG n g a b d e f (lastI (idB (addG n g a b d e f) a) (n + 1)).toNat 3 = e := by
  obtain ⟨q0, q1, q2, q3, q4⟩ := add_new (n := n) (g := g) (a := a) (b := b) (d := d) (e := e) (f := f)
  have hr := h.rng n (by omega)
  unfold rngG rngP at hr
  rw [q3, q4] at hr
  have hn : ((n : Int)).toNat = n := Int.toNat_natCast n
  refine ⟨?_, by rw [last_new, hn]; exact q3⟩
  unfold endE
  rw [if_pos (chkH_mk h), last_new, if_neg (by omega), if_neg (by omega), hn, q4, if_neg (by omega)]
theorem cut_add {n : Nat} {g : Nat → Nat → Int} {a b d e f : Int} {i : Nat} (hi : i < n) : eqRow (cutG n (addG n g a b d e f)) g i := by
  unfold eqRow cutG
  simp only [hi, if_true, add_old]
  exact ⟨trivial, trivial, trivial, trivial, trivial⟩

theorem scan_ten {n : Nat} {g : Nat → Nat → Int} (h : scanR g n = 10) : False := by
  induction n with
  | zero => cases h
  | succ n ih =>
    have h' : (if scanR g n = 0 then rowE g n else scanR g n) = 10 := h
    split at h'
    · unfold rowE at h'
      split at h'
      · omega
      · split at h'
        · omega
        · split at h' <;> omega
    · exact ih h'
/-- law 8: what End with no error knows -/
theorem endE_ok {n : Nat} {g : Nat → Nat → Int} {id t : Int} (h : endE n g id t = 0) : OkH n g ∧ 0 ≤ t ∧ t ≤ 4294943999 ∧ ∃ k : Nat, (lastI (idB g id) n).toNat = k ∧ k < n ∧ g k 0 = id ∧ t ≤ g k 4 := by
  unfold endE at h
  split at h
  · rename_i h1
    split at h
    · omega
    · rename_i h2
      split at h
      · omega
      · rename_i h3
        split at h
        · omega
        · rename_i h4
          rcases lastI_cases (idB g id) n with ⟨e1, _⟩ | ⟨k, e1, e2, e3, _⟩
          · rw [e1] at h2; omega
          · have hk : (lastI (idB g id) n).toNat = k := by rw [e1]; exact Int.toNat_natCast k
            rw [hk] at h4
            exact ⟨chkH_ok h1, by omega, by omega, k, hk, e2, by simpa [idB] using e3, by omega⟩
  · rename_i h1; exact absurd h h1
theorem to_ok {n k : Nat} {g : Nat → Nat → Int} {t : Int} (h : OkH n g) (hk : k < n) (h1 : g k 3 < t) (h2 : t ≤ g k 4) : OkH n (toG k g t) := by
  have c : ∀ i j, j ≠ 4 → toG k g t i j = g i j := fun i j hj => if_neg (fun x => hj x.2)
  have d : ∀ i, toG k g t i 4 ≤ g i 4 := fun i => by
    unfold toG
    split
    · rename_i hx; rw [hx.1]; exact h2
    · exact Int.le_refl _
  refine ⟨h.len, fun i hi => ?_, fun a b hab hb => ?_, fun a b hab hb hc => ?_⟩
  · have hr := h.rng i hi
    unfold rngG rngP at hr ⊢
    rw [c i 0 (by omega), c i 1 (by omega), c i 2 (by omega), c i 3 (by omega)]
    have := d i
    have h3 : g i 3 < toG k g t i 4 := by
      unfold toG
      split
      · rename_i hx; rw [hx.1]; exact h1
      · exact hr.2.2.2.2.2.2.2.1
    omega
  · rw [c a 0 (by omega), c b 0 (by omega)]; exact h.ids a b hab hb
  · unfold colG colP at hc
    rw [c a 1 (by omega), c a 2 (by omega), c a 3 (by omega), c b 1 (by omega), c b 2 (by omega), c b 3 (by omega)] at hc
    have := d a
    have := d b
    exact h.col a b hab hb ⟨hc.1, by omega, by omega⟩
/-- where the rows of the list without its k-th come from -/
def bk (k i : Nat) : Nat := if i < k then i else i + 1
theorem cut_bk (k : Nat) (g : Nat → Nat → Int) (i j : Nat) : cutG k g i j = g (bk k i) j := by unfold cutG bk; split <;> rfl
theorem cut_ok {n k : Nat} {g : Nat → Nat → Int} (h : OkH n g) (hk : k < n) : OkH (n - 1) (cutG k g) := by
  have hb : ∀ i, i < n - 1 → bk k i < n := fun i hi => by unfold bk; split <;> omega
  have hm : ∀ a b, a < b → bk k a < bk k b := fun a b hab => by unfold bk; split <;> split <;> omega
  refine ⟨by have := h.len; omega, fun i hi => ?_, fun a b hab hb' => ?_, fun a b hab hb' => ?_⟩
  · have := h.rng (bk k i) (hb i hi)
    unfold rngG at this ⊢
    rw [cut_bk, cut_bk, cut_bk, cut_bk, cut_bk]; exact this
  · rw [cut_bk, cut_bk]; exact h.ids _ _ (hm a b hab) (hb b hb')
  · have := h.col _ _ (hm a b hab) (hb b hb')
    unfold colG at this ⊢
    rw [cut_bk, cut_bk, cut_bk, cut_bk, cut_bk, cut_bk, cut_bk, cut_bk]; exact this

/-- in the list without its k-th: another one that held is found, and nobody where the k-th held -/
theorem short_cut {n k i : Nat} {g : Nat → Nat → Int} {at_ : Int} (h : OkH n g) (hk : k < n) (hi : i < n) (h1 : g i 3 ≤ at_) (h2 : at_ < g i 4) :
    (i ≠ k → byR (n - 1) (cutG k g) (g i 1) at_ = g i 2 ∧ byF (n - 1) (cutG k g) (g i 1) at_ = true) ∧ (i = k → byR (n - 1) (cutG k g) (g i 1) at_ = 0 ∧ byF (n - 1) (cutG k g) (g i 1) at_ = false) := by
  have hh : ∀ q, q < n - 1 → hitB (cutG k g) (g i 1) at_ q = true → bk k q = i := fun q hq hx => by
    have := hitB_iff.1 hx
    rw [cut_bk, cut_bk, cut_bk] at this
    exact one_at h (by unfold bk; split <;> omega) hi ⟨this.2.1, this.2.2⟩ ⟨h1, h2⟩ (.inl this.1)
  constructor
  · intro hne
    have hp : ∃ p, p < n - 1 ∧ bk k p = i := by
      by_cases hik : i < k
      · exact ⟨i, by omega, if_pos hik⟩
      · exact ⟨i - 1, by omega, by unfold bk; rw [if_neg (by omega)]; omega⟩
    obtain ⟨p, hp, hpi⟩ := hp
    have := by_unique (n := n - 1) (p := p) (g := cutG k g) (bike := g i 1) (t := at_) hp (hitB_t (by rw [cut_bk, cut_bk, cut_bk, hpi]; exact ⟨rfl, h1, h2⟩)) (fun q hq hx => by
      have e1 := hh q hq hx
      rw [← hpi] at e1
      unfold bk at e1
      split at e1 <;> split at e1 <;> omega)
    rw [cut_bk, hpi] at this
    exact this
  · intro he
    refine by_nobody (fun q hq hx => ?_)
    have e1 := hh q hq hx
    rw [he] at e1
    unfold bk at e1
    split at e1 <;> omega
theorem short_to {n k i : Nat} {g : Nat → Nat → Int} {t at_ : Int} (h : OkH n g) (hk : k < n) (hi : i < n) (ht : t ≤ g k 4) (h1 : g i 3 ≤ at_) (h2 : at_ < g i 4) :
    ((i ≠ k ∨ at_ < t) → byR n (toG k g t) (g i 1) at_ = g i 2 ∧ byF n (toG k g t) (g i 1) at_ = true) ∧ ((i = k ∧ t ≤ at_) → byR n (toG k g t) (g i 1) at_ = 0 ∧ byF n (toG k g t) (g i 1) at_ = false) := by
  have c : ∀ q j, j ≠ 4 → toG k g t q j = g q j := fun q j hj => if_neg (fun x => hj x.2)
  have hh : ∀ q, q < n → hitB (toG k g t) (g i 1) at_ q = true → q = i ∧ at_ < toG k g t i 4 := fun q hq hx => by
    have := hitB_iff.1 hx
    rw [c q 1 (by omega), c q 3 (by omega)] at this
    have h4 : toG k g t q 4 ≤ g q 4 := by
      unfold toG
      split
      · rename_i hy; rw [hy.1]; exact ht
      · exact Int.le_refl _
    have e := one_at h hq hi ⟨this.2.1, by omega⟩ ⟨h1, h2⟩ (.inl this.1)
    subst e
    exact ⟨rfl, this.2.2⟩
  constructor
  · intro hx
    have h4 : at_ < toG k g t i 4 := by
      unfold toG
      split
      · rename_i hy; rcases hx with hx | hx
        · exact absurd hy.1 hx
        · exact hx
      · exact h2
    have := by_unique (n := n) (p := i) (g := toG k g t) (bike := g i 1) (t := at_) hi (hitB_t ⟨c i 1 (by omega), by rw [c i 3 (by omega)]; exact h1, h4⟩) (fun q hq hx => (hh q hq hx).1)
    rw [c i 2 (by omega)] at this
    exact this
  · rintro ⟨rfl, hx⟩
    refine by_nobody (fun q hq hy => ?_)
    have := (hh q hq hy).2
    unfold toG at this
    simp at this
    omega
end Go.Proofs.Ytmfkkmonedgdnaa
