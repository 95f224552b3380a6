/- Floats as exact numbers: words of a format whose value is a whole number times a power of two; what the operations give where the result is such a number. Plain arithmetic over Ieee, no program. -/
import Ieee.Arith
set_option linter.unusedSimpArgs false
set_option linter.unusedVariables false
namespace Fp
open Ieee

/-- The scale: every exponent that is met is at least -K. -/
def kN : Nat := 6000
def K : Int := 6000
theorem K_eq : K = (kN : Int) := rfl
/-- One. -/
def U : Nat := 2 ^ kN
theorem U_pos : 0 < U := Nat.two_pow_pos _
/-- The value of 'm 2^e' in units of 2^-K. -/
def V (m : Nat) (e : Int) : Nat := m * 2 ^ (e + K).toNat
/-- With its sign. -/
def VS (s : Bool) (m : Nat) (e : Int) : Int := if s then -(V m e : Int) else (V m e : Int)

theorem V_shift (m : Nat) (e : Int) (k : Nat) (h : -K ≤ e) : V m (e + k) = V (m * 2 ^ k) e := by
  unfold V
  rw [Nat.mul_assoc, ← Nat.pow_add]
  congr 2
  unfold K at *
  omega

/-- 'm 2^e' in the one form that a word of the format has. -/
structure Canon (f : Format) (m : Nat) (e : Int) : Prop where
  lt : m < 2 * f.binade
  le : f.leastPlace ≤ e
  full : e = f.leastPlace ∨ f.binade ≤ m

def rung (f : Format) (m : Nat) (e : Int) : Nat := (e - f.leastPlace).toNat * f.binade + m

theorem binade_pos (f : Format) : 0 < f.binade := Nat.two_pow_pos _

theorem infRung_add (f : Format) : f.infRung + f.binade = f.signWeight := by
  have h : 0 < 2 ^ f.exponentBits := Nat.two_pow_pos _
  unfold Format.infRung Format.signWeight
  rw [Nat.pow_add, ← Nat.succ_mul]
  exact congrArg (· * f.binade) (by omega)

theorem word_div {f : Format} {s : Bool} {r : Nat} (h : r < f.signWeight) : (f.word s r / f.signWeight % 2 == 1) = s ∧ f.word s r % f.signWeight = r := by
  have hp : 0 < f.signWeight := Nat.two_pow_pos _
  cases s
  · simp [Format.word, Nat.div_eq_of_lt h, Nat.mod_eq_of_lt h]
  · constructor
    · have : (f.signWeight + r) / f.signWeight = 1 := by
        rw [Nat.add_div_left _ hp, Nat.div_eq_of_lt h]
      simp [Format.word, this]
    · simp [Format.word, Nat.mod_eq_of_lt h]

theorem read_word {f : Format} {m : Nat} {e : Int} (s : Bool) (c : Canon f m e) (h : rung f m e < f.infRung) :
    f.read (f.word s (rung f m e)) = .number s m e := by
  have hs := infRung_add f
  have hb := binade_pos f
  have hw := word_div (f := f) (s := s) (r := rung f m e) (by omega)
  unfold Format.read
  simp only [hw.1, hw.2]
  obtain ⟨h1, h2, h3⟩ := c
  obtain ⟨k, hk⟩ : ∃ k : Nat, e = f.leastPlace + k := ⟨(e - f.leastPlace).toNat, by omega⟩
  have hr : rung f m e = k * f.binade + m := by unfold rung; rw [hk]; congr 2; omega
  by_cases hm : m < f.binade
  · have hk0 : k = 0 := by omega
    subst hk0
    have hr' : rung f m e = m := by rw [hr]; simp
    rw [hr', if_pos hm]
    rw [hk]; simp
  · obtain ⟨r, rfl⟩ : ∃ r, m = f.binade + r := ⟨m - f.binade, by omega⟩
    have hr' : rung f (f.binade + r) e = (k + 1) * f.binade + r := by rw [hr, Nat.add_mul]; omega
    have hrlt : r < f.binade := by omega
    have hmod : rung f (f.binade + r) e % f.binade = r := by
      rw [hr', Nat.mul_comm, Nat.mul_add_mod]; exact Nat.mod_eq_of_lt hrlt
    have hdiv : rung f (f.binade + r) e / f.binade = k + 1 := by
      rw [hr', Nat.mul_comm, Nat.mul_add_div hb, Nat.div_eq_of_lt hrlt, Nat.add_zero]
    have hge : f.binade ≤ rung f (f.binade + r) e := by
      rw [hr', Nat.add_mul]; omega
    rw [if_neg (by omega), if_pos h, hmod, hdiv, Nat.add_sub_cancel, ← hk]

theorem word_of_lt {f : Format} {b : Nat} (h : b < 2 ^ f.width) : ∃ s r, r < f.signWeight ∧ b = f.word s r := by
  have two : 2 ^ f.width = 2 * f.signWeight := by
    unfold Format.width Format.signWeight
    rw [Nat.add_assoc, Nat.add_comm 1, Nat.pow_succ, Nat.mul_comm]
  rw [two] at h
  by_cases hb : b < f.signWeight
  · exact ⟨false, b, hb, by simp [Format.word]⟩
  · exact ⟨true, b - f.signWeight, by omega, by simp only [Format.word, if_true]; omega⟩

/-- What a word is: a number in its one form, an infinity or a NaN. -/
theorem read_cases {f : Format} (hf : f.binade ≤ f.infRung) {b : Nat} (h : b < 2 ^ f.width) :
    (∃ s m e, f.read b = .number s m e ∧ Canon f m e ∧ rung f m e < f.infRung ∧ b = f.word s (rung f m e)) ∨
    (∃ s, f.read b = .infinity s ∧ b = f.word s f.infRung) ∨
    (∃ s t, f.read b = .nan s t ∧ 0 < t ∧ t < f.binade ∧ b = f.word s (f.infRung + t)) := by
  obtain ⟨s, r, hr, rfl⟩ := word_of_lt h
  have hs := infRung_add f
  have hb := binade_pos f
  have hw := word_div (f := f) (s := s) (r := r) hr
  by_cases h1 : r < f.infRung
  · refine .inl ?_
    by_cases h2 : r < f.binade
    · have hc : Canon f r f.leastPlace := ⟨by omega, Int.le_refl _, .inl rfl⟩
      have hrg : rung f r f.leastPlace = r := by simp [rung]
      exact ⟨s, r, f.leastPlace, by rw [← read_word s hc (by rw [hrg]; exact h1), hrg], hc, by rw [hrg]; exact h1, by rw [hrg]⟩
    · obtain ⟨k, hk⟩ : ∃ k, r / f.binade = k + 1 := ⟨r / f.binade - 1, by have := Nat.div_pos (Nat.le_of_not_lt h2) hb; omega⟩
      have hmod : r % f.binade < f.binade := Nat.mod_lt _ hb
      have hdm := Nat.div_add_mod r f.binade
      rw [hk, Nat.mul_add, Nat.mul_comm] at hdm
      have hc : Canon f (f.binade + r % f.binade) (f.leastPlace + (k : Nat)) := ⟨by omega, by omega, .inr (by omega)⟩
      have hrg : rung f (f.binade + r % f.binade) (f.leastPlace + (k : Nat)) = r := by
        unfold rung
        rw [show (f.leastPlace + (k : Nat) - f.leastPlace).toNat = k by omega]
        omega
      exact ⟨s, _, _, by rw [← read_word s hc (by rw [hrg]; exact h1), hrg], hc, by rw [hrg]; exact h1, by rw [hrg]⟩
  · refine .inr ?_
    by_cases h2 : r = f.infRung
    · subst h2
      refine .inl ⟨s, ?_, rfl⟩
      unfold Format.read
      simp only [hw.1, hw.2]
      rw [if_neg (by omega), if_neg (by omega)]; simp
    · refine .inr ⟨s, r - f.infRung, ?_, by omega, by omega, by rw [show f.infRung + (r - f.infRung) = r by omega]⟩
      unfold Format.read
      simp only [hw.1, hw.2]
      have hge : f.binade ≤ r := by omega
      rw [if_neg (by omega), if_neg (by omega), if_neg h2]

theorem log2_mul_pow (m k : Nat) (hm : m ≠ 0) : (m * 2 ^ k).log2 = m.log2 + k := by
  have hp : 0 < 2 ^ k := Nat.two_pow_pos k
  have h0 : m * 2 ^ k ≠ 0 := Nat.mul_ne_zero hm (by omega)
  apply Nat.le_antisymm
  · have : (m * 2 ^ k).log2 < m.log2 + k + 1 := by
      rw [Nat.log2_lt h0]
      have : m < 2 ^ (m.log2 + 1) := (Nat.log2_lt hm).1 (Nat.lt_succ_self _)
      rw [show m.log2 + k + 1 = (m.log2 + 1) + k by omega, Nat.pow_add]
      exact Nat.mul_lt_mul_of_pos_right this hp
    omega
  · rw [Nat.le_log2 h0, Nat.pow_add]
    exact Nat.mul_le_mul_right _ ((Nat.le_log2 hm).1 (Nat.le_refl _))

theorem cut_exact (s : Bool) (m d : Nat) (hm : m ≠ 0) : Toward.even.cut s (m * 2 ^ d) d = m := by
  have hl := log2_mul_pow m d hm
  have hp : 0 < 2 ^ d := Nat.two_pow_pos d
  unfold Toward.cut
  rw [hl, Nat.min_eq_left (by omega), Nat.one_shiftLeft]
  simp only [Nat.mul_mod_left, Nat.mul_div_cancel _ hp]
  have : ¬ (2 ^ d < 2 * 0) := by omega
  have h2 : (2 ^ d == 2 * 0) = false := by simp
  simp

theorem nearest_exact {f : Format} (s : Bool) {mag m : Nat} {place e : Int} (hm : m ≠ 0) (c : Canon f m e) (hr : rung f m e ≤ f.infRung) (hp : -K ≤ place) (he : -K ≤ e) (hv : V mag place = V m e) :
    f.nearest s mag place = f.word s (rung f m e) := by
  unfold V at hv
  obtain ⟨a, ha⟩ : ∃ a : Nat, place = a - K := ⟨(place + K).toNat, by omega⟩
  obtain ⟨b, hb⟩ : ∃ b : Nat, e = b - K := ⟨(e + K).toNat, by omega⟩
  rw [show (place + K).toNat = a by omega, show (e + K).toNat = b by omega] at hv
  have hmag : mag ≠ 0 := by
    intro h0
    rw [h0, Nat.zero_mul] at hv
    exact Nat.mul_ne_zero hm (by have := Nat.two_pow_pos b; omega) hv.symm
  have hlog : mag.log2 + a = m.log2 + b := by rw [← log2_mul_pow mag a hmag, ← log2_mul_pow m b hm, hv]
  have hlast : max (place + mag.log2 - f.fractionBits) f.leastPlace = e := by
    obtain ⟨h1, h2, h3⟩ := c
    have hlt : m.log2 < f.fractionBits + 1 := by
      rw [Nat.log2_lt hm, Nat.pow_succ]
      unfold Format.binade at h1
      omega
    rcases h3 with h3 | h3
    · omega
    · have hge : f.fractionBits ≤ m.log2 := (Nat.le_log2 hm).2 h3
      omega
  unfold Format.nearest
  rw [if_neg hmag]
  simp only [hlast]
  rcases Nat.le_total b a with hab | hab
  · have hmm : mag * 2 ^ (a - b) = m := by
      have hp2 : 0 < 2 ^ b := Nat.two_pow_pos b
      apply Nat.eq_of_mul_eq_mul_right hp2
      rw [← hv, Nat.mul_assoc, ← Nat.pow_add, Nat.sub_add_cancel hab]
    rw [show (place - e).toNat = a - b by omega, show (e - place).toNat = 0 by omega, Nat.shiftLeft_eq, hmm]
    have := cut_exact s m 0 hm
    rw [Nat.pow_zero, Nat.mul_one] at this
    rw [this, Nat.min_eq_left (by unfold rung at hr; exact hr)]
    rfl
  · have hmm : mag = m * 2 ^ (b - a) := by
      have hp2 : 0 < 2 ^ a := Nat.two_pow_pos a
      apply Nat.eq_of_mul_eq_mul_right hp2
      rw [hv, Nat.mul_assoc, ← Nat.pow_add, Nat.sub_add_cancel hab]
    rw [show (place - e).toNat = 0 by omega, show (e - place).toNat = b - a by omega, Nat.shiftLeft_eq, Nat.pow_zero, Nat.mul_one, hmm, cut_exact s m (b - a) hm, Nat.min_eq_left (by unfold rung at hr; exact hr)]
    rfl

theorem nearest_zero {f : Format} (s : Bool) (place : Int) : f.nearest s 0 place = f.word s (rung f 0 f.leastPlace) := by
  unfold Format.nearest rung
  simp

/-- The greatest place at which every significand gives a finite number. -/
def top (f : Format) : Int := f.leastPlace + 2 ^ f.exponentBits - 3

/-- 'm 2^e' is a number of the format. -/
structure Rp (f : Format) (m : Nat) (e : Int) : Prop where
  lt : m < 2 * f.binade
  le : f.leastPlace ≤ e
  top : e ≤ top f

theorem rung_lt_of_top {f : Format} {m : Nat} {e : Int} (c : Canon f m e) (h : e ≤ top f) : rung f m e < f.infRung := by
  unfold rung Format.infRung top at *
  obtain ⟨h1, h2, _⟩ := c
  have hb := binade_pos f
  generalize hk : (e - f.leastPlace).toNat = k
  generalize hE : 2 ^ f.exponentBits = E at *
  have : k + 3 ≤ E := by
    have : ((2 : Int) ^ f.exponentBits) = (E : Nat) := by rw [← hE]; simp
    omega
  obtain ⟨j, rfl⟩ : ∃ j, E = k + 3 + j := ⟨E - (k + 3), by omega⟩
  rw [show k + 3 + j - 1 = k + 2 + j by omega, Nat.add_mul, Nat.add_mul]
  omega

/-- A representable number has its one form. -/
theorem canon_of {f : Format} : ∀ (d : Nat) (m : Nat) (e : Int), (e - f.leastPlace).toNat = d → m < 2 * f.binade → f.leastPlace ≤ e → -K ≤ f.leastPlace →
    ∃ m' e', Canon f m' e' ∧ e' ≤ e ∧ V m' e' = V m e ∧ (m = 0 → m' = 0) ∧ (m' = 0 → m = 0) := by
  intro d
  induction d with
  | zero => exact fun m e hd h1 h2 hK => ⟨m, e, ⟨h1, h2, .inl (by omega)⟩, Int.le_refl _, rfl, id, id⟩
  | succ d ih =>
    intro m e hd h1 h2 hK
    by_cases hm : f.binade ≤ m
    · exact ⟨m, e, ⟨h1, h2, .inr hm⟩, Int.le_refl _, rfl, id, id⟩
    · obtain ⟨m', e', hc, he, hv, h0, h0'⟩ := ih (m * 2) (e - 1) (by omega) (by omega) (by omega) hK
      refine ⟨m', e', hc, by omega, ?_, fun h => h0 (by omega), fun h => by have := h0' h; omega⟩
      rw [hv]
      have := V_shift m (e - 1) 1 (by omega)
      rw [show e - 1 + ((1 : Nat) : Int) = e by omega] at this
      rw [this, Nat.pow_one]

theorem canon_zero {f : Format} {e : Int} (c : Canon f 0 e) : e = f.leastPlace := by
  rcases c.full with h | h
  · exact h
  · have := binade_pos f; omega

/-- THE NEAREST WORD OF A NUMBER THAT THE FORMAT HAS. -/
theorem nearest_rp {f : Format} (hK : -K ≤ f.leastPlace) (s : Bool) {mag m : Nat} {place e : Int} (h : Rp f m e) (hp : -K ≤ place) (hv : V mag place = V m e) :
    ∃ m' e', f.nearest s mag place = f.word s (rung f m' e') ∧ Canon f m' e' ∧ e' ≤ e ∧ rung f m' e' < f.infRung ∧ V m' e' = V m e := by
  obtain ⟨m', e', hc, he, hv', h0, h0'⟩ := canon_of (f := f) _ m e rfl h.lt h.le hK
  have htop : e' ≤ top f := Int.le_trans he h.top
  refine ⟨m', e', ?_, hc, he, rung_lt_of_top hc htop, hv'⟩
  by_cases hm : m' = 0
  · have hm0 := h0' hm
    subst hm hm0
    have hmag : mag = 0 := by
      unfold V at hv
      rw [Nat.zero_mul] at hv
      rcases Nat.mul_eq_zero.1 hv with h | h
      · exact h
      · have := Nat.two_pow_pos (place + K).toNat; omega
    subst hmag
    rw [nearest_zero, canon_zero hc]
  · exact nearest_exact s hm hc (Nat.le_of_lt (rung_lt_of_top hc htop)) hp (Int.le_trans hK hc.le) (hv.trans hv'.symm)

/-- The word b is the number of sign s and of the size v (in units of 2^-K). -/
def IsN (f : Format) (b : Nat) (s : Bool) (v : Nat) : Prop := ∃ m e, f.read b = .number s m e ∧ Canon f m e ∧ rung f m e < f.infRung ∧ b = f.word s (rung f m e) ∧ V m e = v

theorem isN_nearest {f : Format} (hK : -K ≤ f.leastPlace) (s : Bool) {mag m : Nat} {place e : Int} (h : Rp f m e) (hp : -K ≤ place) (hv : V mag place = V m e) : IsN f (f.nearest s mag place) s (V m e) := by
  obtain ⟨m', e', hn, hc, _, hr, hv'⟩ := nearest_rp hK s h hp hv
  exact ⟨m', e', by rw [hn]; exact read_word s hc hr, hc, hr, hn, hv'⟩

theorem canon_unique {f : Format} (hK : -K ≤ f.leastPlace) {m m' : Nat} {e e' : Int} (c : Canon f m e) (c' : Canon f m' e') (hv : V m e = V m' e') : m = m' ∧ e = e' := by
  have key : ∀ {m m' : Nat} {e e' : Int}, Canon f m e → Canon f m' e' → V m e = V m' e' → e ≤ e' → e' ≤ e := by
    intro m m' e e' c c' hv hle
    rcases c'.full with h | h
    · rw [h]; exact c.le
    · rcases Int.lt_or_le e e' with hlt | hlt
      · exfalso
        obtain ⟨k, hk⟩ : ∃ k : Nat, e' = e + ((k + 1 : Nat) : Int) := ⟨(e' - e - 1).toNat, by omega⟩
        rw [hk, V_shift m' e (k + 1) (by have := c.le; omega)] at hv
        unfold V at hv
        have := Nat.eq_of_mul_eq_mul_right (Nat.two_pow_pos _) hv
        have h1 := c.lt
        have : 2 * f.binade ≤ m' * 2 ^ (k + 1) := by
          rw [Nat.pow_succ, Nat.mul_comm 2, ← Nat.mul_assoc]
          have hp := Nat.two_pow_pos k
          exact Nat.mul_le_mul_right 2 (Nat.le_trans h (Nat.le_mul_of_pos_right _ hp))
        omega
      · exact hlt
  have he : e = e' := by
    rcases Int.le_total e e' with h | h
    · exact Int.le_antisymm h (key c c' hv h)
    · exact Int.le_antisymm (key c' c hv.symm h) h
  subst he
  unfold V at hv
  exact ⟨Nat.eq_of_mul_eq_mul_right (Nat.two_pow_pos _) hv, rfl⟩

theorem IsN.unique {f : Format} (hK : -K ≤ f.leastPlace) {b b' : Nat} {s : Bool} {v : Nat} (h : IsN f b s v) (h' : IsN f b' s v) : b = b' := by
  obtain ⟨m, e, _, c, _, rfl, hv⟩ := h
  obtain ⟨m', e', _, c', _, rfl, hv'⟩ := h'
  obtain ⟨rfl, rfl⟩ := canon_unique hK c c' (hv.trans hv'.symm)
  rfl

end Fp
