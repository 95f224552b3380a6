/- Lemmas of the claim: Fp, Fpo, Fpl. -/
import Ieee.Arith
section
set_option linter.unusedSimpArgs false
set_option linter.unusedVariables false
namespace Fp
open Ieee
def kN : Nat := 6000
def K : Int := 6000
theorem K_eq : K = (kN : Int) := rfl
def U : Nat := 2 ^ kN
theorem U_pos : 0 < U := Nat.two_pow_pos _
def V (m : Nat) (e : Int) : Nat := m * 2 ^ (e + K).toNat
theorem V_shift (m : Nat) (e : Int) (k : Nat) (h : -K ≤ e) : V m (e + k) = V (m * 2 ^ k) e := by
  unfold V
  rw [Nat.mul_assoc, ← Nat.pow_add]
  congr 2
  unfold K at *
  omega
structure Canon (f : Format) (m : Nat) (e : Int) : Prop where
  lt : m < 2 * f.binade
  le : f.leastPlace ≤ e
  full : e = f.leastPlace ∨ f.binade ≤ m
def rung (f : Format) (m : Nat) (e : Int) : Nat := (e - f.leastPlace).toNat * f.binade + m
theorem binade_pos (f : Format) : 0 < f.binade := Nat.two_pow_pos _
theorem infRung_add (f : Format) : f.infRung + f.binade = f.signWeight := by
  have h : 0 < 2 ^ f.exponentBits := Nat.two_pow_pos _
  unfold Format.infRung Format.signWeight
  rw [Nat.pow_add, ← Nat.succ_mul]
  exact congrArg (· * f.binade) (by omega)
theorem word_div {f : Format} {s : Bool} {r : Nat} (h : r < f.signWeight) : (f.word s r / f.signWeight % 2 == 1) = s ∧ f.word s r % f.signWeight = r := by
  have hp : 0 < f.signWeight := Nat.two_pow_pos _
  cases s
  · simp [Format.word, Nat.div_eq_of_lt h, Nat.mod_eq_of_lt h]
  · constructor
    · have : (f.signWeight + r) / f.signWeight = 1 := by
        rw [Nat.add_div_left _ hp, Nat.div_eq_of_lt h]
      simp [Format.word, this]
    · simp [Format.word, Nat.mod_eq_of_lt h]
theorem read_word {f : Format} {m : Nat} {e : Int} (s : Bool) (c : Canon f m e) (h : rung f m e < f.infRung) :
    f.read (f.word s (rung f m e)) = .number s m e := by
  have hs := infRung_add f
  have hb := binade_pos f
  have hw := word_div (f := f) (s := s) (r := rung f m e) (by omega)
  unfold Format.read
  simp only [hw.1, hw.2]
  obtain ⟨h1, h2, h3⟩ := c
  obtain ⟨k, hk⟩ : ∃ k : Nat, e = f.leastPlace + k := ⟨(e - f.leastPlace).toNat, by omega⟩
  have hr : rung f m e = k * f.binade + m := by unfold rung; rw [hk]; congr 2; omega
  by_cases hm : m < f.binade
  · have hk0 : k = 0 := by omega
    subst hk0
    have hr' : rung f m e = m := by rw [hr]; simp
    rw [hr', if_pos hm]
    rw [hk]; simp
  · obtain ⟨r, rfl⟩ : ∃ r, m = f.binade + r := ⟨m - f.binade, by omega⟩
    have hr' : rung f (f.binade + r) e = (k + 1) * f.binade + r := by rw [hr, Nat.add_mul]; omega
    have hrlt : r < f.binade := by omega
    have hmod : rung f (f.binade + r) e % f.binade = r := by
      rw [hr', Nat.mul_comm, Nat.mul_add_mod]; exact Nat.mod_eq_of_lt hrlt
    have hdiv : rung f (f.binade + r) e / f.binade = k + 1 := by
      rw [hr', Nat.mul_comm, Nat.mul_add_div hb, Nat.div_eq_of_lt hrlt, Nat.add_zero]
    have hge : f.binade ≤ rung f (f.binade + r) e := by
      rw [hr', Nat.add_mul]; omega
    rw [if_neg (by omega), if_pos h, hmod, hdiv, Nat.add_sub_cancel, ← hk]
theorem word_of_lt {f : Format} {b : Nat} (h : b < 2 ^ f.width) : ∃ s r, r < f.signWeight ∧ b = f.word s r := by
  have two : 2 ^ f.width = 2 * f.signWeight := by
    unfold Format.width Format.signWeight
    rw [Nat.add_assoc, Nat.add_comm 1, Nat.pow_succ, Nat.mul_comm]
  rw [two] at h
  by_cases hb : b < f.signWeight
  · exact ⟨false, b, hb, by simp [Format.word]⟩
  · exact ⟨true, b - f.signWeight, by omega, by simp only [Format.word, if_true]; omega⟩
theorem read_cases {f : Format} (hf : f.binade ≤ f.infRung) {b : Nat} (h : b < 2 ^ f.width) :
    (∃ s m e, f.read b = .number s m e ∧ Canon f m e ∧ rung f m e < f.infRung ∧ b = f.word s (rung f m e)) ∨
    (∃ s, f.read b = .infinity s ∧ b = f.word s f.infRung) ∨
    (∃ s t, f.read b = .nan s t ∧ 0 < t ∧ t < f.binade ∧ b = f.word s (f.infRung + t)) := by
  obtain ⟨s, r, hr, rfl⟩ := word_of_lt h
  have hs := infRung_add f
  have hb := binade_pos f
  have hw := word_div (f := f) (s := s) (r := r) hr
  by_cases h1 : r < f.infRung
  · refine .inl ?_
    by_cases h2 : r < f.binade
    · have hc : Canon f r f.leastPlace := ⟨by omega, Int.le_refl _, .inl rfl⟩
      have hrg : rung f r f.leastPlace = r := by simp [rung]
      exact ⟨s, r, f.leastPlace, by rw [← read_word s hc (by rw [hrg]; exact h1), hrg], hc, by rw [hrg]; exact h1, by rw [hrg]⟩
    · obtain ⟨k, hk⟩ : ∃ k, r / f.binade = k + 1 := ⟨r / f.binade - 1, by have := Nat.div_pos (Nat.le_of_not_lt h2) hb; omega⟩
      have hmod : r % f.binade < f.binade := Nat.mod_lt _ hb
      have hdm := Nat.div_add_mod r f.binade
      rw [hk, Nat.mul_add, Nat.mul_comm] at hdm
      have hc : Canon f (f.binade + r % f.binade) (f.leastPlace + (k : Nat)) := ⟨by omega, by omega, .inr (by omega)⟩
      have hrg : rung f (f.binade + r % f.binade) (f.leastPlace + (k : Nat)) = r := by
        unfold rung
        rw [show (f.leastPlace + (k : Nat) - f.leastPlace).toNat = k by omega]
        omega
      exact ⟨s, _, _, by rw [← read_word s hc (by rw [hrg]; exact h1), hrg], hc, by rw [hrg]; exact h1, by rw [hrg]⟩
  · refine .inr ?_
    by_cases h2 : r = f.infRung
    · subst h2
      refine .inl ⟨s, ?_, rfl⟩
      unfold Format.read
      simp only [hw.1, hw.2]
      rw [if_neg (by omega), if_neg (by omega)]; simp
    · refine .inr ⟨s, r - f.infRung, ?_, by omega, by omega, by rw [show f.infRung + (r - f.infRung) = r by omega]⟩
      unfold Format.read
      simp only [hw.1, hw.2]
      have hge : f.binade ≤ r := by omega
      rw [if_neg (by omega), if_neg (by omega), if_neg h2]
theorem log2_mul_pow (m k : Nat) (hm : m ≠ 0) : (m * 2 ^ k).log2 = m.log2 + k := by
  have hp : 0 < 2 ^ k := Nat.two_pow_pos k
  have h0 : m * 2 ^ k ≠ 0 := Nat.mul_ne_zero hm (by omega)
  apply Nat.le_antisymm
  · have : (m * 2 ^ k).log2 < m.log2 + k + 1 := by
      rw [Nat.log2_lt h0]
      have : m < 2 ^ (m.log2 + 1) := (Nat.log2_lt hm).1 (Nat.lt_succ_self _)
      rw [show m.log2 + k + 1 = (m.log2 + 1) + k by omega, Nat.pow_add]
      exact Nat.mul_lt_mul_of_pos_right this hp
    omega
  · rw [Nat.le_log2 h0, Nat.pow_add]
    exact Nat.mul_le_mul_right _ ((Nat.le_log2 hm).1 (Nat.le_refl _))
theorem cut_exact (s : Bool) (m d : Nat) (hm : m ≠ 0) : Toward.even.cut s (m * 2 ^ d) d = m := by
  have hl := log2_mul_pow m d hm
  have hp : 0 < 2 ^ d := Nat.two_pow_pos d
  unfold Toward.cut
  rw [hl, Nat.min_eq_left (by omega), Nat.one_shiftLeft]
  simp only [Nat.mul_mod_left, Nat.mul_div_cancel _ hp]
  have : ¬ (2 ^ d < 2 * 0) := by omega
  have h2 : (2 ^ d == 2 * 0) = false := by simp
  simp
theorem nearest_exact {f : Format} (s : Bool) {mag m : Nat} {place e : Int} (hm : m ≠ 0) (c : Canon f m e) (hr : rung f m e ≤ f.infRung) (hp : -K ≤ place) (he : -K ≤ e) (hv : V mag place = V m e) :
    f.nearest s mag place = f.word s (rung f m e) := by
  unfold V at hv
  obtain ⟨a, ha⟩ : ∃ a : Nat, place = a - K := ⟨(place + K).toNat, by omega⟩
  obtain ⟨b, hb⟩ : ∃ b : Nat, e = b - K := ⟨(e + K).toNat, by omega⟩
  rw [show (place + K).toNat = a by omega, show (e + K).toNat = b by omega] at hv
  have hmag : mag ≠ 0 := by
    intro h0
    rw [h0, Nat.zero_mul] at hv
    exact Nat.mul_ne_zero hm (by have := Nat.two_pow_pos b; omega) hv.symm
  have hlog : mag.log2 + a = m.log2 + b := by rw [← log2_mul_pow mag a hmag, ← log2_mul_pow m b hm, hv]
  have hlast : max (place + mag.log2 - f.fractionBits) f.leastPlace = e := by
    obtain ⟨h1, h2, h3⟩ := c
    have hlt : m.log2 < f.fractionBits + 1 := by
      rw [Nat.log2_lt hm, Nat.pow_succ]
      unfold Format.binade at h1
      omega
    rcases h3 with h3 | h3
    · omega
    · have hge : f.fractionBits ≤ m.log2 := (Nat.le_log2 hm).2 h3
      omega
  unfold Format.nearest
  rw [if_neg hmag]
  simp only [hlast]
  rcases Nat.le_total b a with hab | hab
  · have hmm : mag * 2 ^ (a - b) = m := by
      have hp2 : 0 < 2 ^ b := Nat.two_pow_pos b
      apply Nat.eq_of_mul_eq_mul_right hp2
      rw [← hv, Nat.mul_assoc, ← Nat.pow_add, Nat.sub_add_cancel hab]
    rw [show (place - e).toNat = a - b by omega, show (e - place).toNat = 0 by omega, Nat.shiftLeft_eq, hmm]
    have := cut_exact s m 0 hm
    rw [Nat.pow_zero, Nat.mul_one] at this
    rw [this, Nat.min_eq_left (by unfold rung at hr; exact hr)]
    rfl
  · have hmm : mag = m * 2 ^ (b - a) := by
      have hp2 : 0 < 2 ^ a := Nat.two_pow_pos a
      apply Nat.eq_of_mul_eq_mul_right hp2
      rw [hv, Nat.mul_assoc, ← Nat.pow_add, Nat.sub_add_cancel hab]
    rw [show (place - e).toNat = 0 by omega, show (e - place).toNat = b - a by omega, Nat.shiftLeft_eq, Nat.pow_zero, Nat.mul_one, hmm, cut_exact s m (b - a) hm, Nat.min_eq_left (by unfold rung at hr; exact hr)]
    rfl
theorem nearest_zero {f : Format} (s : Bool) (place : Int) : f.nearest s 0 place = f.word s (rung f 0 f.leastPlace) := by
  unfold Format.nearest rung
  simp
def top (f : Format) : Int := f.leastPlace + 2 ^ f.exponentBits - 3
structure Rp (f : Format) (m : Nat) (e : Int) : Prop where
  lt : m < 2 * f.binade
  le : f.leastPlace ≤ e
  top : e ≤ top f
theorem rung_lt_of_top {f : Format} {m : Nat} {e : Int} (c : Canon f m e) (h : e ≤ top f) : rung f m e < f.infRung := by
  unfold rung Format.infRung top at *
  obtain ⟨h1, h2, _⟩ := c
  have hb := binade_pos f
  generalize hk : (e - f.leastPlace).toNat = k
  generalize hE : 2 ^ f.exponentBits = E at *
  have : k + 3 ≤ E := by
    have : ((2 : Int) ^ f.exponentBits) = (E : Nat) := by rw [← hE]; simp
    omega
  obtain ⟨j, rfl⟩ : ∃ j, E = k + 3 + j := ⟨E - (k + 3), by omega⟩
  rw [show k + 3 + j - 1 = k + 2 + j by omega, Nat.add_mul, Nat.add_mul]
  omega
theorem canon_of {f : Format} : ∀ (d : Nat) (m : Nat) (e : Int), (e - f.leastPlace).toNat = d → m < 2 * f.binade → f.leastPlace ≤ e → -K ≤ f.leastPlace →
    ∃ m' e', Canon f m' e' ∧ e' ≤ e ∧ V m' e' = V m e ∧ (m = 0 → m' = 0) ∧ (m' = 0 → m = 0) := by
  intro d
  induction d with
  | zero => exact fun m e hd h1 h2 hK => ⟨m, e, ⟨h1, h2, .inl (by omega)⟩, Int.le_refl _, rfl, id, id⟩
  | succ d ih =>
    intro m e hd h1 h2 hK
    by_cases hm : f.binade ≤ m
    · exact ⟨m, e, ⟨h1, h2, .inr hm⟩, Int.le_refl _, rfl, id, id⟩
    · obtain ⟨m', e', hc, he, hv, h0, h0'⟩ := ih (m * 2) (e - 1) (by omega) (by omega) (by omega) hK
      refine ⟨m', e', hc, by omega, ?_, fun h => h0 (by omega), fun h => by have := h0' h; omega⟩
      rw [hv]
      have := V_shift m (e - 1) 1 (by omega)
      rw [show e - 1 + ((1 : Nat) : Int) = e by omega] at this
      rw [this, Nat.pow_one]
theorem canon_zero {f : Format} {e : Int} (c : Canon f 0 e) : e = f.leastPlace := by
  rcases c.full with h | h
  · exact h
  · have := binade_pos f; omega
theorem nearest_rp {f : Format} (hK : -K ≤ f.leastPlace) (s : Bool) {mag m : Nat} {place e : Int} (h : Rp f m e) (hp : -K ≤ place) (hv : V mag place = V m e) :
    ∃ m' e', f.nearest s mag place = f.word s (rung f m' e') ∧ Canon f m' e' ∧ e' ≤ e ∧ rung f m' e' < f.infRung ∧ V m' e' = V m e := by
  obtain ⟨m', e', hc, he, hv', h0, h0'⟩ := canon_of (f := f) _ m e rfl h.lt h.le hK
  have htop : e' ≤ top f := Int.le_trans he h.top
  refine ⟨m', e', ?_, hc, he, rung_lt_of_top hc htop, hv'⟩
  by_cases hm : m' = 0
  · have hm0 := h0' hm
    subst hm hm0
    have hmag : mag = 0 := by
      unfold V at hv
      rw [Nat.zero_mul] at hv
      rcases Nat.mul_eq_zero.1 hv with h | h
      · exact h
      · have := Nat.two_pow_pos (place + K).toNat; omega
    subst hmag
    rw [nearest_zero, canon_zero hc]
  · exact nearest_exact s hm hc (Nat.le_of_lt (rung_lt_of_top hc htop)) hp (Int.le_trans hK hc.le) (hv.trans hv'.symm)
def IsN (f : Format) (b : Nat) (s : Bool) (v : Nat) : Prop := ∃ m e, f.read b = .number s m e ∧ Canon f m e ∧ rung f m e < f.infRung ∧ b = f.word s (rung f m e) ∧ V m e = v
theorem isN_nearest {f : Format} (hK : -K ≤ f.leastPlace) (s : Bool) {mag m : Nat} {place e : Int} (h : Rp f m e) (hp : -K ≤ place) (hv : V mag place = V m e) : IsN f (f.nearest s mag place) s (V m e) := by
  obtain ⟨m', e', hn, hc, _, hr, hv'⟩ := nearest_rp hK s h hp hv
  exact ⟨m', e', by rw [hn]; exact read_word s hc hr, hc, hr, hn, hv'⟩
theorem canon_unique {f : Format} (hK : -K ≤ f.leastPlace) {m m' : Nat} {e e' : Int} (c : Canon f m e) (c' : Canon f m' e') (hv : V m e = V m' e') : m = m' ∧ e = e' := by
  have key : ∀ {m m' : Nat} {e e' : Int}, Canon f m e → Canon f m' e' → V m e = V m' e' → e ≤ e' → e' ≤ e := by
    intro m m' e e' c c' hv hle
    rcases c'.full with h | h
    · rw [h]; exact c.le
    · rcases Int.lt_or_le e e' with hlt | hlt
      · exfalso
        obtain ⟨k, hk⟩ : ∃ k : Nat, e' = e + ((k + 1 : Nat) : Int) := ⟨(e' - e - 1).toNat, by omega⟩
        rw [hk, V_shift m' e (k + 1) (by have := c.le; omega)] at hv
        unfold V at hv
        have := Nat.eq_of_mul_eq_mul_right (Nat.two_pow_pos _) hv
        have h1 := c.lt
        have : 2 * f.binade ≤ m' * 2 ^ (k + 1) := by
          rw [Nat.pow_succ, Nat.mul_comm 2, ← Nat.mul_assoc]
          have hp := Nat.two_pow_pos k
          exact Nat.mul_le_mul_right 2 (Nat.le_trans h (Nat.le_mul_of_pos_right _ hp))
        omega
      · exact hlt
  have he : e = e' := by
    rcases Int.le_total e e' with h | h
    · exact Int.le_antisymm h (key c c' hv h)
    · exact Int.le_antisymm (key c' c hv.symm h) h
  subst he
  unfold V at hv
  exact ⟨Nat.eq_of_mul_eq_mul_right (Nat.two_pow_pos _) hv, rfl⟩
theorem IsN.unique {f : Format} (hK : -K ≤ f.leastPlace) {b b' : Nat} {s : Bool} {v : Nat} (h : IsN f b s v) (h' : IsN f b' s v) : b = b' := by
  obtain ⟨m, e, _, c, _, rfl, hv⟩ := h
  obtain ⟨m', e', _, c', _, rfl, hv'⟩ := h'
  obtain ⟨rfl, rfl⟩ := canon_unique hK c c' (hv.trans hv'.symm)
  rfl
end Fp
end
section
set_option linter.unusedSimpArgs false
set_option linter.unusedVariables false
namespace Fp
open Ieee
def sv (s : Bool) (v : Nat) : Int := if s then -(v : Int) else v
theorem V_zero (e : Int) : V 0 e = 0 := by simp [V]
theorem V_eq_zero {m : Nat} {e : Int} : V m e = 0 ↔ m = 0 := by
  unfold V
  constructor
  · intro h
    rcases Nat.mul_eq_zero.1 h with h | h
    · exact h
    · have := Nat.two_pow_pos (e + K).toNat; omega
  · rintro rfl; simp
theorem V_mul {m n : Nat} {i j : Int} (hi : -K ≤ i) (hj : -K ≤ j) (hij : -K ≤ i + j) : V m i * V n j = V (m * n) (i + j) * U := by
  have hk := K_eq
  unfold V U
  rw [Nat.mul_mul_mul_comm, ← Nat.pow_add, Nat.mul_assoc (m * n), ← Nat.pow_add]
  congr 2
  omega
theorem V_lower {m : Nat} {e b : Int} (hb : -K ≤ b) (he : b ≤ e) : V m e = m * 2 ^ (e - b).toNat * 2 ^ (b + K).toNat := by
  unfold V K at *
  rw [Nat.mul_assoc, ← Nat.pow_add]
  congr 2
  omega
theorem signed_sv {s : Bool} {m : Nat} {i b : Int} (hb : -K ≤ b) (hi : b ≤ i) : signed s m (i - b).toNat * ((2 ^ (b + K).toNat : Nat) : Int) = sv s (V m i) := by
  rw [V_lower hb hi]
  unfold signed sv
  rw [Nat.shiftLeft_eq]
  cases s <;> simp [Int.neg_mul]
theorem compare_int (a b : Int) : compare a b = if a < b then .lt else if a = b then .eq else .gt := rfl
theorem compare_scale (a b : Int) (k : Nat) (hk : 0 < k) : compare (a * (k : Int)) (b * (k : Int)) = compare a b := by
  rw [compare_int, compare_int]
  have h1 : a * (k : Int) < b * (k : Int) ↔ a < b := by
    constructor
    · intro h; exact Int.lt_of_mul_lt_mul_right h (by omega)
    · intro h; exact Int.mul_lt_mul_of_pos_right h (by omega)
  have h2 : a * (k : Int) = b * (k : Int) ↔ a = b := by
    constructor
    · intro h; exact Int.eq_of_mul_eq_mul_right (by omega) h
    · rintro rfl; rfl
  simp only [h1, h2]
theorem order_isN {f : Format} (hK : -K ≤ f.leastPlace) {x y : Nat} {s t : Bool} {a b : Nat} (hx : IsN f x s a) (hy : IsN f y t b) : f.order x y = some (compare (sv s a) (sv t b)) := by
  obtain ⟨m, i, hrx, cx, _, _, rfl⟩ := hx
  obtain ⟨n, j, hry, cy, _, _, rfl⟩ := hy
  unfold Format.order Datum.order
  rw [hrx, hry]
  simp only
  have h1 := cx.le
  have h2 := cy.le
  have hb : -K ≤ min i j := by omega
  rw [← signed_sv (s := s) (m := m) hb (Int.min_le_left i j), ← signed_sv (s := t) (m := n) hb (Int.min_le_right i j), compare_scale _ _ _ (Nat.two_pow_pos _)]
theorem mul_isN {f : Format} (hK : -3000 ≤ f.leastPlace) {x y : Nat} {s t : Bool} {a b m : Nat} {e : Int} (hx : IsN f x s a) (hy : IsN f y t b) (h : Rp f m e) (hv : a * b = V m e * U) :
    ∃ r, f.mul x y = some r ∧ IsN f r (s ^^ t) (V m e) := by
  obtain ⟨m1, i, hrx, cx, _, _, rfl⟩ := hx
  obtain ⟨n1, j, hry, cy, _, _, rfl⟩ := hy
  unfold Format.mul Datum.product
  rw [hrx, hry]
  simp only [Option.map_some]
  have h1 := cx.le
  have h2 := cy.le
  have hij : -K ≤ i + j := by unfold K; omega
  refine ⟨_, rfl, ?_⟩
  unfold Format.write
  refine isN_nearest (by unfold K; omega) _ h hij ?_
  rw [V_mul (by unfold K; omega) (by unfold K; omega) hij] at hv
  exact Nat.eq_of_mul_eq_mul_right U_pos hv
theorem add_isN {f : Format} (hK : -K ≤ f.leastPlace) {x y : Nat} {s t : Bool} {a b m : Nat} {e : Int} (hx : IsN f x s a) (hy : IsN f y t b) (h : Rp f m e) (hv : (sv s a + sv t b).natAbs = V m e) :
    ∃ r, f.add x y = some r ∧ IsN f r (if sv s a + sv t b = 0 then s && t else decide (sv s a + sv t b < 0)) (V m e) := by
  obtain ⟨m1, i, hrx, cx, _, _, rfl⟩ := hx
  obtain ⟨n1, j, hry, cy, _, _, rfl⟩ := hy
  unfold Format.add Datum.sum
  rw [hrx, hry]
  simp only [Option.map_some]
  have h1 := cx.le
  have h2 := cy.le
  have hb : -K ≤ min i j := by omega
  have e1 := signed_sv (s := s) (m := m1) hb (Int.min_le_left i j)
  have e2 := signed_sv (s := t) (m := n1) hb (Int.min_le_right i j)
  generalize hA : signed s m1 (i - min i j).toNat = A at *
  generalize hB : signed t n1 (j - min i j).toNat = B at *
  have hp := Nat.two_pow_pos (min i j + K).toNat
  generalize hP : 2 ^ (min i j + K).toNat = Pw at *
  have hsum : (A + B) * (Pw : Int) = sv s (V m1 i) + sv t (V n1 j) := by rw [Int.add_mul, e1, e2]
  have hz : (A + B = 0) ↔ (sv s (V m1 i) + sv t (V n1 j) = 0) := by
    rw [← hsum]
    constructor
    · intro h; rw [h]; simp
    · intro h
      rcases Int.mul_eq_zero.1 h with h | h
      · exact h
      · omega
  have hl : (A + B < 0) ↔ (sv s (V m1 i) + sv t (V n1 j) < 0) := by
    rw [← hsum]
    constructor
    · intro h; exact Int.mul_neg_of_neg_of_pos h (by omega)
    · intro h
      rcases Int.lt_or_le (A + B) 0 with h' | h'
      · exact h'
      · have := Int.mul_nonneg h' (Int.natCast_nonneg Pw); omega
  refine ⟨_, rfl, ?_⟩
  unfold Format.write
  have hval : V (A + B).natAbs (min i j) = V m e := by
    rw [← hv, ← hsum, Int.natAbs_mul]
    unfold V
    rw [hP]; simp
  have hr := isN_nearest hK (if A + B = 0 then s && t else decide (A + B < 0)) h hb hval
  by_cases hz' : A + B = 0
  · have hz2 := hz.1 hz'
    simp only [hz', hz2, if_true] at hr ⊢
    exact hr
  · have hz2 : ¬ (sv s (V m1 i) + sv t (V n1 j) = 0) := fun h => hz' (hz.2 h)
    simp only [hz', hz2, if_false] at hr ⊢
    have : decide (A + B < 0) = decide (sv s (V m1 i) + sv t (V n1 j) < 0) := by simp only [hl]
    rw [← this]
    exact hr
theorem IsN.opposite {f : Format} {b : Nat} {s : Bool} {v : Nat} (h : IsN f b s v) : ∃ m e, (f.read b).opposite = .number (!s) m e ∧ Canon f m e ∧ V m e = v := by
  obtain ⟨m, e, hr, c, _, _, hv⟩ := h
  exact ⟨m, e, by rw [hr]; rfl, c, hv⟩
theorem sub_self {f : Format} {x : Nat} {s : Bool} {a : Nat} (hx : IsN f x s a) : ∃ r, f.sub x x = some r ∧ r = f.word false 0 := by
  obtain ⟨m1, i, hrx, cx, _, _, rfl⟩ := hx
  unfold Format.sub Datum.sum Datum.opposite
  rw [hrx]
  simp only [Option.map_some]
  refine ⟨_, rfl, ?_⟩
  have : signed s m1 (i - min i i).toNat + signed (!s) m1 (i - min i i).toNat = 0 := by
    unfold signed
    cases s <;> simp <;> omega
  rw [this]
  cases s <;> simp [Format.write, Format.nearest]
theorem div_isN {f : Format} (hK : -2000 ≤ f.leastPlace) (hfb : f.fractionBits ≤ 100) {x y : Nat} {s t : Bool} {a m q : Nat} {e j : Int} (hx : IsN f x s a) (hy : f.read y = .number t (2 ^ q) j) (hq : q ≤ 100) (hj : -1000 ≤ j) (hj' : j ≤ 1000)
    (h : Rp f m e) (hv : a = V m (e + j + q)) (hm : -K ≤ e + j + q) :
    ∃ r, f.div x y = some r ∧ IsN f r (s ^^ t) (V m e) := by
  obtain ⟨m1, i, hrx, cx, hrg, _, rfl⟩ := hx
  unfold Format.div Datum.quotient
  rw [hrx, hy]
  have hq0 : ¬ (2 ^ q = 0) := by have := Nat.two_pow_pos q; omega
  simp only [hq0, if_false, Option.map_some, Nat.log2_two_pow]
  refine ⟨_, rfl, ?_⟩
  unfold Format.write
  have h1 := cx.le
  have h2 := cx.lt
  have hKf : -K ≤ f.leastPlace := by unfold K; omega
  generalize hmore : f.fractionBits + 2 + q - m1.log2 = more
  have hlog : m1.log2 ≤ f.fractionBits := by
    rcases Nat.eq_zero_or_pos m1 with h0 | h0
    · subst h0; simp
    · have : m1.log2 < f.fractionBits + 1 := by
        rw [Nat.log2_lt (by omega), Nat.pow_succ]
        unfold Format.binade at h2
        omega
      omega
  have hge : q ≤ more := by omega
  have hle : more ≤ 202 := by omega
  have hd : m1 <<< more / 2 ^ q = m1 * 2 ^ (more - q) := by
    rw [Nat.shiftLeft_eq, show more = (more - q) + q by omega, Nat.pow_add, ← Nat.mul_assoc, Nat.mul_div_cancel _ (Nat.two_pow_pos q)]
    congr 2
    omega
  have hmod : m1 <<< more % 2 ^ q = 0 := by
    rw [Nat.shiftLeft_eq, show more = (more - q) + q by omega, Nat.pow_add, ← Nat.mul_assoc, Nat.mul_mod_left]
  rw [hd, hmod]
  simp only [bne_self_eq_false, Bool.toNat_false, Nat.add_zero]
  have hplace : -K ≤ i - j - (more : Int) - 1 := by unfold K; omega
  refine isN_nearest hKf _ h hplace ?_
  -- the value
  have e1 : V (2 * (m1 * 2 ^ (more - q))) (i - j - (more : Int) - 1) = V m1 (i - j - q) := by
    have := V_shift m1 (i - j - (more : Int) - 1) (more - q + 1) hplace
    rw [show i - j - (more : Int) - 1 + ((more - q + 1 : Nat) : Int) = i - j - q by omega] at this
    rw [this]
    congr 1
    rw [Nat.pow_succ, Nat.mul_left_comm, Nat.mul_comm 2]
  rw [e1]
  -- both sides scaled by 2^(j+q)
  unfold K at hm
  unfold V K at hv ⊢
  obtain ⟨n1, hn1⟩ : ∃ n : Nat, i + 6000 = n := ⟨(i + 6000).toNat, by omega⟩
  obtain ⟨n2, hn2⟩ : ∃ n : Nat, e + j + q + 6000 = n := ⟨(e + j + q + 6000).toNat, by omega⟩
  rw [hn1, hn2] at hv
  simp only [Int.toNat_natCast] at hv
  have h3 := h.le
  obtain ⟨n3, hn3⟩ : ∃ n : Nat, i - j - q + 6000 = n := ⟨(i - j - q + 6000).toNat, by omega⟩
  obtain ⟨n4, hn4⟩ : ∃ n : Nat, e + 6000 = n := ⟨(e + 6000).toNat, by omega⟩
  rw [hn3, hn4]
  simp only [Int.toNat_natCast]
  rcases Nat.le_total n1 n2 with hle' | hle'
  · obtain ⟨d, rfl⟩ : ∃ d, n2 = n1 + d := ⟨n2 - n1, by omega⟩
    obtain rfl : n4 = n3 + d := by omega
    rw [Nat.pow_add, Nat.mul_comm (2 ^ n1), ← Nat.mul_assoc] at hv
    rw [Nat.pow_add, Nat.mul_comm (2 ^ n3), ← Nat.mul_assoc, Nat.eq_of_mul_eq_mul_right (Nat.two_pow_pos _) hv]
  · obtain ⟨d, rfl⟩ : ∃ d, n1 = n2 + d := ⟨n1 - n2, by omega⟩
    obtain rfl : n3 = n4 + d := by omega
    rw [Nat.pow_add, Nat.mul_comm (2 ^ n2), ← Nat.mul_assoc] at hv
    rw [Nat.pow_add, Nat.mul_comm (2 ^ n4), ← Nat.mul_assoc, Nat.eq_of_mul_eq_mul_right (Nat.two_pow_pos _) hv]
theorem toInt_isN {f : Format} (hK : -K ≤ f.leastPlace) {x : Nat} {s : Bool} {a : Nat} (hx : IsN f x s a) : (f.read x).toInt .zero = some (sv s (a / U)) := by
  obtain ⟨m, i, hrx, cx, _, _, rfl⟩ := hx
  have h1 := cx.le
  rw [hrx]
  unfold Datum.toInt Datum.integral Toward.cut
  simp only [Bool.toNat_false, Nat.add_zero, Nat.shiftLeft_eq]
  have key : m * 2 ^ i.toNat / (1 * 2 ^ (min (-i).toNat ((m * 2 ^ i.toNat).log2 + 2))) = V m i / U := by
    have hk := K_eq
    unfold V U
    rw [Nat.one_mul]
    by_cases hi : 0 ≤ i
    · rw [show (-i).toNat = 0 by omega, Nat.zero_min, Nat.pow_zero, Nat.div_one, show (i + K).toNat = i.toNat + kN by omega, Nat.pow_add, ← Nat.mul_assoc, Nat.mul_div_cancel _ (Nat.two_pow_pos _)]
    · obtain ⟨d, hd⟩ : ∃ d : Nat, i = -(d : Int) := ⟨(-i).toNat, by omega⟩
      subst hd
      rw [show (-(d : Int)).toNat = 0 by omega, show (-(-(d : Int))).toNat = d by omega, Nat.pow_zero, Nat.mul_one]
      have hdK : d ≤ kN := by omega
      have e1 : m * 2 ^ (-(d : Int) + K).toNat / 2 ^ kN = m / 2 ^ d := by
        have h2 : (2 : Nat) ^ kN = 2 ^ d * 2 ^ (-(d : Int) + K).toNat := by
          rw [← Nat.pow_add]; congr 1; omega
        rw [h2, Nat.mul_div_mul_right _ _ (Nat.two_pow_pos _)]
      rw [e1]
      by_cases hle : d ≤ m.log2 + 2
      · rw [Nat.min_eq_left hle]
      · rw [Nat.min_eq_right (by omega)]
        have hm : m < 2 ^ (m.log2 + 1) := Nat.lt_log2_self
        rw [Nat.div_eq_of_lt (Nat.lt_of_lt_of_le hm (Nat.pow_le_pow_right (by omega) (by omega))), Nat.div_eq_of_lt (Nat.lt_of_lt_of_le hm (Nat.pow_le_pow_right (by omega) (by omega)))]
  rw [key]
  unfold signed sv
  simp
end Fp
end
section
set_option linter.unusedSimpArgs false
set_option linter.unusedVariables false
namespace Fp
open Ieee
def sg (f : Format) (x : Nat) : Bool := decide (f.signWeight ≤ x)
def rg (f : Format) (x : Nat) : Nat := x % f.signWeight
def pl (f : Format) (x : Nat) : Int := sv (sg f x) (rg f x)
def nan (f : Format) (x : Nat) : Bool := decide (f.infRung < rg f x)
def fin (f : Format) (x : Nat) : Bool := decide (rg f x < f.infRung)
theorem sg_word {f : Format} {s : Bool} {r : Nat} (h : r < f.signWeight) : sg f (f.word s r) = s ∧ rg f (f.word s r) = r := by
  unfold sg rg
  refine ⟨?_, (word_div (s := s) h).2⟩
  cases s <;> simp [Format.word] <;> omega
theorem two_pow_width (f : Format) : 2 ^ f.width = 2 * f.signWeight := by
  unfold Format.width Format.signWeight
  rw [Nat.add_assoc, Nat.add_comm 1, Nat.pow_succ, Nat.mul_comm]
theorem rung_lt_iff {f : Format} (hK : -K ≤ f.leastPlace) {m m' : Nat} {e e' : Int} (c : Canon f m e) (c' : Canon f m' e') :
    (V m e < V m' e' ↔ rung f m e < rung f m' e') ∧ (V m e = V m' e' ↔ rung f m e = rung f m' e') := by
  have hb := binade_pos f
  have key : ∀ {m m' : Nat} {e e' : Int}, Canon f m e → Canon f m' e' → e < e' → V m e < V m' e' ∧ rung f m e < rung f m' e' := by
    intro m m' e e' c c' hlt
    have h1 := c.lt
    have h2 := c.le
    have h3 : f.binade ≤ m' := by
      rcases c'.full with h | h
      · omega
      · exact h
    constructor
    · obtain ⟨k, hk⟩ : ∃ k : Nat, e' = e + ((k + 1 : Nat) : Int) := ⟨(e' - e - 1).toNat, by omega⟩
      rw [hk, V_shift m' e (k + 1) (by omega)]
      unfold V
      apply Nat.mul_lt_mul_of_pos_right _ (Nat.two_pow_pos _)
      have : 2 * f.binade ≤ m' * 2 ^ (k + 1) := by
        rw [Nat.pow_succ, Nat.mul_comm 2, ← Nat.mul_assoc]
        have hp := Nat.two_pow_pos k
        exact Nat.mul_le_mul_right 2 (Nat.le_trans h3 (Nat.le_mul_of_pos_right _ hp))
      omega
    · unfold rung
      obtain ⟨a, ha⟩ : ∃ a : Nat, (e - f.leastPlace).toNat = a := ⟨_, rfl⟩
      obtain ⟨b, hb'⟩ : ∃ b : Nat, (e' - f.leastPlace).toNat = a + 1 + b := ⟨(e' - f.leastPlace).toNat - (a + 1), by omega⟩
      rw [ha, hb', Nat.add_mul, Nat.add_mul]
      omega
  rcases Int.lt_trichotomy e e' with h | h | h
  · obtain ⟨h1, h2⟩ := key c c' h
    constructor <;> constructor <;> intro <;> omega
  · subst h
    have hV : ∀ a b : Nat, (V a e < V b e ↔ a < b) ∧ (V a e = V b e ↔ a = b) := by
      intro a b
      unfold V
      have hp := Nat.two_pow_pos (e + K).toNat
      refine ⟨⟨fun h => Nat.lt_of_mul_lt_mul_right h, fun h => Nat.mul_lt_mul_of_pos_right h hp⟩, ⟨fun h => Nat.eq_of_mul_eq_mul_right hp h, fun h => by rw [h]⟩⟩
    rw [(hV m m').1, (hV m m').2]
    unfold rung
    constructor <;> constructor <;> intro <;> omega
  · obtain ⟨h1, h2⟩ := key c' c h
    constructor <;> constructor <;> intro <;> omega
theorem rung_zero_iff {f : Format} {m : Nat} {e : Int} (c : Canon f m e) : rung f m e = 0 ↔ V m e = 0 := by
  have hb := binade_pos f
  rw [V_eq_zero]
  unfold rung
  constructor
  · intro h; omega
  · rintro rfl
    have := canon_zero c
    subst this
    simp
theorem compare_eq_of {a b c d : Int} (h1 : a < b ↔ c < d) (h2 : a = b ↔ c = d) : compare a b = compare c d := by
  rw [compare_int, compare_int]
  simp only [h1, h2]
theorem order_pl {f : Format} (hK : -K ≤ f.leastPlace) (hf : f.binade ≤ f.infRung) {x y : Nat} (hx : x < 2 ^ f.width) (hy : y < 2 ^ f.width) (nx : nan f x = false) (ny : nan f y = false) :
    f.order x y = some (compare (pl f x) (pl f y)) := by
  have hs := infRung_add f
  have hb := binade_pos f
  rcases read_cases hf hx with ⟨s, m, e, hr, c, hlt, rfl⟩ | ⟨s, hr, rfl⟩ | ⟨s, t, hr, ht0, ht, rfl⟩
  · have gx := sg_word (f := f) (s := s) (r := rung f m e) (by omega)
    rcases read_cases hf hy with ⟨s', m', e', hr', c', hlt', rfl⟩ | ⟨s', hr', rfl⟩ | ⟨s', t', hr', ht0', ht', rfl⟩
    · have gy := sg_word (f := f) (s := s') (r := rung f m' e') (by omega)
      rw [order_isN hK ⟨m, e, hr, c, hlt, rfl, rfl⟩ ⟨m', e', hr', c', hlt', rfl, rfl⟩]
      congr 1
      unfold pl
      rw [gx.1, gx.2, gy.1, gy.2]
      have h := rung_lt_iff hK c c'
      have h' := rung_lt_iff hK c' c
      have z := rung_zero_iff c
      have z' := rung_zero_iff c'
      apply compare_eq_of
      · cases s <;> cases s' <;> simp only [sv] <;> simp <;> omega
      · cases s <;> cases s' <;> simp only [sv] <;> simp <;> omega
    · have gy := sg_word (f := f) (s := s') (r := f.infRung) (by omega)
      unfold Format.order Datum.order
      rw [hr, hr']
      simp only
      unfold pl
      rw [gx.1, gx.2, gy.1, gy.2, compare_int]
      cases s <;> cases s' <;> simp only [sv, if_true, if_false, Bool.false_eq_true, Bool.not_true, Bool.not_false] <;> first | (rw [if_pos (by omega)]; done) | (rw [if_neg (by omega), if_neg (by omega)]; done)
    · have gy := sg_word (f := f) (s := s') (r := f.infRung + t') (by omega)
      unfold nan at ny
      rw [gy.2] at ny
      simp at ny
      omega
  · have gx := sg_word (f := f) (s := s) (r := f.infRung) (by omega)
    rcases read_cases hf hy with ⟨s', m', e', hr', c', hlt', rfl⟩ | ⟨s', hr', rfl⟩ | ⟨s', t', hr', ht0', ht', rfl⟩
    · have gy := sg_word (f := f) (s := s') (r := rung f m' e') (by omega)
      unfold Format.order Datum.order
      rw [hr, hr']
      simp only
      unfold pl
      rw [gx.1, gx.2, gy.1, gy.2, compare_int]
      cases s <;> cases s' <;> simp only [sv, if_true, if_false, Bool.false_eq_true, Bool.not_true, Bool.not_false] <;> first | (rw [if_pos (by omega)]; done) | (rw [if_neg (by omega), if_neg (by omega)]; done)
    · have gy := sg_word (f := f) (s := s') (r := f.infRung) (by omega)
      unfold Format.order Datum.order
      rw [hr, hr']
      simp only
      unfold pl
      rw [gx.1, gx.2, gy.1, gy.2, compare_int]
      have : 0 < f.infRung := by omega
      cases s <;> cases s' <;> simp only [sv, if_true, if_false, Bool.false_eq_true, Bool.not_true, Bool.not_false, Bool.toNat_true, Bool.toNat_false] <;> first | (rw [if_pos (by omega)]; done) | (rw [if_neg (by omega), if_neg (by omega)]; rfl) | (rw [if_pos (by omega)]; rfl) | (rw [if_neg (by omega), if_pos rfl]; done) | (simp; done) | (simp; rfl)
    · have gy := sg_word (f := f) (s := s') (r := f.infRung + t') (by omega)
      unfold nan at ny
      rw [gy.2] at ny
      simp at ny
      omega
  · have gx := sg_word (f := f) (s := s) (r := f.infRung + t) (by omega)
    unfold nan at nx
    rw [gx.2] at nx
    simp at nx
    omega
theorem read_nan {f : Format} (hf : f.binade ≤ f.infRung) {x : Nat} (hx : x < 2 ^ f.width) (n : nan f x = true) : ∃ s t, f.read x = .nan s t := by
  have hs := infRung_add f
  have hb := binade_pos f
  rcases read_cases hf hx with ⟨s, m, e, hr, c, hlt, rfl⟩ | ⟨s, hr, rfl⟩ | ⟨s, t, hr, ht0, ht, rfl⟩
  · have gx := sg_word (f := f) (s := s) (r := rung f m e) (by omega)
    unfold nan at n
    rw [gx.2] at n
    simp at n
    omega
  · have gx := sg_word (f := f) (s := s) (r := f.infRung) (by omega)
    unfold nan at n
    rw [gx.2] at n
    simp at n
  · exact ⟨s, t, hr⟩
theorem order_nan {f : Format} (hf : f.binade ≤ f.infRung) {x y : Nat} (hx : x < 2 ^ f.width) (hy : y < 2 ^ f.width) (n : nan f x = true ∨ nan f y = true) : f.order x y = none := by
  unfold Format.order
  rcases n with n | n
  · obtain ⟨s, t, h⟩ := read_nan hf hx n
    rw [h]
    rfl
  · obtain ⟨s, t, h⟩ := read_nan hf hy n
    rw [h]
    cases f.read x <;> rfl
theorem isN_fin {f : Format} (hf : f.binade ≤ f.infRung) {x : Nat} (hx : x < 2 ^ f.width) (n : fin f x = true) : ∃ m e, f.read x = .number (sg f x) m e ∧ Canon f m e ∧ rung f m e = rg f x ∧ IsN f x (sg f x) (V m e) := by
  have hs := infRung_add f
  have hb := binade_pos f
  unfold fin at n
  simp only [decide_eq_true_eq] at n
  rcases read_cases hf hx with ⟨s, m, e, hr, c, hlt, rfl⟩ | ⟨s, hr, rfl⟩ | ⟨s, t, hr, ht0, ht, rfl⟩
  · have gx := sg_word (f := f) (s := s) (r := rung f m e) (by omega)
    refine ⟨m, e, ?_, c, gx.2.symm, m, e, ?_, c, hlt, ?_, rfl⟩
    · rw [gx.1]; exact hr
    · rw [gx.1]; exact hr
    · rw [gx.1]
  · have gx := sg_word (f := f) (s := s) (r := f.infRung) (by omega)
    rw [gx.2] at n
    omega
  · have gx := sg_word (f := f) (s := s) (r := f.infRung + t) (by omega)
    rw [gx.2] at n
    omega
theorem read_inf {f : Format} (hf : f.binade ≤ f.infRung) {x : Nat} (hx : x < 2 ^ f.width) (n : fin f x = false) (n' : nan f x = false) : f.read x = .infinity (sg f x) ∧ x = f.word (sg f x) f.infRung := by
  have hs := infRung_add f
  have hb := binade_pos f
  unfold fin at n
  unfold nan at n'
  simp only [decide_eq_false_iff_not] at n n'
  rcases read_cases hf hx with ⟨s, m, e, hr, c, hlt, rfl⟩ | ⟨s, hr, rfl⟩ | ⟨s, t, hr, ht0, ht, rfl⟩
  · have gx := sg_word (f := f) (s := s) (r := rung f m e) (by omega)
    rw [gx.2] at n
    omega
  · have gx := sg_word (f := f) (s := s) (r := f.infRung) (by omega)
    rw [gx.1]
    exact ⟨hr, rfl⟩
  · have gx := sg_word (f := f) (s := s) (r := f.infRung + t) (by omega)
    rw [gx.2] at n'
    omega
theorem lp32 : single.leastPlace = -149 := by decide
theorem lp64 : double.leastPlace = -1074 := by decide
theorem bi32 : single.binade = 8388608 := by decide
theorem bi64 : double.binade = 4503599627370496 := by decide
theorem ir32 : single.infRung = 2139095040 := by decide
theorem ir64 : double.infRung = 9218868437227405312 := by decide
theorem sw32 : single.signWeight = 2147483648 := by decide
theorem sw64 : double.signWeight = 9223372036854775808 := by decide
theorem wd32 : 2 ^ single.width = 4294967296 := by decide
theorem wd64 : 2 ^ double.width = 18446744073709551616 := by decide
theorem top32 : top single = 104 := by decide
theorem top64 : top double = 971 := by decide
theorem hK32 : -K ≤ single.leastPlace := by decide
theorem hK64 : -K ≤ double.leastPlace := by decide
theorem hf32 : single.binade ≤ single.infRung := by decide
theorem hf64 : double.binade ≤ double.infRung := by decide
end Fp
end
