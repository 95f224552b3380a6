/- Floats as exact numbers, second part: what products, quotients by powers of two, sums, comparisons and conversions give. Plain arithmetic over Ieee, no program. -/
import Derived.Test.YtgkdioklafndjaaFp
set_option linter.unusedSimpArgs false
set_option linter.unusedVariables false
namespace Fp
open Ieee

def sv (s : Bool) (v : Nat) : Int := if s then -(v : Int) else v

theorem V_zero (e : Int) : V 0 e = 0 := by simp [V]
theorem V_eq_zero {m : Nat} {e : Int} : V m e = 0 ↔ m = 0 := by
  unfold V
  constructor
  · intro h
    rcases Nat.mul_eq_zero.1 h with h | h
    · exact h
    · have := Nat.two_pow_pos (e + K).toNat; omega
  · rintro rfl; simp

theorem V_mul {m n : Nat} {i j : Int} (hi : -K ≤ i) (hj : -K ≤ j) (hij : -K ≤ i + j) : V m i * V n j = V (m * n) (i + j) * U := by
  have hk := K_eq
  unfold V U
  rw [Nat.mul_mul_mul_comm, ← Nat.pow_add, Nat.mul_assoc (m * n), ← Nat.pow_add]
  congr 2
  omega

theorem V_lower {m : Nat} {e b : Int} (hb : -K ≤ b) (he : b ≤ e) : V m e = m * 2 ^ (e - b).toNat * 2 ^ (b + K).toNat := by
  unfold V K at *
  rw [Nat.mul_assoc, ← Nat.pow_add]
  congr 2
  omega

theorem signed_sv {s : Bool} {m : Nat} {i b : Int} (hb : -K ≤ b) (hi : b ≤ i) : signed s m (i - b).toNat * ((2 ^ (b + K).toNat : Nat) : Int) = sv s (V m i) := by
  rw [V_lower hb hi]
  unfold signed sv
  rw [Nat.shiftLeft_eq]
  cases s <;> simp [Int.neg_mul]

theorem compare_int (a b : Int) : compare a b = if a < b then .lt else if a = b then .eq else .gt := rfl

theorem compare_scale (a b : Int) (k : Nat) (hk : 0 < k) : compare (a * (k : Int)) (b * (k : Int)) = compare a b := by
  rw [compare_int, compare_int]
  have h1 : a * (k : Int) < b * (k : Int) ↔ a < b := by
    constructor
    · intro h; exact Int.lt_of_mul_lt_mul_right h (by omega)
    · intro h; exact Int.mul_lt_mul_of_pos_right h (by omega)
  have h2 : a * (k : Int) = b * (k : Int) ↔ a = b := by
    constructor
    · intro h; exact Int.eq_of_mul_eq_mul_right (by omega) h
    · rintro rfl; rfl
  simp only [h1, h2]

theorem order_isN {f : Format} (hK : -K ≤ f.leastPlace) {x y : Nat} {s t : Bool} {a b : Nat} (hx : IsN f x s a) (hy : IsN f y t b) : f.order x y = some (compare (sv s a) (sv t b)) := by
  obtain ⟨m, i, hrx, cx, _, _, rfl⟩ := hx
  obtain ⟨n, j, hry, cy, _, _, rfl⟩ := hy
  unfold Format.order Datum.order
  rw [hrx, hry]
  simp only
  have h1 := cx.le
  have h2 := cy.le
  have hb : -K ≤ min i j := by omega
  rw [← signed_sv (s := s) (m := m) hb (Int.min_le_left i j), ← signed_sv (s := t) (m := n) hb (Int.min_le_right i j), compare_scale _ _ _ (Nat.two_pow_pos _)]

theorem mul_isN {f : Format} (hK : -3000 ≤ f.leastPlace) {x y : Nat} {s t : Bool} {a b m : Nat} {e : Int} (hx : IsN f x s a) (hy : IsN f y t b) (h : Rp f m e) (hv : a * b = V m e * U) :
    ∃ r, f.mul x y = some r ∧ IsN f r (s ^^ t) (V m e) := by
  obtain ⟨m1, i, hrx, cx, _, _, rfl⟩ := hx
  obtain ⟨n1, j, hry, cy, _, _, rfl⟩ := hy
  unfold Format.mul Datum.product
  rw [hrx, hry]
  simp only [Option.map_some]
  have h1 := cx.le
  have h2 := cy.le
  have hij : -K ≤ i + j := by unfold K; omega
  refine ⟨_, rfl, ?_⟩
  unfold Format.write
  refine isN_nearest (by unfold K; omega) _ h hij ?_
  rw [V_mul (by unfold K; omega) (by unfold K; omega) hij] at hv
  exact Nat.eq_of_mul_eq_mul_right U_pos hv

theorem add_isN {f : Format} (hK : -K ≤ f.leastPlace) {x y : Nat} {s t : Bool} {a b m : Nat} {e : Int} (hx : IsN f x s a) (hy : IsN f y t b) (h : Rp f m e) (hv : (sv s a + sv t b).natAbs = V m e) :
    ∃ r, f.add x y = some r ∧ IsN f r (if sv s a + sv t b = 0 then s && t else decide (sv s a + sv t b < 0)) (V m e) := by
  obtain ⟨m1, i, hrx, cx, _, _, rfl⟩ := hx
  obtain ⟨n1, j, hry, cy, _, _, rfl⟩ := hy
  unfold Format.add Datum.sum
  rw [hrx, hry]
  simp only [Option.map_some]
  have h1 := cx.le
  have h2 := cy.le
  have hb : -K ≤ min i j := by omega
  have e1 := signed_sv (s := s) (m := m1) hb (Int.min_le_left i j)
  have e2 := signed_sv (s := t) (m := n1) hb (Int.min_le_right i j)
  generalize hA : signed s m1 (i - min i j).toNat = A at *
  generalize hB : signed t n1 (j - min i j).toNat = B at *
  have hp := Nat.two_pow_pos (min i j + K).toNat
  generalize hP : 2 ^ (min i j + K).toNat = Pw at *
  have hsum : (A + B) * (Pw : Int) = sv s (V m1 i) + sv t (V n1 j) := by rw [Int.add_mul, e1, e2]
  have hz : (A + B = 0) ↔ (sv s (V m1 i) + sv t (V n1 j) = 0) := by
    rw [← hsum]
    constructor
    · intro h; rw [h]; simp
    · intro h
      rcases Int.mul_eq_zero.1 h with h | h
      · exact h
      · omega
  have hl : (A + B < 0) ↔ (sv s (V m1 i) + sv t (V n1 j) < 0) := by
    rw [← hsum]
    constructor
    · intro h; exact Int.mul_neg_of_neg_of_pos h (by omega)
    · intro h
      rcases Int.lt_or_le (A + B) 0 with h' | h'
      · exact h'
      · have := Int.mul_nonneg h' (Int.natCast_nonneg Pw); omega
  refine ⟨_, rfl, ?_⟩
  unfold Format.write
  have hval : V (A + B).natAbs (min i j) = V m e := by
    rw [← hv, ← hsum, Int.natAbs_mul]
    unfold V
    rw [hP]; simp
  have hr := isN_nearest hK (if A + B = 0 then s && t else decide (A + B < 0)) h hb hval
  by_cases hz' : A + B = 0
  · have hz2 := hz.1 hz'
    simp only [hz', hz2, if_true] at hr ⊢
    exact hr
  · have hz2 : ¬ (sv s (V m1 i) + sv t (V n1 j) = 0) := fun h => hz' (hz.2 h)
    simp only [hz', hz2, if_false] at hr ⊢
    have : decide (A + B < 0) = decide (sv s (V m1 i) + sv t (V n1 j) < 0) := by simp only [hl]
    rw [← this]
    exact hr

theorem IsN.opposite {f : Format} {b : Nat} {s : Bool} {v : Nat} (h : IsN f b s v) : ∃ m e, (f.read b).opposite = .number (!s) m e ∧ Canon f m e ∧ V m e = v := by
  obtain ⟨m, e, hr, c, _, _, hv⟩ := h
  exact ⟨m, e, by rw [hr]; rfl, c, hv⟩

theorem sub_self {f : Format} {x : Nat} {s : Bool} {a : Nat} (hx : IsN f x s a) : ∃ r, f.sub x x = some r ∧ r = f.word false 0 := by
  obtain ⟨m1, i, hrx, cx, _, _, rfl⟩ := hx
  unfold Format.sub Datum.sum Datum.opposite
  rw [hrx]
  simp only [Option.map_some]
  refine ⟨_, rfl, ?_⟩
  have : signed s m1 (i - min i i).toNat + signed (!s) m1 (i - min i i).toNat = 0 := by
    unfold signed
    cases s <;> simp <;> omega
  rw [this]
  cases s <;> simp [Format.write, Format.nearest]

/-- A quotient by a power of two. -/
theorem div_isN {f : Format} (hK : -2000 ≤ f.leastPlace) (hfb : f.fractionBits ≤ 100) {x y : Nat} {s t : Bool} {a m q : Nat} {e j : Int} (hx : IsN f x s a) (hy : f.read y = .number t (2 ^ q) j) (hq : q ≤ 100) (hj : -1000 ≤ j) (hj' : j ≤ 1000)
    (h : Rp f m e) (hv : a = V m (e + j + q)) (hm : -K ≤ e + j + q) :
    ∃ r, f.div x y = some r ∧ IsN f r (s ^^ t) (V m e) := by
  obtain ⟨m1, i, hrx, cx, hrg, _, rfl⟩ := hx
  unfold Format.div Datum.quotient
  rw [hrx, hy]
  have hq0 : ¬ (2 ^ q = 0) := by have := Nat.two_pow_pos q; omega
  simp only [hq0, if_false, Option.map_some, Nat.log2_two_pow]
  refine ⟨_, rfl, ?_⟩
  unfold Format.write
  have h1 := cx.le
  have h2 := cx.lt
  have hKf : -K ≤ f.leastPlace := by unfold K; omega
  generalize hmore : f.fractionBits + 2 + q - m1.log2 = more
  have hlog : m1.log2 ≤ f.fractionBits := by
    rcases Nat.eq_zero_or_pos m1 with h0 | h0
    · subst h0; simp
    · have : m1.log2 < f.fractionBits + 1 := by
        rw [Nat.log2_lt (by omega), Nat.pow_succ]
        unfold Format.binade at h2
        omega
      omega
  have hge : q ≤ more := by omega
  have hle : more ≤ 202 := by omega
  have hd : m1 <<< more / 2 ^ q = m1 * 2 ^ (more - q) := by
    rw [Nat.shiftLeft_eq, show more = (more - q) + q by omega, Nat.pow_add, ← Nat.mul_assoc, Nat.mul_div_cancel _ (Nat.two_pow_pos q)]
    congr 2
    omega
  have hmod : m1 <<< more % 2 ^ q = 0 := by
    rw [Nat.shiftLeft_eq, show more = (more - q) + q by omega, Nat.pow_add, ← Nat.mul_assoc, Nat.mul_mod_left]
  rw [hd, hmod]
  simp only [bne_self_eq_false, Bool.toNat_false, Nat.add_zero]
  have hplace : -K ≤ i - j - (more : Int) - 1 := by unfold K; omega
  refine isN_nearest hKf _ h hplace ?_
  -- the value
  have e1 : V (2 * (m1 * 2 ^ (more - q))) (i - j - (more : Int) - 1) = V m1 (i - j - q) := by
    have := V_shift m1 (i - j - (more : Int) - 1) (more - q + 1) hplace
    rw [show i - j - (more : Int) - 1 + ((more - q + 1 : Nat) : Int) = i - j - q by omega] at this
    rw [this]
    congr 1
    rw [Nat.pow_succ, Nat.mul_left_comm, Nat.mul_comm 2]
  rw [e1]
  -- both sides scaled by 2^(j+q)
  unfold K at hm
  unfold V K at hv ⊢
  obtain ⟨n1, hn1⟩ : ∃ n : Nat, i + 6000 = n := ⟨(i + 6000).toNat, by omega⟩
  obtain ⟨n2, hn2⟩ : ∃ n : Nat, e + j + q + 6000 = n := ⟨(e + j + q + 6000).toNat, by omega⟩
  rw [hn1, hn2] at hv
  simp only [Int.toNat_natCast] at hv
  have h3 := h.le
  obtain ⟨n3, hn3⟩ : ∃ n : Nat, i - j - q + 6000 = n := ⟨(i - j - q + 6000).toNat, by omega⟩
  obtain ⟨n4, hn4⟩ : ∃ n : Nat, e + 6000 = n := ⟨(e + 6000).toNat, by omega⟩
  rw [hn3, hn4]
  simp only [Int.toNat_natCast]
  rcases Nat.le_total n1 n2 with hle' | hle'
  · obtain ⟨d, rfl⟩ : ∃ d, n2 = n1 + d := ⟨n2 - n1, by omega⟩
    obtain rfl : n4 = n3 + d := by omega
    rw [Nat.pow_add, Nat.mul_comm (2 ^ n1), ← Nat.mul_assoc] at hv
    rw [Nat.pow_add, Nat.mul_comm (2 ^ n3), ← Nat.mul_assoc, Nat.eq_of_mul_eq_mul_right (Nat.two_pow_pos _) hv]
  · obtain ⟨d, rfl⟩ : ∃ d, n1 = n2 + d := ⟨n1 - n2, by omega⟩
    obtain rfl : n3 = n4 + d := by omega
    rw [Nat.pow_add, Nat.mul_comm (2 ^ n2), ← Nat.mul_assoc] at hv
    rw [Nat.pow_add, Nat.mul_comm (2 ^ n4), ← Nat.mul_assoc, Nat.eq_of_mul_eq_mul_right (Nat.two_pow_pos _) hv]

/-- A number cut towards zero. -/
theorem toInt_isN {f : Format} (hK : -K ≤ f.leastPlace) {x : Nat} {s : Bool} {a : Nat} (hx : IsN f x s a) : (f.read x).toInt .zero = some (sv s (a / U)) := by
  obtain ⟨m, i, hrx, cx, _, _, rfl⟩ := hx
  have h1 := cx.le
  rw [hrx]
  unfold Datum.toInt Datum.integral Toward.cut
  simp only [Bool.toNat_false, Nat.add_zero, Nat.shiftLeft_eq]
  have key : m * 2 ^ i.toNat / (1 * 2 ^ (min (-i).toNat ((m * 2 ^ i.toNat).log2 + 2))) = V m i / U := by
    have hk := K_eq
    unfold V U
    rw [Nat.one_mul]
    by_cases hi : 0 ≤ i
    · rw [show (-i).toNat = 0 by omega, Nat.zero_min, Nat.pow_zero, Nat.div_one, show (i + K).toNat = i.toNat + kN by omega, Nat.pow_add, ← Nat.mul_assoc, Nat.mul_div_cancel _ (Nat.two_pow_pos _)]
    · obtain ⟨d, hd⟩ : ∃ d : Nat, i = -(d : Int) := ⟨(-i).toNat, by omega⟩
      subst hd
      rw [show (-(d : Int)).toNat = 0 by omega, show (-(-(d : Int))).toNat = d by omega, Nat.pow_zero, Nat.mul_one]
      have hdK : d ≤ kN := by omega
      have e1 : m * 2 ^ (-(d : Int) + K).toNat / 2 ^ kN = m / 2 ^ d := by
        have h2 : (2 : Nat) ^ kN = 2 ^ d * 2 ^ (-(d : Int) + K).toNat := by
          rw [← Nat.pow_add]; congr 1; omega
        rw [h2, Nat.mul_div_mul_right _ _ (Nat.two_pow_pos _)]
      rw [e1]
      by_cases hle : d ≤ m.log2 + 2
      · rw [Nat.min_eq_left hle]
      · rw [Nat.min_eq_right (by omega)]
        have hm : m < 2 ^ (m.log2 + 1) := Nat.lt_log2_self
        rw [Nat.div_eq_of_lt (Nat.lt_of_lt_of_le hm (Nat.pow_le_pow_right (by omega) (by omega))), Nat.div_eq_of_lt (Nat.lt_of_lt_of_le hm (Nat.pow_le_pow_right (by omega) (by omega)))]
  rw [key]
  unfold signed sv
  simp

end Fp
