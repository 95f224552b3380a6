/- Digits: taking, setting, comparing, trimming. Plain arithmetic, no program. -/
import Derived.Test.YtoincbboapclpaaDg
set_option linter.unusedSimpArgs false
set_option linter.unusedVariables false
namespace Dg
variable {B : Nat}

theorem getD_lt {l : List Int} {i : Nat} (h : i < l.length) : l.getD i 0 = l[i] := by simp [List.getD, h]
theorem getD_ge {l : List Int} {i : Nat} (h : l.length ≤ i) : l.getD i 0 = 0 := by simp [List.getD, List.getElem?_eq_none h]

theorem val_take_succ {l : List Int} {i : Nat} (hi : i < l.length) : val B (l.take (i + 1)) = val B (l.take i) + (B : Int) ^ i * l.getD i 0 := by
  rw [List.take_succ_eq_append_getElem hi, val_snoc, List.length_take, Nat.min_eq_left (by omega), getD_lt hi]

/-- The same beyond the end. -/
theorem val_take_succ' (l : List Int) (i : Nat) : val B (l.take (i + 1)) = val B (l.take i) + (B : Int) ^ i * l.getD i 0 := by
  by_cases hi : i < l.length
  · exact val_take_succ hi
  · rw [getD_ge (by omega), List.take_of_length_le (by omega), List.take_of_length_le (by omega)]; simp

theorem val_drop {l : List Int} {i : Nat} (hi : i < l.length) : val B (l.drop i) = l.getD i 0 + (B : Int) * val B (l.drop (i + 1)) := by
  rw [List.drop_eq_getElem_cons hi, val_cons, getD_lt hi]

theorem val_drop' (l : List Int) (i : Nat) : val B (l.drop i) = l.getD i 0 + (B : Int) * val B (l.drop (i + 1)) := by
  by_cases hi : i < l.length
  · exact val_drop hi
  · rw [getD_ge (by omega), List.drop_of_length_le (by omega), List.drop_of_length_le (by omega), val_nil]; simp

theorem val_set {l : List Int} {i : Nat} (hi : i < l.length) (x : Int) : val B (l.set i x) = val B l + (B : Int) ^ i * (x - l.getD i 0) := by
  induction l generalizing i with
  | nil => simp at hi
  | cons d l ih =>
    cases i with
    | zero => simp [List.set, val_cons]; omega
    | succ i =>
      have hi' : i < l.length := by simpa using hi
      rw [List.set_cons_succ, val_cons, val_cons, ih hi', List.getD_cons_succ]
      grind

theorem getD_set_eq {l : List Int} {i : Nat} (hi : i < l.length) (x : Int) : (l.set i x).getD i 0 = x := by
  rw [getD_lt (by simpa using hi)]; simp

theorem getD_set_ne {l : List Int} {i j : Nat} (h : i ≠ j) (x : Int) : (l.set i x).getD j 0 = l.getD j 0 := by
  simp [List.getD, List.getElem?_set_ne h]

theorem take_set {l : List Int} {i : Nat} (x : Int) : (l.set i x).take i = l.take i := by
  rw [List.take_set, List.set_eq_of_length_le (by simp; omega)]

theorem Dig.all0 {l : List Int} (h : Dig B l) (hB : 0 < B) : ∀ i, 0 ≤ l.getD i 0 ∧ l.getD i 0 < (B : Int) := h.getD hB

/-- Shorter lists of digits stand for lesser numbers. -/
theorem val_lt_of_length (hB : 2 ≤ B) {a b : List Int} (ha : Dig B a) (hb : Dig B b) (ht : Top b) (h : a.length < b.length) : val B a < val B b := by
  have h1 := val_lt hB ha
  have hne : b ≠ [] := by intro e; subst e; simp at h
  obtain ⟨l, d, rfl⟩ : ∃ l d, b = l ++ [d] := ⟨b.dropLast, b.getLast hne, (List.dropLast_concat_getLast hne).symm⟩
  rw [val_snoc]
  have hd : 0 ≤ d ∧ d < (B : Int) := hb d (by simp)
  have hd0 : d ≠ 0 := by
    intro e; subst e
    exact ht (by simp) (by simp)
  have hl := val_nonneg (l := l) (fun x hx => hb x (by simp [hx]))
  have hle : a.length ≤ l.length := by simp at h; omega
  have h2 : (B : Int) ^ a.length ≤ (B : Int) ^ l.length := by
    have := Nat.pow_le_pow_right (n := B) (by omega) hle
    exact_mod_cast this
  have h3 : (B : Int) ^ l.length * 1 ≤ (B : Int) ^ l.length * d := Int.mul_le_mul_of_nonneg_left (by omega) (Int.le_of_lt (pow_pos hB _))
  omega

/-- Lists that are one from a digit on, and less at it. -/
theorem val_lt_of_digit (hB : 2 ≤ B) {a b : List Int} (ha : Dig B a) (hb : Dig B b) (i : Nat) (h : a.drop (i + 1) = b.drop (i + 1)) (hi : i < b.length) (hlt : a.getD i 0 < b.getD i 0) : val B a < val B b := by
  have e1 : val B a = val B (a.take i) + (B : Int) ^ i * val B (a.drop i) := by
    by_cases hk : i ≤ a.length
    · exact val_take_drop a i hk
    · have hd := congrArg List.length h
      simp at hd
      rw [List.take_of_length_le (by omega), List.drop_of_length_le (by omega), val_nil]; simp
  have e2 := val_take_drop (B := B) b i (by omega)
  rw [val_drop' a i] at e1
  rw [val_drop' b i] at e2
  rw [h] at e1
  have h1 := val_lt hB (ha.take i)
  have h2 := val_nonneg (hb.take i)
  have h3 : (B : Int) ^ (a.take i).length ≤ (B : Int) ^ i := by
    have := Nat.pow_le_pow_right (n := B) (by omega) (show (a.take i).length ≤ i by simp; omega)
    exact_mod_cast this
  have h4 : (B : Int) ^ i * (a.getD i 0 + 1) ≤ (B : Int) ^ i * b.getD i 0 := Int.mul_le_mul_of_nonneg_left (by omega) (Int.le_of_lt (pow_pos hB _))
  rw [Int.mul_add] at e1 e2 h4
  omega

theorem ext_val (hB : 2 ≤ B) {a b : List Int} (ha : Dig B a) (hb : Dig B b) (ta : Top a) (tb : Top b) (h : val B a = val B b) : a = b := by
  have h1 := val_nonneg ha
  have := dg_of hB ha ta
  rw [h, dg_of hB hb tb] at this
  exact this.symm

theorem top_take_of {l : List Int} {n : Nat} (hn : n ≤ l.length) (h : n = 0 ∨ l.getD (n - 1) 0 ≠ 0) : Top (l.take n) := by
  intro hne h2
  rcases h with rfl | h
  · simp at hne
  · have hn0 : n ≠ 0 := by rintro rfl; simp at hne
    rw [List.getLast?_eq_getElem?, List.length_take, Nat.min_eq_left hn, List.getElem?_take_of_lt (by omega)] at h2
    rw [List.getD, h2] at h
    simp at h

theorem top_iff {l : List Int} : Top l ↔ l = [] ∨ l.getD (l.length - 1) 0 ≠ 0 := by
  constructor
  · intro h
    by_cases hl : l = []
    · exact .inl hl
    · right
      have h1 := h hl
      rw [List.getLast?_eq_getElem?] at h1
      have : 0 < l.length := List.length_pos_iff.2 hl
      rw [getD_lt (by omega)]
      rw [List.getElem?_eq_getElem (by omega)] at h1
      simpa using h1
  · intro h
    have := top_take_of (l := l) (n := l.length) (Nat.le_refl _) (by rcases h with rfl | h <;> simp_all)
    simpa using this

theorem val_take_zero {l : List Int} {n : Nat} (hn : n < l.length) (h : l.getD n 0 = 0) : val B (l.take (n + 1)) = val B (l.take n) := by
  rw [val_take_succ hn, h]; simp

theorem dig_replicate (hB : 0 < B) (k : Nat) : Dig B (List.replicate k 0) := fun d hd => by
  rw [List.eq_of_mem_replicate hd]; omega

theorem dig_of_getD {l : List Int} (h : ∀ i, i < l.length → 0 ≤ l.getD i 0 ∧ l.getD i 0 < (B : Int)) : Dig B l := fun d hd => by
  obtain ⟨i, hi, rfl⟩ := List.getElem_of_mem hd
  have := h i hi
  rwa [getD_lt hi] at this

theorem dg_length_lt {hB : 2 ≤ B} {n k : Nat} (h : B ^ k ≤ n) : k < (dg B hB n).length := by
  rcases Nat.lt_or_ge k (dg B hB n).length with h1 | h1
  · exact h1
  · have := lt_of_dg_length hB (n := n)
    have := Nat.pow_le_pow_right (n := B) (by omega) h1
    omega

theorem dg_getD (hB : 2 ≤ B) (n i : Nat) : (dg B hB n).getD i 0 = ((n / B ^ i % B : Nat) : Int) := by
  induction i generalizing n with
  | zero =>
    by_cases h : n = 0
    · subst h; rw [dg_zero]; simp
    · rw [dg_pos hB h]; simp
  | succ i ih =>
    by_cases h : n = 0
    · subst h; rw [dg_zero]; simp
    · rw [dg_pos hB h, List.getD_cons_succ, ih, Nat.div_div_eq_div_mul, Nat.pow_succ, Nat.mul_comm B]

/-- A number, cut behind digits. -/
theorem val_div_mod (hB : 2 ≤ B) {l : List Int} (h : Dig B l) (k : Nat) : val B l / (B : Int) ^ k = val B (l.drop k) ∧ val B l % (B : Int) ^ k = val B (l.take k) := by
  have hp := pow_pos hB k
  by_cases hk : k ≤ l.length
  · have e := val_take_drop (B := B) l k hk
    have h1 := val_nonneg (h.take k)
    have h2 := val_lt hB (h.take k)
    rw [List.length_take, Nat.min_eq_left hk] at h2
    constructor
    · rw [e, Int.add_mul_ediv_left _ _ (by omega), Int.ediv_eq_zero_of_lt h1 h2, Int.zero_add]
    · rw [e, Int.add_mul_emod_self_left, Int.emod_eq_of_lt h1 h2]
  · have h1 := val_nonneg h
    have h2 := val_lt hB h
    have h3 : (B : Int) ^ l.length ≤ (B : Int) ^ k := by
      have := Nat.pow_le_pow_right (n := B) (by omega) (show l.length ≤ k by omega)
      exact_mod_cast this
    rw [List.drop_of_length_le (by omega), List.take_of_length_le (by omega), val_nil, Int.ediv_eq_zero_of_lt h1 (by omega), Int.emod_eq_of_lt h1 (by omega)]
    exact ⟨rfl, rfl⟩

end Dg
