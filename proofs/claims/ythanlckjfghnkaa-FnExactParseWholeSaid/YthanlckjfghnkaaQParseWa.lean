/- Lemmas of the claim: Dg, Dh, Di, Dj, Dk, Dv, Dw, Dx, Du. -/
section
set_option linter.unusedSimpArgs false
set_option linter.unusedVariables false
namespace Dg
def val (B : Nat) : List Int → Int
  | [] => 0
  | d :: l => d + (B : Int) * val B l
def Dig (B : Nat) (l : List Int) : Prop := ∀ d ∈ l, 0 ≤ d ∧ d < (B : Int)
def dg (B : Nat) (hB : 2 ≤ B) (n : Nat) : List Int :=
  if h : n = 0 then [] else ((n % B : Nat) : Int) :: dg B hB (n / B)
termination_by n
decreasing_by exact Nat.div_lt_self (Nat.pos_of_ne_zero h) hB
variable {B : Nat} (hB : 2 ≤ B)
theorem dg_zero : dg B hB 0 = [] := by rw [dg]; simp
theorem dg_pos {n : Nat} (h : n ≠ 0) : dg B hB n = ((n % B : Nat) : Int) :: dg B hB (n / B) := by rw [dg]; simp [h]
theorem Dig.nil : Dig B [] := fun _ h => by simp at h
theorem Dig.cons {d : Int} {l : List Int} (h0 : 0 ≤ d) (h1 : d < (B : Int)) (h : Dig B l) : Dig B (d :: l) := by
  intro x hx
  rcases List.mem_cons.1 hx with rfl | hx
  · exact ⟨h0, h1⟩
  · exact h x hx
theorem Dig.head {d : Int} {l : List Int} (h : Dig B (d :: l)) : 0 ≤ d ∧ d < (B : Int) := h d (by simp)
theorem Dig.tail {d : Int} {l : List Int} (h : Dig B (d :: l)) : Dig B l := fun x hx => h x (by simp [hx])
theorem Dig.append {l m : List Int} (h : Dig B l) (k : Dig B m) : Dig B (l ++ m) := fun x hx => by
  rcases List.mem_append.1 hx with hx | hx
  · exact h x hx
  · exact k x hx
theorem Dig.take {l : List Int} (h : Dig B l) (k : Nat) : Dig B (l.take k) := fun x hx => h x (List.mem_of_mem_take hx)
theorem Dig.drop {l : List Int} (h : Dig B l) (k : Nat) : Dig B (l.drop k) := fun x hx => h x (List.mem_of_mem_drop hx)
theorem Dig.getD {l : List Int} (h : Dig B l) (hB0 : 0 < B) (i : Nat) : 0 ≤ l.getD i 0 ∧ l.getD i 0 < (B : Int) := by
  rcases Nat.lt_or_ge i l.length with hi | hi
  · have : l.getD i 0 = l[i] := by simp [List.getD, hi]
    rw [this]; exact h _ (List.getElem_mem hi)
  · have : l.getD i 0 = 0 := by simp [List.getD, List.getElem?_eq_none hi]
    rw [this]; omega
theorem Dig.set {l : List Int} (h : Dig B l) (i : Nat) {d : Int} (h0 : 0 ≤ d) (h1 : d < (B : Int)) : Dig B (l.set i d) := fun x hx => by
  rcases List.mem_or_eq_of_mem_set hx with hx | rfl
  · exact h x hx
  · exact ⟨h0, h1⟩
theorem val_nil : val B [] = 0 := rfl
theorem val_cons (d : Int) (l : List Int) : val B (d :: l) = d + (B : Int) * val B l := rfl
theorem val_append (l m : List Int) : val B (l ++ m) = val B l + (B : Int) ^ l.length * val B m := by
  induction l with
  | nil => simp [val]
  | cons d l ih =>
    rw [List.cons_append, val_cons, val_cons, ih, List.length_cons, Int.pow_succ, Int.mul_add, Int.add_assoc]
    congr 2
    rw [← Int.mul_assoc, Int.mul_comm (B : Int)]
theorem val_snoc (l : List Int) (d : Int) : val B (l ++ [d]) = val B l + (B : Int) ^ l.length * d := by
  rw [val_append, val_cons, val_nil, Int.mul_zero, Int.add_zero]
theorem val_zeros (k : Nat) : val B (List.replicate k 0) = 0 := by
  induction k with
  | zero => rfl
  | succ k ih => rw [List.replicate_succ, val_cons, ih]; simp
theorem pow_pos (hB : 2 ≤ B) (k : Nat) : (0 : Int) < (B : Int) ^ k := Int.pow_pos (by omega)
theorem val_nonneg {l : List Int} (h : Dig B l) : 0 ≤ val B l := by
  induction l with
  | nil => exact Int.le_refl _
  | cons d l ih =>
    rw [val_cons]
    have := Int.mul_nonneg (Int.natCast_nonneg B) (ih h.tail)
    have := h.head
    omega
theorem val_lt (hB : 2 ≤ B) {l : List Int} (h : Dig B l) : val B l < (B : Int) ^ l.length := by
  induction l with
  | nil => simp [val]
  | cons d l ih =>
    rw [val_cons, List.length_cons, Int.pow_succ, Int.mul_comm _ (B : Int)]
    have h1 := ih h.tail
    have h2 := h.head
    have : (B : Int) * (val B l + 1) ≤ (B : Int) * (B : Int) ^ l.length := Int.mul_le_mul_of_nonneg_left (by omega) (by omega)
    rw [Int.mul_add] at this
    omega
theorem val_take_drop (l : List Int) (k : Nat) (hk : k ≤ l.length) : val B l = val B (l.take k) + (B : Int) ^ k * val B (l.drop k) := by
  have := val_append (B := B) (l.take k) (l.drop k)
  rw [List.take_append_drop, List.length_take, Nat.min_eq_left hk] at this
  exact this
def Top (l : List Int) : Prop := l ≠ [] → l.getLast? ≠ some 0
theorem Top.tail {d : Int} {l : List Int} (h : Top (d :: l)) : Top l := by
  intro hl h2
  apply h (by simp)
  rw [List.getLast?_cons, h2]
  simp
theorem val_pos {l : List Int} (h : Dig B l) (ht : Top l) (hl : l ≠ []) (hB : 2 ≤ B) : 0 < val B l := by
  induction l with
  | nil => exact absurd rfl hl
  | cons d l ih =>
    rw [val_cons]
    have h1 := h.head
    by_cases hl2 : l = []
    · subst hl2
      have : d ≠ 0 := fun hd => ht (by simp) (by rw [hd]; rfl)
      rw [val_nil]; omega
    · have h2 := ih h.tail ht.tail hl2
      have := Int.mul_pos (show (0 : Int) < B by omega) h2
      omega
theorem dg_dig (n : Nat) : Dig B (dg B hB n) := by
  induction n using Nat.strongRecOn with
  | ind n ih =>
    by_cases h : n = 0
    · subst h; rw [dg_zero]; exact Dig.nil
    · rw [dg_pos hB h]
      have := Nat.mod_lt n (show 0 < B by omega)
      exact Dig.cons (by omega) (by omega) (ih _ (Nat.div_lt_self (Nat.pos_of_ne_zero h) hB))
theorem dg_val (n : Nat) : val B (dg B hB n) = n := by
  induction n using Nat.strongRecOn with
  | ind n ih =>
    by_cases h : n = 0
    · subst h; rw [dg_zero]; rfl
    · rw [dg_pos hB h, val_cons, ih _ (Nat.div_lt_self (Nat.pos_of_ne_zero h) hB)]
      have := Nat.mod_add_div n B
      rw [← Int.natCast_mul, ← Int.natCast_add, this]
theorem dg_top (n : Nat) : Top (dg B hB n) := by
  induction n using Nat.strongRecOn with
  | ind n ih =>
    by_cases h : n = 0
    · subst h; rw [dg_zero]; intro h; exact absurd rfl h
    · rw [dg_pos hB h]
      intro _ h2
      have h3 := ih _ (Nat.div_lt_self (Nat.pos_of_ne_zero h) hB)
      by_cases h4 : n / B = 0
      · rw [h4, dg_zero] at h2
        simp at h2
        have h5 : n < B := by
          rcases Nat.div_eq_zero_iff.1 h4 with h | h <;> omega
        rw [← Int.natCast_emod, Nat.mod_eq_of_lt h5] at h2
        omega
      · rw [List.getLast?_cons] at h2
        have h5 := h3 (by rw [dg_pos hB h4]; simp)
        cases hg : (dg B hB (n / B)).getLast? with
        | none => rw [List.getLast?_eq_none_iff] at hg; rw [dg_pos hB h4] at hg; simp at hg
        | some x => rw [hg] at h2 h5; simp at h2 h5; exact h5 h2
theorem dg_of {l : List Int} (h : Dig B l) (ht : Top l) : dg B hB (val B l).toNat = l := by
  induction l with
  | nil => exact dg_zero hB
  | cons d l ih =>
    have hp := val_pos h ht (by simp) hB
    have h0 := val_nonneg h.tail
    have h1 := h.head
    have hv : (val B (d :: l)).toNat = d.toNat + B * (val B l).toNat := by
      rw [val_cons]
      obtain ⟨a, ha⟩ := Int.eq_ofNat_of_zero_le h0
      obtain ⟨b, hb⟩ := Int.eq_ofNat_of_zero_le h1.1
      rw [ha, hb]
      simp only [Int.toNat_natCast]
      rw [← Int.natCast_mul, ← Int.natCast_add, Int.toNat_natCast]
    rw [dg_pos hB (by omega), hv]
    have hd : d.toNat < B := by omega
    rw [Nat.add_mul_mod_self_left, Nat.mod_eq_of_lt hd, Nat.add_mul_div_left _ _ (by omega), Nat.div_eq_of_lt hd, Nat.zero_add, ih h.tail ht.tail]
    congr 1
    omega
theorem dg_eq {l : List Int} {n : Nat} (h : Dig B l) (ht : Top l) (hv : val B l = n) : l = dg B hB n := by
  have := dg_of hB h ht
  rw [hv, Int.toNat_natCast] at this
  exact this.symm
theorem dg_length_le {n k : Nat} (h : n < B ^ k) : (dg B hB n).length ≤ k := by
  induction k generalizing n with
  | zero =>
    have : n = 0 := by simpa using h
    subst this; rw [dg_zero]; simp
  | succ k ih =>
    by_cases h0 : n = 0
    · subst h0; rw [dg_zero]; simp
    · rw [dg_pos hB h0, List.length_cons]
      have : n / B < B ^ k := by
        rw [Nat.div_lt_iff_lt_mul (by omega)]
        rwa [Nat.pow_succ] at h
      have := ih this
      omega
theorem lt_of_dg_length {n : Nat} : n < B ^ (dg B hB n).length := by
  have h := val_lt hB (dg_dig hB n)
  rw [dg_val hB n] at h
  exact_mod_cast h
theorem dg_nil_iff {n : Nat} : dg B hB n = [] ↔ n = 0 := by
  constructor
  · intro h
    have := dg_val hB n
    rw [h, val_nil] at this
    omega
  · rintro rfl; exact dg_zero hB
def trim (l : List Int) : List Int := (l.reverse.dropWhile (· == 0)).reverse
end Dg
end
section
set_option linter.unusedSimpArgs false
set_option linter.unusedVariables false
namespace Dg
variable {B : Nat}
theorem getD_lt {l : List Int} {i : Nat} (h : i < l.length) : l.getD i 0 = l[i] := by simp [List.getD, h]
theorem getD_ge {l : List Int} {i : Nat} (h : l.length ≤ i) : l.getD i 0 = 0 := by simp [List.getD, List.getElem?_eq_none h]
theorem val_take_succ {l : List Int} {i : Nat} (hi : i < l.length) : val B (l.take (i + 1)) = val B (l.take i) + (B : Int) ^ i * l.getD i 0 := by
  rw [List.take_succ_eq_append_getElem hi, val_snoc, List.length_take, Nat.min_eq_left (by omega), getD_lt hi]
theorem val_take_succ' (l : List Int) (i : Nat) : val B (l.take (i + 1)) = val B (l.take i) + (B : Int) ^ i * l.getD i 0 := by
  by_cases hi : i < l.length
  · exact val_take_succ hi
  · rw [getD_ge (by omega), List.take_of_length_le (by omega), List.take_of_length_le (by omega)]; simp
theorem val_drop {l : List Int} {i : Nat} (hi : i < l.length) : val B (l.drop i) = l.getD i 0 + (B : Int) * val B (l.drop (i + 1)) := by
  rw [List.drop_eq_getElem_cons hi, val_cons, getD_lt hi]
theorem val_drop' (l : List Int) (i : Nat) : val B (l.drop i) = l.getD i 0 + (B : Int) * val B (l.drop (i + 1)) := by
  by_cases hi : i < l.length
  · exact val_drop hi
  · rw [getD_ge (by omega), List.drop_of_length_le (by omega), List.drop_of_length_le (by omega), val_nil]; simp
theorem val_set {l : List Int} {i : Nat} (hi : i < l.length) (x : Int) : val B (l.set i x) = val B l + (B : Int) ^ i * (x - l.getD i 0) := by
  induction l generalizing i with
  | nil => simp at hi
  | cons d l ih =>
    cases i with
    | zero => simp [List.set, val_cons]; omega
    | succ i =>
      have hi' : i < l.length := by simpa using hi
      rw [List.set_cons_succ, val_cons, val_cons, ih hi', List.getD_cons_succ]
      grind
theorem getD_set_eq {l : List Int} {i : Nat} (hi : i < l.length) (x : Int) : (l.set i x).getD i 0 = x := by
  rw [getD_lt (by simpa using hi)]; simp
theorem getD_set_ne {l : List Int} {i j : Nat} (h : i ≠ j) (x : Int) : (l.set i x).getD j 0 = l.getD j 0 := by
  simp [List.getD, List.getElem?_set_ne h]
theorem take_set {l : List Int} {i : Nat} (x : Int) : (l.set i x).take i = l.take i := by
  rw [List.take_set, List.set_eq_of_length_le (by simp; omega)]
theorem Dig.all0 {l : List Int} (h : Dig B l) (hB : 0 < B) : ∀ i, 0 ≤ l.getD i 0 ∧ l.getD i 0 < (B : Int) := h.getD hB
theorem val_lt_of_length (hB : 2 ≤ B) {a b : List Int} (ha : Dig B a) (hb : Dig B b) (ht : Top b) (h : a.length < b.length) : val B a < val B b := by
  have h1 := val_lt hB ha
  have hne : b ≠ [] := by intro e; subst e; simp at h
  obtain ⟨l, d, rfl⟩ : ∃ l d, b = l ++ [d] := ⟨b.dropLast, b.getLast hne, (List.dropLast_concat_getLast hne).symm⟩
  rw [val_snoc]
  have hd : 0 ≤ d ∧ d < (B : Int) := hb d (by simp)
  have hd0 : d ≠ 0 := by
    intro e; subst e
    exact ht (by simp) (by simp)
  have hl := val_nonneg (l := l) (fun x hx => hb x (by simp [hx]))
  have hle : a.length ≤ l.length := by simp at h; omega
  have h2 : (B : Int) ^ a.length ≤ (B : Int) ^ l.length := by
    have := Nat.pow_le_pow_right (n := B) (by omega) hle
    exact_mod_cast this
  have h3 : (B : Int) ^ l.length * 1 ≤ (B : Int) ^ l.length * d := Int.mul_le_mul_of_nonneg_left (by omega) (Int.le_of_lt (pow_pos hB _))
  omega
theorem val_lt_of_digit (hB : 2 ≤ B) {a b : List Int} (ha : Dig B a) (hb : Dig B b) (i : Nat) (h : a.drop (i + 1) = b.drop (i + 1)) (hi : i < b.length) (hlt : a.getD i 0 < b.getD i 0) : val B a < val B b := by
  have e1 : val B a = val B (a.take i) + (B : Int) ^ i * val B (a.drop i) := by
    by_cases hk : i ≤ a.length
    · exact val_take_drop a i hk
    · have hd := congrArg List.length h
      simp at hd
      rw [List.take_of_length_le (by omega), List.drop_of_length_le (by omega), val_nil]; simp
  have e2 := val_take_drop (B := B) b i (by omega)
  rw [val_drop' a i] at e1
  rw [val_drop' b i] at e2
  rw [h] at e1
  have h1 := val_lt hB (ha.take i)
  have h2 := val_nonneg (hb.take i)
  have h3 : (B : Int) ^ (a.take i).length ≤ (B : Int) ^ i := by
    have := Nat.pow_le_pow_right (n := B) (by omega) (show (a.take i).length ≤ i by simp; omega)
    exact_mod_cast this
  have h4 : (B : Int) ^ i * (a.getD i 0 + 1) ≤ (B : Int) ^ i * b.getD i 0 := Int.mul_le_mul_of_nonneg_left (by omega) (Int.le_of_lt (pow_pos hB _))
  rw [Int.mul_add] at e1 e2 h4
  omega
theorem top_take_of {l : List Int} {n : Nat} (hn : n ≤ l.length) (h : n = 0 ∨ l.getD (n - 1) 0 ≠ 0) : Top (l.take n) := by
  intro hne h2
  rcases h with rfl | h
  · simp at hne
  · have hn0 : n ≠ 0 := by rintro rfl; simp at hne
    rw [List.getLast?_eq_getElem?, List.length_take, Nat.min_eq_left hn, List.getElem?_take_of_lt (by omega)] at h2
    rw [List.getD, h2] at h
    simp at h
theorem top_iff {l : List Int} : Top l ↔ l = [] ∨ l.getD (l.length - 1) 0 ≠ 0 := by
  constructor
  · intro h
    by_cases hl : l = []
    · exact .inl hl
    · right
      have h1 := h hl
      rw [List.getLast?_eq_getElem?] at h1
      have : 0 < l.length := List.length_pos_iff.2 hl
      rw [getD_lt (by omega)]
      rw [List.getElem?_eq_getElem (by omega)] at h1
      simpa using h1
  · intro h
    have := top_take_of (l := l) (n := l.length) (Nat.le_refl _) (by rcases h with rfl | h <;> simp_all)
    simpa using this
theorem val_take_zero {l : List Int} {n : Nat} (hn : n < l.length) (h : l.getD n 0 = 0) : val B (l.take (n + 1)) = val B (l.take n) := by
  rw [val_take_succ hn, h]; simp
theorem dig_replicate (hB : 0 < B) (k : Nat) : Dig B (List.replicate k 0) := fun d hd => by
  rw [List.eq_of_mem_replicate hd]; omega
theorem dig_of_getD {l : List Int} (h : ∀ i, i < l.length → 0 ≤ l.getD i 0 ∧ l.getD i 0 < (B : Int)) : Dig B l := fun d hd => by
  obtain ⟨i, hi, rfl⟩ := List.getElem_of_mem hd
  have := h i hi
  rwa [getD_lt hi] at this
theorem dg_getD (hB : 2 ≤ B) (n i : Nat) : (dg B hB n).getD i 0 = ((n / B ^ i % B : Nat) : Int) := by
  induction i generalizing n with
  | zero =>
    by_cases h : n = 0
    · subst h; rw [dg_zero]; simp
    · rw [dg_pos hB h]; simp
  | succ i ih =>
    by_cases h : n = 0
    · subst h; rw [dg_zero]; simp
    · rw [dg_pos hB h, List.getD_cons_succ, ih, Nat.div_div_eq_div_mul, Nat.pow_succ, Nat.mul_comm B]
theorem val_div_mod (hB : 2 ≤ B) {l : List Int} (h : Dig B l) (k : Nat) : val B l / (B : Int) ^ k = val B (l.drop k) ∧ val B l % (B : Int) ^ k = val B (l.take k) := by
  have hp := pow_pos hB k
  by_cases hk : k ≤ l.length
  · have e := val_take_drop (B := B) l k hk
    have h1 := val_nonneg (h.take k)
    have h2 := val_lt hB (h.take k)
    rw [List.length_take, Nat.min_eq_left hk] at h2
    constructor
    · rw [e, Int.add_mul_ediv_left _ _ (by omega), Int.ediv_eq_zero_of_lt h1 h2, Int.zero_add]
    · rw [e, Int.add_mul_emod_self_left, Int.emod_eq_of_lt h1 h2]
  · have h1 := val_nonneg h
    have h2 := val_lt hB h
    have h3 : (B : Int) ^ l.length ≤ (B : Int) ^ k := by
      have := Nat.pow_le_pow_right (n := B) (by omega) (show l.length ≤ k by omega)
      exact_mod_cast this
    rw [List.drop_of_length_le (by omega), List.take_of_length_le (by omega), val_nil, Int.ediv_eq_zero_of_lt h1 (by omega), Int.emod_eq_of_lt h1 (by omega)]
    exact ⟨rfl, rfl⟩
end Dg
end
section
set_option linter.unusedSimpArgs false
set_option linter.unusedVariables false
namespace Dg
def bl (n : Nat) : Nat := if n = 0 then 0 else Nat.log2 n + 1
theorem bl_zero : bl 0 = 0 := rfl
theorem lt_bl (n : Nat) : n < 2 ^ bl n := by
  unfold bl
  split
  · subst n; decide
  · exact Nat.lt_log2_self
theorem bl_ge {n : Nat} (h : n ≠ 0) : 2 ^ (bl n - 1) ≤ n := by
  unfold bl
  rw [if_neg h]
  exact Nat.log2_self_le h
theorem bl_pos {n : Nat} (h : n ≠ 0) : 0 < bl n := by unfold bl; rw [if_neg h]; omega
theorem bl_le {n k : Nat} (h : n < 2 ^ k) : bl n ≤ k := by
  by_cases h0 : n = 0
  · subst h0; rw [bl_zero]; omega
  · have h1 := bl_ge h0
    have h2 := bl_pos h0
    rcases Nat.lt_or_ge k (bl n) with h3 | h3
    · have := Nat.pow_le_pow_right (n := 2) (by decide) (show k ≤ bl n - 1 by omega)
      omega
    · exact h3
theorem lt_bl_of {n k : Nat} (h : 2 ^ k ≤ n) : k < bl n := by
  rcases Nat.lt_or_ge k (bl n) with h3 | h3
  · exact h3
  · have := Nat.pow_le_pow_right (n := 2) (by decide) h3
    have := lt_bl n
    omega
theorem bl_iff {n k : Nat} : bl n ≤ k ↔ n < 2 ^ k := by
  constructor
  · intro h
    have := Nat.pow_le_pow_right (n := 2) (by decide) h
    have := lt_bl n
    omega
  · exact bl_le
theorem bl_mono {a b : Nat} (h : a ≤ b) : bl a ≤ bl b := bl_le (by have := lt_bl b; omega)
theorem bl_eq_zero {n : Nat} : bl n = 0 ↔ n = 0 := by
  constructor
  · intro h; have := lt_bl n; rw [h] at this; omega
  · rintro rfl; rfl
theorem bl_half {n : Nat} (h : n ≠ 0) : bl n = bl (n / 2) + 1 := by
  have h1 := bl_ge h
  have h2 := lt_bl n
  have h3 := bl_pos h
  obtain ⟨k, hk⟩ : ∃ k, bl n = k + 1 := ⟨bl n - 1, by omega⟩
  rw [hk] at h1 h2 ⊢
  rw [Nat.add_sub_cancel] at h1
  rw [Nat.pow_succ] at h2
  have h4 : bl (n / 2) ≤ k := bl_le (by omega)
  rcases Nat.lt_or_ge (bl (n / 2)) k with h5 | h5
  · have h6 := lt_bl (n / 2)
    have h7 := Nat.pow_le_pow_right (n := 2) (by decide) (show bl (n / 2) + 1 ≤ k by omega)
    rw [Nat.pow_succ] at h7
    omega
  · omega
theorem bl_add_le (a b : Nat) : bl (a + b) ≤ max (bl a) (bl b) + 1 := by
  apply bl_le
  have h1 := lt_bl a
  have h2 := lt_bl b
  have h3 := Nat.pow_le_pow_right (n := 2) (by decide) (Nat.le_max_left (bl a) (bl b))
  have h4 := Nat.pow_le_pow_right (n := 2) (by decide) (Nat.le_max_right (bl a) (bl b))
  rw [Nat.pow_succ]
  omega
theorem bl_mul_le (a b : Nat) : bl (a * b) ≤ bl a + bl b := by
  apply bl_le
  rw [Nat.pow_add]
  exact Nat.mul_lt_mul'' (lt_bl a) (lt_bl b)
theorem bl_add_high {a b k : Nat} (ha : a ≠ 0) (hb : b < 2 ^ k) : bl (a * 2 ^ k + b) = bl a + k := by
  have h1 := bl_ge ha
  have h2 := lt_bl a
  have h3 := bl_pos ha
  apply Nat.le_antisymm
  · apply bl_le
    rw [Nat.pow_add]
    have := Nat.mul_le_mul_right (2 ^ k) (show a + 1 ≤ 2 ^ bl a by omega)
    rw [Nat.add_mul] at this
    omega
  · have : 2 ^ (bl a + k - 1) ≤ a * 2 ^ k + b := by
      rw [show bl a + k - 1 = (bl a - 1) + k by omega, Nat.pow_add]
      have := Nat.mul_le_mul_right (2 ^ k) h1
      omega
    have := lt_bl_of this
    omega
variable {w : Nat}
theorem dg_len_bl (hB : 2 ≤ 2 ^ w) (n : Nat) : bl n ≤ w * (dg (2 ^ w) hB n).length ∧ (n ≠ 0 → w * ((dg (2 ^ w) hB n).length - 1) < bl n) := by
  constructor
  · apply bl_le
    have := lt_of_dg_length hB (n := n)
    rwa [← Nat.pow_mul] at this
  · intro h
    apply lt_bl_of
    rw [Nat.pow_mul]
    rcases Nat.lt_or_ge n ((2 ^ w) ^ ((dg (2 ^ w) hB n).length - 1)) with h1 | h1
    · have h2 := dg_length_le hB h1
      have h3 : (dg (2 ^ w) hB n).length ≠ 0 := by
        intro h4
        rw [List.length_eq_zero_iff, dg_nil_iff] at h4
        exact h h4
      omega
    · exact h1
theorem dg_len_le (hB : 2 ≤ 2 ^ w) (n : Nat) : (dg (2 ^ w) hB n).length ≤ bl n := by
  by_cases h : n = 0
  · subst h; rw [dg_zero]; simp
  · have h1 := (dg_len_bl hB n).2 h
    have hw : 1 ≤ w := by
      rcases Nat.lt_or_ge w 1 with h | h
      · have : w = 0 := by omega
        subst this; simp at hB
      · exact h
    have := Nat.mul_le_mul_right ((dg (2 ^ w) hB n).length - 1) hw
    have := bl_pos h
    omega
theorem bl_last (hB : 2 ≤ 2 ^ w) {n : Nat} (h : n ≠ 0) : ∃ d : Nat, (dg (2 ^ w) hB n).getD ((dg (2 ^ w) hB n).length - 1) 0 = (d : Int) ∧ d ≠ 0 ∧ d < 2 ^ w ∧ bl n = w * ((dg (2 ^ w) hB n).length - 1) + bl d := by
  have hlen : (dg (2 ^ w) hB n).length ≠ 0 := by
    intro h4
    rw [List.length_eq_zero_iff, dg_nil_iff] at h4
    exact h h4
  obtain ⟨m, hm⟩ : ∃ m, (dg (2 ^ w) hB n).length = m + 1 := ⟨(dg (2 ^ w) hB n).length - 1, by omega⟩
  rw [hm, Nat.add_sub_cancel, dg_getD]
  have h1 := lt_of_dg_length hB (n := n)
  rw [hm, Nat.pow_succ] at h1
  have h2 : n / (2 ^ w) ^ m < 2 ^ w := by
    apply Nat.div_lt_of_lt_mul
    exact h1
  have h3 : n / (2 ^ w) ^ m ≠ 0 := by
    intro h4
    have h5 : n < (2 ^ w) ^ m := by
      rcases Nat.div_eq_zero_iff.1 h4 with h | h
      · have := Nat.pow_pos (n := m) (Nat.two_pow_pos w)
        omega
      · exact h
    have := dg_length_le hB h5
    omega
  rw [Nat.mod_eq_of_lt h2]
  refine ⟨_, rfl, h3, h2, ?_⟩
  have h6 := Nat.div_add_mod n ((2 ^ w) ^ m)
  have h7 := Nat.mod_lt n (Nat.pow_pos (n := m) (Nat.two_pow_pos w))
  rw [← Nat.pow_mul] at h6 h7 ⊢
  rw [← Nat.pow_mul] at h3
  have := bl_add_high h3 h7
  rw [Nat.mul_comm, h6] at this
  rw [this, Nat.add_comm]
end Dg
end
section
set_option linter.unusedSimpArgs false
set_option linter.unusedVariables false
namespace Dg
def D (n : Nat) : List Int := dg 4294967296 (by decide) n
def L (n : Nat) : List Int := dg 16777216 (by decide) n
theorem D_zero : D 0 = [] := dg_zero _
theorem D_dig (n : Nat) : Dig 4294967296 (D n) := dg_dig _ n
theorem D_val (n : Nat) : val 4294967296 (D n) = n := dg_val _ n
theorem D_top (n : Nat) : Top (D n) := dg_top _ n
theorem D_nil {n : Nat} : D n = [] ↔ n = 0 := dg_nil_iff _
theorem D_len (n : Nat) : (D n).length ≤ bl n := dg_len_le (w := 32) (by decide) n
theorem D_of {l : List Int} (h : Dig 4294967296 l) (ht : Top l) : D (val 4294967296 l).toNat = l := dg_of _ h ht
theorem D_eq {l : List Int} {n : Nat} (h : Dig 4294967296 l) (ht : Top l) (hv : val 4294967296 l = n) : l = D n := dg_eq _ h ht hv
theorem D_getD (n i : Nat) : (D n).getD i 0 = ((n / 4294967296 ^ i % 4294967296 : Nat) : Int) := dg_getD _ n i
theorem D_pos {n : Nat} (h : n ≠ 0) : 0 < (D n).length := List.length_pos_iff.2 (fun e => h (D_nil.1 e))
theorem D_bl (n : Nat) : bl n ≤ 32 * (D n).length := (dg_len_bl (w := 32) (by decide) n).1
theorem D_last {n : Nat} (h : n ≠ 0) : ∃ d : Nat, (D n).getD ((D n).length - 1) 0 = (d : Int) ∧ d ≠ 0 ∧ d < 4294967296 ∧ bl n = 32 * ((D n).length - 1) + bl d := bl_last (w := 32) (by decide) h
theorem L_zero : L 0 = [] := dg_zero _
theorem L_dig (n : Nat) : Dig 16777216 (L n) := dg_dig _ n
theorem L_top (n : Nat) : Top (L n) := dg_top _ n
theorem L_nil {n : Nat} : L n = [] ↔ n = 0 := dg_nil_iff _
theorem L_len (n : Nat) : (L n).length ≤ bl n := dg_len_le (w := 24) (by decide) n
theorem L_of {l : List Int} (h : Dig 16777216 l) (ht : Top l) : L (val 16777216 l).toNat = l := dg_of _ h ht
theorem L_bl (n : Nat) : bl n ≤ 24 * (L n).length := (dg_len_bl (w := 24) (by decide) n).1
theorem L_len_iff (n k : Nat) : (L n).length ≤ k ↔ bl n ≤ 24 * k := by
  constructor
  · intro h
    have := L_bl n
    have := Nat.mul_le_mul_left 24 h
    omega
  · intro h
    by_cases h0 : n = 0
    · subst h0; rw [L_zero]; simp
    · have := (dg_len_bl (w := 24) (by decide) n).2 h0
      have h2 : 24 * ((L n).length - 1) < bl n := this
      omega
theorem D_snoc0 {l : List Int} (n : Nat) (hn : n + 1 = l.length) (h : l.getD n 0 = 0) : val 4294967296 (l.take n) = val 4294967296 l := by
  have := val_take_zero (B := 4294967296) (l := l) (n := n) (by omega) h
  rw [List.take_of_length_le (by omega)] at this
  exact this.symm
theorem D_top_of {l : List Int} (n : Nat) (hn : n + 1 = l.length) (h : ¬ l.getD n 0 = 0) : Top l := by
  rw [top_iff]; right; rw [show l.length - 1 = n by omega]; exact h
end Dg
end
section
set_option linter.unusedSimpArgs false
set_option linter.unusedVariables false
namespace Dg
variable {B : Nat}
theorem val_set_take {l : List Int} {i : Nat} (hi : i < l.length) (x : Int) : val B ((l.set i x).take (i + 1)) = val B (l.take i) + (B : Int) ^ i * x := by
  rw [val_take_succ (by simpa using hi), take_set, getD_set_eq hi]
theorem val_take_ge {l : List Int} {n : Nat} (h : l.length ≤ n) : val B (l.take n) = val B l := by rw [List.take_of_length_le h]
theorem add_step {a b c x c' p : Int} {P Va Vb Vy : Int} (h : Vy + P * c = Va + Vb) (hx : a + b + c = x + p * c') : Vy + P * x + P * p * c' = (Va + P * a) + (Vb + P * b) := by
  have : P * (a + b + c) = P * (x + p * c') := by rw [hx]
  grind
theorem sub_step {a b c x c' p : Int} {P Va Vb Vy : Int} (h : Vy - P * c = Va - Vb) (hx : a - b - c = x - p * c') : Vy + P * x - P * p * c' = (Va + P * a) - (Vb + P * b) := by
  have : P * (a - b - c) = P * (x - p * c') := by rw [hx]
  grind
theorem val_digits (hB : 2 ≤ B) (l : List Int) (n : Nat) (h : ∀ i, i < l.length → l.getD i 0 = ((n / B ^ i % B : Nat) : Int)) : val B l = ((n % B ^ l.length : Nat) : Int) := by
  induction l generalizing n with
  | nil => simp [val, Nat.mod_one]
  | cons d l ih =>
    have h0 := h 0 (by simp)
    rw [List.getD_cons_zero, Nat.pow_zero, Nat.div_one] at h0
    have h1 := ih (n / B) (fun i hi => by
      have := h (i + 1) (by simpa using hi)
      rw [List.getD_cons_succ] at this
      rw [this, Nat.div_div_eq_div_mul, Nat.pow_succ, Nat.mul_comm B])
    rw [val_cons, h0, h1, List.length_cons, Nat.pow_succ, Nat.mul_comm (B ^ l.length) B, Nat.mod_mul]
    simp
end Dg
end
section
set_option linter.unusedVariables false
set_option linter.unusedSimpArgs false
namespace Go.Proofs.Ythanlckjfghnkaa.Dv
open Dg
structure Scene (V0 D P v1 v2 head w : Int) : Prop where
  fp : 0 < P
  f1 : 2147483648 ≤ v1 ∧ v1 < 4294967296
  f2 : 0 ≤ v2 ∧ v2 < 4294967296
  fw : 0 ≤ w ∧ w < 4294967296
  fh : 0 ≤ head
  d0 : (v1 * 4294967296 + v2) * P ≤ D
  d1 : D < (v1 * 4294967296 + v2 + 1) * P
  h0 : (head * 4294967296 + w) * P ≤ V0
  h1 : V0 < (head * 4294967296 + w + 1) * P
  lt : V0 < D * 4294967296
variable {V0 D P v1 v2 head w : Int}
theorem Scene.first (s : Scene V0 D P v1 v2 head w) {g l : Int} (e : g * v1 + l = head) (hl : l < v1) (hg : 0 ≤ g) : V0 < (g + 1) * D := by
  have a1 : (g + 1) * ((v1 * 4294967296 + v2) * P) ≤ (g + 1) * D := Int.mul_le_mul_of_nonneg_left s.d0 (by omega)
  have hw := s.fw
  have hv2 := s.f2
  have a2 : head * 4294967296 + w + 1 ≤ (g + 1) * (v1 * 4294967296 + v2) := by
    have b1 : 0 ≤ (g + 1) * v2 := Int.mul_nonneg (by omega) hv2.1
    have b2 : (g + 1) * (v1 * 4294967296 + v2) = (g * v1 + v1) * 4294967296 + (g + 1) * v2 := by
      rw [Int.mul_add, ← Int.mul_assoc, Int.add_mul, Int.one_mul]
    rw [b2]; omega
  have a3 := Int.mul_le_mul_of_nonneg_right a2 (Int.le_of_lt s.fp)
  rw [Int.mul_assoc] at a3
  have := s.h1
  omega
theorem Scene.near (s : Scene V0 D P v1 v2 head w) {g l : Int} (e : g * v1 + l = head) (hg : 0 ≤ g) (hB : g < 4294967296) (hc : g * v2 ≤ l * 4294967296 + w) : (g - 1) * D < V0 := by
  have a2 : g * (v1 * 4294967296 + v2) ≤ head * 4294967296 + w := by
    have b2 : g * (v1 * 4294967296 + v2) = g * v1 * 4294967296 + g * v2 := by
      rw [Int.mul_add, ← Int.mul_assoc]
    rw [b2]; omega
  have a3 := Int.mul_le_mul_of_nonneg_right a2 (Int.le_of_lt s.fp)
  have a4 : g * D ≤ g * ((v1 * 4294967296 + v2 + 1) * P) := Int.mul_le_mul_of_nonneg_left (Int.le_of_lt s.d1) hg
  have a5 : g * P ≤ 4294967296 * P := Int.mul_le_mul_of_nonneg_right (by omega) (Int.le_of_lt s.fp)
  have hv1 := s.f1
  have hv2 := s.f2
  have a6 : (4294967296 + 1) * P ≤ (v1 * 4294967296 + v2) * P := Int.mul_le_mul_of_nonneg_right (by omega) (Int.le_of_lt s.fp)
  have e1 : g * ((v1 * 4294967296 + v2 + 1) * P) = g * (v1 * 4294967296 + v2) * P + g * P := by
    rw [Int.add_mul (v1 * 4294967296 + v2) 1 P, Int.mul_add, Int.mul_assoc, Int.one_mul]
  have e2 : (g - 1) * D = g * D - D := by rw [Int.sub_mul, Int.one_mul]
  have h0 := s.h0
  have d0 := s.d0
  have hp := s.fp
  rw [Int.add_mul (4294967296 : Int) 1 P, Int.one_mul] at a6
  omega
end Go.Proofs.Ythanlckjfghnkaa.Dv
end
section
set_option linter.unusedVariables false
set_option linter.unusedSimpArgs false
namespace Go.Proofs.Ythanlckjfghnkaa.Dw
open Dg Go.Proofs.Ythanlckjfghnkaa.Dv
structure Ms (r0 b : List Int) (g : Int) (i k : Nat) (r : List Int) (c bo : Int) : Prop where
  dig : Dig 4294967296 r
  len : r.length = r0.length
  far : ∀ j, i + k ≤ j → r.getD j 0 = r0.getD j 0
  fc : 0 ≤ c ∧ c < 4294967296
  fb : bo = 0 ∨ bo = 1
  inv : val 4294967296 r = val 4294967296 r0 - g * val 4294967296 (b.take k) * 4294967296 ^ i + (c + bo) * 4294967296 ^ (i + k)
  fin : b.length < k → c = 0
theorem mul_lt_b {g d : Int} (h0 : 0 ≤ g) (h1 : g < 4294967296) (h2 : 0 ≤ d) (h3 : d < 4294967296) : 0 ≤ g * d ∧ g * d ≤ 4294967295 * 4294967295 :=
  ⟨Int.mul_nonneg h0 h2, Int.mul_le_mul (by omega) (by omega) h2 (by omega)⟩
theorem Ms.step {r0 b r : List Int} {g c bo now cc : Int} {i k : Nat} (h : Ms r0 b g i k r c bo) (hb : Dig 4294967296 b) (hg0 : 0 ≤ g) (hg1 : g < 4294967296) (hk : k ≤ b.length) (hi : i + k < r.length)
    (hcc : cc = c + g * b.getD k 0) (hnow : now = (r.getD (i + k) 0 - cc % 4294967296 - bo) % 18446744073709551616) :
    Ms r0 b g i (k + 1) (r.set (i + k) (now % 4294967296)) (cc / 4294967296) (now / 9223372036854775808) := by
  have hbk := hb.all0 (by decide) k
  have hrj := h.dig.all0 (by decide) (i + k)
  obtain ⟨m0, m1⟩ := mul_lt_b hg0 hg1 hbk.1 hbk.2
  have hc := h.fc
  have hbo : 0 ≤ bo ∧ bo ≤ 1 := by rcases h.fb with h | h <;> omega
  have hcast : ((4294967296 : Nat) : Int) = 4294967296 := rfl
  have hd : now % 4294967296 - r.getD (i + k) 0 = -(cc % 4294967296) - bo + now / 9223372036854775808 * 4294967296 ∧ 0 ≤ now / 9223372036854775808 ∧ now / 9223372036854775808 ≤ 1 := by
    rw [hcast] at hrj
    generalize r.getD (i + k) 0 = x at *
    have hy : 0 ≤ cc % 4294967296 ∧ cc % 4294967296 < 4294967296 := by omega
    generalize cc % 4294967296 = y at *
    clear hcc
    omega
  refine ⟨h.dig.set _ (by omega) (by omega), by simpa using h.len, fun j hj => ?_, by omega, by omega, ?_, fun hlt => ?_⟩
  · rw [Dg.getD_set_ne (by omega)]
    exact h.far j (by omega)
  · rw [val_set hi, val_take_succ' b k, h.inv, show i + (k + 1) = i + k + 1 by omega, Int.pow_succ, hcast]
    rw [show (4294967296 : Int) ^ (i + k) = 4294967296 ^ i * 4294967296 ^ k from Int.pow_add _ _ _]
    obtain ⟨hd, _⟩ := hd
    rw [hd]
    have e1 : cc = cc % 4294967296 + 4294967296 * (cc / 4294967296) := by omega
    generalize cc % 4294967296 = y at *
    generalize cc / 4294967296 = z at *
    generalize now / 9223372036854775808 = t at *
    generalize b.getD k 0 = bk at *
    generalize (4294967296 : Int) ^ i = P at *
    generalize (4294967296 : Int) ^ k = Q at *
    generalize val 4294967296 (List.take k b) = Vb at *
    generalize val 4294967296 r0 = V0 at *
    clear hd hi hnow h hrj hb hk m0 m1 hc hbo hbk
    have e2 : c + g * bk = y + 4294967296 * z := by rw [← hcc]; exact e1
    have e3 : P * Q * (c + g * bk) = P * Q * (y + 4294967296 * z) := by rw [e2]
    clear hcc e1 e2
    grind
  · have : k = b.length := by omega
    have hz : b.getD k 0 = 0 := getD_ge (by omega)
    rw [hz, Int.mul_zero, Int.add_zero] at hcc
    omega
structure Ab (r0 b : List Int) (i k : Nat) (r : List Int) (c : Int) : Prop where
  dig : Dig 4294967296 r
  len : r.length = r0.length
  far : ∀ j, i + k ≤ j → r.getD j 0 = r0.getD j 0
  fc : c = 0 ∨ c = 1
  inv : val 4294967296 r = val 4294967296 r0 + val 4294967296 (b.take k) * 4294967296 ^ i - c * 4294967296 ^ (i + k)
theorem Ab.step {r0 b r : List Int} {c cc : Int} {i k : Nat} (h : Ab r0 b i k r c) (hb : Dig 4294967296 b) (hi : i + k < r.length) (hcc : cc = c + r.getD (i + k) 0 + b.getD k 0) :
    Ab r0 b i (k + 1) (r.set (i + k) (cc % 4294967296)) (cc / 4294967296) := by
  have hbk := hb.all0 (by decide) k
  have hrj := h.dig.all0 (by decide) (i + k)
  have hc : 0 ≤ c ∧ c ≤ 1 := by rcases h.fc with h | h <;> omega
  have hcast : ((4294967296 : Nat) : Int) = 4294967296 := rfl
  rw [hcast] at hbk hrj
  refine ⟨h.dig.set _ (by omega) (by omega), by simpa using h.len, fun j hj => ?_, by omega, ?_⟩
  · rw [Dg.getD_set_ne (by omega)]
    exact h.far j (by omega)
  · rw [val_set hi, val_take_succ' b k, h.inv, show i + (k + 1) = i + k + 1 by omega, Int.pow_succ, hcast]
    rw [show (4294967296 : Int) ^ (i + k) = 4294967296 ^ i * 4294967296 ^ k from Int.pow_add _ _ _]
    have e1 : cc % 4294967296 - r.getD (i + k) 0 = c + b.getD k 0 - 4294967296 * (cc / 4294967296) := by omega
    rw [e1]
    generalize cc / 4294967296 = z at *
    generalize b.getD k 0 = bk at *
    generalize (4294967296 : Int) ^ i = P at *
    generalize (4294967296 : Int) ^ k = Q at *
    generalize val 4294967296 (List.take k b) = Vb at *
    generalize val 4294967296 r0 = V0 at *
    clear hi h hrj hb hc hbk hcc e1
    grind
theorem digit_right {r0 b r : List Int} {g : Int} {i : Nat} (h : Ms r0 b g i (b.length + 1) r 0 0) (hup : val 4294967296 r0 < (g + 1) * (val 4294967296 b * 4294967296 ^ i)) :
    val 4294967296 r = val 4294967296 r0 - g * (val 4294967296 b * 4294967296 ^ i) ∧ val 4294967296 r < val 4294967296 b * 4294967296 ^ i := by
  have e := h.inv
  rw [List.take_of_length_le (by omega), Int.add_zero, Int.zero_mul, Int.add_zero, Int.mul_assoc] at e
  refine ⟨e, ?_⟩
  rw [Int.add_mul, Int.one_mul] at hup
  omega
end Go.Proofs.Ythanlckjfghnkaa.Dw
end
section
set_option linter.unusedVariables false
set_option linter.unusedSimpArgs false
namespace Go.Proofs.Ythanlckjfghnkaa.Dx
open Dg Go.Proofs.Ythanlckjfghnkaa.Dv Go.Proofs.Ythanlckjfghnkaa.Dw
theorem castB : ((4294967296 : Nat) : Int) = 4294967296 := rfl
structure Dsor (b : List Int) (n : Nat) : Prop where
  dig : Dig 4294967296 b
  len : b.length = n + 2
  top : 2147483648 ≤ b.getD (n + 1) 0
structure Lo (A : Int) (b : List Int) (t : Nat) (r out : List Int) : Prop where
  dig : Dig 4294967296 r
  digo : Dig 4294967296 out
  len : r.length = out.length + b.length
  all : A = val 4294967296 r + val 4294967296 b * val 4294967296 out
  lt : val 4294967296 r < val 4294967296 b * 4294967296 ^ t
  z : ∀ j, j < t → out.getD j 0 = 0
theorem Lo.step {A g : Int} {b r r2 out : List Int} {t : Nat} (h : Lo A b (t + 1) r out) (ht : t < out.length) (hd : Dig 4294967296 r2) (hl : r2.length = r.length) (hg0 : 0 ≤ g) (hg1 : g < 4294967296)
    (hv : val 4294967296 r2 = val 4294967296 r - g * (val 4294967296 b * 4294967296 ^ t)) (hlt : val 4294967296 r2 < val 4294967296 b * 4294967296 ^ t) : Lo A b t r2 (out.set t g) := by
  refine ⟨hd, h.digo.set _ hg0 hg1, by rw [hl, List.length_set]; exact h.len, ?_, hlt, fun j hj => ?_⟩
  · rw [val_set ht, h.z t (by omega), Int.sub_zero, hv, castB, h.all]
    generalize (4294967296 : Int) ^ t = P at *
    generalize val 4294967296 b = v at *
    generalize val 4294967296 out = o at *
    generalize val 4294967296 r = x at *
    clear hv hlt h
    grind
  · rw [Dg.getD_set_ne (by omega)]
    exact h.z j (by omega)
theorem Lo.done {a b s : Nat} {bs r out : List Int} (h : Lo ((a * 2 ^ s : Nat) : Int) bs 0 r out) (hb : val 4294967296 bs = ((b * 2 ^ s : Nat) : Int)) (h0 : b ≠ 0) :
    val 4294967296 out = ((a / b : Nat) : Int) ∧ val 4294967296 r = ((a % b * 2 ^ s : Nat) : Int) := by
  have e := h.all
  have hlt := h.lt
  obtain ⟨o, ho⟩ := Int.eq_ofNat_of_zero_le (val_nonneg h.digo)
  obtain ⟨x, hx⟩ := Int.eq_ofNat_of_zero_le (val_nonneg h.dig)
  rw [hb, hx, ho, ← Int.natCast_mul, ← Int.natCast_add] at e
  rw [hb, hx, Int.pow_zero, Int.mul_one] at hlt
  have e2 : a * 2 ^ s = x + b * 2 ^ s * o := by exact_mod_cast e
  have hlt2 : x < b * 2 ^ s := by exact_mod_cast hlt
  have hp : 0 < 2 ^ s := Nat.two_pow_pos s
  have hbp : 0 < b * 2 ^ s := Nat.mul_pos (Nat.pos_of_ne_zero h0) hp
  have q1 : a * 2 ^ s / (b * 2 ^ s) = o := by
    rw [e2, Nat.add_mul_div_left _ _ hbp, Nat.div_eq_of_lt hlt2, Nat.zero_add]
  have q2 : a * 2 ^ s % (b * 2 ^ s) = x := by
    rw [e2, Nat.add_mul_mod_self_left, Nat.mod_eq_of_lt hlt2]
  rw [Nat.mul_div_mul_right _ _ hp] at q1
  rw [Nat.mul_mod_mul_right] at q2
  rw [ho, hx, q1, q2]
  exact ⟨rfl, rfl⟩
structure So (a : List Int) (b : Int) (t : Nat) (out : List Int) (r : Int) : Prop where
  dig : Dig 4294967296 out
  len : out.length = a.length
  fr : 0 ≤ r ∧ r < b
  inv : val 4294967296 (a.drop t) = b * val 4294967296 (out.drop t) + r
theorem So.step {a out : List Int} {b r x : Int} {t : Nat} (h : So a b (t + 1) out r) (ha : Dig 4294967296 a) (hb : b < 4294967296) (ht : t < a.length) (hx : x = r * 4294967296 + a.getD t 0) :
    So a b t (out.set t (x / b)) (x % b) ∧ 0 ≤ x ∧ x < 18446744073709551616 ∧ 0 ≤ x / b ∧ x / b < 4294967296 := by
  have hat := ha.all0 (by decide) t
  rw [castB] at hat
  have hr := h.fr
  have hb0 : 0 < b := by omega
  have hx0 : 0 ≤ x := by omega
  have hx1 : x < b * 4294967296 := by
    have := Int.mul_le_mul_of_nonneg_right (show r + 1 ≤ b by omega) (show (0 : Int) ≤ 4294967296 by decide)
    omega
  have hq0 : 0 ≤ x / b := Int.ediv_nonneg hx0 (by omega)
  have hq1 : x / b < 4294967296 := Int.ediv_lt_of_lt_mul hb0 (by rw [Int.mul_comm]; exact hx1)
  have hm := Int.emod_nonneg x (show b ≠ 0 by omega)
  have hm2 := Int.emod_lt_of_pos x hb0
  have e := Int.mul_ediv_add_emod x b
  have hlen := h.len
  refine ⟨⟨h.dig.set _ hq0 hq1, by simpa using hlen, ⟨hm, hm2⟩, ?_⟩, hx0, by omega, hq0, hq1⟩
  rw [val_drop (l := a) ht, val_drop (l := out.set t (x / b)) (by simp; omega), Dg.getD_set_eq (by omega), h.inv]
  have : (out.set t (x / b)).drop (t + 1) = out.drop (t + 1) := List.drop_set_of_lt (by omega)
  rw [this, castB]
  generalize x / b = q at *
  generalize x % b = m at *
  generalize val 4294967296 (List.drop (t + 1) out) = o at *
  rw [Int.mul_add b, ← Int.mul_assoc b]
  rw [Int.mul_comm b 4294967296, Int.mul_assoc]
  omega
theorem So.done {a b : Nat} {out : List Int} {r : Int} (h : So (D a) (b : Int) 0 out r) : val 4294967296 out = ((a / b : Nat) : Int) ∧ r = ((a % b : Nat) : Int) := by
  have e := h.inv
  rw [List.drop_zero, List.drop_zero, D_val] at e
  have hr := h.fr
  obtain ⟨o, ho⟩ := Int.eq_ofNat_of_zero_le (val_nonneg h.dig)
  obtain ⟨x, hx⟩ := Int.eq_ofNat_of_zero_le hr.1
  subst hx
  rw [ho, ← Int.natCast_mul, ← Int.natCast_add] at e
  have e2 : a = b * o + x := by exact_mod_cast e
  have hlt : x < b := by omega
  have hb : 0 < b := by omega
  rw [ho, e2, Nat.mul_add_div hb, Nat.div_eq_of_lt hlt, Nat.add_zero, Nat.mul_add_mod, Nat.mod_eq_of_lt hlt]
  exact ⟨rfl, rfl⟩
end Go.Proofs.Ythanlckjfghnkaa.Dx
end
section
set_option linter.unusedVariables false
set_option linter.unusedSimpArgs false
namespace Go.Proofs.Ythanlckjfghnkaa.Du
open Dg Go.Proofs.Ythanlckjfghnkaa.Dv Go.Proofs.Ythanlckjfghnkaa.Dw Go.Proofs.Ythanlckjfghnkaa.Dx
structure Gs (V0 D v1 head g l : Int) : Prop where
  e : g * v1 + l = head
  fl : 0 ≤ l ∧ l < 4294967296
  fg : 0 ≤ g ∧ g ≤ 4294967297
  up : V0 < (g + 1) * D
structure Gd (V0 D g : Int) : Prop where
  fg : 0 ≤ g ∧ g < 4294967296
  up : V0 < (g + 1) * D
  near : (g - 1) * D < V0
variable {V0 D P v1 v2 head w g l : Int}
theorem Gs.stop (h : Gs V0 D v1 head g l) (s : Scene V0 D P v1 v2 head w) (h1 : g < 4294967296) (h2 : g * v2 ≤ l * 4294967296 + w) : Gd V0 D g :=
  ⟨⟨h.fg.1, h1⟩, h.up, s.near h.e h.fg.1 h1 h2⟩
theorem right {A : Int} {b r out r2 : List Int} {t : Nat} (h : Lo A b (t + 1) r out) (ht : t < out.length) (hg : Gd (val 4294967296 r) (val 4294967296 b * 4294967296 ^ t) g) (hm : Ms r b g t (b.length + 1) r2 0 0) :
    Lo A b t r2 (out.set t g) := by
  obtain ⟨e1, e2⟩ := digit_right hm hg.up
  exact h.step ht hm.dig hm.len hg.fg.1 hg.fg.2 e1 e2
end Go.Proofs.Ythanlckjfghnkaa.Du
end
