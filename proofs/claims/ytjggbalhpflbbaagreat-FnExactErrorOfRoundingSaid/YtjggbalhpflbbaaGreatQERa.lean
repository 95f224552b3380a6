/- Lemmas of the claim: Dg, Dh, Di, Dj, Dk, Dt. -/
section
set_option linter.unusedSimpArgs false
set_option linter.unusedVariables false
namespace Dg
def val (B : Nat) : List Int → Int
  | [] => 0
  | d :: l => d + (B : Int) * val B l
def Dig (B : Nat) (l : List Int) : Prop := ∀ d ∈ l, 0 ≤ d ∧ d < (B : Int)
def dg (B : Nat) (hB : 2 ≤ B) (n : Nat) : List Int :=
  if h : n = 0 then [] else ((n % B : Nat) : Int) :: dg B hB (n / B)
termination_by n
decreasing_by exact Nat.div_lt_self (Nat.pos_of_ne_zero h) hB
variable {B : Nat} (hB : 2 ≤ B)
theorem dg_zero : dg B hB 0 = [] := by rw [dg]; simp
theorem dg_pos {n : Nat} (h : n ≠ 0) : dg B hB n = ((n % B : Nat) : Int) :: dg B hB (n / B) := by rw [dg]; simp [h]
theorem Dig.nil : Dig B [] := fun _ h => by simp at h
theorem Dig.cons {d : Int} {l : List Int} (h0 : 0 ≤ d) (h1 : d < (B : Int)) (h : Dig B l) : Dig B (d :: l) := by
  intro x hx
  rcases List.mem_cons.1 hx with rfl | hx
  · exact ⟨h0, h1⟩
  · exact h x hx
theorem Dig.head {d : Int} {l : List Int} (h : Dig B (d :: l)) : 0 ≤ d ∧ d < (B : Int) := h d (by simp)
theorem Dig.tail {d : Int} {l : List Int} (h : Dig B (d :: l)) : Dig B l := fun x hx => h x (by simp [hx])
theorem Dig.append {l m : List Int} (h : Dig B l) (k : Dig B m) : Dig B (l ++ m) := fun x hx => by
  rcases List.mem_append.1 hx with hx | hx
  · exact h x hx
  · exact k x hx
theorem Dig.take {l : List Int} (h : Dig B l) (k : Nat) : Dig B (l.take k) := fun x hx => h x (List.mem_of_mem_take hx)
theorem Dig.drop {l : List Int} (h : Dig B l) (k : Nat) : Dig B (l.drop k) := fun x hx => h x (List.mem_of_mem_drop hx)
theorem Dig.getD {l : List Int} (h : Dig B l) (hB0 : 0 < B) (i : Nat) : 0 ≤ l.getD i 0 ∧ l.getD i 0 < (B : Int) := by
  rcases Nat.lt_or_ge i l.length with hi | hi
  · have : l.getD i 0 = l[i] := by simp [List.getD, hi]
    rw [this]; exact h _ (List.getElem_mem hi)
  · have : l.getD i 0 = 0 := by simp [List.getD, List.getElem?_eq_none hi]
    rw [this]; omega
theorem Dig.set {l : List Int} (h : Dig B l) (i : Nat) {d : Int} (h0 : 0 ≤ d) (h1 : d < (B : Int)) : Dig B (l.set i d) := fun x hx => by
  rcases List.mem_or_eq_of_mem_set hx with hx | rfl
  · exact h x hx
  · exact ⟨h0, h1⟩
theorem val_nil : val B [] = 0 := rfl
theorem val_cons (d : Int) (l : List Int) : val B (d :: l) = d + (B : Int) * val B l := rfl
theorem val_append (l m : List Int) : val B (l ++ m) = val B l + (B : Int) ^ l.length * val B m := by
  induction l with
  | nil => simp [val]
  | cons d l ih =>
    rw [List.cons_append, val_cons, val_cons, ih, List.length_cons, Int.pow_succ, Int.mul_add, Int.add_assoc]
    congr 2
    rw [← Int.mul_assoc, Int.mul_comm (B : Int)]
theorem val_snoc (l : List Int) (d : Int) : val B (l ++ [d]) = val B l + (B : Int) ^ l.length * d := by
  rw [val_append, val_cons, val_nil, Int.mul_zero, Int.add_zero]
theorem val_zeros (k : Nat) : val B (List.replicate k 0) = 0 := by
  induction k with
  | zero => rfl
  | succ k ih => rw [List.replicate_succ, val_cons, ih]; simp
theorem pow_pos (hB : 2 ≤ B) (k : Nat) : (0 : Int) < (B : Int) ^ k := Int.pow_pos (by omega)
theorem val_nonneg {l : List Int} (h : Dig B l) : 0 ≤ val B l := by
  induction l with
  | nil => exact Int.le_refl _
  | cons d l ih =>
    rw [val_cons]
    have := Int.mul_nonneg (Int.natCast_nonneg B) (ih h.tail)
    have := h.head
    omega
theorem val_lt (hB : 2 ≤ B) {l : List Int} (h : Dig B l) : val B l < (B : Int) ^ l.length := by
  induction l with
  | nil => simp [val]
  | cons d l ih =>
    rw [val_cons, List.length_cons, Int.pow_succ, Int.mul_comm _ (B : Int)]
    have h1 := ih h.tail
    have h2 := h.head
    have : (B : Int) * (val B l + 1) ≤ (B : Int) * (B : Int) ^ l.length := Int.mul_le_mul_of_nonneg_left (by omega) (by omega)
    rw [Int.mul_add] at this
    omega
theorem val_take_drop (l : List Int) (k : Nat) (hk : k ≤ l.length) : val B l = val B (l.take k) + (B : Int) ^ k * val B (l.drop k) := by
  have := val_append (B := B) (l.take k) (l.drop k)
  rw [List.take_append_drop, List.length_take, Nat.min_eq_left hk] at this
  exact this
def Top (l : List Int) : Prop := l ≠ [] → l.getLast? ≠ some 0
theorem Top.tail {d : Int} {l : List Int} (h : Top (d :: l)) : Top l := by
  intro hl h2
  apply h (by simp)
  rw [List.getLast?_cons, h2]
  simp
theorem val_pos {l : List Int} (h : Dig B l) (ht : Top l) (hl : l ≠ []) (hB : 2 ≤ B) : 0 < val B l := by
  induction l with
  | nil => exact absurd rfl hl
  | cons d l ih =>
    rw [val_cons]
    have h1 := h.head
    by_cases hl2 : l = []
    · subst hl2
      have : d ≠ 0 := fun hd => ht (by simp) (by rw [hd]; rfl)
      rw [val_nil]; omega
    · have h2 := ih h.tail ht.tail hl2
      have := Int.mul_pos (show (0 : Int) < B by omega) h2
      omega
theorem dg_dig (n : Nat) : Dig B (dg B hB n) := by
  induction n using Nat.strongRecOn with
  | ind n ih =>
    by_cases h : n = 0
    · subst h; rw [dg_zero]; exact Dig.nil
    · rw [dg_pos hB h]
      have := Nat.mod_lt n (show 0 < B by omega)
      exact Dig.cons (by omega) (by omega) (ih _ (Nat.div_lt_self (Nat.pos_of_ne_zero h) hB))
theorem dg_val (n : Nat) : val B (dg B hB n) = n := by
  induction n using Nat.strongRecOn with
  | ind n ih =>
    by_cases h : n = 0
    · subst h; rw [dg_zero]; rfl
    · rw [dg_pos hB h, val_cons, ih _ (Nat.div_lt_self (Nat.pos_of_ne_zero h) hB)]
      have := Nat.mod_add_div n B
      rw [← Int.natCast_mul, ← Int.natCast_add, this]
theorem dg_top (n : Nat) : Top (dg B hB n) := by
  induction n using Nat.strongRecOn with
  | ind n ih =>
    by_cases h : n = 0
    · subst h; rw [dg_zero]; intro h; exact absurd rfl h
    · rw [dg_pos hB h]
      intro _ h2
      have h3 := ih _ (Nat.div_lt_self (Nat.pos_of_ne_zero h) hB)
      by_cases h4 : n / B = 0
      · rw [h4, dg_zero] at h2
        simp at h2
        have h5 : n < B := by
          rcases Nat.div_eq_zero_iff.1 h4 with h | h <;> omega
        rw [← Int.natCast_emod, Nat.mod_eq_of_lt h5] at h2
        omega
      · rw [List.getLast?_cons] at h2
        have h5 := h3 (by rw [dg_pos hB h4]; simp)
        cases hg : (dg B hB (n / B)).getLast? with
        | none => rw [List.getLast?_eq_none_iff] at hg; rw [dg_pos hB h4] at hg; simp at hg
        | some x => rw [hg] at h2 h5; simp at h2 h5; exact h5 h2
theorem dg_of {l : List Int} (h : Dig B l) (ht : Top l) : dg B hB (val B l).toNat = l := by
  induction l with
  | nil => exact dg_zero hB
  | cons d l ih =>
    have hp := val_pos h ht (by simp) hB
    have h0 := val_nonneg h.tail
    have h1 := h.head
    have hv : (val B (d :: l)).toNat = d.toNat + B * (val B l).toNat := by
      rw [val_cons]
      obtain ⟨a, ha⟩ := Int.eq_ofNat_of_zero_le h0
      obtain ⟨b, hb⟩ := Int.eq_ofNat_of_zero_le h1.1
      rw [ha, hb]
      simp only [Int.toNat_natCast]
      rw [← Int.natCast_mul, ← Int.natCast_add, Int.toNat_natCast]
    rw [dg_pos hB (by omega), hv]
    have hd : d.toNat < B := by omega
    rw [Nat.add_mul_mod_self_left, Nat.mod_eq_of_lt hd, Nat.add_mul_div_left _ _ (by omega), Nat.div_eq_of_lt hd, Nat.zero_add, ih h.tail ht.tail]
    congr 1
    omega
theorem dg_length_le {n k : Nat} (h : n < B ^ k) : (dg B hB n).length ≤ k := by
  induction k generalizing n with
  | zero =>
    have : n = 0 := by simpa using h
    subst this; rw [dg_zero]; simp
  | succ k ih =>
    by_cases h0 : n = 0
    · subst h0; rw [dg_zero]; simp
    · rw [dg_pos hB h0, List.length_cons]
      have : n / B < B ^ k := by
        rw [Nat.div_lt_iff_lt_mul (by omega)]
        rwa [Nat.pow_succ] at h
      have := ih this
      omega
theorem lt_of_dg_length {n : Nat} : n < B ^ (dg B hB n).length := by
  have h := val_lt hB (dg_dig hB n)
  rw [dg_val hB n] at h
  exact_mod_cast h
theorem dg_nil_iff {n : Nat} : dg B hB n = [] ↔ n = 0 := by
  constructor
  · intro h
    have := dg_val hB n
    rw [h, val_nil] at this
    omega
  · rintro rfl; exact dg_zero hB
def trim (l : List Int) : List Int := (l.reverse.dropWhile (· == 0)).reverse
end Dg
end
section
set_option linter.unusedSimpArgs false
set_option linter.unusedVariables false
namespace Dg
variable {B : Nat}
theorem getD_lt {l : List Int} {i : Nat} (h : i < l.length) : l.getD i 0 = l[i] := by simp [List.getD, h]
theorem getD_ge {l : List Int} {i : Nat} (h : l.length ≤ i) : l.getD i 0 = 0 := by simp [List.getD, List.getElem?_eq_none h]
theorem val_take_succ {l : List Int} {i : Nat} (hi : i < l.length) : val B (l.take (i + 1)) = val B (l.take i) + (B : Int) ^ i * l.getD i 0 := by
  rw [List.take_succ_eq_append_getElem hi, val_snoc, List.length_take, Nat.min_eq_left (by omega), getD_lt hi]
theorem val_take_succ' (l : List Int) (i : Nat) : val B (l.take (i + 1)) = val B (l.take i) + (B : Int) ^ i * l.getD i 0 := by
  by_cases hi : i < l.length
  · exact val_take_succ hi
  · rw [getD_ge (by omega), List.take_of_length_le (by omega), List.take_of_length_le (by omega)]; simp
theorem val_drop {l : List Int} {i : Nat} (hi : i < l.length) : val B (l.drop i) = l.getD i 0 + (B : Int) * val B (l.drop (i + 1)) := by
  rw [List.drop_eq_getElem_cons hi, val_cons, getD_lt hi]
theorem val_drop' (l : List Int) (i : Nat) : val B (l.drop i) = l.getD i 0 + (B : Int) * val B (l.drop (i + 1)) := by
  by_cases hi : i < l.length
  · exact val_drop hi
  · rw [getD_ge (by omega), List.drop_of_length_le (by omega), List.drop_of_length_le (by omega), val_nil]; simp
theorem val_set {l : List Int} {i : Nat} (hi : i < l.length) (x : Int) : val B (l.set i x) = val B l + (B : Int) ^ i * (x - l.getD i 0) := by
  induction l generalizing i with
  | nil => simp at hi
  | cons d l ih =>
    cases i with
    | zero => simp [List.set, val_cons]; omega
    | succ i =>
      have hi' : i < l.length := by simpa using hi
      rw [List.set_cons_succ, val_cons, val_cons, ih hi', List.getD_cons_succ]
      grind
theorem getD_set_eq {l : List Int} {i : Nat} (hi : i < l.length) (x : Int) : (l.set i x).getD i 0 = x := by
  rw [getD_lt (by simpa using hi)]; simp
theorem getD_set_ne {l : List Int} {i j : Nat} (h : i ≠ j) (x : Int) : (l.set i x).getD j 0 = l.getD j 0 := by
  simp [List.getD, List.getElem?_set_ne h]
theorem take_set {l : List Int} {i : Nat} (x : Int) : (l.set i x).take i = l.take i := by
  rw [List.take_set, List.set_eq_of_length_le (by simp; omega)]
theorem Dig.all0 {l : List Int} (h : Dig B l) (hB : 0 < B) : ∀ i, 0 ≤ l.getD i 0 ∧ l.getD i 0 < (B : Int) := h.getD hB
theorem val_lt_of_length (hB : 2 ≤ B) {a b : List Int} (ha : Dig B a) (hb : Dig B b) (ht : Top b) (h : a.length < b.length) : val B a < val B b := by
  have h1 := val_lt hB ha
  have hne : b ≠ [] := by intro e; subst e; simp at h
  obtain ⟨l, d, rfl⟩ : ∃ l d, b = l ++ [d] := ⟨b.dropLast, b.getLast hne, (List.dropLast_concat_getLast hne).symm⟩
  rw [val_snoc]
  have hd : 0 ≤ d ∧ d < (B : Int) := hb d (by simp)
  have hd0 : d ≠ 0 := by
    intro e; subst e
    exact ht (by simp) (by simp)
  have hl := val_nonneg (l := l) (fun x hx => hb x (by simp [hx]))
  have hle : a.length ≤ l.length := by simp at h; omega
  have h2 : (B : Int) ^ a.length ≤ (B : Int) ^ l.length := by
    have := Nat.pow_le_pow_right (n := B) (by omega) hle
    exact_mod_cast this
  have h3 : (B : Int) ^ l.length * 1 ≤ (B : Int) ^ l.length * d := Int.mul_le_mul_of_nonneg_left (by omega) (Int.le_of_lt (pow_pos hB _))
  omega
theorem val_lt_of_digit (hB : 2 ≤ B) {a b : List Int} (ha : Dig B a) (hb : Dig B b) (i : Nat) (h : a.drop (i + 1) = b.drop (i + 1)) (hi : i < b.length) (hlt : a.getD i 0 < b.getD i 0) : val B a < val B b := by
  have e1 : val B a = val B (a.take i) + (B : Int) ^ i * val B (a.drop i) := by
    by_cases hk : i ≤ a.length
    · exact val_take_drop a i hk
    · have hd := congrArg List.length h
      simp at hd
      rw [List.take_of_length_le (by omega), List.drop_of_length_le (by omega), val_nil]; simp
  have e2 := val_take_drop (B := B) b i (by omega)
  rw [val_drop' a i] at e1
  rw [val_drop' b i] at e2
  rw [h] at e1
  have h1 := val_lt hB (ha.take i)
  have h2 := val_nonneg (hb.take i)
  have h3 : (B : Int) ^ (a.take i).length ≤ (B : Int) ^ i := by
    have := Nat.pow_le_pow_right (n := B) (by omega) (show (a.take i).length ≤ i by simp; omega)
    exact_mod_cast this
  have h4 : (B : Int) ^ i * (a.getD i 0 + 1) ≤ (B : Int) ^ i * b.getD i 0 := Int.mul_le_mul_of_nonneg_left (by omega) (Int.le_of_lt (pow_pos hB _))
  rw [Int.mul_add] at e1 e2 h4
  omega
theorem top_take_of {l : List Int} {n : Nat} (hn : n ≤ l.length) (h : n = 0 ∨ l.getD (n - 1) 0 ≠ 0) : Top (l.take n) := by
  intro hne h2
  rcases h with rfl | h
  · simp at hne
  · have hn0 : n ≠ 0 := by rintro rfl; simp at hne
    rw [List.getLast?_eq_getElem?, List.length_take, Nat.min_eq_left hn, List.getElem?_take_of_lt (by omega)] at h2
    rw [List.getD, h2] at h
    simp at h
theorem top_iff {l : List Int} : Top l ↔ l = [] ∨ l.getD (l.length - 1) 0 ≠ 0 := by
  constructor
  · intro h
    by_cases hl : l = []
    · exact .inl hl
    · right
      have h1 := h hl
      rw [List.getLast?_eq_getElem?] at h1
      have : 0 < l.length := List.length_pos_iff.2 hl
      rw [getD_lt (by omega)]
      rw [List.getElem?_eq_getElem (by omega)] at h1
      simpa using h1
  · intro h
    have := top_take_of (l := l) (n := l.length) (Nat.le_refl _) (by rcases h with rfl | h <;> simp_all)
    simpa using this
theorem val_take_zero {l : List Int} {n : Nat} (hn : n < l.length) (h : l.getD n 0 = 0) : val B (l.take (n + 1)) = val B (l.take n) := by
  rw [val_take_succ hn, h]; simp
theorem dig_replicate (hB : 0 < B) (k : Nat) : Dig B (List.replicate k 0) := fun d hd => by
  rw [List.eq_of_mem_replicate hd]; omega
theorem dig_of_getD {l : List Int} (h : ∀ i, i < l.length → 0 ≤ l.getD i 0 ∧ l.getD i 0 < (B : Int)) : Dig B l := fun d hd => by
  obtain ⟨i, hi, rfl⟩ := List.getElem_of_mem hd
  have := h i hi
  rwa [getD_lt hi] at this
theorem dg_getD (hB : 2 ≤ B) (n i : Nat) : (dg B hB n).getD i 0 = ((n / B ^ i % B : Nat) : Int) := by
  induction i generalizing n with
  | zero =>
    by_cases h : n = 0
    · subst h; rw [dg_zero]; simp
    · rw [dg_pos hB h]; simp
  | succ i ih =>
    by_cases h : n = 0
    · subst h; rw [dg_zero]; simp
    · rw [dg_pos hB h, List.getD_cons_succ, ih, Nat.div_div_eq_div_mul, Nat.pow_succ, Nat.mul_comm B]
theorem val_div_mod (hB : 2 ≤ B) {l : List Int} (h : Dig B l) (k : Nat) : val B l / (B : Int) ^ k = val B (l.drop k) ∧ val B l % (B : Int) ^ k = val B (l.take k) := by
  have hp := pow_pos hB k
  by_cases hk : k ≤ l.length
  · have e := val_take_drop (B := B) l k hk
    have h1 := val_nonneg (h.take k)
    have h2 := val_lt hB (h.take k)
    rw [List.length_take, Nat.min_eq_left hk] at h2
    constructor
    · rw [e, Int.add_mul_ediv_left _ _ (by omega), Int.ediv_eq_zero_of_lt h1 h2, Int.zero_add]
    · rw [e, Int.add_mul_emod_self_left, Int.emod_eq_of_lt h1 h2]
  · have h1 := val_nonneg h
    have h2 := val_lt hB h
    have h3 : (B : Int) ^ l.length ≤ (B : Int) ^ k := by
      have := Nat.pow_le_pow_right (n := B) (by omega) (show l.length ≤ k by omega)
      exact_mod_cast this
    rw [List.drop_of_length_le (by omega), List.take_of_length_le (by omega), val_nil, Int.ediv_eq_zero_of_lt h1 (by omega), Int.emod_eq_of_lt h1 (by omega)]
    exact ⟨rfl, rfl⟩
end Dg
end
section
set_option linter.unusedSimpArgs false
set_option linter.unusedVariables false
namespace Dg
def bl (n : Nat) : Nat := if n = 0 then 0 else Nat.log2 n + 1
theorem bl_zero : bl 0 = 0 := rfl
theorem lt_bl (n : Nat) : n < 2 ^ bl n := by
  unfold bl
  split
  · subst n; decide
  · exact Nat.lt_log2_self
theorem bl_ge {n : Nat} (h : n ≠ 0) : 2 ^ (bl n - 1) ≤ n := by
  unfold bl
  rw [if_neg h]
  exact Nat.log2_self_le h
theorem bl_pos {n : Nat} (h : n ≠ 0) : 0 < bl n := by unfold bl; rw [if_neg h]; omega
theorem bl_le {n k : Nat} (h : n < 2 ^ k) : bl n ≤ k := by
  by_cases h0 : n = 0
  · subst h0; rw [bl_zero]; omega
  · have h1 := bl_ge h0
    have h2 := bl_pos h0
    rcases Nat.lt_or_ge k (bl n) with h3 | h3
    · have := Nat.pow_le_pow_right (n := 2) (by decide) (show k ≤ bl n - 1 by omega)
      omega
    · exact h3
theorem lt_bl_of {n k : Nat} (h : 2 ^ k ≤ n) : k < bl n := by
  rcases Nat.lt_or_ge k (bl n) with h3 | h3
  · exact h3
  · have := Nat.pow_le_pow_right (n := 2) (by decide) h3
    have := lt_bl n
    omega
theorem bl_iff {n k : Nat} : bl n ≤ k ↔ n < 2 ^ k := by
  constructor
  · intro h
    have := Nat.pow_le_pow_right (n := 2) (by decide) h
    have := lt_bl n
    omega
  · exact bl_le
theorem bl_mono {a b : Nat} (h : a ≤ b) : bl a ≤ bl b := bl_le (by have := lt_bl b; omega)
theorem bl_eq_zero {n : Nat} : bl n = 0 ↔ n = 0 := by
  constructor
  · intro h; have := lt_bl n; rw [h] at this; omega
  · rintro rfl; rfl
theorem bl_half {n : Nat} (h : n ≠ 0) : bl n = bl (n / 2) + 1 := by
  have h1 := bl_ge h
  have h2 := lt_bl n
  have h3 := bl_pos h
  obtain ⟨k, hk⟩ : ∃ k, bl n = k + 1 := ⟨bl n - 1, by omega⟩
  rw [hk] at h1 h2 ⊢
  rw [Nat.add_sub_cancel] at h1
  rw [Nat.pow_succ] at h2
  have h4 : bl (n / 2) ≤ k := bl_le (by omega)
  rcases Nat.lt_or_ge (bl (n / 2)) k with h5 | h5
  · have h6 := lt_bl (n / 2)
    have h7 := Nat.pow_le_pow_right (n := 2) (by decide) (show bl (n / 2) + 1 ≤ k by omega)
    rw [Nat.pow_succ] at h7
    omega
  · omega
theorem bl_shift {n : Nat} (h : n ≠ 0) (k : Nat) : bl (n * 2 ^ k) = bl n + k := by
  induction k with
  | zero => simp
  | succ k ih =>
    have hp := Nat.two_pow_pos k
    have : n * 2 ^ k ≠ 0 := Nat.mul_ne_zero h (by omega)
    rw [Nat.pow_succ, ← Nat.mul_assoc, bl_half (by omega), Nat.mul_div_cancel _ (by decide), ih]
    omega
theorem bl_shift_le (n k : Nat) : bl (n * 2 ^ k) ≤ bl n + k := by
  by_cases h : n = 0
  · subst h; rw [Nat.zero_mul, bl_zero]; omega
  · exact Nat.le_of_eq (bl_shift h k)
theorem bl_add_le (a b : Nat) : bl (a + b) ≤ max (bl a) (bl b) + 1 := by
  apply bl_le
  have h1 := lt_bl a
  have h2 := lt_bl b
  have h3 := Nat.pow_le_pow_right (n := 2) (by decide) (Nat.le_max_left (bl a) (bl b))
  have h4 := Nat.pow_le_pow_right (n := 2) (by decide) (Nat.le_max_right (bl a) (bl b))
  rw [Nat.pow_succ]
  omega
theorem bl_add_high {a b k : Nat} (ha : a ≠ 0) (hb : b < 2 ^ k) : bl (a * 2 ^ k + b) = bl a + k := by
  have h1 := bl_ge ha
  have h2 := lt_bl a
  have h3 := bl_pos ha
  apply Nat.le_antisymm
  · apply bl_le
    rw [Nat.pow_add]
    have := Nat.mul_le_mul_right (2 ^ k) (show a + 1 ≤ 2 ^ bl a by omega)
    rw [Nat.add_mul] at this
    omega
  · have : 2 ^ (bl a + k - 1) ≤ a * 2 ^ k + b := by
      rw [show bl a + k - 1 = (bl a - 1) + k by omega, Nat.pow_add]
      have := Nat.mul_le_mul_right (2 ^ k) h1
      omega
    have := lt_bl_of this
    omega
variable {w : Nat}
theorem dg_len_bl (hB : 2 ≤ 2 ^ w) (n : Nat) : bl n ≤ w * (dg (2 ^ w) hB n).length ∧ (n ≠ 0 → w * ((dg (2 ^ w) hB n).length - 1) < bl n) := by
  constructor
  · apply bl_le
    have := lt_of_dg_length hB (n := n)
    rwa [← Nat.pow_mul] at this
  · intro h
    apply lt_bl_of
    rw [Nat.pow_mul]
    rcases Nat.lt_or_ge n ((2 ^ w) ^ ((dg (2 ^ w) hB n).length - 1)) with h1 | h1
    · have h2 := dg_length_le hB h1
      have h3 : (dg (2 ^ w) hB n).length ≠ 0 := by
        intro h4
        rw [List.length_eq_zero_iff, dg_nil_iff] at h4
        exact h h4
      omega
    · exact h1
theorem dg_len_le (hB : 2 ≤ 2 ^ w) (n : Nat) : (dg (2 ^ w) hB n).length ≤ bl n := by
  by_cases h : n = 0
  · subst h; rw [dg_zero]; simp
  · have h1 := (dg_len_bl hB n).2 h
    have hw : 1 ≤ w := by
      rcases Nat.lt_or_ge w 1 with h | h
      · have : w = 0 := by omega
        subst this; simp at hB
      · exact h
    have := Nat.mul_le_mul_right ((dg (2 ^ w) hB n).length - 1) hw
    have := bl_pos h
    omega
theorem bl_last (hB : 2 ≤ 2 ^ w) {n : Nat} (h : n ≠ 0) : ∃ d : Nat, (dg (2 ^ w) hB n).getD ((dg (2 ^ w) hB n).length - 1) 0 = (d : Int) ∧ d ≠ 0 ∧ d < 2 ^ w ∧ bl n = w * ((dg (2 ^ w) hB n).length - 1) + bl d := by
  have hlen : (dg (2 ^ w) hB n).length ≠ 0 := by
    intro h4
    rw [List.length_eq_zero_iff, dg_nil_iff] at h4
    exact h h4
  obtain ⟨m, hm⟩ : ∃ m, (dg (2 ^ w) hB n).length = m + 1 := ⟨(dg (2 ^ w) hB n).length - 1, by omega⟩
  rw [hm, Nat.add_sub_cancel, dg_getD]
  have h1 := lt_of_dg_length hB (n := n)
  rw [hm, Nat.pow_succ] at h1
  have h2 : n / (2 ^ w) ^ m < 2 ^ w := by
    apply Nat.div_lt_of_lt_mul
    exact h1
  have h3 : n / (2 ^ w) ^ m ≠ 0 := by
    intro h4
    have h5 : n < (2 ^ w) ^ m := by
      rcases Nat.div_eq_zero_iff.1 h4 with h | h
      · have := Nat.pow_pos (n := m) (Nat.two_pow_pos w)
        omega
      · exact h
    have := dg_length_le hB h5
    omega
  rw [Nat.mod_eq_of_lt h2]
  refine ⟨_, rfl, h3, h2, ?_⟩
  have h6 := Nat.div_add_mod n ((2 ^ w) ^ m)
  have h7 := Nat.mod_lt n (Nat.pow_pos (n := m) (Nat.two_pow_pos w))
  rw [← Nat.pow_mul] at h6 h7 ⊢
  rw [← Nat.pow_mul] at h3
  have := bl_add_high h3 h7
  rw [Nat.mul_comm, h6] at this
  rw [this, Nat.add_comm]
end Dg
end
section
set_option linter.unusedSimpArgs false
set_option linter.unusedVariables false
namespace Dg
def D (n : Nat) : List Int := dg 4294967296 (by decide) n
def L (n : Nat) : List Int := dg 16777216 (by decide) n
theorem D_zero : D 0 = [] := dg_zero _
theorem D_dig (n : Nat) : Dig 4294967296 (D n) := dg_dig _ n
theorem D_val (n : Nat) : val 4294967296 (D n) = n := dg_val _ n
theorem D_top (n : Nat) : Top (D n) := dg_top _ n
theorem D_nil {n : Nat} : D n = [] ↔ n = 0 := dg_nil_iff _
theorem D_len (n : Nat) : (D n).length ≤ bl n := dg_len_le (w := 32) (by decide) n
theorem D_of {l : List Int} (h : Dig 4294967296 l) (ht : Top l) : D (val 4294967296 l).toNat = l := dg_of _ h ht
theorem D_getD (n i : Nat) : (D n).getD i 0 = ((n / 4294967296 ^ i % 4294967296 : Nat) : Int) := dg_getD _ n i
theorem D_pos {n : Nat} (h : n ≠ 0) : 0 < (D n).length := List.length_pos_iff.2 (fun e => h (D_nil.1 e))
theorem D_bl (n : Nat) : bl n ≤ 32 * (D n).length := (dg_len_bl (w := 32) (by decide) n).1
theorem D_last {n : Nat} (h : n ≠ 0) : ∃ d : Nat, (D n).getD ((D n).length - 1) 0 = (d : Int) ∧ d ≠ 0 ∧ d < 4294967296 ∧ bl n = 32 * ((D n).length - 1) + bl d := bl_last (w := 32) (by decide) h
theorem L_zero : L 0 = [] := dg_zero _
theorem L_dig (n : Nat) : Dig 16777216 (L n) := dg_dig _ n
theorem L_val (n : Nat) : val 16777216 (L n) = n := dg_val _ n
theorem L_top (n : Nat) : Top (L n) := dg_top _ n
theorem L_nil {n : Nat} : L n = [] ↔ n = 0 := dg_nil_iff _
theorem L_len (n : Nat) : (L n).length ≤ bl n := dg_len_le (w := 24) (by decide) n
theorem L_of {l : List Int} (h : Dig 16777216 l) (ht : Top l) : L (val 16777216 l).toNat = l := dg_of _ h ht
theorem L_getD (n i : Nat) : (L n).getD i 0 = ((n / 16777216 ^ i % 16777216 : Nat) : Int) := dg_getD _ n i
theorem L_pos {n : Nat} (h : n ≠ 0) : 0 < (L n).length := List.length_pos_iff.2 (fun e => h (L_nil.1 e))
theorem L_last {n : Nat} (h : n ≠ 0) : ∃ d : Nat, (L n).getD ((L n).length - 1) 0 = (d : Int) ∧ d ≠ 0 ∧ d < 16777216 ∧ bl n = 24 * ((L n).length - 1) + bl d := bl_last (w := 24) (by decide) h
theorem L_bl (n : Nat) : bl n ≤ 24 * (L n).length := (dg_len_bl (w := 24) (by decide) n).1
theorem L_len_iff (n k : Nat) : (L n).length ≤ k ↔ bl n ≤ 24 * k := by
  constructor
  · intro h
    have := L_bl n
    have := Nat.mul_le_mul_left 24 h
    omega
  · intro h
    by_cases h0 : n = 0
    · subst h0; rw [L_zero]; simp
    · have := (dg_len_bl (w := 24) (by decide) n).2 h0
      have h2 : 24 * ((L n).length - 1) < bl n := this
      omega
theorem D_snoc0 {l : List Int} (n : Nat) (hn : n + 1 = l.length) (h : l.getD n 0 = 0) : val 4294967296 (l.take n) = val 4294967296 l := by
  have := val_take_zero (B := 4294967296) (l := l) (n := n) (by omega) h
  rw [List.take_of_length_le (by omega)] at this
  exact this.symm
theorem D_top_of {l : List Int} (n : Nat) (hn : n + 1 = l.length) (h : ¬ l.getD n 0 = 0) : Top l := by
  rw [top_iff]; right; rw [show l.length - 1 = n by omega]; exact h
end Dg
end
section
set_option linter.unusedSimpArgs false
set_option linter.unusedVariables false
namespace Dg
variable {B : Nat}
theorem val_set_take {l : List Int} {i : Nat} (hi : i < l.length) (x : Int) : val B ((l.set i x).take (i + 1)) = val B (l.take i) + (B : Int) ^ i * x := by
  rw [val_take_succ (by simpa using hi), take_set, getD_set_eq hi]
theorem val_take_ge {l : List Int} {n : Nat} (h : l.length ≤ n) : val B (l.take n) = val B l := by rw [List.take_of_length_le h]
theorem add_step {a b c x c' p : Int} {P Va Vb Vy : Int} (h : Vy + P * c = Va + Vb) (hx : a + b + c = x + p * c') : Vy + P * x + P * p * c' = (Va + P * a) + (Vb + P * b) := by
  have : P * (a + b + c) = P * (x + p * c') := by rw [hx]
  grind
theorem sub_step {a b c x c' p : Int} {P Va Vb Vy : Int} (h : Vy - P * c = Va - Vb) (hx : a - b - c = x - p * c') : Vy + P * x - P * p * c' = (Va + P * a) - (Vb + P * b) := by
  have : P * (a - b - c) = P * (x - p * c') := by rw [hx]
  grind
theorem val_digits (hB : 2 ≤ B) (l : List Int) (n : Nat) (h : ∀ i, i < l.length → l.getD i 0 = ((n / B ^ i % B : Nat) : Int)) : val B l = ((n % B ^ l.length : Nat) : Int) := by
  induction l generalizing n with
  | nil => simp [val, Nat.mod_one]
  | cons d l ih =>
    have h0 := h 0 (by simp)
    rw [List.getD_cons_zero, Nat.pow_zero, Nat.div_one] at h0
    have h1 := ih (n / B) (fun i hi => by
      have := h (i + 1) (by simpa using hi)
      rw [List.getD_cons_succ] at this
      rw [this, Nat.div_div_eq_div_mul, Nat.pow_succ, Nat.mul_comm B])
    rw [val_cons, h0, h1, List.length_cons, Nat.pow_succ, Nat.mul_comm (B ^ l.length) B, Nat.mod_mul]
    simp
end Dg
end
section
set_option linter.unusedSimpArgs false
set_option linter.unusedVariables false
namespace Dg
def tz (n : Nat) : Nat := if h : n % 2 = 1 ∨ n = 0 then 0 else tz (n / 2) + 1
termination_by n
decreasing_by omega
theorem tz_odd1 {n : Nat} (h : n % 2 = 1) : tz n = 0 := by rw [tz]; simp [h]
theorem tz_half {n : Nat} (h : n % 2 = 0) (h0 : n ≠ 0) : tz n = tz (n / 2) + 1 := by
  rw [tz, dif_neg (by omega)]
theorem tz_spec {n : Nat} (h0 : n ≠ 0) : n = n / 2 ^ tz n * 2 ^ tz n ∧ n / 2 ^ tz n % 2 = 1 := by
  induction n using Nat.strongRecOn with
  | ind n ih =>
    by_cases h : n % 2 = 1
    · rw [tz_odd1 h]; simpa using h
    · have h2 : n % 2 = 0 := by omega
      obtain ⟨h3, h4⟩ := ih (n / 2) (by omega) (by omega)
      rw [tz_half h2 h0, Nat.pow_succ, Nat.mul_comm (2 ^ tz (n / 2)) 2, ← Nat.div_div_eq_div_mul]
      refine ⟨?_, h4⟩
      rw [Nat.mul_comm 2, ← Nat.mul_assoc, ← h3]
      omega
theorem tz_odd {n : Nat} (h0 : n ≠ 0) : n / 2 ^ tz n % 2 = 1 := (tz_spec h0).2
theorem tz_even {n k : Nat} (h : k < tz n) : n / 2 ^ k % 2 = 0 := by
  by_cases h0 : n = 0
  · subst h0; simp
  · have h1 := (tz_spec h0).1
    obtain ⟨m, hm⟩ : ∃ m, tz n = k + (m + 1) := ⟨tz n - k - 1, by omega⟩
    generalize n / 2 ^ tz n = a at *
    rw [hm, Nat.pow_add, Nat.mul_comm (2 ^ k), ← Nat.mul_assoc] at h1
    rw [h1, Nat.mul_div_cancel _ (Nat.two_pow_pos k), Nat.pow_succ, ← Nat.mul_assoc, Nat.mul_mod_left]
theorem tz_lt {n : Nat} (h0 : n ≠ 0) : tz n < bl n := by
  have h1 := tz_spec h0
  refine lt_bl_of ?_
  have h2 : 1 ≤ n / 2 ^ tz n := by
    have := h1.2
    generalize n / 2 ^ tz n = a at *
    omega
  have := Nat.mul_le_mul_right (2 ^ tz n) h2
  rw [Nat.one_mul, ← h1.1] at this
  exact this
theorem tz_dvd {n k : Nat} (h0 : n ≠ 0) : n % 2 ^ k = 0 ↔ k ≤ tz n := by
  have h1 := tz_spec h0
  constructor
  · intro h
    rcases Nat.lt_or_ge (tz n) k with h2 | h2
    · exfalso
      obtain ⟨m, rfl⟩ : ∃ m, k = tz n + (m + 1) := ⟨k - tz n - 1, by omega⟩
      have h3 := Nat.div_add_mod n (2 ^ (tz n + (m + 1)))
      rw [h, Nat.add_zero, Nat.pow_add] at h3
      have h5 := h1.2
      generalize tz n = t at *
      have h4 : n / 2 ^ t = 2 ^ (m + 1) * (n / (2 ^ t * 2 ^ (m + 1))) := by
        conv => lhs; rw [← h3]
        rw [Nat.mul_assoc, Nat.mul_div_cancel_left _ (Nat.two_pow_pos _)]
      rw [Nat.pow_succ 2 m, Nat.mul_comm (2 ^ m) 2, Nat.mul_assoc] at h4
      omega
    · exact h2
  · intro h
    obtain ⟨m, hm⟩ : ∃ m, tz n = k + m := ⟨tz n - k, by omega⟩
    have h2 := h1.1
    generalize n / 2 ^ tz n = a at *
    rw [hm, Nat.pow_add, Nat.mul_comm (2 ^ k), ← Nat.mul_assoc] at h2
    rw [h2, Nat.mul_mod_left]
theorem bit_limb (Y r : Nat) (hr : r < 24) : Y % 16777216 / 2 ^ r % 2 = Y / 2 ^ r % 2 := by
  have e : (16777216 : Nat) = 2 ^ r * 2 ^ (24 - r) := by rw [← Nat.pow_add, show r + (24 - r) = 24 by omega]
  rw [e, Nat.mod_mul_right_div_self, Nat.mod_mod_of_dvd]
  exact ⟨2 ^ (24 - r - 1), by rw [← Nat.pow_succ']; congr 1; omega⟩
theorem cut_digit (X r : Nat) (hr : r ≤ 24) : (X % 16777216 / 2 ^ r + X / 16777216 % 16777216 * 2 ^ (24 - r)) % 16777216 = X / 2 ^ r % 16777216 := by
  have e : (16777216 : Nat) = 2 ^ r * 2 ^ (24 - r) := by rw [← Nat.pow_add, show r + (24 - r) = 24 by omega]
  have h : X / 2 ^ r = X % 16777216 / 2 ^ r + X / 16777216 * 2 ^ (24 - r) := by
    conv => lhs; rw [← Nat.div_add_mod X 16777216]
    generalize X / 16777216 = Y
    generalize X % 16777216 = Z
    rw [e, Nat.mul_assoc, Nat.mul_add_div (Nat.two_pow_pos r), Nat.add_comm, Nat.mul_comm Y]
  rw [h, Nat.add_mod, Nat.mul_mod, Nat.mod_mod, ← Nat.mul_mod, ← Nat.add_mod]
end Dg
end
