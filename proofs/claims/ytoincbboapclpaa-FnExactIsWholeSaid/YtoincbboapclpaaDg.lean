/- Digits: lists of digits of a base, the lowest first, and the numbers that they stand for. Plain arithmetic, no program. -/
set_option linter.unusedSimpArgs false
set_option linter.unusedVariables false
namespace Dg

/-- The number of a list of digits. -/
def val (B : Nat) : List Int → Int
  | [] => 0
  | d :: l => d + (B : Int) * val B l

def Dig (B : Nat) (l : List Int) : Prop := ∀ d ∈ l, 0 ≤ d ∧ d < (B : Int)

/-- The digits of a number. -/
def dg (B : Nat) (hB : 2 ≤ B) (n : Nat) : List Int :=
  if h : n = 0 then [] else ((n % B : Nat) : Int) :: dg B hB (n / B)
termination_by n
decreasing_by exact Nat.div_lt_self (Nat.pos_of_ne_zero h) hB

variable {B : Nat} (hB : 2 ≤ B)

theorem dg_zero : dg B hB 0 = [] := by rw [dg]; simp
theorem dg_pos {n : Nat} (h : n ≠ 0) : dg B hB n = ((n % B : Nat) : Int) :: dg B hB (n / B) := by rw [dg]; simp [h]

theorem Dig.nil : Dig B [] := fun _ h => by simp at h
theorem Dig.cons {d : Int} {l : List Int} (h0 : 0 ≤ d) (h1 : d < (B : Int)) (h : Dig B l) : Dig B (d :: l) := by
  intro x hx
  rcases List.mem_cons.1 hx with rfl | hx
  · exact ⟨h0, h1⟩
  · exact h x hx
theorem Dig.head {d : Int} {l : List Int} (h : Dig B (d :: l)) : 0 ≤ d ∧ d < (B : Int) := h d (by simp)
theorem Dig.tail {d : Int} {l : List Int} (h : Dig B (d :: l)) : Dig B l := fun x hx => h x (by simp [hx])
theorem Dig.append {l m : List Int} (h : Dig B l) (k : Dig B m) : Dig B (l ++ m) := fun x hx => by
  rcases List.mem_append.1 hx with hx | hx
  · exact h x hx
  · exact k x hx
theorem Dig.take {l : List Int} (h : Dig B l) (k : Nat) : Dig B (l.take k) := fun x hx => h x (List.mem_of_mem_take hx)
theorem Dig.drop {l : List Int} (h : Dig B l) (k : Nat) : Dig B (l.drop k) := fun x hx => h x (List.mem_of_mem_drop hx)
theorem Dig.getD {l : List Int} (h : Dig B l) (hB0 : 0 < B) (i : Nat) : 0 ≤ l.getD i 0 ∧ l.getD i 0 < (B : Int) := by
  rcases Nat.lt_or_ge i l.length with hi | hi
  · have : l.getD i 0 = l[i] := by simp [List.getD, hi]
    rw [this]; exact h _ (List.getElem_mem hi)
  · have : l.getD i 0 = 0 := by simp [List.getD, List.getElem?_eq_none hi]
    rw [this]; omega
theorem Dig.set {l : List Int} (h : Dig B l) (i : Nat) {d : Int} (h0 : 0 ≤ d) (h1 : d < (B : Int)) : Dig B (l.set i d) := fun x hx => by
  rcases List.mem_or_eq_of_mem_set hx with hx | rfl
  · exact h x hx
  · exact ⟨h0, h1⟩

theorem val_nil : val B [] = 0 := rfl
theorem val_cons (d : Int) (l : List Int) : val B (d :: l) = d + (B : Int) * val B l := rfl
theorem val_append (l m : List Int) : val B (l ++ m) = val B l + (B : Int) ^ l.length * val B m := by
  induction l with
  | nil => simp [val]
  | cons d l ih =>
    rw [List.cons_append, val_cons, val_cons, ih, List.length_cons, Int.pow_succ, Int.mul_add, Int.add_assoc]
    congr 2
    rw [← Int.mul_assoc, Int.mul_comm (B : Int)]
theorem val_snoc (l : List Int) (d : Int) : val B (l ++ [d]) = val B l + (B : Int) ^ l.length * d := by
  rw [val_append, val_cons, val_nil, Int.mul_zero, Int.add_zero]
theorem val_zeros (k : Nat) : val B (List.replicate k 0) = 0 := by
  induction k with
  | zero => rfl
  | succ k ih => rw [List.replicate_succ, val_cons, ih]; simp

theorem pow_pos (hB : 2 ≤ B) (k : Nat) : (0 : Int) < (B : Int) ^ k := Int.pow_pos (by omega)

theorem val_nonneg {l : List Int} (h : Dig B l) : 0 ≤ val B l := by
  induction l with
  | nil => exact Int.le_refl _
  | cons d l ih =>
    rw [val_cons]
    have := Int.mul_nonneg (Int.natCast_nonneg B) (ih h.tail)
    have := h.head
    omega
theorem val_lt (hB : 2 ≤ B) {l : List Int} (h : Dig B l) : val B l < (B : Int) ^ l.length := by
  induction l with
  | nil => simp [val]
  | cons d l ih =>
    rw [val_cons, List.length_cons, Int.pow_succ, Int.mul_comm _ (B : Int)]
    have h1 := ih h.tail
    have h2 := h.head
    have : (B : Int) * (val B l + 1) ≤ (B : Int) * (B : Int) ^ l.length := Int.mul_le_mul_of_nonneg_left (by omega) (by omega)
    rw [Int.mul_add] at this
    omega

theorem val_take_drop (l : List Int) (k : Nat) (hk : k ≤ l.length) : val B l = val B (l.take k) + (B : Int) ^ k * val B (l.drop k) := by
  have := val_append (B := B) (l.take k) (l.drop k)
  rw [List.take_append_drop, List.length_take, Nat.min_eq_left hk] at this
  exact this

/-- The last digit is not 0. -/
def Top (l : List Int) : Prop := l ≠ [] → l.getLast? ≠ some 0

theorem Top.tail {d : Int} {l : List Int} (h : Top (d :: l)) : Top l := by
  intro hl h2
  apply h (by simp)
  rw [List.getLast?_cons, h2]
  simp

theorem val_pos {l : List Int} (h : Dig B l) (ht : Top l) (hl : l ≠ []) (hB : 2 ≤ B) : 0 < val B l := by
  induction l with
  | nil => exact absurd rfl hl
  | cons d l ih =>
    rw [val_cons]
    have h1 := h.head
    by_cases hl2 : l = []
    · subst hl2
      have : d ≠ 0 := fun hd => ht (by simp) (by rw [hd]; rfl)
      rw [val_nil]; omega
    · have h2 := ih h.tail ht.tail hl2
      have := Int.mul_pos (show (0 : Int) < B by omega) h2
      omega

theorem dg_dig (n : Nat) : Dig B (dg B hB n) := by
  induction n using Nat.strongRecOn with
  | ind n ih =>
    by_cases h : n = 0
    · subst h; rw [dg_zero]; exact Dig.nil
    · rw [dg_pos hB h]
      have := Nat.mod_lt n (show 0 < B by omega)
      exact Dig.cons (by omega) (by omega) (ih _ (Nat.div_lt_self (Nat.pos_of_ne_zero h) hB))
theorem dg_val (n : Nat) : val B (dg B hB n) = n := by
  induction n using Nat.strongRecOn with
  | ind n ih =>
    by_cases h : n = 0
    · subst h; rw [dg_zero]; rfl
    · rw [dg_pos hB h, val_cons, ih _ (Nat.div_lt_self (Nat.pos_of_ne_zero h) hB)]
      have := Nat.mod_add_div n B
      rw [← Int.natCast_mul, ← Int.natCast_add, this]
theorem dg_top (n : Nat) : Top (dg B hB n) := by
  induction n using Nat.strongRecOn with
  | ind n ih =>
    by_cases h : n = 0
    · subst h; rw [dg_zero]; intro h; exact absurd rfl h
    · rw [dg_pos hB h]
      intro _ h2
      have h3 := ih _ (Nat.div_lt_self (Nat.pos_of_ne_zero h) hB)
      by_cases h4 : n / B = 0
      · rw [h4, dg_zero] at h2
        simp at h2
        have h5 : n < B := by
          rcases Nat.div_eq_zero_iff.1 h4 with h | h <;> omega
        rw [← Int.natCast_emod, Nat.mod_eq_of_lt h5] at h2
        omega
      · rw [List.getLast?_cons] at h2
        have h5 := h3 (by rw [dg_pos hB h4]; simp)
        cases hg : (dg B hB (n / B)).getLast? with
        | none => rw [List.getLast?_eq_none_iff] at hg; rw [dg_pos hB h4] at hg; simp at hg
        | some x => rw [hg] at h2 h5; simp at h2 h5; exact h5 h2
/-- A list of digits whose last one is not 0 is that of its number. -/
theorem dg_of {l : List Int} (h : Dig B l) (ht : Top l) : dg B hB (val B l).toNat = l := by
  induction l with
  | nil => exact dg_zero hB
  | cons d l ih =>
    have hp := val_pos h ht (by simp) hB
    have h0 := val_nonneg h.tail
    have h1 := h.head
    have hv : (val B (d :: l)).toNat = d.toNat + B * (val B l).toNat := by
      rw [val_cons]
      obtain ⟨a, ha⟩ := Int.eq_ofNat_of_zero_le h0
      obtain ⟨b, hb⟩ := Int.eq_ofNat_of_zero_le h1.1
      rw [ha, hb]
      simp only [Int.toNat_natCast]
      rw [← Int.natCast_mul, ← Int.natCast_add, Int.toNat_natCast]
    rw [dg_pos hB (by omega), hv]
    have hd : d.toNat < B := by omega
    rw [Nat.add_mul_mod_self_left, Nat.mod_eq_of_lt hd, Nat.add_mul_div_left _ _ (by omega), Nat.div_eq_of_lt hd, Nat.zero_add, ih h.tail ht.tail]
    congr 1
    omega
theorem dg_eq {l : List Int} {n : Nat} (h : Dig B l) (ht : Top l) (hv : val B l = n) : l = dg B hB n := by
  have := dg_of hB h ht
  rw [hv, Int.toNat_natCast] at this
  exact this.symm
theorem dg_length_le {n k : Nat} (h : n < B ^ k) : (dg B hB n).length ≤ k := by
  induction k generalizing n with
  | zero =>
    have : n = 0 := by simpa using h
    subst this; rw [dg_zero]; simp
  | succ k ih =>
    by_cases h0 : n = 0
    · subst h0; rw [dg_zero]; simp
    · rw [dg_pos hB h0, List.length_cons]
      have : n / B < B ^ k := by
        rw [Nat.div_lt_iff_lt_mul (by omega)]
        rwa [Nat.pow_succ] at h
      have := ih this
      omega
theorem lt_of_dg_length {n : Nat} : n < B ^ (dg B hB n).length := by
  have h := val_lt hB (dg_dig hB n)
  rw [dg_val hB n] at h
  exact_mod_cast h
theorem dg_nil_iff {n : Nat} : dg B hB n = [] ↔ n = 0 := by
  constructor
  · intro h
    have := dg_val hB n
    rw [h, val_nil] at this
    omega
  · rintro rfl; exact dg_zero hB

/-- Zeros at the end fall away. -/
def trim (l : List Int) : List Int := (l.reverse.dropWhile (· == 0)).reverse

end Dg
