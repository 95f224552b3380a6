/- Lemmas of the claim: Dg, Dh, Di, Dj, Dk, Dt. -/
section
set_option linter.unusedSimpArgs false
set_option linter.unusedVariables false
namespace Dg
def val (B : Nat) : List Int → Int
  | [] => 0
  | d :: l => d + (B : Int) * val B l
def Dig (B : Nat) (l : List Int) : Prop := ∀ d ∈ l, 0 ≤ d ∧ d < (B : Int)
def dg (B : Nat) (hB : 2 ≤ B) (n : Nat) : List Int :=
  if h : n = 0 then [] else ((n % B : Nat) : Int) :: dg B hB (n / B)
termination_by n
decreasing_by exact Nat.div_lt_self (Nat.pos_of_ne_zero h) hB
variable {B : Nat} (hB : 2 ≤ B)
theorem dg_zero : dg B hB 0 = [] := by rw [dg]; simp
theorem dg_pos {n : Nat} (h : n ≠ 0) : dg B hB n = ((n % B : Nat) : Int) :: dg B hB (n / B) := by rw [dg]; simp [h]
theorem Dig.nil : Dig B [] := fun _ h => by simp at h
theorem Dig.cons {d : Int} {l : List Int} (h0 : 0 ≤ d) (h1 : d < (B : Int)) (h : Dig B l) : Dig B (d :: l) := by
  intro x hx
  rcases List.mem_cons.1 hx with rfl | hx
  · exact ⟨h0, h1⟩
  · exact h x hx
theorem Dig.head {d : Int} {l : List Int} (h : Dig B (d :: l)) : 0 ≤ d ∧ d < (B : Int) := h d (by simp)
theorem Dig.tail {d : Int} {l : List Int} (h : Dig B (d :: l)) : Dig B l := fun x hx => h x (by simp [hx])
theorem Dig.take {l : List Int} (h : Dig B l) (k : Nat) : Dig B (l.take k) := fun x hx => h x (List.mem_of_mem_take hx)
theorem Dig.drop {l : List Int} (h : Dig B l) (k : Nat) : Dig B (l.drop k) := fun x hx => h x (List.mem_of_mem_drop hx)
theorem Dig.getD {l : List Int} (h : Dig B l) (hB0 : 0 < B) (i : Nat) : 0 ≤ l.getD i 0 ∧ l.getD i 0 < (B : Int) := by
  rcases Nat.lt_or_ge i l.length with hi | hi
  · have : l.getD i 0 = l[i] := by simp [List.getD, hi]
    rw [this]; exact h _ (List.getElem_mem hi)
  · have : l.getD i 0 = 0 := by simp [List.getD, List.getElem?_eq_none hi]
    rw [this]; omega
theorem Dig.set {l : List Int} (h : Dig B l) (i : Nat) {d : Int} (h0 : 0 ≤ d) (h1 : d < (B : Int)) : Dig B (l.set i d) := fun x hx => by
  rcases List.mem_or_eq_of_mem_set hx with hx | rfl
  · exact h x hx
  · exact ⟨h0, h1⟩
theorem val_nil : val B [] = 0 := rfl
theorem val_cons (d : Int) (l : List Int) : val B (d :: l) = d + (B : Int) * val B l := rfl
theorem pow_pos (hB : 2 ≤ B) (k : Nat) : (0 : Int) < (B : Int) ^ k := Int.pow_pos (by omega)
theorem val_lt (hB : 2 ≤ B) {l : List Int} (h : Dig B l) : val B l < (B : Int) ^ l.length := by
  induction l with
  | nil => simp [val]
  | cons d l ih =>
    rw [val_cons, List.length_cons, Int.pow_succ, Int.mul_comm _ (B : Int)]
    have h1 := ih h.tail
    have h2 := h.head
    have : (B : Int) * (val B l + 1) ≤ (B : Int) * (B : Int) ^ l.length := Int.mul_le_mul_of_nonneg_left (by omega) (by omega)
    rw [Int.mul_add] at this
    omega
def Top (l : List Int) : Prop := l ≠ [] → l.getLast? ≠ some 0
theorem Top.tail {d : Int} {l : List Int} (h : Top (d :: l)) : Top l := by
  intro hl h2
  apply h (by simp)
  rw [List.getLast?_cons, h2]
  simp
theorem dg_dig (n : Nat) : Dig B (dg B hB n) := by
  induction n using Nat.strongRecOn with
  | ind n ih =>
    by_cases h : n = 0
    · subst h; rw [dg_zero]; exact Dig.nil
    · rw [dg_pos hB h]
      have := Nat.mod_lt n (show 0 < B by omega)
      exact Dig.cons (by omega) (by omega) (ih _ (Nat.div_lt_self (Nat.pos_of_ne_zero h) hB))
theorem dg_val (n : Nat) : val B (dg B hB n) = n := by
  induction n using Nat.strongRecOn with
  | ind n ih =>
    by_cases h : n = 0
    · subst h; rw [dg_zero]; rfl
    · rw [dg_pos hB h, val_cons, ih _ (Nat.div_lt_self (Nat.pos_of_ne_zero h) hB)]
      have := Nat.mod_add_div n B
      rw [← Int.natCast_mul, ← Int.natCast_add, this]
theorem dg_length_le {n k : Nat} (h : n < B ^ k) : (dg B hB n).length ≤ k := by
  induction k generalizing n with
  | zero =>
    have : n = 0 := by simpa using h
    subst this; rw [dg_zero]; simp
  | succ k ih =>
    by_cases h0 : n = 0
    · subst h0; rw [dg_zero]; simp
    · rw [dg_pos hB h0, List.length_cons]
      have : n / B < B ^ k := by
        rw [Nat.div_lt_iff_lt_mul (by omega)]
        rwa [Nat.pow_succ] at h
      have := ih this
      omega
theorem lt_of_dg_length {n : Nat} : n < B ^ (dg B hB n).length := by
  have h := val_lt hB (dg_dig hB n)
  rw [dg_val hB n] at h
  exact_mod_cast h
theorem dg_nil_iff {n : Nat} : dg B hB n = [] ↔ n = 0 := by
  constructor
  · intro h
    have := dg_val hB n
    rw [h, val_nil] at this
    omega
  · rintro rfl; exact dg_zero hB
end Dg
end
section
set_option linter.unusedSimpArgs false
set_option linter.unusedVariables false
namespace Dg
variable {B : Nat}
theorem getD_lt {l : List Int} {i : Nat} (h : i < l.length) : l.getD i 0 = l[i] := by simp [List.getD, h]
theorem getD_set_ne {l : List Int} {i j : Nat} (h : i ≠ j) (x : Int) : (l.set i x).getD j 0 = l.getD j 0 := by
  simp [List.getD, List.getElem?_set_ne h]
theorem take_set {l : List Int} {i : Nat} (x : Int) : (l.set i x).take i = l.take i := by
  rw [List.take_set, List.set_eq_of_length_le (by simp; omega)]
theorem Dig.all0 {l : List Int} (h : Dig B l) (hB : 0 < B) : ∀ i, 0 ≤ l.getD i 0 ∧ l.getD i 0 < (B : Int) := h.getD hB
theorem top_take_of {l : List Int} {n : Nat} (hn : n ≤ l.length) (h : n = 0 ∨ l.getD (n - 1) 0 ≠ 0) : Top (l.take n) := by
  intro hne h2
  rcases h with rfl | h
  · simp at hne
  · have hn0 : n ≠ 0 := by rintro rfl; simp at hne
    rw [List.getLast?_eq_getElem?, List.length_take, Nat.min_eq_left hn, List.getElem?_take_of_lt (by omega)] at h2
    rw [List.getD, h2] at h
    simp at h
theorem top_iff {l : List Int} : Top l ↔ l = [] ∨ l.getD (l.length - 1) 0 ≠ 0 := by
  constructor
  · intro h
    by_cases hl : l = []
    · exact .inl hl
    · right
      have h1 := h hl
      rw [List.getLast?_eq_getElem?] at h1
      have : 0 < l.length := List.length_pos_iff.2 hl
      rw [getD_lt (by omega)]
      rw [List.getElem?_eq_getElem (by omega)] at h1
      simpa using h1
  · intro h
    have := top_take_of (l := l) (n := l.length) (Nat.le_refl _) (by rcases h with rfl | h <;> simp_all)
    simpa using this
theorem dg_getD (hB : 2 ≤ B) (n i : Nat) : (dg B hB n).getD i 0 = ((n / B ^ i % B : Nat) : Int) := by
  induction i generalizing n with
  | zero =>
    by_cases h : n = 0
    · subst h; rw [dg_zero]; simp
    · rw [dg_pos hB h]; simp
  | succ i ih =>
    by_cases h : n = 0
    · subst h; rw [dg_zero]; simp
    · rw [dg_pos hB h, List.getD_cons_succ, ih, Nat.div_div_eq_div_mul, Nat.pow_succ, Nat.mul_comm B]
end Dg
end
section
set_option linter.unusedSimpArgs false
set_option linter.unusedVariables false
namespace Dg
def bl (n : Nat) : Nat := if n = 0 then 0 else Nat.log2 n + 1
theorem bl_zero : bl 0 = 0 := rfl
theorem lt_bl (n : Nat) : n < 2 ^ bl n := by
  unfold bl
  split
  · subst n; decide
  · exact Nat.lt_log2_self
theorem bl_ge {n : Nat} (h : n ≠ 0) : 2 ^ (bl n - 1) ≤ n := by
  unfold bl
  rw [if_neg h]
  exact Nat.log2_self_le h
theorem bl_pos {n : Nat} (h : n ≠ 0) : 0 < bl n := by unfold bl; rw [if_neg h]; omega
theorem bl_le {n k : Nat} (h : n < 2 ^ k) : bl n ≤ k := by
  by_cases h0 : n = 0
  · subst h0; rw [bl_zero]; omega
  · have h1 := bl_ge h0
    have h2 := bl_pos h0
    rcases Nat.lt_or_ge k (bl n) with h3 | h3
    · have := Nat.pow_le_pow_right (n := 2) (by decide) (show k ≤ bl n - 1 by omega)
      omega
    · exact h3
theorem lt_bl_of {n k : Nat} (h : 2 ^ k ≤ n) : k < bl n := by
  rcases Nat.lt_or_ge k (bl n) with h3 | h3
  · exact h3
  · have := Nat.pow_le_pow_right (n := 2) (by decide) h3
    have := lt_bl n
    omega
theorem bl_eq_zero {n : Nat} : bl n = 0 ↔ n = 0 := by
  constructor
  · intro h; have := lt_bl n; rw [h] at this; omega
  · rintro rfl; rfl
theorem bl_half {n : Nat} (h : n ≠ 0) : bl n = bl (n / 2) + 1 := by
  have h1 := bl_ge h
  have h2 := lt_bl n
  have h3 := bl_pos h
  obtain ⟨k, hk⟩ : ∃ k, bl n = k + 1 := ⟨bl n - 1, by omega⟩
  rw [hk] at h1 h2 ⊢
  rw [Nat.add_sub_cancel] at h1
  rw [Nat.pow_succ] at h2
  have h4 : bl (n / 2) ≤ k := bl_le (by omega)
  rcases Nat.lt_or_ge (bl (n / 2)) k with h5 | h5
  · have h6 := lt_bl (n / 2)
    have h7 := Nat.pow_le_pow_right (n := 2) (by decide) (show bl (n / 2) + 1 ≤ k by omega)
    rw [Nat.pow_succ] at h7
    omega
  · omega
theorem bl_add_high {a b k : Nat} (ha : a ≠ 0) (hb : b < 2 ^ k) : bl (a * 2 ^ k + b) = bl a + k := by
  have h1 := bl_ge ha
  have h2 := lt_bl a
  have h3 := bl_pos ha
  apply Nat.le_antisymm
  · apply bl_le
    rw [Nat.pow_add]
    have := Nat.mul_le_mul_right (2 ^ k) (show a + 1 ≤ 2 ^ bl a by omega)
    rw [Nat.add_mul] at this
    omega
  · have : 2 ^ (bl a + k - 1) ≤ a * 2 ^ k + b := by
      rw [show bl a + k - 1 = (bl a - 1) + k by omega, Nat.pow_add]
      have := Nat.mul_le_mul_right (2 ^ k) h1
      omega
    have := lt_bl_of this
    omega
variable {w : Nat}
theorem dg_len_bl (hB : 2 ≤ 2 ^ w) (n : Nat) : bl n ≤ w * (dg (2 ^ w) hB n).length ∧ (n ≠ 0 → w * ((dg (2 ^ w) hB n).length - 1) < bl n) := by
  constructor
  · apply bl_le
    have := lt_of_dg_length hB (n := n)
    rwa [← Nat.pow_mul] at this
  · intro h
    apply lt_bl_of
    rw [Nat.pow_mul]
    rcases Nat.lt_or_ge n ((2 ^ w) ^ ((dg (2 ^ w) hB n).length - 1)) with h1 | h1
    · have h2 := dg_length_le hB h1
      have h3 : (dg (2 ^ w) hB n).length ≠ 0 := by
        intro h4
        rw [List.length_eq_zero_iff, dg_nil_iff] at h4
        exact h h4
      omega
    · exact h1
theorem dg_len_le (hB : 2 ≤ 2 ^ w) (n : Nat) : (dg (2 ^ w) hB n).length ≤ bl n := by
  by_cases h : n = 0
  · subst h; rw [dg_zero]; simp
  · have h1 := (dg_len_bl hB n).2 h
    have hw : 1 ≤ w := by
      rcases Nat.lt_or_ge w 1 with h | h
      · have : w = 0 := by omega
        subst this; simp at hB
      · exact h
    have := Nat.mul_le_mul_right ((dg (2 ^ w) hB n).length - 1) hw
    have := bl_pos h
    omega
theorem bl_last (hB : 2 ≤ 2 ^ w) {n : Nat} (h : n ≠ 0) : ∃ d : Nat, (dg (2 ^ w) hB n).getD ((dg (2 ^ w) hB n).length - 1) 0 = (d : Int) ∧ d ≠ 0 ∧ d < 2 ^ w ∧ bl n = w * ((dg (2 ^ w) hB n).length - 1) + bl d := by
  have hlen : (dg (2 ^ w) hB n).length ≠ 0 := by
    intro h4
    rw [List.length_eq_zero_iff, dg_nil_iff] at h4
    exact h h4
  obtain ⟨m, hm⟩ : ∃ m, (dg (2 ^ w) hB n).length = m + 1 := ⟨(dg (2 ^ w) hB n).length - 1, by omega⟩
  rw [hm, Nat.add_sub_cancel, dg_getD]
  have h1 := lt_of_dg_length hB (n := n)
  rw [hm, Nat.pow_succ] at h1
  have h2 : n / (2 ^ w) ^ m < 2 ^ w := by
    apply Nat.div_lt_of_lt_mul
    exact h1
  have h3 : n / (2 ^ w) ^ m ≠ 0 := by
    intro h4
    have h5 : n < (2 ^ w) ^ m := by
      rcases Nat.div_eq_zero_iff.1 h4 with h | h
      · have := Nat.pow_pos (n := m) (Nat.two_pow_pos w)
        omega
      · exact h
    have := dg_length_le hB h5
    omega
  rw [Nat.mod_eq_of_lt h2]
  refine ⟨_, rfl, h3, h2, ?_⟩
  have h6 := Nat.div_add_mod n ((2 ^ w) ^ m)
  have h7 := Nat.mod_lt n (Nat.pow_pos (n := m) (Nat.two_pow_pos w))
  rw [← Nat.pow_mul] at h6 h7 ⊢
  rw [← Nat.pow_mul] at h3
  have := bl_add_high h3 h7
  rw [Nat.mul_comm, h6] at this
  rw [this, Nat.add_comm]
end Dg
end
section
set_option linter.unusedSimpArgs false
set_option linter.unusedVariables false
namespace Dg
def D (n : Nat) : List Int := dg 4294967296 (by decide) n
theorem D_zero : D 0 = [] := dg_zero _
theorem D_nil {n : Nat} : D n = [] ↔ n = 0 := dg_nil_iff _
theorem D_len (n : Nat) : (D n).length ≤ bl n := dg_len_le (w := 32) (by decide) n
theorem D_pos {n : Nat} (h : n ≠ 0) : 0 < (D n).length := List.length_pos_iff.2 (fun e => h (D_nil.1 e))
theorem D_last {n : Nat} (h : n ≠ 0) : ∃ d : Nat, (D n).getD ((D n).length - 1) 0 = (d : Int) ∧ d ≠ 0 ∧ d < 4294967296 ∧ bl n = 32 * ((D n).length - 1) + bl d := bl_last (w := 32) (by decide) h
end Dg
end
section
namespace Dg
end Dg
end
section
namespace Dg
end Dg
end
