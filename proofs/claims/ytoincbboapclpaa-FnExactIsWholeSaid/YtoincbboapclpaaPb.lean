/- What the laws' own helpers and the words 'is a whole number' come to: plain lists. -/
import Derived.Test.YtoincbboapclpaaPWx91
import Derived.Test.YtoincbboapclpaaPWx92
import Derived.Test.YtoincbboapclpaaPWx95
import Derived.Test.YtoincbboapclpaaPWx96
import Derived.Test.YtoincbboapclpaaPWx98
import Derived.Test.YtoincbboapclpaaPWx99
import Derived.Test.YtoincbboapclpaaPWx71
import Derived.Test.YtoincbboapclpaaPWx93
import Derived.Test.YtoincbboapclpaaPWx97
import Derived.Test.YtoincbboapclpaaDh
namespace Go.Proofs.Ytoincbboapclpaa.Pb
open Go.RowKit Go.Proofs.YtoincbboapclpaaW.PrintWords Go.Proofs.Ytoincbboapclpaa.PW
set_option linter.unusedVariables false
set_option linter.unusedSimpArgs false

theorem wrapN (i : Nat) (h : i < 4611686018427387904) : wrap64 ((i : Int) + 1) = ((i + 1 : Nat) : Int) := by unfold wrap64; omega
theorem wrapZ (z : Int) (h : -9223372036854775808 ≤ z) (h' : z ≤ 9223372036854775807) : wrap64 z = z := by unfold wrap64; omega
theorem rdN (l : List Int) (i : Nat) : rd l (i : Int) = l.getD i 0 := by simp [rd]

theorem ev_of {α : Type} {g : Nat → Option α} {r : α} (h : ∀ k, g k = some r) : Ev g r := ⟨0, fun k _ => h k⟩

theorem ifp {α : Type} {c : Prop} [Decidable c] {f g : Nat → Option α} {r : α} (hc : c) (h : Ev f r) : Ev (fun k => if c then f k else g k) r := by
  have : (fun k => if c then f k else g k) = f := by funext k; rw [if_pos hc]
  rw [this]; exact h
theorem ifn {α : Type} {c : Prop} [Decidable c] {f g : Nat → Option α} {r : α} (hc : ¬ c) (h : Ev g r) : Ev (fun k => if c then f k else g k) r := by
  have : (fun k => if c then f k else g k) = g := by funext k; rw [if_neg hc]
  rw [this]; exact h

theorem sz_le (s : Int) (l : List Int) (n : Int) (h : (l.length : Int) ≤ n) (hn : n ≤ 1048576) : laws_szWhole.f s l n = some (n - l.length) := by
  unfold laws_szWhole.f laws_szInt64S.f
  rw [wrapZ _ (by omega) (by omega), if_neg (by omega)]
  simp only [Option.bind_some]
  rw [if_neg (by omega)]

theorem sz_gt (s : Int) (l : List Int) (n : Int) (hm : l.length ≤ 9223372036854775807) (hn : n ≤ 1048576) (h : n < (l.length : Int)) (h0 : 0 ≤ n) : laws_szWhole.f s l n = some (-1) := by
  unfold laws_szWhole.f laws_szInt64S.f
  rw [wrapZ _ (by omega) (by omega), if_pos (by omega)]
  rfl

theorem take_step {l ys : List Int} {i : Nat} (hi : i < l.length) (hy : ys.length = l.length) (h : ys.take i = l.take i) : (ys.set i (l.getD i 0)).take (i + 1) = l.take (i + 1) := by
  rw [List.take_succ_eq_append_getElem (by simp; omega), List.take_succ_eq_append_getElem hi, Dg.take_set, h]
  simp [hi]

theorem toInt64S_loop (l : List Int) (hl : l.length ≤ 1048576) (d : Nat) : ∀ (i : Nat) (ys : List Int), i + d = l.length → ys.length = l.length → ys.take i = l.take i → Ev (fun k => laws_toInt64S.l0 k l ys (i : Int)) l := by
  induction d with
  | zero =>
    intro i ys hd hy h
    refine Ev.step (f := fun k => some l) (fun k => ?_) (ev_of fun _ => rfl)
    simp only [laws_toInt64S.l0]
    rw [if_neg (by omega)]
    rw [List.take_of_length_le (by omega), List.take_of_length_le (by omega)] at h
    rw [h]
  | succ d ih =>
    intro i ys hd hy h
    refine Ev.step (f := fun k => laws_toInt64S.l0 k l (ys.set i (l.getD i 0)) ((i + 1 : Nat) : Int)) (fun k => ?_) (ih (i + 1) _ (by omega) (by simpa using hy) (take_step (by omega) hy h))
    simp only [laws_toInt64S.l0]
    rw [if_pos (by omega), if_pos (by omega), if_pos (by omega), wrapN i (by omega), rdN, Int.toNat_natCast]

theorem toWhole (s : Int) (l : List Int) (hl : l.length ≤ 1048576) : Ev (fun k => laws_toWhole.f k s l) (s, l) := by
  unfold laws_toWhole.f laws_toInt64S.f
  refine Ev.bind (f := fun _ t => some (s, t)) (ifp (by omega) (ifp (by omega) ?_)) (ev_of fun _ => rfl)
  exact (toInt64S_loop l hl l.length 0 _ (by omega) (by simp) (by simp))

theorem eqInt64S_loop (l : List Int) (hl : l.length ≤ 9223372036854775807) (d : Nat) : ∀ (i : Nat), i + d = l.length → Ev (fun k => laws_eqInt64S.l0 k l l (i : Int)) true := by
  induction d with
  | zero =>
    intro i hd
    refine Ev.step (f := fun k => some true) (fun k => ?_) (ev_of fun _ => rfl)
    simp only [laws_eqInt64S.l0]
    rw [if_neg (by omega)]
  | succ d ih =>
    intro i hd
    refine Ev.step (f := fun k => laws_eqInt64S.l0 k l l ((i + 1 : Nat) : Int)) (fun k => ?_) (ih (i + 1) (by omega))
    simp only [laws_eqInt64S.l0]
    rw [if_pos (by omega), if_pos (by omega), if_pos (by omega), if_pos trivial, wrapZ _ (by omega) (by omega)]
    rfl

theorem eqWhole_self (s : Int) (l : List Int) (hl : l.length ≤ 9223372036854775807) : Ev (fun k => laws_eqWhole.f k s l s l) true := by
  unfold laws_eqWhole.f laws_eqInt64S.f
  exact ifp rfl (Ev.bind (f := fun _ (t : Bool) => if t = true then some true else some false) (ifp rfl (eqInt64S_loop l hl l.length 0 (by omega))) (ev_of fun _ => rfl))

/-- All are digits of the base 2^24. -/
def digB (l : List Int) : Bool := l.all fun x => decide (0 ≤ x) && decide (x ≤ 16777215)

/-- A whole number, as the reference and the program ask it. -/
def isW (s : Int) (l : List Int) : Bool :=
  digB l && (if l.length = 0 then s == 0 else decide (l.length ≤ 100) && (l.getD (l.length - 1) 0 != 0) && (s == 1 || s == -1))

theorem l02Is_loop (s : Int) (l : List Int) (hl : l.length ≤ 9223372036854775807) (d : Nat) : ∀ (i : Nat), i + d = l.length →
    Ev (fun k => spec_l02Is.l0 k (l.length : Int) (i : Int) s l) (digB (l.drop i) && (if l.length = 0 then s == 0 else decide (l.length ≤ 100) && (l.getD (l.length - 1) 0 != 0) && (s == 1 || s == -1))) := by
  induction d with
  | zero =>
    intro i hd
    have hi : i = l.length := by omega
    subst hi
    refine Ev.step (f := fun k => some _) (fun k => ?_) (ev_of fun _ => rfl)
    simp only [spec_l02Is.l0]
    rw [if_neg (by omega), List.drop_length]
    simp only [digB, List.all_nil, Bool.true_and]
    by_cases h0 : l.length = 0
    · rw [if_pos (by omega), if_pos h0]
    · rw [if_neg (by omega), if_neg h0]
      by_cases h1 : l.length ≤ 100
      · rw [if_pos (by omega), wrapZ _ (by omega) (by omega), if_pos (by omega), if_pos (by omega), show ((l.length : Int) - 1) = ((l.length - 1 : Nat) : Int) by omega, rdN]
        simp only [h1, decide_true, Bool.true_and]
        by_cases h2 : l.getD (l.length - 1) 0 = 0
        · rw [if_pos h2, h2]; simp
        · rw [if_neg h2]
          have h4 : (l.getD (l.length - 1) 0 != 0) = true := by rw [bne_iff_ne]; exact h2
          rw [h4]
          by_cases h3 : s = 1
          · rw [if_pos h3]; simp [h3]
          · rw [if_neg h3]; simp [h3]
      · rw [if_neg (by omega)]; simp [h1]
  | succ d ih =>
    intro i hd
    have hlt : i < l.length := by omega
    have hdrop : l.drop i = l.getD i 0 :: l.drop (i + 1) := by rw [List.drop_eq_getElem_cons hlt, Dg.getD_lt hlt]
    by_cases hx : 0 ≤ l.getD i 0 ∧ l.getD i 0 ≤ 16777215
    · have e : digB (l.drop i) = digB (l.drop (i + 1)) := by rw [hdrop]; simp only [digB, List.all_cons, hx.1, hx.2, decide_true, Bool.true_and]
      rw [e]
      refine Ev.step (f := fun k => spec_l02Is.l0 k (l.length : Int) ((i + 1 : Nat) : Int) s l) (fun k => ?_) (ih (i + 1) (by omega))
      simp only [spec_l02Is.l0]
      rw [if_pos (by omega), if_pos (by omega), if_pos (by omega), rdN]
      unfold spec_l01In.f
      rw [if_pos hx.1]
      simp only [Option.bind_some, hx.2, decide_true, if_true]
      rw [wrapZ _ (by omega) (by omega)]
      rfl
    · have e : digB (l.drop i) = false := by rw [hdrop]; simp only [digB, List.all_cons, Bool.and_eq_false_iff, decide_eq_false_iff_not]; omega
      rw [e, Bool.false_and]
      refine Ev.step (f := fun k => some false) (fun k => ?_) (ev_of fun _ => rfl)
      simp only [spec_l02Is.l0]
      rw [if_pos (by omega), if_pos (by omega), if_pos (by omega), rdN]
      unfold spec_l01In.f
      by_cases h1 : 0 ≤ l.getD i 0
      · rw [if_pos h1]
        have h2 : ¬ l.getD i 0 ≤ 16777215 := fun h => hx ⟨h1, h⟩
        simp only [h2, decide_false, Option.bind_some]; rfl
      · rw [if_neg h1]; rfl

theorem l02Is (s : Int) (l : List Int) (hl : l.length ≤ 9223372036854775807) : Ev (fun k => spec_l02Is.f k s l) (isW s l) := by
  have := l02Is_loop s l hl l.length 0 (by omega)
  rw [List.drop_zero] at this
  exact this

theorem impl_loop (s : Int) (l : List Int) (hl : l.length ≤ 9223372036854775807) (d : Nat) : ∀ (i : Nat), i + d = l.length →
    Ev (fun k => impl_IsWhole.l0 k (l.length : Int) l (l.length : Int) (i : Int) s l) (digB (l.drop i) && (decide (l.length = 0) || (l.getD (l.length - 1) 0 != 0))) := by
  induction d with
  | zero =>
    intro i hd
    have hi : i = l.length := by omega
    subst hi
    refine Ev.step (f := fun k => some _) (fun k => ?_) (ev_of fun _ => rfl)
    simp only [impl_IsWhole.l0]
    rw [if_neg (by omega), List.drop_length]
    simp only [digB, List.all_nil, Bool.true_and]
    by_cases h0 : l.length = 0
    · rw [if_pos (by omega)]; simp [h0]
    · rw [if_neg (by omega), wrapZ _ (by omega) (by omega), if_pos (by omega), if_pos (by omega), show ((l.length : Int) - 1) = ((l.length - 1 : Nat) : Int) by omega, rdN]
      simp [h0]
  | succ d ih =>
    intro i hd
    have hlt : i < l.length := by omega
    have hdrop : l.drop i = l.getD i 0 :: l.drop (i + 1) := by rw [List.drop_eq_getElem_cons hlt, Dg.getD_lt hlt]
    by_cases hx : 0 ≤ l.getD i 0 ∧ l.getD i 0 ≤ 16777215
    · have e : digB (l.drop i) = digB (l.drop (i + 1)) := by rw [hdrop]; simp only [digB, List.all_cons, hx.1, hx.2, decide_true, Bool.true_and]
      rw [e]
      refine Ev.step (f := fun k => impl_IsWhole.l0 k (l.length : Int) l (l.length : Int) ((i + 1 : Nat) : Int) s l) (fun k => ?_) (ih (i + 1) (by omega))
      simp only [impl_IsWhole.l0]
      rw [if_pos (by omega), if_pos (by omega), if_pos (by omega), rdN, if_neg (by omega), if_neg (by omega), wrapZ _ (by omega) (by omega)]
      rfl
    · have e : digB (l.drop i) = false := by rw [hdrop]; simp only [digB, List.all_cons, Bool.and_eq_false_iff, decide_eq_false_iff_not]; omega
      rw [e, Bool.false_and]
      refine Ev.step (f := fun k => some false) (fun k => ?_) (ev_of fun _ => rfl)
      simp only [impl_IsWhole.l0]
      rw [if_pos (by omega), if_pos (by omega), if_pos (by omega), rdN]
      by_cases h1 : l.getD i 0 < 0
      · rw [if_pos h1]
      · rw [if_neg h1, if_pos (by omega)]

theorem j0_true (n s : Int) (l : List Int) : Ev (fun k => impl_IsWhole.j0 k n true s l) false :=
  Ev.step (f := fun _ => some false) (fun k => by simp only [impl_IsWhole.j0]; rw [if_pos trivial]) (ev_of fun _ => rfl)

theorem iIs (s : Int) (l : List Int) (hl : l.length ≤ 9223372036854775807) : Ev (fun k => impl_IsWhole.f k s l) (isW s l) := by
  unfold impl_IsWhole.f
  by_cases h1 : (l.length : Int) > 100
  · have : isW s l = false := by unfold isW; rw [if_neg (by omega), show decide (l.length ≤ 100) = false by simp; omega]; simp
    rw [this]; exact ifp h1 (j0_true _ _ _)
  · refine ifn h1 ?_
    by_cases h2 : s < -1
    · have : isW s l = false := by
        unfold isW
        have e1 : (s == 0) = false := by simp; omega
        have e2 : (s == 1 || s == -1) = false := by simp; omega
        rw [e1, e2]; split <;> simp
      rw [this]; exact ifp h2 (j0_true _ _ _)
    · refine ifn h2 ?_
      by_cases h3 : s > 1
      · have : isW s l = false := by
          unfold isW
          have e1 : (s == 0) = false := by simp; omega
          have e2 : (s == 1 || s == -1) = false := by simp; omega
          rw [e1, e2]; split <;> simp
        rw [this]; exact ifp h3 (j0_true _ _ _)
      · refine ifn h3 ?_
        by_cases h0 : l.length = 0
        · have e0 : ((l.length : Int) == 0) = true := beq_iff_eq.2 (by omega)
          rw [e0]
          by_cases hs : s = 0
          · subst hs
            have := impl_loop 0 l hl l.length 0 (by omega)
            rw [List.drop_zero] at this
            have e : isW 0 l = (digB l && (decide (l.length = 0) || (l.getD (l.length - 1) 0 != 0))) := by
              unfold isW; rw [if_pos h0]; simp only [h0, decide_true, Bool.true_or]; rfl
            rw [e]
            exact Ev.step (f := fun k => impl_IsWhole.l0 k (l.length : Int) l (l.length : Int) 0 0 l) (fun k => by simp only [impl_IsWhole.j0]; rw [if_neg (by simp)]) this
          · have e1 : (s == 0) = false := by simp; omega
            have : isW s l = false := by unfold isW; rw [if_pos h0, e1]; simp
            rw [this, e1]; exact j0_true _ _ _
        · have e0 : ((l.length : Int) == 0) = false := beq_eq_false_iff_ne.2 (by omega)
          rw [e0]
          by_cases hs : s = 0
          · subst hs
            have : isW 0 l = false := by unfold isW; rw [if_neg h0]; simp
            rw [this]; exact j0_true _ _ _
          · have e1 : (s == 0) = false := by simp; omega
            rw [e1]
            have := impl_loop s l hl l.length 0 (by omega)
            rw [List.drop_zero] at this
            have e2 : (s == 1 || s == -1) = true := by simp; omega
            have e : isW s l = (digB l && (decide (l.length = 0) || (l.getD (l.length - 1) 0 != 0))) := by
              unfold isW; rw [if_neg h0, e2, show decide (l.length ≤ 100) = true by simp; omega, decide_eq_false h0]; simp only [Bool.true_and, Bool.and_true, Bool.false_or]
            rw [e]
            exact Ev.step (f := fun k => impl_IsWhole.l0 k (l.length : Int) l (l.length : Int) 0 s l) (fun k => by simp only [impl_IsWhole.j0]; rw [if_neg (by simp)]) this
end Go.Proofs.Ytoincbboapclpaa.Pb
