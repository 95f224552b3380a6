/- What the reference's words on whole numbers come to: making one; the laws' marks. Plain. -/
import Derived.Test.YtdjdnllnhonjkaaPWx25
import Derived.Test.YtdjdnllnhonjkaaPWx26
import Derived.Test.YtdjdnllnhonjkaaKa
import Derived.Test.YtdjdnllnhonjkaaKb
namespace Go.Proofs.Ytdjdnllnhonjkaa.Px
open Go.RowKit Go.Proofs.YtdjdnllnhonjkaaW.PrintWords Go.Proofs.Ytdjdnllnhonjkaa.PW Go.Proofs.Ytdjdnllnhonjkaa.Pb Go.Proofs.Ytdjdnllnhonjkaa.Pc Go.Proofs.Ytdjdnllnhonjkaa.Pm Go.Proofs.Ytdjdnllnhonjkaa.Pw Dg
set_option linter.unusedVariables false
set_option linter.unusedSimpArgs false

theorem sown (l : List Int) (h : l.length ≤ 1099511627776) : spec_l01Own.f l = some l := by
  unfold spec_l01Own.f
  simp only [Option.bind_some, List.length_nil, List.nil_append]
  rw [if_pos (by omega)]

/-- A sign and a number's limbs. -/
def smk (s : Int) (n : Nat) : Int × List Int := if n = 0 then (0, []) else (s, L n)
theorem smk_sgn (z : Int) : smk (sgn z) z.natAbs = (sgn z, L z.natAbs) := by
  unfold smk
  by_cases h : z = 0
  · subst h
    simp [sgn, L_zero]
  · rw [if_neg (by omega)]
theorem smk_one (z : Int) (s : Int) (hs : s = if z < 0 then -1 else 1) : smk s z.natAbs = (sgn z, L z.natAbs) := by
  by_cases h : z = 0
  · subst h
    simp [smk, sgn, L_zero]
  · rw [← smk_sgn z, hs]
    congr 1
    unfold sgn
    split
    · rfl
    · first | rw [if_neg h] | rfl

theorem smake_loop (s : Int) (l : List Int) (hd : Dig 16777216 l) (hl : l.length ≤ 1099511627776) : ∀ i : Nat, i ≤ l.length → val 16777216 (l.take i) = val 16777216 l → Ev (fun k => spec_l02Make.l0 k s l (i : Int)) (smk s (val 16777216 l).toNat) := by
  intro i
  induction i with
  | zero =>
    intro _ hv
    refine Ev.step (f := fun _ => some (0, [])) (fun k => ?_) (ev_of fun _ => ?_)
    · simp only [spec_l02Make.l0]
      rw [if_neg (by omega), if_pos (by omega)]
    · rw [List.take_zero, val_nil] at hv
      rw [← hv]; rfl
  | succ i ih =>
    intro hi hv
    have e1 : wrap64 (((i + 1 : Nat) : Int) - 1) = (i : Int) := by rw [wrapZ _ (by omega) (by omega)]; omega
    by_cases h0 : l.getD i 0 = 0
    · refine Ev.step (f := fun k => spec_l02Make.l0 k s l (i : Int)) (fun k => ?_) (ih (by omega) ?_)
      · simp only [spec_l02Make.l0]
        rw [if_pos (by omega), e1, if_pos (by omega), if_pos (by omega), rdN, if_pos h0]
      · rw [← hv]
        exact (val_take_zero (by omega) h0).symm
    · refine Ev.step (f := fun _ => some (s, l.take (i + 1))) (fun k => ?_) (ev_of fun _ => ?_)
      · simp only [spec_l02Make.l0]
        rw [if_pos (by omega), e1, if_pos (by omega), if_pos (by omega), rdN, if_neg h0, if_neg (by omega), if_pos (by omega), if_pos (show ((i + 1 : Nat) : Int) ≤ (l.length : Int) by omega), Int.toNat_natCast, sown _ (by simp; omega)]
        rfl
      · have ht : Top (l.take (i + 1)) := top_take_of hi (.inr (by rw [Nat.add_sub_cancel]; exact h0))
        have hne : l.take (i + 1) ≠ [] := by
          intro e
          have := congrArg List.length e
          rw [List.length_take, List.length_nil] at this
          omega
        have hp := val_pos (hd.take (i + 1)) ht hne (by decide)
        rw [hv] at hp
        have hL := L_of (hd.take (i + 1)) ht
        rw [hv] at hL
        unfold smk
        rw [if_neg (by omega), hL]

/-- A whole number of a sign and limbs. -/
theorem smake (s : Int) (l : List Int) (hd : Dig 16777216 l) (hl : l.length ≤ 1099511627776) : Ev (fun k => spec_l02Make.f k s l) (smk s (val 16777216 l).toNat) := by
  unfold spec_l02Make.f
  exact smake_loop s l hd hl l.length (Nat.le_refl _) (by rw [List.take_length])

/-- What marks put into a list. -/
def mks (k : Int) (n : Nat) : List Int := (List.range n).map fun i : Nat => k + i
theorem mks_len (k : Int) (n : Nat) : (mks k n).length = n := by unfold mks; simp
theorem mks_succ (k : Int) (n : Nat) : mks k (n + 1) = mks k n ++ [k + n] := by unfold mks; rw [List.range_succ, List.map_append]; rfl
theorem mks_getD (k : Int) (n i : Nat) (h : i < n) : (mks k n).getD i 0 = k + i := by unfold mks; simp [List.getD, h]

theorem mark_loop (n : Nat) (hn : n ≤ 1099511627776) (d : Nat) : ∀ (i : Nat) (ys : List Int), i + d = n → ys.length = n → ys.take i = mks 1 i → Ev (fun k => laws_markInt64S.l0 k ys (1 + (i : Int)) (i : Int)) (1 + (n : Int), mks 1 n) := by
  induction d with
  | zero =>
    intro i ys hi hy h
    obtain rfl : i = n := by omega
    rw [List.take_of_length_le (by omega)] at h
    subst h
    refine Ev.step (f := fun _ => some (1 + (i : Int), mks 1 i)) (fun k => ?_) (ev_of fun _ => rfl)
    simp only [laws_markInt64S.l0]
    rw [if_neg (by omega)]
  | succ d ih =>
    intro i ys hi hy h
    refine Ev.step (f := fun k => laws_markInt64S.l0 k (ys.set i (1 + (i : Int))) (1 + ((i + 1 : Nat) : Int)) ((i + 1 : Nat) : Int)) (fun k => ?_) (ih (i + 1) _ (by omega) (by simpa using hy) ?_)
    · simp only [laws_markInt64S.l0]
      rw [if_pos (by omega), if_pos (by omega), wrapZ _ (by omega) (by omega), wrapZ _ (by omega) (by omega), Int.toNat_natCast]
      congr 1
    · rw [List.take_succ_eq_append_getElem (by simp; omega), Dg.take_set, h, mks_succ]
      simp

theorem smark (s : Int) (l : List Int) (hl : l.length ≤ 1099511627776) : Ev (fun k => laws_markWhole.f k s l 1) (1 + (l.length : Int), mks 1 l.length) := by
  unfold laws_markWhole.f laws_markInt64S.f
  exact Ev.bind (f := fun k t => _) (mark_loop l.length hl l.length 0 l (by omega) rfl rfl) (ev_of fun _ => rfl)

theorem held_loop (n : Nat) (hn : n ≤ 1099511627776) (d : Nat) : ∀ (i : Nat), i + d = n → Ev (fun k => laws_heldInt64S.l0 k (mks 1 n) (1 + (i : Int)) (i : Int)) (1 + (n : Int)) := by
  have hln := mks_len 1 n
  induction d with
  | zero =>
    intro i hi
    obtain rfl : i = n := by omega
    refine Ev.step (f := fun _ => some (1 + (i : Int))) (fun k => ?_) (ev_of fun _ => rfl)
    simp only [laws_heldInt64S.l0]
    rw [if_neg (by omega)]
  | succ d ih =>
    intro i hi
    refine Ev.step (f := fun k => laws_heldInt64S.l0 k (mks 1 n) (1 + ((i + 1 : Nat) : Int)) ((i + 1 : Nat) : Int)) (fun k => ?_) (ih (i + 1) (by omega))
    simp only [laws_heldInt64S.l0]
    rw [if_pos (by omega), if_pos (by omega), rdN, mks_getD 1 n i (by omega), if_pos rfl, wrapZ _ (by omega) (by omega), wrapZ _ (by omega) (by omega)]
    congr 1
    

theorem sheld (s : Int) (n : Nat) (hn : n ≤ 1099511627776) : Ev (fun k => laws_heldWhole.f k s (mks 1 n) 1) (1 + (n : Int)) := by
  unfold laws_heldWhole.f laws_heldInt64S.f
  exact Ev.bind (f := fun k t => _) (held_loop n hn n 0 (by omega)) (ifn (by omega) (ev_of fun _ => rfl))
end Go.Proofs.Ytdjdnllnhonjkaa.Px
