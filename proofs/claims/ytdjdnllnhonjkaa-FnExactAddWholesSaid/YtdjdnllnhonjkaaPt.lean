/- What the reference's words on whole numbers come to: comparing. Plain. -/
import Derived.Test.YtdjdnllnhonjkaaPWx46
import Derived.Test.YtdjdnllnhonjkaaPWx47
import Derived.Test.YtdjdnllnhonjkaaKb
namespace Go.Proofs.Ytdjdnllnhonjkaa.Pt
open Go.RowKit Go.Proofs.YtdjdnllnhonjkaaW.PrintWords Go.Proofs.Ytdjdnllnhonjkaa.PW Go.Proofs.Ytdjdnllnhonjkaa.Pb Go.Proofs.Ytdjdnllnhonjkaa.Pc Go.Proofs.Ytdjdnllnhonjkaa.Pm Go.Proofs.Ytdjdnllnhonjkaa.Pw Dg
set_option linter.unusedVariables false
set_option linter.unusedSimpArgs false

theorem sboth (s : Int) (l : List Int) (s1 : Int) (l1 : List Int) (hm : l.length ≤ 9223372036854775807) (hm1 : l1.length ≤ 9223372036854775807) : Ev (fun k => spec_l02Both.f k s l s1 l1) (if isW s l = true ∧ isW s1 l1 = true then 0 else 1) := by
  unfold spec_l02Both.f
  have h1 := l02Is s l hm
  have h2 := l02Is s1 l1 hm1
  cases hw : isW s l with
  | false =>
    rw [hw] at h1
    exact Ev.bind (f := fun k t => _) h1 (ifn (by simp) (ev_of fun _ => rfl))
  | true =>
    rw [hw] at h1
    refine Ev.bind (f := fun k t => _) h1 (ifp rfl ?_)
    cases hw1 : isW s1 l1 with
    | false =>
      rw [hw1] at h2
      exact Ev.bind (f := fun k t => _) h2 (ifn (by simp) (ev_of fun _ => rfl))
    | true =>
      rw [hw1] at h2
      exact Ev.bind (f := fun k t => _) h2 (ifp rfl (ev_of fun _ => rfl))

theorem slimbs_loop (a b : List Int) (hl : a.length = b.length) (hm : a.length ≤ 1099511627776) (ha : Dig 16777216 a) (hb : Dig 16777216 b) :
    ∀ i : Nat, i ≤ a.length → a.drop i = b.drop i → Ev (fun k => spec_l02CompareLimbs.l0 k a b ((i : Int) - 1)) (sgn (val 16777216 a - val 16777216 b)) := by
  intro i
  induction i with
  | zero =>
    intro _ h
    rw [List.drop_zero, List.drop_zero] at h
    subst h
    refine Ev.step (f := fun _ => some 0) (fun k => ?_) (ev_of fun _ => by rw [Int.sub_self]; rfl)
    simp only [spec_l02CompareLimbs.l0]
    rw [if_neg (by omega)]
  | succ i ih =>
    intro hi h
    have e1 : ((i + 1 : Nat) : Int) - 1 = (i : Int) := by omega
    rw [e1]
    by_cases hx : a.getD i 0 = b.getD i 0
    · have h2 : a.drop i = b.drop i := by
        rw [List.drop_eq_getElem_cons (show i < a.length by omega), List.drop_eq_getElem_cons (show i < b.length by omega), h, ← getD_lt (show i < a.length by omega), ← getD_lt (show i < b.length by omega), hx]
      refine Ev.step (f := fun k => spec_l02CompareLimbs.l0 k a b ((i : Int) - 1)) (fun k => ?_) (ih (by omega) h2)
      simp only [spec_l02CompareLimbs.l0]
      rw [if_pos (by omega), if_pos (by omega), if_pos (by omega), if_pos (by omega), rdN, rdN, if_pos hx, wrapZ _ (by omega) (by omega)]
    · refine Ev.step (f := fun _ => some (sgn (a.getD i 0 - b.getD i 0))) (fun k => ?_) (ev_of fun _ => ?_)
      · simp only [spec_l02CompareLimbs.l0]
        rw [if_pos (by omega), if_pos (by omega), if_pos (by omega), if_pos (by omega), rdN, rdN, if_neg hx]
        unfold sgn
        rcases Int.lt_or_gt_of_ne hx with h3 | h3
        · rw [if_pos h3, if_pos (by omega)]
        · rw [if_neg (by omega), if_neg (by omega), if_neg (by omega)]
      · congr 1
        rcases Int.lt_or_gt_of_ne hx with h3 | h3
        · have := val_lt_of_digit (by decide) ha hb i h (by omega) h3
          unfold sgn; rw [if_pos (by omega), if_pos (by omega)]
        · have := val_lt_of_digit (by decide) hb ha i h.symm (by omega) h3
          unfold sgn; rw [if_neg (by omega), if_neg (by omega), if_neg (by omega), if_neg (by omega)]

theorem slimbs {a b : List Int} (ha : Dig 16777216 a) (hb : Dig 16777216 b) (ta : Top a) (tb : Top b) (h1 : a.length ≤ 1099511627776) (h2 : b.length ≤ 1099511627776) : Ev (fun k => spec_l02CompareLimbs.f k a b) (sgn (val 16777216 a - val 16777216 b)) := by
  unfold spec_l02CompareLimbs.f
  by_cases h : a.length = b.length
  · refine ifp (by omega) ?_
    have := slimbs_loop a b h h1 ha hb a.length (Nat.le_refl _) (by rw [List.drop_length, h, List.drop_length])
    rw [wrapZ _ (by omega) (by omega)]
    exact this
  · refine ifn (by omega) ?_
    rcases Nat.lt_or_gt_of_ne h with h3 | h3
    · have := val_lt_of_length (by decide) ha hb tb h3
      refine ifp (by omega) (ev_of fun _ => ?_)
      unfold sgn; rw [if_pos (by omega)]
    · have := val_lt_of_length (by decide) hb ha ta h3
      refine ifn (by omega) (ev_of fun _ => ?_)
      unfold sgn; rw [if_neg (by omega), if_neg (by omega)]

theorem sgn_range (z : Int) : -1 ≤ sgn z ∧ sgn z ≤ 1 := by
  unfold sgn
  split
  · omega
  · split <;> omega
theorem sgn_neg (z : Int) : sgn (-z) = -sgn z := by
  unfold sgn
  rcases Int.lt_trichotomy z 0 with h | h | h
  · rw [if_neg (by omega), if_neg (by omega), if_pos h]; rfl
  · subst h; rfl
  · rw [if_pos (by omega), if_neg (by omega), if_neg (by omega)]

end Go.Proofs.Ytdjdnllnhonjkaa.Pt
