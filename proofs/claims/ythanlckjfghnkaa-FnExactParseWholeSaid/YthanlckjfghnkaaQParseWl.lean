/- Lemmas of the claim: LParseWhole. -/
import Derived.Test.YthanlckjfghnkaaQParseWk
import Derived.Test.YthanlckjfghnkaaQParseWf
import Derived.Test.YthanlckjfghnkaaQParseWg
section
namespace Go.Proofs.Ythanlckjfghnkaa.LParseWhole
open Go.RowKit Go.Proofs.YthanlckjfghnkaaW.PrintWords Go.Proofs.Ythanlckjfghnkaa.PW Go.Proofs.Ythanlckjfghnkaa.Pb Go.Proofs.Ythanlckjfghnkaa.Pc Go.Proofs.Ythanlckjfghnkaa.Pw Go.Proofs.Ythanlckjfghnkaa.Px Go.Proofs.Ythanlckjfghnkaa.Tu Dg
set_option linter.unusedVariables false
theorem fit_len (z : Int) : (fit z).2.1.length ≤ 2400 := by
  unfold fit
  split
  · next h => have := L_len z.natAbs; show (L z.natAbs).length ≤ 2400; omega
  · exact Nat.zero_le _
theorem prs_len (a : ByteArray) : (prs a).2.1.length ≤ 2400 := by
  unfold prs
  split
  · exact fit_len _
  · exact Nat.zero_le _
theorem impl_prs (a : ByteArray) (hs : a.size ≤ 9223372036854775807) : impl_ParseWhole.f a = some (prs a) := by
  unfold impl_ParseWhole.f prs
  rw [if_pos hs]
  by_cases h : ok a = true
  · rw [if_pos h, if_pos h]
    by_cases h8 : a.size ≤ 800
    · have hb : (bd a).size ≤ a.size := by
        have := ex_size a
        unfold bd
        split <;> omega
      rw [if_pos h8, Nat.min_eq_right (by omega)]
    · rw [if_neg h8, long a h (by omega)]
  · rw [if_neg h, if_neg h]
theorem pure (a : ByteArray) (hs : a.size ≤ 9223372036854775807) : ∃ k, laws_FnExactParseWhole.f k a = some true := by
  apply Ev.rounds
  unfold laws_FnExactParseWhole.f
  by_cases hb : (a.size : Int) > 1048576
  · exact ifp hb (ev_of fun _ => rfl)
  refine ifn hb ?_
  have hp := sparse a hs
  have hl := prs_len a
  have hi := impl_prs a hs
  generalize prs a = o at *
  obtain ⟨s, l, c⟩ := o
  have he := eqWhole_self s l (by simp only at hl; omega)
  simp only at hl
  refine Ev.bind (f := fun k t => _) hp ?_
  simp only [hi, Option.bind_some, bne_self_eq_false]
  refine Ev.bind (f := fun k t => _) he (ifp rfl ?_)
  refine Ev.step (f := fun k => _) (fun k => by simp only [laws_FnExactParseWhole.j0]; rw [if_neg (by simp)]) ?_
  refine Ev.bind (f := fun k t => _) (smark _ _ (by omega)) ?_
  refine Ev.bind (f := fun k t => _) (sheld _ _ (by omega)) (ifn (by omega) (ifp rfl ?_))
  simp only [hi, Option.bind_some, bne_self_eq_false]
  refine Ev.bind (f := fun k t => _) he (ifp rfl ?_)
  refine Ev.step (f := fun k => _) (fun k => by simp only [laws_FnExactParseWhole.j1]; rw [if_neg (by simp)]) ?_
  exact Ev.bind (f := fun k t => _) (sheld _ _ (by omega)) (ifn (by omega) (ifp rfl (ev_of fun _ => rfl)))
theorem walk (W : World) (a : ByteArray) (hs : a.size ≤ 140737488351232) :
    Calls Try.prog 4 #[.string a] W fun e w' => e = .returned (.bool true) ∧ Below W.heap.size W w' := by
  obtain ⟨k, hk⟩ := pure a (by omega)
  exact laws_FnExactParseWhole.calls k a true W hk
end Go.Proofs.Ythanlckjfghnkaa.LParseWhole
end
