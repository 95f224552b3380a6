/- The law FnExactLengthOfWhole, walked: it answers true. -/
import Derived.Test.YtdjdnllnhonjkaaPWx6
import Derived.Test.YtdjdnllnhonjkaaPLExactLengthOfWholex23
import Derived.Test.YtdjdnllnhonjkaaXkLengthOfWhole
import Derived.Test.YtdjdnllnhonjkaaPs
import Derived.Test.YtdjdnllnhonjkaaKa
namespace Go.Proofs.Ytdjdnllnhonjkaa.LLengthOfWhole
open Go.RowKit Go.Proofs.YtdjdnllnhonjkaaW.PrintWords Go.Proofs.Ytdjdnllnhonjkaa.PW Go.Proofs.Ytdjdnllnhonjkaa.Pb Go.Proofs.Ytdjdnllnhonjkaa.Pc Go.Proofs.Ytdjdnllnhonjkaa.Pw Go.Proofs.Ytdjdnllnhonjkaa.Ps Dg
set_option linter.unusedVariables false

theorem pure (s : Int) (l : List Int) (hm : l.length ≤ 9223372036854775807) : ∃ k, laws_FnExactLengthOfWhole.f k s l = some true := by
  apply Ev.rounds
  unfold laws_FnExactLengthOfWhole.f
  by_cases h : (l.length : Int) ≤ 1048576
  · rw [sz_le s l _ h (by omega)]
    simp only [Option.bind_some]
    refine ifn (by omega) ?_
    refine Ev.bind (f := fun k t => _) (toWhole s l (by omega)) ?_
    obtain ⟨a, b, hab⟩ : ∃ a b, impl_LengthOfWhole.f s l = some (a, b) ∧ Ev (fun k => spec_LengthOfWhole.f k s l) (a, b) := by
      unfold impl_LengthOfWhole.f spec_LengthOfWhole.f
      cases hw : isW s l with
      | false =>
        refine ⟨0, 1, rfl, ?_⟩
        have h1 := l02Is s l hm
        rw [hw] at h1
        exact Ev.bind (f := fun k t => _) h1 (ifn (by simp) (ev_of fun _ => rfl))
      | true =>
        refine ⟨_, 0, rfl, ?_⟩
        have h1 := l02Is s l hm
        rw [hw] at h1
        exact Ev.bind (f := fun k t => _) h1 (ifp rfl (Ev.bind (f := fun _ t => some (t, 0)) (slength_of hw) (ev_of fun _ => rfl)))
    refine Ev.bind (f := fun k t => _) hab.2 ?_
    refine Ev.bind (f := fun k t => _) (toWhole s l (by omega)) ?_
    rw [hab.1]
    simp only [Option.bind_some, bne_self_eq_false]
    refine ifp trivial ?_
    refine Ev.step (f := fun k => _) (fun k => by simp only [laws_FnExactLengthOfWhole.j0]; rw [if_neg (by simp)]) ?_
    refine Ev.bind (f := fun k t => _) (toWhole s l (by omega)) ?_
    exact Ev.bind (f := fun k t => _) (eqWhole_self s l hm) (ev_of fun _ => rfl)
  · rw [sz_gt s l _ hm (by omega) (by omega) (by omega)]
    exact ev_of fun _ => rfl

theorem walk (W : World) (s : Int) (u : Value) (l : List Int) (_ : (Lit.int .i64 s).wf = true) (r : Rk.Row .i64 W u l) :
    Calls Try.prog 3 #[.agg #[.int .i64 s, u]] W fun e w' => e = .returned (.bool true) ∧ Below W.heap.size W w' := by
  obtain ⟨A, c, rfl, hC, hc, hm, hw⟩ := r
  unfold maxLen at hm
  obtain ⟨k, hk⟩ := pure s l hm
  exact laws_FnExactLengthOfWhole.calls k s A c l true W hC hc hk
end Go.Proofs.Ytdjdnllnhonjkaa.LLengthOfWhole
