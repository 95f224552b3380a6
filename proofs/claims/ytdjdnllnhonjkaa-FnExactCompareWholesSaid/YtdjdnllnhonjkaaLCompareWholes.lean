/- The law FnExactCompareWholes, walked: it answers true. -/
import Derived.Test.YtdjdnllnhonjkaaPWx49
import Derived.Test.YtdjdnllnhonjkaaPLExactCompareWholesx29
import Derived.Test.YtdjdnllnhonjkaaXkCompareWholes
import Derived.Test.YtdjdnllnhonjkaaPt
import Derived.Test.YtdjdnllnhonjkaaKa
namespace Go.Proofs.Ytdjdnllnhonjkaa.LCompareWholes
open Go.RowKit Go.Proofs.YtdjdnllnhonjkaaW.PrintWords Go.Proofs.Ytdjdnllnhonjkaa.PW Go.Proofs.Ytdjdnllnhonjkaa.Pb Go.Proofs.Ytdjdnllnhonjkaa.Pc Go.Proofs.Ytdjdnllnhonjkaa.Pw Go.Proofs.Ytdjdnllnhonjkaa.Pt Dg
set_option linter.unusedVariables false

theorem pure (s : Int) (l : List Int) (s1 : Int) (l1 : List Int) (hm : l.length ≤ 9223372036854775807) (hm1 : l1.length ≤ 9223372036854775807) : ∃ k, laws_FnExactCompareWholes.f k s l s1 l1 = some true := by
  apply Ev.rounds
  unfold laws_FnExactCompareWholes.f
  by_cases h : (l.length : Int) ≤ 1048576
  · rw [sz_le s l _ h (by omega)]
    simp only [Option.bind_some]
    refine ifn (by omega) ?_
    by_cases h1 : (l1.length : Int) ≤ 1048576 - l.length
    · rw [sz_le s1 l1 _ h1 (by omega)]
      simp only [Option.bind_some]
      refine ifn (by omega) ?_
      have t0 := toWhole s l (by omega)
      have t1 := toWhole s1 l1 (by omega)
      refine Ev.bind (f := fun k t => _) t0 ?_
      refine Ev.bind (f := fun k t => _) t1 ?_
      obtain ⟨a, b, hab⟩ : ∃ a b, impl_CompareWholes.f s l s1 l1 = some (a, b) ∧ Ev (fun k => spec_CompareWholes.f k s l s1 l1) (a, b) := by
        unfold impl_CompareWholes.f spec_CompareWholes.f
        have hb := sboth s l s1 l1 hm hm1
        by_cases hw : isW s l = true ∧ isW s1 l1 = true
        · rw [if_pos hw] at hb ⊢
          exact ⟨_, _, rfl, Ev.bind (f := fun k t => _) hb (ifp rfl (Ev.bind (f := fun k t => _) (scompare hw.1 hw.2) (ev_of fun _ => rfl)))⟩
        · rw [if_neg hw] at hb ⊢
          exact ⟨_, _, rfl, Ev.bind (f := fun k t => _) hb (ifn (by decide) (ev_of fun _ => rfl))⟩
      refine Ev.bind (f := fun k t => _) hab.2 ?_
      refine Ev.bind (f := fun k t => _) t0 ?_
      refine Ev.bind (f := fun k t => _) t1 ?_
      rw [hab.1]
      simp only [Option.bind_some, bne_self_eq_false]
      refine ifp trivial ?_
      refine Ev.step (f := fun k => _) (fun k => by simp only [laws_FnExactCompareWholes.j0]; rw [if_neg (by simp)]) ?_
      refine Ev.bind (f := fun k t => _) t0 ?_
      refine Ev.bind (f := fun k t => _) (eqWhole_self s l hm) (ifp rfl ?_)
      refine Ev.bind (f := fun k t => _) t1 ?_
      exact Ev.bind (f := fun k t => _) (eqWhole_self s1 l1 hm1) (ev_of fun _ => rfl)
    · rw [sz_gt s1 l1 _ hm1 (by omega) (by omega) (by omega)]
      exact ev_of fun _ => rfl
  · rw [sz_gt s l _ hm (by omega) (by omega) (by omega)]
    exact ev_of fun _ => rfl

theorem walk (W : World) (s : Int) (u : Value) (l : List Int) (_ : (Lit.int .i64 s).wf = true) (r : Rk.Row .i64 W u l) (s1 : Int) (u1 : Value) (l1 : List Int) (_ : (Lit.int .i64 s1).wf = true) (r1 : Rk.Row .i64 W u1 l1) :
    Calls Try.prog 5 #[.agg #[.int .i64 s, u], .agg #[.int .i64 s1, u1]] W fun e w' => e = .returned (.bool true) ∧ Below W.heap.size W w' := by
  obtain ⟨A, c, rfl, hC, hc, hm, hw⟩ := r
  obtain ⟨A1, c1, rfl, hC1, hc1, hm1, hw1⟩ := r1
  unfold maxLen at hm hm1
  obtain ⟨k, hk⟩ := pure s l s1 l1 hm hm1
  exact laws_FnExactCompareWholes.calls k s A c l s1 A1 c1 l1 true W hC hc hC1 hc1 hk
end Go.Proofs.Ytdjdnllnhonjkaa.LCompareWholes
