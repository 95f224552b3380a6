/- The law FnExactIsWhole, walked: it answers true. -/
import Derived.Test.YtoincbboapclpaaPWx100
import Derived.Test.YtoincbboapclpaaPb
import Derived.Test.YtoincbboapclpaaRk
namespace Go.Proofs.Ytoincbboapclpaa.LIsWhole
open Go.RowKit Go.Proofs.YtoincbboapclpaaW.PrintWords Go.Proofs.Ytoincbboapclpaa.PW Go.Proofs.Ytoincbboapclpaa.Pb
set_option linter.unusedVariables false

theorem pure (s : Int) (l : List Int) (hm : l.length ≤ 9223372036854775807) : ∃ k, laws_FnExactIsWhole.f k s l = some true := by
  apply Ev.rounds
  unfold laws_FnExactIsWhole.f
  by_cases h : (l.length : Int) ≤ 1048576
  · rw [sz_le s l _ h (by omega)]
    simp only [Option.bind_some]
    refine ifn (by omega) ?_
    refine Ev.bind (f := fun k t => _) (toWhole s l (by omega)) ?_
    have h2 : Ev (fun k => spec_IsWhole.f k s l) (isW s l) := by
      unfold spec_IsWhole.f
      exact Ev.bind (f := fun _ t => some t) (l02Is s l hm) (ev_of fun _ => rfl)
    refine Ev.bind (f := fun k t => _) h2 ?_
    refine Ev.bind (f := fun k t => _) (toWhole s l (by omega)) ?_
    refine Ev.bind (f := fun k t => _) (iIs s l hm) ?_
    refine ifn (by simp) ?_
    refine Ev.bind (f := fun k t => _) (toWhole s l (by omega)) ?_
    exact Ev.bind (f := fun k t => _) (eqWhole_self s l hm) (ev_of fun _ => rfl)
  · rw [sz_gt s l _ hm (by omega) (by omega) (by omega)]
    exact ev_of fun _ => rfl

theorem walk (W : World) (s : Int) (u : Value) (l : List Int) (_ : (Lit.int .i64 s).wf = true) (r : Rk.Row .i64 W u l) :
    Calls Try.prog 8 #[.agg #[.int .i64 s, u]] W fun e w' => e = .returned (.bool true) ∧ Below W.heap.size W w' := by
  obtain ⟨A, c, rfl, hC, hc, hm, hw⟩ := r
  unfold maxLen at hm
  obtain ⟨k, hk⟩ := pure s l hm
  exact laws_FnExactIsWhole.calls k s A c l true W hC hc hk
end Go.Proofs.Ytoincbboapclpaa.LIsWhole
