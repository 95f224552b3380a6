/- The law FnExactWholeOf, walked: it answers true. -/
import Derived.Test.YtdjdnllnhonjkaaPWx28
import Derived.Test.YtdjdnllnhonjkaaPLExactWholeOfx28
import Derived.Test.YtdjdnllnhonjkaaXkWholeOf
import Derived.Test.YtdjdnllnhonjkaaPx
import Derived.Test.YtdjdnllnhonjkaaKa
import Derived.OpenShut
namespace Go.Proofs.Ytdjdnllnhonjkaa.LWholeOf
open Go.RowKit Go.Proofs.YtdjdnllnhonjkaaW.PrintWords Go.Proofs.Ytdjdnllnhonjkaa.PW Go.Proofs.Ytdjdnllnhonjkaa.Pb Go.Proofs.Ytdjdnllnhonjkaa.Pc Go.Proofs.Ytdjdnllnhonjkaa.Pw Go.Proofs.Ytdjdnllnhonjkaa.Px Dg
set_option linter.unusedVariables false

theorem pure (n : Int) (h1 : -9223372036854775808 ≤ n) (h2 : n ≤ 9223372036854775807) : ∃ k, laws_FnExactWholeOf.f k n = some true := by
  apply Ev.rounds
  unfold laws_FnExactWholeOf.f
  have hbl : bl n.natAbs ≤ 64 := bl_le (k := 64) (by omega)
  have hl := L_len n.natAbs
  have hs : Ev (fun k => spec_WholeOf.f k n) (Pm.sgn n, L n.natAbs, 0) := by
    unfold spec_WholeOf.f
    exact Ev.bind (f := fun k t => _) (sof n h1 h2) (ev_of fun _ => rfl)
  have hi : impl_WholeOf.f n = some (Pm.sgn n, L n.natAbs, 0) := by
    unfold impl_WholeOf.f fit
    rw [if_pos ⟨h1, h2⟩, if_pos (by omega)]
  have he := eqWhole_self (Pm.sgn n) (L n.natAbs) (by omega)
  refine Ev.bind (f := fun k t => _) hs ?_
  simp only [hi, Option.bind_some, bne_self_eq_false]
  refine Ev.bind (f := fun k t => _) he (ifp rfl ?_)
  refine Ev.step (f := fun k => _) (fun k => by simp only [laws_FnExactWholeOf.j0]; rw [if_neg (by simp)]) ?_
  refine Ev.bind (f := fun k t => _) (smark _ _ (by omega)) ?_
  refine Ev.bind (f := fun k t => _) (sheld _ _ (by omega)) (ifn (by omega) (ifp rfl ?_))
  simp only [hi, Option.bind_some, bne_self_eq_false]
  refine Ev.bind (f := fun k t => _) he (ifp rfl ?_)
  refine Ev.step (f := fun k => _) (fun k => by simp only [laws_FnExactWholeOf.j1]; rw [if_neg (by simp)]) ?_
  exact Ev.bind (f := fun k t => _) (sheld _ _ (by omega)) (ifn (by omega) (ifp rfl (ev_of fun _ => rfl)))

theorem walk (W : World) (n : Int) (hw : (Lit.int .i64 n).wf = true) :
    Calls Try.prog 4 #[.int .i64 n] W fun e w' => e = .returned (.bool true) ∧ Below W.heap.size W w' := by
  have hb := bounds_i64 hw
  obtain ⟨k, hk⟩ := pure n hb.1 hb.2
  exact laws_FnExactWholeOf.calls k n true W hk
end Go.Proofs.Ytdjdnllnhonjkaa.LWholeOf
