/- Lemmas of the claim: LIsDyadic. -/
import Derived.Test.YtdboepiobaehkaaQisdf
import Derived.Test.YtdboepiobaehkaaQisdg
import Derived.Test.YtdboepiobaehkaaQisdh
section
namespace Go.Proofs.Ytdboepiobaehkaa.LIsDyadic
open Go.RowKit Go.Proofs.YtdboepiobaehkaaW.PrintWords Go.Proofs.Ytdboepiobaehkaa.PW Go.Proofs.Ytdboepiobaehkaa.Pb Go.Proofs.Ytdboepiobaehkaa.Pc Go.Proofs.Ytdboepiobaehkaa.Pw Go.Proofs.Ytdboepiobaehkaa.Qa Dg
set_option linter.unusedVariables false
theorem pure (s : Int) (l : List Int) (e : Int) (hm : l.length ≤ 9223372036854775807) : ∃ k, laws_FnExactIsDyadic.f k s l e = some true := by
  apply Ev.rounds
  unfold laws_FnExactIsDyadic.f
  by_cases h : (l.length : Int) ≤ 1048576
  · rw [szD_le s l e _ h (by omega)]
    simp only [Option.bind_some]
    refine ifn (by omega) ?_
    have ht := toDyadic s l e (by omega)
    have hs : Ev (fun k => spec_IsDyadic.f k s l e) (isD s l e) := by
      unfold spec_IsDyadic.f
      exact Ev.bind (f := fun k t => _) (sdIs s l e hm) (ev_of fun _ => rfl)
    refine Ev.bind (f := fun k t => _) ht (Ev.bind (f := fun k t => _) hs (Ev.bind (f := fun k t => _) ht (Ev.bind (f := fun k t => _) (idIs s l e hm) ?_)))
    refine ifn (by simp) ?_
    exact Ev.bind (f := fun k t => _) ht (Ev.bind (f := fun k t => _) (eqDyadic_self s l e hm) (ifp rfl (ev_of fun _ => rfl)))
  · rw [szD_gt s l e _ hm (by omega) (by omega) (by omega)]
    exact ev_of fun _ => rfl
theorem walk (W : World) (s : Int) (u : Value) (l : List Int) (e : Int) (_ : (Lit.int .i64 s).wf = true) (_ : (Lit.int .i64 e).wf = true) (r : Rk.Row .i64 W u l) :
    Calls Try.prog 3 #[.agg #[.int .i64 s, u, .int .i64 e]] W fun e w' => e = .returned (.bool true) ∧ Below W.heap.size W w' := by
  obtain ⟨A, c, rfl, hC, hc, hm, hw⟩ := r
  unfold maxLen at hm
  obtain ⟨k, hk⟩ := pure s l e hm
  exact laws_FnExactIsDyadic.calls k s A c l e true W hC hc hk
end Go.Proofs.Ytdboepiobaehkaa.LIsDyadic
end
