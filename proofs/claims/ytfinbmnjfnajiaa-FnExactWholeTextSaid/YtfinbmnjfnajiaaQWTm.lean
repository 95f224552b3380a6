/- Lemmas of the claim: LWholeText. -/
import Derived.Test.YtfinbmnjfnajiaaQWTl
import Derived.Test.YtfinbmnjfnajiaaQWTh
section
namespace Go.Proofs.Ytfinbmnjfnajiaa.LWholeText
open Go.RowKit Go.Proofs.YtfinbmnjfnajiaaW.PrintWords Go.Proofs.Ytfinbmnjfnajiaa.PW Go.Proofs.Ytfinbmnjfnajiaa.Pb Go.Proofs.Ytfinbmnjfnajiaa.Pc Go.Proofs.Ytfinbmnjfnajiaa.Pw Go.Proofs.Ytfinbmnjfnajiaa.Ts Go.Proofs.Ytfinbmnjfnajiaa.Tt Dg
set_option linter.unusedVariables false
theorem pure (s : Int) (l : List Int) (hm : l.length ≤ 9223372036854775807) : ∃ k, laws_FnExactWholeText.f k s l = some true := by
  apply Ev.rounds
  unfold laws_FnExactWholeText.f
  by_cases h : (l.length : Int) ≤ 1048576
  · rw [sz_le s l _ h (by omega)]
    simp only [Option.bind_some]
    refine ifn (by omega) ?_
    have t0 := toWhole s l (by omega)
    refine Ev.bind (f := fun k t => _) t0 ?_
    have hs := swt s l hm
    have hi : impl_WholeText.f s l = some (if isW s l = true then (strOfNums (txt (wv s l)), 0) else ((⟨#[]⟩ : ByteArray), 1)) := by
      unfold impl_WholeText.f
      split <;> rfl
    generalize (if isW s l = true then (strOfNums (txt (wv s l)), (0 : Int)) else ((⟨#[]⟩ : ByteArray), 1)) = o at *
    refine Ev.bind (f := fun k t => _) hs ?_
    refine Ev.bind (f := fun k t => _) t0 ?_
    rw [hi]
    simp only [Option.bind_some, bne_self_eq_false]
    refine ifp trivial ?_
    refine Ev.step (f := fun k => _) (fun k => by simp only [laws_FnExactWholeText.j0]; rw [if_neg (by simp)]) ?_
    refine Ev.bind (f := fun k t => _) t0 ?_
    exact Ev.bind (f := fun k t => _) (eqWhole_self s l hm) (ev_of fun _ => rfl)
  · rw [sz_gt s l _ hm (by omega) (by omega) (by omega)]
    exact ev_of fun _ => rfl
theorem walk (W : World) (s : Int) (u : Value) (l : List Int) (_ : (Lit.int .i64 s).wf = true) (r : Rk.Row .i64 W u l) :
    Calls Try.prog 5 #[.agg #[.int .i64 s, u]] W fun e w' => e = .returned (.bool true) ∧ Below W.heap.size W w' := by
  obtain ⟨A, c, rfl, hC, hc, hm, hw⟩ := r
  unfold maxLen at hm
  obtain ⟨k, hk⟩ := pure s l hm
  exact laws_FnExactWholeText.calls k s A c l true W hC hc hk
end Go.Proofs.Ytfinbmnjfnajiaa.LWholeText
end
