/- Lemmas of the claim: LMakeDyadic. -/
import Derived.Test.YtdboepiobaehkaaQmkdf
import Derived.Test.YtdboepiobaehkaaQmkdn
import Derived.Test.YtdboepiobaehkaaQmkdm
import Derived.Test.YtdboepiobaehkaaQmkdh
import Derived.Test.YtdboepiobaehkaaQmkdi
section
namespace Go.Proofs.Ytdboepiobaehkaa.LMakeDyadic
open Go.RowKit Go.Proofs.YtdboepiobaehkaaW.PrintWords Go.Proofs.Ytdboepiobaehkaa.PW Go.Proofs.Ytdboepiobaehkaa.Pb Go.Proofs.Ytdboepiobaehkaa.Pc Go.Proofs.Ytdboepiobaehkaa.Pm Go.Proofs.Ytdboepiobaehkaa.Pw Go.Proofs.Ytdboepiobaehkaa.Px Go.Proofs.Ytdboepiobaehkaa.Pz Go.Proofs.Ytdboepiobaehkaa.St Go.Proofs.Ytdboepiobaehkaa.Mk Go.Proofs.Ytdboepiobaehkaa.Qa Go.Proofs.Ytdboepiobaehkaa.Qb Dg
set_option linter.unusedVariables false
theorem sides (s : Int) (l : List Int) (a1 : Int) (hm : l.length ≤ 1048576) : ∃ g gl y cd, impl_MakeDyadic.f s l a1 = some (g, gl, y, cd) ∧ Ev (fun k => spec_MakeDyadic.f k s l a1) (g, gl, y, cd) ∧ gl.length ≤ 1048576 := by
  unfold impl_MakeDyadic.f spec_MakeDyadic.f
  have h1 := l02Is s l (by omega)
  cases hw : isW s l with
  | false =>
    rw [hw] at h1
    exact ⟨_, _, _, _, rfl, Ev.bind (f := fun k t => _) h1 (ifn (by simp) (ev_of fun _ => rfl)), by simp⟩
  | true =>
    rw [hw] at h1
    obtain ⟨e1, e2, e3⟩ := isW_eq hw
    rw [if_pos rfl]
    by_cases hk : a1 < -6000 ∨ 6000 < a1
    · rw [if_pos hk]
      refine ⟨_, _, _, _, rfl, Ev.bind (f := fun k t => _) h1 (ifp rfl ?_), by simp⟩
      simp only [in_false hk, Option.bind_some]
      exact ifn (by simp) (ev_of fun _ => rfl)
    · rw [if_neg hk]
      have hs := smakeD (wv s l) a1 (by omega) (by omega) (by omega)
      have hf := sfitD (wv s l) a1 (by omega)
      rw [← e1, ← e2] at hs
      refine ⟨(fitD (wv s l) a1).1, (fitD (wv s l) a1).2.1, (fitD (wv s l) a1).2.2.1, (fitD (wv s l) a1).2.2.2, rfl, Ev.bind (f := fun k t => _) h1 (ifp rfl ?_), fitD_len _ _⟩
      simp only [in_true (show -6000 ≤ a1 by omega) (show a1 ≤ 6000 by omega), Option.bind_some]
      exact ifp trivial (Ev.bind (f := fun k t => _) hs (Ev.bind (f := fun k t => _) hf (ev_of fun _ => rfl)))
theorem pure (s : Int) (l : List Int) (a1 : Int) (hm : l.length ≤ 9223372036854775807) : ∃ k, laws_FnExactMakeDyadic.f k s l a1 = some true := by
  apply Ev.rounds
  unfold laws_FnExactMakeDyadic.f
  by_cases h : (l.length : Int) ≤ 1048576
  · rw [sz_le s l _ h (by omega)]
    simp only [Option.bind_some]
    refine ifn (by omega) ?_
    obtain ⟨g, gl, y, cd, hi, hs, hgl⟩ := sides s l a1 (by omega)
    have he := eqDyadic_self g gl y (by omega)
    refine Ev.bind (f := fun k t => _) (toWhole s l (by omega)) (Ev.bind (f := fun k t => _) hs (Ev.bind (f := fun k t => _) (toWhole s l (by omega)) ?_))
    simp only [hi, Option.bind_some, bne_self_eq_false]
    refine Ev.bind (f := fun k t => _) he (ifp rfl ?_)
    refine Ev.step (f := fun k => _) (fun k => by simp only [laws_FnExactMakeDyadic.j0]; rw [if_neg (by simp)]) ?_
    refine Ev.bind (f := fun k t => _) (toWhole s l (by omega)) (Ev.bind (f := fun k t => _) (eqWhole_self s l hm) (ifp rfl ?_))
    refine Ev.bind (f := fun k t => _) (smark s l (by omega)) (ifn (by omega) ?_)
    simp only [bne_self_eq_false]
    refine Ev.bind (f := fun k t => _) he (ifp rfl ?_)
    refine Ev.step (f := fun k => _) (fun k => by simp only [laws_FnExactMakeDyadic.j1]; rw [if_neg (by simp)]) ?_
    refine Ev.bind (f := fun k t => _) (smarkD g gl y (by omega)) ?_
    refine Ev.bind (f := fun k t => _) (sheldD _ _ _ (by omega)) (ifn (by omega) (ifp rfl ?_))
    refine Ev.bind (f := fun k t => _) (toWhole s l (by omega)) ?_
    simp only [hi, Option.bind_some, bne_self_eq_false]
    refine Ev.bind (f := fun k t => _) he (ifp rfl ?_)
    refine Ev.step (f := fun k => _) (fun k => by simp only [laws_FnExactMakeDyadic.j2]; rw [if_neg (by simp)]) ?_
    exact Ev.bind (f := fun k t => _) (sheldD _ _ _ (by omega)) (ifn (by omega) (ifp rfl (ev_of fun _ => rfl)))
  · rw [sz_gt s l _ hm (by omega) (by omega) (by omega)]
    exact ev_of fun _ => rfl
theorem walk (W : World) (s : Int) (u : Value) (l : List Int) (_ : (Lit.int .i64 s).wf = true) (r : Rk.Row .i64 W u l) (a1 : Int) (_ : (Lit.int .i64 a1).wf = true) :
    Calls Try.prog 5 #[.agg #[.int .i64 s, u], .int .i64 a1] W fun e w' => e = .returned (.bool true) ∧ Below W.heap.size W w' := by
  obtain ⟨A, c, rfl, hC, hc, hm, hw⟩ := r
  unfold maxLen at hm
  obtain ⟨k, hk⟩ := pure s l a1 hm
  exact laws_FnExactMakeDyadic.calls k s A c l a1 true W hC hc hk
end Go.Proofs.Ytdboepiobaehkaa.LMakeDyadic
end
