/- Lemmas of the claim: LScaleDyadic. -/
import Derived.Test.YtdboepiobaehkaaQscdf
import Derived.Test.YtdboepiobaehkaaQscdn
import Derived.Test.YtdboepiobaehkaaQscdm
import Derived.Test.YtdboepiobaehkaaQscdh
import Derived.Test.YtdboepiobaehkaaQscdi
section
namespace Go.Proofs.Ytdboepiobaehkaa.LScaleDyadic
open Go.RowKit Go.Proofs.YtdboepiobaehkaaW.PrintWords Go.Proofs.Ytdboepiobaehkaa.PW Go.Proofs.Ytdboepiobaehkaa.Pb Go.Proofs.Ytdboepiobaehkaa.Pc Go.Proofs.Ytdboepiobaehkaa.Pm Go.Proofs.Ytdboepiobaehkaa.Pw Go.Proofs.Ytdboepiobaehkaa.Px Go.Proofs.Ytdboepiobaehkaa.Pz Go.Proofs.Ytdboepiobaehkaa.Pzs Go.Proofs.Ytdboepiobaehkaa.St Go.Proofs.Ytdboepiobaehkaa.Mk Go.Proofs.Ytdboepiobaehkaa.Qa Go.Proofs.Ytdboepiobaehkaa.Qb Dg
set_option linter.unusedVariables false
theorem sides (s : Int) (l : List Int) (x a1 : Int) (hm : l.length ≤ 1048576) : ∃ g gl y cd, impl_ScaleDyadic.f s l x a1 = some (g, gl, y, cd) ∧ Ev (fun k => spec_ScaleDyadic.f k s l x a1) (g, gl, y, cd) ∧ gl.length ≤ 1048576 := by
  unfold impl_ScaleDyadic.f spec_ScaleDyadic.f
  have h1 := srange s l x a1 (-6000) 6000 (by omega)
  cases hw : isD s l x with
  | false =>
    rw [hw, if_neg (by simp)] at h1
    exact ⟨_, _, _, _, rfl, Ev.bind (f := fun k t => _) h1 (ifn (by decide) (ev_of fun _ => rfl)), by simp⟩
  | true =>
    rw [hw] at h1
    obtain ⟨e1, e2, e3⟩ := isW_eq (isD_W hw)
    have hx := isD_e hw
    rw [if_pos rfl] at h1 ⊢
    by_cases hk : a1 < -6000 ∨ 6000 < a1
    · rw [if_pos hk] at h1 ⊢
      exact ⟨_, _, _, _, rfl, Ev.bind (f := fun k t => _) h1 (ifn (by decide) (ev_of fun _ => rfl)), by simp⟩
    · rw [if_neg hk] at h1 ⊢
      have hs := smakeD (wv s l) (x + a1) (by omega) (by omega) (by omega)
      have hf := sfitD (wv s l) (x + a1) (by omega)
      rw [← e1, ← e2] at hs
      refine ⟨(fitD (wv s l) (x + a1)).1, (fitD (wv s l) (x + a1)).2.1, (fitD (wv s l) (x + a1)).2.2.1, (fitD (wv s l) (x + a1)).2.2.2, rfl, Ev.bind (f := fun k t => _) h1 (ifp rfl ?_), fitD_len _ _⟩
      rw [wrapZ (x + a1) (by omega) (by omega)]
      exact Ev.bind (f := fun k t => _) hs (Ev.bind (f := fun k t => _) hf (ev_of fun _ => rfl))
theorem pure (s : Int) (l : List Int) (x a1 : Int) (hm : l.length ≤ 9223372036854775807) : ∃ k, laws_FnExactScaleDyadic.f k s l x a1 = some true := by
  apply Ev.rounds
  unfold laws_FnExactScaleDyadic.f
  by_cases h : (l.length : Int) ≤ 1048576
  · rw [szD_le s l x _ h (by omega)]
    simp only [Option.bind_some]
    refine ifn (by omega) ?_
    obtain ⟨g, gl, y, cd, hi, hs, hgl⟩ := sides s l x a1 (by omega)
    have he := eqDyadic_self g gl y (by omega)
    refine Ev.bind (f := fun k t => _) (toDyadic s l x (by omega)) (Ev.bind (f := fun k t => _) hs (Ev.bind (f := fun k t => _) (toDyadic s l x (by omega)) ?_))
    simp only [hi, Option.bind_some, bne_self_eq_false]
    refine Ev.bind (f := fun k t => _) he (ifp rfl ?_)
    refine Ev.step (f := fun k => _) (fun k => by simp only [laws_FnExactScaleDyadic.j0]; rw [if_neg (by simp)]) ?_
    refine Ev.bind (f := fun k t => _) (toDyadic s l x (by omega)) (Ev.bind (f := fun k t => _) (eqDyadic_self s l x hm) (ifp rfl ?_))
    refine Ev.bind (f := fun k t => _) (smarkD s l x (by omega)) (ifn (by omega) ?_)
    simp only [bne_self_eq_false]
    refine Ev.bind (f := fun k t => _) he (ifp rfl ?_)
    refine Ev.step (f := fun k => _) (fun k => by simp only [laws_FnExactScaleDyadic.j1]; rw [if_neg (by simp)]) ?_
    refine Ev.bind (f := fun k t => _) (smarkD g gl y (by omega)) ?_
    refine Ev.bind (f := fun k t => _) (sheldD _ _ _ (by omega)) (ifn (by omega) (ifp rfl ?_))
    refine Ev.bind (f := fun k t => _) (toDyadic s l x (by omega)) ?_
    simp only [hi, Option.bind_some, bne_self_eq_false]
    refine Ev.bind (f := fun k t => _) he (ifp rfl ?_)
    refine Ev.step (f := fun k => _) (fun k => by simp only [laws_FnExactScaleDyadic.j2]; rw [if_neg (by simp)]) ?_
    exact Ev.bind (f := fun k t => _) (sheldD _ _ _ (by omega)) (ifn (by omega) (ifp rfl (ev_of fun _ => rfl)))
  · rw [szD_gt s l x _ hm (by omega) (by omega) (by omega)]
    exact ev_of fun _ => rfl
theorem walk (W : World) (s : Int) (u : Value) (l : List Int) (x : Int) (_ : (Lit.int .i64 s).wf = true) (_ : (Lit.int .i64 x).wf = true) (r : Rk.Row .i64 W u l) (a1 : Int) (_ : (Lit.int .i64 a1).wf = true) :
    Calls Try.prog 7 #[.agg #[.int .i64 s, u, .int .i64 x], .int .i64 a1] W fun e w' => e = .returned (.bool true) ∧ Below W.heap.size W w' := by
  obtain ⟨A, c, rfl, hC, hc, hm, hw⟩ := r
  unfold maxLen at hm
  obtain ⟨k, hk⟩ := pure s l x a1 hm
  exact laws_FnExactScaleDyadic.calls k s A c l x a1 true W hC hc hk
end Go.Proofs.Ytdboepiobaehkaa.LScaleDyadic
end
