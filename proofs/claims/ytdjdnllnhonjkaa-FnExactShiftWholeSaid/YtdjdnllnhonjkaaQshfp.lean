/- Lemmas of the claim: LShiftWhole. -/
import Derived.Test.YtdjdnllnhonjkaaQshfg
import Derived.Test.YtdjdnllnhonjkaaQshfo
import Derived.Test.YtdjdnllnhonjkaaQshfn
import Derived.Test.YtdjdnllnhonjkaaQshfi
import Derived.Test.YtdjdnllnhonjkaaQshfj
section
namespace Go.Proofs.Ytdjdnllnhonjkaa.LShiftWhole
open Go.RowKit Go.Proofs.YtdjdnllnhonjkaaW.PrintWords Go.Proofs.Ytdjdnllnhonjkaa.PW Go.Proofs.Ytdjdnllnhonjkaa.Pb Go.Proofs.Ytdjdnllnhonjkaa.Pc Go.Proofs.Ytdjdnllnhonjkaa.Pm Go.Proofs.Ytdjdnllnhonjkaa.Pw Go.Proofs.Ytdjdnllnhonjkaa.Px Go.Proofs.Ytdjdnllnhonjkaa.Pz Go.Proofs.Ytdjdnllnhonjkaa.St Go.Proofs.Ytdjdnllnhonjkaa.Mk Dg
set_option linter.unusedVariables false
theorem fit_len (z : Int) : (fit z).2.1.length ≤ 1048576 := by
  unfold fit
  by_cases h : bl z.natAbs ≤ 2400
  · rw [if_pos h]
    have := (L_len_iff z.natAbs 100).2 (by omega)
    show (L z.natAbs).length ≤ _
    omega
  · rw [if_neg h]
    show (0 : Nat) ≤ _
    omega
theorem sides (s : Int) (l : List Int) (a1 : Int) (hm : l.length ≤ 1048576) : ∃ g gl cd, impl_ShiftWhole.f s l a1 = some (g, gl, cd) ∧ Ev (fun k => spec_ShiftWhole.f k s l a1) (g, gl, cd) ∧ gl.length ≤ 1048576 := by
  unfold impl_ShiftWhole.f spec_ShiftWhole.f
  have h1 := l02Is s l (by omega)
  cases hw : isW s l with
  | false =>
    rw [hw] at h1
    exact ⟨_, _, _, rfl, Ev.bind (f := fun k t => _) h1 (ifn (by simp) (ev_of fun _ => rfl)), by simp⟩
  | true =>
    rw [hw] at h1
    obtain ⟨e1, e2, e3⟩ := isW_eq hw
    rw [if_pos rfl]
    by_cases hk : a1 < -5000 ∨ 5000 < a1
    · rw [if_pos hk]
      refine ⟨_, _, _, rfl, Ev.bind (f := fun k t => _) h1 (ifp rfl ?_), by simp⟩
      have : spec_l01In.f a1 (-5000) 5000 = some false := by
        unfold spec_l01In.f
        by_cases h : a1 < -5000
        · rw [if_neg (by omega)]
        · rw [if_pos (by omega)]
          congr 1
          exact decide_eq_false (by omega)
      simp only [this, Option.bind_some]
      exact ifn (by simp) (ev_of fun _ => rfl)
    · rw [if_neg hk]
      have hi : spec_l01In.f a1 (-5000) 5000 = some true := by
        unfold spec_l01In.f
        rw [if_pos (by omega)]
        congr 1
        exact decide_eq_true (by omega)
      have hb := shf_bl (wv s l) a1 (by omega) (by omega)
      have hs := sshift (wv s l) a1 (by omega) (by omega) (by omega)
      have hf := sfit (shf (wv s l) a1) (by omega)
      rw [← e1, ← e2] at hs
      refine ⟨(fit (shf (wv s l) a1)).1, (fit (shf (wv s l) a1)).2.1, (fit (shf (wv s l) a1)).2.2, rfl, Ev.bind (f := fun k t => _) h1 (ifp rfl ?_), fit_len _⟩
      simp only [hi, Option.bind_some]
      exact ifp trivial (Ev.bind (f := fun k t => _) hs (Ev.bind (f := fun k t => _) hf (ev_of fun _ => rfl)))
theorem pure (s : Int) (l : List Int) (a1 : Int) (hm : l.length ≤ 9223372036854775807) : ∃ k, laws_FnExactShiftWhole.f k s l a1 = some true := by
  apply Ev.rounds
  unfold laws_FnExactShiftWhole.f
  by_cases h : (l.length : Int) ≤ 1048576
  · rw [sz_le s l _ h (by omega)]
    simp only [Option.bind_some]
    refine ifn (by omega) ?_
    obtain ⟨g, gl, cd, hi, hs, hgl⟩ := sides s l a1 (by omega)
    have he := eqWhole_self g gl (by omega)
    refine Ev.bind (f := fun k t => _) (toWhole s l (by omega)) (Ev.bind (f := fun k t => _) hs (Ev.bind (f := fun k t => _) (toWhole s l (by omega)) ?_))
    simp only [hi, Option.bind_some, bne_self_eq_false]
    refine Ev.bind (f := fun k t => _) he (ifp rfl ?_)
    refine Ev.step (f := fun k => _) (fun k => by simp only [laws_FnExactShiftWhole.j0]; rw [if_neg (by simp)]) ?_
    refine Ev.bind (f := fun k t => _) (toWhole s l (by omega)) (Ev.bind (f := fun k t => _) (eqWhole_self s l hm) (ifp rfl ?_))
    refine Ev.bind (f := fun k t => _) (smark s l (by omega)) (ifn (by omega) ?_)
    simp only [bne_self_eq_false]
    refine Ev.bind (f := fun k t => _) he (ifp rfl ?_)
    refine Ev.step (f := fun k => _) (fun k => by simp only [laws_FnExactShiftWhole.j1]; rw [if_neg (by simp)]) ?_
    refine Ev.bind (f := fun k t => _) (smark g gl (by omega)) ?_
    refine Ev.bind (f := fun k t => _) (sheld _ _ (by omega)) (ifn (by omega) (ifp rfl ?_))
    refine Ev.bind (f := fun k t => _) (toWhole s l (by omega)) ?_
    simp only [hi, Option.bind_some, bne_self_eq_false]
    refine Ev.bind (f := fun k t => _) he (ifp rfl ?_)
    refine Ev.step (f := fun k => _) (fun k => by simp only [laws_FnExactShiftWhole.j2]; rw [if_neg (by simp)]) ?_
    exact Ev.bind (f := fun k t => _) (sheld _ _ (by omega)) (ifn (by omega) (ifp rfl (ev_of fun _ => rfl)))
  · rw [sz_gt s l _ hm (by omega) (by omega) (by omega)]
    exact ev_of fun _ => rfl
theorem walk (W : World) (s : Int) (u : Value) (l : List Int) (_ : (Lit.int .i64 s).wf = true) (r : Rk.Row .i64 W u l) (a1 : Int) (_ : (Lit.int .i64 a1).wf = true) :
    Calls Try.prog 12 #[.agg #[.int .i64 s, u], .int .i64 a1] W fun e w' => e = .returned (.bool true) ∧ Below W.heap.size W w' := by
  obtain ⟨A, c, rfl, hC, hc, hm, hw⟩ := r
  unfold maxLen at hm
  obtain ⟨k, hk⟩ := pure s l a1 hm
  exact laws_FnExactShiftWhole.calls k s A c l a1 true W hC hc hk
end Go.Proofs.Ytdjdnllnhonjkaa.LShiftWhole
end
