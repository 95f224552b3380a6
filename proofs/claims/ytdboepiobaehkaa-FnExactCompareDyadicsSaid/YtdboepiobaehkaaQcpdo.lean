/- Lemmas of the claim: LCompareDyadics. -/
import Derived.Test.YtdboepiobaehkaaQcpdg
import Derived.Test.YtdboepiobaehkaaQcpdn
import Derived.Test.YtdboepiobaehkaaQcpdj
section
namespace Go.Proofs.Ytdboepiobaehkaa.LCompareDyadics
open Go.RowKit Go.Proofs.YtdboepiobaehkaaW.PrintWords Go.Proofs.Ytdboepiobaehkaa.PW Go.Proofs.Ytdboepiobaehkaa.Pb Go.Proofs.Ytdboepiobaehkaa.Pc Go.Proofs.Ytdboepiobaehkaa.Pm Go.Proofs.Ytdboepiobaehkaa.Pw Go.Proofs.Ytdboepiobaehkaa.Pt Go.Proofs.Ytdboepiobaehkaa.Pz Go.Proofs.Ytdboepiobaehkaa.Nc Go.Proofs.Ytdboepiobaehkaa.Qa Go.Proofs.Ytdboepiobaehkaa.Qb Go.Proofs.Ytdboepiobaehkaa.Qc Dg
set_option linter.unusedVariables false
theorem dy_sgn (z e : Int) : (dy z e).1 = sgn z := by
  unfold dy
  by_cases h : z = 0
  · rw [if_pos h, h]
    rfl
  · rw [if_neg h]
theorem sides (s : Int) (l : List Int) (x s1 : Int) (l1 : List Int) (x1 : Int) (hm : l.length ≤ 9223372036854775807) (hm1 : l1.length ≤ 9223372036854775807) : ∃ a b, impl_CompareDyadics.f s l x s1 l1 x1 = some (a, b) ∧ Ev (fun k => spec_CompareDyadics.f k s l x s1 l1 x1) (a, b) := by
  unfold impl_CompareDyadics.f spec_CompareDyadics.f
  have h1 := sbothD s l x s1 l1 x1 hm hm1
  by_cases hw : isD s l x = true ∧ isD s1 l1 x1 = true
  · rw [if_pos hw] at h1 ⊢
    obtain ⟨e1, e2, e3⟩ := isW_eq (isD_W hw.1)
    obtain ⟨f1, f2, f3⟩ := isW_eq (isD_W hw.2)
    have hx := isD_e hw.1
    have hx1 := isD_e hw.2
    have hs := ssubD (wv s l) (wv s1 l1) x x1 (by omega) (by omega) (by omega) (by omega) (by omega) (by omega)
    rw [← e1, ← e2, ← f1, ← f2] at hs
    have hc : Ev (fun k => spec_l03Compare.f k s l x s1 l1 x1) (sgn (addz (wv s l) x (-(wv s1 l1)) x1)) := by
      unfold spec_l03Compare.f
      exact Ev.bind (f := fun k t => _) hs (ev_of fun _ => by rw [dy_sgn])
    refine ⟨_, _, rfl, Ev.bind (f := fun k t => _) h1 (ifp rfl ?_)⟩
    exact Ev.bind (f := fun k t => _) hc (ev_of fun _ => rfl)
  · rw [if_neg hw] at h1 ⊢
    exact ⟨_, _, rfl, Ev.bind (f := fun k t => _) h1 (ifn (by decide) (ev_of fun _ => rfl))⟩
theorem pure (s : Int) (l : List Int) (x s1 : Int) (l1 : List Int) (x1 : Int) (hm : l.length ≤ 9223372036854775807) (hm1 : l1.length ≤ 9223372036854775807) : ∃ k, laws_FnExactCompareDyadics.f k s l x s1 l1 x1 = some true := by
  apply Ev.rounds
  unfold laws_FnExactCompareDyadics.f
  by_cases h : (l.length : Int) ≤ 1048576
  · rw [szD_le s l x _ h (by omega)]
    simp only [Option.bind_some]
    refine ifn (by omega) ?_
    by_cases h1 : (l1.length : Int) ≤ 1048576 - l.length
    · rw [szD_le s1 l1 x1 _ h1 (by omega)]
      simp only [Option.bind_some]
      refine ifn (by omega) ?_
      have t0 := toDyadic s l x (by omega)
      have t1 := toDyadic s1 l1 x1 (by omega)
      refine Ev.bind (f := fun k t => _) t0 ?_
      refine Ev.bind (f := fun k t => _) t1 ?_
      obtain ⟨a, b, hab⟩ := sides s l x s1 l1 x1 hm hm1
      refine Ev.bind (f := fun k t => _) hab.2 ?_
      refine Ev.bind (f := fun k t => _) t0 ?_
      refine Ev.bind (f := fun k t => _) t1 ?_
      rw [hab.1]
      simp only [Option.bind_some, bne_self_eq_false]
      refine ifp trivial ?_
      refine Ev.step (f := fun k => _) (fun k => by simp only [laws_FnExactCompareDyadics.j0]; rw [if_neg (by simp)]) ?_
      refine Ev.bind (f := fun k t => _) t0 ?_
      refine Ev.bind (f := fun k t => _) (eqDyadic_self s l x hm) (ifp rfl ?_)
      refine Ev.bind (f := fun k t => _) t1 ?_
      exact Ev.bind (f := fun k t => _) (eqDyadic_self s1 l1 x1 hm1) (ev_of fun _ => rfl)
    · rw [szD_gt s1 l1 x1 _ hm1 (by omega) (by omega) (by omega)]
      exact ev_of fun _ => rfl
  · rw [szD_gt s l x _ hm (by omega) (by omega) (by omega)]
    exact ev_of fun _ => rfl
theorem walk (W : World) (s : Int) (u : Value) (l : List Int) (x : Int) (_ : (Lit.int .i64 s).wf = true) (_ : (Lit.int .i64 x).wf = true) (r : Rk.Row .i64 W u l) (s1 : Int) (u1 : Value) (l1 : List Int) (x1 : Int) (_ : (Lit.int .i64 s1).wf = true) (_ : (Lit.int .i64 x1).wf = true) (r1 : Rk.Row .i64 W u1 l1) :
    Calls Try.prog 6 #[.agg #[.int .i64 s, u, .int .i64 x], .agg #[.int .i64 s1, u1, .int .i64 x1]] W fun e w' => e = .returned (.bool true) ∧ Below W.heap.size W w' := by
  obtain ⟨A, c, rfl, hC, hc, hm, hw⟩ := r
  obtain ⟨A1, c1, rfl, hC1, hc1, hm1, hw1⟩ := r1
  unfold maxLen at hm hm1
  obtain ⟨k, hk⟩ := pure s l x s1 l1 x1 hm hm1
  exact laws_FnExactCompareDyadics.calls k s A c l x s1 A1 c1 l1 x1 true W hC hc hC1 hc1 hk
end Go.Proofs.Ytdboepiobaehkaa.LCompareDyadics
end
