/- Lemmas of the claim: LCeilDyadic. -/
import Derived.Test.YtdboepiobaehkaaQcldg
import Derived.Test.YtdboepiobaehkaaQcldn
import Derived.Test.YtdboepiobaehkaaQcldi
import Derived.Test.YtdboepiobaehkaaQcldj
section
namespace Go.Proofs.Ytdboepiobaehkaa.LCeilDyadic
open Go.RowKit Go.Proofs.YtdboepiobaehkaaW.PrintWords Go.Proofs.Ytdboepiobaehkaa.PW Go.Proofs.Ytdboepiobaehkaa.Pb Go.Proofs.Ytdboepiobaehkaa.Pc Go.Proofs.Ytdboepiobaehkaa.Pm Go.Proofs.Ytdboepiobaehkaa.Pw Go.Proofs.Ytdboepiobaehkaa.Px Go.Proofs.Ytdboepiobaehkaa.Pz Go.Proofs.Ytdboepiobaehkaa.Pzs Go.Proofs.Ytdboepiobaehkaa.St Go.Proofs.Ytdboepiobaehkaa.Mk Go.Proofs.Ytdboepiobaehkaa.Qa Go.Proofs.Ytdboepiobaehkaa.Qb Dg
set_option linter.unusedVariables false
theorem sides (s : Int) (l : List Int) (x a1 : Int) (hm : l.length ≤ 1048576) : ∃ g gl y cd, impl_CeilDyadic.f s l x a1 = some (g, gl, y, cd) ∧ Ev (fun k => spec_CeilDyadic.f k s l x a1) (g, gl, y, cd) ∧ gl.length ≤ 1048576 := by
  unfold impl_CeilDyadic.f spec_CeilDyadic.f
  have h1 := srange s l x a1 (-1000) 1000 (by omega)
  cases hw : isD s l x with
  | false =>
    rw [hw, if_neg (by simp)] at h1
    exact ⟨_, _, _, _, rfl, Ev.bind (f := fun k t => _) h1 (ifn (by decide) (ev_of fun _ => rfl)), by simp⟩
  | true =>
    rw [hw] at h1
    obtain ⟨e1, e2, e3⟩ := isW_eq (isD_W hw)
    have hx := isD_e hw
    rw [if_pos rfl] at h1 ⊢
    by_cases hk : a1 < -1000 ∨ 1000 < a1
    · rw [if_pos hk] at h1 ⊢
      exact ⟨_, _, _, _, rfl, Ev.bind (f := fun k t => _) h1 (ifn (by decide) (ev_of fun _ => rfl)), by simp⟩
    · rw [if_neg hk] at h1 ⊢
      have hsb := impl_CeilDyadic.bl (-(wv s l)) (x + a1) (by omega) (by omega)
      have hn := sneg (wv s l) (by omega)
      have hfl := sfloorD (-(wv s l)) x a1 (by rw [Int.natAbs_neg]; omega) (by omega) (by omega) (by omega) (by omega)
      rw [show (if 0 ≤ x + a1 then -(wv s l) * 2 ^ (x + a1).toNat else -(wv s l) / 2 ^ (-(x + a1)).toNat) = shf (-(wv s l)) (x + a1) from rfl] at hfl
      rw [Int.natAbs_neg] at hfl hsb
      have hng := snegD (shf (-(wv s l)) (x + a1)) (-a1) (by omega)
      have hf := sfitD (-(shf (-(wv s l)) (x + a1))) (-a1) (by rw [Int.natAbs_neg]; omega)
      have hn3 : Ev (fun k => spec_l03Neg.f k (sgn (wv s l)) (L (wv s l).natAbs) x) (sgn (-(wv s l)), L (wv s l).natAbs, x) := by
        unfold spec_l03Neg.f
        exact Ev.bind (f := fun k t => _) hn (ev_of fun _ => rfl)
      have hs : Ev (fun k => spec_l03Ceil.f k (sgn (wv s l)) (L (wv s l).natAbs) x a1) (dy (-(shf (-(wv s l)) (x + a1))) (-a1)) := by
        unfold spec_l03Ceil.f
        exact Ev.bind (f := fun k t => _) hn3 (Ev.bind (f := fun k t => _) hfl (Ev.bind (f := fun k t => _) hng (ev_of fun _ => rfl)))
      rw [← e1, ← e2] at hs
      refine ⟨(fitD (-(shf (-(wv s l)) (x + a1))) (-a1)).1, (fitD (-(shf (-(wv s l)) (x + a1))) (-a1)).2.1, (fitD (-(shf (-(wv s l)) (x + a1))) (-a1)).2.2.1, (fitD (-(shf (-(wv s l)) (x + a1))) (-a1)).2.2.2, rfl, Ev.bind (f := fun k t => _) h1 (ifp rfl ?_), fitD_len _ _⟩
      exact Ev.bind (f := fun k t => _) hs (Ev.bind (f := fun k t => _) hf (ev_of fun _ => rfl))
theorem walk (W : World) (s0 : Int) (u0 : Value) (l0 : List Int) (e0 : Int) (_ : (Lit.int .i64 s0).wf = true) (_ : (Lit.int .i64 e0).wf = true) (r0 : Rk.Row .i64 W u0 l0) (a0 : Int) (_ : (Lit.int .i64 a0).wf = true) :
    Calls Try.prog 10 #[.agg #[.int .i64 s0, u0, .int .i64 e0], .int .i64 a0] W fun e w' => e = .returned (.bool true) ∧ Below W.heap.size W w' := by
  obtain ⟨A0, c0, rfl, hC0, hc0, hm0, _⟩ := r0
  unfold maxLen at hm0
  by_cases h0 : (l0.length : Int) ≤ 1048576
  · have z0 := szD_le s0 l0 e0 1048576 h0 (by omega)
    obtain ⟨g, gl, ge, cd, him, ⟨K0, hsp⟩, hgl⟩ := sides s0 l0 e0 a0 (by omega)
    obtain ⟨K1, ht0⟩ := toDyadic s0 l0 e0 (by omega)
    obtain ⟨K2, heg⟩ := eqDyadic_self g gl ge (by omega)
    obtain ⟨K3, he0⟩ := eqDyadic_self s0 l0 e0 (by omega)
    obtain ⟨K4, hk0⟩ := Lk.marksD s0 l0 e0 1 (by omega) (by omega) (by omega)
    obtain ⟨K5, hkg⟩ := Lk.marksD g gl ge 1 (by decide) (by decide) (by omega)
    obtain ⟨K6, hhg⟩ := sheldD g gl.length ge (by omega)
    obtain ⟨k, hk⟩ : ∃ k, k = K0 + K1 + K2 + K3 + K4 + K5 + K6 := ⟨_, rfl⟩
    exact KCeilDyadic.path k s0 A0 c0 l0 e0 a0 g gl ge cd _ _ _ _ _ W hC0 hc0 z0 (by omega) (ht0 k (by omega)) (hsp k (by omega)) him (heg k (by omega)) (he0 k (by omega)) (hk0 k (by omega)) (by omega) (hkg k (by omega)) (hhg k (by omega)) (by omega)
  · have z0 := szD_gt s0 l0 e0 (1048576) hm0 (by omega) (by omega) (by omega)
    exact KCeilDyadic.early0 s0 A0 c0 l0 e0 a0 _ W hC0 hc0  z0 (by decide)
end Go.Proofs.Ytdboepiobaehkaa.LCeilDyadic
end
