/- Lemmas of the claim: LSubtractDyadics. -/
import Derived.Test.YtdboepiobaehkaaQsudg
import Derived.Test.YtdboepiobaehkaaQsudn
import Derived.Test.YtdboepiobaehkaaQsudi
import Derived.Test.YtdboepiobaehkaaQsudj
section
namespace Go.Proofs.Ytdboepiobaehkaa.LSubtractDyadics
open Go.RowKit Go.Proofs.YtdboepiobaehkaaW.PrintWords Go.Proofs.Ytdboepiobaehkaa.PW Go.Proofs.Ytdboepiobaehkaa.Pb Go.Proofs.Ytdboepiobaehkaa.Pc Go.Proofs.Ytdboepiobaehkaa.Pm Go.Proofs.Ytdboepiobaehkaa.Pw Go.Proofs.Ytdboepiobaehkaa.Px Go.Proofs.Ytdboepiobaehkaa.Pz Go.Proofs.Ytdboepiobaehkaa.Pzs Go.Proofs.Ytdboepiobaehkaa.St Go.Proofs.Ytdboepiobaehkaa.Mk Go.Proofs.Ytdboepiobaehkaa.Mu Go.Proofs.Ytdboepiobaehkaa.Nc Go.Proofs.Ytdboepiobaehkaa.Qa Go.Proofs.Ytdboepiobaehkaa.Qb Go.Proofs.Ytdboepiobaehkaa.Qc Dg
set_option linter.unusedVariables false
theorem impl_SubtractDyadics.bd (x e y f : Int) (hx : bl x.natAbs ≤ 2400) (hy : bl y.natAbs ≤ 2400) (h1 : -3000 ≤ e) (h2 : e ≤ 3000) (h3 : -3000 ≤ f) (h4 : f ≤ 3000) : bl (addz x e y f).natAbs ≤ 268435456 := by
  unfold addz
  split
  · omega
  · split
    · omega
    · have a := bl_two x (e - min e f).toNat
      have b := bl_two y (f - min e f).toNat
      have := bl_add_natAbs (x * 2 ^ (e - min e f).toNat) (y * 2 ^ (f - min e f).toNat)
      omega
theorem sides (s : Int) (l : List Int) (x s1 : Int) (l1 : List Int) (x1 : Int) (hm : l.length ≤ 1048576) (hm1 : l1.length ≤ 1048576) : ∃ g gl y cd, impl_SubtractDyadics.f s l x s1 l1 x1 = some (g, gl, y, cd) ∧ Ev (fun k => spec_SubtractDyadics.f k s l x s1 l1 x1) (g, gl, y, cd) ∧ gl.length ≤ 1048576 := by
  unfold impl_SubtractDyadics.f spec_SubtractDyadics.f
  have h1 := sbothD s l x s1 l1 x1 (by omega) (by omega)
  by_cases hw : isD s l x = true ∧ isD s1 l1 x1 = true
  · rw [if_pos hw] at h1 ⊢
    obtain ⟨e1, e2, e3⟩ := isW_eq (isD_W hw.1)
    obtain ⟨f1, f2, f3⟩ := isW_eq (isD_W hw.2)
    have hx := isD_e hw.1
    have hx1 := isD_e hw.2
    have hs := ssubD (wv s l) (wv s1 l1) x x1 (by omega) (by omega) (by omega) (by omega) (by omega) (by omega)
    have hb := impl_SubtractDyadics.bd (wv s l) x (-(wv s1 l1)) x1 (by omega) (by rw [Int.natAbs_neg]; omega) (by omega) (by omega) (by omega) (by omega)
    have hf := sfitD (addz (wv s l) x (-(wv s1 l1)) x1) (adde (wv s l) x (-(wv s1 l1)) x1) (by omega)
    rw [← e1, ← e2, ← f1, ← f2] at hs
    refine ⟨(fitD (addz (wv s l) x (-(wv s1 l1)) x1) (adde (wv s l) x (-(wv s1 l1)) x1)).1, (fitD (addz (wv s l) x (-(wv s1 l1)) x1) (adde (wv s l) x (-(wv s1 l1)) x1)).2.1, (fitD (addz (wv s l) x (-(wv s1 l1)) x1) (adde (wv s l) x (-(wv s1 l1)) x1)).2.2.1, (fitD (addz (wv s l) x (-(wv s1 l1)) x1) (adde (wv s l) x (-(wv s1 l1)) x1)).2.2.2, rfl, Ev.bind (f := fun k t => _) h1 (ifp rfl ?_), fitD_len _ _⟩
    exact Ev.bind (f := fun k t => _) hs (Ev.bind (f := fun k t => _) hf (ev_of fun _ => rfl))
  · rw [if_neg hw] at h1 ⊢
    exact ⟨_, _, _, _, rfl, Ev.bind (f := fun k t => _) h1 (ifn (by decide) (ev_of fun _ => rfl)), by simp⟩
theorem walk (W : World) (s0 : Int) (u0 : Value) (l0 : List Int) (e0 : Int) (_ : (Lit.int .i64 s0).wf = true) (_ : (Lit.int .i64 e0).wf = true) (r0 : Rk.Row .i64 W u0 l0) (s1 : Int) (u1 : Value) (l1 : List Int) (e1 : Int) (_ : (Lit.int .i64 s1).wf = true) (_ : (Lit.int .i64 e1).wf = true) (r1 : Rk.Row .i64 W u1 l1) :
    Calls Try.prog 12 #[.agg #[.int .i64 s0, u0, .int .i64 e0], .agg #[.int .i64 s1, u1, .int .i64 e1]] W fun e w' => e = .returned (.bool true) ∧ Below W.heap.size W w' := by
  obtain ⟨A0, c0, rfl, hC0, hc0, hm0, _⟩ := r0
  obtain ⟨A1, c1, rfl, hC1, hc1, hm1, _⟩ := r1
  unfold maxLen at hm0 hm1
  by_cases h0 : (l0.length : Int) ≤ 1048576
  · have z0 := szD_le s0 l0 e0 1048576 h0 (by omega)
    by_cases h1 : (l1.length : Int) ≤ 1048576 - l0.length
    · have z1 := szD_le s1 l1 e1 _ h1 (by omega)
      obtain ⟨g, gl, ge, cd, him, ⟨K0, hsp⟩, hgl⟩ := sides s0 l0 e0 s1 l1 e1 (by omega) (by omega)
      obtain ⟨K1, ht0⟩ := toDyadic s0 l0 e0 (by omega)
      obtain ⟨K2, ht1⟩ := toDyadic s1 l1 e1 (by omega)
      obtain ⟨K3, heg⟩ := eqDyadic_self g gl ge (by omega)
      obtain ⟨K4, he0⟩ := eqDyadic_self s0 l0 e0 (by omega)
      obtain ⟨K5, he1⟩ := eqDyadic_self s1 l1 e1 (by omega)
      obtain ⟨K6, hk0⟩ := Lk.marksD s0 l0 e0 1 (by omega) (by omega) (by omega)
      obtain ⟨K7, hk1⟩ := Lk.marksD s1 l1 e1 (1 + (l0.length : Int)) (by omega) (by omega) (by omega)
      obtain ⟨K8, hkg⟩ := Lk.marksD g gl ge 1 (by decide) (by decide) (by omega)
      obtain ⟨K9, hhg⟩ := sheldD g gl.length ge (by omega)
      obtain ⟨k, hk⟩ : ∃ k, k = K0 + K1 + K2 + K3 + K4 + K5 + K6 + K7 + K8 + K9 := ⟨_, rfl⟩
      exact KSubtractDyadics.path k s0 A0 c0 l0 e0 s1 A1 c1 l1 e1 g gl ge cd _ _ _ _ _ _ _ _ W hC0 hc0 hC1 hc1 z0 (by omega) z1 (by omega) (ht0 k (by omega)) (ht1 k (by omega)) (hsp k (by omega)) him (heg k (by omega)) (he0 k (by omega)) (he1 k (by omega)) (hk0 k (by omega)) (hk1 k (by omega)) (by omega) (hkg k (by omega)) (hhg k (by omega)) (by omega)
    · have z1 := szD_gt s1 l1 e1 (1048576 - l0.length) hm1 (by omega) (by omega) (by omega)
      exact KSubtractDyadics.early1 s0 A0 c0 l0 e0 s1 A1 c1 l1 e1 _ _ W hC0 hc0 hC1 hc1 z0 (by omega) z1 (by decide)
  · have z0 := szD_gt s0 l0 e0 (1048576) hm0 (by omega) (by omega) (by omega)
    exact KSubtractDyadics.early0 s0 A0 c0 l0 e0 s1 A1 c1 l1 e1 _ W hC0 hc0  z0 (by decide)
end Go.Proofs.Ytdboepiobaehkaa.LSubtractDyadics
end
