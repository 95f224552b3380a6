/- Lemmas of the claim: LRootBelow. -/
import Derived.Test.YtfinbmnjfnajiaaQRBn
import Derived.Test.YtfinbmnjfnajiaaQRBh
import Derived.Test.YtfinbmnjfnajiaaQRBi
section
namespace Go.Proofs.Ytfinbmnjfnajiaa.LRootBelow
open Go.RowKit Go.Proofs.YtfinbmnjfnajiaaW.PrintWords Go.Proofs.Ytfinbmnjfnajiaa.PW Go.Proofs.Ytfinbmnjfnajiaa.Pb Go.Proofs.Ytfinbmnjfnajiaa.Pc Go.Proofs.Ytfinbmnjfnajiaa.Pm Go.Proofs.Ytfinbmnjfnajiaa.Pw Go.Proofs.Ytfinbmnjfnajiaa.Px Go.Proofs.Ytfinbmnjfnajiaa.Pz Go.Proofs.Ytfinbmnjfnajiaa.Qa Go.Proofs.Ytfinbmnjfnajiaa.Qb Go.Proofs.Ytfinbmnjfnajiaa.Th Dg Go.Proofs.Ytfinbmnjfnajiaa.Dz
set_option linter.unusedVariables false
theorem sides (s : Int) (l : List Int) (x a1 : Int) (hm : l.length ≤ 1048576) : ∃ g gl y cd, impl_RootBelow.f s l x a1 = some (g, gl, y, cd) ∧ Ev (fun k => spec_RootBelow.f k s l x a1) (g, gl, y, cd) ∧ gl.length ≤ 1048576 := by
  unfold spec_RootBelow.f impl_RootBelow.f
  by_cases hw : rootCode s l x a1 = 0
  · rw [if_pos hw]
    exact ⟨_, _, _, _, rfl, ev_of fun _ => rfl, fitD_len _ _⟩
  · rw [if_neg hw]
    exact ⟨_, _, _, _, rfl, ev_of fun _ => rfl, by simp⟩
theorem walk (W : World) (s0 : Int) (u0 : Value) (l0 : List Int) (e0 : Int) (_ : (Lit.int .i64 s0).wf = true) (_ : (Lit.int .i64 e0).wf = true) (r0 : Rk.Row .i64 W u0 l0) (a0 : Int) (_ : (Lit.int .i64 a0).wf = true) :
    Calls Try.prog 8 #[.agg #[.int .i64 s0, u0, .int .i64 e0], .int .i64 a0] W fun e w' => e = .returned (.bool true) ∧ Below W.heap.size W w' := by
  obtain ⟨A0, c0, rfl, hC0, hc0, hm0, _⟩ := r0
  unfold maxLen at hm0
  by_cases h0 : (l0.length : Int) ≤ 1048576
  · have z0 := szD_le s0 l0 e0 1048576 h0 (by omega)
    obtain ⟨g, gl, ge, cd, him, ⟨K0, hsp⟩, hgl⟩ := sides s0 l0 e0 a0 (by omega)
    obtain ⟨K1, ht0⟩ := toDyadic s0 l0 e0 (by omega)
    obtain ⟨K2, heg⟩ := eqDyadic_self g gl ge (by omega)
    obtain ⟨K3, he0⟩ := eqDyadic_self s0 l0 e0 (by omega)
    obtain ⟨K4, hk0⟩ := Lk.marksD s0 l0 e0 1 (by omega) (by omega) (by omega)
    obtain ⟨K5, hkg⟩ := Lk.marksD g gl ge 1 (by decide) (by decide) (by omega)
    obtain ⟨K6, hhg⟩ := sheldD g gl.length ge (by omega)
    obtain ⟨k, hk⟩ : ∃ k, k = K0 + K1 + K2 + K3 + K4 + K5 + K6 := ⟨_, rfl⟩
    exact KRootBelow.path k s0 A0 c0 l0 e0 a0 g gl ge cd _ _ _ _ _ W hC0 hc0 z0 (by omega) (ht0 k (by omega)) (hsp k (by omega)) him (heg k (by omega)) (he0 k (by omega)) (hk0 k (by omega)) (by omega) (hkg k (by omega)) (hhg k (by omega)) (by omega)
  · have z0 := szD_gt s0 l0 e0 (1048576) hm0 (by omega) (by omega) (by omega)
    exact KRootBelow.early0 s0 A0 c0 l0 e0 a0 _ W hC0 hc0  z0 (by decide)
end Go.Proofs.Ytfinbmnjfnajiaa.LRootBelow
end
