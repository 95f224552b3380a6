/- Lemmas of the claim: LRootOfWhole. -/
import Derived.Test.YtfinbmnjfnajiaaQRWm
import Derived.Test.YtfinbmnjfnajiaaQRWh
import Derived.Test.YtfinbmnjfnajiaaQRWi
section
namespace Go.Proofs.Ytfinbmnjfnajiaa.LRootOfWhole
open Go.RowKit Go.Proofs.YtfinbmnjfnajiaaW.PrintWords Go.Proofs.Ytfinbmnjfnajiaa.PW Go.Proofs.Ytfinbmnjfnajiaa.Pb Go.Proofs.Ytfinbmnjfnajiaa.Pc Go.Proofs.Ytfinbmnjfnajiaa.Pm Go.Proofs.Ytfinbmnjfnajiaa.Pw Go.Proofs.Ytfinbmnjfnajiaa.Px Go.Proofs.Ytfinbmnjfnajiaa.Pz Dg Go.Proofs.Ytfinbmnjfnajiaa.Dz
set_option linter.unusedVariables false
theorem fit_len (z : Int) : (fit z).2.1.length ≤ 1048576 := by
  unfold fit
  by_cases h : bl z.natAbs ≤ 2400
  · rw [if_pos h]
    have := (L_len_iff z.natAbs 100).2 (by omega)
    show (L z.natAbs).length ≤ _
    omega
  · rw [if_neg h]
    show (0 : Nat) ≤ _
    omega
theorem sides (s : Int) (l : List Int) (hm : l.length ≤ 1048576) : ∃ g gl cd, impl_RootOfWhole.f s l = some (g, gl, cd) ∧ Ev (fun k => spec_RootOfWhole.f k s l) (g, gl, cd) ∧ gl.length ≤ 1048576 := by
  unfold spec_RootOfWhole.f impl_RootOfWhole.f
  by_cases hw : isW s l = true
  · rw [if_pos hw]
    by_cases hs : s < 0
    · rw [if_pos hs]
      exact ⟨_, _, _, rfl, ev_of fun _ => rfl, by simp⟩
    · rw [if_neg hs]
      exact ⟨_, _, _, rfl, ev_of fun _ => rfl, fit_len _⟩
  · rw [if_neg hw]
    exact ⟨_, _, _, rfl, ev_of fun _ => rfl, by simp⟩
theorem walk (W : World) (s0 : Int) (u0 : Value) (l0 : List Int) (_ : (Lit.int .i64 s0).wf = true) (r0 : Rk.Row .i64 W u0 l0) :
    Calls Try.prog 4 #[.agg #[.int .i64 s0, u0]] W fun e w' => e = .returned (.bool true) ∧ Below W.heap.size W w' := by
  obtain ⟨A0, c0, rfl, hC0, hc0, hm0, _⟩ := r0
  unfold maxLen at hm0
  by_cases h0 : (l0.length : Int) ≤ 1048576
  · have z0 := sz_le s0 l0 1048576 h0 (by omega)
    obtain ⟨g, gl, cd, him, ⟨K0, hsp⟩, hgl⟩ := sides s0 l0 (by omega)
    obtain ⟨K1, ht0⟩ := toWhole s0 l0 (by omega)
    obtain ⟨K2, heg⟩ := eqWhole_self g gl (by omega)
    obtain ⟨K3, he0⟩ := eqWhole_self s0 l0 (by omega)
    obtain ⟨K4, hk0⟩ := Lk.marks s0 l0 1 (by omega) (by omega) (by omega)
    obtain ⟨K5, hkg⟩ := Lk.marks g gl 1 (by decide) (by decide) (by omega)
    obtain ⟨K6, hhg⟩ := sheld g gl.length (by omega)
    obtain ⟨k, hk⟩ : ∃ k, k = K0 + K1 + K2 + K3 + K4 + K5 + K6 := ⟨_, rfl⟩
    exact KRootOfWhole.path k s0 A0 c0 l0 g gl cd _ _ _ _ _ W hC0 hc0 z0 (by omega) (ht0 k (by omega)) (hsp k (by omega)) him (heg k (by omega)) (he0 k (by omega)) (hk0 k (by omega)) (by omega) (hkg k (by omega)) (hhg k (by omega)) (by omega)
  · have z0 := sz_gt s0 l0 (1048576) hm0 (by omega) (by omega) (by omega)
    exact KRootOfWhole.early0 s0 A0 c0 l0 _ W hC0 hc0  z0 (by decide)
end Go.Proofs.Ytfinbmnjfnajiaa.LRootOfWhole
end
