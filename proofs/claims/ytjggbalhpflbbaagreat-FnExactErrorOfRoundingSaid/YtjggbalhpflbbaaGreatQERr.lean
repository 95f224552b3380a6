/- Lemmas of the claim: LErrorOfRounding. -/
import Derived.Test.YtjggbalhpflbbaaGreatQERq
import Derived.Test.YtjggbalhpflbbaaGreatQERj
import Derived.Test.YtjggbalhpflbbaaGreatQERl
section
namespace Go.Proofs.YtjggbalhpflbbaaGreat.LErrorOfRounding
open Go.RowKit Go.Proofs.YtjggbalhpflbbaaGreat.Er Go.Proofs.YtjggbalhpflbbaaGreat.Es Go.Proofs.YtjggbalhpflbbaaGreatW.PrintWords Go.Proofs.YtjggbalhpflbbaaGreat.PW Go.Proofs.YtjggbalhpflbbaaGreat.Pb Go.Proofs.YtjggbalhpflbbaaGreat.Pc Go.Proofs.YtjggbalhpflbbaaGreat.Pm Go.Proofs.YtjggbalhpflbbaaGreat.Pw Go.Proofs.YtjggbalhpflbbaaGreat.Px Go.Proofs.YtjggbalhpflbbaaGreat.Pz Go.Proofs.YtjggbalhpflbbaaGreat.Pzs Go.Proofs.YtjggbalhpflbbaaGreat.St Go.Proofs.YtjggbalhpflbbaaGreat.Mk Go.Proofs.YtjggbalhpflbbaaGreat.Qa Go.Proofs.YtjggbalhpflbbaaGreat.Qb Dg
set_option linter.unusedVariables false
theorem sides (s : Int) (l : List Int) (x a1 : Int) : ∃ g gl y cd, impl_ErrorOfRounding.f s l x a1 = some (g, gl, y, cd) ∧ Ev (fun k => spec_ErrorOfRounding.f k s l x a1) (g, gl, y, cd) ∧ gl.length ≤ 1048576 := by
  refine ⟨(erF s l x a1).1, (erF s l x a1).2.1, (erF s l x a1).2.2.1, (erF s l x a1).2.2.2, rfl, ev_of fun _ => rfl, ?_⟩
  rcases er_cases s l x a1 with ⟨_, _, _, _, _, _, _, _, _, h⟩ | ⟨_, _, _, _, _, h⟩ | ⟨_, _, _, h⟩
  · rw [h]; exact fitD_len _ _
  · rw [h]; exact Nat.zero_le _
  · rw [h]; exact Nat.zero_le _
theorem walk (W : World) (s0 : Int) (u0 : Value) (l0 : List Int) (e0 : Int) (_ : (Lit.int .i64 s0).wf = true) (_ : (Lit.int .i64 e0).wf = true) (r0 : Rk.Row .i64 W u0 l0) (a0 : Int) (_ : (Lit.int .i64 a0).wf = true) :
    Calls Tryz.prog 3 #[.agg #[.int .i64 s0, u0, .int .i64 e0], .int .i64 a0] W fun e w' => e = .returned (.bool true) ∧ Below W.heap.size W w' := by
  obtain ⟨A0, c0, rfl, hC0, hc0, hm0, _⟩ := r0
  unfold maxLen at hm0
  by_cases h0 : (l0.length : Int) ≤ 1048576
  · have z0 := szD_le s0 l0 e0 1048576 h0 (by omega)
    obtain ⟨g, gl, ge, cd, him, ⟨K0, hsp⟩, hgl⟩ := sides s0 l0 e0 a0
    obtain ⟨K1, ht0⟩ := toDyadic s0 l0 e0 (by omega)
    obtain ⟨K2, heg⟩ := eqDyadic_self g gl ge (by omega)
    obtain ⟨K3, he0⟩ := eqDyadic_self s0 l0 e0 (by omega)
    obtain ⟨K4, hk0⟩ := Lk.marksD s0 l0 e0 1 (by omega) (by omega) (by omega)
    obtain ⟨K5, hkg⟩ := Lk.marksD g gl ge 1 (by decide) (by decide) (by omega)
    obtain ⟨K6, hhg⟩ := sheldD g gl.length ge (by omega)
    obtain ⟨k, hk⟩ : ∃ k, k = K0 + K1 + K2 + K3 + K4 + K5 + K6 := ⟨_, rfl⟩
    exact KErrorOfRounding.path k s0 A0 c0 l0 e0 a0 g gl ge cd _ _ _ _ _ W hC0 hc0 z0 (by omega) (ht0 k (by omega)) (hsp k (by omega)) him (heg k (by omega)) (he0 k (by omega)) (hk0 k (by omega)) (by omega) (hkg k (by omega)) (hhg k (by omega)) (by omega)
  · have z0 := szD_gt s0 l0 e0 (1048576) hm0 (by omega) (by omega) (by omega)
    exact KErrorOfRounding.early0 s0 A0 c0 l0 e0 a0 _ W hC0 hc0  z0 (by decide)
end Go.Proofs.YtjggbalhpflbbaaGreat.LErrorOfRounding
end
