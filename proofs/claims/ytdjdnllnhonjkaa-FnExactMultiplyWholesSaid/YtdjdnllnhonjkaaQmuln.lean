/- Lemmas of the claim: LMultiplyWholes. -/
import Derived.Test.YtdjdnllnhonjkaaQmulm
import Derived.Test.YtdjdnllnhonjkaaQmulh
import Derived.Test.YtdjdnllnhonjkaaQmuli
section
set_option linter.unusedVariables false
set_option linter.unusedSimpArgs false
namespace Go.Proofs.Ytdjdnllnhonjkaa.LMultiplyWholes
open Go.RowKit Go.Proofs.YtdjdnllnhonjkaaW.PrintWords Go.Proofs.Ytdjdnllnhonjkaa.PW Go.Proofs.Ytdjdnllnhonjkaa.Pb Go.Proofs.Ytdjdnllnhonjkaa.Pc Go.Proofs.Ytdjdnllnhonjkaa.Pw Go.Proofs.Ytdjdnllnhonjkaa.Px Go.Proofs.Ytdjdnllnhonjkaa.Pt Go.Proofs.Ytdjdnllnhonjkaa.Py Go.Proofs.Ytdjdnllnhonjkaa.Pz Go.Proofs.Ytdjdnllnhonjkaa.Sm Go.Proofs.Ytdjdnllnhonjkaa.Mr Go.Proofs.Ytdjdnllnhonjkaa.Mu Dg
theorem mark_loop (a : Int) (ha : 0 ≤ a) (hb : a ≤ 1099511627776) (n : Nat) (hn : n ≤ 1099511627776) (d : Nat) : ∀ (i : Nat) (ys : List Int), i + d = n → ys.length = n → ys.take i = mks a i → Ev (fun k => laws_markInt64S.l0 k ys (a + (i : Int)) (i : Int)) (a + (n : Int), mks a n) := by
  induction d with
  | zero =>
    intro i ys hi hy h
    obtain rfl : i = n := by omega
    rw [List.take_of_length_le (by omega)] at h
    subst h
    refine Ev.step (f := fun _ => some (a + (i : Int), mks a i)) (fun k => ?_) (ev_of fun _ => rfl)
    simp only [laws_markInt64S.l0]
    rw [if_neg (by omega)]
  | succ d ih =>
    intro i ys hi hy h
    refine Ev.step (f := fun k => laws_markInt64S.l0 k (ys.set i (a + (i : Int))) (a + ((i + 1 : Nat) : Int)) ((i + 1 : Nat) : Int)) (fun k => ?_) (ih (i + 1) _ (by omega) (by simpa using hy) ?_)
    · simp only [laws_markInt64S.l0]
      rw [if_pos (by omega), if_pos (by omega), wrapZ _ (by omega) (by omega), wrapZ _ (by omega) (by omega), Int.toNat_natCast]
      congr 1
      omega
    · rw [List.take_succ_eq_append_getElem (by simp; omega), Dg.take_set, h, mks_succ]
      simp
theorem marks (s : Int) (l : List Int) (a : Int) (ha : 0 ≤ a) (hb : a ≤ 1099511627776) (hl : l.length ≤ 1099511627776) : Ev (fun k => laws_markWhole.f k s l a) (a + (l.length : Int), mks a l.length) := by
  unfold laws_markWhole.f laws_markInt64S.f
  have := mark_loop a ha hb l.length hl l.length 0 l (by omega) rfl rfl
  rw [show a + ((0 : Nat) : Int) = a by omega] at this
  exact Ev.bind (f := fun k t => _) this (ev_of fun _ => rfl)
theorem fit_len (z : Int) : (fit z).2.1.length ≤ 1048576 := by
  unfold fit
  by_cases h : bl z.natAbs ≤ 2400
  · rw [if_pos h]
    have := (L_len_iff z.natAbs 100).2 (by omega)
    show (L z.natAbs).length ≤ _
    omega
  · rw [if_neg h]
    show (0 : Nat) ≤ _
    omega
theorem sides (s0 : Int) (l0 : List Int) (s1 : Int) (l1 : List Int) (h0 : l0.length ≤ 1048576) (h1 : l1.length ≤ 1048576) : ∃ g gl cd, impl_MultiplyWholes.f s0 l0 s1 l1 = some (g, gl, cd) ∧ Ev (fun k => spec_MultiplyWholes.f k s0 l0 s1 l1) (g, gl, cd) ∧ gl.length ≤ 1048576 := by
  unfold impl_MultiplyWholes.f spec_MultiplyWholes.f both
  have hb := sboth s0 l0 s1 l1 (by omega) (by omega)
  by_cases hw : isW s0 l0 = true ∧ isW s1 l1 = true
  · rw [if_pos hw] at hb ⊢
    obtain ⟨e1, e2, e3⟩ := isW_eq hw.1
    obtain ⟨d1, d2, d3⟩ := isW_eq hw.2
    have hbl := bl_mul_natAbs (wv s0 l0) (wv s1 l1)
    have ha := smul (wv s0 l0) (wv s1 l1) (by omega) (by omega)
    rw [← e1, ← e2, ← d1, ← d2] at ha
    have hf := sfit (wv s0 l0 * wv s1 l1) (by omega)
    exact ⟨(fit (wv s0 l0 * wv s1 l1)).1, (fit (wv s0 l0 * wv s1 l1)).2.1, (fit (wv s0 l0 * wv s1 l1)).2.2, rfl, Ev.bind (f := fun k t => _) hb (ifp rfl (Ev.bind (f := fun k t => _) ha (Ev.bind (f := fun k t => _) hf (ev_of fun _ => rfl)))), fit_len _⟩
  · rw [if_neg hw] at hb ⊢
    exact ⟨_, _, _, rfl, Ev.bind (f := fun k t => _) hb (ifn (by decide) (ev_of fun _ => rfl)), by simp⟩
theorem walk (W : World) (s0 : Int) (u0 : Value) (l0 : List Int) (_ : (Lit.int .i64 s0).wf = true) (r0 : Rk.Row .i64 W u0 l0) (s1 : Int) (u1 : Value) (l1 : List Int) (_ : (Lit.int .i64 s1).wf = true) (r1 : Rk.Row .i64 W u1 l1) :
    Calls Try.prog 9 #[.agg #[.int .i64 s0, u0], .agg #[.int .i64 s1, u1]] W fun e w' => e = .returned (.bool true) ∧ Below W.heap.size W w' := by
  obtain ⟨A0, c0, rfl, hC0, hc0, hm0, _⟩ := r0
  obtain ⟨A1, c1, rfl, hC1, hc1, hm1, _⟩ := r1
  unfold maxLen at hm0 hm1
  by_cases h0 : (l0.length : Int) ≤ 1048576
  · have z0 := sz_le s0 l0 1048576 h0 (by omega)
    by_cases h1 : (l1.length : Int) ≤ 1048576 - l0.length
    · have z1 := sz_le s1 l1 _ h1 (by omega)
      obtain ⟨g, gl, cd, him, ⟨K0, hsp⟩, hgl⟩ := sides s0 l0 s1 l1 (by omega) (by omega)
      obtain ⟨K1, ht0⟩ := toWhole s0 l0 (by omega)
      obtain ⟨K2, ht1⟩ := toWhole s1 l1 (by omega)
      obtain ⟨K3, heg⟩ := eqWhole_self g gl (by omega)
      obtain ⟨K4, he0⟩ := eqWhole_self s0 l0 (by omega)
      obtain ⟨K5, he1⟩ := eqWhole_self s1 l1 (by omega)
      obtain ⟨K6, hk0⟩ := marks s0 l0 1 (by decide) (by decide) (by omega)
      obtain ⟨K7, hk1⟩ := marks s1 l1 (1 + (l0.length : Int)) (by omega) (by omega) (by omega)
      obtain ⟨K8, hkg⟩ := marks g gl 1 (by decide) (by decide) (by omega)
      obtain ⟨K9, hhg⟩ := sheld g gl.length (by omega)
      obtain ⟨k, hk⟩ : ∃ k, k = K0 + K1 + K2 + K3 + K4 + K5 + K6 + K7 + K8 + K9 := ⟨_, rfl⟩
      exact KMultiplyWholes.path k s0 A0 c0 l0 s1 A1 c1 l1 g gl cd _ _ _ _ _ _ _ _ W hC0 hc0 hC1 hc1 z0 (by omega) z1 (by omega) (ht0 k (by omega)) (ht1 k (by omega)) (hsp k (by omega)) him (heg k (by omega)) (he0 k (by omega)) (he1 k (by omega)) (hk0 k (by omega)) (hk1 k (by omega)) (by omega) (hkg k (by omega)) (hhg k (by omega)) (by omega)
    · have z1 := sz_gt s1 l1 (1048576 - l0.length) hm1 (by omega) (by omega) (by omega)
      exact KMultiplyWholes.early1 s0 A0 c0 l0 s1 A1 c1 l1 _ _ W hC0 hc0 hC1 hc1 z0 (by omega) z1 (by decide)
  · have z0 := sz_gt s0 l0 1048576 hm0 (by omega) (by omega) (by omega)
    exact KMultiplyWholes.early0 s0 A0 c0 l0 s1 A1 c1 l1 _ W hC0 hc0 z0 (by decide)
end Go.Proofs.Ytdjdnllnhonjkaa.LMultiplyWholes
end
