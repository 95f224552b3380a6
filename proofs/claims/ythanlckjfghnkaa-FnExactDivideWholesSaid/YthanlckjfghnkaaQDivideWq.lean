/- Lemmas of the claim: LDivideWholes. -/
import Derived.Test.YthanlckjfghnkaaQDivideWp
import Derived.Test.YthanlckjfghnkaaQDivideWj
import Derived.Test.YthanlckjfghnkaaQDivideWi
import Derived.Test.YthanlckjfghnkaaQDivideWk
section
set_option linter.unusedVariables false
set_option linter.unusedSimpArgs false
namespace Go.Proofs.Ythanlckjfghnkaa.LDivideWholes
open Go.RowKit Go.Proofs.YthanlckjfghnkaaW.PrintWords Go.Proofs.Ythanlckjfghnkaa.PW Go.Proofs.Ythanlckjfghnkaa.Pb Go.Proofs.Ythanlckjfghnkaa.Pc Go.Proofs.Ythanlckjfghnkaa.Pm Go.Proofs.Ythanlckjfghnkaa.Pw Go.Proofs.Ythanlckjfghnkaa.Px Go.Proofs.Ythanlckjfghnkaa.Pt Go.Proofs.Ythanlckjfghnkaa.Pz Go.Proofs.Ythanlckjfghnkaa.Sm Go.Proofs.Ythanlckjfghnkaa.Tw Go.Proofs.Ythanlckjfghnkaa.Mr Go.Proofs.Ythanlckjfghnkaa.Mu Dg
theorem mark_loop (a : Int) (ha : 0 ≤ a) (hb : a ≤ 1099511627776) (n : Nat) (hn : n ≤ 1099511627776) (d : Nat) : ∀ (i : Nat) (ys : List Int), i + d = n → ys.length = n → ys.take i = mks a i → Ev (fun k => laws_markInt64S.l0 k ys (a + (i : Int)) (i : Int)) (a + (n : Int), mks a n) := by
  induction d with
  | zero =>
    intro i ys hi hy h
    obtain rfl : i = n := by omega
    rw [List.take_of_length_le (by omega)] at h
    subst h
    refine Ev.step (f := fun _ => some (a + (i : Int), mks a i)) (fun k => ?_) (ev_of fun _ => rfl)
    simp only [laws_markInt64S.l0]
    rw [if_neg (by omega)]
  | succ d ih =>
    intro i ys hi hy h
    refine Ev.step (f := fun k => laws_markInt64S.l0 k (ys.set i (a + (i : Int))) (a + ((i + 1 : Nat) : Int)) ((i + 1 : Nat) : Int)) (fun k => ?_) (ih (i + 1) _ (by omega) (by simpa using hy) ?_)
    · simp only [laws_markInt64S.l0]
      rw [if_pos (by omega), if_pos (by omega), wrapZ _ (by omega) (by omega), wrapZ _ (by omega) (by omega), Int.toNat_natCast]
      congr 1
      omega
    · rw [List.take_succ_eq_append_getElem (by simp; omega), Dg.take_set, h, mks_succ]
      simp
theorem marks (s : Int) (l : List Int) (a : Int) (ha : 0 ≤ a) (hb : a ≤ 1099511627776) (hl : l.length ≤ 1099511627776) : Ev (fun k => laws_markWhole.f k s l a) (a + (l.length : Int), mks a l.length) := by
  unfold laws_markWhole.f laws_markInt64S.f
  have := mark_loop a ha hb l.length hl l.length 0 l (by omega) rfl rfl
  rw [show a + ((0 : Nat) : Int) = a by omega] at this
  exact Ev.bind (f := fun k t => _) this (ev_of fun _ => rfl)
theorem held_loop (a : Int) (ha : 0 ≤ a) (hb : a ≤ 1099511627776) (n : Nat) (hn : n ≤ 1099511627776) (d : Nat) : ∀ (i : Nat), i + d = n → Ev (fun k => laws_heldInt64S.l0 k (mks a n) (a + (i : Int)) (i : Int)) (a + (n : Int)) := by
  have hln := mks_len a n
  induction d with
  | zero =>
    intro i hi
    obtain rfl : i = n := by omega
    refine Ev.step (f := fun _ => some (a + (i : Int))) (fun k => ?_) (ev_of fun _ => rfl)
    simp only [laws_heldInt64S.l0]
    rw [if_neg (by omega)]
  | succ d ih =>
    intro i hi
    refine Ev.step (f := fun k => laws_heldInt64S.l0 k (mks a n) (a + ((i + 1 : Nat) : Int)) ((i + 1 : Nat) : Int)) (fun k => ?_) (ih (i + 1) (by omega))
    simp only [laws_heldInt64S.l0]
    rw [if_pos (by omega), if_pos (by omega), rdN, mks_getD a n i (by omega), if_pos rfl, wrapZ _ (by omega) (by omega), wrapZ _ (by omega) (by omega)]
    congr 1
    omega
theorem helds (s : Int) (a : Int) (ha : 0 ≤ a) (hb : a ≤ 1099511627776) (n : Nat) (hn : n ≤ 1099511627776) : Ev (fun k => laws_heldWhole.f k s (mks a n) a) (a + (n : Int)) := by
  unfold laws_heldWhole.f laws_heldInt64S.f
  have := held_loop a ha hb n hn n 0 (by omega)
  rw [show a + ((0 : Nat) : Int) = a by omega] at this
  exact Ev.bind (f := fun k t => _) this (ifn (by omega) (ev_of fun _ => rfl))
theorem natAbs_q (x y : Int) : (x.tdiv y).natAbs = x.natAbs / y.natAbs := Int.natAbs_tdiv x y
theorem natAbs_r (x y : Int) : (x.tmod y).natAbs = x.natAbs % y.natAbs := Int.natAbs_tmod x y
theorem sgn_tdiv {x y : Int} (h : x.tdiv y ≠ 0) : sgn x * sgn y = sgn (x.tdiv y) := by
  have hq : x.natAbs / y.natAbs ≠ 0 := by rw [← natAbs_q]; omega
  have hx : x ≠ 0 := by rintro rfl; simp at hq
  have hy : y ≠ 0 := by rintro rfl; simp at hq
  rw [← Tf.tdiv_sign]
  generalize x.natAbs / y.natAbs = q at *
  clear h
  unfold sgn
  by_cases h1 : x < 0 <;> by_cases h2 : y < 0
  · rw [if_neg (show ¬ (decide (x < 0) != decide (y < 0)) = true by simp [h1, h2]), if_pos h1, if_pos h2, if_neg (by omega), if_neg (by omega)]
    all_goals rfl
  · rw [if_pos (show (decide (x < 0) != decide (y < 0)) = true by simp [h1, h2]), if_pos h1, if_neg h2, if_neg hy, if_pos (by omega)]
    all_goals rfl
  · rw [if_pos (show (decide (x < 0) != decide (y < 0)) = true by simp [h1, h2]), if_neg h1, if_neg hx, if_pos h2, if_pos (by omega)]
    all_goals rfl
  · rw [if_neg (show ¬ (decide (x < 0) != decide (y < 0)) = true by simp [h1, h2]), if_neg h1, if_neg hx, if_neg h2, if_neg hy, if_neg (by omega), if_neg (by omega)]
    all_goals rfl
theorem sgn_tmod {x y : Int} (h : x.tmod y ≠ 0) : sgn x = sgn (x.tmod y) := by
  have hq : x.natAbs % y.natAbs ≠ 0 := by rw [← natAbs_r]; omega
  have hx : x ≠ 0 := by rintro rfl; simp at hq
  rw [← Tf.tmod_sign]
  generalize x.natAbs % y.natAbs = q at *
  clear h
  unfold sgn
  by_cases h1 : x < 0
  · rw [if_pos (show decide (x < 0) = true by simp [h1]), if_pos h1, if_pos (by omega)]
  · rw [if_neg (show ¬ decide (x < 0) = true by simp [h1]), if_neg h1, if_neg hx, if_neg (by omega), if_neg (by omega)]
theorem len100 {z : Int} (h : bl z.natAbs ≤ 2400) : (L z.natAbs).length ≤ 1048576 := by
  have := (L_len_iff z.natAbs 100).2 (by omega)
  omega
theorem sides (s0 : Int) (l0 : List Int) (s1 : Int) (l1 : List Int) (h0 : l0.length ≤ 1048576) (h1 : l1.length ≤ 1048576) : ∃ g gl g2 gl2 cd, impl_DivideWholes.f s0 l0 s1 l1 = some (g, gl, g2, gl2, cd) ∧ Ev (fun k => spec_DivideWholes.f k s0 l0 s1 l1) (g, gl, g2, gl2, cd) ∧ gl.length ≤ 1048576 ∧ gl2.length ≤ 1048576 := by
  unfold impl_DivideWholes.f spec_DivideWholes.f
  have hb := sboth s0 l0 s1 l1 (by omega) (by omega)
  by_cases hw : isW s0 l0 = true ∧ isW s1 l1 = true
  · rw [if_pos hw] at hb ⊢
    obtain ⟨e1, e2, e3⟩ := isW_eq hw.1
    obtain ⟨d1, d2, d3⟩ := isW_eq hw.2
    by_cases hz : s1 = 0
    · rw [if_pos hz]
      exact ⟨_, _, _, _, _, rfl, Ev.bind (f := fun k t => _) hb (ifp rfl (ifp hz (ev_of fun _ => rfl))), by simp, by simp⟩
    · rw [if_neg hz]
      have hy : wv s1 l1 ≠ 0 := by
        intro e
        rw [e] at d1
        exact hz d1
      have hd := sdivmod (sa := s0) (sb := s1) (X := (wv s0 l0).natAbs) (Y := (wv s1 l1).natAbs) (by rw [e1]; exact sgn_range _) (by rw [d1]; exact sgn_range _) (by omega) (by omega) (by omega)
      rw [← e2, ← d2] at hd
      have k1 : smk (s0 * s1) ((wv s0 l0).natAbs / (wv s1 l1).natAbs) = (sgn ((wv s0 l0).tdiv (wv s1 l1)), L ((wv s0 l0).tdiv (wv s1 l1)).natAbs) := by
        rw [← natAbs_q]
        exact smk_of (fun h => by rw [← sgn_tdiv h, ← e1, ← d1])
      have k2 : smk s0 ((wv s0 l0).natAbs % (wv s1 l1).natAbs) = (sgn ((wv s0 l0).tmod (wv s1 l1)), L ((wv s0 l0).tmod (wv s1 l1)).natAbs) := by
        rw [← natAbs_r]
        exact smk_of (fun h => by rw [← sgn_tmod h, ← e1])
      rw [k1, k2] at hd
      refine ⟨_, _, _, _, _, rfl, Ev.bind (f := fun k t => _) hb (ifp rfl (ifn hz (Ev.bind (f := fun k t => _) hd (ev_of fun _ => rfl)))), len100 ?_, len100 ?_⟩
      · rw [natAbs_q]; exact Nat.le_trans (bl_mono (Nat.div_le_self _ _)) e3
      · rw [natAbs_r]; exact Nat.le_trans (bl_mono (Nat.mod_le _ _)) e3
  · rw [if_neg hw] at hb ⊢
    exact ⟨_, _, _, _, _, rfl, Ev.bind (f := fun k t => _) hb (ifn (by decide) (ev_of fun _ => rfl)), by simp, by simp⟩
theorem walk (W : World) (s0 : Int) (u0 : Value) (l0 : List Int) (_ : (Lit.int .i64 s0).wf = true) (r0 : Rk.Row .i64 W u0 l0) (s1 : Int) (u1 : Value) (l1 : List Int) (_ : (Lit.int .i64 s1).wf = true) (r1 : Rk.Row .i64 W u1 l1) :
    Calls Try.prog 5 #[.agg #[.int .i64 s0, u0], .agg #[.int .i64 s1, u1]] W fun e w' => e = .returned (.bool true) ∧ Below W.heap.size W w' := by
  obtain ⟨A0, c0, rfl, hC0, hc0, hm0, _⟩ := r0
  obtain ⟨A1, c1, rfl, hC1, hc1, hm1, _⟩ := r1
  unfold maxLen at hm0 hm1
  by_cases h0 : (l0.length : Int) ≤ 1048576
  · have z0 := sz_le s0 l0 1048576 h0 (by omega)
    by_cases h1 : (l1.length : Int) ≤ 1048576 - l0.length
    · have z1 := sz_le s1 l1 _ h1 (by omega)
      obtain ⟨g, gl, g2, gl2, cd, him, ⟨K0, hsp⟩, hgl, hgl2⟩ := sides s0 l0 s1 l1 (by omega) (by omega)
      obtain ⟨K1, ht0⟩ := toWhole s0 l0 (by omega)
      obtain ⟨K2, ht1⟩ := toWhole s1 l1 (by omega)
      obtain ⟨K3, heg⟩ := eqWhole_self g gl (by omega)
      obtain ⟨J3, heg2⟩ := eqWhole_self g2 gl2 (by omega)
      obtain ⟨K4, he0⟩ := eqWhole_self s0 l0 (by omega)
      obtain ⟨K5, he1⟩ := eqWhole_self s1 l1 (by omega)
      obtain ⟨K6, hk0⟩ := marks s0 l0 1 (by decide) (by decide) (by omega)
      obtain ⟨K7, hk1⟩ := marks s1 l1 (1 + (l0.length : Int)) (by omega) (by omega) (by omega)
      obtain ⟨K8, hkg⟩ := marks g gl 1 (by decide) (by decide) (by omega)
      obtain ⟨K9, hhg⟩ := helds g 1 (by decide) (by decide) gl.length (by omega)
      obtain ⟨J8, hkg2⟩ := marks g2 gl2 (1 + (gl.length : Int)) (by omega) (by omega) (by omega)
      obtain ⟨J9, hhg2⟩ := helds g2 (1 + (gl.length : Int)) (by omega) (by omega) gl2.length (by omega)
      obtain ⟨k, hk⟩ : ∃ k, k = K0 + K1 + K2 + K3 + K4 + K5 + K6 + K7 + K8 + K9 + J3 + J8 + J9 := ⟨_, rfl⟩
      exact KDivideWholes.path k s0 A0 c0 l0 s1 A1 c1 l1 g gl g2 gl2 cd _ _ _ _ _ _ _ _ _ _ W hC0 hc0 hC1 hc1 z0 (by omega) z1 (by omega) (ht0 k (by omega)) (ht1 k (by omega)) (hsp k (by omega)) him (heg2 k (by omega)) (heg k (by omega)) (he0 k (by omega)) (he1 k (by omega)) (hk0 k (by omega)) (hk1 k (by omega)) (by omega) (hkg k (by omega)) (hhg k (by omega)) (by omega) (hkg2 k (by omega)) (hhg2 k (by omega)) (by omega)
    · have z1 := sz_gt s1 l1 (1048576 - l0.length) hm1 (by omega) (by omega) (by omega)
      exact KDivideWholes.early1 s0 A0 c0 l0 s1 A1 c1 l1 _ _ W hC0 hc0 hC1 hc1 z0 (by omega) z1 (by decide)
  · have z0 := sz_gt s0 l0 1048576 hm0 (by omega) (by omega) (by omega)
    exact KDivideWholes.early0 s0 A0 c0 l0 s1 A1 c1 l1 _ W hC0 hc0 z0 (by decide)
end Go.Proofs.Ythanlckjfghnkaa.LDivideWholes
end
