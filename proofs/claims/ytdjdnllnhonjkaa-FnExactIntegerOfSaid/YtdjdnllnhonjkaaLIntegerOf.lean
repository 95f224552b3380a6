/- The law FnExactIntegerOf, walked: it answers true. -/
import Derived.Test.YtdjdnllnhonjkaaPWx58
import Derived.Test.YtdjdnllnhonjkaaPLExactIntegerOfx30
import Derived.Test.YtdjdnllnhonjkaaXkIntegerOf
import Derived.Test.YtdjdnllnhonjkaaPx
import Derived.Test.YtdjdnllnhonjkaaPt
import Derived.Test.YtdjdnllnhonjkaaKa
namespace Go.Proofs.Ytdjdnllnhonjkaa.LIntegerOf
open Go.RowKit Go.Proofs.YtdjdnllnhonjkaaW.PrintWords Go.Proofs.Ytdjdnllnhonjkaa.PW Go.Proofs.Ytdjdnllnhonjkaa.Pb Go.Proofs.Ytdjdnllnhonjkaa.Pc Go.Proofs.Ytdjdnllnhonjkaa.Pw Go.Proofs.Ytdjdnllnhonjkaa.Px Go.Proofs.Ytdjdnllnhonjkaa.Pt Go.Proofs.Ytdjdnllnhonjkaa.Mv Dg
set_option linter.unusedVariables false

theorem val_drop_le {l : List Int} (hd : Dig 16777216 l) (i : Nat) : val 16777216 (l.drop i) ≤ val 16777216 l := by
  induction i with
  | zero => rw [List.drop_zero]; exact Int.le_refl _
  | succ i ih =>
    have h := val_drop' (B := 16777216) l i
    have h0 := val_nonneg (hd.drop (i + 1))
    have h1 := (hd.all0 (by decide) i).1
    omega

/-- The loop that puts an integer together. -/
theorem int_loop (s : Int) (l : List Int) (hd : Dig 16777216 l) (hl : l.length ≤ 1099511627776) (hs : s = 0 ∨ s = 1 ∨ s = -1) (h1 : -9223372036854775808 ≤ s * val 16777216 l) (h2 : s * val 16777216 l ≤ 9223372036854775807) :
    ∀ i : Nat, i ≤ l.length → Ev (fun k => spec_IntegerOf.l0 k (s * val 16777216 (l.drop i)) ((i : Int) - 1) s l) (s * val 16777216 l, 0) := by
  intro i
  induction i with
  | zero =>
    intro _
    refine Ev.step (f := fun _ => some (s * val 16777216 l, 0)) (fun k => ?_) (ev_of fun _ => rfl)
    simp only [spec_IntegerOf.l0]
    rw [if_neg (by omega), List.drop_zero]
  | succ i ih =>
    intro hi
    have e1 : ((i + 1 : Nat) : Int) - 1 = (i : Int) := by omega
    have hv := val_drop (B := 16777216) (l := l) (i := i) (by omega)
    have v1 := val_nonneg (hd.drop (i + 1))
    have v0 := val_drop_le hd i
    have dd := hd.all0 (by decide) i
    refine Ev.step (f := fun k => spec_IntegerOf.l0 k (s * val 16777216 (l.drop i)) ((i : Int) - 1) s l) (fun k => ?_) (ih (by omega))
    simp only [spec_IntegerOf.l0]
    rw [e1, if_pos (by omega), if_pos (by omega), if_pos (by omega), rdN]
    generalize val 16777216 (l.drop (i + 1)) = b at *
    generalize val 16777216 (l.drop i) = a at *
    generalize l.getD i 0 = d at *
    generalize val 16777216 l = v at *
    have e2 : wrap64 (wrap64 (s * b * 16777216) + wrap64 (s * d)) = s * a := by
      rcases hs with rfl | rfl | rfl
      · simp only [Int.zero_mul] at *
        rw [wrapZ 0 (by omega) (by omega), wrapZ _ (by omega) (by omega)]
        rfl
      · simp only [Int.one_mul] at *
        rw [wrapZ (b * 16777216) (by omega) (by omega), wrapZ d (by omega) (by omega), wrapZ _ (by omega) (by omega)]
        omega
      · simp only [Int.neg_mul, Int.one_mul] at *
        rw [wrapZ (-(b * 16777216)) (by omega) (by omega), wrapZ (-d) (by omega) (by omega), wrapZ _ (by omega) (by omega)]
        omega
    rw [e2, wrapZ _ (by omega) (by omega)]

theorem swv {s : Int} {l : List Int} (h : isW s l = true) : s * val 16777216 l = wv s l ∧ (s = 0 ∨ s = 1 ∨ s = -1) := by
  obtain ⟨hd, hl, ht, hs⟩ := isW_spec h
  rcases hs with ⟨rfl, rfl⟩ | ⟨_, rfl | rfl⟩
  · exact ⟨rfl, .inl rfl⟩
  · refine ⟨?_, .inr (.inl rfl)⟩
    unfold wv; rw [if_neg (by decide), Int.one_mul]
  · refine ⟨?_, .inr (.inr rfl)⟩
    unfold wv; rw [if_pos (by decide), Int.neg_mul, Int.one_mul]

theorem sint (s : Int) (l : List Int) (hm : l.length ≤ 9223372036854775807) : ∃ a b, impl_IntegerOf.f s l = some (a, b) ∧ Ev (fun k => spec_IntegerOf.f k s l) (a, b) := by
  unfold impl_IntegerOf.f spec_IntegerOf.f
  have h1 := l02Is s l hm
  cases hw : isW s l with
  | false =>
    rw [hw] at h1
    rw [if_neg (by simp)]
    exact ⟨0, 1, rfl, Ev.bind (f := fun k t => _) h1 (ifn (by simp) (ev_of fun _ => rfl))⟩
  | true =>
    rw [hw] at h1
    rw [if_pos rfl]
    have w1 : isW (Pm.sgn (-9223372036854775808)) (L (-9223372036854775808 : Int).natAbs) = true := by
      rw [isW_of]; exact decide_eq_true (Nat.le_trans (bl_le (k := 64) (by decide)) (by decide))
    have w2 : isW (Pm.sgn 9223372036854775807) (L (9223372036854775807 : Int).natAbs) = true := by
      rw [isW_of]; exact decide_eq_true (Nat.le_trans (bl_le (k := 64) (by decide)) (by decide))
    have c1 := scompare hw w1
    have c2 := scompare hw w2
    rw [wv_of] at c1 c2
    obtain ⟨hv, hs⟩ := swv hw
    obtain ⟨hd, hl, ht, hs'⟩ := isW_spec hw
    have o1 := sof (-9223372036854775808) (by decide) (by decide)
    have o2 := sof 9223372036854775807 (by decide) (by decide)
    by_cases hin : in64 (wv s l) = true
    · rw [if_pos hin]
      have hr : -9223372036854775808 ≤ wv s l ∧ wv s l ≤ 9223372036854775807 := of_decide_eq_true hin
      refine ⟨_, _, rfl, Ev.bind (f := fun k t => _) h1 (ifp rfl ?_)⟩
      refine Ev.bind (f := fun k t => _) o1 ?_
      refine Ev.bind (f := fun k t => _) o2 ?_
      refine Ev.bind (f := fun k t => _) c1 (ifn ?_ ?_)
      · unfold Pm.sgn
        split
        · omega
        · split <;> omega
      refine Ev.bind (f := fun k t => _) c2 ?_
      have e : decide (Pm.sgn (wv s l - 9223372036854775807) > 0) = false := by
        apply decide_eq_false
        unfold Pm.sgn
        split
        · omega
        · rw [if_pos (by omega)]; omega
      simp only [e]
      have hlp := int_loop s l hd (by omega) hs (by omega) (by omega) l.length (Nat.le_refl _)
      rw [List.drop_length, val_nil, Int.mul_zero, hv] at hlp
      refine Ev.step (f := fun k => spec_IntegerOf.l0 k 0 (wrap64 ((l.length : Int) - 1)) s l) (fun k => ?_) ?_
      · simp only [spec_IntegerOf.j0]
        rw [if_neg (by simp)]
      · rw [wrapZ _ (by omega) (by omega)]
        exact hlp
    · rw [if_neg hin]
      have hr : wv s l < -9223372036854775808 ∨ 9223372036854775807 < wv s l := by
        unfold in64 at hin
        simp only [decide_eq_true_eq] at hin
        omega
      have hj : Ev (fun k => spec_IntegerOf.j0 k true s l) (0, 3) := Ev.step (f := fun _ => some (0, 3)) (fun k => by simp only [spec_IntegerOf.j0]; rw [if_pos trivial]) (ev_of fun _ => rfl)
      refine ⟨_, _, rfl, Ev.bind (f := fun k t => _) h1 (ifp rfl ?_)⟩
      refine Ev.bind (f := fun k t => _) o1 ?_
      refine Ev.bind (f := fun k t => _) o2 ?_
      by_cases hlow : wv s l < -9223372036854775808
      · refine Ev.bind (f := fun k t => _) c1 (ifp ?_ hj)
        unfold Pm.sgn; rw [if_pos (by omega)]; omega
      · refine Ev.bind (f := fun k t => _) c1 (ifn ?_ ?_)
        · unfold Pm.sgn; rw [if_neg (by omega)]; split <;> omega
        refine Ev.bind (f := fun k t => _) c2 ?_
        have e : decide (Pm.sgn (wv s l - 9223372036854775807) > 0) = true := by
          apply decide_eq_true
          unfold Pm.sgn
          rw [if_neg (by omega), if_neg (by omega)]
          omega
        simp only [e]
        exact hj

theorem pure (s : Int) (l : List Int) (hm : l.length ≤ 9223372036854775807) : ∃ k, laws_FnExactIntegerOf.f k s l = some true := by
  apply Ev.rounds
  unfold laws_FnExactIntegerOf.f
  by_cases h : (l.length : Int) ≤ 1048576
  · rw [sz_le s l _ h (by omega)]
    simp only [Option.bind_some]
    refine ifn (by omega) ?_
    have t0 := toWhole s l (by omega)
    refine Ev.bind (f := fun k t => _) t0 ?_
    obtain ⟨a, b, hab⟩ := sint s l hm
    refine Ev.bind (f := fun k t => _) hab.2 ?_
    refine Ev.bind (f := fun k t => _) t0 ?_
    rw [hab.1]
    simp only [Option.bind_some, bne_self_eq_false]
    refine ifp trivial ?_
    refine Ev.step (f := fun k => _) (fun k => by simp only [laws_FnExactIntegerOf.j0]; rw [if_neg (by simp)]) ?_
    refine Ev.bind (f := fun k t => _) t0 ?_
    exact Ev.bind (f := fun k t => _) (eqWhole_self s l hm) (ev_of fun _ => rfl)
  · rw [sz_gt s l _ hm (by omega) (by omega) (by omega)]
    exact ev_of fun _ => rfl

theorem walk (W : World) (s : Int) (u : Value) (l : List Int) (_ : (Lit.int .i64 s).wf = true) (r : Rk.Row .i64 W u l) :
    Calls Try.prog 6 #[.agg #[.int .i64 s, u]] W fun e w' => e = .returned (.bool true) ∧ Below W.heap.size W w' := by
  obtain ⟨A, c, rfl, hC, hc, hm, hw⟩ := r
  unfold maxLen at hm
  obtain ⟨k, hk⟩ := pure s l hm
  exact laws_FnExactIntegerOf.calls k s A c l true W hC hc hk
end Go.Proofs.Ytdjdnllnhonjkaa.LIntegerOf
