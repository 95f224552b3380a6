/- What the reference's sums and differences of whole numbers come to. Plain. -/
import Derived.Test.YtdjdnllnhonjkaaPy
namespace Go.Proofs.Ytdjdnllnhonjkaa.Pz
open Go.RowKit Go.Proofs.YtdjdnllnhonjkaaW.PrintWords Go.Proofs.Ytdjdnllnhonjkaa.PW Go.Proofs.Ytdjdnllnhonjkaa.Pb Go.Proofs.Ytdjdnllnhonjkaa.Pc Go.Proofs.Ytdjdnllnhonjkaa.Pm Go.Proofs.Ytdjdnllnhonjkaa.Pw Go.Proofs.Ytdjdnllnhonjkaa.Px Go.Proofs.Ytdjdnllnhonjkaa.Pt Go.Proofs.Ytdjdnllnhonjkaa.Py Dg
set_option linter.unusedVariables false
set_option linter.unusedSimpArgs false

theorem smk_of {s z : Int} (h : z ≠ 0 → s = sgn z) : smk s z.natAbs = (sgn z, L z.natAbs) := by
  by_cases h0 : z = 0
  · subst h0; simp [smk, sgn, L_zero]
  · rw [h h0]; exact smk_sgn z
theorem sgn_zero {z : Int} : sgn z = 0 ↔ z = 0 := by
  unfold sgn
  split
  · omega
  · split <;> omega
theorem L_le {a b : Nat} (h : a ≤ b) : (L a).length ≤ (L b).length := by
  rcases Nat.lt_or_ge (L b).length (L a).length with h1 | h1
  · have := val_lt_of_length (by decide) (L_dig b) (L_dig a) (L_top a) h1
    rw [L_val, L_val] at this
    omega
  · exact h1

/-- A sum of whole numbers. -/
theorem sadd (x y : Int) (hx : bl x.natAbs ≤ 1099511627000) (hy : bl y.natAbs ≤ 1099511627000) : Ev (fun k => spec_l02Add.f k (sgn x) (L x.natAbs) (sgn y) (L y.natAbs)) (sgn (x + y), L (x + y).natAbs) := by
  have lx := L_len x.natAbs
  have ly := L_len y.natAbs
  have mk : ∀ (s : Int) (l : List Int) (z : Int), Dig 16777216 l → l.length ≤ 1099511627777 → val 16777216 l = (z.natAbs : Nat) → (z ≠ 0 → s = sgn z) → l.length ≤ 1099511627776 → Ev (fun k => spec_l02Make.f k s l) (sgn z, L z.natAbs) := by
    intro s l z hd _ hv hs hl
    have := smake s l hd hl
    rw [hv, Int.toNat_natCast, smk_of hs] at this
    exact this
  unfold spec_l02Add.f
  by_cases h0 : x = 0
  · subst h0
    refine ifp rfl (Ev.bind (f := fun k t => _) (mk (sgn y) (L y.natAbs) y (L_dig _) (by omega) (L_val _) (fun _ => rfl) (by omega)) (ev_of fun _ => ?_))
    rw [Int.zero_add]
  refine ifn (fun h => h0 (sgn_zero.1 h)) ?_
  by_cases h1 : y = 0
  · subst h1
    refine ifp rfl (Ev.bind (f := fun k t => _) (mk (sgn x) (L x.natAbs) x (L_dig _) (by omega) (L_val _) (fun _ => rfl) (by omega)) (ev_of fun _ => ?_))
    rw [Int.add_zero]
  refine ifn (fun h => h1 (sgn_zero.1 h)) ?_
  have sx : sgn x = 1 ∧ 0 < x ∨ sgn x = -1 ∧ x < 0 := by
    unfold sgn
    split
    · exact .inr ⟨rfl, by omega⟩
    · exact .inl ⟨rfl, by omega⟩
  have sy : sgn y = 1 ∧ 0 < y ∨ sgn y = -1 ∧ y < 0 := by
    unfold sgn
    split
    · exact .inr ⟨rfl, by omega⟩
    · exact .inl ⟨rfl, by omega⟩
  have sz : ∀ z : Int, (0 < z → sgn z = 1) ∧ (z < 0 → sgn z = -1) := fun z => ⟨fun h => by unfold sgn; rw [if_neg (by omega), if_neg (by omega)], fun h => by unfold sgn; rw [if_pos h]⟩
  by_cases he : sgn x = sgn y
  · refine ifp he ?_
    obtain ⟨r, hr, hd, hv, hl⟩ := splus (L x.natAbs) (L y.natAbs) (L_dig _) (L_dig _) (by omega) (by omega)
    rw [L_val, L_val] at hv
    refine Ev.bind (f := fun k t => _) hr (Ev.bind (f := fun k t => _) (mk (sgn x) r (x + y) hd (by omega) (by omega) (fun _ => ?_) (by omega)) (ev_of fun _ => rfl))
    have h2 := sz (x + y)
    rcases sx with ⟨e1, p1⟩ | ⟨e1, p1⟩ <;> rcases sy with ⟨e2, p2⟩ | ⟨e2, p2⟩
    · rw [e1, h2.1 (by omega)]
    · omega
    · omega
    · rw [e1, h2.2 (by omega)]
  · refine ifn he ?_
    have hc := slimbs (L_dig x.natAbs) (L_dig y.natAbs) (L_top _) (L_top _) (by omega) (by omega)
    rw [L_val, L_val] at hc
    refine Ev.bind (f := fun k t => _) hc ?_
    have h2 := sz (x + y)
    by_cases hle : y.natAbs ≤ x.natAbs
    · refine ifp ?_ ?_
      · unfold sgn; rw [if_neg (by omega)]; split <;> omega
      obtain ⟨r, hr, hd, hv, hl⟩ := sminus (L x.natAbs) (L y.natAbs) (L_dig _) (L_dig _) (L_le hle) (by omega) (by rw [L_val, L_val]; omega)
      rw [L_val, L_val] at hv
      refine Ev.bind (f := fun k t => _) hr (Ev.bind (f := fun k t => _) (mk (sgn x) r (x + y) hd (by omega) ?_ (fun _ => ?_) (by omega)) (ev_of fun _ => rfl))
      · rw [hv]
        rcases sx with ⟨e1, p1⟩ | ⟨e1, p1⟩ <;> rcases sy with ⟨e2, p2⟩ | ⟨e2, p2⟩ <;> omega
      · rcases sx with ⟨e1, p1⟩ | ⟨e1, p1⟩ <;> rcases sy with ⟨e2, p2⟩ | ⟨e2, p2⟩
        · omega
        · rw [e1, h2.1 (by omega)]
        · rw [e1, h2.2 (by omega)]
        · omega
    · refine ifn ?_ ?_
      · unfold sgn; rw [if_pos (by omega)]; omega
      obtain ⟨r, hr, hd, hv, hl⟩ := sminus (L y.natAbs) (L x.natAbs) (L_dig _) (L_dig _) (L_le (by omega)) (by omega) (by rw [L_val, L_val]; omega)
      rw [L_val, L_val] at hv
      refine Ev.bind (f := fun k t => _) hr (Ev.bind (f := fun k t => _) (mk (sgn y) r (x + y) hd (by omega) ?_ (fun _ => ?_) (by omega)) (ev_of fun _ => rfl))
      · rw [hv]
        rcases sx with ⟨e1, p1⟩ | ⟨e1, p1⟩ <;> rcases sy with ⟨e2, p2⟩ | ⟨e2, p2⟩ <;> omega
      · rcases sx with ⟨e1, p1⟩ | ⟨e1, p1⟩ <;> rcases sy with ⟨e2, p2⟩ | ⟨e2, p2⟩
        · omega
        · rw [e2, h2.2 (by omega)]
        · rw [e2, h2.1 (by omega)]
        · omega

/-- A result that may be too large. -/
theorem sfit (z : Int) (hz : bl z.natAbs ≤ 1099511627000) : Ev (fun k => spec_l02Fit.f k (sgn z) (L z.natAbs)) (fit z) := by
  have lz := L_len z.natAbs
  unfold spec_l02Fit.f
  have h := l02Is (sgn z) (L z.natAbs) (by omega)
  rw [isW_of] at h
  unfold fit
  by_cases hb : bl z.natAbs ≤ 2400
  · rw [decide_eq_true hb] at h
    rw [if_pos hb]
    exact Ev.bind (f := fun k t => _) h (ifp rfl (ev_of fun _ => rfl))
  · rw [decide_eq_false hb] at h
    rw [if_neg hb]
    exact Ev.bind (f := fun k t => _) h (ifn (by simp) (ev_of fun _ => rfl))
end Go.Proofs.Ytdjdnllnhonjkaa.Pz
