/- Lemmas of the claim: Tw. -/
import Derived.Lib.Hide
import Derived.Test.YthanlckjfghnkaaQDivideWg
import Derived.Test.YthanlckjfghnkaaQDivideWi
section
namespace Go.Proofs.Ythanlckjfghnkaa.Tw
open Go.RowKit Go.Proofs.YthanlckjfghnkaaW.PrintWords Go.Proofs.Ythanlckjfghnkaa.PW Go.Proofs.Ythanlckjfghnkaa.Pb Go.Proofs.Ythanlckjfghnkaa.Pc Go.Proofs.Ythanlckjfghnkaa.Pm Go.Proofs.Ythanlckjfghnkaa.Pw Go.Proofs.Ythanlckjfghnkaa.Ps Go.Proofs.Ythanlckjfghnkaa.Px Go.Proofs.Ythanlckjfghnkaa.Pz Go.Proofs.Ythanlckjfghnkaa.Ss Dg
set_option linter.unusedVariables false
set_option linter.unusedSimpArgs false
structure Db (xs : List Int) (d : Int) (i : Nat) (ys : List Int) (c : Int) : Prop where
  dig : Dig 16777216 ys
  len : ys.length = xs.length
  fr : 0 ≤ c ∧ c < 2
  high : ys.drop i = xs.drop i
  inv : val 16777216 (ys.take i) + 16777216 ^ i * c = 2 * val 16777216 (xs.take i) + d
theorem Db.start {xs : List Int} {d : Int} (hx : Dig 16777216 xs) (h0 : 0 ≤ d) (h1 : d < 2) : Db xs d 0 xs d := by
  refine ⟨hx, rfl, ⟨h0, h1⟩, rfl, ?_⟩
  rw [List.take_zero, val_nil]
  simp
theorem Db.step {xs ys : List Int} {d c x : Int} {i : Nat} (h : Db xs d i ys c) (hx : Dig 16777216 xs) (hi : i < xs.length) (he : x = 2 * ys.getD i 0 + c) : Db xs d (i + 1) (ys.set i (x % 16777216)) (x / 16777216) ∧ 0 ≤ x ∧ x < 33554432 := by
  have hl := h.len
  have hc := h.fr
  have cB : ((16777216 : Nat) : Int) = 16777216 := rfl
  have hyi := h.dig.all0 (by decide) i
  rw [cB] at hyi
  have hxy : ys.getD i 0 = xs.getD i 0 := by
    have h1 := congrArg (fun l : List Int => l.getD 0 0) h.high
    simp only [List.getD, List.getElem?_drop, Nat.add_zero] at h1 ⊢
    exact h1
  have hx0 : 0 ≤ x := by omega
  have hx1 : x < 33554432 := by omega
  refine ⟨⟨h.dig.set _ (by omega) (by rw [cB]; omega), by simpa using hl, by omega, ?_, ?_⟩, hx0, hx1⟩
  · rw [List.drop_set_of_lt (by omega)]
    have h1 := congrArg (List.drop 1) h.high
    rw [List.drop_drop, List.drop_drop] at h1
    exact h1
  · rw [val_take_succ' (ys.set i (x % 16777216)) i, val_take_succ' xs i, Dg.getD_set_eq (by omega), Dg.take_set, cB]
    have hv := h.inv
    rw [hxy] at he
    have e := Int.mul_ediv_add_emod x 16777216
    have hp : (16777216 : Int) ^ (i + 1) = 16777216 ^ i * 16777216 := Int.pow_succ _ _
    rw [hp]
    generalize (16777216 : Int) ^ i = B at *
    generalize x / 16777216 = q at *
    generalize x % 16777216 = r at *
    generalize xs.getD i 0 = u at *
    have e2 : B * x = B * c + B * (2 * u) := by rw [he, Int.mul_add, Int.add_comm]
    have e3 : B * x = B * (16777216 * q) + B * r := by rw [← e, Int.mul_add]
    rw [Int.mul_assoc B 16777216 q, Int.mul_add 2]
    rw [show 2 * (B * u) = B * (2 * u) by rw [← Int.mul_assoc, ← Int.mul_assoc, Int.mul_comm 2 B]]
    omega
theorem Db.done {xs ys : List Int} {d c : Int} (h : Db xs d xs.length ys c) (hs : 2 * val 16777216 xs + d < 16777216 ^ xs.length) : val 16777216 ys = 2 * val 16777216 xs + d ∧ c = 0 := by
  have := h.inv
  rw [← h.len, List.take_length, h.len, List.take_length] at this
  have hc := h.fr
  have h0 := val_nonneg h.dig
  have hp : (0 : Int) < 16777216 ^ xs.length := Int.pow_pos (by decide)
  rcases (show c = 0 ∨ c = 1 by omega) with rfl | rfl
  · exact ⟨by rw [← this]; simp, rfl⟩
  · exfalso; omega
structure Sb (xs b : List Int) (i : Nat) (ys : List Int) (c : Int) : Prop where
  dig : Dig 16777216 ys
  len : ys.length = xs.length
  fr : 0 ≤ c ∧ c < 2
  high : ys.drop i = xs.drop i
  inv : val 16777216 (ys.take i) + val 16777216 (b.take i) = val 16777216 (xs.take i) + 16777216 ^ i * c
theorem Sb.start {xs b : List Int} (hx : Dig 16777216 xs) : Sb xs b 0 xs 0 := by
  refine ⟨hx, rfl, by omega, rfl, ?_⟩
  rw [List.take_zero, List.take_zero, val_nil]
  simp
theorem Sb.step {xs b ys : List Int} {c x y c' : Int} {i : Nat} (h : Sb xs b i ys c) (hb : Dig 16777216 b) (hi : i < xs.length) (he : x = ys.getD i 0 - c - b.getD i 0) (hy : (x < 0 ∧ y = x + 16777216 ∧ c' = 1) ∨ (¬ x < 0 ∧ y = x ∧ c' = 0)) : Sb xs b (i + 1) (ys.set i y) c' ∧ -16777217 < x ∧ x < 16777216 := by
  have hl := h.len
  have hc := h.fr
  have cB : ((16777216 : Nat) : Int) = 16777216 := rfl
  have hyi := h.dig.all0 (by decide) i
  have hbi := hb.all0 (by decide) i
  rw [cB] at hyi hbi
  have hxy : ys.getD i 0 = xs.getD i 0 := by
    have h1 := congrArg (fun l : List Int => l.getD 0 0) h.high
    simp only [List.getD, List.getElem?_drop, Nat.add_zero] at h1 ⊢
    exact h1
  have hx0 : -16777217 < x := by omega
  have hx1 : x < 16777216 := by omega
  refine ⟨⟨h.dig.set _ (by omega) (by rw [cB]; omega), by simpa using hl, by omega, ?_, ?_⟩, hx0, hx1⟩
  · rw [List.drop_set_of_lt (by omega)]
    have h1 := congrArg (List.drop 1) h.high
    rw [List.drop_drop, List.drop_drop] at h1
    exact h1
  · rw [val_take_succ' (ys.set i y) i, val_take_succ' xs i, val_take_succ' b i, Dg.getD_set_eq (by omega), Dg.take_set, cB]
    have hv := h.inv
    rw [hxy] at he
    have hp : (16777216 : Int) ^ (i + 1) = 16777216 ^ i * 16777216 := Int.pow_succ _ _
    rw [hp]
    generalize (16777216 : Int) ^ i = B at *
    generalize xs.getD i 0 = u at *
    generalize b.getD i 0 = v at *
    have e1 : y + v + c = u + 16777216 * c' := by omega
    have e2 : B * y + B * v + B * c = B * u + B * 16777216 * c' := by rw [← Int.mul_add, ← Int.mul_add, e1, Int.mul_add, Int.mul_assoc]
    omega
theorem Sb.done {xs b ys : List Int} {c : Int} (h : Sb xs b xs.length ys c) (hb : b.length ≤ xs.length) (hs : val 16777216 b ≤ val 16777216 xs) : val 16777216 ys = val 16777216 xs - val 16777216 b := by
  have := h.inv
  rw [← h.len, List.take_length, h.len, List.take_length, val_take_ge hb] at this
  have hc := h.fr
  have h0 := val_lt (B := 16777216) (by decide) h.dig
  rw [h.len, show ((16777216 : Nat) : Int) = 16777216 from rfl] at h0
  rcases (show c = 0 ∨ c = 1 by omega) with rfl | rfl
  · rw [Int.mul_zero] at this; omega
  · exfalso; omega
theorem limb {l : List Int} (h : Dig 16777216 l) (i : Nat) {n : Nat} (hv : val 16777216 l = (n : Int)) : l.getD i 0 = ((n / 16777216 ^ i % 16777216 : Nat) : Int) := by
  have h1 := (val_div_mod (B := 16777216) (by decide) h i).1
  rw [val_drop', hv, show ((16777216 : Nat) : Int) = 16777216 from rfl] at h1
  have h2 := h.all0 (by decide) i
  rw [show ((16777216 : Nat) : Int) = 16777216 from rfl] at h2
  have h3 : ((n / 16777216 ^ i : Nat) : Int) = (n : Int) / 16777216 ^ i := by rw [Int.natCast_ediv, Int.natCast_pow]; rfl
  rw [Int.natCast_emod, h3, h1]
  omega
variable {sa sb : Int} {X Y : Nat} {R : Int × List Int × Int × List Int}
theorem compare (xs q : List Int) (j : Int) (hx : Dig 16777216 xs) (hl : xs.length = (L Y).length + 1) (hY : Y ≠ 0) (hm : (L Y).length ≤ 1000000)
    (hE : Ev (fun k => spec_l02DivMod.j4 k ((L Y).length : Int) xs q j (decide (val 16777216 xs < (Y : Int))) sa (L X) sb (L Y)) R) :
    Ev (fun k => spec_l02DivMod.l2 k ((L Y).length : Int) xs q j (rd xs ((L Y).length : Int) == 0) (wrap64 (((L Y).length : Int) - 1)) sa (L X) sb (L Y)) R := by
  have hp := L_pos hY
  have hY2 : (Y : Int) = val 16777216 (L Y) := (L_val Y).symm
  have hYl := val_lt (B := 16777216) (by decide) (L_dig Y)
  rw [rdN, wrapZ _ (by omega) (by omega)]
  have hv := val_take_succ' (B := 16777216) xs (L Y).length
  rw [← hl, List.take_length] at hv
  have hn := hx.all0 (by decide) (L Y).length
  have hlow := val_nonneg (hx.take (L Y).length)
  have hB : (0 : Int) < ((16777216 : Nat) : Int) ^ (L Y).length := Int.pow_pos (by decide)
  by_cases h0 : xs.getD (L Y).length 0 = 0
  · rw [h0, Int.mul_zero, Int.add_zero] at hv
    rw [hv] at hE
    rw [h0]
    rw [show ((0 : Int) == 0) = true from rfl]
    -- from the highest limb down
    have loop : ∀ m : Nat, m ≤ (L Y).length → 0 < m → (xs.take (L Y).length).drop m = (L Y).drop m → Ev (fun k => spec_l02DivMod.l2 k ((L Y).length : Int) xs q j true ((m : Int) - 1) sa (L X) sb (L Y)) R := by
      intro m
      induction m with
      | zero => intro _ h; omega
      | succ m ih =>
        intro hm1 _ hd
        have hg : (xs.take (L Y).length).getD m 0 = xs.getD m 0 := by
          simp only [List.getD, List.getElem?_take_of_lt (show m < (L Y).length by omega)]
        refine Ev.step (f := fun k => spec_l02DivMod.j3 k ((L Y).length : Int) xs q j true (m : Int) true sa (L X) sb (L Y)) (fun k => ?_) ?_
        · simp only [spec_l02DivMod.l2]
          rw [if_pos (by omega), show ((m + 1 : Nat) : Int) - 1 = (m : Int) by omega]
        by_cases he : xs.getD m 0 = (L Y).getD m 0
        · by_cases hm0 : m = 0
          · subst hm0
            have heq : xs.take (L Y).length = L Y := by
              have e1 := List.drop_eq_getElem_cons (l := xs.take (L Y).length) (i := 0) (by simp; omega)
              have e2 := List.drop_eq_getElem_cons (l := L Y) (i := 0) hp
              rw [List.drop_zero] at e1 e2
              refine e1.trans (Eq.trans ?_ e2.symm)
              rw [hd]
              congr 1
              rw [← Dg.getD_lt, ← Dg.getD_lt, hg, he]
            rw [heq, ← hY2, decide_eq_false (by omega)] at hE
            refine Ev.step (f := fun k => spec_l02DivMod.l2 k ((L Y).length : Int) xs q j false (-1) sa (L X) sb (L Y)) (fun k => ?_) ?_
            · simp only [spec_l02DivMod.j3]
              rw [if_pos trivial, if_pos (by omega), if_pos (by omega), if_pos (by omega), rdN, rdN, if_pos he, if_pos (show ((0 : Nat) : Int) = 0 from rfl), show wrap64 (((0 : Nat) : Int) - 1) = -1 from wrapZ _ (by omega) (by omega)]
            refine Ev.step (f := fun k => spec_l02DivMod.j3 k ((L Y).length : Int) xs q j false (-1) false sa (L X) sb (L Y)) (fun k => ?_) ?_
            · simp only [spec_l02DivMod.l2]
              rw [if_neg (by omega)]
            refine Ev.step (fun k => ?_) hE
            simp only [spec_l02DivMod.j3]
            rw [if_neg (by simp)]
          · refine Ev.step (f := fun k => spec_l02DivMod.l2 k ((L Y).length : Int) xs q j true ((m : Int) - 1) sa (L X) sb (L Y)) (fun k => ?_) (ih (by omega) (by omega) ?_)
            · simp only [spec_l02DivMod.j3]
              rw [if_pos trivial, if_pos (by omega), if_pos (by omega), if_pos (by omega), rdN, rdN, if_pos he, if_neg (by omega), wrapZ _ (by omega) (by omega)]
            · have e1 := List.drop_eq_getElem_cons (l := xs.take (L Y).length) (i := m) (by simp; omega)
              have e2 := List.drop_eq_getElem_cons (l := L Y) (i := m) (by omega)
              refine e1.trans (Eq.trans ?_ e2.symm)
              rw [hd]
              congr 1
              rw [← Dg.getD_lt, ← Dg.getD_lt, hg, he]
        · have hlt : decide (xs.getD m 0 < (L Y).getD m 0) = decide (val 16777216 (xs.take (L Y).length) < (Y : Int)) := by
            rw [hY2]
            rcases Int.lt_or_gt_of_ne he with h | h
            · rw [decide_eq_true h, decide_eq_true (val_lt_of_digit (by decide) (hx.take _) (L_dig Y) m hd (by omega) (by rw [hg]; exact h))]
            · have := val_lt_of_digit (by decide) (L_dig Y) (hx.take (L Y).length) m hd.symm (by simp; omega) (by rw [hg]; exact h)
              rw [decide_eq_false (by omega), decide_eq_false (by omega)]
          rw [← hlt] at hE
          refine Ev.step (fun k => ?_) hE
          simp only [spec_l02DivMod.j3]
          rw [if_pos trivial, if_pos (by omega), if_pos (by omega), if_pos (by omega), rdN, rdN, if_neg he]
    exact loop (L Y).length (Nat.le_refl _) hp (by rw [List.drop_of_length_le (by rw [List.length_take]; omega), List.drop_length])
  · have hge : (Y : Int) ≤ val 16777216 xs := by
      have : ((16777216 : Nat) : Int) ^ (L Y).length * 1 ≤ ((16777216 : Nat) : Int) ^ (L Y).length * xs.getD (L Y).length 0 := Int.mul_le_mul_of_nonneg_left (by omega) (Int.le_of_lt hB)
      omega
    rw [decide_eq_false (by omega)] at hE
    rw [show (xs.getD (L Y).length 0 == 0) = false from beq_eq_false_iff_ne.mpr h0]
    refine Ev.step (f := fun k => spec_l02DivMod.j3 k ((L Y).length : Int) xs q j false (((L Y).length : Int) - 1) false sa (L X) sb (L Y)) (fun k => ?_) ?_
    · simp only [spec_l02DivMod.l2]
      rw [if_pos (by omega)]
    refine Ev.step (fun k => ?_) hE
    simp only [spec_l02DivMod.j3]
    rw [if_neg (by simp)]
theorem doubling (xs q : List Int) (j d : Int) (hx : Dig 16777216 xs) (hl : xs.length = (L Y).length + 1) (hY : Y ≠ 0) (hm : (L Y).length ≤ 1000000) (h0 : 0 ≤ d) (h1 : d < 2) (hs : val 16777216 xs < (Y : Int))
    (hE : ∀ ys, Dig 16777216 ys → ys.length = (L Y).length + 1 → val 16777216 ys = 2 * val 16777216 xs + d → Ev (fun k => spec_l02DivMod.j4 k ((L Y).length : Int) ys q j (decide (val 16777216 ys < (Y : Int))) sa (L X) sb (L Y)) R) :
    Ev (fun k => spec_l02DivMod.l1 k ((L Y).length : Int) xs q j d 0 sa (L X) sb (L Y)) R := by
  have hY2 : (Y : Int) = val 16777216 (L Y) := (L_val Y).symm
  have hYl := val_lt (B := 16777216) (by decide) (L_dig Y)
  rw [show ((16777216 : Nat) : Int) = 16777216 from rfl] at hYl
  have hP : (16777216 : Int) ^ ((L Y).length + 1) = 16777216 ^ (L Y).length * 16777216 := Int.pow_succ _ _
  have loop : ∀ (m i : Nat) (ys : List Int) (c : Int), i + m = xs.length → Db xs d i ys c → Ev (fun k => spec_l02DivMod.l1 k ((L Y).length : Int) ys q j c (i : Int) sa (L X) sb (L Y)) R := by
    intro m
    induction m with
    | zero =>
      intro i ys c hi h
      have hlen := h.len
      obtain rfl : i = xs.length := by omega
      obtain ⟨hd, rfl⟩ := h.done (by rw [hl, hP]; omega)
      refine Ev.step (f := fun k => spec_l02DivMod.l2 k ((L Y).length : Int) ys q j (rd ys ((L Y).length : Int) == 0) (wrap64 (((L Y).length : Int) - 1)) sa (L X) sb (L Y)) (fun k => ?_) (compare ys q j h.dig (by omega) hY hm (hE ys h.dig (by omega) hd))
      simp only [spec_l02DivMod.l1]
      rw [if_neg (by omega), if_pos (by omega), if_pos (by omega)]
    | succ m ih =>
      intro i ys c hi h
      have hlen := h.len
      have hc := h.fr
      have cB : ((16777216 : Nat) : Int) = 16777216 := rfl
      have hyi := h.dig.all0 (by decide) i
      rw [cB] at hyi
      obtain ⟨h2, h3, h4⟩ := h.step hx (by omega) rfl
      refine Ev.step (f := fun k => spec_l02DivMod.l1 k ((L Y).length : Int) (ys.set i ((2 * ys.getD i 0 + c) % 16777216)) q j ((2 * ys.getD i 0 + c) / 16777216) ((i + 1 : Nat) : Int) sa (L X) sb (L Y)) (fun k => ?_) (ih (i + 1) _ _ (by omega) h2)
      simp only [spec_l02DivMod.l1]
      rw [if_pos (by omega), if_pos (by omega), if_pos (by omega), rdN]
      generalize ys.getD i 0 = u at *
      rw [wrapZ (2 * u) (by omega) (by omega), wrapZ (2 * u + c) (by omega) (by omega), Int.tdiv_eq_ediv_of_nonneg h3, Int.tmod_eq_emod_of_nonneg h3, Int.toNat_natCast, wrapZ ((2 * u + c) / 16777216) (by omega) (by omega), wrapZ ((i : Int) + 1) (by omega) (by omega)]
      rfl
  exact loop xs.length 0 xs d (by omega) (Db.start hx h0 h1)
theorem taking (xs q : List Int) (j : Int) (hx : Dig 16777216 xs) (hl : xs.length = (L Y).length + 1) (hm : (L Y).length ≤ 1000000) (hs : (Y : Int) ≤ val 16777216 xs)
    (h1 : 0 ≤ wrap64 (Int.tdiv j 24)) (h2 : wrap64 (Int.tdiv j 24) < (q.length : Int)) (h3 : 0 ≤ IntKind.u64.wrap (Int.tmod j 24))
    (hE : ∀ ys, Dig 16777216 ys → ys.length = (L Y).length + 1 → val 16777216 ys = val 16777216 xs - Y → Ev (fun k => spec_l02DivMod.l0 k ((L Y).length : Int) ys (q.set ((wrap64 (Int.tdiv j 24)) : Int).toNat (wrap64 ((rd q (wrap64 (Int.tdiv j 24))) + (shl .i64 1 (IntKind.u64.wrap (Int.tmod j 24)))))) (wrap64 (j - 1)) sa (L X) sb (L Y)) R) :
    Ev (fun k => spec_l02DivMod.l3 k ((L Y).length : Int) xs q j 0 0 sa (L X) sb (L Y)) R := by
  have hY2 : (Y : Int) = val 16777216 (L Y) := (L_val Y).symm
  have hend : ∀ (ys : List Int) (c : Int), Sb xs (L Y) xs.length ys c → Ev (fun k => spec_l02DivMod.l3 k ((L Y).length : Int) ys q j c (xs.length : Int) sa (L X) sb (L Y)) R := by
    intro ys c h
    have hlen := h.len
    have hd := h.done (by rw [hl]; exact Nat.le_succ _) (by rw [← hY2]; exact hs)
    refine Ev.step (fun k => ?_) (hE ys h.dig (by rw [hlen]; exact hl) (by rw [hY2]; exact hd))
    simp only [spec_l02DivMod.l3]
    rw [if_neg (by rw [hl]; clear hE h1 h2 h3 hd h hs hY2; omega), if_pos h1, if_pos h2, if_pos h3]
  clear hE h1 h2 h3
  have loop : ∀ (m i : Nat) (ys : List Int) (c : Int), i + m = xs.length → Sb xs (L Y) i ys c → Ev (fun k => spec_l02DivMod.l3 k ((L Y).length : Int) ys q j c (i : Int) sa (L X) sb (L Y)) R := by
    intro m
    induction m with
    | zero =>
      intro i ys c hi h
      have hlen := h.len
      obtain rfl : i = xs.length := by omega
      exact hend ys c h
    | succ m ih =>
      intro i ys c hi h
      clear hend
      have hlen := h.len
      have hc := h.fr
      have cB : ((16777216 : Nat) : Int) = 16777216 := rfl
      have hyi := h.dig.all0 (by decide) i
      have hbi := (L_dig Y).all0 (by decide) i
      rw [cB] at hyi hbi
      by_cases hi2 : i < (L Y).length
      · by_cases hn : ys.getD i 0 - c - (L Y).getD i 0 < 0
        · obtain ⟨g2, g3, g4⟩ := h.step (L_dig Y) (by omega) rfl (.inl ⟨hn, rfl, rfl⟩)
          refine Ev.step (f := fun k => spec_l02DivMod.l3 k ((L Y).length : Int) (ys.set i (ys.getD i 0 - c - (L Y).getD i 0 + 16777216)) q j 1 ((i + 1 : Nat) : Int) sa (L X) sb (L Y)) (fun k => ?_) (ih (i + 1) _ _ (by omega) g2)
          simp only [spec_l02DivMod.l3]
          rw [if_pos (by omega), if_pos (by omega), if_pos (by omega), if_pos (by omega), if_pos (by omega), rdN, rdN]
          generalize ys.getD i 0 = u at *
          generalize (L Y).getD i 0 = v at *
          rw [wrapZ (u - c) (by omega) (by omega), wrapZ (u - c - v) (by omega) (by omega), if_pos hn, wrapZ (u - c - v + 16777216) (by omega) (by omega), Int.toNat_natCast, wrapZ ((i : Int) + 1) (by omega) (by omega)]
          rfl
        · obtain ⟨g2, g3, g4⟩ := h.step (L_dig Y) (by omega) rfl (.inr ⟨hn, rfl, rfl⟩)
          refine Ev.step (f := fun k => spec_l02DivMod.l3 k ((L Y).length : Int) (ys.set i (ys.getD i 0 - c - (L Y).getD i 0)) q j 0 ((i + 1 : Nat) : Int) sa (L X) sb (L Y)) (fun k => ?_) (ih (i + 1) _ _ (by omega) g2)
          simp only [spec_l02DivMod.l3]
          rw [if_pos (by omega), if_pos (by omega), if_pos (by omega), if_pos (by omega), if_pos (by omega), rdN, rdN]
          generalize ys.getD i 0 = u at *
          generalize (L Y).getD i 0 = v at *
          rw [wrapZ (u - c) (by omega) (by omega), wrapZ (u - c - v) (by omega) (by omega), if_neg hn, Int.toNat_natCast, wrapZ ((i : Int) + 1) (by omega) (by omega)]
          rfl
      · have hv0 : (L Y).getD i 0 = 0 := Dg.getD_ge (by omega)
        by_cases hn : ys.getD i 0 - c < 0
        · obtain ⟨g2, g3, g4⟩ := h.step (L_dig Y) (by omega) (x := ys.getD i 0 - c) (by omega) (.inl ⟨hn, rfl, rfl⟩)
          refine Ev.step (f := fun k => spec_l02DivMod.l3 k ((L Y).length : Int) (ys.set i (ys.getD i 0 - c + 16777216)) q j 1 ((i + 1 : Nat) : Int) sa (L X) sb (L Y)) (fun k => ?_) (ih (i + 1) _ _ (by omega) g2)
          simp only [spec_l02DivMod.l3]
          rw [if_pos (by omega), if_pos (by omega), if_pos (by omega), if_neg (by omega), rdN]
          generalize ys.getD i 0 = u at *
          rw [wrapZ (u - c) (by omega) (by omega), if_pos hn, wrapZ (u - c + 16777216) (by omega) (by omega), Int.toNat_natCast, wrapZ ((i : Int) + 1) (by omega) (by omega)]
          rfl
        · obtain ⟨g2, g3, g4⟩ := h.step (L_dig Y) (by omega) (x := ys.getD i 0 - c) (by omega) (.inr ⟨hn, rfl, rfl⟩)
          refine Ev.step (f := fun k => spec_l02DivMod.l3 k ((L Y).length : Int) (ys.set i (ys.getD i 0 - c)) q j 0 ((i + 1 : Nat) : Int) sa (L X) sb (L Y)) (fun k => ?_) (ih (i + 1) _ _ (by omega) g2)
          simp only [spec_l02DivMod.l3]
          rw [if_pos (by omega), if_pos (by omega), if_pos (by omega), if_neg (by omega), rdN]
          generalize ys.getD i 0 = u at *
          rw [wrapZ (u - c) (by omega) (by omega), if_neg hn, Int.toNat_natCast, wrapZ ((i : Int) + 1) (by omega) (by omega)]
          rfl
  exact loop xs.length 0 xs 0 (by omega) (Sb.start hx)
theorem bitset {q : List Int} {Q j : Nat} (hq : Dig 16777216 q) (hv : val 16777216 q = ((Q * 2 ^ (j + 1) : Nat) : Int)) (hj : j / 24 < q.length) (hj2 : j ≤ 1000000) :
    ∃ y : Int, wrap64 (rd q (wrap64 (Int.tdiv (j : Int) 24)) + shl .i64 1 (IntKind.u64.wrap (Int.tmod (j : Int) 24))) = y ∧ Dig 16777216 (q.set (j / 24) y) ∧ val 16777216 (q.set (j / 24) y) = (((2 * Q + 1) * 2 ^ j : Nat) : Int) := by
  rw [td24 j (by omega), um24, rdN]
  have hr : j % 24 < 24 := Nat.mod_lt _ (by decide)
  have hj3 : j = 24 * (j / 24) + j % 24 := (Nat.div_add_mod j 24).symm
  obtain ⟨s1, s2, s3⟩ := shl24 (x := 1) (r := j % 24) (by decide) (by decide) (by omega)
  have hl := limb hq (j / 24) hv
  have hpow : (16777216 : Nat) ^ (j / 24) = 2 ^ (24 * (j / 24)) := by rw [Nat.pow_mul]
  have hd : Q * 2 ^ (j + 1) / 16777216 ^ (j / 24) = Q * 2 ^ (j % 24 + 1) := by
    rw [hpow, show j + 1 = (j % 24 + 1) + 24 * (j / 24) by omega, Nat.pow_add, ← Nat.mul_assoc, Nat.mul_div_cancel _ (Nat.pow_pos (by decide))]
  rw [hd] at hl
  have hm : Q * 2 ^ (j % 24 + 1) % 16777216 + 2 ^ (j % 24) < 16777216 := by
    have e : (16777216 : Nat) = 2 ^ (23 - j % 24) * 2 ^ (j % 24 + 1) := by rw [← Nat.pow_add, show 23 - j % 24 + (j % 24 + 1) = 24 by omega]
    rw [e, Nat.mul_mod_mul_right]
    have h1 : Q % 2 ^ (23 - j % 24) < 2 ^ (23 - j % 24) := Nat.mod_lt _ (Nat.pow_pos (by decide))
    have h2 : (Q % 2 ^ (23 - j % 24) + 1) * 2 ^ (j % 24 + 1) ≤ 2 ^ (23 - j % 24) * 2 ^ (j % 24 + 1) := Nat.mul_le_mul_right _ h1
    rw [Nat.add_mul, Nat.one_mul] at h2
    have h3 : (2 : Nat) ^ (j % 24 + 1) = 2 ^ (j % 24) * 2 := Nat.pow_succ _ _
    have h4 : 0 < (2 : Nat) ^ (j % 24) := Nat.pow_pos (by decide)
    omega
  have hp24 : (1 : Int) * 2 ^ (j % 24) = ((2 ^ (j % 24) : Nat) : Int) := by rw [Int.one_mul, Int.natCast_pow]; rfl
  have hw : wrap64 (q.getD (j / 24) 0 + shl .i64 1 ((j % 24 : Nat) : Int)) = q.getD (j / 24) 0 + ((2 ^ (j % 24) : Nat) : Int) := by
    rw [s1, hp24, hl, wrapZ _ (by omega) (by omega)]
  refine ⟨_, hw, hq.set _ (by rw [hl]; omega) (by rw [hl]; show _ < (16777216 : Int); omega), ?_⟩
  rw [val_set hj, hv, show q.getD (j / 24) 0 + ((2 ^ (j % 24) : Nat) : Int) - q.getD (j / 24) 0 = ((2 ^ (j % 24) : Nat) : Int) by omega]
  have e1 : ((16777216 : Nat) : Int) ^ (j / 24) * ((2 ^ (j % 24) : Nat) : Int) = ((2 ^ j : Nat) : Int) := by
    rw [← Int.natCast_pow, ← Int.natCast_mul, hpow, ← Nat.pow_add, ← hj3]
  rw [e1, ← Int.natCast_add, Nat.pow_succ]
  congr 1
  rw [Nat.add_mul, Nat.one_mul, Nat.mul_comm 2 Q, Nat.mul_assoc, Nat.mul_comm 2]
theorem rounds (hsa : -1 ≤ sa ∧ sa ≤ 1) (hsb : -1 ≤ sb ∧ sb ≤ 1) (hX : bl X ≤ 900000) (hYb : bl Y ≤ 900000) (hY : Y ≠ 0) : ∀ (t : Nat) (xs q : List Int) (Q r : Nat), t ≤ bl X → Dig 16777216 xs → xs.length = (L Y).length + 1 → val 16777216 xs = (r : Int) → Dig 16777216 q → q.length = (L X).length → val 16777216 q = ((Q * 2 ^ t : Nat) : Int) → X / 2 ^ t = Q * Y + r → r < Y →
    Ev (fun k => spec_l02DivMod.l0 k ((L Y).length : Int) xs q ((t : Int) - 1) sa (L X) sb (L Y)) ((smk (sa * sb) (X / Y)).1, (smk (sa * sb) (X / Y)).2, (smk sa (X % Y)).1, (smk sa (X % Y)).2) := by
  have hm := L_len Y
  have hmx := L_len X
  intro t
  induction t with
  | zero =>
    intro xs q Q r ht hx hxl hxv hq hql hqv he hr
    rw [Nat.pow_zero, Nat.div_one] at he
    rw [Nat.pow_zero, Nat.mul_one] at hqv
    have e1 : X / Y = Q := by rw [he, Nat.mul_comm, Nat.mul_add_div (by omega), Nat.div_eq_of_lt hr, Nat.add_zero]
    have e2 : X % Y = r := by rw [he, Nat.mul_comm, Nat.mul_add_mod, Nat.mod_eq_of_lt hr]
    rw [e1, e2]
    have h1 := smake (sa * sb) q hq (by omega)
    have h2 := smake sa xs hx (by omega)
    rw [hqv, Int.toNat_natCast] at h1
    rw [hxv, Int.toNat_natCast] at h2
    refine Ev.step (f := fun k => (spec_l02Make.f k (sa * sb) q).bind fun bt468 => ((spec_l02Make.f k sa xs).bind fun bt472 => (some (bt468.1, bt468.2, bt472.1, bt472.2)))) (fun k => ?_) (Ev.bind (f := fun k t => _) h1 (Ev.bind (f := fun k t => _) h2 (ev_of fun _ => rfl)))
    have hsm : wrap64 (sa * sb) = sa * sb := by
      have : -1 ≤ sa * sb ∧ sa * sb ≤ 1 := by
        rcases (show sa = -1 ∨ sa = 0 ∨ sa = 1 by omega) with h | h | h <;> subst h <;> omega
      exact wrapZ _ (by omega) (by omega)
    simp only [spec_l02DivMod.l0]
    rw [if_neg (by omega), hsm]
  | succ t ih =>
    intro xs q Q r ht hx hxl hxv hq hql hqv he hr
    have hbit := sbit sa X t (by omega) (by omega)
    have hd2 : X / 2 ^ t % 2 < 2 := Nat.mod_lt _ (by decide)
    have hdd : X / 2 ^ t = 2 * (X / 2 ^ (t + 1)) + X / 2 ^ t % 2 := by
      rw [Nat.pow_succ, ← Nat.div_div_eq_div_mul]; omega
    have hw := Lib.hid (show wrap64 ((t : Int) - 1) = (t : Int) - 1 from wrapZ _ (by omega) (by omega))
    generalize hd : X / 2 ^ t % 2 = d at *
    refine Ev.step (f := fun k => spec_l02DivMod.l1 k ((L Y).length : Int) xs q (t : Int) (d : Int) 0 sa (L X) sb (L Y)) (fun k => ?_) ?_
    · simp only [spec_l02DivMod.l0]
      rw [show ((t + 1 : Nat) : Int) - 1 = (t : Int) by omega, if_pos (by omega), hbit]
      rfl
    refine doubling xs q (t : Int) (d : Int) hx hxl hY (by omega) (by omega) (by omega) (by omega) ?_
    intro ys hy hyl hyv
    by_cases hlt : 2 * r + d < Y
    · rw [decide_eq_true (by omega)]
      refine Ev.step (f := fun k => spec_l02DivMod.l0 k ((L Y).length : Int) ys q ((t : Int) - 1) sa (L X) sb (L Y)) (fun k => ?_) (ih ys q (2 * Q) (2 * r + d) (by omega) hy hyl (by omega) hq hql ?_ ?_ hlt)
      · simp only [spec_l02DivMod.j4]
        rw [if_pos trivial, hw.out]
      · rw [hqv, Nat.pow_succ, Nat.mul_comm 2 Q, Nat.mul_assoc, Nat.mul_comm 2]
      · rw [hdd, he, Nat.mul_add, Nat.mul_assoc]; omega
    · rw [decide_eq_false (by omega)]
      have hjl : t / 24 < q.length := by
        have := L_bl X
        rw [hql]
        omega
      obtain ⟨y, hy1', hy2, hy3⟩ := bitset hq hqv hjl (by omega)
      have hy1 := Lib.hid hy1'
      have htd := Lib.hid (td24 t (by omega))
      clear hy1'
      refine Ev.step (f := fun k => spec_l02DivMod.l3 k ((L Y).length : Int) ys q (t : Int) 0 0 sa (L X) sb (L Y)) (fun k => ?_) (taking ys q (t : Int) hy hyl (by omega) (by omega) (by rw [htd.out]; omega) (by rw [htd.out]; omega) (by rw [um24]; omega) ?_)
      · simp only [spec_l02DivMod.j4]
        rw [if_neg (by simp)]
      intro zs hz hzl hzv
      rw [hy1.out, htd.out, Int.toNat_natCast, hw.out]
      refine ih zs _ (2 * Q + 1) (2 * r + d - Y) (by omega) hz hzl (by omega) hy2 (by simpa using hql) hy3 ?_ (by omega)
      rw [hdd, he, Nat.mul_add, Nat.add_mul, Nat.one_mul, Nat.mul_assoc]
      omega
theorem sdivmod (hsa : -1 ≤ sa ∧ sa ≤ 1) (hsb : -1 ≤ sb ∧ sb ≤ 1) (hX : bl X ≤ 900000) (hYb : bl Y ≤ 900000) (hY : Y ≠ 0) :
    Ev (fun k => spec_l02DivMod.f k sa (L X) sb (L Y)) ((smk (sa * sb) (X / Y)).1, (smk (sa * sb) (X / Y)).2, (smk sa (X % Y)).1, (smk sa (X % Y)).2) := by
  have hm := L_len Y
  have hmx := L_len X
  unfold spec_l02DivMod.f
  have e1 : wrap64 (((L Y).length : Int) + 1) = (((L Y).length + 1 : Nat) : Int) := by rw [wrapZ _ (by omega) (by omega)]; rfl
  rw [e1, Int.toNat_natCast, Int.toNat_natCast]
  refine ifp (by omega) (ifp (by omega) (ifp (by omega) (ifp (by omega) ?_)))
  refine Ev.bind (f := fun k t => _) (slength sa X (by omega)) ?_
  have := rounds (sa := sa) (sb := sb) hsa hsb hX hYb hY (bl X) (List.replicate ((L Y).length + 1) 0) (List.replicate (L X).length 0) 0 0 (Nat.le_refl _) (dig_replicate (by decide) _) (by simp) (val_zeros _) (dig_replicate (by decide) _) (by simp) (by rw [val_zeros, Nat.zero_mul]; rfl) (by rw [Nat.div_eq_of_lt (lt_bl X)]; omega) (by omega)
  rw [wrapZ ((bl X : Int) - 1) (by omega) (by omega)]
  exact this
end Go.Proofs.Ythanlckjfghnkaa.Tw
end
