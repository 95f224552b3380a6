/- Lemmas of the claim: Sm, Qb. -/
import Derived.Test.YtdboepiobaehkaaQmudf
import Derived.Test.YtdboepiobaehkaaQmudh
section
namespace Go.Proofs.Ytdboepiobaehkaa.Sm
open Go.RowKit Go.Proofs.YtdboepiobaehkaaW.PrintWords Go.Proofs.Ytdboepiobaehkaa.PW Go.Proofs.Ytdboepiobaehkaa.Pb Go.Proofs.Ytdboepiobaehkaa.Pc Go.Proofs.Ytdboepiobaehkaa.Pm Go.Proofs.Ytdboepiobaehkaa.Pw Go.Proofs.Ytdboepiobaehkaa.Px Go.Proofs.Ytdboepiobaehkaa.Pt Go.Proofs.Ytdboepiobaehkaa.Pz Dg
set_option linter.unusedVariables false
set_option linter.unusedSimpArgs false
section
variable (s0 s1 : Int) (a b : List Int) (ha : Dig 16777216 a) (hb : Dig 16777216 b) (hm : a.length + b.length ≤ 1073741824)
include ha hb hm
theorem mul_inner (i : Nat) (hi : i < a.length) (R : Int × List Int) (V0 : Int)
    (next : ∀ ys : List Int, ys.length = a.length + b.length + 1 → Dig 16777216 ys → (∀ j, i + 1 + b.length ≤ j → ys.getD j 0 = 0) → val 16777216 ys = V0 + 16777216 ^ i * (a.getD i 0 * val 16777216 b) →
      Ev (fun k => spec_l02Mul.l0 k ys ((i + 1 : Nat) : Int) s0 a s1 b) R) (d : Nat) :
    ∀ (k : Nat) (ys : List Int) (c : Int), k + d = b.length → ys.length = a.length + b.length + 1 → Dig 16777216 ys → 0 ≤ c → c < 16777216 → (∀ j, i + b.length ≤ j → ys.getD j 0 = 0) →
      val 16777216 ys + 16777216 ^ (i + k) * c = V0 + 16777216 ^ i * (a.getD i 0 * val 16777216 (b.take k)) →
      Ev (fun n => spec_l02Mul.l1 n ys (i : Int) c (k : Int) s0 a s1 b) R := by
  induction d with
  | zero =>
    intro k ys c hd hy hdy hc0 hc1 hz hinv
    have hk : k = b.length := by omega
    subst hk
    have hz1 := hz (i + b.length) (by omega)
    refine Ev.step (f := fun n => spec_l02Mul.l0 n (ys.set (i + b.length) c) ((i + 1 : Nat) : Int) s0 a s1 b) (fun n => ?_) (next _ (by simpa using hy) (hdy.set _ hc0 (by omega)) (fun j hj => ?_) ?_)
    · simp only [spec_l02Mul.l1]
      rw [if_neg (by omega), wrapZ ((i : Int) + (b.length : Int)) (by omega) (by omega), if_pos (by omega), if_pos (by omega), wrapZ _ (by omega) (by omega), show ((i : Int) + (b.length : Int)).toNat = i + b.length by omega]
      rfl
    · rw [Dg.getD_set_ne (by omega)]; exact hz j (by omega)
    · rw [val_set (by omega), hz1, Int.sub_zero]
      rw [List.take_length] at hinv
      exact hinv
  | succ d ih =>
    intro k ys c hd hy hdy hc0 hc1 hz hinv
    have hai := ha.all0 (by decide) i
    have hbk := hb.all0 (by decide) k
    have hyk := hdy.all0 (by decide) (i + k)
    have hp0 : 0 ≤ a.getD i 0 * b.getD k 0 := Int.mul_nonneg hai.1 hbk.1
    have hp1 : a.getD i 0 * b.getD k 0 ≤ 16777215 * 16777215 := Int.mul_le_mul (by omega) (by omega) hbk.1 (by omega)
    obtain ⟨x, hx⟩ : ∃ x, x = c + ys.getD (i + k) 0 + a.getD i 0 * b.getD k 0 := ⟨_, rfl⟩
    refine Ev.step (f := fun n => spec_l02Mul.l1 n (ys.set (i + k) (x % 16777216)) (i : Int) (x / 16777216) ((k + 1 : Nat) : Int) s0 a s1 b) (fun n => ?_)
      (ih (k + 1) _ _ (by omega) (by simpa using hy) (hdy.set _ (by omega) (by omega)) (by omega) (by omega) (fun j hj => ?_) ?_)
    · simp only [spec_l02Mul.l1]
      rw [if_pos (by omega), wrapZ ((i : Int) + (k : Int)) (by omega) (by omega), if_pos (by omega), if_pos (by omega), if_pos (by omega), if_pos (by omega), if_pos (by omega), rdN, rdN, show (i : Int) + (k : Int) = ((i + k : Nat) : Int) by omega, rdN,
        wrapZ (c + _) (by omega) (by omega), wrapZ (a.getD i 0 * b.getD k 0) (by omega) (by omega), ← hx, wrapZ x (by omega) (by omega), Int.tmod_eq_emod_of_nonneg (by omega), Int.tdiv_eq_ediv_of_nonneg (by omega), wrapZ (x / 16777216) (by omega) (by omega), wrapZ ((k : Int) + 1) (by omega) (by omega), Int.toNat_natCast]
      rfl
    · rw [Dg.getD_set_ne (by omega)]; exact hz j hj
    · rw [val_set (by omega), val_take_succ' b k, show i + (k + 1) = (i + k) + 1 by omega, Int.pow_succ]
      rw [Int.pow_add] at hinv
      have h1 : x = x % 16777216 + 16777216 * (x / 16777216) := by omega
      have e : ((16777216 : Nat) : Int) = 16777216 := rfl
      rw [e, Int.pow_add]
      generalize (16777216 : Int) ^ i = P at *
      generalize (16777216 : Int) ^ k = Q at *
      generalize x % 16777216 = lo at *
      generalize x / 16777216 = hi' at *
      generalize ys.getD (i + k) 0 = yk at *
      generalize a.getD i 0 = ai at *
      generalize b.getD k 0 = bk at *
      generalize val 16777216 ys = Vy at *
      generalize val 16777216 (b.take k) = Vb at *
      clear ih next hp1 hp0
      grind
theorem mul_loop (hs0 : -1 ≤ s0 ∧ s0 ≤ 1) (hs1 : -1 ≤ s1 ∧ s1 ≤ 1) (s : Nat) (hs : val 16777216 a * val 16777216 b = s) (d : Nat) :
    ∀ (i : Nat) (ys : List Int), i + d = a.length → ys.length = a.length + b.length + 1 → Dig 16777216 ys → (∀ j, i + b.length ≤ j → ys.getD j 0 = 0) →
      val 16777216 ys = val 16777216 (a.take i) * val 16777216 b →
      Ev (fun k => spec_l02Mul.l0 k ys (i : Int) s0 a s1 b) (smk (s0 * s1) s) := by
  induction d with
  | zero =>
    intro i ys hd hy hdy hz hinv
    have hi : i = a.length := by omega
    subst hi
    rw [List.take_length, hs] at hinv
    have hss : -1 ≤ s0 * s1 ∧ s0 * s1 ≤ 1 := by
      rcases (show s0 = -1 ∨ s0 = 0 ∨ s0 = 1 by omega) with rfl | rfl | rfl <;> omega
    have hmk := smake (s0 * s1) ys hdy (by omega)
    rw [hinv, Int.toNat_natCast] at hmk
    refine Ev.step (f := fun k => (spec_l02Make.f k (wrap64 (s0 * s1)) ys).bind fun bt => (some (bt.1, bt.2))) (fun k => ?_) ?_
    · simp only [spec_l02Mul.l0]
      rw [if_neg (by omega)]
    · rw [wrapZ _ (by omega) (by omega)]
      exact Ev.bind (f := fun k t => _) hmk (ev_of fun _ => rfl)
  | succ d ih =>
    intro i ys hd hy hdy hz hinv
    have h1 := mul_inner s0 s1 a b ha hb hm i (by omega) (smk (s0 * s1) s) (val 16777216 (a.take i) * val 16777216 b) (fun ys' h1 h2 h3 h4 => ih (i + 1) ys' (by omega) h1 h2 h3 (by
      rw [h4, val_take_succ' a i]
      have e : ((16777216 : Nat) : Int) = 16777216 := rfl
      rw [e]
      generalize (16777216 : Int) ^ i = P
      grind)) b.length 0 ys 0 (by omega) hy hdy (by omega) (by omega) hz (by rw [hinv, List.take_zero, val_nil]; simp)
    refine Ev.step (f := fun n => spec_l02Mul.l1 n ys (i : Int) 0 0 s0 a s1 b) (fun n => ?_) h1
    simp only [spec_l02Mul.l0]
    rw [if_pos (by omega)]
end
theorem sgn_mul (x y : Int) : sgn x * sgn y = sgn (x * y) := by
  have hz : ∀ z : Int, (0 < z → sgn z = 1) ∧ (z < 0 → sgn z = -1) := fun z => ⟨fun h => by unfold sgn; rw [if_neg (by omega), if_neg (by omega)], fun h => by unfold sgn; rw [if_pos h]⟩
  rcases Int.lt_trichotomy x 0 with h | h | h
  · rcases Int.lt_trichotomy y 0 with k | k | k
    · rw [(hz x).2 h, (hz y).2 k, (hz _).1 (Int.mul_pos_of_neg_of_neg h k)]; rfl
    · subst k; rw [Int.mul_zero]; simp [sgn]
    · rw [(hz x).2 h, (hz y).1 k, (hz _).2 (Int.mul_neg_of_neg_of_pos h k)]; rfl
  · subst h; rw [Int.zero_mul]; simp [sgn]
  · rcases Int.lt_trichotomy y 0 with k | k | k
    · rw [(hz x).1 h, (hz y).2 k, (hz _).2 (Int.mul_neg_of_pos_of_neg h k)]; rfl
    · subst k; rw [Int.mul_zero]; simp [sgn]
    · rw [(hz x).1 h, (hz y).1 k, (hz _).1 (Int.mul_pos h k)]; rfl
theorem smul (x y : Int) (hx : bl x.natAbs ≤ 400000000) (hy : bl y.natAbs ≤ 400000000) : Ev (fun k => spec_l02Mul.f k (sgn x) (L x.natAbs) (sgn y) (L y.natAbs)) (sgn (x * y), L (x * y).natAbs) := by
  have lx := L_len x.natAbs
  have ly := L_len y.natAbs
  unfold spec_l02Mul.f
  rw [wrapZ (((L x.natAbs).length : Int) + ((L y.natAbs).length : Int)) (by omega) (by omega), wrapZ _ (by omega) (by omega)]
  refine ifp (by omega) (ifp (by omega) ?_)
  have := mul_loop (sgn x) (sgn y) (L x.natAbs) (L y.natAbs) (L_dig _) (L_dig _) (by omega) (sgn_range x) (sgn_range y) (x * y).natAbs (by rw [L_val, L_val, Int.natAbs_mul]; exact (Int.natCast_mul _ _).symm) (L x.natAbs).length 0
    (List.replicate (((L x.natAbs).length : Int) + ((L y.natAbs).length : Int) + 1).toNat 0) (by omega) (by simp <;> omega) (dig_replicate (by decide) _) (fun j _ => by simp [List.getD, List.getElem?_replicate]; split <;> rfl) (by simp [val, val_zeros])
  rw [sgn_mul, smk_sgn] at this
  exact this
end Go.Proofs.Ytdboepiobaehkaa.Sm
end
section
namespace Go.Proofs.Ytdboepiobaehkaa.Qb
end Go.Proofs.Ytdboepiobaehkaa.Qb
end
