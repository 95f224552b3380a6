/- Lemmas of the claim: Ss, Pv, Pzs, St. -/
import Derived.Test.YtdjdnllnhonjkaaQshfg
import Derived.Test.YtdjdnllnhonjkaaQshfh
import Derived.Test.YtdjdnllnhonjkaaQshfa
import Derived.Test.YtdjdnllnhonjkaaQshff
section
namespace Go.Proofs.Ytdjdnllnhonjkaa.Ss
open Go.RowKit Go.Proofs.YtdjdnllnhonjkaaW.PrintWords Go.Proofs.YtdjdnllnhonjkaaW.PrintMore Go.Proofs.Ytdjdnllnhonjkaa.PW Go.Proofs.Ytdjdnllnhonjkaa.Pb Go.Proofs.Ytdjdnllnhonjkaa.Pc Go.Proofs.Ytdjdnllnhonjkaa.Pm Go.Proofs.Ytdjdnllnhonjkaa.Pw Go.Proofs.Ytdjdnllnhonjkaa.Px Go.Proofs.Ytdjdnllnhonjkaa.Pt Go.Proofs.Ytdjdnllnhonjkaa.Pz Dg
set_option linter.unusedVariables false
set_option linter.unusedSimpArgs false
theorem i64_id {x : Int} (h0 : -9223372036854775808 ≤ x) (h1 : x ≤ 9223372036854775807) : IntKind.i64.wrap x = x := by rw [IntKind.wrap_i64]; omega
theorem td24 (n : Nat) (h : n ≤ 4611686018427387904) : wrap64 (Int.tdiv (n : Int) 24) = ((n / 24 : Nat) : Int) := by
  rw [Int.tdiv_eq_ediv_of_nonneg (by omega), wrapZ _ (by omega) (by omega)]; rfl
theorem tm24 (n : Nat) : Int.tmod (n : Int) 24 = ((n % 24 : Nat) : Int) := by
  rw [Int.tmod_eq_emod_of_nonneg (by omega)]; rfl
theorem um24 (n : Nat) : IntKind.u64.wrap (Int.tmod (n : Int) 24) = ((n % 24 : Nat) : Int) := by
  rw [tm24, IntKind.wrap_u64]; omega
theorem and_one (a : Nat) (h : a < 2 ^ 63) : bits .and .i64 (a : Int) 1 = ((a % 2 : Nat) : Int) := by
  have := (bits_nat .i64 63 (by decide) (fun n h0 h1 => i64_id (by omega) (by omega)) a 1 h (by decide)).1
  rw [Nat.and_one_is_mod] at this
  exact this
theorem pow_le24 {r : Nat} (h : r ≤ 24) : 1 ≤ (2 : Int) ^ r ∧ (2 : Int) ^ r ≤ 16777216 := by
  have h1 := Nat.pow_le_pow_right (n := 2) (by decide) h
  have h2 := Nat.two_pow_pos r
  have e : ((2 : Int) ^ r) = ((2 ^ r : Nat) : Int) := by simp
  rw [e]; omega
theorem shl24 {x : Int} {r : Nat} (h0 : 0 ≤ x) (h1 : x < 16777216) (hr : r ≤ 24) : shl .i64 x (r : Int) = x * 2 ^ r ∧ 0 ≤ x * 2 ^ r ∧ x * 2 ^ r ≤ 16777215 * 16777216 := by
  have hp := pow_le24 hr
  have h2 : x * 2 ^ r ≤ 16777215 * 16777216 := Int.mul_le_mul (by omega) hp.2 (by omega) (by omega)
  have h3 : 0 ≤ x * 2 ^ r := Int.mul_nonneg h0 (by omega)
  refine ⟨?_, h3, h2⟩
  unfold shl
  rw [Int.toNat_natCast, Nat.min_eq_left (by show r ≤ 64; omega), i64_id (by omega) (by omega)]
theorem shr24 {x : Int} {r : Nat} (hr : r ≤ 24) : shr .i64 x (r : Int) = x / 2 ^ r := by
  unfold shr
  rw [Int.toNat_natCast, Nat.min_eq_left (by show r ≤ 64; omega)]
theorem left_loop (s : Int) (a : List Int) (ha : Dig 16777216 a) (k : Nat) (hk : k ≤ 1073741824) (hm : a.length ≤ 1073741824) (hs : -1 ≤ s ∧ s ≤ 1) (S : Nat) (hS : val 16777216 a * 2 ^ (k % 24) * 16777216 ^ (k / 24) = S) (d : Nat) :
    ∀ (i : Nat) (ys : List Int) (c : Int), i + d = a.length → ys.length = k / 24 + i → Dig 16777216 ys → 0 ≤ c → c < 2 ^ (k % 24) →
      val 16777216 ys + 16777216 ^ (k / 24 + i) * c = val 16777216 (a.take i) * 2 ^ (k % 24) * 16777216 ^ (k / 24) →
      Ev (fun n => spec_l02Left.l0 n (k : Int) ys c (i : Int) s a) (smk s S) := by
  have hr : k % 24 ≤ 24 := by omega
  have hq : k / 24 ≤ 1073741824 := by omega
  have um := um24 k
  generalize k % 24 = r at *
  generalize k / 24 = q at *
  have hp := pow_le24 hr
  induction d with
  | zero =>
    intro i ys c hd hy hdy hc0 hc1 hinv
    have hi : i = a.length := by omega
    subst hi
    rw [List.take_length, hS] at hinv
    have hmk := smake s (ys ++ [c]) (hdy.append (Dig.cons hc0 (by omega) Dig.nil)) (by simp; omega)
    rw [val_snoc, hy] at hmk
    have e : ((16777216 : Nat) : Int) = 16777216 := rfl
    rw [e, hinv, Int.toNat_natCast] at hmk
    refine Ev.step (f := fun n => (spec_l02Make.f n s (ys ++ [c])).bind fun bt => (some (bt.1, bt.2))) (fun n => ?_) (Ev.bind (f := fun k t => _) hmk (ev_of fun _ => rfl))
    simp only [spec_l02Left.l0]
    rw [if_neg (by omega), if_pos (by omega)]
  | succ d ih =>
    intro i ys c hd hy hdy hc0 hc1 hinv
    have hai := ha.all0 (by decide) i
    obtain ⟨hs1, hs2, hs3⟩ := shl24 hai.1 hai.2 hr
    obtain ⟨x, hx⟩ : ∃ x, x = c + a.getD i 0 * 2 ^ r := ⟨_, rfl⟩
    have hxlt : x / 16777216 < 2 ^ r := by
      apply Int.ediv_lt_of_lt_mul (by decide)
      have : (a.getD i 0 + 1) * 2 ^ r ≤ 16777216 * 2 ^ r := Int.mul_le_mul_of_nonneg_right (by omega) (by omega)
      rw [Int.add_mul] at this
      rw [hx, Int.mul_comm (2 ^ r)]
      omega
    refine Ev.step (f := fun n => spec_l02Left.l0 n (k : Int) (ys ++ [x % 16777216]) (x / 16777216) ((i + 1 : Nat) : Int) s a) (fun n => ?_)
      (ih (i + 1) _ _ (by omega) (by simp; omega) (hdy.append (Dig.cons (by omega) (by omega) Dig.nil)) (by omega) hxlt ?_)
    · simp only [spec_l02Left.l0]
      rw [if_pos (by omega), if_pos (by omega), um, if_pos (by omega), if_pos (by omega), rdN, hs1, ← hx, wrapZ x (by omega) (by omega), Int.tmod_eq_emod_of_nonneg (by omega), Int.tdiv_eq_ediv_of_nonneg (by omega), wrapZ (x / 16777216) (by omega) (by omega), wrapZ ((i : Int) + 1) (by omega) (by omega)]
      rfl
    · rw [val_snoc, hy, val_take_succ' a i, show q + (i + 1) = q + i + 1 by omega, Int.pow_succ]
      have h1 : x = x % 16777216 + 16777216 * (x / 16777216) := by omega
      have e : ((16777216 : Nat) : Int) = 16777216 := rfl
      rw [e]
      rw [Int.pow_add] at hinv ⊢
      generalize (16777216 : Int) ^ i = P at *
      generalize (16777216 : Int) ^ q = Q at *
      generalize x % 16777216 = lo at *
      generalize x / 16777216 = hi' at *
      generalize a.getD i 0 = ai at *
      generalize (2 : Int) ^ r = R at *
      generalize val 16777216 ys = Vy at *
      generalize val 16777216 (a.take i) = Va at *
      clear ih hs1 hs2 hs3 um
      grind
theorem pow_split24 (k : Nat) : (2 : Int) ^ (k % 24) * 16777216 ^ (k / 24) = 2 ^ k := by
  rw [show (16777216 : Int) = 2 ^ 24 from rfl, ← Int.pow_mul, ← Int.pow_add]
  congr 1
  omega
theorem sgn_pow (x : Int) (k : Nat) : sgn (x * 2 ^ k) = sgn x := by
  have hp : (0 : Int) < 2 ^ k := Int.pow_pos (by decide)
  unfold sgn
  rcases Int.lt_trichotomy x 0 with h | h | h
  · rw [if_pos h, if_pos (Int.mul_neg_of_neg_of_pos h hp)]
  · subst h; simp
  · have := Int.mul_pos h hp
    rw [if_neg (by omega), if_neg (by omega), if_neg (by omega), if_neg (by omega)]
theorem sleft (x : Int) (k : Nat) (hx : bl x.natAbs ≤ 1073741824) (hk : k ≤ 1073741824) : Ev (fun n => spec_l02Left.f n (sgn x) (L x.natAbs) (k : Int)) (sgn (x * 2 ^ k), L (x * 2 ^ k).natAbs) := by
  have lx := L_len x.natAbs
  unfold spec_l02Left.f
  rw [td24 k (by omega)]
  refine ifp (by omega) (ifp (by omega) ?_)
  have := left_loop (sgn x) (L x.natAbs) (L_dig _) k hk (by omega) (sgn_range x) (x * 2 ^ k).natAbs (by
    rw [L_val, Int.mul_assoc, pow_split24, Int.natAbs_mul, Int.natCast_mul]
    have hp : (0 : Int) < 2 ^ k := Int.pow_pos (by decide)
    rw [Int.natAbs_of_nonneg (Int.le_of_lt hp)]) (L x.natAbs).length 0 (List.replicate ((k / 24 : Nat) : Int).toNat 0) 0 (by omega) (by rw [List.length_replicate, Int.toNat_natCast]; rfl) (dig_replicate (by decide) _) (by decide) (Int.pow_pos (by decide)) (by rw [List.take_zero, val_nil, val_zeros]; simp)
  rw [← sgn_pow x k, smk_sgn] at this
  rw [← sgn_pow x k]
  exact this
theorem sbit (s : Int) (n k : Nat) (hn : bl n ≤ 1073741824) (hk : k ≤ 1073741824) : spec_l02Bit.f s (L n) (k : Int) = some ((n / 2 ^ k % 2 : Nat) : Int) := by
  have ln := L_len n
  have hpow : (2 : Nat) ^ k = 16777216 ^ (k / 24) * 2 ^ (k % 24) := by
    rw [show (16777216 : Nat) = 2 ^ 24 from rfl, ← Nat.pow_mul, ← Nat.pow_add]
    congr 1
    omega
  unfold spec_l02Bit.f
  rw [td24 k (by omega), um24]
  by_cases h : (L n).length ≤ k / 24
  · rw [if_pos (by omega)]
    have h1 : n < 16777216 ^ (L n).length := lt_of_dg_length _
    have h2 := Nat.pow_le_pow_right (n := 16777216) (by decide) h
    rw [hpow, ← Nat.div_div_eq_div_mul, Nat.div_eq_of_lt (Nat.lt_of_lt_of_le h1 h2), Nat.zero_div]
    rfl
  · rw [if_neg (by omega), if_pos (by omega), if_pos (by omega), if_pos (by omega), rdN, L_getD, shr24 (by omega)]
    congr 1
    have hpw : ((2 : Int) ^ (k % 24)) = ((2 ^ (k % 24) : Nat) : Int) := by simp
    rw [hpw]
    have hb := and_one (n / 16777216 ^ (k / 24) % 16777216 / 2 ^ (k % 24)) (Nat.lt_of_le_of_lt (Nat.div_le_self _ _) (Nat.lt_of_lt_of_le (Nat.mod_lt _ (by decide)) (by decide)))
    rw [show (((n / 16777216 ^ (k / 24) % 16777216 : Nat) : Int) / ((2 ^ (k % 24) : Nat) : Int)) = ((n / 16777216 ^ (k / 24) % 16777216 / 2 ^ (k % 24) : Nat) : Int) from rfl, hb, bit_limb _ _ (by omega), Nat.div_div_eq_div_mul, ← hpow]
theorem stwos_loop (s : Int) (n : Nat) (hn : bl n ≤ 1073741824) (h0 : n ≠ 0) (d : Nat) : ∀ k : Nat, k + d = tz n → Ev (fun m => spec_l02Twos.l0 m (k : Int) s (L n)) ((tz n : Nat) : Int) := by
  have hb := tz_lt h0
  induction d with
  | zero =>
    intro k hk
    obtain rfl : k = tz n := by omega
    refine Ev.step (f := fun _ => some ((tz n : Nat) : Int)) (fun m => ?_) (ev_of fun _ => rfl)
    simp only [spec_l02Twos.l0]
    rw [sbit s n (tz n) hn (by omega), Option.bind_some, if_neg (by have := tz_odd h0; omega)]
  | succ d ih =>
    intro k hk
    refine Ev.step (f := fun m => spec_l02Twos.l0 m ((k + 1 : Nat) : Int) s (L n)) (fun m => ?_) (ih (k + 1) (by omega))
    simp only [spec_l02Twos.l0]
    rw [sbit s n k hn (by omega), Option.bind_some, if_pos (by have := tz_even (n := n) (k := k) (by omega); omega), wrapZ ((k : Int) + 1) (by omega) (by omega)]
    rfl
theorem stwos (s : Int) (n : Nat) (hn : bl n ≤ 1073741824) (h0 : n ≠ 0) : Ev (fun m => spec_l02Twos.f m s (L n)) ((tz n : Nat) : Int) := by
  unfold spec_l02Twos.f
  exact stwos_loop s n hn h0 (tz n) 0 (by omega)
theorem cut_loop (s : Int) (n k : Nat) (hk : k ≤ 1073741824) (hn : bl n ≤ 1073741824) (d : Nat) :
    ∀ (j : Nat) (ys : List Int), k / 24 + j + d = (L n).length → ys.length = j → (∀ i, i < j → ys.getD i 0 = ((n / 2 ^ k / 16777216 ^ i % 16777216 : Nat) : Int)) →
      Ev (fun m => spec_l02Cut.l0 m (k : Int) ys ((k / 24 + j : Nat) : Int) s (L n)) (smk s (n / 2 ^ k)) := by
  have ln := L_len n
  have hr : k % 24 < 24 := by omega
  have um := um24 k
  have tm := tm24 k
  have hlt : n < 16777216 ^ (L n).length := lt_of_dg_length _
  have hpow : (2 : Nat) ^ k = 16777216 ^ (k / 24) * 2 ^ (k % 24) := by
    rw [show (16777216 : Nat) = 2 ^ 24 from rfl, ← Nat.pow_mul, ← Nat.pow_add]
    congr 1
    omega
  have hpw : ∀ r : Nat, ((2 : Int) ^ r) = ((2 ^ r : Nat) : Int) := fun r => by simp
  generalize hrr : k % 24 = r at *
  generalize hqq : k / 24 = q at *
  induction d with
  | zero =>
    intro j ys hd hy hdig
    have hv := val_digits (by decide) ys (n / 2 ^ k) (fun i hi => hdig i (by omega))
    have hlt2 : n / 2 ^ k < 16777216 ^ ys.length := by
      rw [hpow, ← Nat.div_div_eq_div_mul]
      refine Nat.lt_of_le_of_lt (Nat.div_le_self _ _) ?_
      apply Nat.div_lt_of_lt_mul
      rw [← Nat.pow_add, hy, show q + j = (L n).length by omega]
      exact hlt
    rw [Nat.mod_eq_of_lt hlt2] at hv
    have hdy : Dig 16777216 ys := dig_of_getD fun i hi => by
      rw [hdig i (by omega)]
      have := Nat.mod_lt (n / 2 ^ k / 16777216 ^ i) (show 0 < 16777216 by decide)
      omega
    have hmk := smake s ys hdy (by omega)
    rw [hv, Int.toNat_natCast] at hmk
    refine Ev.step (f := fun m => (spec_l02Make.f m s ys).bind fun bt => (some (bt.1, bt.2))) (fun m => ?_) (Ev.bind (f := fun k t => _) hmk (ev_of fun _ => rfl))
    simp only [spec_l02Cut.l0]
    rw [if_neg (by omega)]
  | succ d ih =>
    intro j ys hd hy hdig
    have hai : (L n).getD (q + j) 0 = ((n / 16777216 ^ (q + j) % 16777216 : Nat) : Int) := L_getD n (q + j)
    have haj : (L n).getD (q + j + 1) 0 = ((n / 16777216 ^ (q + j) / 16777216 % 16777216 : Nat) : Int) := by rw [L_getD, Nat.pow_succ, Nat.div_div_eq_div_mul]
    obtain ⟨X, hX⟩ : ∃ X, X = n / 16777216 ^ (q + j) := ⟨_, rfl⟩
    rw [← hX] at hai haj
    have hX3 : n / 2 ^ k / 16777216 ^ j = X / 2 ^ r := by
      rw [hX, hpow, Nat.div_div_eq_div_mul, Nat.div_div_eq_div_mul, Nat.pow_add]
      congr 1
      rw [Nat.mul_assoc, Nat.mul_comm (2 ^ r), Nat.mul_assoc]
    have hcd := cut_digit X r (by omega)
    have hXm := Nat.mod_lt X (show 0 < 16777216 by decide)
    have hXn := Nat.mod_lt (X / 16777216) (show 0 < 16777216 by decide)
    obtain ⟨v, hv⟩ : ∃ v : Nat, v = X / 2 ^ r % 16777216 := ⟨_, rfl⟩
    rw [← hv] at hcd
    refine Ev.step (f := fun m => spec_l02Cut.l0 m (k : Int) (ys ++ [(v : Int)]) ((q + (j + 1) : Nat) : Int) s (L n)) (fun m => ?_) (ih (j + 1) _ (by omega) (by simp; omega) (fun i hi => ?_))
    · simp only [spec_l02Cut.l0]
      rw [if_pos (by omega), if_pos (by omega), um, if_pos (by omega), wrapZ (((q + j : Nat) : Int) + 1) (by omega) (by omega), rdN, hai, shr24 (by omega), hpw]
      have hsm : ((X % 16777216 : Nat) : Int) / ((2 ^ r : Nat) : Int) = ((X % 16777216 / 2 ^ r : Nat) : Int) := rfl
      have hle := Nat.div_le_self (X % 16777216) (2 ^ r)
      rw [hsm]
      by_cases hj : q + j + 1 < (L n).length
      · have e24 : IntKind.u64.wrap (wrap64 (24 - Int.tmod (k : Int) 24)) = ((24 - r : Nat) : Int) := by rw [tm, wrapZ _ (by omega) (by omega), IntKind.wrap_u64]; omega
        obtain ⟨h1, h2, h3⟩ := shl24 (x := ((X / 16777216 % 16777216 : Nat) : Int)) (r := 24 - r) (by omega) (by omega) (by omega)
        rw [if_pos (by omega), if_pos (by omega), e24, if_pos (by omega), if_pos (by omega), show ((q + j : Nat) : Int) + 1 = ((q + j + 1 : Nat) : Int) by omega, rdN, haj, h1]
        have hw : (X % 16777216 / 2 ^ r : Nat) ≤ 16777215 := by omega
        have e : (((X % 16777216 / 2 ^ r : Nat) : Int) + ((X / 16777216 % 16777216 : Nat) : Int) * 2 ^ (24 - r)) % 16777216 = (v : Int) := by
          rw [hpw, ← hcd]; rfl
        have hs0 : 0 ≤ ((X % 16777216 / 2 ^ r : Nat) : Int) + ((X / 16777216 % 16777216 : Nat) : Int) * 2 ^ (24 - r) := Int.add_nonneg (Int.natCast_nonneg _) h2
        have hs1 : ((X % 16777216 / 2 ^ r : Nat) : Int) + ((X / 16777216 % 16777216 : Nat) : Int) * 2 ^ (24 - r) ≤ 16777215 + 16777215 * 16777216 := Int.add_le_add (Int.ofNat_le.2 hw) h3
        rw [wrapZ _ (Int.le_trans (by decide) hs0) (Int.le_trans hs1 (by decide)), Int.tmod_eq_emod_of_nonneg hs0, e]
        rfl
      · have h0 : (L n).getD (q + j + 1) 0 = 0 := getD_ge (by omega)
        rw [haj] at h0
        have h1 : X / 16777216 % 16777216 = 0 := by omega
        rw [h1, Nat.zero_mul, Nat.add_zero, Nat.mod_eq_of_lt (by omega)] at hcd
        rw [if_neg (by omega), if_pos (by omega), hcd]
        rfl
    · by_cases hij : i < j
      · rw [getD_lt (by simp; omega), List.getElem_append_left (by omega), ← getD_lt]
        exact hdig i hij
      · obtain rfl : i = j := by omega
        rw [hX3, ← hv, getD_lt (by simp; omega)]
        simp [hy]
theorem scut (s : Int) (n k : Nat) (hn : bl n ≤ 1073741824) (hk : k ≤ 1073741824) : Ev (fun m => spec_l02Cut.f m s (L n) (k : Int)) (smk s (n / 2 ^ k)) := by
  have ln := L_len n
  unfold spec_l02Cut.f
  rw [td24 k (by omega)]
  by_cases h : k / 24 ≤ (L n).length
  · exact cut_loop s n k hk hn ((L n).length - k / 24) 0 [] (by omega) rfl (fun i hi => by omega)
  · have h1 : n < 16777216 ^ (L n).length := lt_of_dg_length _
    have h2 := Nat.pow_le_pow_right (n := 16777216) (by decide) (show (L n).length ≤ k / 24 by omega)
    have hpow : (2 : Nat) ^ k = 16777216 ^ (k / 24) * 2 ^ (k % 24) := by
      rw [show (16777216 : Nat) = 2 ^ 24 from rfl, ← Nat.pow_mul, ← Nat.pow_add]
      congr 1
      omega
    have h3 : n / 2 ^ k = 0 := by rw [hpow, ← Nat.div_div_eq_div_mul, Nat.div_eq_of_lt (Nat.lt_of_lt_of_le h1 h2), Nat.zero_div]
    have hmk := smake s [] Dig.nil (by simp)
    rw [val_nil] at hmk
    rw [h3]
    refine Ev.step (f := fun m => (spec_l02Make.f m s []).bind fun bt => (some (bt.1, bt.2))) (fun m => ?_) (Ev.bind (f := fun k t => _) hmk (ev_of fun _ => rfl))
    simp only [spec_l02Cut.l0]
    rw [if_neg (by omega)]
end Go.Proofs.Ytdjdnllnhonjkaa.Ss
end
section
namespace Go.Proofs.Ytdjdnllnhonjkaa.Pv
open Go.RowKit Go.Proofs.YtdjdnllnhonjkaaW.PrintWords Go.Proofs.Ytdjdnllnhonjkaa.PW Go.Proofs.Ytdjdnllnhonjkaa.Pb Go.Proofs.Ytdjdnllnhonjkaa.Pc Go.Proofs.Ytdjdnllnhonjkaa.Pm Go.Proofs.Ytdjdnllnhonjkaa.Pw Go.Proofs.Ytdjdnllnhonjkaa.Px Dg
set_option linter.unusedVariables false
set_option linter.unusedSimpArgs false
theorem tdm (x : Int) : ((Int.tmod x 16777216 < 0 ∧ -(Int.tmod x 16777216) = ((x.natAbs % 16777216 : Nat) : Int)) ∨ (¬ Int.tmod x 16777216 < 0 ∧ Int.tmod x 16777216 = ((x.natAbs % 16777216 : Nat) : Int))) ∧ (Int.tdiv x 16777216).natAbs = x.natAbs / 16777216 ∧ (Int.tdiv x 16777216 = ((x.natAbs / 16777216 : Nat) : Int) ∨ Int.tdiv x 16777216 = -((x.natAbs / 16777216 : Nat) : Int)) := by
  by_cases h : 0 ≤ x
  · obtain ⟨m, rfl⟩ := Int.eq_ofNat_of_zero_le h
    rw [Int.tmod_eq_emod_of_nonneg (by omega), Int.tdiv_eq_ediv_of_nonneg (by omega)]
    omega
  · obtain ⟨m, hm⟩ := Int.eq_ofNat_of_zero_le (show 0 ≤ -x by omega)
    obtain rfl : x = -(m : Int) := by omega
    rw [Int.neg_tmod, Int.neg_tdiv, Int.tmod_eq_emod_of_nonneg (by omega), Int.tdiv_eq_ediv_of_nonneg (by omega)]
    omega
theorem sof_loop (n : Nat) (s : Int) (hn : (L n).length ≤ 1099511627776) : ∀ (m : Nat) (x : Int), x.natAbs = m → -9223372036854775808 ≤ x → x ≤ 9223372036854775807 → ∀ y : List Int, y ++ L m = L n → Ev (fun k => spec_l02Of.l0 k x s y) (smk s n) := by
  intro m
  induction m using Nat.strongRecOn with
  | ind m ih =>
    intro x hx h1 h2 y hy
    have hyl : y.length ≤ 1099511627776 := by have := congrArg List.length hy; rw [List.length_append] at this; omega
    by_cases h0 : x = 0
    · subst h0
      have : m = 0 := by omega
      subst this
      rw [L_zero, List.append_nil] at hy
      subst hy
      have hm := smake s (L n) (L_dig n) hn
      rw [L_val, Int.toNat_natCast] at hm
      refine Ev.step (f := fun k => (spec_l02Make.f k s (L n)).bind fun t => some (t.1, t.2)) (fun k => ?_) (Ev.bind (f := fun k t => _) hm (ev_of fun _ => rfl))
      simp only [spec_l02Of.l0]
      rw [if_pos trivial]
    · have hm0 : m ≠ 0 := by omega
      obtain ⟨hd, hq, hq2⟩ := tdm x
      rw [hx] at hd hq hq2
      have hL : L m = ((m % 16777216 : Nat) : Int) :: L (m / 16777216) := dg_pos _ hm0
      rw [hL] at hy
      have hq3 : wrap64 (Int.tdiv x 16777216) = Int.tdiv x 16777216 := wrapZ _ (by omega) (by omega)
      refine Ev.step (f := fun k => spec_l02Of.l0 k (Int.tdiv x 16777216) s (y ++ [((m % 16777216 : Nat) : Int)])) (fun k => ?_) (ih (m / 16777216) (Nat.div_lt_self (by omega) (by decide)) _ hq (by omega) (by omega) _ (by rw [List.append_assoc]; exact hy))
      simp only [spec_l02Of.l0]
      rw [if_neg h0]
      rcases hd with ⟨ha, hb⟩ | ⟨ha, hb⟩
      · rw [if_pos ha, if_pos (by omega), hq3, hb, wrapZ _ (by omega) (by omega)]
      · rw [if_neg ha, if_pos (by omega), hq3, hb]
theorem sof (n : Int) (h1 : -9223372036854775808 ≤ n) (h2 : n ≤ 9223372036854775807) : Ev (fun k => spec_l02Of.f k n) (sgn n, L n.natAbs) := by
  have hl : (L n.natAbs).length ≤ 1099511627776 := by
    have h3 := L_len n.natAbs
    have h4 : bl n.natAbs ≤ 64 := bl_le (k := 64) (by omega)
    omega
  unfold spec_l02Of.f
  simp only [Option.bind_some]
  by_cases h : n < 0
  · refine ifp h (Ev.step (f := fun k => spec_l02Of.l0 k n (-1) []) (fun k => rfl) ?_)
    rw [← smk_one n (-1) (by rw [if_pos h])]
    exact sof_loop n.natAbs (-1) hl n.natAbs n rfl h1 h2 [] rfl
  · refine ifn h (Ev.step (f := fun k => spec_l02Of.l0 k n 1 []) (fun k => rfl) ?_)
    rw [← smk_one n 1 (by rw [if_neg h])]
    exact sof_loop n.natAbs 1 hl n.natAbs n rfl h1 h2 [] rfl
end Go.Proofs.Ytdjdnllnhonjkaa.Pv
end
section
namespace Go.Proofs.Ytdjdnllnhonjkaa.Pzs
open Go.RowKit Go.Proofs.YtdjdnllnhonjkaaW.PrintWords Go.Proofs.Ytdjdnllnhonjkaa.PW Go.Proofs.Ytdjdnllnhonjkaa.Pb Go.Proofs.Ytdjdnllnhonjkaa.Pc Go.Proofs.Ytdjdnllnhonjkaa.Pm Go.Proofs.Ytdjdnllnhonjkaa.Pw Go.Proofs.Ytdjdnllnhonjkaa.Px Go.Proofs.Ytdjdnllnhonjkaa.Pt Go.Proofs.Ytdjdnllnhonjkaa.Py Go.Proofs.Ytdjdnllnhonjkaa.Pz Dg
set_option linter.unusedVariables false
set_option linter.unusedSimpArgs false
theorem sneg (x : Int) (hx : bl x.natAbs ≤ 1099511627000) : Ev (fun k => spec_l02Neg.f k (sgn x) (L x.natAbs)) (sgn (-x), L x.natAbs) := by
  have lx := L_len x.natAbs
  unfold spec_l02Neg.f
  have hr := sgn_range x
  rw [wrapZ _ (by omega) (by omega)]
  have := smake (-(sgn x)) (L x.natAbs) (L_dig _) (by omega)
  have e : smk (-(sgn x)) x.natAbs = (sgn (-x), L x.natAbs) := by
    have h := smk_sgn (-x)
    rw [sgn_neg, Int.natAbs_neg] at h
    rw [h, sgn_neg]
  rw [L_val, Int.toNat_natCast, e] at this
  exact Ev.bind (f := fun k t => _) this (ev_of fun _ => rfl)
theorem ssub (x y : Int) (hx : bl x.natAbs ≤ 1099511627000) (hy : bl y.natAbs ≤ 1099511627000) : Ev (fun k => spec_l02Sub.f k (sgn x) (L x.natAbs) (sgn y) (L y.natAbs)) (sgn (x - y), L (x - y).natAbs) := by
  unfold spec_l02Sub.f
  have h := sadd x (-y) hx (by rw [Int.natAbs_neg]; exact hy)
  rw [Int.natAbs_neg] at h
  exact Ev.bind (f := fun k t => _) (sneg y hy) (Ev.bind (f := fun k t => _) h (ev_of fun _ => rfl))
end Go.Proofs.Ytdjdnllnhonjkaa.Pzs
end
section
namespace Go.Proofs.Ytdjdnllnhonjkaa.St
open Go.RowKit Go.Proofs.YtdjdnllnhonjkaaW.PrintWords Go.Proofs.YtdjdnllnhonjkaaW.PrintMore Go.Proofs.Ytdjdnllnhonjkaa.PW Go.Proofs.Ytdjdnllnhonjkaa.Pb Go.Proofs.Ytdjdnllnhonjkaa.Pc Go.Proofs.Ytdjdnllnhonjkaa.Pm Go.Proofs.Ytdjdnllnhonjkaa.Pw Go.Proofs.Ytdjdnllnhonjkaa.Px Go.Proofs.Ytdjdnllnhonjkaa.Pt Go.Proofs.Ytdjdnllnhonjkaa.Pv Go.Proofs.Ytdjdnllnhonjkaa.Pz Go.Proofs.Ytdjdnllnhonjkaa.Pzs Go.Proofs.Ytdjdnllnhonjkaa.Ss Dg
set_option linter.unusedVariables false
set_option linter.unusedSimpArgs false
theorem sgn_lt {x : Int} : sgn x < 0 ↔ x < 0 := by
  unfold sgn
  split
  · omega
  · split <;> omega
theorem fdiv_neg (n m : Nat) (h : n ≠ 0) : -((n : Nat) : Int) / 2 ^ m = if n % 2 ^ m = 0 then -((n / 2 ^ m : Nat) : Int) else -((n / 2 ^ m : Nat) : Int) - 1 := by
  have hp := Nat.two_pow_pos m
  have e : ((2 : Int) ^ m) = ((2 ^ m : Nat) : Int) := by simp
  rw [e]
  generalize 2 ^ m = P at *
  have h1 := Nat.div_add_mod n P
  have h2 := Nat.mod_lt n hp
  split
  · rename_i h3
    rw [h3, Nat.add_zero] at h1
    have : (-((n : Nat) : Int)) = (P : Int) * (-((n / P : Nat) : Int)) := by rw [Int.mul_neg, ← Int.natCast_mul, h1]
    rw [this, Int.mul_ediv_cancel_left _ (by omega)]
  · rename_i h3
    have : (-((n : Nat) : Int)) = (((P - n % P : Nat)) : Int) + (P : Int) * (-((n / P : Nat) : Int) - 1) := by
      rw [Int.mul_sub, Int.mul_neg, ← Int.natCast_mul]
      omega
    rw [this, Int.add_mul_ediv_left _ _ (by omega), Int.ediv_eq_zero_of_lt (by omega) (by omega), Int.zero_add]
theorem scut_of (x : Int) (m : Nat) : smk (sgn x) (x.natAbs / 2 ^ m) = (sgn (if x < 0 then -((x.natAbs / 2 ^ m : Nat) : Int) else ((x.natAbs / 2 ^ m : Nat) : Int)), L (x.natAbs / 2 ^ m)) := by
  have hq : x = 0 → x.natAbs / 2 ^ m = 0 := by rintro rfl; simp
  generalize x.natAbs / 2 ^ m = q at *
  have h1 := smk_of (s := sgn x) (z := if x < 0 then -(q : Int) else (q : Int)) (fun h => by
    unfold sgn
    by_cases hx : x < 0
    · rw [if_pos hx] at h; rw [if_pos hx, if_pos hx, if_pos (by omega)]
    · rw [if_neg hx] at h
      have : x ≠ 0 := by intro e; have := hq e; omega
      rw [if_neg hx, if_neg hx, if_neg this, if_neg (by omega), if_neg h])
  have e : (if x < 0 then -(q : Int) else (q : Int)).natAbs = q := by split <;> simp only [Int.natAbs_neg, Int.natAbs_natCast]
  rw [e] at h1
  exact h1
theorem sshift (x k : Int) (hx : bl x.natAbs ≤ 1073741824) (h1 : -1073741824 ≤ k) (h2 : k ≤ 1073741824) :
    Ev (fun n => spec_l02Shift.f n (sgn x) (L x.natAbs) k) (sgn (if 0 ≤ k then x * 2 ^ k.toNat else x / 2 ^ (-k).toNat), L (if 0 ≤ k then x * 2 ^ k.toNat else x / 2 ^ (-k).toNat).natAbs) := by
  unfold spec_l02Shift.f
  by_cases hk : 0 ≤ k
  · obtain ⟨m, rfl⟩ := Int.eq_ofNat_of_zero_le hk
    rw [if_pos hk, Int.toNat_natCast]
    exact ifp (by omega) (Ev.bind (f := fun k t => _) (sleft x m hx (by omega)) (ev_of fun _ => rfl))
  · obtain ⟨m, hm⟩ := Int.eq_ofNat_of_zero_le (show 0 ≤ -k by omega)
    rw [if_neg hk, hm, Int.toNat_natCast]
    refine ifn (by omega) ?_
    rw [wrapZ (m : Int) (by omega) (by omega)]
    have hc := scut (sgn x) x.natAbs m hx (by omega)
    rw [scut_of] at hc
    refine Ev.bind (f := fun k t => _) hc ?_
    by_cases hn : x < 0
    · refine ifp (sgn_lt.2 hn) ?_
      have h0 : x.natAbs ≠ 0 := by omega
      have ht := stwos (sgn x) x.natAbs hx h0
      refine Ev.bind (f := fun k t => _) ht ?_
      have hf := fdiv_neg x.natAbs m h0
      have hd := tz_dvd (k := m) h0
      have e : -((x.natAbs : Nat) : Int) = x := by omega
      rw [e] at hf
      rw [if_pos hn]
      by_cases hz : tz x.natAbs < m
      · rw [if_neg (by rw [hd]; omega)] at hf
        rw [decide_eq_true (show ((tz x.natAbs : Nat) : Int) < (m : Int) by omega), hf]
        have hle : bl (x.natAbs / 2 ^ m) ≤ bl x.natAbs := bl_mono (Nat.div_le_self _ _)
        have hs := ssub (-((x.natAbs / 2 ^ m : Nat) : Int)) 1 (by rw [show (-((x.natAbs / 2 ^ m : Nat) : Int)).natAbs = x.natAbs / 2 ^ m by rw [Int.natAbs_neg, Int.natAbs_natCast]]; omega) (by decide)
        rw [show (-((x.natAbs / 2 ^ m : Nat) : Int)).natAbs = x.natAbs / 2 ^ m by rw [Int.natAbs_neg, Int.natAbs_natCast]] at hs
        have ho := sof 1 (by decide) (by decide)
        refine Ev.step (f := fun k => ((spec_l02Of.f k 1).bind fun bt753 => ((spec_l02Sub.f k (sgn (-((x.natAbs / 2 ^ m : Nat) : Int))) (L (x.natAbs / 2 ^ m)) bt753.1 bt753.2).bind fun bt757 => (some (bt757.1, bt757.2))))) (fun k => ?_) (Ev.bind (f := fun k t => _) ho (Ev.bind (f := fun k t => _) hs (ev_of fun _ => rfl)))
        simp only [spec_l02Shift.j0]
        rw [if_pos trivial]
      · rw [if_pos (by rw [hd]; omega)] at hf
        rw [decide_eq_false (show ¬ ((tz x.natAbs : Nat) : Int) < (m : Int) by omega), hf, show (-((x.natAbs / 2 ^ m : Nat) : Int)).natAbs = x.natAbs / 2 ^ m by rw [Int.natAbs_neg, Int.natAbs_natCast]]
        refine Ev.step (f := fun _ => some (sgn (-((x.natAbs / 2 ^ m : Nat) : Int)), L (x.natAbs / 2 ^ m))) (fun k => ?_) (ev_of fun _ => rfl)
        simp only [spec_l02Shift.j0]
        rw [if_neg (by simp)]
    · refine ifn (fun h => hn (sgn_lt.1 h)) ?_
      obtain ⟨n, rfl⟩ := Int.eq_ofNat_of_zero_le (show 0 ≤ x by omega)
      have e : ((2 : Int) ^ m) = ((2 ^ m : Nat) : Int) := by simp
      have e2 : (n : Int) / 2 ^ m = ((n / 2 ^ m : Nat) : Int) := by rw [e]; rfl
      rw [if_neg hn, e2, Int.natAbs_natCast, Int.natAbs_natCast]
      refine Ev.step (f := fun _ => some (sgn ((n / 2 ^ m : Nat) : Int), L (n / 2 ^ m))) (fun k => ?_) (ev_of fun _ => rfl)
      simp only [spec_l02Shift.j0]
      rw [if_neg (by simp)]
end Go.Proofs.Ytdjdnllnhonjkaa.St
end
