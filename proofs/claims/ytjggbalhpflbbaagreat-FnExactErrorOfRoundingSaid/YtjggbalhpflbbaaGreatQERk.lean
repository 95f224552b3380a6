/- Lemmas of the claim: Wb, Wc, Wd, We, Wf, Wg, Ve, Wh, Vg. -/
import Derived.Test.YtjggbalhpflbbaaGreatProg
import Derived.WalkKit
import Derived.WalkSpells
import Derived.WalkLawsBesides
import Derived.KernelRfl
import Derived.Lib.Hide
import Derived.Handy
import Derived.Test.YtjggbalhpflbbaaGreatQERb
import Derived.Laws.BitsLemmas
import Derived.Test.YtjggbalhpflbbaaGreatQERc
section
namespace Go.Proofs.YtjggbalhpflbbaaGreat.Wb
end Go.Proofs.YtjggbalhpflbbaaGreat.Wb
end
section
set_option linter.unusedSimpArgs false
set_option linter.unusedVariables false
namespace Go.Proofs.YtjggbalhpflbbaaGreat.Wc
open Go.RowKit Fp
theorem ret_float {k : FloatKind} {a b : Nat} (h : a = b) : Ending.returned (.float k a) = .returned (.float k b) := by rw [h]
theorem ret_ints {k k' : IntKind} {a b a' b' : Int} (h : a = b) (h' : a' = b') : Ending.returned (.tuple #[.int k a, .int k' a']) = .returned (.tuple #[.int k b, .int k' b']) := by rw [h, h']
theorem wraps_u32 (n : Int) (h₀ : 0 ≤ n) (h₁ : n < 2 ^ 32) : IntKind.u32.wrap n = n := by rw [IntKind.wrap_u32]; omega
theorem and255 (x : Nat) (h : x < 4294967296) : bits .and .u32 ((x : Int) / 8388608) 255 = ((x / 8388608 % 256 : Nat) : Int) := by
  have := bits_mask .u32 32 (by decide) wraps_u32 8 (by decide) ((x : Int) / 8388608) (by omega) (by omega)
  rw [show ((2 : Int) ^ 8 - 1) = 255 from rfl] at this
  rw [this]; omega
theorem andFr (x : Nat) (h : x < 4294967296) : bits .and .u32 (x : Int) 8388607 = ((x % 8388608 : Nat) : Int) := by
  have := bits_mask .u32 32 (by decide) wraps_u32 23 (by decide) (x : Int) (by omega) (by omega)
  rw [show ((2 : Int) ^ 23 - 1) = 8388607 from rfl] at this
  rw [this]; omega
theorem orSg (x : Nat) (h : x < 2147483648) : bits .or .u32 (x : Int) 2147483648 = ((2147483648 + x : Nat) : Int) := by
  have h1 := u32_or_nat x 2147483648 (by omega) (by omega)
  rw [show (2147483648 : Int) = ((2147483648 : Nat) : Int) from rfl, h1, Nat.or_comm, nat_join 31 2147483648 x (by omega) (by omega)]
@[go_sem] theorem bits32 (x : Nat) (w : World) : (callFunc 82 #[.float .f32 x]).run Tryz.prog w = .ok (.value (.int .u32 (x : Int))) w := by
  rw [run_callFunc_extern (e := Extern.MathFloatBits.float32bits) Tryz.func82 (by kernel_rfl) (by kernel_rfl) (by kernel_rfl) (by kernel_rfl)]
  rfl
@[go_sem] theorem from32 (n : Int) (w : World) : (callFunc 95 #[.int .u32 n]).run Tryz.prog w = .ok (.value (.float .f32 n.toNat)) w := by rw [run_callFunc_extern (e := Extern.MathFloatBits.float32frombits) Tryz.func95 (by kernel_rfl) (by kernel_rfl) (by kernel_rfl) (by kernel_rfl)]; rfl
theorem sg32 (x : Nat) (h : x < 4294967296) : sg Ieee.single x = (((x : Int) / 2147483648) != 0) := by
  unfold sg
  rw [sw32, Bool.eq_iff_iff]
  simp
  omega
theorem rg_lt (x : Nat) : rg Ieee.single x < 2147483648 := by unfold rg; rw [sw32]; omega
theorem pl32 (x : Nat) : pl Ieee.single x = sv (sg Ieee.single x) (x % 2147483648) := by unfold pl rg; rw [sw32]
def at32 (n : Int) : Nat := if n < 0 then 2147483648 + (-n).toNat else n.toNat
set_option maxHeartbeats 400000 in
theorem atPlace (n : Int) (h1 : -2139095040 ≤ n) (h2 : n ≤ 2139095040) (w : World) : Calls Tryz.prog 70 #[.int .i64 n] w fun e w' => e = .returned (.float .f32 (at32 n)) ∧ w = w' := by
  by_cases hn : n < 0
  · obtain ⟨m, rfl⟩ : ∃ m : Nat, n = -(m : Int) := ⟨(-n).toNat, by omega⟩
    have e1 := orSg m (by omega)
    have E1 := Lib.hid e1
    clear e1
    go_enter Tryz.func70, Tryz.ntmps70
    go_wp2
    go_ret
    refine ⟨ret_float ?_, rfl⟩
    rw [E1.out]
    unfold at32
    rw [if_pos hn]
    omega
  · go_enter Tryz.func70, Tryz.ntmps70
    go_wp2
    go_ret
    refine ⟨ret_float ?_, rfl⟩
    unfold at32
    rw [if_neg (by omega)]
def mant (x : Nat) : Nat := if x / 8388608 % 256 = 0 then x % 8388608 else x % 8388608 + 8388608
def expo (x : Nat) : Int := if x / 8388608 % 256 = 0 then -149 else ((x / 8388608 % 256 : Nat) : Int) - 150
set_option maxHeartbeats 400000 in
theorem parts (x : Nat) (hx : x < 4294967296) (w : World) : Calls Tryz.prog 43 #[.float .f32 x] w fun e w' => e = .returned (.tuple #[.int .i64 (sv (sg Ieee.single x) (mant x)), .int .i64 (expo x)]) ∧ w = w' := by
  go_enter Tryz.func43, Tryz.ntmps43
  go_wp2
  all_goals
    go_ret2
    refine ⟨ret_ints ?_ ?_, rfl⟩
  all_goals (rw [and255 x hx] at *)
  all_goals (try rw [andFr x hx])
  all_goals (have h3 := sg32 x hx; unfold wrap64 at *)
  all_goals (first | (have h4 : x / 8388608 % 256 = 0 := (by omega); simp only [mant, expo, if_pos h4]) | (have h4 : ¬ (x / 8388608 % 256 = 0) := (by omega); simp only [mant, expo, if_neg h4]))
  all_goals (try (rw [h3]; simp only [*, sv, if_true, if_false, Bool.false_eq_true]))
  all_goals omega
end Go.Proofs.YtjggbalhpflbbaaGreat.Wc
end
section
set_option linter.unusedSimpArgs false
set_option linter.unusedVariables false
namespace Go.Proofs.YtjggbalhpflbbaaGreat.Wd
open Go.RowKit Fp Go.Proofs.YtjggbalhpflbbaaGreat.Wc
theorem ord32 {x y : Nat} (hx : x < 4294967296) (hy : y < 4294967296) (nx : nan Ieee.single x = false) (ny : nan Ieee.single y = false) : FloatKind.f32.format.order x y = some (compare (pl Ieee.single x) (pl Ieee.single y)) :=
  order_pl hK32 hf32 (by rw [wd32]; exact hx) (by rw [wd32]; exact hy) nx ny
theorem nan0 : nan Ieee.single 0 = false := by decide
theorem pl0 : pl Ieee.single 0 = 0 := by decide
theorem cmp_lt (a b : Int) : ((some (compare a b) : Option Ordering) == some .lt) = decide (a < b) := by
  rw [compare_int]; by_cases h : a < b
  · simp [h]
  · by_cases h' : a = b <;> simp [h, h']
theorem cmp_gt (a b : Int) : ((some (compare a b) : Option Ordering) == some .gt) = decide (b < a) := by
  rw [compare_int]; by_cases h : a < b
  · simp [h]; omega
  · by_cases h' : a = b
    · simp [h']
    · simp [h, h']; omega
theorem cmp_eq (a b : Int) : ((some (compare a b) : Option Ordering) == some .eq) = decide (a = b) := by
  rw [compare_int]; by_cases h : a < b
  · simp [h]; omega
  · by_cases h' : a = b <;> simp [h, h']
theorem lt32 {x y : Nat} (hx : x < 4294967296) (hy : y < 4294967296) (nx : nan Ieee.single x = false) (ny : nan Ieee.single y = false) : (FloatKind.f32.format.order x y == some .lt) = decide (pl Ieee.single x < pl Ieee.single y) := by rw [ord32 hx hy nx ny, cmp_lt]
theorem eq32 {x y : Nat} (hx : x < 4294967296) (hy : y < 4294967296) (nx : nan Ieee.single x = false) (ny : nan Ieee.single y = false) : (FloatKind.f32.format.order x y == some .eq) = decide (pl Ieee.single x = pl Ieee.single y) := by rw [ord32 hx hy nx ny, cmp_eq]
theorem split32 (x : Nat) (hx : x < 4294967296) : x = Ieee.single.word (sg Ieee.single x) (rg Ieee.single x) := by
  unfold Ieee.Format.word sg rg
  rw [sw32]
  by_cases h : 2147483648 ≤ x
  · simp [h]; omega
  · simp [h]; omega
theorem pl_zero {x : Nat} (h : pl Ieee.single x = 0) : rg Ieee.single x = 0 := by
  unfold pl sv at h; split at h <;> omega
theorem sg_of_pl {x : Nat} (h : pl Ieee.single x ≠ 0) : sg Ieee.single x = decide (pl Ieee.single x < 0) := by
  unfold pl sv at *; split at h <;> simp_all <;> omega
end Go.Proofs.YtjggbalhpflbbaaGreat.Wd
end
section
set_option linter.unusedSimpArgs false
set_option linter.unusedVariables false
namespace Go.Proofs.YtjggbalhpflbbaaGreat.We
open Go.RowKit Fp Go.Proofs.YtjggbalhpflbbaaGreat.Wc Go.Proofs.YtjggbalhpflbbaaGreat.Wd
set_option maxHeartbeats 400000 in
theorem l01Twos (x : Nat) (k : Int) (s : Bool) (m : Nat) (e : Int) (hx : IsN Ieee.double x s (V m e)) (hm : m < 9007199254740992) (h1 : -1074 ≤ e) (h2 : e ≤ 971) (h3 : -1074 ≤ e + k) (h4 : e + k ≤ 971) (w : World) :
    Calls Tryz.prog 32 #[.float .f64 x, .int .i64 k] w fun e' w' => (∃ r, e' = .returned (.float .f64 r) ∧ IsN Ieee.double r s (V m (e + k))) ∧ w = w' := by
  have hb : m < 2 * Ieee.double.binade := by rw [bi64]; omega
  go_enter Tryz.func32, Tryz.ntmps32
  go_wp2
  go_loop [0, 1] (fun x k' => ∃ (b : Nat) (j : Int), x = .float .f64 b ∧ k' = .int .i64 j ∧ Hid (IsN Ieee.double b s (V m (e + k - j))) ∧ (0 < j → j ≤ k) ∧ (j ≤ 0 → j = k ∨ j = 0 ∧ 0 ≤ k)) (fun _ k' => (intOf k').toNat)
  case atStart => exact ⟨x, k, rfl, rfl, Lib.hid (by rw [show e + k - k = e by omega]; exact hx), fun _ => Int.le_refl _, fun _ => .inl rfl⟩
  case round =>
    obtain ⟨b, j, rfl, rfl, HN, hj1, hj2⟩ := hrel
    by_cases hj : 0 < j
    · have hk := hj1 hj
      clear hj1 hj2
      obtain ⟨r, hr, hn⟩ := double_two HN.out (by omega) ⟨hb, by rw [lp64]; omega, by rw [top64]; omega⟩
      rw [show e + k - j + 1 = e + k - (j - 1) by omega] at hn
      have HN2 := Lib.hid hn
      have hrun := run_float_arith (P := Tryz.prog) w .mul 64 .f64 b 4611686018427387904 r hr
      clear hr hn
      go_wp2
      go_round
      case rel => exact ⟨r, j - 1, rfl, rfl, HN2, fun _ => by omega, fun _ => by omega⟩
      case measure => simp [intOf]; omega
    · have hk := hj2 (by omega)
      clear hj1 hj2
      go_wp2
      go_loop [0, 1] (fun x k' => ∃ (b : Nat) (j : Int), x = .float .f64 b ∧ k' = .int .i64 j ∧ Hid (IsN Ieee.double b s (V m (e + k - j))) ∧ j ≤ 0 ∧ (j < 0 → k ≤ j)) (fun _ k' => (-(intOf k')).toNat)
      case atStart => exact ⟨b, j, rfl, rfl, HN, by omega, fun _ => by omega⟩
      case round =>
        obtain ⟨b, j, rfl, rfl, HN, hj1, hj2⟩ := hrel
        by_cases hj : j < 0
        · have hk := hj2 hj
          clear hj2
          obtain ⟨r, hr, hn⟩ := halve_two HN.out (by omega) ⟨hb, by rw [lp64]; omega, by rw [top64]; omega⟩
          rw [show e + k - j - 1 = e + k - (j + 1) by omega] at hn
          have HN2 := Lib.hid hn
          have hrun := run_float_arith (P := Tryz.prog) w .quo 64 .f64 b 4611686018427387904 r hr
          clear hr hn
          go_wp2
          go_round
          case rel => exact ⟨r, j + 1, rfl, rfl, HN2, by omega, fun _ => by omega⟩
          case measure => simp [intOf]; omega
        · obtain rfl : j = 0 := by omega
          go_wp2
          go_ret
          exact ⟨⟨b, rfl, by have := HN.out; rwa [Int.sub_zero] at this⟩, rfl⟩
set_option maxHeartbeats 400000 in
theorem l01Huge (w : World) : Calls Tryz.prog 60 #[] w fun e w' => e = .returned (.float .f32 2139095040) ∧ w = w' := by
  have hrun := run_float_arith (P := Tryz.prog) w .mul 39 .f32 2137108966 1092616192 2139095040 (by decide +kernel)
  go_enter Tryz.func60, Tryz.ntmps60
  go_wp2
  go_ret
  exact ⟨rfl, rfl⟩
def opp (x : Nat) : Nat := Ieee.single.word (!(sg Ieee.single x)) (rg Ieee.single x)
set_option maxHeartbeats 400000 in
theorem l01Turned (x : Nat) (hx : x < 4294967296) (hn : nan Ieee.single x = false) (w : World) : Calls Tryz.prog 33 #[.float .f32 x] w fun e w' => e = .returned (.float .f32 (opp x)) ∧ w = w' := by
  have hrun := run_float_arith (P := Tryz.prog) w .mul 39 .f32 x 3212836864 (opp x) (mul_one32 hx hn)
  go_enter Tryz.func33, Tryz.ntmps33
  go_wp2
  go_ret
  exact ⟨rfl, rfl⟩
theorem xor_top (i r : Nat) (h : r < 2 ^ i) : r ^^^ 2 ^ i = 2 ^ i + r := by
  apply Nat.eq_of_testBit_eq
  intro j
  rw [Nat.testBit_xor, Nat.testBit_two_pow]
  rcases Nat.lt_trichotomy j i with hj | hj | hj
  · rw [Nat.testBit_two_pow_add_gt hj]
    have : ¬ i = j := by omega
    simp [this]
  · subst hj; rw [Nat.testBit_two_pow_add_eq]; simp
  · have h1 : 2 ^ i + r < 2 ^ j := by
      have : 2 ^ (i + 1) ≤ 2 ^ j := Nat.pow_le_pow_right (by omega) (by omega)
      rw [Nat.pow_succ] at this; omega
    rw [Nat.testBit_lt_two_pow h1, Nat.testBit_lt_two_pow (by omega)]
    have : ¬ i = j := by omega
    simp [this]
theorem neg32 (x : Nat) (hx : x < 4294967296) : Op.negFloat .f32 x = opp x := by
  have hs := split32 x hx
  have hr := rg_lt x
  unfold opp
  show x ^^^ 2 ^ 31 = _
  generalize rg Ieee.single x = r at *
  cases hg : sg Ieee.single x with
  | true =>
    rw [hg] at hs
    have : x = 2 ^ 31 + r := by rw [hs]; simp [Ieee.Format.word, sw32]
    rw [this, ← xor_top 31 r (by omega), Nat.xor_assoc, Nat.xor_self, Nat.xor_zero]; rfl
  | false =>
    rw [hg] at hs
    have : x = r := hs
    rw [this, xor_top 31 r (by omega)]
    simp [Ieee.Format.word, sw32]
@[go_sem] theorem unary_neg_float (k : FloatKind) (b : Nat) : Op.unary .neg (.float k b) = pure (.float k (Op.negFloat k b)) := rfl
set_option maxHeartbeats 400000 in
theorem l01Abs (x : Nat) (hx : x < 4294967296) (hn : nan Ieee.single x = false) (w : World) : Calls Tryz.prog 63 #[.float .f32 x] w fun e w' => e = .returned (.float .f32 (rg Ieee.single x)) ∧ w = w' := by
  have hl := lt32 hx (by decide : 0 < 4294967296) hn nan0
  have he := eq32 hx (by decide : 0 < 4294967296) hn nan0
  rw [pl0] at hl he
  by_cases h : pl Ieee.single x < 0
  · rw [show decide (pl Ieee.single x < 0) = true by simpa using h] at hl
    clear he
    go_enter Tryz.func63, Tryz.ntmps63
    go_wp2
    go_ret
    refine ⟨ret_float ?_, rfl⟩
    rw [neg32 x hx]
    have h1 : sg Ieee.single x = true := by rw [sg_of_pl (by omega)]; simpa using h
    unfold opp
    rw [h1]; rfl
  · rw [show decide (pl Ieee.single x < 0) = false by simpa using h] at hl
    by_cases h0 : pl Ieee.single x = 0
    · rw [show decide (pl Ieee.single x = 0) = true by simpa using h0] at he
      have hz := Lib.hid (pl_zero h0)
      clear h0 h
      go_enter Tryz.func63, Tryz.ntmps63
      go_wp2
      go_ret
      exact ⟨ret_float hz.out.symm, rfl⟩
    · rw [show decide (pl Ieee.single x = 0) = false by simpa using h0] at he
      have hz : Hid (x = rg Ieee.single x) := by
        have h1 := sg_of_pl h0
        rw [show decide (pl Ieee.single x < 0) = false by simpa using h] at h1
        have h2 := split32 x hx
        rw [h1] at h2
        exact h2
      clear h0 h
      go_enter Tryz.func63, Tryz.ntmps63
      go_wp2
      go_ret
      exact ⟨ret_float hz.out, rfl⟩
theorem fin_parts {x : Nat} (hx : x < 4294967296) (hf : fin Ieee.single x = true) : Ieee.single.read x = .number (sg Ieee.single x) (mant x) (expo x) ∧ Canon Ieee.single (mant x) (expo x) ∧ rung Ieee.single (mant x) (expo x) = rg Ieee.single x ∧ rg Ieee.single x < 2139095040 := by
  have hx' : x < 2 ^ Ieee.single.width := by rw [wd32]; exact hx
  obtain ⟨m, e, hr, c, hrg, _⟩ := isN_fin hf32 hx' hf
  have hlt : rg Ieee.single x < 2139095040 := by unfold fin at hf; rw [ir32] at hf; simpa using hf
  have hme : m = mant x ∧ e = expo x := by
    obtain ⟨h1, h2, h3⟩ := c
    rw [bi32] at h1 h3
    rw [lp32] at h2 h3
    have h4 := hrg
    unfold rung at h4
    rw [lp32, bi32] at h4
    unfold rg at h4 hlt
    rw [sw32] at h4 hlt
    unfold mant expo
    split <;> omega
  obtain ⟨rfl, rfl⟩ := hme
  exact ⟨hr, c, hrg, hlt⟩
theorem c24 : IsN Ieee.double 4715268809856909312 false (V 16777216 0) := by
  refine ⟨4503599627370496, -28, by decide +kernel, ⟨by decide, by decide, by decide⟩, by decide +kernel, by decide +kernel, ?_⟩
  have := V_shift 16777216 (-28) 28 (by decide)
  rw [show (-28 : Int) + ((28 : Nat) : Int) = 0 by decide] at this
  rw [this]
theorem ge24 {b m : Nat} {k : Nat} (h : IsN Ieee.double b false (V m (k : Int))) : (FloatKind.f64.format.order b 4715268809856909312 == some .gt) = decide (16777216 < m * 2 ^ k) ∧ (FloatKind.f64.format.order b 4715268809856909312 == some .eq) = decide (m * 2 ^ k = 16777216) := by
  have ho : FloatKind.f64.format.order b 4715268809856909312 = some (compare (sv false (V m k)) (sv false (V 16777216 0))) := order64 h c24
  have hv : V m (k : Int) = V (m * 2 ^ k) 0 := by
    have := V_shift m 0 k (by decide)
    rw [Int.zero_add] at this
    exact this
  rw [ho, cmp_gt, cmp_eq, hv]
  simp only [sv, Bool.false_eq_true, if_false, Int.ofNat_lt, Int.natCast_inj, V_mono]
  refine ⟨by first | rfl | trivial, ?_⟩
  have h1 := V_mono (m := m * 2 ^ k) (n := 16777216) 0
  have h2 := V_mono (n := m * 2 ^ k) (m := 16777216) 0
  by_cases hh : m * 2 ^ k = 16777216
  · simp [hh]
  · have : ¬ V (m * 2 ^ k) 0 = V 16777216 0 := by omega
    simp [hh, this]
set_option maxRecDepth 20000 in
set_option maxHeartbeats 400000 in
theorem l01Parts (x : Nat) (hx : x < 4294967296) (hf : fin Ieee.single x = true) (w : World) : Calls Tryz.prog 36 #[.float .f32 x] w fun e w' => e = .returned (.tuple #[.int .i64 (mant x), .int .i64 (expo x)]) ∧ w = w' := by
  obtain ⟨hr, hc, hrg, hlt⟩ := fin_parts hx hf
  have hnan : nan Ieee.single x = false := by unfold nan; rw [ir32]; simp; omega
  have c1 := hc.lt
  have c2 := hc.le
  have c3 := hc.full
  rw [bi32] at c1 c3
  rw [lp32] at c2 c3
  have htop : expo x ≤ 104 := by
    have h4 := hrg
    unfold rung at h4
    rw [lp32, bi32] at h4
    omega
  -- the absolute value as a wide float
  have ha : rg Ieee.single x = Ieee.single.word false (rung Ieee.single (mant x) (expo x)) := by rw [hrg]; rfl
  obtain ⟨y, hy, hyn⟩ := widen hc (by rw [ha]; exact read_word false hc (by rw [hrg, ir32]; exact hlt) : Ieee.single.read (rg Ieee.single x) = _) (by rw [hrg, ir32]; exact hlt)
  have hconv := run_convert_float_float (P := Tryz.prog) w 39 64 .f32 .f64 (rg Ieee.single x) y rfl Tryz.underlying64 hy
  clear hy ha hr hrg hlt hf
  generalize mant x = m at *
  generalize expo x = e at *
  have HYN := Lib.hid hyn
  clear hyn hc
  go_enter Tryz.func36, Tryz.ntmps36
  go_wp2_with (first | (go_at_call 63; refine (l01Abs x hx hnan _).mono ?_; rintro e1 w1 ⟨rfl, rfl⟩) | (go_at_call 32; refine (l01Twos y 149 false m e HYN.out (by omega) (by omega) (by omega) (by omega) (by omega) _).mono ?_; rintro e1 w1 ⟨⟨r, rfl, hr⟩, rfl⟩; have HR := Lib.hid hr; clear hr))
  obtain ⟨n, hn⟩ : ∃ n : Nat, e + 149 = n := ⟨(e + 149).toNat, by omega⟩
  have HN := Lib.hid hn
  have hn300 : n ≤ 253 := by omega
  have hne : 0 < n → 8388608 ≤ m := by omega
  clear hn c3
  go_loop [4, 5] (fun e' y' => ∃ (b i : Nat), e' = .int .i64 (-149 + (i : Int)) ∧ y' = .float .f64 b ∧ i ≤ n ∧ Hid (IsN Ieee.double b false (V m ((n - i : Nat) : Int)))) (fun e' _ => (n - 149 - (intOf e')).toNat)
  case atStart => exact ⟨r, 0, rfl, rfl, Nat.zero_le _, Lib.hid (by rw [Nat.sub_zero, ← HN.out]; exact HR.out)⟩
  case round =>
    obtain ⟨b, i, rfl, rfl, hi, HB⟩ := hrel
    have hge := ge24 HB.out
    by_cases hlt : i < n
    · have hm := hne (by omega)
      have hbig : 16777216 ≤ m * 2 ^ (n - i) := by
        rw [show n - i = (n - i - 1) + 1 by omega, Nat.pow_succ, ← Nat.mul_assoc]
        have := Nat.le_mul_of_pos_right m (Nat.two_pow_pos (n - i - 1))
        omega
      obtain ⟨r2, hr2, hn2⟩ := halve_two HB.out (by omega) ⟨by rw [bi64]; omega, by rw [lp64]; omega, by rw [top64]; omega⟩
      rw [show ((n - i : Nat) : Int) - 1 = ((n - (i + 1) : Nat) : Int) by omega] at hn2
      have HN2 := Lib.hid hn2
      have hrun := run_float_arith (P := Tryz.prog) w .quo 64 .f64 b 4611686018427387904 r2 hr2
      have hg : (FloatKind.f64.format.order b 4715268809856909312 == some .gt || FloatKind.f64.format.order b 4715268809856909312 == some .eq) = true := by
        rw [hge.1, hge.2]; simp; omega
      clear hr2 hn2 hge hne hm hbig
      go_wp2
      go_round
      case rel => exact ⟨r2, i + 1, by simp; omega, rfl, by omega, HN2⟩
      case measure => simp [intOf]; omega
    · obtain rfl : i = n := by omega
      have hg : (FloatKind.f64.format.order b 4715268809856909312 == some .gt || FloatKind.f64.format.order b 4715268809856909312 == some .eq) = false := by
        rw [hge.1, hge.2, Nat.sub_self, Nat.pow_zero]; simp; omega
      have hv : V m ((i - i : Nat) : Int) / U = m := by rw [Nat.sub_self]; show V m 0 / U = m; rw [V_U, Nat.mul_div_cancel _ U_pos]
      have hti := toI64 HB.out (by rw [hv]; omega)
      rw [hv] at hti
      have hc2 := run_convert_float_int (P := Tryz.prog) w 64 2 .f64 .i64 b (sv false m) rfl Tryz.underlying2 hti
      clear hge hne hv hti
      go_wp2
      go_ret2
      exact ⟨ret_ints rfl (by have := HN.out; omega), rfl⟩
end Go.Proofs.YtjggbalhpflbbaaGreat.We
end
section
namespace Go.Proofs.YtjggbalhpflbbaaGreat.Wf
end Go.Proofs.YtjggbalhpflbbaaGreat.Wf
end
section
set_option linter.unusedSimpArgs false
set_option linter.unusedVariables false
namespace Go.Proofs.YtjggbalhpflbbaaGreat.Wg
open Go.RowKit Fp Go.Proofs.YtjggbalhpflbbaaGreat.Wc Go.Proofs.YtjggbalhpflbbaaGreat.Wd Go.Proofs.YtjggbalhpflbbaaGreat.We Go.Proofs.YtjggbalhpflbbaaGreat.Wf
theorem and23 (n : Nat) (h : n < 4294967296) : bits .and .i64 (n : Int) 8388607 = ((n % 8388608 : Nat) : Int) := by
  have := bits_mask .i64 33 (by decide) (fun n h0 h1 => by rw [IntKind.wrap_i64]; omega) 23 (by decide) (n : Int) (by omega) (by omega)
  rw [show ((2 : Int) ^ 23 - 1) = 8388607 from rfl] at this
  rw [this]; omega
set_option maxRecDepth 20000 in
set_option maxHeartbeats 400000 in
theorem l01At_pos (n : Nat) (hn : n ≤ 2139095040) (w : World) : Calls Tryz.prog 61 #[.int .i64 (n : Int)] w fun e w' => e = .returned (.float .f32 n) ∧ w = w' := by
  by_cases h255 : n = 2139095040
  · subst h255
    go_enter Tryz.func61, Tryz.ntmps61
    go_wp2_with (first | (go_at_call 60; refine (l01Huge _).mono ?_; rintro e w' ⟨rfl, rfl⟩))
    go_ret
    exact ⟨rfl, rfl⟩
  · obtain ⟨m, e, hc, he, hrung, htop, hm⟩ : ∃ (m : Nat) (e : Int), Canon Ieee.single m e ∧ (if n / 8388608 = 0 then m = n % 8388608 ∧ e = -149 else m = n % 8388608 + 8388608 ∧ e = ((n / 8388608 : Nat) : Int) - 150) ∧ rung Ieee.single m e = n ∧ -149 ≤ e ∧ e ≤ 104 ∧ m < 16777216 := by
      by_cases h0 : n / 8388608 = 0
      · refine ⟨n % 8388608, -149, ⟨by rw [bi32]; omega, by rw [lp32]; omega, by rw [lp32, bi32]; omega⟩, by rw [if_pos h0]; exact ⟨rfl, rfl⟩, ?_, by omega, by omega, by omega⟩
        unfold rung
        rw [lp32, bi32]; omega
      · refine ⟨n % 8388608 + 8388608, ((n / 8388608 : Nat) : Int) - 150, ⟨by rw [bi32]; omega, by rw [lp32]; omega, by rw [lp32, bi32]; omega⟩, by rw [if_neg h0]; exact ⟨rfl, rfl⟩, ?_, by omega, by omega, by omega⟩
        unfold rung
        rw [lp32, bi32]; omega
    have rp : Rp Ieee.single m e := ⟨by rw [bi32]; omega, by rw [lp32]; omega, by rw [top32]; omega⟩
    have hN : ∀ b, IsN Ieee.single b false (V m e) → b = n := fun b hb => by rw [isN_eq hK32 hb hc, hrung]; rfl
    have hO := ofInt64 (m : Int) (by omega) (by omega)
    rw [show decide ((m : Int) < 0) = false by simp, Int.natAbs_natCast] at hO
    have ha := and23 n (by omega)
    have HA := Lib.hid ha
    clear ha hc hrung
    by_cases h0 : n / 8388608 = 0
    · rw [if_pos h0] at he
      obtain ⟨hme, hee⟩ := he
      have HM := Lib.hid hme
      have t1 : ((n : Int) / 8388608 == 255) = false := by simp; omega
      have t2 : ((n : Int) / 8388608 == 0) = true := by simp; omega
      have HE := Lib.hid hee
      clear hme hee h0
      go_enter Tryz.func61, Tryz.ntmps61
      go_wp2_with fail
      rw [HA.out, ← HM.out]
      refine (l01Twos _ (-149) false m 0 hO (by omega) (by omega) (by omega) (by omega) (by omega) _).mono ?_
      rintro e1 w1 ⟨⟨r, rfl, hr⟩, rfl⟩
      rw [show (0 : Int) + -149 = e by rw [HE.out]; rfl] at hr
      obtain ⟨q, hq, hqn⟩ := narrow hr rp
      obtain rfl := hN q hqn
      have hc2 := run_convert_float_float (P := Tryz.prog) w 64 39 .f64 .f32 r q rfl Tryz.underlying39 hq
      clear hq hqn hN hr hO
      go_wp2
      go_ret
      exact ⟨rfl, rfl⟩
    · rw [if_neg h0] at he
      obtain ⟨hme, hee⟩ := he
      have HM := Lib.hid hme
      have t1 : ((n : Int) / 8388608 == 255) = false := by simp; omega
      have t2 : ((n : Int) / 8388608 == 0) = false := by simp; omega
      have HE := Lib.hid hee
      clear hme hee h0
      go_enter Tryz.func61, Tryz.ntmps61
      go_wp2_with fail
      rw [HA.out, show wrap64 (((n % 8388608 : Nat) : Int) + 8388608) = (m : Int) by rw [HM.out]; unfold wrap64; omega]
      refine (l01Twos _ ((n : Int) / 8388608 - 150) false m 0 hO (by omega) (by omega) (by omega) (by omega) (by omega) _).mono ?_
      rintro e1 w1 ⟨⟨r, rfl, hr⟩, rfl⟩
      rw [show (0 : Int) + ((n : Int) / 8388608 - 150) = e by rw [HE.out]; omega] at hr
      obtain ⟨q, hq, hqn⟩ := narrow hr rp
      obtain rfl := hN q hqn
      have hc2 := run_convert_float_float (P := Tryz.prog) w 64 39 .f64 .f32 r q rfl Tryz.underlying39 hq
      clear hq hqn hN hr hO
      go_wp2
      go_ret
      exact ⟨rfl, rfl⟩
set_option maxHeartbeats 400000 in
theorem l01At (n : Int) (h1 : -2139095040 ≤ n) (h2 : n ≤ 2139095040) (w : World) : Calls Tryz.prog 61 #[.int .i64 n] w fun e w' => e = .returned (.float .f32 (at32 n)) ∧ w = w' := by
  by_cases hn : n < 0
  · obtain ⟨m, rfl⟩ : ∃ m : Nat, n = -(m : Int) := ⟨(-n).toNat, by omega⟩
    have hat : Hid (Op.negFloat .f32 m = at32 (-(m : Int))) := Lib.hid (by
      rw [neg32 m (by omega)]
      unfold opp at32
      have e1 : rg Ieee.single m = m := by unfold rg; rw [sw32]; omega
      have e2 : sg Ieee.single m = false := by unfold sg; rw [sw32]; simp; omega
      rw [e1, e2, if_pos hn]
      simp [Ieee.Format.word, sw32])
    go_enter Tryz.func61, Tryz.ntmps61
    go_wp2_with fail
    refine (l01At_pos m (by omega) _).mono ?_
    rintro e1 w1 ⟨rfl, rfl⟩
    go_wp2
    go_ret
    exact ⟨ret_float hat.out, rfl⟩
  · obtain ⟨m, rfl⟩ : ∃ m : Nat, n = (m : Int) := ⟨n.toNat, by omega⟩
    refine (l01At_pos m (by omega) w).mono ?_
    rintro e1 w1 ⟨rfl, rfl⟩
    refine ⟨ret_float ?_, rfl⟩
    unfold at32
    rw [if_neg (by omega)]; simp
end Go.Proofs.YtjggbalhpflbbaaGreat.Wg
end
section
set_option linter.unusedVariables false
set_option linter.unusedSimpArgs false
namespace Go.Proofs.YtjggbalhpflbbaaGreat.Ve
open Go.RowKit Fp
def ovr (s mode : Int) : Nat :=
  if mode = 3 ∨ mode = 1 ∧ 0 < s ∨ mode = 2 ∧ s < 0 then (if s < 0 then 4286578687 else 2139095039) else (if s < 0 then 4286578688 else 2139095040)
@[go_sem] theorem from64 (n : Int) (w : World) : (callFunc 108 #[.int .u64 n]).run Tryz.prog w = .ok (.value (.float .f64 n.toNat)) w := by rw [run_callFunc_extern (e := Extern.MathFloatBits.float64frombits) Tryz.func108 (by kernel_rfl) (by kernel_rfl) (by kernel_rfl) (by kernel_rfl)]; rfl
@[go_sem] theorem bits64 (x : Nat) (w : World) : (callFunc 115 #[.float .f64 x]).run Tryz.prog w = .ok (.value (.int .u64 (x : Int))) w := by rw [run_callFunc_extern (e := Extern.MathFloatBits.float64bits) Tryz.func115 (by kernel_rfl) (by kernel_rfl) (by kernel_rfl) (by kernel_rfl)]; rfl
theorem conv_inf (b : Bool) : floatToFloatBits .f64 (if b then 18442240474082181120 else 9218868437227405312) .f32 = some (if b then 4286578688 else 2139095040) := by
  cases b <;> decide +kernel
set_option maxRecDepth 20000 in
theorem infinite (s : Int) (hs : s = 1 ∨ s = -1) (w : World) : Calls Tryz.prog 71 #[.int .i64 s] w fun e w' => e = .returned (.float .f32 (if s < 0 then 4286578688 else 2139095040)) ∧ w = w' := by
  have c0 := conv_inf false
  have c1 := conv_inf true
  have h0 := run_convert_float_float (P := Tryz.prog) w 64 39 .f64 .f32 9218868437227405312 2139095040 rfl Tryz.underlying39 c0
  have h1 := run_convert_float_float (P := Tryz.prog) w 64 39 .f64 .f32 18442240474082181120 4286578688 rfl Tryz.underlying39 c1
  clear c0 c1
  rcases hs with rfl | rfl
  · go_enter Tryz.func71, Tryz.ntmps71
    go_wp2
    go_ret
    exact ⟨rfl, rfl⟩
  · go_enter Tryz.func71, Tryz.ntmps71
    go_wp2
    go_ret
    exact ⟨rfl, rfl⟩
theorem at_hi : Wc.at32 2139095039 = 2139095039 := by decide
theorem at_lo : Wc.at32 (-2139095039) = 4286578687 := by decide
theorem cOver_p0 {w : World} {bm bs : Nat} (h1 : w.cell? ⟨bm, 0, none⟩ = some (.int .i64 0)) (h2 : w.cell? ⟨bs, 0, none⟩ = some (.int .i64 1)) :
    Calls Tryz.prog 69 #[.pointer (some ⟨bm, 0, none⟩), .pointer (some ⟨bs, 0, none⟩)] w fun e w' => e = .returned (.tuple #[.float .f32 2139095040, .int .i64 5]) ∧ w = w' := by
  have hI := infinite 1 (.inl rfl) w
  rw [if_neg (by decide)] at hI
  have HI := Lib.hid hI
  clear hI
  go_enter Tryz.func69, Tryz.ntmps69
  go_wp2_with fail
  refine HI.out.mono ?_
  rintro e1 w1 ⟨rfl, rfl⟩
  go_wp2
  go_ret2
  exact ⟨rfl, rfl⟩
theorem cOver_p1 {w : World} {bm bs : Nat} (h1 : w.cell? ⟨bm, 0, none⟩ = some (.int .i64 1)) (h2 : w.cell? ⟨bs, 0, none⟩ = some (.int .i64 1)) :
    Calls Tryz.prog 69 #[.pointer (some ⟨bm, 0, none⟩), .pointer (some ⟨bs, 0, none⟩)] w fun e w' => e = .returned (.tuple #[.float .f32 2139095039, .int .i64 5]) ∧ w = w' := by
  have hA := Wc.atPlace 2139095039 (by decide) (by decide) w
  rw [at_hi] at hA
  have HA := Lib.hid hA
  clear hA
  go_enter Tryz.func69, Tryz.ntmps69
  go_wp2_with fail
  refine HA.out.mono ?_
  rintro e1 w1 ⟨rfl, rfl⟩
  go_wp2
  go_ret2
  exact ⟨rfl, rfl⟩
theorem cOver_p2 {w : World} {bm bs : Nat} (h1 : w.cell? ⟨bm, 0, none⟩ = some (.int .i64 2)) (h2 : w.cell? ⟨bs, 0, none⟩ = some (.int .i64 1)) :
    Calls Tryz.prog 69 #[.pointer (some ⟨bm, 0, none⟩), .pointer (some ⟨bs, 0, none⟩)] w fun e w' => e = .returned (.tuple #[.float .f32 2139095040, .int .i64 5]) ∧ w = w' := by
  have hI := infinite 1 (.inl rfl) w
  rw [if_neg (by decide)] at hI
  have HI := Lib.hid hI
  clear hI
  go_enter Tryz.func69, Tryz.ntmps69
  go_wp2_with fail
  refine HI.out.mono ?_
  rintro e1 w1 ⟨rfl, rfl⟩
  go_wp2
  go_ret2
  exact ⟨rfl, rfl⟩
theorem cOver_p3 {w : World} {bm bs : Nat} (h1 : w.cell? ⟨bm, 0, none⟩ = some (.int .i64 3)) (h2 : w.cell? ⟨bs, 0, none⟩ = some (.int .i64 1)) :
    Calls Tryz.prog 69 #[.pointer (some ⟨bm, 0, none⟩), .pointer (some ⟨bs, 0, none⟩)] w fun e w' => e = .returned (.tuple #[.float .f32 2139095039, .int .i64 5]) ∧ w = w' := by
  have hA := Wc.atPlace 2139095039 (by decide) (by decide) w
  rw [at_hi] at hA
  have HA := Lib.hid hA
  clear hA
  go_enter Tryz.func69, Tryz.ntmps69
  go_wp2_with fail
  refine HA.out.mono ?_
  rintro e1 w1 ⟨rfl, rfl⟩
  go_wp2
  go_ret2
  exact ⟨rfl, rfl⟩
theorem cOver_p4 {w : World} {bm bs : Nat} (h1 : w.cell? ⟨bm, 0, none⟩ = some (.int .i64 4)) (h2 : w.cell? ⟨bs, 0, none⟩ = some (.int .i64 1)) :
    Calls Tryz.prog 69 #[.pointer (some ⟨bm, 0, none⟩), .pointer (some ⟨bs, 0, none⟩)] w fun e w' => e = .returned (.tuple #[.float .f32 2139095040, .int .i64 5]) ∧ w = w' := by
  have hI := infinite 1 (.inl rfl) w
  rw [if_neg (by decide)] at hI
  have HI := Lib.hid hI
  clear hI
  go_enter Tryz.func69, Tryz.ntmps69
  go_wp2_with fail
  refine HI.out.mono ?_
  rintro e1 w1 ⟨rfl, rfl⟩
  go_wp2
  go_ret2
  exact ⟨rfl, rfl⟩
theorem cOver_n0 {w : World} {bm bs : Nat} (h1 : w.cell? ⟨bm, 0, none⟩ = some (.int .i64 0)) (h2 : w.cell? ⟨bs, 0, none⟩ = some (.int .i64 (-1))) :
    Calls Tryz.prog 69 #[.pointer (some ⟨bm, 0, none⟩), .pointer (some ⟨bs, 0, none⟩)] w fun e w' => e = .returned (.tuple #[.float .f32 4286578688, .int .i64 5]) ∧ w = w' := by
  have hI := infinite (-1) (.inr rfl) w
  rw [if_pos (by decide)] at hI
  have HI := Lib.hid hI
  clear hI
  go_enter Tryz.func69, Tryz.ntmps69
  go_wp2_with fail
  refine HI.out.mono ?_
  rintro e1 w1 ⟨rfl, rfl⟩
  go_wp2
  go_ret2
  exact ⟨rfl, rfl⟩
theorem cOver_n1 {w : World} {bm bs : Nat} (h1 : w.cell? ⟨bm, 0, none⟩ = some (.int .i64 1)) (h2 : w.cell? ⟨bs, 0, none⟩ = some (.int .i64 (-1))) :
    Calls Tryz.prog 69 #[.pointer (some ⟨bm, 0, none⟩), .pointer (some ⟨bs, 0, none⟩)] w fun e w' => e = .returned (.tuple #[.float .f32 4286578688, .int .i64 5]) ∧ w = w' := by
  have hI := infinite (-1) (.inr rfl) w
  rw [if_pos (by decide)] at hI
  have HI := Lib.hid hI
  clear hI
  go_enter Tryz.func69, Tryz.ntmps69
  go_wp2_with fail
  refine HI.out.mono ?_
  rintro e1 w1 ⟨rfl, rfl⟩
  go_wp2
  go_ret2
  exact ⟨rfl, rfl⟩
theorem cOver_n2 {w : World} {bm bs : Nat} (h1 : w.cell? ⟨bm, 0, none⟩ = some (.int .i64 2)) (h2 : w.cell? ⟨bs, 0, none⟩ = some (.int .i64 (-1))) :
    Calls Tryz.prog 69 #[.pointer (some ⟨bm, 0, none⟩), .pointer (some ⟨bs, 0, none⟩)] w fun e w' => e = .returned (.tuple #[.float .f32 4286578687, .int .i64 5]) ∧ w = w' := by
  have hA := Wc.atPlace (-2139095039) (by decide) (by decide) w
  rw [at_lo] at hA
  have HA := Lib.hid hA
  clear hA
  go_enter Tryz.func69, Tryz.ntmps69
  go_wp2_with fail
  refine HA.out.mono ?_
  rintro e1 w1 ⟨rfl, rfl⟩
  go_wp2
  go_ret2
  exact ⟨rfl, rfl⟩
theorem cOver_n3 {w : World} {bm bs : Nat} (h1 : w.cell? ⟨bm, 0, none⟩ = some (.int .i64 3)) (h2 : w.cell? ⟨bs, 0, none⟩ = some (.int .i64 (-1))) :
    Calls Tryz.prog 69 #[.pointer (some ⟨bm, 0, none⟩), .pointer (some ⟨bs, 0, none⟩)] w fun e w' => e = .returned (.tuple #[.float .f32 4286578687, .int .i64 5]) ∧ w = w' := by
  have hA := Wc.atPlace (-2139095039) (by decide) (by decide) w
  rw [at_lo] at hA
  have HA := Lib.hid hA
  clear hA
  go_enter Tryz.func69, Tryz.ntmps69
  go_wp2_with fail
  refine HA.out.mono ?_
  rintro e1 w1 ⟨rfl, rfl⟩
  go_wp2
  go_ret2
  exact ⟨rfl, rfl⟩
theorem cOver_n4 {w : World} {bm bs : Nat} (h1 : w.cell? ⟨bm, 0, none⟩ = some (.int .i64 4)) (h2 : w.cell? ⟨bs, 0, none⟩ = some (.int .i64 (-1))) :
    Calls Tryz.prog 69 #[.pointer (some ⟨bm, 0, none⟩), .pointer (some ⟨bs, 0, none⟩)] w fun e w' => e = .returned (.tuple #[.float .f32 4286578688, .int .i64 5]) ∧ w = w' := by
  have hI := infinite (-1) (.inr rfl) w
  rw [if_pos (by decide)] at hI
  have HI := Lib.hid hI
  clear hI
  go_enter Tryz.func69, Tryz.ntmps69
  go_wp2_with fail
  refine HI.out.mono ?_
  rintro e1 w1 ⟨rfl, rfl⟩
  go_wp2
  go_ret2
  exact ⟨rfl, rfl⟩
theorem ovr_p (mode : Int) : ovr 1 mode = if mode = 3 ∨ mode = 1 then 2139095039 else 2139095040 := by
  unfold ovr
  by_cases h : mode = 3 ∨ mode = 1
  · rw [if_pos h, if_pos (by omega), if_neg (by decide)]
  · rw [if_neg h, if_neg (by omega), if_neg (by decide)]
theorem ovr_n (mode : Int) : ovr (-1) mode = if mode = 3 ∨ mode = 2 then 4286578687 else 4286578688 := by
  unfold ovr
  by_cases h : mode = 3 ∨ mode = 2
  · rw [if_pos h, if_pos (by omega), if_pos (by decide)]
  · rw [if_neg h, if_neg (by omega), if_pos (by decide)]
theorem cOver {w : World} {bm bs : Nat} {mode s : Int} (h1 : w.cell? ⟨bm, 0, none⟩ = some (.int .i64 mode)) (h2 : w.cell? ⟨bs, 0, none⟩ = some (.int .i64 s)) (hs : s = 1 ∨ s = -1) (hm : 0 ≤ mode ∧ mode ≤ 4) :
    Calls Tryz.prog 69 #[.pointer (some ⟨bm, 0, none⟩), .pointer (some ⟨bs, 0, none⟩)] w fun e w' => e = .returned (.tuple #[.float .f32 (ovr s mode), .int .i64 5]) ∧ w = w' := by
  have hm5 : mode = 0 ∨ mode = 1 ∨ mode = 2 ∨ mode = 3 ∨ mode = 4 := by omega
  rcases hs with rfl | rfl
  · rw [ovr_p]
    rcases hm5 with rfl | rfl | rfl | rfl | rfl
    · rw [if_neg (by decide)]; exact cOver_p0 h1 h2
    · rw [if_pos (by decide)]; exact cOver_p1 h1 h2
    · rw [if_neg (by decide)]; exact cOver_p2 h1 h2
    · rw [if_pos (by decide)]; exact cOver_p3 h1 h2
    · rw [if_neg (by decide)]; exact cOver_p4 h1 h2
  · rw [ovr_n]
    rcases hm5 with rfl | rfl | rfl | rfl | rfl
    · rw [if_neg (by decide)]; exact cOver_n0 h1 h2
    · rw [if_neg (by decide)]; exact cOver_n1 h1 h2
    · rw [if_pos (by decide)]; exact cOver_n2 h1 h2
    · rw [if_pos (by decide)]; exact cOver_n3 h1 h2
    · rw [if_neg (by decide)]; exact cOver_n4 h1 h2
theorem neg_hi : Op.negFloat .f32 2139095039 = 4286578687 := by rw [We.neg32 _ (by decide)]; decide
theorem neg_inf : Op.negFloat .f32 2139095040 = 4286578688 := by rw [We.neg32 _ (by decide)]; decide
theorem sOver_p0 {w : World} :
    Calls Tryz.prog 31 #[.int .i64 1, .int .i64 0] w fun e w' => e = .returned (.float .f32 2139095040) ∧ w = w' := by
  have HH := Lib.hid (fun (W : World) => We.l01Huge W)
  have hA := fun (W : World) => Wg.l01At 2139095039 (by decide) (by decide) W
  simp only [at_hi] at hA
  have HA := Lib.hid hA
  clear hA
  go_enter Tryz.func31, Tryz.ntmps31
  go_wp2_with fail
  refine (HH.out _).mono ?_
  rintro e1 w1 ⟨rfl, rfl⟩
  go_wp2
  go_ret
  exact ⟨rfl, rfl⟩
theorem sOver_p1 {w : World} :
    Calls Tryz.prog 31 #[.int .i64 1, .int .i64 1] w fun e w' => e = .returned (.float .f32 2139095039) ∧ w = w' := by
  have HH := Lib.hid (fun (W : World) => We.l01Huge W)
  have hA := fun (W : World) => Wg.l01At 2139095039 (by decide) (by decide) W
  simp only [at_hi] at hA
  have HA := Lib.hid hA
  clear hA
  go_enter Tryz.func31, Tryz.ntmps31
  go_wp2_with fail
  refine (HH.out _).mono ?_
  rintro e1 w1 ⟨rfl, rfl⟩
  go_wp2_with fail
  refine (HA.out _).mono ?_
  rintro e1 w1 ⟨rfl, rfl⟩
  go_wp2
  go_ret
  exact ⟨rfl, rfl⟩
theorem sOver_p2 {w : World} :
    Calls Tryz.prog 31 #[.int .i64 1, .int .i64 2] w fun e w' => e = .returned (.float .f32 2139095040) ∧ w = w' := by
  have HH := Lib.hid (fun (W : World) => We.l01Huge W)
  have hA := fun (W : World) => Wg.l01At 2139095039 (by decide) (by decide) W
  simp only [at_hi] at hA
  have HA := Lib.hid hA
  clear hA
  go_enter Tryz.func31, Tryz.ntmps31
  go_wp2_with fail
  refine (HH.out _).mono ?_
  rintro e1 w1 ⟨rfl, rfl⟩
  go_wp2
  go_ret
  exact ⟨rfl, rfl⟩
theorem sOver_p3 {w : World} :
    Calls Tryz.prog 31 #[.int .i64 1, .int .i64 3] w fun e w' => e = .returned (.float .f32 2139095039) ∧ w = w' := by
  have HH := Lib.hid (fun (W : World) => We.l01Huge W)
  have hA := fun (W : World) => Wg.l01At 2139095039 (by decide) (by decide) W
  simp only [at_hi] at hA
  have HA := Lib.hid hA
  clear hA
  go_enter Tryz.func31, Tryz.ntmps31
  go_wp2_with fail
  refine (HH.out _).mono ?_
  rintro e1 w1 ⟨rfl, rfl⟩
  go_wp2_with fail
  refine (HA.out _).mono ?_
  rintro e1 w1 ⟨rfl, rfl⟩
  go_wp2
  go_ret
  exact ⟨rfl, rfl⟩
theorem sOver_p4 {w : World} :
    Calls Tryz.prog 31 #[.int .i64 1, .int .i64 4] w fun e w' => e = .returned (.float .f32 2139095040) ∧ w = w' := by
  have HH := Lib.hid (fun (W : World) => We.l01Huge W)
  have hA := fun (W : World) => Wg.l01At 2139095039 (by decide) (by decide) W
  simp only [at_hi] at hA
  have HA := Lib.hid hA
  clear hA
  go_enter Tryz.func31, Tryz.ntmps31
  go_wp2_with fail
  refine (HH.out _).mono ?_
  rintro e1 w1 ⟨rfl, rfl⟩
  go_wp2
  go_ret
  exact ⟨rfl, rfl⟩
theorem sOver_n0 {w : World} :
    Calls Tryz.prog 31 #[.int .i64 (-1), .int .i64 0] w fun e w' => e = .returned (.float .f32 4286578688) ∧ w = w' := by
  have HH := Lib.hid (fun (W : World) => We.l01Huge W)
  have hA := fun (W : World) => Wg.l01At 2139095039 (by decide) (by decide) W
  simp only [at_hi] at hA
  have HA := Lib.hid hA
  clear hA
  go_enter Tryz.func31, Tryz.ntmps31
  go_wp2_with fail
  refine (HH.out _).mono ?_
  rintro e1 w1 ⟨rfl, rfl⟩
  go_wp2
  go_ret
  exact ⟨Wc.ret_float (neg_inf), rfl⟩
theorem sOver_n1 {w : World} :
    Calls Tryz.prog 31 #[.int .i64 (-1), .int .i64 1] w fun e w' => e = .returned (.float .f32 4286578688) ∧ w = w' := by
  have HH := Lib.hid (fun (W : World) => We.l01Huge W)
  have hA := fun (W : World) => Wg.l01At 2139095039 (by decide) (by decide) W
  simp only [at_hi] at hA
  have HA := Lib.hid hA
  clear hA
  go_enter Tryz.func31, Tryz.ntmps31
  go_wp2_with fail
  refine (HH.out _).mono ?_
  rintro e1 w1 ⟨rfl, rfl⟩
  go_wp2
  go_ret
  exact ⟨Wc.ret_float (neg_inf), rfl⟩
theorem sOver_n2 {w : World} :
    Calls Tryz.prog 31 #[.int .i64 (-1), .int .i64 2] w fun e w' => e = .returned (.float .f32 4286578687) ∧ w = w' := by
  have HH := Lib.hid (fun (W : World) => We.l01Huge W)
  have hA := fun (W : World) => Wg.l01At 2139095039 (by decide) (by decide) W
  simp only [at_hi] at hA
  have HA := Lib.hid hA
  clear hA
  go_enter Tryz.func31, Tryz.ntmps31
  go_wp2_with fail
  refine (HH.out _).mono ?_
  rintro e1 w1 ⟨rfl, rfl⟩
  go_wp2_with fail
  refine (HA.out _).mono ?_
  rintro e1 w1 ⟨rfl, rfl⟩
  go_wp2
  go_ret
  exact ⟨Wc.ret_float (neg_hi), rfl⟩
theorem sOver_n3 {w : World} :
    Calls Tryz.prog 31 #[.int .i64 (-1), .int .i64 3] w fun e w' => e = .returned (.float .f32 4286578687) ∧ w = w' := by
  have HH := Lib.hid (fun (W : World) => We.l01Huge W)
  have hA := fun (W : World) => Wg.l01At 2139095039 (by decide) (by decide) W
  simp only [at_hi] at hA
  have HA := Lib.hid hA
  clear hA
  go_enter Tryz.func31, Tryz.ntmps31
  go_wp2_with fail
  refine (HH.out _).mono ?_
  rintro e1 w1 ⟨rfl, rfl⟩
  go_wp2_with fail
  refine (HA.out _).mono ?_
  rintro e1 w1 ⟨rfl, rfl⟩
  go_wp2
  go_ret
  exact ⟨Wc.ret_float (neg_hi), rfl⟩
theorem sOver_n4 {w : World} :
    Calls Tryz.prog 31 #[.int .i64 (-1), .int .i64 4] w fun e w' => e = .returned (.float .f32 4286578688) ∧ w = w' := by
  have HH := Lib.hid (fun (W : World) => We.l01Huge W)
  have hA := fun (W : World) => Wg.l01At 2139095039 (by decide) (by decide) W
  simp only [at_hi] at hA
  have HA := Lib.hid hA
  clear hA
  go_enter Tryz.func31, Tryz.ntmps31
  go_wp2_with fail
  refine (HH.out _).mono ?_
  rintro e1 w1 ⟨rfl, rfl⟩
  go_wp2
  go_ret
  exact ⟨Wc.ret_float (neg_inf), rfl⟩
theorem sOver {w : World} {mode s : Int} (hs : s = 1 ∨ s = -1) (hm : 0 ≤ mode ∧ mode ≤ 4) :
    Calls Tryz.prog 31 #[.int .i64 s, .int .i64 mode] w fun e w' => e = .returned (.float .f32 (ovr s mode)) ∧ w = w' := by
  have hm5 : mode = 0 ∨ mode = 1 ∨ mode = 2 ∨ mode = 3 ∨ mode = 4 := by omega
  rcases hs with rfl | rfl
  · rw [ovr_p]
    rcases hm5 with rfl | rfl | rfl | rfl | rfl
    · rw [if_neg (by decide)]; exact sOver_p0
    · rw [if_pos (by decide)]; exact sOver_p1
    · rw [if_neg (by decide)]; exact sOver_p2
    · rw [if_pos (by decide)]; exact sOver_p3
    · rw [if_neg (by decide)]; exact sOver_p4
  · rw [ovr_n]
    rcases hm5 with rfl | rfl | rfl | rfl | rfl
    · rw [if_neg (by decide)]; exact sOver_n0
    · rw [if_neg (by decide)]; exact sOver_n1
    · rw [if_pos (by decide)]; exact sOver_n2
    · rw [if_pos (by decide)]; exact sOver_n3
    · rw [if_neg (by decide)]; exact sOver_n4
end Go.Proofs.YtjggbalhpflbbaaGreat.Ve
end
section
set_option linter.unusedSimpArgs false
set_option linter.unusedVariables false
namespace Go.Proofs.YtjggbalhpflbbaaGreat.Wh
open Go.RowKit Fp Go.Proofs.YtjggbalhpflbbaaGreat.Wc Go.Proofs.YtjggbalhpflbbaaGreat.Wd Go.Proofs.YtjggbalhpflbbaaGreat.We Go.Proofs.YtjggbalhpflbbaaGreat.Wf Go.Proofs.YtjggbalhpflbbaaGreat.Wg
theorem ord64 {x y : Nat} (hx : x < 18446744073709551616) (hy : y < 18446744073709551616) (nx : nan Ieee.double x = false) (ny : nan Ieee.double y = false) : FloatKind.f64.format.order x y = some (compare (pl Ieee.double x) (pl Ieee.double y)) :=
  order_pl hK64 hf64 (by rw [wd64]; exact hx) (by rw [wd64]; exact hy) nx ny
theorem ordn64 {x y : Nat} (hx : x < 18446744073709551616) (hy : y < 18446744073709551616) (n : nan Ieee.double x = true ∨ nan Ieee.double y = true) : FloatKind.f64.format.order x y = none :=
  order_nan hf64 (by rw [wd64]; exact hx) (by rw [wd64]; exact hy) n
end Go.Proofs.YtjggbalhpflbbaaGreat.Wh
end
section
set_option linter.unusedVariables false
set_option linter.unusedSimpArgs false
namespace Go.Proofs.YtjggbalhpflbbaaGreat.Vg
open Go.RowKit Go.Proofs.YtjggbalhpflbbaaGreat.Wc Go.Proofs.YtjggbalhpflbbaaGreat.Wd Go.Proofs.YtjggbalhpflbbaaGreat.We Go.Proofs.YtjggbalhpflbbaaGreat.Wh Go.Proofs.YtjggbalhpflbbaaGreat.Ve Fp
theorem andTop (b : Nat) (hb : b < 18446744073709551616) : bits .andNot .u64 (b : Int) 9223372036854775808 = ((b % 9223372036854775808 : Nat) : Int) := by
  have h := u64_andNot_nat b 9223372036854775808 hb (by decide)
  rw [show ((9223372036854775808 : Nat) : Int) = 9223372036854775808 from rfl] at h
  rw [h, show 18446744073709551615 - 9223372036854775808 = 2 ^ 63 - 1 by decide, Nat.and_two_pow_sub_one_eq_mod]
theorem mAbs (b : Nat) (hb : b < 18446744073709551616) (w : World) : Calls Tryz.prog 119 #[.float .f64 b] w fun e w' => e = .returned (.float .f64 (b % 9223372036854775808)) ∧ w = w' := by
  have h1 := andTop b hb
  go_enter Tryz.func119, Tryz.ntmps119
  go_wp2
  go_ret
  exact ⟨rfl, rfl⟩
theorem pl_small {a : Nat} (h : a < 9223372036854775808) : pl Ieee.double a = (a : Int) := by
  unfold pl sg rg sv
  rw [sw64, decide_eq_false (by omega), Nat.mod_eq_of_lt h]
  rfl
theorem nan_small {a : Nat} (h : a ≤ 9218868437227405312) : nan Ieee.double a = false := by
  unfold nan rg
  rw [ir64, sw64, Nat.mod_eq_of_lt (by omega)]
  exact decide_eq_false (by omega)
theorem ord_small {a c : Nat} (ha : a ≤ 9218868437227405312) (hc : c ≤ 9218868437227405312) : FloatKind.f64.format.order a c = some (compare (a : Int) (c : Int)) := by
  rw [ord64 (by omega) (by omega) (nan_small ha) (nan_small hc), pl_small (by omega), pl_small (by omega)]
theorem mIsInf (b : Nat) (hb : b < 18446744073709551616) (hf : b % 9223372036854775808 < 9218868437227405312) (w : World) : Calls Tryz.prog 112 #[.float .f64 b, .int .i64 0] w fun e w' => e = .returned (.bool false) ∧ w = w' := by
  have h1 := Lib.hid (mAbs b hb w)
  have h2 : (FloatKind.f64.format.order (b % 9223372036854775808) 9218868437227405311 == some .gt) = false := by
    rw [ord_small (by omega) (by decide), cmp_gt]
    exact decide_eq_false (by omega)
  generalize b % 9223372036854775808 = a at *
  clear hf
  go_enter Tryz.func112, Tryz.ntmps112
  go_wp2_with (first | (go_at_call 119; refine h1.out.mono ?_; rintro e1 w1 ⟨rfl, rfl⟩))
  go_ret
  exact ⟨rfl, rfl⟩
theorem nan_mod (b : Nat) : nan Ieee.double b = nan Ieee.double (b % 9223372036854775808) := by
  unfold nan rg
  rw [sw64, Nat.mod_mod]
theorem mIsNaN (b : Nat) (hb : b < 18446744073709551616) (w : World) : Calls Tryz.prog 113 #[.float .f64 b] w fun e w' => e = .returned (.bool (nan Ieee.double b)) ∧ w = w' := by
  have h1 : (FloatKind.f64.format.order b b != some .eq) = nan Ieee.double b := by
    cases hn : nan Ieee.double b with
    | true => rw [ordn64 hb hb (.inl hn)]; rfl
    | false =>
      rw [ord64 hb hb hn hn, bne, cmp_eq]
      simp
  go_enter Tryz.func113, Tryz.ntmps113
  go_wp2
  go_ret
  exact ⟨by first | rfl | (rw [h1]), rfl⟩
theorem mNormalize (b : Nat) (hb : b < 18446744073709551616) (h1 : 4503599627370496 ≤ b % 9223372036854775808) (hf : b % 9223372036854775808 < 9218868437227405312) (w : World) : Calls Tryz.prog 114 #[.float .f64 b] w fun e w' => e = .returned (.tuple #[.float .f64 b, .int .i64 0]) ∧ w = w' := by
  have hA := Lib.hid (mAbs b hb w)
  have h2 : (FloatKind.f64.format.order (b % 9223372036854775808) 4503599627370496 == some .lt) = false := by
    rw [ord_small (by omega) (by decide), cmp_lt]
    exact decide_eq_false (by omega)
  generalize b % 9223372036854775808 = a at *
  clear hf h1
  go_enter Tryz.func114, Tryz.ntmps114
  go_wp2_with (first | (go_at_call 119; refine hA.out.mono ?_; rintro e1 w1 ⟨rfl, rfl⟩))
  go_ret2
  exact ⟨rfl, rfl⟩
theorem and11 (n : Nat) (h : n < 4096) : bits .and .i64 (n : Int) 2047 = ((n % 2048 : Nat) : Int) := by
  have := bits_mask .i64 33 (by decide) (fun n h0 h1 => by rw [IntKind.wrap_i64]; omega) 11 (by decide) (n : Int) (by omega) (by omega)
  rw [show ((2 : Int) ^ 11 - 1) = 2047 from rfl] at this
  rw [this]; omega
theorem and_two_pow (b i : Nat) : b &&& 2 ^ i = b / 2 ^ i % 2 * 2 ^ i := by
  apply Nat.eq_of_testBit_eq
  intro j
  rw [Nat.testBit_and, Nat.testBit_two_pow, Nat.testBit_eq_decide_div_mod_eq (x := b / 2 ^ i % 2 * 2 ^ i)]
  rcases Nat.lt_trichotomy j i with h | h | h
  · rw [decide_eq_false (by omega), Bool.and_false]
    obtain ⟨d, rfl⟩ : ∃ d, i = j + 1 + d := ⟨i - j - 1, by omega⟩
    symm
    refine decide_eq_false ?_
    have e : b / 2 ^ (j + 1 + d) % 2 * 2 ^ (j + 1 + d) = (b / 2 ^ (j + 1 + d) % 2 * 2 ^ d * 2) * 2 ^ j := by
      generalize b / 2 ^ (j + 1 + d) % 2 = X
      rw [Nat.pow_add, Nat.pow_succ]
      ac_rfl
    rw [e, Nat.mul_div_cancel _ (Nat.two_pow_pos j)]
    omega
  · subst h
    rw [decide_eq_true rfl, Bool.and_true, Nat.mul_div_cancel _ (Nat.two_pow_pos j), Nat.testBit_eq_decide_div_mod_eq]
    congr 1
    simp
  · rw [decide_eq_false (by omega), Bool.and_false]
    symm
    refine decide_eq_false ?_
    have h1 : b / 2 ^ i % 2 < 2 := Nat.mod_lt _ (by decide)
    obtain ⟨d, rfl⟩ : ∃ d, j = i + 1 + d := ⟨j - i - 1, by omega⟩
    have h2 : b / 2 ^ i % 2 * 2 ^ i < 2 ^ (i + 1 + d) := by
      have h3 : 2 ^ (i + 1) ≤ 2 ^ (i + 1 + d) := Nat.pow_le_pow_right (by decide) (by omega)
      have h4 : b / 2 ^ i % 2 * 2 ^ i ≤ 1 * 2 ^ i := Nat.mul_le_mul_right _ (by omega)
      have h5 := Nat.two_pow_pos i
      rw [Nat.pow_succ] at h3
      omega
    rw [Nat.div_eq_of_lt h2]
    decide
theorem and_top (b : Nat) (hb : b < 18446744073709551616) : b &&& 9223372036854775808 = b / 9223372036854775808 * 9223372036854775808 := by
  have h := and_two_pow b 63
  rw [show (2 : Nat) ^ 63 = 9223372036854775808 by decide] at h
  rw [h]
  omega
theorem clear11 (b : Nat) (hb : b < 18446744073709551616) : bits .andNot .u64 (b : Int) 9218868437227405312 = ((b / 9223372036854775808 * 9223372036854775808 + b % 4503599627370496 : Nat) : Int) := by
  have h := u64_andNot_nat b 9218868437227405312 hb (by decide)
  rw [show ((9218868437227405312 : Nat) : Int) = 9218868437227405312 from rfl] at h
  rw [h, show 18446744073709551615 - 9218868437227405312 = 9223372036854775808 ||| (2 ^ 52 - 1) by decide, Nat.and_or_distrib_left, Nat.and_two_pow_sub_one_eq_mod, and_top b hb]
  congr 1
  exact nat_join 63 _ _ (by rw [show (2 : Nat) ^ 63 = 9223372036854775808 by decide]; omega) (by rw [show (2 : Nat) ^ 63 = 9223372036854775808 by decide, show (2 : Nat) ^ 52 = 4503599627370496 by decide]; omega)
def w64 (s : Bool) (E f : Nat) : Nat := (if s then 9223372036854775808 else 0) + E * 4503599627370496 + f
theorem one64 : IsN Ieee.double 4607182418800017408 false (V 1 0) := by
  have h := isN_word (f := Ieee.double) (m := 4503599627370496) (e := -52) false ⟨by rw [bi64]; decide, by rw [lp64]; decide, .inr (by rw [bi64]; decide)⟩ (by decide)
  rw [show V 4503599627370496 (-52) = V 1 0 by
    have := V_shift 1 (-52) 52 (by decide)
    exact this.symm] at h
  exact h
theorem isN_w64 (s : Bool) (E f : Nat) (h1 : 1 ≤ E) (h2 : E ≤ 2046) (hf : f < 4503599627370496) : IsN Ieee.double (w64 s E f) s (V (4503599627370496 + f) ((E : Int) - 1075)) := by
  have h := isN_word (f := Ieee.double) (m := 4503599627370496 + f) (e := (E : Int) - 1075) s ⟨by rw [bi64]; omega, by rw [lp64]; omega, .inr (by rw [bi64]; omega)⟩ (by unfold rung; rw [lp64, bi64, ir64]; omega)
  have e : Ieee.double.word s (rung Ieee.double (4503599627370496 + f) ((E : Int) - 1075)) = w64 s E f := by
    unfold rung w64 Ieee.Format.word
    rw [lp64, bi64, sw64]
    cases s <;> simp <;> omega
  rw [e] at h
  exact h
theorem mul_one64 {r : Nat} {s : Bool} {m : Nat} {e : Int} (h : IsN Ieee.double r s (V m e)) (hr : Rp Ieee.double m e) : Ieee.double.mul 4607182418800017408 r = some r := by
  obtain ⟨r2, h1, h2⟩ := mul_isN (by decide) one64 h hr (by rw [V_U, Nat.one_mul, Nat.mul_comm])
  rw [h1, h2.unique hK64 (by rw [Bool.false_xor]; exact h)]
set_option maxRecDepth 20000 in
theorem mldexp (s : Bool) (E f : Nat) (q : Int) (h1 : 1 ≤ E) (h2 : E ≤ 2046) (hf : f < 4503599627370496) (h3 : 1 ≤ (E : Int) + q) (h4 : (E : Int) + q ≤ 2046) (w : World) :
    Calls Tryz.prog 106 #[.float .f64 (w64 s E f), .int .i64 q] w fun e w' => e = .returned (.float .f64 (w64 s ((E : Int) + q).toNat f)) ∧ w = w' := by
  obtain ⟨b, hbv⟩ : ∃ b, b = w64 s E f := ⟨_, rfl⟩
  have hm : b % 9223372036854775808 = E * 4503599627370496 + f := by
    rw [hbv]; unfold w64
    cases s <;> simp <;> omega
  have hb : b < 18446744073709551616 := by
    rw [hbv]; unfold w64
    cases s <;> simp <;> omega
  have hn : nan Ieee.double b = false := by
    rw [nan_mod, hm]
    exact nan_small (by omega)
  have hz : (FloatKind.f64.format.order b 0 == some .eq) = false := by
    rw [ord64 hb (by decide) hn (nan_small (by decide)), cmp_eq, pl_small (a := 0) (by decide)]
    refine decide_eq_false ?_
    unfold pl rg sv
    rw [sw64, hm]
    split <;> omega
  have HI := Lib.hid (mIsInf b hb (by omega) w)
  have hN := mIsNaN b hb w
  rw [hn] at hN
  have HN := Lib.hid hN
  have HZ := Lib.hid (mNormalize b hb (by omega) (by omega) w)
  have k1 : bits .and .i64 ((b : Int) / 4503599627370496) 2047 = (E : Int) := by
    have := and11 (b / 4503599627370496) (by omega)
    rw [show ((b : Int) / 4503599627370496) = ((b / 4503599627370496 : Nat) : Int) from rfl, this]
    omega
  obtain ⟨c, hc⟩ : ∃ c, c = b / 9223372036854775808 * 9223372036854775808 + b % 4503599627370496 := ⟨_, rfl⟩
  have k2 := clear11 b hb
  rw [← hc] at k2
  obtain ⟨r, hr⟩ : ∃ r, r = w64 s ((E : Int) + q).toNat f := ⟨_, rfl⟩
  have hcv : c = (if s then 9223372036854775808 else 0) + f := by
    rw [hc, hbv]; unfold w64
    cases s <;> simp <;> omega
  have k3 : bits .or .u64 (c : Int) ((q + ((E : Int) - 1023) + 1023) * 4503599627370496) = (r : Int) := by
    obtain ⟨G, hG⟩ : ∃ G : Nat, (E : Int) + q = G := ⟨((E : Int) + q).toNat, by omega⟩
    rw [show q + ((E : Int) - 1023) + 1023 = (E : Int) + q by omega, hG]
    have h := bits_or_u64_nat c (G * 4503599627370496) (by rw [hcv]; cases s <;> simp <;> omega) (by omega)
    rw [show ((G : Int) * 4503599627370496) = ((G * 4503599627370496 : Nat) : Int) by simp, h, hr, hG, Int.toNat_natCast]
    congr 1
    rw [hcv]
    unfold w64
    have e1 : (if s then 9223372036854775808 else 0) + f = (if s then 9223372036854775808 else 0) ||| f := by
      symm
      exact nat_join 63 _ _ (by cases s <;> decide) (by rw [show (2 : Nat) ^ 63 = 9223372036854775808 by decide]; omega)
    rw [e1, Nat.or_assoc, Nat.or_comm f, nat_join 52 (G * 4503599627370496) f (by rw [show (2 : Nat) ^ 52 = 4503599627370496 by decide]; omega) hf]
    rw [nat_join 63 _ _ (by cases s <;> decide) (by rw [show (2 : Nat) ^ 63 = 9223372036854775808 by decide]; omega)]
    omega
  have hrun := run_float_arith (P := Tryz.prog) w .mul 64 .f64 4607182418800017408 r r (mul_one64 (hr ▸ isN_w64 s ((E : Int) + q).toNat f (by omega) (by omega) hf) ⟨by rw [bi64]; omega, by rw [lp64]; omega, by rw [top64]; omega⟩)
  rw [← hbv]
  have HB := Lib.hid hbv
  have HC := Lib.hid hc
  have HR := Lib.hid hr
  clear hN hn hm hbv hc hr hcv
  go_enter Tryz.func106, Tryz.ntmps106
  go_wp2_with (first | (go_at_call 112; refine HI.out.mono ?_; rintro e1 w1 ⟨rfl, rfl⟩) | (go_at_call 113; refine HN.out.mono ?_; rintro e1 w1 ⟨rfl, rfl⟩) | (go_at_call 114; refine HZ.out.mono ?_; rintro e1 w1 ⟨rfl, rfl⟩))
  go_ret
  exact ⟨ret_float HR.out, rfl⟩
theorem mLdexp0 {b : Nat} {s : Bool} (hb : IsN Ieee.double b s (V 0 0)) (q : Int) (w : World) :
    Calls Tryz.prog 80 #[.float .f64 b, .int .i64 q] w fun e' w' => e' = .returned (.float .f64 b) ∧ w = w' := by
  have hz : (FloatKind.f64.format.order b 0 == some .eq) = true := by
    have h0 := isN_word (f := Ieee.double) (m := 0) (e := -1074) false ⟨by rw [bi64]; decide, by rw [lp64]; decide, .inl (by rw [lp64])⟩ (by decide)
    have h0' : IsN Ieee.double 0 false (V 0 (-1074)) := h0
    have h := order_isN hK64 hb h0'
    rw [V_zero, V_zero] at h
    show (Ieee.double.order b 0 == some .eq) = true
    rw [h]
    cases s <;> rfl
  have HL := Lib.hid (show Calls Tryz.prog 106 #[.float .f64 b, .int .i64 q] w fun e' w' => e' = .returned (.float .f64 b) ∧ w = w' by
    go_enter Tryz.func106, Tryz.ntmps106
    go_wp2
    go_ret
    exact ⟨rfl, rfl⟩)
  clear hz hb
  go_enter Tryz.func80, Tryz.ntmps80
  go_wp2_with (first | (go_at_call 106; refine HL.out.mono ?_; rintro e1 w1 ⟨rfl, rfl⟩))
  go_ret
  exact ⟨rfl, rfl⟩
theorem mLdexp {b m : Nat} {s : Bool} (hb : IsN Ieee.double b s (V m 0)) (hm0 : 0 < m) (hm : m < 9007199254740992) {q : Int} (h1 : -1000 ≤ q) (h2 : q ≤ 900) (w : World) :
    Calls Tryz.prog 80 #[.float .f64 b, .int .i64 q] w fun e' w' => (∃ r, e' = .returned (.float .f64 r) ∧ IsN Ieee.double r s (V m q)) ∧ w = w' := by
  have hl : 2 ^ m.log2 ≤ m := Nat.log2_self_le (by omega)
  have hl2 : m < 2 ^ (m.log2 + 1) := Nat.lt_log2_self
  have hl3 : m.log2 < 53 := (Nat.log2_lt (by omega)).2 (by rw [show (2 : Nat) ^ 53 = 9007199254740992 by decide]; exact hm)
  obtain ⟨d, hd⟩ : ∃ d, d = 52 - m.log2 := ⟨_, rfl⟩
  have e52 : (2 : Nat) ^ 52 = 4503599627370496 := by decide
  have hp : 2 ^ m.log2 * 2 ^ d = 4503599627370496 := by rw [← Nat.pow_add, show m.log2 + d = 52 by omega, e52]
  have hlo : 4503599627370496 ≤ m * 2 ^ d := by rw [← hp]; exact Nat.mul_le_mul_right _ hl
  have hhi : m * 2 ^ d < 9007199254740992 := by
    have := Nat.mul_lt_mul_of_pos_right hl2 (Nat.two_pow_pos d)
    rw [Nat.pow_succ, Nat.mul_right_comm, hp] at this
    omega
  obtain ⟨f, hf⟩ : ∃ f, m * 2 ^ d = 4503599627370496 + f := ⟨m * 2 ^ d - 4503599627370496, by omega⟩
  have hv : ∀ k : Int, -1000 ≤ k → V (4503599627370496 + f) (((1075 - d : Nat) : Int) + k - 1075) = V m k := by
    intro k hk
    have h := V_shift m (k - d) d (by unfold K; omega)
    rw [show k - d + (d : Int) = k by omega, hf] at h
    rw [h]
    congr 1
    omega
  have hw := isN_w64 s (1075 - d) f (by omega) (by omega) (by omega)
  have hv0 := hv 0 (by omega)
  rw [Int.add_zero] at hv0
  rw [hv0] at hw
  have hbe : b = w64 s (1075 - d) f := hb.unique hK64 hw
  have HL := mldexp s (1075 - d) f q (by omega) (by omega) (by omega) (by omega) (by omega) w
  have hr := isN_w64 s (((1075 - d : Nat) : Int) + q).toNat f (by omega) (by omega) (by omega)
  rw [show (((((1075 - d : Nat) : Int) + q).toNat : Nat) : Int) - 1075 = ((1075 - d : Nat) : Int) + q - 1075 by omega, hv q h1] at hr
  generalize w64 s (((1075 - d : Nat) : Int) + q).toNat f = r at *
  rw [← hbe] at HL
  have HL2 := Lib.hid HL
  have HR := Lib.hid hr
  clear HL hr hbe hw hv0 hv hf hhi hlo hp e52 hd hl hl2 hl3 hb
  go_enter Tryz.func80, Tryz.ntmps80
  go_wp2_with (first | (go_at_call 106; refine HL2.out.mono ?_; rintro e1 w1 ⟨rfl, rfl⟩))
  go_ret
  exact ⟨⟨r, rfl, HR.out⟩, rfl⟩
end Go.Proofs.YtjggbalhpflbbaaGreat.Vg
end
