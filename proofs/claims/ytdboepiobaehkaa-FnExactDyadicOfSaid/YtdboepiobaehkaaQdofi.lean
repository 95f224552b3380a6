/- Lemmas of the claim: Wb, Wc, Wd, We. -/
import Derived.Test.YtdboepiobaehkaaProg
import Derived.WalkKit
import Derived.WalkSpells
import Derived.WalkLawsBesides
import Derived.KernelRfl
import Derived.Lib.Hide
import Derived.Handy
import Derived.Test.YtdboepiobaehkaaQdofb
import Derived.Laws.BitsLemmas
import Derived.Test.YtdboepiobaehkaaQdofc
section
namespace Go.Proofs.Ytdboepiobaehkaa.Wb
end Go.Proofs.Ytdboepiobaehkaa.Wb
end
section
set_option linter.unusedSimpArgs false
set_option linter.unusedVariables false
namespace Go.Proofs.Ytdboepiobaehkaa.Wc
open Go.RowKit Fp
theorem ret_bool {a b : Bool} (h : a = b) : Ending.returned (.bool a) = .returned (.bool b) := by rw [h]
theorem ret_float {k : FloatKind} {a b : Nat} (h : a = b) : Ending.returned (.float k a) = .returned (.float k b) := by rw [h]
theorem ret_ints {k k' : IntKind} {a b a' b' : Int} (h : a = b) (h' : a' = b') : Ending.returned (.tuple #[.int k a, .int k' a']) = .returned (.tuple #[.int k b, .int k' b']) := by rw [h, h']
theorem wraps_u32 (n : Int) (h₀ : 0 ≤ n) (h₁ : n < 2 ^ 32) : IntKind.u32.wrap n = n := by rw [IntKind.wrap_u32]; omega
theorem and255 (x : Nat) (h : x < 4294967296) : bits .and .u32 ((x : Int) / 8388608) 255 = ((x / 8388608 % 256 : Nat) : Int) := by
  have := bits_mask .u32 32 (by decide) wraps_u32 8 (by decide) ((x : Int) / 8388608) (by omega) (by omega)
  rw [show ((2 : Int) ^ 8 - 1) = 255 from rfl] at this
  rw [this]; omega
theorem andFr (x : Nat) (h : x < 4294967296) : bits .and .u32 (x : Int) 8388607 = ((x % 8388608 : Nat) : Int) := by
  have := bits_mask .u32 32 (by decide) wraps_u32 23 (by decide) (x : Int) (by omega) (by omega)
  rw [show ((2 : Int) ^ 23 - 1) = 8388607 from rfl] at this
  rw [this]; omega
@[go_sem] theorem bits32 (x : Nat) (w : World) : (callFunc 136 #[.float .f32 x]).run Try.prog w = .ok (.value (.int .u32 (x : Int))) w := by
  rw [run_callFunc_extern (e := Extern.MathFloatBits.float32bits) Try.func136 (by kernel_rfl) (by kernel_rfl) (by kernel_rfl) (by kernel_rfl)]
  rfl
@[go_sem] theorem from32 (n : Int) (w : World) : (callFunc 205 #[.int .u32 n]).run Try.prog w = .ok (.value (.float .f32 n.toNat)) w := by rw [run_callFunc_extern (e := Extern.MathFloatBits.float32frombits) Try.func205 (by kernel_rfl) (by kernel_rfl) (by kernel_rfl) (by kernel_rfl)]; rfl
theorem fin32 (x : Nat) (h : x < 4294967296) : fin Ieee.single x = (((x / 8388608 % 256 : Nat) : Int) != 255) := by
  unfold fin rg
  rw [sw32, ir32, Bool.eq_iff_iff]
  simp
  omega
theorem sg32 (x : Nat) (h : x < 4294967296) : sg Ieee.single x = (((x : Int) / 2147483648) != 0) := by
  unfold sg
  rw [sw32, Bool.eq_iff_iff]
  simp
  omega
set_option maxHeartbeats 400000 in
theorem isFinite (x : Nat) (hx : x < 4294967296) (w : World) : Calls Try.prog 74 #[.float .f32 x] w fun e w' => e = .returned (.bool (fin Ieee.single x)) ∧ w = w' := by
  go_enter Try.func74, Try.ntmps74
  go_wp2
  go_ret
  exact ⟨by rw [fin32 x hx, ← and255 x hx]; rfl, rfl⟩
theorem rg_lt (x : Nat) : rg Ieee.single x < 2147483648 := by unfold rg; rw [sw32]; omega
theorem pl32 (x : Nat) : pl Ieee.single x = sv (sg Ieee.single x) (x % 2147483648) := by unfold pl rg; rw [sw32]
def mant (x : Nat) : Nat := if x / 8388608 % 256 = 0 then x % 8388608 else x % 8388608 + 8388608
def expo (x : Nat) : Int := if x / 8388608 % 256 = 0 then -149 else ((x / 8388608 % 256 : Nat) : Int) - 150
set_option maxHeartbeats 400000 in
theorem parts (x : Nat) (hx : x < 4294967296) (w : World) : Calls Try.prog 137 #[.float .f32 x] w fun e w' => e = .returned (.tuple #[.int .i64 (sv (sg Ieee.single x) (mant x)), .int .i64 (expo x)]) ∧ w = w' := by
  go_enter Try.func137, Try.ntmps137
  go_wp2
  all_goals
    go_ret2
    refine ⟨ret_ints ?_ ?_, rfl⟩
  all_goals (rw [and255 x hx] at *)
  all_goals (try rw [andFr x hx])
  all_goals (have h3 := sg32 x hx; unfold wrap64 at *)
  all_goals (first | (have h4 : x / 8388608 % 256 = 0 := (by omega); simp only [mant, expo, if_pos h4]) | (have h4 : ¬ (x / 8388608 % 256 = 0) := (by omega); simp only [mant, expo, if_neg h4]))
  all_goals (try (rw [h3]; simp only [*, sv, if_true, if_false, Bool.false_eq_true]))
  all_goals omega
end Go.Proofs.Ytdboepiobaehkaa.Wc
end
section
set_option linter.unusedSimpArgs false
set_option linter.unusedVariables false
namespace Go.Proofs.Ytdboepiobaehkaa.Wd
open Go.RowKit Fp Go.Proofs.Ytdboepiobaehkaa.Wc
theorem run_arith_none {P : Program} (w : World) (op : BinOp) (hop : op = .add ∨ op = .sub ∨ op = .mul ∨ op = .quo) (t : TypeId) (x y : Nat) (h : floatBits op .f32 x y = none) :
    ∃ r, (binOp op t (.float .f32 x) (.float .f32 y)).run P w = .ok (.float .f32 r) w.drew ∧ r < 4294967296 ∧ nan Ieee.single r = true := by
  refine ⟨(Question.nanBits .f32 x y).cut (w.tape w.drawn (Question.nanBits .f32 x y)), ?_, ?_, ?_⟩
  · unfold floatBits at h
    rcases hop with rfl | rfl | rfl | rfl <;> simp only at h <;> simp [binOp, Op.floatArith, h, Question.forced]
  · generalize w.tape w.drawn (Question.nanBits .f32 x y) = q
    simp only [Question.cut, Nat.reducePow, Nat.reduceSub]
    omega
  · generalize w.tape w.drawn (Question.nanBits .f32 x y) = q
    simp only [Question.cut, Nat.reducePow, Nat.reduceSub]
    unfold nan rg
    rw [sw32, ir32]
    simp only [decide_eq_true_eq]
    have hb : q / 2 % 8388607 < 8388607 := Nat.mod_lt _ (by decide)
    have ha : q % 2 = 0 ∨ q % 2 = 1 := by omega
    generalize q / 2 % 8388607 = b at *
    rcases ha with ha | ha <;> rw [ha] <;> omega
theorem sub32_fin (x : Nat) (hx : x < 4294967296) (h : fin Ieee.single x = true) : floatBits .sub .f32 x x = some 0 := by
  have hx' : x < 2 ^ Ieee.single.width := by rw [wd32]; exact hx
  obtain ⟨m, e, _, _, _, hn⟩ := isN_fin hf32 hx' h
  obtain ⟨r, hr, rfl⟩ := sub_self hn
  exact hr
theorem sub32_not (x : Nat) (hx : x < 4294967296) (h : fin Ieee.single x = false) : floatBits .sub .f32 x x = none := by
  have hx' : x < 2 ^ Ieee.single.width := by rw [wd32]; exact hx
  show Ieee.single.sub x x = none
  unfold Ieee.Format.sub
  cases hn : nan Ieee.single x with
  | true => obtain ⟨s, t, hr⟩ := read_nan hf32 hx' hn; rw [hr]; rfl
  | false =>
    rw [(read_inf hf32 hx' h hn).1]
    cases sg Ieee.single x <;> rfl
set_option maxHeartbeats 400000 in
theorem l01Finite (x : Nat) (hx : x < 4294967296) (w : World) : Calls Try.prog 72 #[.float .f32 x] w fun e w' => e = .returned (.bool (fin Ieee.single x)) ∧ ∃ n, w' = w.drewN n := by
  cases hf : fin Ieee.single x with
  | true =>
    have hr := run_float_arith (P := Try.prog) w .sub 35 .f32 x x 0 (sub32_fin x hx hf)
    clear hf
    go_enter Try.func72, Try.ntmps72
    go_wp2
    go_ret
    exact ⟨rfl, 0, rfl⟩
  | false =>
    obtain ⟨r, hr, h1, h2⟩ := run_arith_none (P := Try.prog) w .sub (by simp) 35 x x (sub32_not x hx hf)
    have ho : FloatKind.f32.format.order r 0 = none := order_nan hf32 (by rw [wd32]; exact h1) (by rw [wd32]; omega) (.inl h2)
    have HO := Lib.hid ho
    clear hf h2 ho
    go_enter Try.func72, Try.ntmps72
    go_wp2
    go_ret
    exact ⟨ret_bool (by rw [HO.out]; rfl), 1, rfl⟩
theorem ord32 {x y : Nat} (hx : x < 4294967296) (hy : y < 4294967296) (nx : nan Ieee.single x = false) (ny : nan Ieee.single y = false) : FloatKind.f32.format.order x y = some (compare (pl Ieee.single x) (pl Ieee.single y)) :=
  order_pl hK32 hf32 (by rw [wd32]; exact hx) (by rw [wd32]; exact hy) nx ny
theorem nan0 : nan Ieee.single 0 = false := by decide
theorem pl0 : pl Ieee.single 0 = 0 := by decide
theorem cmp_lt (a b : Int) : ((some (compare a b) : Option Ordering) == some .lt) = decide (a < b) := by
  rw [compare_int]; by_cases h : a < b
  · simp [h]
  · by_cases h' : a = b <;> simp [h, h']
theorem cmp_gt (a b : Int) : ((some (compare a b) : Option Ordering) == some .gt) = decide (b < a) := by
  rw [compare_int]; by_cases h : a < b
  · simp [h]; omega
  · by_cases h' : a = b
    · simp [h']
    · simp [h, h']; omega
theorem cmp_eq (a b : Int) : ((some (compare a b) : Option Ordering) == some .eq) = decide (a = b) := by
  rw [compare_int]; by_cases h : a < b
  · simp [h]; omega
  · by_cases h' : a = b <;> simp [h, h']
theorem lt32 {x y : Nat} (hx : x < 4294967296) (hy : y < 4294967296) (nx : nan Ieee.single x = false) (ny : nan Ieee.single y = false) : (FloatKind.f32.format.order x y == some .lt) = decide (pl Ieee.single x < pl Ieee.single y) := by rw [ord32 hx hy nx ny, cmp_lt]
theorem eq32 {x y : Nat} (hx : x < 4294967296) (hy : y < 4294967296) (nx : nan Ieee.single x = false) (ny : nan Ieee.single y = false) : (FloatKind.f32.format.order x y == some .eq) = decide (pl Ieee.single x = pl Ieee.single y) := by rw [ord32 hx hy nx ny, cmp_eq]
theorem split32 (x : Nat) (hx : x < 4294967296) : x = Ieee.single.word (sg Ieee.single x) (rg Ieee.single x) := by
  unfold Ieee.Format.word sg rg
  rw [sw32]
  by_cases h : 2147483648 ≤ x
  · simp [h]; omega
  · simp [h]; omega
theorem pl_zero {x : Nat} (h : pl Ieee.single x = 0) : rg Ieee.single x = 0 := by
  unfold pl sv at h; split at h <;> omega
theorem sg_of_pl {x : Nat} (h : pl Ieee.single x ≠ 0) : sg Ieee.single x = decide (pl Ieee.single x < 0) := by
  unfold pl sv at *; split at h <;> simp_all <;> omega
end Go.Proofs.Ytdboepiobaehkaa.Wd
end
section
set_option linter.unusedSimpArgs false
set_option linter.unusedVariables false
namespace Go.Proofs.Ytdboepiobaehkaa.We
open Go.RowKit Fp Go.Proofs.Ytdboepiobaehkaa.Wc Go.Proofs.Ytdboepiobaehkaa.Wd
set_option maxHeartbeats 400000 in
theorem l01Twos (x : Nat) (k : Int) (s : Bool) (m : Nat) (e : Int) (hx : IsN Ieee.double x s (V m e)) (hm : m < 9007199254740992) (h1 : -1074 ≤ e) (h2 : e ≤ 971) (h3 : -1074 ≤ e + k) (h4 : e + k ≤ 971) (w : World) :
    Calls Try.prog 156 #[.float .f64 x, .int .i64 k] w fun e' w' => (∃ r, e' = .returned (.float .f64 r) ∧ IsN Ieee.double r s (V m (e + k))) ∧ w = w' := by
  have hb : m < 2 * Ieee.double.binade := by rw [bi64]; omega
  go_enter Try.func156, Try.ntmps156
  go_wp2
  go_loop [0, 1] (fun x k' => ∃ (b : Nat) (j : Int), x = .float .f64 b ∧ k' = .int .i64 j ∧ Hid (IsN Ieee.double b s (V m (e + k - j))) ∧ (0 < j → j ≤ k) ∧ (j ≤ 0 → j = k ∨ j = 0 ∧ 0 ≤ k)) (fun _ k' => (intOf k').toNat)
  case atStart => exact ⟨x, k, rfl, rfl, Lib.hid (by rw [show e + k - k = e by omega]; exact hx), fun _ => Int.le_refl _, fun _ => .inl rfl⟩
  case round =>
    obtain ⟨b, j, rfl, rfl, HN, hj1, hj2⟩ := hrel
    by_cases hj : 0 < j
    · have hk := hj1 hj
      clear hj1 hj2
      obtain ⟨r, hr, hn⟩ := double_two HN.out (by omega) ⟨hb, by rw [lp64]; omega, by rw [top64]; omega⟩
      rw [show e + k - j + 1 = e + k - (j - 1) by omega] at hn
      have HN2 := Lib.hid hn
      have hrun := run_float_arith (P := Try.prog) w .mul 52 .f64 b 4611686018427387904 r hr
      clear hr hn
      go_wp2
      go_round
      case rel => exact ⟨r, j - 1, rfl, rfl, HN2, fun _ => by omega, fun _ => by omega⟩
      case measure => simp [intOf]; omega
    · have hk := hj2 (by omega)
      clear hj1 hj2
      go_wp2
      go_loop [0, 1] (fun x k' => ∃ (b : Nat) (j : Int), x = .float .f64 b ∧ k' = .int .i64 j ∧ Hid (IsN Ieee.double b s (V m (e + k - j))) ∧ j ≤ 0 ∧ (j < 0 → k ≤ j)) (fun _ k' => (-(intOf k')).toNat)
      case atStart => exact ⟨b, j, rfl, rfl, HN, by omega, fun _ => by omega⟩
      case round =>
        obtain ⟨b, j, rfl, rfl, HN, hj1, hj2⟩ := hrel
        by_cases hj : j < 0
        · have hk := hj2 hj
          clear hj2
          obtain ⟨r, hr, hn⟩ := halve_two HN.out (by omega) ⟨hb, by rw [lp64]; omega, by rw [top64]; omega⟩
          rw [show e + k - j - 1 = e + k - (j + 1) by omega] at hn
          have HN2 := Lib.hid hn
          have hrun := run_float_arith (P := Try.prog) w .quo 52 .f64 b 4611686018427387904 r hr
          clear hr hn
          go_wp2
          go_round
          case rel => exact ⟨r, j + 1, rfl, rfl, HN2, by omega, fun _ => by omega⟩
          case measure => simp [intOf]; omega
        · obtain rfl : j = 0 := by omega
          go_wp2
          go_ret
          exact ⟨⟨b, rfl, by have := HN.out; rwa [Int.sub_zero] at this⟩, rfl⟩
def opp (x : Nat) : Nat := Ieee.single.word (!(sg Ieee.single x)) (rg Ieee.single x)
theorem xor_top (i r : Nat) (h : r < 2 ^ i) : r ^^^ 2 ^ i = 2 ^ i + r := by
  apply Nat.eq_of_testBit_eq
  intro j
  rw [Nat.testBit_xor, Nat.testBit_two_pow]
  rcases Nat.lt_trichotomy j i with hj | hj | hj
  · rw [Nat.testBit_two_pow_add_gt hj]
    have : ¬ i = j := by omega
    simp [this]
  · subst hj; rw [Nat.testBit_two_pow_add_eq]; simp
  · have h1 : 2 ^ i + r < 2 ^ j := by
      have : 2 ^ (i + 1) ≤ 2 ^ j := Nat.pow_le_pow_right (by omega) (by omega)
      rw [Nat.pow_succ] at this; omega
    rw [Nat.testBit_lt_two_pow h1, Nat.testBit_lt_two_pow (by omega)]
    have : ¬ i = j := by omega
    simp [this]
theorem neg32 (x : Nat) (hx : x < 4294967296) : Op.negFloat .f32 x = opp x := by
  have hs := split32 x hx
  have hr := rg_lt x
  unfold opp
  show x ^^^ 2 ^ 31 = _
  generalize rg Ieee.single x = r at *
  cases hg : sg Ieee.single x with
  | true =>
    rw [hg] at hs
    have : x = 2 ^ 31 + r := by rw [hs]; simp [Ieee.Format.word, sw32]
    rw [this, ← xor_top 31 r (by omega), Nat.xor_assoc, Nat.xor_self, Nat.xor_zero]; rfl
  | false =>
    rw [hg] at hs
    have : x = r := hs
    rw [this, xor_top 31 r (by omega)]
    simp [Ieee.Format.word, sw32]
@[go_sem] theorem unary_neg_float (k : FloatKind) (b : Nat) : Op.unary .neg (.float k b) = pure (.float k (Op.negFloat k b)) := rfl
set_option maxHeartbeats 400000 in
theorem l01Abs (x : Nat) (hx : x < 4294967296) (hn : nan Ieee.single x = false) (w : World) : Calls Try.prog 188 #[.float .f32 x] w fun e w' => e = .returned (.float .f32 (rg Ieee.single x)) ∧ w = w' := by
  have hl := lt32 hx (by decide : 0 < 4294967296) hn nan0
  have he := eq32 hx (by decide : 0 < 4294967296) hn nan0
  rw [pl0] at hl he
  by_cases h : pl Ieee.single x < 0
  · rw [show decide (pl Ieee.single x < 0) = true by simpa using h] at hl
    clear he
    go_enter Try.func188, Try.ntmps188
    go_wp2
    go_ret
    refine ⟨ret_float ?_, rfl⟩
    rw [neg32 x hx]
    have h1 : sg Ieee.single x = true := by rw [sg_of_pl (by omega)]; simpa using h
    unfold opp
    rw [h1]; rfl
  · rw [show decide (pl Ieee.single x < 0) = false by simpa using h] at hl
    by_cases h0 : pl Ieee.single x = 0
    · rw [show decide (pl Ieee.single x = 0) = true by simpa using h0] at he
      have hz := Lib.hid (pl_zero h0)
      clear h0 h
      go_enter Try.func188, Try.ntmps188
      go_wp2
      go_ret
      exact ⟨ret_float hz.out.symm, rfl⟩
    · rw [show decide (pl Ieee.single x = 0) = false by simpa using h0] at he
      have hz : Hid (x = rg Ieee.single x) := by
        have h1 := sg_of_pl h0
        rw [show decide (pl Ieee.single x < 0) = false by simpa using h] at h1
        have h2 := split32 x hx
        rw [h1] at h2
        exact h2
      clear h0 h
      go_enter Try.func188, Try.ntmps188
      go_wp2
      go_ret
      exact ⟨ret_float hz.out, rfl⟩
theorem fin_parts {x : Nat} (hx : x < 4294967296) (hf : fin Ieee.single x = true) : Ieee.single.read x = .number (sg Ieee.single x) (mant x) (expo x) ∧ Canon Ieee.single (mant x) (expo x) ∧ rung Ieee.single (mant x) (expo x) = rg Ieee.single x ∧ rg Ieee.single x < 2139095040 := by
  have hx' : x < 2 ^ Ieee.single.width := by rw [wd32]; exact hx
  obtain ⟨m, e, hr, c, hrg, _⟩ := isN_fin hf32 hx' hf
  have hlt : rg Ieee.single x < 2139095040 := by unfold fin at hf; rw [ir32] at hf; simpa using hf
  have hme : m = mant x ∧ e = expo x := by
    obtain ⟨h1, h2, h3⟩ := c
    rw [bi32] at h1 h3
    rw [lp32] at h2 h3
    have h4 := hrg
    unfold rung at h4
    rw [lp32, bi32] at h4
    unfold rg at h4 hlt
    rw [sw32] at h4 hlt
    unfold mant expo
    split <;> omega
  obtain ⟨rfl, rfl⟩ := hme
  exact ⟨hr, c, hrg, hlt⟩
theorem c24 : IsN Ieee.double 4715268809856909312 false (V 16777216 0) := by
  refine ⟨4503599627370496, -28, by decide +kernel, ⟨by decide, by decide, by decide⟩, by decide +kernel, by decide +kernel, ?_⟩
  have := V_shift 16777216 (-28) 28 (by decide)
  rw [show (-28 : Int) + ((28 : Nat) : Int) = 0 by decide] at this
  rw [this]
theorem ge24 {b m : Nat} {k : Nat} (h : IsN Ieee.double b false (V m (k : Int))) : (FloatKind.f64.format.order b 4715268809856909312 == some .gt) = decide (16777216 < m * 2 ^ k) ∧ (FloatKind.f64.format.order b 4715268809856909312 == some .eq) = decide (m * 2 ^ k = 16777216) := by
  have ho : FloatKind.f64.format.order b 4715268809856909312 = some (compare (sv false (V m k)) (sv false (V 16777216 0))) := order64 h c24
  have hv : V m (k : Int) = V (m * 2 ^ k) 0 := by
    have := V_shift m 0 k (by decide)
    rw [Int.zero_add] at this
    exact this
  rw [ho, cmp_gt, cmp_eq, hv]
  simp only [sv, Bool.false_eq_true, if_false, Int.ofNat_lt, Int.natCast_inj, V_mono]
  refine ⟨by first | rfl | trivial, ?_⟩
  have h1 := V_mono (m := m * 2 ^ k) (n := 16777216) 0
  have h2 := V_mono (n := m * 2 ^ k) (m := 16777216) 0
  by_cases hh : m * 2 ^ k = 16777216
  · simp [hh]
  · have : ¬ V (m * 2 ^ k) 0 = V 16777216 0 := by omega
    simp [hh, this]
set_option maxRecDepth 20000 in
set_option maxHeartbeats 400000 in
theorem l01Parts (x : Nat) (hx : x < 4294967296) (hf : fin Ieee.single x = true) (w : World) : Calls Try.prog 134 #[.float .f32 x] w fun e w' => e = .returned (.tuple #[.int .i64 (mant x), .int .i64 (expo x)]) ∧ w = w' := by
  obtain ⟨hr, hc, hrg, hlt⟩ := fin_parts hx hf
  have hnan : nan Ieee.single x = false := by unfold nan; rw [ir32]; simp; omega
  have c1 := hc.lt
  have c2 := hc.le
  have c3 := hc.full
  rw [bi32] at c1 c3
  rw [lp32] at c2 c3
  have htop : expo x ≤ 104 := by
    have h4 := hrg
    unfold rung at h4
    rw [lp32, bi32] at h4
    omega
  -- the absolute value as a wide float
  have ha : rg Ieee.single x = Ieee.single.word false (rung Ieee.single (mant x) (expo x)) := by rw [hrg]; rfl
  obtain ⟨y, hy, hyn⟩ := widen hc (by rw [ha]; exact read_word false hc (by rw [hrg, ir32]; exact hlt) : Ieee.single.read (rg Ieee.single x) = _) (by rw [hrg, ir32]; exact hlt)
  have hconv := run_convert_float_float (P := Try.prog) w 35 52 .f32 .f64 (rg Ieee.single x) y rfl Try.underlying52 hy
  clear hy ha hr hrg hlt hf
  generalize mant x = m at *
  generalize expo x = e at *
  have HYN := Lib.hid hyn
  clear hyn hc
  go_enter Try.func134, Try.ntmps134
  go_wp2_with (first | (go_at_call 188; refine (l01Abs x hx hnan _).mono ?_; rintro e1 w1 ⟨rfl, rfl⟩) | (go_at_call 156; refine (l01Twos y 149 false m e HYN.out (by omega) (by omega) (by omega) (by omega) (by omega) _).mono ?_; rintro e1 w1 ⟨⟨r, rfl, hr⟩, rfl⟩; have HR := Lib.hid hr; clear hr))
  obtain ⟨n, hn⟩ : ∃ n : Nat, e + 149 = n := ⟨(e + 149).toNat, by omega⟩
  have HN := Lib.hid hn
  have hn300 : n ≤ 253 := by omega
  have hne : 0 < n → 8388608 ≤ m := by omega
  clear hn c3
  go_loop [4, 5] (fun e' y' => ∃ (b i : Nat), e' = .int .i64 (-149 + (i : Int)) ∧ y' = .float .f64 b ∧ i ≤ n ∧ Hid (IsN Ieee.double b false (V m ((n - i : Nat) : Int)))) (fun e' _ => (n - 149 - (intOf e')).toNat)
  case atStart => exact ⟨r, 0, rfl, rfl, Nat.zero_le _, Lib.hid (by rw [Nat.sub_zero, ← HN.out]; exact HR.out)⟩
  case round =>
    obtain ⟨b, i, rfl, rfl, hi, HB⟩ := hrel
    have hge := ge24 HB.out
    by_cases hlt : i < n
    · have hm := hne (by omega)
      have hbig : 16777216 ≤ m * 2 ^ (n - i) := by
        rw [show n - i = (n - i - 1) + 1 by omega, Nat.pow_succ, ← Nat.mul_assoc]
        have := Nat.le_mul_of_pos_right m (Nat.two_pow_pos (n - i - 1))
        omega
      obtain ⟨r2, hr2, hn2⟩ := halve_two HB.out (by omega) ⟨by rw [bi64]; omega, by rw [lp64]; omega, by rw [top64]; omega⟩
      rw [show ((n - i : Nat) : Int) - 1 = ((n - (i + 1) : Nat) : Int) by omega] at hn2
      have HN2 := Lib.hid hn2
      have hrun := run_float_arith (P := Try.prog) w .quo 52 .f64 b 4611686018427387904 r2 hr2
      have hg : (FloatKind.f64.format.order b 4715268809856909312 == some .gt || FloatKind.f64.format.order b 4715268809856909312 == some .eq) = true := by
        rw [hge.1, hge.2]; simp; omega
      clear hr2 hn2 hge hne hm hbig
      go_wp2
      go_round
      case rel => exact ⟨r2, i + 1, by simp; omega, rfl, by omega, HN2⟩
      case measure => simp [intOf]; omega
    · obtain rfl : i = n := by omega
      have hg : (FloatKind.f64.format.order b 4715268809856909312 == some .gt || FloatKind.f64.format.order b 4715268809856909312 == some .eq) = false := by
        rw [hge.1, hge.2, Nat.sub_self, Nat.pow_zero]; simp; omega
      have hv : V m ((i - i : Nat) : Int) / U = m := by rw [Nat.sub_self]; show V m 0 / U = m; rw [V_U, Nat.mul_div_cancel _ U_pos]
      have hti := toI64 HB.out (by rw [hv]; omega)
      rw [hv] at hti
      have hc2 := run_convert_float_int (P := Try.prog) w 52 2 .f64 .i64 b (sv false m) rfl Try.underlying2 hti
      clear hge hne hv hti
      go_wp2
      go_ret2
      exact ⟨ret_ints rfl (by have := HN.out; omega), rfl⟩
end Go.Proofs.Ytdboepiobaehkaa.We
end
