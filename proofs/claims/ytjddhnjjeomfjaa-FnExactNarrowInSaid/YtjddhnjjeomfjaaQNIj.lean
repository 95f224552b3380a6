/- Lemmas of the claim: Wb, Wc, Wd, We, Wf, Wg, Wh, Ve, Vg, An. -/
import Derived.Test.YtjddhnjjeomfjaaProg
import Derived.WalkKit
import Derived.WalkSpells
import Derived.WalkLawsBesides
import Derived.KernelRfl
import Derived.Lib.Hide
import Derived.Handy
import Derived.Test.YtjddhnjjeomfjaaQNIb
import Derived.Laws.BitsLemmas
import Derived.Test.YtjddhnjjeomfjaaQNIc
section
namespace Go.Proofs.Ytjddhnjjeomfjaa.Wb
end Go.Proofs.Ytjddhnjjeomfjaa.Wb
end
section
set_option linter.unusedSimpArgs false
set_option linter.unusedVariables false
namespace Go.Proofs.Ytjddhnjjeomfjaa.Wc
open Go.RowKit Fp
theorem ret_bool {a b : Bool} (h : a = b) : Ending.returned (.bool a) = .returned (.bool b) := by rw [h]
theorem ret_float {k : FloatKind} {a b : Nat} (h : a = b) : Ending.returned (.float k a) = .returned (.float k b) := by rw [h]
theorem wraps_u32 (n : Int) (h₀ : 0 ≤ n) (h₁ : n < 2 ^ 32) : IntKind.u32.wrap n = n := by rw [IntKind.wrap_u32]; omega
theorem orSg (x : Nat) (h : x < 2147483648) : bits .or .u32 (x : Int) 2147483648 = ((2147483648 + x : Nat) : Int) := by
  have h1 := u32_or_nat x 2147483648 (by omega) (by omega)
  rw [show (2147483648 : Int) = ((2147483648 : Nat) : Int) from rfl, h1, Nat.or_comm, nat_join 31 2147483648 x (by omega) (by omega)]
@[go_sem] theorem bits32 (x : Nat) (w : World) : (callFunc 124 #[.float .f32 x]).run Try.prog w = .ok (.value (.int .u32 (x : Int))) w := by
  rw [run_callFunc_extern (e := Extern.MathFloatBits.float32bits) Try.func124 (by kernel_rfl) (by kernel_rfl) (by kernel_rfl) (by kernel_rfl)]
  rfl
@[go_sem] theorem from32 (n : Int) (w : World) : (callFunc 111 #[.int .u32 n]).run Try.prog w = .ok (.value (.float .f32 n.toNat)) w := by rw [run_callFunc_extern (e := Extern.MathFloatBits.float32frombits) Try.func111 (by kernel_rfl) (by kernel_rfl) (by kernel_rfl) (by kernel_rfl)]; rfl
theorem rg_lt (x : Nat) : rg Ieee.single x < 2147483648 := by unfold rg; rw [sw32]; omega
def at32 (n : Int) : Nat := if n < 0 then 2147483648 + (-n).toNat else n.toNat
set_option maxHeartbeats 400000 in
theorem atPlace (n : Int) (h1 : -2139095040 ≤ n) (h2 : n ≤ 2139095040) (w : World) : Calls Try.prog 66 #[.int .i64 n] w fun e w' => e = .returned (.float .f32 (at32 n)) ∧ w = w' := by
  by_cases hn : n < 0
  · obtain ⟨m, rfl⟩ : ∃ m : Nat, n = -(m : Int) := ⟨(-n).toNat, by omega⟩
    have e1 := orSg m (by omega)
    have E1 := Lib.hid e1
    clear e1
    go_enter Try.func66, Try.ntmps66
    go_wp2
    go_ret
    refine ⟨ret_float ?_, rfl⟩
    rw [E1.out]
    unfold at32
    rw [if_pos hn]
    omega
  · go_enter Try.func66, Try.ntmps66
    go_wp2
    go_ret
    refine ⟨ret_float ?_, rfl⟩
    unfold at32
    rw [if_neg (by omega)]
end Go.Proofs.Ytjddhnjjeomfjaa.Wc
end
section
set_option linter.unusedSimpArgs false
set_option linter.unusedVariables false
namespace Go.Proofs.Ytjddhnjjeomfjaa.Wd
open Go.RowKit Fp Go.Proofs.Ytjddhnjjeomfjaa.Wc
theorem nan0 : nan Ieee.single 0 = false := by decide
theorem cmp_lt (a b : Int) : ((some (compare a b) : Option Ordering) == some .lt) = decide (a < b) := by
  rw [compare_int]; by_cases h : a < b
  · simp [h]
  · by_cases h' : a = b <;> simp [h, h']
theorem cmp_gt (a b : Int) : ((some (compare a b) : Option Ordering) == some .gt) = decide (b < a) := by
  rw [compare_int]; by_cases h : a < b
  · simp [h]; omega
  · by_cases h' : a = b
    · simp [h']
    · simp [h, h']; omega
theorem cmp_eq (a b : Int) : ((some (compare a b) : Option Ordering) == some .eq) = decide (a = b) := by
  rw [compare_int]; by_cases h : a < b
  · simp [h]; omega
  · by_cases h' : a = b <;> simp [h, h']
theorem split32 (x : Nat) (hx : x < 4294967296) : x = Ieee.single.word (sg Ieee.single x) (rg Ieee.single x) := by
  unfold Ieee.Format.word sg rg
  rw [sw32]
  by_cases h : 2147483648 ≤ x
  · simp [h]; omega
  · simp [h]; omega
end Go.Proofs.Ytjddhnjjeomfjaa.Wd
end
section
set_option linter.unusedSimpArgs false
set_option linter.unusedVariables false
namespace Go.Proofs.Ytjddhnjjeomfjaa.We
open Go.RowKit Fp Go.Proofs.Ytjddhnjjeomfjaa.Wc Go.Proofs.Ytjddhnjjeomfjaa.Wd
set_option maxHeartbeats 400000 in
theorem l01Twos (x : Nat) (k : Int) (s : Bool) (m : Nat) (e : Int) (hx : IsN Ieee.double x s (V m e)) (hm : m < 9007199254740992) (h1 : -1074 ≤ e) (h2 : e ≤ 971) (h3 : -1074 ≤ e + k) (h4 : e + k ≤ 971) (w : World) :
    Calls Try.prog 59 #[.float .f64 x, .int .i64 k] w fun e' w' => (∃ r, e' = .returned (.float .f64 r) ∧ IsN Ieee.double r s (V m (e + k))) ∧ w = w' := by
  have hb : m < 2 * Ieee.double.binade := by rw [bi64]; omega
  go_enter Try.func59, Try.ntmps59
  go_wp2
  go_loop [0, 1] (fun x k' => ∃ (b : Nat) (j : Int), x = .float .f64 b ∧ k' = .int .i64 j ∧ Hid (IsN Ieee.double b s (V m (e + k - j))) ∧ (0 < j → j ≤ k) ∧ (j ≤ 0 → j = k ∨ j = 0 ∧ 0 ≤ k)) (fun _ k' => (intOf k').toNat)
  case atStart => exact ⟨x, k, rfl, rfl, Lib.hid (by rw [show e + k - k = e by omega]; exact hx), fun _ => Int.le_refl _, fun _ => .inl rfl⟩
  case round =>
    obtain ⟨b, j, rfl, rfl, HN, hj1, hj2⟩ := hrel
    by_cases hj : 0 < j
    · have hk := hj1 hj
      clear hj1 hj2
      obtain ⟨r, hr, hn⟩ := double_two HN.out (by omega) ⟨hb, by rw [lp64]; omega, by rw [top64]; omega⟩
      rw [show e + k - j + 1 = e + k - (j - 1) by omega] at hn
      have HN2 := Lib.hid hn
      have hrun := run_float_arith (P := Try.prog) w .mul 36 .f64 b 4611686018427387904 r hr
      clear hr hn
      go_wp2
      go_round
      case rel => exact ⟨r, j - 1, rfl, rfl, HN2, fun _ => by omega, fun _ => by omega⟩
      case measure => simp [intOf]; omega
    · have hk := hj2 (by omega)
      clear hj1 hj2
      go_wp2
      go_loop [0, 1] (fun x k' => ∃ (b : Nat) (j : Int), x = .float .f64 b ∧ k' = .int .i64 j ∧ Hid (IsN Ieee.double b s (V m (e + k - j))) ∧ j ≤ 0 ∧ (j < 0 → k ≤ j)) (fun _ k' => (-(intOf k')).toNat)
      case atStart => exact ⟨b, j, rfl, rfl, HN, by omega, fun _ => by omega⟩
      case round =>
        obtain ⟨b, j, rfl, rfl, HN, hj1, hj2⟩ := hrel
        by_cases hj : j < 0
        · have hk := hj2 hj
          clear hj2
          obtain ⟨r, hr, hn⟩ := halve_two HN.out (by omega) ⟨hb, by rw [lp64]; omega, by rw [top64]; omega⟩
          rw [show e + k - j - 1 = e + k - (j + 1) by omega] at hn
          have HN2 := Lib.hid hn
          have hrun := run_float_arith (P := Try.prog) w .quo 36 .f64 b 4611686018427387904 r hr
          clear hr hn
          go_wp2
          go_round
          case rel => exact ⟨r, j + 1, rfl, rfl, HN2, by omega, fun _ => by omega⟩
          case measure => simp [intOf]; omega
        · obtain rfl : j = 0 := by omega
          go_wp2
          go_ret
          exact ⟨⟨b, rfl, by have := HN.out; rwa [Int.sub_zero] at this⟩, rfl⟩
set_option maxHeartbeats 400000 in
theorem l01Huge (w : World) : Calls Try.prog 106 #[] w fun e w' => e = .returned (.float .f32 2139095040) ∧ w = w' := by
  have hrun := run_float_arith (P := Try.prog) w .mul 28 .f32 2137108966 1092616192 2139095040 (by decide +kernel)
  go_enter Try.func106, Try.ntmps106
  go_wp2
  go_ret
  exact ⟨rfl, rfl⟩
def opp (x : Nat) : Nat := Ieee.single.word (!(sg Ieee.single x)) (rg Ieee.single x)
set_option maxHeartbeats 400000 in
theorem l01Turned (x : Nat) (hx : x < 4294967296) (hn : nan Ieee.single x = false) (w : World) : Calls Try.prog 42 #[.float .f32 x] w fun e w' => e = .returned (.float .f32 (opp x)) ∧ w = w' := by
  have hrun := run_float_arith (P := Try.prog) w .mul 28 .f32 x 3212836864 (opp x) (mul_one32 hx hn)
  go_enter Try.func42, Try.ntmps42
  go_wp2
  go_ret
  exact ⟨rfl, rfl⟩
theorem xor_top (i r : Nat) (h : r < 2 ^ i) : r ^^^ 2 ^ i = 2 ^ i + r := by
  apply Nat.eq_of_testBit_eq
  intro j
  rw [Nat.testBit_xor, Nat.testBit_two_pow]
  rcases Nat.lt_trichotomy j i with hj | hj | hj
  · rw [Nat.testBit_two_pow_add_gt hj]
    have : ¬ i = j := by omega
    simp [this]
  · subst hj; rw [Nat.testBit_two_pow_add_eq]; simp
  · have h1 : 2 ^ i + r < 2 ^ j := by
      have : 2 ^ (i + 1) ≤ 2 ^ j := Nat.pow_le_pow_right (by omega) (by omega)
      rw [Nat.pow_succ] at this; omega
    rw [Nat.testBit_lt_two_pow h1, Nat.testBit_lt_two_pow (by omega)]
    have : ¬ i = j := by omega
    simp [this]
theorem neg32 (x : Nat) (hx : x < 4294967296) : Op.negFloat .f32 x = opp x := by
  have hs := split32 x hx
  have hr := rg_lt x
  unfold opp
  show x ^^^ 2 ^ 31 = _
  generalize rg Ieee.single x = r at *
  cases hg : sg Ieee.single x with
  | true =>
    rw [hg] at hs
    have : x = 2 ^ 31 + r := by rw [hs]; simp [Ieee.Format.word, sw32]
    rw [this, ← xor_top 31 r (by omega), Nat.xor_assoc, Nat.xor_self, Nat.xor_zero]; rfl
  | false =>
    rw [hg] at hs
    have : x = r := hs
    rw [this, xor_top 31 r (by omega)]
    simp [Ieee.Format.word, sw32]
@[go_sem] theorem unary_neg_float (k : FloatKind) (b : Nat) : Op.unary .neg (.float k b) = pure (.float k (Op.negFloat k b)) := rfl
theorem c24 : IsN Ieee.double 4715268809856909312 false (V 16777216 0) := by
  refine ⟨4503599627370496, -28, by decide +kernel, ⟨by decide, by decide, by decide⟩, by decide +kernel, by decide +kernel, ?_⟩
  have := V_shift 16777216 (-28) 28 (by decide)
  rw [show (-28 : Int) + ((28 : Nat) : Int) = 0 by decide] at this
  rw [this]
end Go.Proofs.Ytjddhnjjeomfjaa.We
end
section
namespace Go.Proofs.Ytjddhnjjeomfjaa.Wf
end Go.Proofs.Ytjddhnjjeomfjaa.Wf
end
section
set_option linter.unusedSimpArgs false
set_option linter.unusedVariables false
namespace Go.Proofs.Ytjddhnjjeomfjaa.Wg
open Go.RowKit Fp Go.Proofs.Ytjddhnjjeomfjaa.Wc Go.Proofs.Ytjddhnjjeomfjaa.Wd Go.Proofs.Ytjddhnjjeomfjaa.We Go.Proofs.Ytjddhnjjeomfjaa.Wf
theorem and23 (n : Nat) (h : n < 4294967296) : bits .and .i64 (n : Int) 8388607 = ((n % 8388608 : Nat) : Int) := by
  have := bits_mask .i64 33 (by decide) (fun n h0 h1 => by rw [IntKind.wrap_i64]; omega) 23 (by decide) (n : Int) (by omega) (by omega)
  rw [show ((2 : Int) ^ 23 - 1) = 8388607 from rfl] at this
  rw [this]; omega
set_option maxRecDepth 20000 in
set_option maxHeartbeats 400000 in
theorem l01At_pos (n : Nat) (hn : n ≤ 2139095040) (w : World) : Calls Try.prog 107 #[.int .i64 (n : Int)] w fun e w' => e = .returned (.float .f32 n) ∧ w = w' := by
  by_cases h255 : n = 2139095040
  · subst h255
    go_enter Try.func107, Try.ntmps107
    go_wp2_with (first | (go_at_call 106; refine (l01Huge _).mono ?_; rintro e w' ⟨rfl, rfl⟩))
    go_ret
    exact ⟨rfl, rfl⟩
  · obtain ⟨m, e, hc, he, hrung, htop, hm⟩ : ∃ (m : Nat) (e : Int), Canon Ieee.single m e ∧ (if n / 8388608 = 0 then m = n % 8388608 ∧ e = -149 else m = n % 8388608 + 8388608 ∧ e = ((n / 8388608 : Nat) : Int) - 150) ∧ rung Ieee.single m e = n ∧ -149 ≤ e ∧ e ≤ 104 ∧ m < 16777216 := by
      by_cases h0 : n / 8388608 = 0
      · refine ⟨n % 8388608, -149, ⟨by rw [bi32]; omega, by rw [lp32]; omega, by rw [lp32, bi32]; omega⟩, by rw [if_pos h0]; exact ⟨rfl, rfl⟩, ?_, by omega, by omega, by omega⟩
        unfold rung
        rw [lp32, bi32]; omega
      · refine ⟨n % 8388608 + 8388608, ((n / 8388608 : Nat) : Int) - 150, ⟨by rw [bi32]; omega, by rw [lp32]; omega, by rw [lp32, bi32]; omega⟩, by rw [if_neg h0]; exact ⟨rfl, rfl⟩, ?_, by omega, by omega, by omega⟩
        unfold rung
        rw [lp32, bi32]; omega
    have rp : Rp Ieee.single m e := ⟨by rw [bi32]; omega, by rw [lp32]; omega, by rw [top32]; omega⟩
    have hN : ∀ b, IsN Ieee.single b false (V m e) → b = n := fun b hb => by rw [isN_eq hK32 hb hc, hrung]; rfl
    have hO := ofInt64 (m : Int) (by omega) (by omega)
    rw [show decide ((m : Int) < 0) = false by simp, Int.natAbs_natCast] at hO
    have ha := and23 n (by omega)
    have HA := Lib.hid ha
    clear ha hc hrung
    by_cases h0 : n / 8388608 = 0
    · rw [if_pos h0] at he
      obtain ⟨hme, hee⟩ := he
      have HM := Lib.hid hme
      have t1 : ((n : Int) / 8388608 == 255) = false := by simp; omega
      have t2 : ((n : Int) / 8388608 == 0) = true := by simp; omega
      have HE := Lib.hid hee
      clear hme hee h0
      go_enter Try.func107, Try.ntmps107
      go_wp2_with fail
      rw [HA.out, ← HM.out]
      refine (l01Twos _ (-149) false m 0 hO (by omega) (by omega) (by omega) (by omega) (by omega) _).mono ?_
      rintro e1 w1 ⟨⟨r, rfl, hr⟩, rfl⟩
      rw [show (0 : Int) + -149 = e by rw [HE.out]; rfl] at hr
      obtain ⟨q, hq, hqn⟩ := narrow hr rp
      obtain rfl := hN q hqn
      have hc2 := run_convert_float_float (P := Try.prog) w 36 28 .f64 .f32 r q rfl Try.underlying28 hq
      clear hq hqn hN hr hO
      go_wp2
      go_ret
      exact ⟨rfl, rfl⟩
    · rw [if_neg h0] at he
      obtain ⟨hme, hee⟩ := he
      have HM := Lib.hid hme
      have t1 : ((n : Int) / 8388608 == 255) = false := by simp; omega
      have t2 : ((n : Int) / 8388608 == 0) = false := by simp; omega
      have HE := Lib.hid hee
      clear hme hee h0
      go_enter Try.func107, Try.ntmps107
      go_wp2_with fail
      rw [HA.out, show wrap64 (((n % 8388608 : Nat) : Int) + 8388608) = (m : Int) by rw [HM.out]; unfold wrap64; omega]
      refine (l01Twos _ ((n : Int) / 8388608 - 150) false m 0 hO (by omega) (by omega) (by omega) (by omega) (by omega) _).mono ?_
      rintro e1 w1 ⟨⟨r, rfl, hr⟩, rfl⟩
      rw [show (0 : Int) + ((n : Int) / 8388608 - 150) = e by rw [HE.out]; omega] at hr
      obtain ⟨q, hq, hqn⟩ := narrow hr rp
      obtain rfl := hN q hqn
      have hc2 := run_convert_float_float (P := Try.prog) w 36 28 .f64 .f32 r q rfl Try.underlying28 hq
      clear hq hqn hN hr hO
      go_wp2
      go_ret
      exact ⟨rfl, rfl⟩
set_option maxHeartbeats 400000 in
theorem l01At (n : Int) (h1 : -2139095040 ≤ n) (h2 : n ≤ 2139095040) (w : World) : Calls Try.prog 107 #[.int .i64 n] w fun e w' => e = .returned (.float .f32 (at32 n)) ∧ w = w' := by
  by_cases hn : n < 0
  · obtain ⟨m, rfl⟩ : ∃ m : Nat, n = -(m : Int) := ⟨(-n).toNat, by omega⟩
    have hat : Hid (Op.negFloat .f32 m = at32 (-(m : Int))) := Lib.hid (by
      rw [neg32 m (by omega)]
      unfold opp at32
      have e1 : rg Ieee.single m = m := by unfold rg; rw [sw32]; omega
      have e2 : sg Ieee.single m = false := by unfold sg; rw [sw32]; simp; omega
      rw [e1, e2, if_pos hn]
      simp [Ieee.Format.word, sw32])
    go_enter Try.func107, Try.ntmps107
    go_wp2_with fail
    refine (l01At_pos m (by omega) _).mono ?_
    rintro e1 w1 ⟨rfl, rfl⟩
    go_wp2
    go_ret
    exact ⟨ret_float hat.out, rfl⟩
  · obtain ⟨m, rfl⟩ : ∃ m : Nat, n = (m : Int) := ⟨n.toNat, by omega⟩
    refine (l01At_pos m (by omega) w).mono ?_
    rintro e1 w1 ⟨rfl, rfl⟩
    refine ⟨ret_float ?_, rfl⟩
    unfold at32
    rw [if_neg (by omega)]; simp
end Go.Proofs.Ytjddhnjjeomfjaa.Wg
end
section
set_option linter.unusedSimpArgs false
set_option linter.unusedVariables false
namespace Go.Proofs.Ytjddhnjjeomfjaa.Wh
open Go.RowKit Fp Go.Proofs.Ytjddhnjjeomfjaa.Wc Go.Proofs.Ytjddhnjjeomfjaa.Wd Go.Proofs.Ytjddhnjjeomfjaa.We Go.Proofs.Ytjddhnjjeomfjaa.Wf Go.Proofs.Ytjddhnjjeomfjaa.Wg
theorem wide_of {x : Nat} (hx : x < 4294967296) (hn : nan Ieee.single x = false) : ∃ y, floatToFloatBits .f32 x .f64 = some y ∧ y < 18446744073709551616 ∧ nan Ieee.double y = false := by
  have hx' : x < 2 ^ Ieee.single.width := by rw [wd32]; exact hx
  cases hf : fin Ieee.single x with
  | true =>
    obtain ⟨m, e, hr, c, hrg, _⟩ := isN_fin hf32 hx' hf
    obtain ⟨y, hy, hyn⟩ := widen c hr (by rw [hrg]; unfold fin at hf; simpa using hf)
    exact ⟨y, hy, by have := isN_lt hyn; rwa [wd64] at this, (isN_fin' hyn).2.1⟩
  | false =>
    obtain ⟨hr, _⟩ := read_inf hf32 hx' hf hn
    refine ⟨FloatKind.f64.encode (.infinity (sg Ieee.single x)), ?_, ?_, ?_⟩
    · unfold floatToFloatBits
      rw [if_neg (by decide)]
      have hd : FloatKind.f32.decode x = .infinity (sg Ieee.single x) := hr
      rw [hd]
    · cases sg Ieee.single x <;> decide
    · cases sg Ieee.single x <;> decide
theorem ord64 {x y : Nat} (hx : x < 18446744073709551616) (hy : y < 18446744073709551616) (nx : nan Ieee.double x = false) (ny : nan Ieee.double y = false) : FloatKind.f64.format.order x y = some (compare (pl Ieee.double x) (pl Ieee.double y)) :=
  order_pl hK64 hf64 (by rw [wd64]; exact hx) (by rw [wd64]; exact hy) nx ny
theorem ordn64 {x y : Nat} (hx : x < 18446744073709551616) (hy : y < 18446744073709551616) (n : nan Ieee.double x = true ∨ nan Ieee.double y = true) : FloatKind.f64.format.order x y = none :=
  order_nan hf64 (by rw [wd64]; exact hx) (by rw [wd64]; exact hy) n
set_option maxHeartbeats 400000 in
theorem sameFloat_self (x : Nat) (hx : x < 18446744073709551616) (nx : nan Ieee.double x = false) (w : World) : Calls Try.prog 14 #[.float .f64 x, .float .f64 x] w fun e w' => e = .returned (.bool true) ∧ w = w' := by
  have h1 := ord64 hx hx nx nx
  have h2 := ord64 hx (by decide : 0 < 18446744073709551616) nx (by decide)
  rw [show pl Ieee.double 0 = 0 by decide] at h2
  have h3 : (FloatKind.f64.format.order x x == some .eq) = true := by rw [h1, cmp_eq]; simp
  have h4 : (FloatKind.f64.format.order x x != some .eq) = false := by rw [bne, h3]; rfl
  have h5 : (FloatKind.f64.format.order x 0 == some .eq) = decide (pl Ieee.double x = 0) := by rw [h2, cmp_eq]
  clear h1 h2
  by_cases h0 : pl Ieee.double x = 0
  · have hz : x = 0 ∨ x = 9223372036854775808 := by
      unfold pl sv rg at h0
      rw [sw64] at h0
      split at h0 <;> omega
    clear h0 h5 h3 h4 nx
    rcases hz with rfl | rfl
    · have hd := run_float_arith (P := Try.prog) w .quo 36 .f64 4607182418800017408 0 9218868437227405312 (by decide +kernel)
      have k1 : (FloatKind.f64.format.order 0 0 != some .eq) = false := by decide +kernel
      have k2 : (FloatKind.f64.format.order 0 0 == some .eq) = true := by decide +kernel
      go_enter Try.func14, Try.ntmps14
      go_wp2
      all_goals (go_ret; exact ⟨ret_bool (by simp), rfl⟩)
    · have hd := run_float_arith (P := Try.prog) w .quo 36 .f64 4607182418800017408 9223372036854775808 18442240474082181120 (by decide +kernel)
      have k1 : (FloatKind.f64.format.order 9223372036854775808 9223372036854775808 != some .eq) = false := by decide +kernel
      have k2 : (FloatKind.f64.format.order 9223372036854775808 0 == some .eq) = true := by decide +kernel
      go_enter Try.func14, Try.ntmps14
      go_wp2
      all_goals (go_ret; exact ⟨ret_bool (by simp), rfl⟩)
  · rw [show decide (pl Ieee.double x = 0) = false by simpa using h0] at h5
    clear h0
    go_enter Try.func14, Try.ntmps14
    go_wp2
    all_goals (go_ret; exact ⟨ret_bool (by first | exact h3 | simp [h3]), rfl⟩)
end Go.Proofs.Ytjddhnjjeomfjaa.Wh
end
section
set_option linter.unusedVariables false
set_option linter.unusedSimpArgs false
namespace Go.Proofs.Ytjddhnjjeomfjaa.Ve
open Go.RowKit Fp
def ovr (s mode : Int) : Nat :=
  if mode = 3 ∨ mode = 1 ∧ 0 < s ∨ mode = 2 ∧ s < 0 then (if s < 0 then 4286578687 else 2139095039) else (if s < 0 then 4286578688 else 2139095040)
@[go_sem] theorem from64 (n : Int) (w : World) : (callFunc 131 #[.int .u64 n]).run Try.prog w = .ok (.value (.float .f64 n.toNat)) w := by rw [run_callFunc_extern (e := Extern.MathFloatBits.float64frombits) Try.func131 (by kernel_rfl) (by kernel_rfl) (by kernel_rfl) (by kernel_rfl)]; rfl
@[go_sem] theorem bits64 (x : Nat) (w : World) : (callFunc 95 #[.float .f64 x]).run Try.prog w = .ok (.value (.int .u64 (x : Int))) w := by rw [run_callFunc_extern (e := Extern.MathFloatBits.float64bits) Try.func95 (by kernel_rfl) (by kernel_rfl) (by kernel_rfl) (by kernel_rfl)]; rfl
theorem conv_inf (b : Bool) : floatToFloatBits .f64 (if b then 18442240474082181120 else 9218868437227405312) .f32 = some (if b then 4286578688 else 2139095040) := by
  cases b <;> decide +kernel
set_option maxRecDepth 20000 in
theorem infinite (s : Int) (hs : s = 1 ∨ s = -1) (w : World) : Calls Try.prog 67 #[.int .i64 s] w fun e w' => e = .returned (.float .f32 (if s < 0 then 4286578688 else 2139095040)) ∧ w = w' := by
  have c0 := conv_inf false
  have c1 := conv_inf true
  have h0 := run_convert_float_float (P := Try.prog) w 36 28 .f64 .f32 9218868437227405312 2139095040 rfl Try.underlying28 c0
  have h1 := run_convert_float_float (P := Try.prog) w 36 28 .f64 .f32 18442240474082181120 4286578688 rfl Try.underlying28 c1
  clear c0 c1
  rcases hs with rfl | rfl
  · go_enter Try.func67, Try.ntmps67
    go_wp2
    go_ret
    exact ⟨rfl, rfl⟩
  · go_enter Try.func67, Try.ntmps67
    go_wp2
    go_ret
    exact ⟨rfl, rfl⟩
theorem at_hi : Wc.at32 2139095039 = 2139095039 := by decide
theorem at_lo : Wc.at32 (-2139095039) = 4286578687 := by decide
theorem cOver_p0 {w : World} {bm bs : Nat} (h1 : w.cell? ⟨bm, 0, none⟩ = some (.int .i64 0)) (h2 : w.cell? ⟨bs, 0, none⟩ = some (.int .i64 1)) :
    Calls Try.prog 65 #[.pointer (some ⟨bm, 0, none⟩), .pointer (some ⟨bs, 0, none⟩)] w fun e w' => e = .returned (.tuple #[.float .f32 2139095040, .int .i64 5]) ∧ w = w' := by
  have hI := infinite 1 (.inl rfl) w
  rw [if_neg (by decide)] at hI
  have HI := Lib.hid hI
  clear hI
  go_enter Try.func65, Try.ntmps65
  go_wp2_with fail
  refine HI.out.mono ?_
  rintro e1 w1 ⟨rfl, rfl⟩
  go_wp2
  go_ret2
  exact ⟨rfl, rfl⟩
theorem cOver_p1 {w : World} {bm bs : Nat} (h1 : w.cell? ⟨bm, 0, none⟩ = some (.int .i64 1)) (h2 : w.cell? ⟨bs, 0, none⟩ = some (.int .i64 1)) :
    Calls Try.prog 65 #[.pointer (some ⟨bm, 0, none⟩), .pointer (some ⟨bs, 0, none⟩)] w fun e w' => e = .returned (.tuple #[.float .f32 2139095039, .int .i64 5]) ∧ w = w' := by
  have hA := Wc.atPlace 2139095039 (by decide) (by decide) w
  rw [at_hi] at hA
  have HA := Lib.hid hA
  clear hA
  go_enter Try.func65, Try.ntmps65
  go_wp2_with fail
  refine HA.out.mono ?_
  rintro e1 w1 ⟨rfl, rfl⟩
  go_wp2
  go_ret2
  exact ⟨rfl, rfl⟩
theorem cOver_p2 {w : World} {bm bs : Nat} (h1 : w.cell? ⟨bm, 0, none⟩ = some (.int .i64 2)) (h2 : w.cell? ⟨bs, 0, none⟩ = some (.int .i64 1)) :
    Calls Try.prog 65 #[.pointer (some ⟨bm, 0, none⟩), .pointer (some ⟨bs, 0, none⟩)] w fun e w' => e = .returned (.tuple #[.float .f32 2139095040, .int .i64 5]) ∧ w = w' := by
  have hI := infinite 1 (.inl rfl) w
  rw [if_neg (by decide)] at hI
  have HI := Lib.hid hI
  clear hI
  go_enter Try.func65, Try.ntmps65
  go_wp2_with fail
  refine HI.out.mono ?_
  rintro e1 w1 ⟨rfl, rfl⟩
  go_wp2
  go_ret2
  exact ⟨rfl, rfl⟩
theorem cOver_p3 {w : World} {bm bs : Nat} (h1 : w.cell? ⟨bm, 0, none⟩ = some (.int .i64 3)) (h2 : w.cell? ⟨bs, 0, none⟩ = some (.int .i64 1)) :
    Calls Try.prog 65 #[.pointer (some ⟨bm, 0, none⟩), .pointer (some ⟨bs, 0, none⟩)] w fun e w' => e = .returned (.tuple #[.float .f32 2139095039, .int .i64 5]) ∧ w = w' := by
  have hA := Wc.atPlace 2139095039 (by decide) (by decide) w
  rw [at_hi] at hA
  have HA := Lib.hid hA
  clear hA
  go_enter Try.func65, Try.ntmps65
  go_wp2_with fail
  refine HA.out.mono ?_
  rintro e1 w1 ⟨rfl, rfl⟩
  go_wp2
  go_ret2
  exact ⟨rfl, rfl⟩
theorem cOver_p4 {w : World} {bm bs : Nat} (h1 : w.cell? ⟨bm, 0, none⟩ = some (.int .i64 4)) (h2 : w.cell? ⟨bs, 0, none⟩ = some (.int .i64 1)) :
    Calls Try.prog 65 #[.pointer (some ⟨bm, 0, none⟩), .pointer (some ⟨bs, 0, none⟩)] w fun e w' => e = .returned (.tuple #[.float .f32 2139095040, .int .i64 5]) ∧ w = w' := by
  have hI := infinite 1 (.inl rfl) w
  rw [if_neg (by decide)] at hI
  have HI := Lib.hid hI
  clear hI
  go_enter Try.func65, Try.ntmps65
  go_wp2_with fail
  refine HI.out.mono ?_
  rintro e1 w1 ⟨rfl, rfl⟩
  go_wp2
  go_ret2
  exact ⟨rfl, rfl⟩
theorem cOver_n0 {w : World} {bm bs : Nat} (h1 : w.cell? ⟨bm, 0, none⟩ = some (.int .i64 0)) (h2 : w.cell? ⟨bs, 0, none⟩ = some (.int .i64 (-1))) :
    Calls Try.prog 65 #[.pointer (some ⟨bm, 0, none⟩), .pointer (some ⟨bs, 0, none⟩)] w fun e w' => e = .returned (.tuple #[.float .f32 4286578688, .int .i64 5]) ∧ w = w' := by
  have hI := infinite (-1) (.inr rfl) w
  rw [if_pos (by decide)] at hI
  have HI := Lib.hid hI
  clear hI
  go_enter Try.func65, Try.ntmps65
  go_wp2_with fail
  refine HI.out.mono ?_
  rintro e1 w1 ⟨rfl, rfl⟩
  go_wp2
  go_ret2
  exact ⟨rfl, rfl⟩
theorem cOver_n1 {w : World} {bm bs : Nat} (h1 : w.cell? ⟨bm, 0, none⟩ = some (.int .i64 1)) (h2 : w.cell? ⟨bs, 0, none⟩ = some (.int .i64 (-1))) :
    Calls Try.prog 65 #[.pointer (some ⟨bm, 0, none⟩), .pointer (some ⟨bs, 0, none⟩)] w fun e w' => e = .returned (.tuple #[.float .f32 4286578688, .int .i64 5]) ∧ w = w' := by
  have hI := infinite (-1) (.inr rfl) w
  rw [if_pos (by decide)] at hI
  have HI := Lib.hid hI
  clear hI
  go_enter Try.func65, Try.ntmps65
  go_wp2_with fail
  refine HI.out.mono ?_
  rintro e1 w1 ⟨rfl, rfl⟩
  go_wp2
  go_ret2
  exact ⟨rfl, rfl⟩
theorem cOver_n2 {w : World} {bm bs : Nat} (h1 : w.cell? ⟨bm, 0, none⟩ = some (.int .i64 2)) (h2 : w.cell? ⟨bs, 0, none⟩ = some (.int .i64 (-1))) :
    Calls Try.prog 65 #[.pointer (some ⟨bm, 0, none⟩), .pointer (some ⟨bs, 0, none⟩)] w fun e w' => e = .returned (.tuple #[.float .f32 4286578687, .int .i64 5]) ∧ w = w' := by
  have hA := Wc.atPlace (-2139095039) (by decide) (by decide) w
  rw [at_lo] at hA
  have HA := Lib.hid hA
  clear hA
  go_enter Try.func65, Try.ntmps65
  go_wp2_with fail
  refine HA.out.mono ?_
  rintro e1 w1 ⟨rfl, rfl⟩
  go_wp2
  go_ret2
  exact ⟨rfl, rfl⟩
theorem cOver_n3 {w : World} {bm bs : Nat} (h1 : w.cell? ⟨bm, 0, none⟩ = some (.int .i64 3)) (h2 : w.cell? ⟨bs, 0, none⟩ = some (.int .i64 (-1))) :
    Calls Try.prog 65 #[.pointer (some ⟨bm, 0, none⟩), .pointer (some ⟨bs, 0, none⟩)] w fun e w' => e = .returned (.tuple #[.float .f32 4286578687, .int .i64 5]) ∧ w = w' := by
  have hA := Wc.atPlace (-2139095039) (by decide) (by decide) w
  rw [at_lo] at hA
  have HA := Lib.hid hA
  clear hA
  go_enter Try.func65, Try.ntmps65
  go_wp2_with fail
  refine HA.out.mono ?_
  rintro e1 w1 ⟨rfl, rfl⟩
  go_wp2
  go_ret2
  exact ⟨rfl, rfl⟩
theorem cOver_n4 {w : World} {bm bs : Nat} (h1 : w.cell? ⟨bm, 0, none⟩ = some (.int .i64 4)) (h2 : w.cell? ⟨bs, 0, none⟩ = some (.int .i64 (-1))) :
    Calls Try.prog 65 #[.pointer (some ⟨bm, 0, none⟩), .pointer (some ⟨bs, 0, none⟩)] w fun e w' => e = .returned (.tuple #[.float .f32 4286578688, .int .i64 5]) ∧ w = w' := by
  have hI := infinite (-1) (.inr rfl) w
  rw [if_pos (by decide)] at hI
  have HI := Lib.hid hI
  clear hI
  go_enter Try.func65, Try.ntmps65
  go_wp2_with fail
  refine HI.out.mono ?_
  rintro e1 w1 ⟨rfl, rfl⟩
  go_wp2
  go_ret2
  exact ⟨rfl, rfl⟩
theorem ovr_p (mode : Int) : ovr 1 mode = if mode = 3 ∨ mode = 1 then 2139095039 else 2139095040 := by
  unfold ovr
  by_cases h : mode = 3 ∨ mode = 1
  · rw [if_pos h, if_pos (by omega), if_neg (by decide)]
  · rw [if_neg h, if_neg (by omega), if_neg (by decide)]
theorem ovr_n (mode : Int) : ovr (-1) mode = if mode = 3 ∨ mode = 2 then 4286578687 else 4286578688 := by
  unfold ovr
  by_cases h : mode = 3 ∨ mode = 2
  · rw [if_pos h, if_pos (by omega), if_pos (by decide)]
  · rw [if_neg h, if_neg (by omega), if_pos (by decide)]
theorem cOver {w : World} {bm bs : Nat} {mode s : Int} (h1 : w.cell? ⟨bm, 0, none⟩ = some (.int .i64 mode)) (h2 : w.cell? ⟨bs, 0, none⟩ = some (.int .i64 s)) (hs : s = 1 ∨ s = -1) (hm : 0 ≤ mode ∧ mode ≤ 4) :
    Calls Try.prog 65 #[.pointer (some ⟨bm, 0, none⟩), .pointer (some ⟨bs, 0, none⟩)] w fun e w' => e = .returned (.tuple #[.float .f32 (ovr s mode), .int .i64 5]) ∧ w = w' := by
  have hm5 : mode = 0 ∨ mode = 1 ∨ mode = 2 ∨ mode = 3 ∨ mode = 4 := by omega
  rcases hs with rfl | rfl
  · rw [ovr_p]
    rcases hm5 with rfl | rfl | rfl | rfl | rfl
    · rw [if_neg (by decide)]; exact cOver_p0 h1 h2
    · rw [if_pos (by decide)]; exact cOver_p1 h1 h2
    · rw [if_neg (by decide)]; exact cOver_p2 h1 h2
    · rw [if_pos (by decide)]; exact cOver_p3 h1 h2
    · rw [if_neg (by decide)]; exact cOver_p4 h1 h2
  · rw [ovr_n]
    rcases hm5 with rfl | rfl | rfl | rfl | rfl
    · rw [if_neg (by decide)]; exact cOver_n0 h1 h2
    · rw [if_neg (by decide)]; exact cOver_n1 h1 h2
    · rw [if_pos (by decide)]; exact cOver_n2 h1 h2
    · rw [if_pos (by decide)]; exact cOver_n3 h1 h2
    · rw [if_neg (by decide)]; exact cOver_n4 h1 h2
theorem neg_hi : Op.negFloat .f32 2139095039 = 4286578687 := by rw [We.neg32 _ (by decide)]; decide
theorem neg_inf : Op.negFloat .f32 2139095040 = 4286578688 := by rw [We.neg32 _ (by decide)]; decide
theorem sOver_p0 {w : World} :
    Calls Try.prog 58 #[.int .i64 1, .int .i64 0] w fun e w' => e = .returned (.float .f32 2139095040) ∧ w = w' := by
  have HH := Lib.hid (fun (W : World) => We.l01Huge W)
  have hA := fun (W : World) => Wg.l01At 2139095039 (by decide) (by decide) W
  simp only [at_hi] at hA
  have HA := Lib.hid hA
  clear hA
  go_enter Try.func58, Try.ntmps58
  go_wp2_with fail
  refine (HH.out _).mono ?_
  rintro e1 w1 ⟨rfl, rfl⟩
  go_wp2
  go_ret
  exact ⟨rfl, rfl⟩
theorem sOver_p1 {w : World} :
    Calls Try.prog 58 #[.int .i64 1, .int .i64 1] w fun e w' => e = .returned (.float .f32 2139095039) ∧ w = w' := by
  have HH := Lib.hid (fun (W : World) => We.l01Huge W)
  have hA := fun (W : World) => Wg.l01At 2139095039 (by decide) (by decide) W
  simp only [at_hi] at hA
  have HA := Lib.hid hA
  clear hA
  go_enter Try.func58, Try.ntmps58
  go_wp2_with fail
  refine (HH.out _).mono ?_
  rintro e1 w1 ⟨rfl, rfl⟩
  go_wp2_with fail
  refine (HA.out _).mono ?_
  rintro e1 w1 ⟨rfl, rfl⟩
  go_wp2
  go_ret
  exact ⟨rfl, rfl⟩
theorem sOver_p2 {w : World} :
    Calls Try.prog 58 #[.int .i64 1, .int .i64 2] w fun e w' => e = .returned (.float .f32 2139095040) ∧ w = w' := by
  have HH := Lib.hid (fun (W : World) => We.l01Huge W)
  have hA := fun (W : World) => Wg.l01At 2139095039 (by decide) (by decide) W
  simp only [at_hi] at hA
  have HA := Lib.hid hA
  clear hA
  go_enter Try.func58, Try.ntmps58
  go_wp2_with fail
  refine (HH.out _).mono ?_
  rintro e1 w1 ⟨rfl, rfl⟩
  go_wp2
  go_ret
  exact ⟨rfl, rfl⟩
theorem sOver_p3 {w : World} :
    Calls Try.prog 58 #[.int .i64 1, .int .i64 3] w fun e w' => e = .returned (.float .f32 2139095039) ∧ w = w' := by
  have HH := Lib.hid (fun (W : World) => We.l01Huge W)
  have hA := fun (W : World) => Wg.l01At 2139095039 (by decide) (by decide) W
  simp only [at_hi] at hA
  have HA := Lib.hid hA
  clear hA
  go_enter Try.func58, Try.ntmps58
  go_wp2_with fail
  refine (HH.out _).mono ?_
  rintro e1 w1 ⟨rfl, rfl⟩
  go_wp2_with fail
  refine (HA.out _).mono ?_
  rintro e1 w1 ⟨rfl, rfl⟩
  go_wp2
  go_ret
  exact ⟨rfl, rfl⟩
theorem sOver_p4 {w : World} :
    Calls Try.prog 58 #[.int .i64 1, .int .i64 4] w fun e w' => e = .returned (.float .f32 2139095040) ∧ w = w' := by
  have HH := Lib.hid (fun (W : World) => We.l01Huge W)
  have hA := fun (W : World) => Wg.l01At 2139095039 (by decide) (by decide) W
  simp only [at_hi] at hA
  have HA := Lib.hid hA
  clear hA
  go_enter Try.func58, Try.ntmps58
  go_wp2_with fail
  refine (HH.out _).mono ?_
  rintro e1 w1 ⟨rfl, rfl⟩
  go_wp2
  go_ret
  exact ⟨rfl, rfl⟩
theorem sOver_n0 {w : World} :
    Calls Try.prog 58 #[.int .i64 (-1), .int .i64 0] w fun e w' => e = .returned (.float .f32 4286578688) ∧ w = w' := by
  have HH := Lib.hid (fun (W : World) => We.l01Huge W)
  have hA := fun (W : World) => Wg.l01At 2139095039 (by decide) (by decide) W
  simp only [at_hi] at hA
  have HA := Lib.hid hA
  clear hA
  go_enter Try.func58, Try.ntmps58
  go_wp2_with fail
  refine (HH.out _).mono ?_
  rintro e1 w1 ⟨rfl, rfl⟩
  go_wp2
  go_ret
  exact ⟨Wc.ret_float (neg_inf), rfl⟩
theorem sOver_n1 {w : World} :
    Calls Try.prog 58 #[.int .i64 (-1), .int .i64 1] w fun e w' => e = .returned (.float .f32 4286578688) ∧ w = w' := by
  have HH := Lib.hid (fun (W : World) => We.l01Huge W)
  have hA := fun (W : World) => Wg.l01At 2139095039 (by decide) (by decide) W
  simp only [at_hi] at hA
  have HA := Lib.hid hA
  clear hA
  go_enter Try.func58, Try.ntmps58
  go_wp2_with fail
  refine (HH.out _).mono ?_
  rintro e1 w1 ⟨rfl, rfl⟩
  go_wp2
  go_ret
  exact ⟨Wc.ret_float (neg_inf), rfl⟩
theorem sOver_n2 {w : World} :
    Calls Try.prog 58 #[.int .i64 (-1), .int .i64 2] w fun e w' => e = .returned (.float .f32 4286578687) ∧ w = w' := by
  have HH := Lib.hid (fun (W : World) => We.l01Huge W)
  have hA := fun (W : World) => Wg.l01At 2139095039 (by decide) (by decide) W
  simp only [at_hi] at hA
  have HA := Lib.hid hA
  clear hA
  go_enter Try.func58, Try.ntmps58
  go_wp2_with fail
  refine (HH.out _).mono ?_
  rintro e1 w1 ⟨rfl, rfl⟩
  go_wp2_with fail
  refine (HA.out _).mono ?_
  rintro e1 w1 ⟨rfl, rfl⟩
  go_wp2
  go_ret
  exact ⟨Wc.ret_float (neg_hi), rfl⟩
theorem sOver_n3 {w : World} :
    Calls Try.prog 58 #[.int .i64 (-1), .int .i64 3] w fun e w' => e = .returned (.float .f32 4286578687) ∧ w = w' := by
  have HH := Lib.hid (fun (W : World) => We.l01Huge W)
  have hA := fun (W : World) => Wg.l01At 2139095039 (by decide) (by decide) W
  simp only [at_hi] at hA
  have HA := Lib.hid hA
  clear hA
  go_enter Try.func58, Try.ntmps58
  go_wp2_with fail
  refine (HH.out _).mono ?_
  rintro e1 w1 ⟨rfl, rfl⟩
  go_wp2_with fail
  refine (HA.out _).mono ?_
  rintro e1 w1 ⟨rfl, rfl⟩
  go_wp2
  go_ret
  exact ⟨Wc.ret_float (neg_hi), rfl⟩
theorem sOver_n4 {w : World} :
    Calls Try.prog 58 #[.int .i64 (-1), .int .i64 4] w fun e w' => e = .returned (.float .f32 4286578688) ∧ w = w' := by
  have HH := Lib.hid (fun (W : World) => We.l01Huge W)
  have hA := fun (W : World) => Wg.l01At 2139095039 (by decide) (by decide) W
  simp only [at_hi] at hA
  have HA := Lib.hid hA
  clear hA
  go_enter Try.func58, Try.ntmps58
  go_wp2_with fail
  refine (HH.out _).mono ?_
  rintro e1 w1 ⟨rfl, rfl⟩
  go_wp2
  go_ret
  exact ⟨Wc.ret_float (neg_inf), rfl⟩
theorem sOver {w : World} {mode s : Int} (hs : s = 1 ∨ s = -1) (hm : 0 ≤ mode ∧ mode ≤ 4) :
    Calls Try.prog 58 #[.int .i64 s, .int .i64 mode] w fun e w' => e = .returned (.float .f32 (ovr s mode)) ∧ w = w' := by
  have hm5 : mode = 0 ∨ mode = 1 ∨ mode = 2 ∨ mode = 3 ∨ mode = 4 := by omega
  rcases hs with rfl | rfl
  · rw [ovr_p]
    rcases hm5 with rfl | rfl | rfl | rfl | rfl
    · rw [if_neg (by decide)]; exact sOver_p0
    · rw [if_pos (by decide)]; exact sOver_p1
    · rw [if_neg (by decide)]; exact sOver_p2
    · rw [if_pos (by decide)]; exact sOver_p3
    · rw [if_neg (by decide)]; exact sOver_p4
  · rw [ovr_n]
    rcases hm5 with rfl | rfl | rfl | rfl | rfl
    · rw [if_neg (by decide)]; exact sOver_n0
    · rw [if_neg (by decide)]; exact sOver_n1
    · rw [if_pos (by decide)]; exact sOver_n2
    · rw [if_pos (by decide)]; exact sOver_n3
    · rw [if_neg (by decide)]; exact sOver_n4
end Go.Proofs.Ytjddhnjjeomfjaa.Ve
end
section
set_option linter.unusedVariables false
set_option linter.unusedSimpArgs false
namespace Go.Proofs.Ytjddhnjjeomfjaa.Vg
open Go.RowKit Go.Proofs.Ytjddhnjjeomfjaa.Wc Go.Proofs.Ytjddhnjjeomfjaa.Wd Go.Proofs.Ytjddhnjjeomfjaa.We Go.Proofs.Ytjddhnjjeomfjaa.Wh Go.Proofs.Ytjddhnjjeomfjaa.Ve Fp
theorem andTop (b : Nat) (hb : b < 18446744073709551616) : bits .andNot .u64 (b : Int) 9223372036854775808 = ((b % 9223372036854775808 : Nat) : Int) := by
  have h := u64_andNot_nat b 9223372036854775808 hb (by decide)
  rw [show ((9223372036854775808 : Nat) : Int) = 9223372036854775808 from rfl] at h
  rw [h, show 18446744073709551615 - 9223372036854775808 = 2 ^ 63 - 1 by decide, Nat.and_two_pow_sub_one_eq_mod]
theorem mAbs (b : Nat) (hb : b < 18446744073709551616) (w : World) : Calls Try.prog 93 #[.float .f64 b] w fun e w' => e = .returned (.float .f64 (b % 9223372036854775808)) ∧ w = w' := by
  have h1 := andTop b hb
  go_enter Try.func93, Try.ntmps93
  go_wp2
  go_ret
  exact ⟨rfl, rfl⟩
theorem pl_small {a : Nat} (h : a < 9223372036854775808) : pl Ieee.double a = (a : Int) := by
  unfold pl sg rg sv
  rw [sw64, decide_eq_false (by omega), Nat.mod_eq_of_lt h]
  rfl
theorem nan_small {a : Nat} (h : a ≤ 9218868437227405312) : nan Ieee.double a = false := by
  unfold nan rg
  rw [ir64, sw64, Nat.mod_eq_of_lt (by omega)]
  exact decide_eq_false (by omega)
theorem ord_small {a c : Nat} (ha : a ≤ 9218868437227405312) (hc : c ≤ 9218868437227405312) : FloatKind.f64.format.order a c = some (compare (a : Int) (c : Int)) := by
  rw [ord64 (by omega) (by omega) (nan_small ha) (nan_small hc), pl_small (by omega), pl_small (by omega)]
theorem mIsInf (b : Nat) (hb : b < 18446744073709551616) (hf : b % 9223372036854775808 < 9218868437227405312) (w : World) : Calls Try.prog 49 #[.float .f64 b, .int .i64 0] w fun e w' => e = .returned (.bool false) ∧ w = w' := by
  have h1 := Lib.hid (mAbs b hb w)
  have h2 : (FloatKind.f64.format.order (b % 9223372036854775808) 9218868437227405311 == some .gt) = false := by
    rw [ord_small (by omega) (by decide), cmp_gt]
    exact decide_eq_false (by omega)
  generalize b % 9223372036854775808 = a at *
  clear hf
  go_enter Try.func49, Try.ntmps49
  go_wp2_with (first | (go_at_call 93; refine h1.out.mono ?_; rintro e1 w1 ⟨rfl, rfl⟩))
  go_ret
  exact ⟨rfl, rfl⟩
theorem nan_mod (b : Nat) : nan Ieee.double b = nan Ieee.double (b % 9223372036854775808) := by
  unfold nan rg
  rw [sw64, Nat.mod_mod]
theorem mIsNaN (b : Nat) (hb : b < 18446744073709551616) (w : World) : Calls Try.prog 48 #[.float .f64 b] w fun e w' => e = .returned (.bool (nan Ieee.double b)) ∧ w = w' := by
  have h1 : (FloatKind.f64.format.order b b != some .eq) = nan Ieee.double b := by
    cases hn : nan Ieee.double b with
    | true => rw [ordn64 hb hb (.inl hn)]; rfl
    | false =>
      rw [ord64 hb hb hn hn, bne, cmp_eq]
      simp
  go_enter Try.func48, Try.ntmps48
  go_wp2
  go_ret
  exact ⟨by first | rfl | (rw [h1]), rfl⟩
theorem mNormalize (b : Nat) (hb : b < 18446744073709551616) (h1 : 4503599627370496 ≤ b % 9223372036854775808) (hf : b % 9223372036854775808 < 9218868437227405312) (w : World) : Calls Try.prog 132 #[.float .f64 b] w fun e w' => e = .returned (.tuple #[.float .f64 b, .int .i64 0]) ∧ w = w' := by
  have hA := Lib.hid (mAbs b hb w)
  have h2 : (FloatKind.f64.format.order (b % 9223372036854775808) 4503599627370496 == some .lt) = false := by
    rw [ord_small (by omega) (by decide), cmp_lt]
    exact decide_eq_false (by omega)
  generalize b % 9223372036854775808 = a at *
  clear hf h1
  go_enter Try.func132, Try.ntmps132
  go_wp2_with (first | (go_at_call 93; refine hA.out.mono ?_; rintro e1 w1 ⟨rfl, rfl⟩))
  go_ret2
  exact ⟨rfl, rfl⟩
theorem and11 (n : Nat) (h : n < 4096) : bits .and .i64 (n : Int) 2047 = ((n % 2048 : Nat) : Int) := by
  have := bits_mask .i64 33 (by decide) (fun n h0 h1 => by rw [IntKind.wrap_i64]; omega) 11 (by decide) (n : Int) (by omega) (by omega)
  rw [show ((2 : Int) ^ 11 - 1) = 2047 from rfl] at this
  rw [this]; omega
theorem and_two_pow (b i : Nat) : b &&& 2 ^ i = b / 2 ^ i % 2 * 2 ^ i := by
  apply Nat.eq_of_testBit_eq
  intro j
  rw [Nat.testBit_and, Nat.testBit_two_pow, Nat.testBit_eq_decide_div_mod_eq (x := b / 2 ^ i % 2 * 2 ^ i)]
  rcases Nat.lt_trichotomy j i with h | h | h
  · rw [decide_eq_false (by omega), Bool.and_false]
    obtain ⟨d, rfl⟩ : ∃ d, i = j + 1 + d := ⟨i - j - 1, by omega⟩
    symm
    refine decide_eq_false ?_
    have e : b / 2 ^ (j + 1 + d) % 2 * 2 ^ (j + 1 + d) = (b / 2 ^ (j + 1 + d) % 2 * 2 ^ d * 2) * 2 ^ j := by
      generalize b / 2 ^ (j + 1 + d) % 2 = X
      rw [Nat.pow_add, Nat.pow_succ]
      ac_rfl
    rw [e, Nat.mul_div_cancel _ (Nat.two_pow_pos j)]
    omega
  · subst h
    rw [decide_eq_true rfl, Bool.and_true, Nat.mul_div_cancel _ (Nat.two_pow_pos j), Nat.testBit_eq_decide_div_mod_eq]
    congr 1
    simp
  · rw [decide_eq_false (by omega), Bool.and_false]
    symm
    refine decide_eq_false ?_
    have h1 : b / 2 ^ i % 2 < 2 := Nat.mod_lt _ (by decide)
    obtain ⟨d, rfl⟩ : ∃ d, j = i + 1 + d := ⟨j - i - 1, by omega⟩
    have h2 : b / 2 ^ i % 2 * 2 ^ i < 2 ^ (i + 1 + d) := by
      have h3 : 2 ^ (i + 1) ≤ 2 ^ (i + 1 + d) := Nat.pow_le_pow_right (by decide) (by omega)
      have h4 : b / 2 ^ i % 2 * 2 ^ i ≤ 1 * 2 ^ i := Nat.mul_le_mul_right _ (by omega)
      have h5 := Nat.two_pow_pos i
      rw [Nat.pow_succ] at h3
      omega
    rw [Nat.div_eq_of_lt h2]
    decide
theorem and_top (b : Nat) (hb : b < 18446744073709551616) : b &&& 9223372036854775808 = b / 9223372036854775808 * 9223372036854775808 := by
  have h := and_two_pow b 63
  rw [show (2 : Nat) ^ 63 = 9223372036854775808 by decide] at h
  rw [h]
  omega
theorem clear11 (b : Nat) (hb : b < 18446744073709551616) : bits .andNot .u64 (b : Int) 9218868437227405312 = ((b / 9223372036854775808 * 9223372036854775808 + b % 4503599627370496 : Nat) : Int) := by
  have h := u64_andNot_nat b 9218868437227405312 hb (by decide)
  rw [show ((9218868437227405312 : Nat) : Int) = 9218868437227405312 from rfl] at h
  rw [h, show 18446744073709551615 - 9218868437227405312 = 9223372036854775808 ||| (2 ^ 52 - 1) by decide, Nat.and_or_distrib_left, Nat.and_two_pow_sub_one_eq_mod, and_top b hb]
  congr 1
  exact nat_join 63 _ _ (by rw [show (2 : Nat) ^ 63 = 9223372036854775808 by decide]; omega) (by rw [show (2 : Nat) ^ 63 = 9223372036854775808 by decide, show (2 : Nat) ^ 52 = 4503599627370496 by decide]; omega)
def w64 (s : Bool) (E f : Nat) : Nat := (if s then 9223372036854775808 else 0) + E * 4503599627370496 + f
theorem one64 : IsN Ieee.double 4607182418800017408 false (V 1 0) := by
  have h := isN_word (f := Ieee.double) (m := 4503599627370496) (e := -52) false ⟨by rw [bi64]; decide, by rw [lp64]; decide, .inr (by rw [bi64]; decide)⟩ (by decide)
  rw [show V 4503599627370496 (-52) = V 1 0 by
    have := V_shift 1 (-52) 52 (by decide)
    exact this.symm] at h
  exact h
theorem isN_w64 (s : Bool) (E f : Nat) (h1 : 1 ≤ E) (h2 : E ≤ 2046) (hf : f < 4503599627370496) : IsN Ieee.double (w64 s E f) s (V (4503599627370496 + f) ((E : Int) - 1075)) := by
  have h := isN_word (f := Ieee.double) (m := 4503599627370496 + f) (e := (E : Int) - 1075) s ⟨by rw [bi64]; omega, by rw [lp64]; omega, .inr (by rw [bi64]; omega)⟩ (by unfold rung; rw [lp64, bi64, ir64]; omega)
  have e : Ieee.double.word s (rung Ieee.double (4503599627370496 + f) ((E : Int) - 1075)) = w64 s E f := by
    unfold rung w64 Ieee.Format.word
    rw [lp64, bi64, sw64]
    cases s <;> simp <;> omega
  rw [e] at h
  exact h
theorem mul_one64 {r : Nat} {s : Bool} {m : Nat} {e : Int} (h : IsN Ieee.double r s (V m e)) (hr : Rp Ieee.double m e) : Ieee.double.mul 4607182418800017408 r = some r := by
  obtain ⟨r2, h1, h2⟩ := mul_isN (by decide) one64 h hr (by rw [V_U, Nat.one_mul, Nat.mul_comm])
  rw [h1, h2.unique hK64 (by rw [Bool.false_xor]; exact h)]
set_option maxRecDepth 20000 in
theorem mldexp (s : Bool) (E f : Nat) (q : Int) (h1 : 1 ≤ E) (h2 : E ≤ 2046) (hf : f < 4503599627370496) (h3 : 1 ≤ (E : Int) + q) (h4 : (E : Int) + q ≤ 2046) (w : World) :
    Calls Try.prog 100 #[.float .f64 (w64 s E f), .int .i64 q] w fun e w' => e = .returned (.float .f64 (w64 s ((E : Int) + q).toNat f)) ∧ w = w' := by
  obtain ⟨b, hbv⟩ : ∃ b, b = w64 s E f := ⟨_, rfl⟩
  have hm : b % 9223372036854775808 = E * 4503599627370496 + f := by
    rw [hbv]; unfold w64
    cases s <;> simp <;> omega
  have hb : b < 18446744073709551616 := by
    rw [hbv]; unfold w64
    cases s <;> simp <;> omega
  have hn : nan Ieee.double b = false := by
    rw [nan_mod, hm]
    exact nan_small (by omega)
  have hz : (FloatKind.f64.format.order b 0 == some .eq) = false := by
    rw [ord64 hb (by decide) hn (nan_small (by decide)), cmp_eq, pl_small (a := 0) (by decide)]
    refine decide_eq_false ?_
    unfold pl rg sv
    rw [sw64, hm]
    split <;> omega
  have HI := Lib.hid (mIsInf b hb (by omega) w)
  have hN := mIsNaN b hb w
  rw [hn] at hN
  have HN := Lib.hid hN
  have HZ := Lib.hid (mNormalize b hb (by omega) (by omega) w)
  have k1 : bits .and .i64 ((b : Int) / 4503599627370496) 2047 = (E : Int) := by
    have := and11 (b / 4503599627370496) (by omega)
    rw [show ((b : Int) / 4503599627370496) = ((b / 4503599627370496 : Nat) : Int) from rfl, this]
    omega
  obtain ⟨c, hc⟩ : ∃ c, c = b / 9223372036854775808 * 9223372036854775808 + b % 4503599627370496 := ⟨_, rfl⟩
  have k2 := clear11 b hb
  rw [← hc] at k2
  obtain ⟨r, hr⟩ : ∃ r, r = w64 s ((E : Int) + q).toNat f := ⟨_, rfl⟩
  have hcv : c = (if s then 9223372036854775808 else 0) + f := by
    rw [hc, hbv]; unfold w64
    cases s <;> simp <;> omega
  have k3 : bits .or .u64 (c : Int) ((q + ((E : Int) - 1023) + 1023) * 4503599627370496) = (r : Int) := by
    obtain ⟨G, hG⟩ : ∃ G : Nat, (E : Int) + q = G := ⟨((E : Int) + q).toNat, by omega⟩
    rw [show q + ((E : Int) - 1023) + 1023 = (E : Int) + q by omega, hG]
    have h := bits_or_u64_nat c (G * 4503599627370496) (by rw [hcv]; cases s <;> simp <;> omega) (by omega)
    rw [show ((G : Int) * 4503599627370496) = ((G * 4503599627370496 : Nat) : Int) by simp, h, hr, hG, Int.toNat_natCast]
    congr 1
    rw [hcv]
    unfold w64
    have e1 : (if s then 9223372036854775808 else 0) + f = (if s then 9223372036854775808 else 0) ||| f := by
      symm
      exact nat_join 63 _ _ (by cases s <;> decide) (by rw [show (2 : Nat) ^ 63 = 9223372036854775808 by decide]; omega)
    rw [e1, Nat.or_assoc, Nat.or_comm f, nat_join 52 (G * 4503599627370496) f (by rw [show (2 : Nat) ^ 52 = 4503599627370496 by decide]; omega) hf]
    rw [nat_join 63 _ _ (by cases s <;> decide) (by rw [show (2 : Nat) ^ 63 = 9223372036854775808 by decide]; omega)]
    omega
  have hrun := run_float_arith (P := Try.prog) w .mul 36 .f64 4607182418800017408 r r (mul_one64 (hr ▸ isN_w64 s ((E : Int) + q).toNat f (by omega) (by omega) hf) ⟨by rw [bi64]; omega, by rw [lp64]; omega, by rw [top64]; omega⟩)
  rw [← hbv]
  have HB := Lib.hid hbv
  have HC := Lib.hid hc
  have HR := Lib.hid hr
  clear hN hn hm hbv hc hr hcv
  go_enter Try.func100, Try.ntmps100
  go_wp2_with (first | (go_at_call 49; refine HI.out.mono ?_; rintro e1 w1 ⟨rfl, rfl⟩) | (go_at_call 48; refine HN.out.mono ?_; rintro e1 w1 ⟨rfl, rfl⟩) | (go_at_call 132; refine HZ.out.mono ?_; rintro e1 w1 ⟨rfl, rfl⟩))
  go_ret
  exact ⟨ret_float HR.out, rfl⟩
theorem mLdexp0 {b : Nat} {s : Bool} (hb : IsN Ieee.double b s (V 0 0)) (q : Int) (w : World) :
    Calls Try.prog 54 #[.float .f64 b, .int .i64 q] w fun e' w' => e' = .returned (.float .f64 b) ∧ w = w' := by
  have hz : (FloatKind.f64.format.order b 0 == some .eq) = true := by
    have h0 := isN_word (f := Ieee.double) (m := 0) (e := -1074) false ⟨by rw [bi64]; decide, by rw [lp64]; decide, .inl (by rw [lp64])⟩ (by decide)
    have h0' : IsN Ieee.double 0 false (V 0 (-1074)) := h0
    have h := order_isN hK64 hb h0'
    rw [V_zero, V_zero] at h
    show (Ieee.double.order b 0 == some .eq) = true
    rw [h]
    cases s <;> rfl
  have HL := Lib.hid (show Calls Try.prog 100 #[.float .f64 b, .int .i64 q] w fun e' w' => e' = .returned (.float .f64 b) ∧ w = w' by
    go_enter Try.func100, Try.ntmps100
    go_wp2
    go_ret
    exact ⟨rfl, rfl⟩)
  clear hz hb
  go_enter Try.func54, Try.ntmps54
  go_wp2_with (first | (go_at_call 100; refine HL.out.mono ?_; rintro e1 w1 ⟨rfl, rfl⟩))
  go_ret
  exact ⟨rfl, rfl⟩
theorem mLdexp {b m : Nat} {s : Bool} (hb : IsN Ieee.double b s (V m 0)) (hm0 : 0 < m) (hm : m < 9007199254740992) {q : Int} (h1 : -1000 ≤ q) (h2 : q ≤ 900) (w : World) :
    Calls Try.prog 54 #[.float .f64 b, .int .i64 q] w fun e' w' => (∃ r, e' = .returned (.float .f64 r) ∧ IsN Ieee.double r s (V m q)) ∧ w = w' := by
  have hl : 2 ^ m.log2 ≤ m := Nat.log2_self_le (by omega)
  have hl2 : m < 2 ^ (m.log2 + 1) := Nat.lt_log2_self
  have hl3 : m.log2 < 53 := (Nat.log2_lt (by omega)).2 (by rw [show (2 : Nat) ^ 53 = 9007199254740992 by decide]; exact hm)
  obtain ⟨d, hd⟩ : ∃ d, d = 52 - m.log2 := ⟨_, rfl⟩
  have e52 : (2 : Nat) ^ 52 = 4503599627370496 := by decide
  have hp : 2 ^ m.log2 * 2 ^ d = 4503599627370496 := by rw [← Nat.pow_add, show m.log2 + d = 52 by omega, e52]
  have hlo : 4503599627370496 ≤ m * 2 ^ d := by rw [← hp]; exact Nat.mul_le_mul_right _ hl
  have hhi : m * 2 ^ d < 9007199254740992 := by
    have := Nat.mul_lt_mul_of_pos_right hl2 (Nat.two_pow_pos d)
    rw [Nat.pow_succ, Nat.mul_right_comm, hp] at this
    omega
  obtain ⟨f, hf⟩ : ∃ f, m * 2 ^ d = 4503599627370496 + f := ⟨m * 2 ^ d - 4503599627370496, by omega⟩
  have hv : ∀ k : Int, -1000 ≤ k → V (4503599627370496 + f) (((1075 - d : Nat) : Int) + k - 1075) = V m k := by
    intro k hk
    have h := V_shift m (k - d) d (by unfold K; omega)
    rw [show k - d + (d : Int) = k by omega, hf] at h
    rw [h]
    congr 1
    omega
  have hw := isN_w64 s (1075 - d) f (by omega) (by omega) (by omega)
  have hv0 := hv 0 (by omega)
  rw [Int.add_zero] at hv0
  rw [hv0] at hw
  have hbe : b = w64 s (1075 - d) f := hb.unique hK64 hw
  have HL := mldexp s (1075 - d) f q (by omega) (by omega) (by omega) (by omega) (by omega) w
  have hr := isN_w64 s (((1075 - d : Nat) : Int) + q).toNat f (by omega) (by omega) (by omega)
  rw [show (((((1075 - d : Nat) : Int) + q).toNat : Nat) : Int) - 1075 = ((1075 - d : Nat) : Int) + q - 1075 by omega, hv q h1] at hr
  generalize w64 s (((1075 - d : Nat) : Int) + q).toNat f = r at *
  rw [← hbe] at HL
  have HL2 := Lib.hid HL
  have HR := Lib.hid hr
  clear HL hr hbe hw hv0 hv hf hhi hlo hp e52 hd hl hl2 hl3 hb
  go_enter Try.func54, Try.ntmps54
  go_wp2_with (first | (go_at_call 100; refine HL2.out.mono ?_; rintro e1 w1 ⟨rfl, rfl⟩))
  go_ret
  exact ⟨⟨r, rfl, HR.out⟩, rfl⟩
end Go.Proofs.Ytjddhnjjeomfjaa.Vg
end
section
set_option linter.unusedVariables false
set_option linter.unusedSimpArgs false
namespace Go.Proofs.Ytjddhnjjeomfjaa.An
open Go.RowKit Go.Proofs.Ytjddhnjjeomfjaa.Wc Go.Proofs.Ytjddhnjjeomfjaa.Wd Go.Proofs.Ytjddhnjjeomfjaa.We Go.Proofs.Ytjddhnjjeomfjaa.Wh Go.Proofs.Ytjddhnjjeomfjaa.Ve Go.Proofs.Ytjddhnjjeomfjaa.Vg Fp
def m64 (E f : Nat) : Nat := if E = 0 then f else 4503599627370496 + f
def e64 (E : Nat) : Int := if E = 0 then -1074 else (E : Int) - 1075
theorem m64_lt {E f : Nat} (hf : f < 4503599627370496) : m64 E f < 9007199254740992 := by unfold m64; split <;> omega
theorem e64_bd {E : Nat} (h : E ≤ 2046) : -1074 ≤ e64 E ∧ e64 E ≤ 971 := by unfold e64; split <;> omega
theorem isN64 (s : Bool) {E f : Nat} (hE : E ≤ 2046) (hf : f < 4503599627370496) : IsN Ieee.double (w64 s E f) s (V (m64 E f) (e64 E)) := by
  by_cases h : E = 0
  · subst h
    have hr : rung Ieee.double f (-1074) = f := by unfold rung; rw [lp64]; simp
    have := isN_word (f := Ieee.double) (m := f) (e := -1074) s ⟨by rw [bi64]; omega, by rw [lp64]; decide, .inl (by rw [lp64])⟩ (by rw [hr, ir64]; omega)
    rw [hr] at this
    have hw : Ieee.double.word s f = w64 s 0 f := by
      unfold Ieee.Format.word w64
      rw [sw64]
      cases s <;> simp <;> omega
    rw [hw] at this
    exact this
  · have := isN_w64 s E f (by omega) hE hf
    unfold m64 e64
    rw [if_neg h, if_neg h]
    exact this
theorem norm {m : Nat} (h0 : 0 < m) (hm : m < 9007199254740992) : ∃ d f : Nat, d ≤ 52 ∧ f < 4503599627370496 ∧ m * 2 ^ d = 4503599627370496 + f ∧ (4503599627370496 ≤ m → d = 0) ∧ (m < 4503599627370496 → 1 ≤ d) := by
  have hl : 2 ^ m.log2 ≤ m := Nat.log2_self_le (by omega)
  have hl2 : m < 2 ^ (m.log2 + 1) := Nat.lt_log2_self
  have hl3 : m.log2 < 53 := (Nat.log2_lt (by omega)).2 (by rw [show (2 : Nat) ^ 53 = 9007199254740992 by decide]; exact hm)
  have e52 : (2 : Nat) ^ 52 = 4503599627370496 := by decide
  have hp : 2 ^ m.log2 * 2 ^ (52 - m.log2) = 4503599627370496 := by rw [← Nat.pow_add, show m.log2 + (52 - m.log2) = 52 by omega, e52]
  have hlo : 4503599627370496 ≤ m * 2 ^ (52 - m.log2) := by rw [← hp]; exact Nat.mul_le_mul_right _ hl
  have hhi : m * 2 ^ (52 - m.log2) < 9007199254740992 := by
    have := Nat.mul_lt_mul_of_pos_right hl2 (Nat.two_pow_pos (52 - m.log2))
    rw [Nat.pow_succ, Nat.mul_right_comm, hp] at this
    omega
  refine ⟨52 - m.log2, m * 2 ^ (52 - m.log2) - 4503599627370496, by omega, by omega, by omega, fun h => ?_, fun h => ?_⟩
  · have : 52 ≤ m.log2 := (Nat.le_log2 (by omega)).2 (by rw [e52]; exact h)
    omega
  · have : m.log2 < 52 := (Nat.log2_lt (by omega)).2 (by rw [e52]; exact h)
    omega
theorem w64_mod (s : Bool) (E f : Nat) (hE : E ≤ 2046) (hf : f < 4503599627370496) : w64 s E f % 9223372036854775808 = E * 4503599627370496 + f ∧ w64 s E f < 18446744073709551616 ∧ w64 s E f / 9223372036854775808 = (if s then 1 else 0) := by
  unfold w64
  cases s <;> simp <;> omega
theorem c52 : IsN Ieee.double 4841369599423283200 false (V 1 52) := by
  have := isN_w64 false 1075 0 (by decide) (by decide) (by decide)
  have e1 : V (4503599627370496 + 0) (((1075 : Nat) : Int) - 1075) = V 1 52 := by
    have h := V_shift 1 0 52 (by decide)
    rw [show (0 : Int) + ((52 : Nat) : Int) = 52 by decide] at h
    have a1 : (4503599627370496 + 0 : Nat) = 1 * 2 ^ 52 := by decide
    have a2 : (((1075 : Nat) : Int) - 1075) = 0 := by decide
    exact (congr (congrArg V a1) a2).trans h.symm
  rw [e1] at this
  exact this
theorem mNormSub (s : Bool) {f d g : Nat} (h0 : 0 < f) (hf : f < 4503599627370496) (hd1 : 1 ≤ d) (hd : d ≤ 52) (hg : g < 4503599627370496) (hm : f * 2 ^ d = 4503599627370496 + g) (w : World) :
    Calls Try.prog 132 #[.float .f64 (w64 s 0 f)] w fun e w' => e = .returned (.tuple #[.float .f64 (w64 s (53 - d) g), .int .i64 (-52)]) ∧ w = w' := by
  obtain ⟨hmod, hlt, _⟩ := w64_mod s 0 f (by decide) hf
  have hA := mAbs (w64 s 0 f) hlt w
  rw [hmod, Nat.zero_mul, Nat.zero_add] at hA
  have hl : (FloatKind.f64.format.order f 4503599627370496 == some .lt) = true := by
    rw [ord_small (by omega) (by decide), cmp_lt]
    exact decide_eq_true (by omega)
  have hx := isN64 s (E := 0) (f := f) (by decide) hf
  have hv : V (4503599627370496 + g) ((((53 - d : Nat) : Int)) - 1075) = V f (-1022) := by
    have h := V_shift f (-1022 - d) d (by unfold K; omega)
    rw [show -1022 - (d : Int) + (d : Int) = -1022 by omega, hm] at h
    have he : (((53 - d : Nat) : Int)) - 1075 = -1022 - d := by omega
    exact (congrArg (V (4503599627370496 + g)) he).trans h.symm
  have hm64 : m64 0 f = f := rfl
  have he64 : e64 0 = -1074 := rfl
  rw [hm64, he64] at hx
  obtain ⟨r, hr, hn⟩ := mul_isN (f := Ieee.double) (m := f) (e := -1022) (by decide) hx c52 ⟨by rw [bi64]; omega, by rw [lp64]; decide, by rw [top64]; decide⟩ (by rw [V_mul (by decide) (by decide) (by decide), Nat.mul_one]; rfl)
  have hw := isN_w64 s (53 - d) g (by omega) (by omega) hg
  rw [hv] at hw
  rw [show (s ^^ false) = s by simp] at hn
  rw [hn.unique hK64 hw] at hr
  have hrun := run_float_arith (P := Try.prog) w .mul 36 .f64 (w64 s 0 f) 4841369599423283200 (w64 s (53 - d) g) hr
  have HA := Lib.hid hA
  clear hA hx hv hn hw hr hmod hlt hm64 he64 hm
  generalize w64 s 0 f = b at *
  generalize w64 s (53 - d) g = b1 at *
  go_enter Try.func132, Try.ntmps132
  go_wp2_with (first | (go_at_call 93; refine HA.out.mono ?_; rintro e1 w1 ⟨rfl, rfl⟩))
  go_ret2
  exact ⟨rfl, rfl⟩
theorem mfrexp {b : Nat} (s : Bool) {E g : Nat} {k : Int} (hb : b < 18446744073709551616) (hfin : b % 9223372036854775808 < 9218868437227405312) (hnz : b % 9223372036854775808 ≠ 0) (h1 : 1 ≤ E) (h2 : E ≤ 2046) (hg : g < 4503599627370496) (hk : k = 0 ∨ k = -52) (w : World)
    (hz : Calls Try.prog 132 #[.float .f64 b] w fun e w' => e = .returned (.tuple #[.float .f64 (w64 s E g), .int .i64 k]) ∧ w = w') :
    Calls Try.prog 97 #[.float .f64 b] w fun e w' => e = .returned (.tuple #[.float .f64 (w64 s 1022 g), .int .i64 (k + ((E : Int) - 1022))]) ∧ w = w' := by
  have hn : nan Ieee.double b = false := by
    rw [nan_mod]
    exact nan_small (by omega)
  have h0 : (FloatKind.f64.format.order b 0 == some .eq) = false := by
    rw [ord64 hb (by decide) hn (nan_small (by decide)), cmp_eq, pl_small (a := 0) (by decide)]
    refine decide_eq_false ?_
    unfold pl rg sv
    rw [sw64]
    split <;> omega
  have HI := Lib.hid (mIsInf b hb hfin w)
  have hN := mIsNaN b hb w
  rw [hn] at hN
  have HN := Lib.hid hN
  have HZ := Lib.hid hz
  obtain ⟨hmod, hlt, hdv⟩ := w64_mod s E g h2 hg
  obtain ⟨b1, hb1⟩ : ∃ b1, b1 = w64 s E g := ⟨_, rfl⟩
  rw [← hb1] at hmod hlt hdv
  have k1 : bits .and .u64 ((b1 : Int) / 4503599627370496) 2047 = (E : Int) := by
    have h := bits_mask .u64 33 (by decide) (fun n h0 h1 => by rw [IntKind.wrap_u64]; omega) 11 (by decide) ((b1 / 4503599627370496 : Nat) : Int) (by omega) (by omega)
    rw [show ((2 : Int) ^ 11 - 1) = 2047 from rfl] at h
    rw [show ((b1 : Int) / 4503599627370496) = ((b1 / 4503599627370496 : Nat) : Int) from rfl, h]
    omega
  obtain ⟨c, hc⟩ : ∃ c, c = b1 / 9223372036854775808 * 9223372036854775808 + b1 % 4503599627370496 := ⟨_, rfl⟩
  have k2 := clear11 b1 hlt
  rw [← hc] at k2
  obtain ⟨r, hr⟩ : ∃ r, r = w64 s 1022 g := ⟨_, rfl⟩
  have hcv : c = (if s then 9223372036854775808 else 0) + g := by
    rw [hc, hdv]
    cases s <;> simp <;> omega
  have k3 : bits .or .u64 (c : Int) 4602678819172646912 = (r : Int) := by
    have h := bits_or_u64_nat c 4602678819172646912 (by rw [hcv]; cases s <;> simp <;> omega) (by decide)
    rw [show ((4602678819172646912 : Nat) : Int) = 4602678819172646912 from rfl] at h
    rw [h, hr]
    congr 1
    rw [hcv]
    unfold w64
    have e1 : (if s then 9223372036854775808 else 0) + g = (if s then 9223372036854775808 else 0) ||| g := by
      symm
      exact nat_join 63 _ _ (by cases s <;> decide) (by rw [show (2 : Nat) ^ 63 = 9223372036854775808 by decide]; omega)
    rw [e1, Nat.or_assoc, Nat.or_comm g, nat_join 52 4602678819172646912 g (by decide) hg]
    rw [nat_join 63 _ _ (by cases s <;> decide) (by rw [show (2 : Nat) ^ 63 = 9223372036854775808 by decide]; omega)]
    omega
  rw [← hb1] at HZ
  rw [← hr]
  clear hn hN hz hb1 hc hr hcv hmod hlt hdv hfin hnz
  go_enter Try.func97, Try.ntmps97
  go_wp2_with (first | (go_at_call 49; refine HI.out.mono ?_; rintro e1 w1 ⟨rfl, rfl⟩) | (go_at_call 48; refine HN.out.mono ?_; rintro e1 w1 ⟨rfl, rfl⟩) | (go_at_call 132; refine HZ.out.mono ?_; rintro e1 w1 ⟨rfl, rfl⟩))
  go_ret2
  exact ⟨by rw [show k + ((E : Int) - 1023 + 1) = k + ((E : Int) - 1022) by omega]; rfl, rfl⟩
theorem mFrexp {b : Nat} (s : Bool) {E f d g : Nat} (hE : E ≤ 2046) (hf : f < 4503599627370496) (h0 : 0 < m64 E f) (hd : d ≤ 52) (hg : g < 4503599627370496) (hm : m64 E f * 2 ^ d = 4503599627370496 + g) (hd0 : 4503599627370496 ≤ m64 E f → d = 0) (hd1 : m64 E f < 4503599627370496 → 1 ≤ d) (w : World) :
    Calls Try.prog 52 #[.float .f64 (w64 s E f)] w fun e w' => e = .returned (.tuple #[.float .f64 (w64 s 1022 g), .int .i64 (e64 E - d + 53)]) ∧ w = w' := by
  obtain ⟨hmod, hlt, _⟩ := w64_mod s E f hE hf
  have hL : Calls Try.prog 97 #[.float .f64 (w64 s E f)] w fun e w' => e = .returned (.tuple #[.float .f64 (w64 s 1022 g), .int .i64 (e64 E - d + 53)]) ∧ w = w' := by
    by_cases hz : E = 0
    · subst hz
      have hm0 : m64 0 f = f := rfl
      rw [hm0] at h0 hm hd1
      have := mfrexp s (E := 53 - d) (g := g) (k := -52) hlt (by omega) (by omega) (by omega) (by omega) hg (.inr rfl) w (mNormSub s h0 hf (hd1 hf) hd hg hm w)
      rw [show (-52 : Int) + (((53 - d : Nat) : Int) - 1022) = e64 0 - d + 53 by unfold e64; rw [if_pos rfl]; have := hd1 hf; omega] at this
      exact this
    · have hm0 : m64 E f = 4503599627370496 + f := by unfold m64; rw [if_neg hz]
      rw [hm0] at hm hd0
      obtain rfl : d = 0 := hd0 (by omega)
      rw [Nat.pow_zero, Nat.mul_one] at hm
      obtain rfl : f = g := by omega
      have := mfrexp s (E := E) (g := f) (k := 0) hlt (by omega) (by omega) (by omega) hE hf (.inl rfl) w (mNormalize _ hlt (by omega) (by omega) w)
      rw [show (0 : Int) + ((E : Int) - 1022) = e64 E - (0 : Nat) + 53 by unfold e64; rw [if_neg hz]; omega] at this
      exact this
  have HL := Lib.hid hL
  clear hL hmod hlt h0 hm hd0 hd1
  generalize w64 s E f = b at *
  generalize w64 s 1022 g = r at *
  go_enter Try.func52, Try.ntmps52
  go_wp2_with (first | (go_at_call 97; refine HL.out.mono ?_; rintro e1 w1 ⟨rfl, rfl⟩))
  go_ret2
  exact ⟨rfl, rfl⟩
theorem mSignbit (b : Nat) (hb : b < 18446744073709551616) (w : World) : Calls Try.prog 51 #[.float .f64 b] w fun e w' => e = .returned (.bool (sg Ieee.double b)) ∧ w = w' := by
  have hs : decide (wrap64 (b : Int) < 0) = sg Ieee.double b := by
    unfold sg wrap64
    rw [sw64, Bool.eq_iff_iff, decide_eq_true_iff, decide_eq_true_iff]
    omega
  have HS := Lib.hid hs
  clear hs
  go_enter Try.func51, Try.ntmps51
  go_wp2
  all_goals
    go_ret
    exact ⟨ret_bool HS.out, rfl⟩
theorem mIsInfTrue (b : Nat) (hb : b < 18446744073709551616) (hf : b % 9223372036854775808 = 9218868437227405312) (w : World) : Calls Try.prog 49 #[.float .f64 b, .int .i64 0] w fun e w' => e = .returned (.bool true) ∧ w = w' := by
  have h1 := Lib.hid (mAbs b hb w)
  have h2 : (FloatKind.f64.format.order (b % 9223372036854775808) 9218868437227405311 == some .gt) = true := by
    rw [ord_small (by omega) (by decide), cmp_gt]
    exact decide_eq_true (by omega)
  generalize b % 9223372036854775808 = a at *
  clear hf
  go_enter Try.func49, Try.ntmps49
  go_wp2_with (first | (go_at_call 93; refine h1.out.mono ?_; rintro e1 w1 ⟨rfl, rfl⟩))
  go_ret
  exact ⟨rfl, rfl⟩
end Go.Proofs.Ytjddhnjjeomfjaa.An
end
