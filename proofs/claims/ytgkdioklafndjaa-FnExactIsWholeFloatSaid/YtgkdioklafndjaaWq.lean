/- Walks: whether a float is an integer. -/
import Derived.Test.YtgkdioklafndjaaWo
set_option linter.unusedSimpArgs false
set_option linter.unusedVariables false
namespace Go.Proofs.Ytgkdioklafndjaa.Wq
open Go.RowKit Fp Go.Proofs.Ytgkdioklafndjaa.Wc Go.Proofs.Ytgkdioklafndjaa.Wd Go.Proofs.Ytgkdioklafndjaa.We Go.Proofs.Ytgkdioklafndjaa.Wf Go.Proofs.Ytgkdioklafndjaa.Wg Go.Proofs.Ytgkdioklafndjaa.Wh Go.Proofs.Ytgkdioklafndjaa.Wn Go.Proofs.Ytgkdioklafndjaa.Wo

/-- What is cut towards zero. -/
theorem trunc_isN {x : Nat} {s : Bool} {m : Nat} {e : Int} (hx : IsN Ieee.double x s (V m e)) (hm : m < 9007199254740992) (h1 : -1074 ≤ e) (h2 : e ≤ 971) :
    ∃ r, FloatKind.f64.encode ((FloatKind.f64.decode x).integral .zero) = r ∧ IsN Ieee.double r s (V m e / U * U) := by
  obtain ⟨m1, e1, hr, c1, hlt, hw, hv⟩ := hx
  have hd : FloatKind.f64.decode x = .number s m1 e1 := hr
  rw [hd]
  refine ⟨_, rfl, ?_⟩
  have c2 := c1.le
  rw [lp64] at c2
  have ht := toInt_isN hK64 (x := x) ⟨m1, e1, hr, c1, hlt, hw, hv⟩
  -- the cut significand
  have hcut : ∀ n, Ieee.Datum.integral .zero (.number s m1 e1) = .number s n 0 → n = V m e / U := by
    intro n hn
    unfold Ieee.Datum.toInt at ht
    rw [hr, hn] at ht
    simp only [Option.some.injEq] at ht
    unfold Ieee.signed sv at ht
    rw [Nat.shiftLeft_zero] at ht
    cases s <;> simp at ht <;> omega
  obtain ⟨n, hn⟩ : ∃ n, Ieee.Datum.integral .zero (.number s m1 e1) = .number s n 0 := ⟨_, rfl⟩
  rw [hn, hcut n hn]
  show IsN Ieee.double (Ieee.double.nearest s (V m e / U) 0) s _
  by_cases he : 0 ≤ e
  · have hq : V m e / U = m * 2 ^ e.toNat := by
      have hk := K_eq
      unfold V U
      rw [show (e + K).toNat = e.toNat + kN by omega, Nat.pow_add, ← Nat.mul_assoc, Nat.mul_div_cancel _ (Nat.two_pow_pos _)]
    have hs := V_shift m 0 e.toNat (by decide)
    rw [Int.zero_add, show ((e.toNat : Nat) : Int) = e by omega] at hs
    have hres : V m e / U * U = V m e := by rw [hq, ← V_U, ← hs]
    rw [hres, hq]
    exact isN_nearest hK64 s ⟨by rw [bi64]; omega, by rw [lp64]; omega, by rw [top64]; omega⟩ (by decide) hs.symm
  · have hq : V m e / U ≤ m := by
      have hk := K_eq
      unfold V U
      apply Nat.div_le_of_le_mul
      rw [Nat.mul_comm]
      exact Nat.mul_le_mul_right _ (Nat.pow_le_pow_right (by decide) (by omega))
    have := isN_nearest hK64 s (f := Ieee.double) (mag := V m e / U) (m := V m e / U) (place := 0) (e := 0) ⟨by rw [bi64]; omega, by rw [lp64]; omega, by rw [top64]; omega⟩ (by decide) rfl
    rwa [V_U] at this

@[go_sem] theorem archTrunc_run (x : Nat) (h : (FloatKind.f64.decode x).isNaN = false) (w : World) : (callFunc 44 #[.float .f64 x]).run Try.prog w = .ok (.value (.float .f64 (FloatKind.f64.encode ((FloatKind.f64.decode x).integral .zero)))) w := by
  rw [run_callFunc_extern (e := Extern.MathFloor.toIntegral "math.archTrunc" .zero) Try.func44 (by kernel_rfl) (by kernel_rfl) (by kernel_rfl) (by kernel_rfl)]
  have key : Extern.MathFloor.toIntegral "math.archTrunc" .zero #[.float .f64 x] = pure (.float .f64 (FloatKind.f64.encode ((FloatKind.f64.decode x).integral .zero))) := by
    change (match FloatKind.f64.decode x with
      | .nan s t =>
        if FloatKind.f64.format.quiet t = t then (pure (Value.float .f64 x) : Sem Value) else do
        let kept ← choose (.extern "math.Floor,Ceil,Trunc,RoundToEven.signallingNaN kept" 2)
        pure (Value.float .f64 (if kept == 1 then x else FloatKind.f64.encode (.nan s (FloatKind.f64.format.quiet t))))
      | d => pure (Value.float .f64 (FloatKind.f64.encode (d.integral .zero)))) = _
    cases hd : FloatKind.f64.decode x with
    | nan s t => rw [hd] at h; simp [Ieee.Datum.isNaN] at h
    | infinity s => rfl
    | number s m e => rfl
  rw [key]
  rfl

theorem sv_inj {s : Bool} {a b : Nat} : sv s a = sv s b ↔ a = b := by
  unfold sv; cases s <;> simp <;> omega

set_option maxHeartbeats 400000 in
theorem trunc (x r : Nat) (h : (FloatKind.f64.decode x).isNaN = false) (hr : FloatKind.f64.encode ((FloatKind.f64.decode x).integral .zero) = r) (w : World) : Calls Try.prog 36 #[.float .f64 x] w fun e w' => e = .returned (.float .f64 r) ∧ w = w' := by
  have hrun := fun w => archTrunc_run x h w
  rw [hr] at hrun
  clear hr h
  go_enter Try.func36, Try.ntmps36
  go_wp2
  go_ret
  exact ⟨rfl, rfl⟩

/-- Is a finite float an integer? -/
def isWh (x : Nat) : Bool := decide (0 ≤ expo x) || decide (mant x % 2 ^ (-(expo x)).toNat = 0)

theorem whole_val {m : Nat} {e : Int} (h : -K ≤ e) : (V m e / U * U = V m e) ↔ (0 ≤ e ∨ m % 2 ^ (-e).toNat = 0) := by
  have hk := K_eq
  by_cases he : 0 ≤ e
  · simp only [he, true_or, iff_true]
    unfold V U
    rw [show (e + K).toNat = e.toNat + kN by omega, Nat.pow_add, ← Nat.mul_assoc, Nat.mul_div_cancel _ (Nat.two_pow_pos _)]
  · simp only [he, false_or]
    obtain ⟨d, hd⟩ : ∃ d : Nat, e = -(d : Int) := ⟨(-e).toNat, by omega⟩
    subst hd
    rw [show (-(-(d : Int))).toNat = d by omega]
    have hU : U = 2 ^ d * 2 ^ (-(d : Int) + K).toNat := by
      unfold U; rw [← Nat.pow_add]; congr 1; omega
    unfold V
    rw [hU, Nat.mul_div_mul_right _ _ (Nat.two_pow_pos _), ← Nat.mul_assoc]
    have hp := Nat.two_pow_pos (-(d : Int) + K).toNat
    constructor
    · intro h2
      have := Nat.eq_of_mul_eq_mul_right hp h2
      have h3 := Nat.div_add_mod m (2 ^ d)
      rw [Nat.mul_comm] at h3
      omega
    · intro h2
      have h3 := Nat.div_add_mod m (2 ^ d)
      rw [Nat.mul_comm] at h3
      rw [show m / 2 ^ d * 2 ^ d = m by omega]

set_option maxHeartbeats 400000 in
theorem iIsWholeFloat (x : Nat) (hx : x < 4294967296) (w : World) : Calls Try.prog 17 #[.float .f32 x] w fun e w' => e = .returned (if fin Ieee.single x = true then .tuple #[.bool (isWh x), .int .i64 0] else .tuple #[.bool false, .int .i64 1]) ∧ w = w' := by
  cases hf : fin Ieee.single x with
  | false =>
    rw [if_neg (by simp)]
    go_enter Try.func17, Try.ntmps17
    go_wp2_with (first | (go_at_call 34; refine (isFinite x hx _).mono ?_; rintro e1 w1 ⟨rfl, rfl⟩))
    go_ret2
    exact ⟨rfl, rfl⟩
  | true =>
    rw [if_pos rfl]
    obtain ⟨hr, hc, hrg, hlt⟩ := fin_parts hx hf
    have c1 := hc.lt
    have c2 := hc.le
    rw [bi32] at c1
    rw [lp32] at c2
    have htop : expo x ≤ 104 := by
      have c3 := hc.full
      rw [lp32, bi32] at c3
      have h4 := hrg
      unfold rung at h4
      rw [lp32, bi32] at h4
      omega
    obtain ⟨y, hy, hyn⟩ := widen hc hr (by rw [hrg, ir32]; exact hlt)
    have hconv := fun w => run_convert_float_float (P := Try.prog) w 22 36 .f32 .f64 x y rfl Try.underlying36 hy
    obtain ⟨r, hre, hrn⟩ := trunc_isN hyn (by omega) (by omega) (by omega)
    have hnan : (FloatKind.f64.decode y).isNaN = false := by
      obtain ⟨m, e, hd, _⟩ := hyn
      have : FloatKind.f64.decode y = .number (sg Ieee.single x) m e := hd
      rw [this]; rfl
    have ho : (FloatKind.f64.format.order r y == some .eq) = isWh x := by
      have : FloatKind.f64.format.order r y = some (compare (sv (sg Ieee.single x) (V (mant x) (expo x) / U * U)) (sv (sg Ieee.single x) (V (mant x) (expo x)))) := order64 hrn hyn
      rw [this, cmp_eq]
      have hw := whole_val (m := mant x) (e := expo x) (by unfold K; omega)
      unfold isWh
      rw [Bool.eq_iff_iff]
      simp only [decide_eq_true_eq, Bool.or_eq_true]
      rw [← hw, sv_inj]
    have HO := Lib.hid ho
    clear hr hc hrg hlt c1 c2 htop hy hyn hrn ho
    go_enter Try.func17, Try.ntmps17
    go_wp2_with (first | (go_at_call 34; refine (isFinite x hx _).mono ?_; rintro e1 w1 ⟨rfl, rfl⟩) | (go_at_call 36; refine (trunc y r hnan hre _).mono ?_; rintro e1 w1 ⟨rfl, rfl⟩))
    go_ret2
    refine ⟨?_, rfl⟩
    rw [← HO.out]; rfl

theorem div_pow_even {m d : Nat} (hd : 0 < d) (h : m % 2 = 0) : (m % 2 ^ d = 0) ↔ (m / 2 % 2 ^ (d - 1) = 0) := by
  obtain ⟨k, rfl⟩ : ∃ k, m = 2 * k := ⟨m / 2, by omega⟩
  obtain ⟨j, rfl⟩ : ∃ j, d = j + 1 := ⟨d - 1, by omega⟩
  rw [Nat.add_sub_cancel, Nat.pow_succ, Nat.mul_comm (2 ^ j), Nat.mul_mod_mul_left, Nat.mul_div_cancel_left _ (by decide)]
  omega

theorem div_pow_odd {m d : Nat} (hd : 0 < d) (h : m % 2 = 1) : ¬ (m % 2 ^ d = 0) := by
  intro h2
  obtain ⟨j, rfl⟩ : ∃ j, d = j + 1 := ⟨d - 1, by omega⟩
  have h3 := Nat.mod_mod_of_dvd m (Nat.dvd_of_pow_dvd (show 1 ≤ j + 1 by omega) (Nat.dvd_refl (2 ^ (j + 1))) : 2 ^ 1 ∣ 2 ^ (j + 1))
  rw [h2] at h3
  simp at h3
  omega

set_option maxHeartbeats 400000 in
theorem sIsWholeFloat (x : Nat) (hx : x < 4294967296) (w : World) : Calls Try.prog 16 #[.float .f32 x] w fun e w' => e = .returned (if fin Ieee.single x = true then .tuple #[.bool (isWh x), .int .i64 0] else .tuple #[.bool false, .int .i64 1]) ∧ ∃ k, w' = w.drewN k := by
  cases hf : fin Ieee.single x with
  | false =>
    rw [if_neg (by simp)]
    go_enter Try.func16, Try.ntmps16
    go_wp2_with (first | (go_at_call 33; refine (l01Finite x hx _).mono ?_; rintro e1 w1 ⟨rfl, n1, rfl⟩))
    go_ret2
    exact ⟨rfl, n1, rfl⟩
  | true =>
    rw [if_pos rfl]
    have hP := fun w => l01Parts x hx hf w
    have hm : mant x < 16777216 := by unfold mant; split <;> omega
    have he1 : -149 ≤ expo x := by unfold expo; split <;> omega
    have he2 : expo x ≤ 105 := by unfold expo; split <;> omega
    have hq : isWh x = (decide (0 ≤ expo x) || decide (mant x % 2 ^ (-(expo x)).toNat = 0)) := rfl
    generalize isWh x = q at *
    generalize mant x = m at *
    generalize expo x = ex at *
    have HP := Lib.hid hP
    have HQ := Lib.hid hq
    have HM := Lib.hid hm
    clear hP hq hm
    go_enter Try.func16, Try.ntmps16
    go_wp2_with (first | (go_at_call 33; refine (l01Finite x hx _).mono ?_; rintro e1 w1 ⟨rfl, n1, rfl⟩) | (go_at_call 35; refine (HP.out _).mono ?_; rintro e1 w1 ⟨rfl, rfl⟩))
    go_loop [4, 5] (fun m' e' => ∃ (a : Nat) (b : Int), m' = .int .i64 a ∧ e' = .int .i64 b ∧ -149 ≤ b ∧ b ≤ 105 ∧ Hid (a < 16777216) ∧ Hid (q = (decide (0 ≤ b) || decide (a % 2 ^ (-b).toNat = 0)))) (fun _ e' => (-(intOf e')).toNat)
    case atStart => exact ⟨m, ex, rfl, rfl, he1, he2, HM, HQ⟩
    case round =>
      obtain ⟨a, b, rfl, rfl, hb1, hb2, HA, HB⟩ := hrel
      have ha0 : (0 : Int) ≤ a := by omega
      by_cases hb : b < 0
      · by_cases ha : a = 0
        · subst ha
          have hr : Hid (true = q) := Lib.hid (by rw [HB.out]; simp)
          go_wp2
          go_ret2
          exact ⟨by rw [← hr.out]; rfl, n1, rfl⟩
        · have t1 : ((a : Int) != 0) = true := by simp; omega
          by_cases hodd : a % 2 = 1
          · have t2 : ((a : Int) % 2 != 0) = true := by simp; omega
            have hr : Hid (false = q) := Lib.hid (by rw [HB.out]; simp; exact ⟨by omega, div_pow_odd (by omega) hodd⟩)
            clear ha hodd
            go_wp2
            go_ret2
            exact ⟨by rw [← hr.out]; rfl, n1, rfl⟩
          · have t2 : ((a : Int) % 2 != 0) = false := by simp; omega
            have HB2 : Hid (q = (decide (0 ≤ b + 1) || decide (a / 2 % 2 ^ (-(b + 1)).toNat = 0))) := Lib.hid (by
              have hev := div_pow_even (m := a) (d := (-b).toNat) (by omega) (by omega)
              rw [HB.out, show decide (0 ≤ b) = false by simp; omega, Bool.false_or]
              rw [show (-b).toNat - 1 = (-(b + 1)).toNat by omega] at hev
              by_cases h0 : 0 ≤ b + 1
              · have : (-(b + 1)).toNat = 0 := by omega
                rw [this] at hev ⊢
                simp [h0, hev, Nat.mod_one]
              · simp [h0, hev])
            have HA2 : Hid (a / 2 < 16777216) := Lib.hid (by have := HA.out; omega)
            clear ha hodd HB HA
            go_wp2
            go_round
            case rel => exact ⟨a / 2, b + 1, by simp; have h9 := HA2.out; unfold wrap64; omega, rfl, by omega, by omega, HA2, HB2⟩
            case measure => simp [intOf]; omega
      · have hr : Hid (true = q) := Lib.hid (by rw [HB.out]; simp; omega)
        go_wp2
        go_ret2
        exact ⟨by rw [← hr.out]; rfl, n1, rfl⟩

set_option maxHeartbeats 400000 in
theorem lIsWholeFloat (x : Nat) (hx0 : (Lit.float .f32 x).wf = true) (w : World) : Calls Try.prog 6 #[.float .f32 x] w fun e w' => e = .returned (.bool true) ∧ Grown w w' := by
  have hx := lt_of_wf hx0
  clear hx0
  have h1 := fun w => sIsWholeFloat x hx w
  have h2 := fun w => iIsWholeFloat x hx w
  obtain ⟨a, b, hab⟩ : ∃ a b, (if fin Ieee.single x = true then Value.tuple #[.bool (isWh x), .int .i64 0] else .tuple #[.bool false, .int .i64 1]) = .tuple #[.bool a, .int .i64 b] := by split <;> exact ⟨_, _, rfl⟩
  rw [hab] at h1 h2
  have H1 := Lib.hid h1
  have H2 := Lib.hid h2
  clear h1 h2 hab
  cases a
  all_goals
    go_enter Try.func6, Try.ntmps6
    go_wp2_with (first | (go_at_call 16; refine (H1.out _).mono ?_; rintro e w' ⟨rfl, n1, rfl⟩) | (go_at_call 17; refine (H2.out _).mono ?_; rintro e w' ⟨rfl, rfl⟩))
    go_ret
    exact ⟨rfl, grown_drewN _ _⟩
end Go.Proofs.Ytgkdioklafndjaa.Wq
