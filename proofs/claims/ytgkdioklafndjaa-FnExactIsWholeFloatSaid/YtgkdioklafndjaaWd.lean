/- Walks: the reference's words on floats. -/
import Derived.Test.YtgkdioklafndjaaWc

set_option linter.unusedSimpArgs false

set_option linter.unusedVariables false
namespace Go.Proofs.Ytgkdioklafndjaa.Wd
open Go.RowKit Fp Go.Proofs.Ytgkdioklafndjaa.Wc

theorem run_arith_none {P : Program} (w : World) (op : BinOp) (hop : op = .add ∨ op = .sub ∨ op = .mul ∨ op = .quo) (t : TypeId) (x y : Nat) (h : floatBits op .f32 x y = none) :
    ∃ r, (binOp op t (.float .f32 x) (.float .f32 y)).run P w = .ok (.float .f32 r) w.drew ∧ r < 4294967296 ∧ nan Ieee.single r = true := by
  refine ⟨(Question.nanBits .f32 x y).cut (w.tape w.drawn (Question.nanBits .f32 x y)), ?_, ?_, ?_⟩
  · unfold floatBits at h
    rcases hop with rfl | rfl | rfl | rfl <;> simp only at h <;> simp [binOp, Op.floatArith, h, Question.forced]
  · generalize w.tape w.drawn (Question.nanBits .f32 x y) = q
    simp only [Question.cut, Nat.reducePow, Nat.reduceSub]
    omega
  · generalize w.tape w.drawn (Question.nanBits .f32 x y) = q
    simp only [Question.cut, Nat.reducePow, Nat.reduceSub]
    unfold nan rg
    rw [sw32, ir32]
    simp only [decide_eq_true_eq]
    have hb : q / 2 % 8388607 < 8388607 := Nat.mod_lt _ (by decide)
    have ha : q % 2 = 0 ∨ q % 2 = 1 := by omega
    generalize q / 2 % 8388607 = b at *
    rcases ha with ha | ha <;> rw [ha] <;> omega

theorem sub32_fin (x : Nat) (hx : x < 4294967296) (h : fin Ieee.single x = true) : floatBits .sub .f32 x x = some 0 := by
  have hx' : x < 2 ^ Ieee.single.width := by rw [wd32]; exact hx
  obtain ⟨m, e, _, _, _, hn⟩ := isN_fin hf32 hx' h
  obtain ⟨r, hr, rfl⟩ := sub_self hn
  exact hr

theorem sub32_not (x : Nat) (hx : x < 4294967296) (h : fin Ieee.single x = false) : floatBits .sub .f32 x x = none := by
  have hx' : x < 2 ^ Ieee.single.width := by rw [wd32]; exact hx
  show Ieee.single.sub x x = none
  unfold Ieee.Format.sub
  cases hn : nan Ieee.single x with
  | true => obtain ⟨s, t, hr⟩ := read_nan hf32 hx' hn; rw [hr]; rfl
  | false =>
    rw [(read_inf hf32 hx' h hn).1]
    cases sg Ieee.single x <;> rfl

set_option maxHeartbeats 400000 in
theorem l01Finite (x : Nat) (hx : x < 4294967296) (w : World) : Calls Try.prog 33 #[.float .f32 x] w fun e w' => e = .returned (.bool (fin Ieee.single x)) ∧ ∃ n, w' = w.drewN n := by
  cases hf : fin Ieee.single x with
  | true =>
    have hr := run_float_arith (P := Try.prog) w .sub 22 .f32 x x 0 (sub32_fin x hx hf)
    clear hf
    go_enter Try.func33, Try.ntmps33
    go_wp2
    go_ret
    exact ⟨rfl, 0, rfl⟩
  | false =>
    obtain ⟨r, hr, h1, h2⟩ := run_arith_none (P := Try.prog) w .sub (by simp) 22 x x (sub32_not x hx hf)
    have ho : FloatKind.f32.format.order r 0 = none := order_nan hf32 (by rw [wd32]; exact h1) (by rw [wd32]; omega) (.inl h2)
    have HO := Lib.hid ho
    clear hf h2 ho
    go_enter Try.func33, Try.ntmps33
    go_wp2
    go_ret
    exact ⟨ret_bool (by rw [HO.out]; rfl), 1, rfl⟩

theorem ord32 {x y : Nat} (hx : x < 4294967296) (hy : y < 4294967296) (nx : nan Ieee.single x = false) (ny : nan Ieee.single y = false) : FloatKind.f32.format.order x y = some (compare (pl Ieee.single x) (pl Ieee.single y)) :=
  order_pl hK32 hf32 (by rw [wd32]; exact hx) (by rw [wd32]; exact hy) nx ny

theorem nan0 : nan Ieee.single 0 = false := by decide

theorem pl0 : pl Ieee.single 0 = 0 := by decide

theorem cmp_lt (a b : Int) : ((some (compare a b) : Option Ordering) == some .lt) = decide (a < b) := by
  rw [compare_int]; by_cases h : a < b
  · simp [h]
  · by_cases h' : a = b <;> simp [h, h']

theorem cmp_gt (a b : Int) : ((some (compare a b) : Option Ordering) == some .gt) = decide (b < a) := by
  rw [compare_int]; by_cases h : a < b
  · simp [h]; omega
  · by_cases h' : a = b
    · simp [h']
    · simp [h, h']; omega

theorem cmp_eq (a b : Int) : ((some (compare a b) : Option Ordering) == some .eq) = decide (a = b) := by
  rw [compare_int]; by_cases h : a < b
  · simp [h]; omega
  · by_cases h' : a = b <;> simp [h, h']

theorem lt32 {x y : Nat} (hx : x < 4294967296) (hy : y < 4294967296) (nx : nan Ieee.single x = false) (ny : nan Ieee.single y = false) : (FloatKind.f32.format.order x y == some .lt) = decide (pl Ieee.single x < pl Ieee.single y) := by rw [ord32 hx hy nx ny, cmp_lt]

theorem gt32 {x y : Nat} (hx : x < 4294967296) (hy : y < 4294967296) (nx : nan Ieee.single x = false) (ny : nan Ieee.single y = false) : (FloatKind.f32.format.order x y == some .gt) = decide (pl Ieee.single y < pl Ieee.single x) := by rw [ord32 hx hy nx ny, cmp_gt]

theorem eq32 {x y : Nat} (hx : x < 4294967296) (hy : y < 4294967296) (nx : nan Ieee.single x = false) (ny : nan Ieee.single y = false) : (FloatKind.f32.format.order x y == some .eq) = decide (pl Ieee.single x = pl Ieee.single y) := by rw [ord32 hx hy nx ny, cmp_eq]

theorem split32 (x : Nat) (hx : x < 4294967296) : x = Ieee.single.word (sg Ieee.single x) (rg Ieee.single x) := by
  unfold Ieee.Format.word sg rg
  rw [sw32]
  by_cases h : 2147483648 ≤ x
  · simp [h]; omega
  · simp [h]; omega

theorem pl_zero {x : Nat} (h : pl Ieee.single x = 0) : rg Ieee.single x = 0 := by
  unfold pl sv at h; split at h <;> omega

theorem sg_of_pl {x : Nat} (h : pl Ieee.single x ≠ 0) : sg Ieee.single x = decide (pl Ieee.single x < 0) := by
  unfold pl sv at *; split at h <;> simp_all <;> omega

set_option maxHeartbeats 400000 in
theorem l01Minus (x : Nat) (hx : x < 4294967296) (hn : nan Ieee.single x = false) (w : World) : Calls Try.prog 29 #[.float .f32 x] w fun e w' => e = .returned (.bool (sg Ieee.single x)) ∧ w = w' := by
  have hl := lt32 hx (by decide : 0 < 4294967296) hn nan0
  have he := eq32 hx (by decide : 0 < 4294967296) hn nan0
  rw [pl0] at hl he
  by_cases h0 : pl Ieee.single x = 0
  · have hr := pl_zero h0
    have hs := split32 x hx
    rw [hr] at hs
    rw [h0] at hl he
    simp only [Int.lt_irrefl, decide_false, decide_true] at hl he
    cases hg : sg Ieee.single x with
    | true =>
      rw [hg] at hs
      have hx2 : x = 2147483648 := by rw [hs]; decide
      subst hx2
      have hd := run_float_arith (P := Try.prog) w .quo 22 .f32 1065353216 2147483648 4286578688 (by decide +kernel)
      have hl2 : (FloatKind.f32.format.order 4286578688 0 == some .lt) = true := by decide +kernel
      clear hn h0 hr hs hg
      go_enter Try.func29, Try.ntmps29
      go_wp2
      go_ret
      exact ⟨rfl, rfl⟩
    | false =>
      rw [hg] at hs
      have hx2 : x = 0 := by rw [hs]; decide
      subst hx2
      have hd := run_float_arith (P := Try.prog) w .quo 22 .f32 1065353216 0 2139095040 (by decide +kernel)
      have hl2 : (FloatKind.f32.format.order 2139095040 0 == some .lt) = false := by decide +kernel
      clear hn h0 hr hs hg
      go_enter Try.func29, Try.ntmps29
      go_wp2
      go_ret
      exact ⟨rfl, rfl⟩
  · have hs := sg_of_pl h0
    have HS := Lib.hid hs
    rw [show decide (pl Ieee.single x = 0) = false by simpa using h0] at he
    clear hs hn
    by_cases hlt : pl Ieee.single x < 0
    · rw [show decide (pl Ieee.single x < 0) = true by simpa using hlt] at hl
      clear h0
      go_enter Try.func29, Try.ntmps29
      go_wp2
      go_ret
      exact ⟨ret_bool (by rw [HS.out]; simp [hlt]), rfl⟩
    · rw [show decide (pl Ieee.single x < 0) = false by simpa using hlt] at hl
      clear h0
      go_enter Try.func29, Try.ntmps29
      go_wp2
      go_ret
      exact ⟨ret_bool (by rw [HS.out]; simp [hlt]), rfl⟩
end Go.Proofs.Ytgkdioklafndjaa.Wd
