/- Walks: equality of floats in the laws; the laws on floats at places and of bits. -/
import Derived.Test.YtgkdioklafndjaaWg

set_option linter.unusedSimpArgs false

set_option linter.unusedVariables false
namespace Go.Proofs.Ytgkdioklafndjaa.Wh
open Go.RowKit Fp Go.Proofs.Ytgkdioklafndjaa.Wc Go.Proofs.Ytgkdioklafndjaa.Wd Go.Proofs.Ytgkdioklafndjaa.We Go.Proofs.Ytgkdioklafndjaa.Wf Go.Proofs.Ytgkdioklafndjaa.Wg

theorem wide_of {x : Nat} (hx : x < 4294967296) (hn : nan Ieee.single x = false) : ∃ y, floatToFloatBits .f32 x .f64 = some y ∧ y < 18446744073709551616 ∧ nan Ieee.double y = false := by
  have hx' : x < 2 ^ Ieee.single.width := by rw [wd32]; exact hx
  cases hf : fin Ieee.single x with
  | true =>
    obtain ⟨m, e, hr, c, hrg, _⟩ := isN_fin hf32 hx' hf
    obtain ⟨y, hy, hyn⟩ := widen c hr (by rw [hrg]; unfold fin at hf; simpa using hf)
    exact ⟨y, hy, by have := isN_lt hyn; rwa [wd64] at this, (isN_fin' hyn).2.1⟩
  | false =>
    obtain ⟨hr, _⟩ := read_inf hf32 hx' hf hn
    refine ⟨FloatKind.f64.encode (.infinity (sg Ieee.single x)), ?_, ?_, ?_⟩
    · unfold floatToFloatBits
      rw [if_neg (by decide)]
      have hd : FloatKind.f32.decode x = .infinity (sg Ieee.single x) := hr
      rw [hd]
    · cases sg Ieee.single x <;> decide
    · cases sg Ieee.single x <;> decide

theorem run_convert_nan {P : Program} (w : World) (src dst : TypeId) {x : Nat} (hx : x < 4294967296) (hn : nan Ieee.single x = true) (hs : (P.underlying src).isSome = true) (hd : P.underlying dst = some (.float .f64)) :
    ∃ r, (convert src dst (.float .f32 x)).run P w = .ok (.float .f64 r) w.drew ∧ r < 18446744073709551616 ∧ nan Ieee.double r = true := by
  obtain ⟨s, t, hr⟩ := read_nan hf32 (by rw [wd32]; exact hx) hn
  have hdec : FloatKind.f32.decode x = .nan s t := hr
  obtain ⟨u, hs'⟩ := Option.isSome_iff_exists.1 hs
  refine ⟨(Question.nanConv .f64 x).cut (w.tape w.drawn (Question.nanConv .f64 x)), ?_, ?_, ?_⟩
  · cases u <;> simp [convert, run_underlying hs', run_underlying hd, Conv.floatToFloat, hdec, Question.forced]
  · generalize w.tape w.drawn (Question.nanConv .f64 x) = q
    simp only [Question.cut, Nat.reducePow, Nat.reduceSub]
    omega
  · generalize w.tape w.drawn (Question.nanConv .f64 x) = q
    simp only [Question.cut, Nat.reducePow, Nat.reduceSub]
    unfold nan rg
    rw [sw64, ir64]
    simp only [decide_eq_true_eq]
    have hb : q / 2 % 4503599627370495 < 4503599627370495 := Nat.mod_lt _ (by decide)
    have ha : q % 2 = 0 ∨ q % 2 = 1 := by omega
    generalize q / 2 % 4503599627370495 = b at *
    rcases ha with ha | ha <;> rw [ha] <;> omega

theorem ord64 {x y : Nat} (hx : x < 18446744073709551616) (hy : y < 18446744073709551616) (nx : nan Ieee.double x = false) (ny : nan Ieee.double y = false) : FloatKind.f64.format.order x y = some (compare (pl Ieee.double x) (pl Ieee.double y)) :=
  order_pl hK64 hf64 (by rw [wd64]; exact hx) (by rw [wd64]; exact hy) nx ny

theorem ordn64 {x y : Nat} (hx : x < 18446744073709551616) (hy : y < 18446744073709551616) (n : nan Ieee.double x = true ∨ nan Ieee.double y = true) : FloatKind.f64.format.order x y = none :=
  order_nan hf64 (by rw [wd64]; exact hx) (by rw [wd64]; exact hy) n

set_option maxHeartbeats 400000 in
theorem sameFloat_nan (x y : Nat) (hx : x < 18446744073709551616) (hy : y < 18446744073709551616) (nx : nan Ieee.double x = true) (ny : nan Ieee.double y = true) (w : World) : Calls Try.prog 21 #[.float .f64 x, .float .f64 y] w fun e w' => e = .returned (.bool true) ∧ w = w' := by
  have h1 := ordn64 hx hx (.inl nx)
  have h2 := ordn64 hy hy (.inl ny)
  clear nx ny hx hy
  go_enter Try.func21, Try.ntmps21
  go_wp2
  go_ret
  exact ⟨rfl, rfl⟩

set_option maxHeartbeats 400000 in
theorem sameFloat_self (x : Nat) (hx : x < 18446744073709551616) (nx : nan Ieee.double x = false) (w : World) : Calls Try.prog 21 #[.float .f64 x, .float .f64 x] w fun e w' => e = .returned (.bool true) ∧ w = w' := by
  have h1 := ord64 hx hx nx nx
  have h2 := ord64 hx (by decide : 0 < 18446744073709551616) nx (by decide)
  rw [show pl Ieee.double 0 = 0 by decide] at h2
  have h3 : (FloatKind.f64.format.order x x == some .eq) = true := by rw [h1, cmp_eq]; simp
  have h4 : (FloatKind.f64.format.order x x != some .eq) = false := by rw [bne, h3]; rfl
  have h5 : (FloatKind.f64.format.order x 0 == some .eq) = decide (pl Ieee.double x = 0) := by rw [h2, cmp_eq]
  clear h1 h2
  by_cases h0 : pl Ieee.double x = 0
  · have hz : x = 0 ∨ x = 9223372036854775808 := by
      unfold pl sv rg at h0
      rw [sw64] at h0
      split at h0 <;> omega
    clear h0 h5 h3 h4 nx
    rcases hz with rfl | rfl
    · have hd := run_float_arith (P := Try.prog) w .quo 36 .f64 4607182418800017408 0 9218868437227405312 (by decide +kernel)
      have k1 : (FloatKind.f64.format.order 0 0 != some .eq) = false := by decide +kernel
      have k2 : (FloatKind.f64.format.order 0 0 == some .eq) = true := by decide +kernel
      go_enter Try.func21, Try.ntmps21
      go_wp2
      all_goals (go_ret; exact ⟨ret_bool (by simp), rfl⟩)
    · have hd := run_float_arith (P := Try.prog) w .quo 36 .f64 4607182418800017408 9223372036854775808 18442240474082181120 (by decide +kernel)
      have k1 : (FloatKind.f64.format.order 9223372036854775808 9223372036854775808 != some .eq) = false := by decide +kernel
      have k2 : (FloatKind.f64.format.order 9223372036854775808 0 == some .eq) = true := by decide +kernel
      go_enter Try.func21, Try.ntmps21
      go_wp2
      all_goals (go_ret; exact ⟨ret_bool (by simp), rfl⟩)
  · rw [show decide (pl Ieee.double x = 0) = false by simpa using h0] at h5
    clear h0
    go_enter Try.func21, Try.ntmps21
    go_wp2
    all_goals (go_ret; exact ⟨ret_bool (by first | exact h3 | simp [h3]), rfl⟩)

end Go.Proofs.Ytgkdioklafndjaa.Wh