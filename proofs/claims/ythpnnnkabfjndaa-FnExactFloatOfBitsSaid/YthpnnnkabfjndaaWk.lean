/- Walks: the laws on places, classes, bits and parts of floats. -/
import Derived.Test.YthpnnnkabfjndaaWh
set_option linter.unusedSimpArgs false
set_option linter.unusedVariables false
namespace Go.Proofs.Ythpnnnkabfjndaa.Wk
open Go.RowKit Fp Go.Proofs.Ythpnnnkabfjndaa.Wc Go.Proofs.Ythpnnnkabfjndaa.Wd Go.Proofs.Ythpnnnkabfjndaa.We Go.Proofs.Ythpnnnkabfjndaa.Wf Go.Proofs.Ythpnnnkabfjndaa.Wg Go.Proofs.Ythpnnnkabfjndaa.Wh

theorem grown_drewN (w : World) (n : Nat) : Grown w (w.drewN n) := by
  induction n with
  | zero => exact Grown.refl _
  | succ n ih => rw [← World.drew_drewN]; exact Grown.drew ih
theorem at32_lt (n : Int) (h1 : -2139095040 ≤ n) (h2 : n ≤ 2139095040) : at32 n < 4294967296 ∧ nan Ieee.single (at32 n) = false := by
  unfold at32 nan rg
  rw [sw32, ir32]
  split <;> simp <;> omega
theorem ret_fi {k : FloatKind} {j : IntKind} {a b : Nat} {c d : Int} (h : a = b) (h' : c = d) : Ending.returned (.tuple #[.float k a, .int j c]) = .returned (.tuple #[.float k b, .int j d]) := by rw [h, h']
theorem ret_i3 {k : IntKind} {a b c a' b' c' : Int} (h : a = a') (h' : b = b') (h'' : c = c') : Ending.returned (.tuple #[.int k a, .int k b, .int k c]) = .returned (.tuple #[.int k a', .int k b', .int k c']) := by rw [h, h', h'']

set_option maxHeartbeats 400000 in
theorem sFloatAtPlace (n : Int) (w : World) : Calls Try.prog 14 #[.int .i64 n] w fun e w' => e = .returned (if -2139095040 ≤ n ∧ n ≤ 2139095040 then .tuple #[.float .f32 (at32 n), .int .i64 0] else .tuple #[.float .f32 0, .int .i64 2]) ∧ w = w' := by
  by_cases h : -2139095040 ≤ n ∧ n ≤ 2139095040
  · rw [if_pos h]
    have hb : decide (-2139095040 ≤ n ∧ n ≤ 2139095040) = true := by simpa using h
    go_enter Try.func14, Try.ntmps14
    go_wp2_with fail
    refine (l01In _ _ _ _).mono ?_
    rw [hb]
    rintro e w' ⟨rfl, rfl⟩
    go_wp2_with fail
    refine (l01At n h.1 h.2 _).mono ?_
    rintro e w' ⟨rfl, rfl⟩
    go_wp2
    go_ret2
    exact ⟨rfl, rfl⟩
  · rw [if_neg h]
    have hb : decide (-2139095040 ≤ n ∧ n ≤ 2139095040) = false := by simpa using h
    go_enter Try.func14, Try.ntmps14
    go_wp2_with fail
    refine (l01In _ _ _ _).mono ?_
    rw [hb]
    rintro e w' ⟨rfl, rfl⟩
    go_wp2
    go_ret2
    exact ⟨rfl, rfl⟩

set_option maxHeartbeats 400000 in
theorem iFloatAtPlace (n : Int) (w : World) : Calls Try.prog 15 #[.int .i64 n] w fun e w' => e = .returned (if -2139095040 ≤ n ∧ n ≤ 2139095040 then .tuple #[.float .f32 (at32 n), .int .i64 0] else .tuple #[.float .f32 0, .int .i64 2]) ∧ w = w' := by
  by_cases h : -2139095040 ≤ n ∧ n ≤ 2139095040
  · rw [if_pos h]
    obtain ⟨h1, h2⟩ := h
    go_enter Try.func15, Try.ntmps15
    go_wp2_with fail
    refine (atPlace n h1 h2 _).mono ?_
    rintro e w' ⟨rfl, rfl⟩
    go_wp2
    go_ret2
    exact ⟨rfl, rfl⟩
  · rw [if_neg h]
    by_cases h1 : n < -2139095040
    · clear h
      go_enter Try.func15, Try.ntmps15
      go_wp2
      go_ret2
      exact ⟨rfl, rfl⟩
    · have h2 : 2139095040 < n := by omega
      have h1' : -2139095040 ≤ n := by omega
      clear h h1
      go_enter Try.func15, Try.ntmps15
      go_wp2
      go_ret2
      exact ⟨rfl, rfl⟩

set_option maxHeartbeats 400000 in
theorem lFloatAtPlace (n : Int) (_ : (Lit.int .i64 n).wf = true) (w : World) : Calls Try.prog 6 #[.int .i64 n] w fun e w' => e = .returned (.bool true) ∧ Grown w w' := by
  by_cases h : -2139095040 ≤ n ∧ n ≤ 2139095040
  · have h1 := sFloatAtPlace n w
    have h2 := iFloatAtPlace n w
    rw [if_pos h] at h1 h2
    have H1 := Lib.hid h1
    have H2 := Lib.hid h2
    clear h1 h2
    obtain ⟨k1, k2⟩ := at32_lt n h.1 h.2
    obtain ⟨y, hy, hy1, hy2⟩ := wide_of k1 k2
    have hc2 := run_convert_float_float (P := Try.prog) w 23 30 .f32 .f64 (at32 n) y rfl Try.underlying30 hy
    clear hy k1 k2
    go_enter Try.func6, Try.ntmps6
    go_wp2_with (first | (go_at_call 14; refine H1.out.mono ?_; rintro e w' ⟨rfl, rfl⟩) | (go_at_call 15; refine H2.out.mono ?_; rintro e w' ⟨rfl, rfl⟩) | (go_at_call 16; refine (sameFloat_self y hy1 hy2 _).mono ?_; rintro e w' ⟨rfl, rfl⟩))
    go_ret
    exact ⟨rfl, Grown.refl _⟩
  · have h1 := sFloatAtPlace n w
    have h2 := iFloatAtPlace n w
    rw [if_neg h] at h1 h2
    have H1 := Lib.hid h1
    have H2 := Lib.hid h2
    clear h1 h2
    have hc2 := run_convert_float_float (P := Try.prog) w 23 30 .f32 .f64 0 0 rfl Try.underlying30 (by decide +kernel)
    go_enter Try.func6, Try.ntmps6
    go_wp2_with (first | (go_at_call 14; refine H1.out.mono ?_; rintro e w' ⟨rfl, rfl⟩) | (go_at_call 15; refine H2.out.mono ?_; rintro e w' ⟨rfl, rfl⟩) | (go_at_call 16; refine (sameFloat_self 0 (by decide) (by decide) _).mono ?_; rintro e w' ⟨rfl, rfl⟩))
    go_ret
    exact ⟨rfl, Grown.refl _⟩
end Go.Proofs.Ythpnnnkabfjndaa.Wk
