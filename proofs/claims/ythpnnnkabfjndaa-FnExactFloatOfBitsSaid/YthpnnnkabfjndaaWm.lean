/- Walks: the laws on classes, parts and bits of floats, second part. -/
import Derived.Test.YthpnnnkabfjndaaWl
set_option linter.unusedSimpArgs false
set_option linter.unusedVariables false
namespace Go.Proofs.Ythpnnnkabfjndaa.Wm
open Go.RowKit Fp Go.Proofs.Ythpnnnkabfjndaa.Wc Go.Proofs.Ythpnnnkabfjndaa.Wd Go.Proofs.Ythpnnnkabfjndaa.We Go.Proofs.Ythpnnnkabfjndaa.Wf Go.Proofs.Ythpnnnkabfjndaa.Wg Go.Proofs.Ythpnnnkabfjndaa.Wh Go.Proofs.Ythpnnnkabfjndaa.Wk Go.Proofs.Ythpnnnkabfjndaa.Wl

set_option maxHeartbeats 400000 in
theorem lClassOf (x : Nat) (hx0 : (Lit.float .f32 x).wf = true) (w : World) : Calls Try.prog 7 #[.float .f32 x] w fun e w' => e = .returned (.bool true) ∧ Grown w w' := by
  have hx := lt_of_wf hx0
  clear hx0
  go_enter Try.func7, Try.ntmps7
  go_wp2_with (first | (go_at_call 17; refine (sClassOf x hx _).mono ?_; rintro e w' ⟨rfl, n1, rfl⟩) | (go_at_call 18; refine (iClassOf x hx _).mono ?_; rintro e w' ⟨rfl, rfl⟩))
  go_ret
  exact ⟨rfl, grown_drewN _ _⟩

theorem nan_of_fin {x : Nat} (h : fin Ieee.single x = true) : nan Ieee.single x = false := by
  unfold fin nan at *; simp at *; omega

set_option maxHeartbeats 400000 in
theorem sPartsOf (x : Nat) (hx : x < 4294967296) (w : World) : Calls Try.prog 21 #[.float .f32 x] w fun e w' => e = .returned (if fin Ieee.single x = true then .tuple #[.int .i64 (sv (sg Ieee.single x) (mant x)), .int .i64 (expo x), .int .i64 0] else .tuple #[.int .i64 0, .int .i64 0, .int .i64 1]) ∧ ∃ n, w' = w.drewN n := by
  cases hf : fin Ieee.single x with
  | false =>
    rw [if_neg (by simp)]
    go_enter Try.func21, Try.ntmps21
    go_wp2_with (first | (go_at_call 30; refine (l01Finite x hx _).mono ?_; rintro e1 w1 ⟨rfl, n1, rfl⟩))
    go_ret3
    exact ⟨rfl, n1, rfl⟩
  | true =>
    rw [if_pos rfl]
    have hn := nan_of_fin hf
    have hl := lt32 hx (by decide : 0 < 4294967296) hn nan0
    rw [pl0] at hl
    have hm : (mant x : Int) < 16777216 := by unfold mant; split <;> omega
    have hm0 : pl Ieee.single x = 0 → mant x = 0 := fun h => by have := pl0_iff.1 h; unfold mant; rw [if_pos this.1, this.2]
    have hr : sv (sg Ieee.single x) (mant x) = if pl Ieee.single x < 0 then -(mant x : Int) else mant x := by
      by_cases h0 : pl Ieee.single x = 0
      · rw [if_neg (by omega), hm0 h0]; unfold sv; split <;> rfl
      · rw [sg_of_pl h0]; unfold sv; by_cases hlt : pl Ieee.single x < 0 <;> simp [hlt]
    have hP := fun w => l01Parts x hx hf w
    clear hm0
    generalize mant x = m at *
    generalize expo x = ex at *
    generalize sv (sg Ieee.single x) m = q at *
    have HP := Lib.hid hP
    have hm1 : (0 : Int) ≤ m := by omega
    clear hP
    by_cases hlt : pl Ieee.single x < 0
    · rw [if_pos hlt] at hr
      have HR := Lib.hid hr
      rw [show decide (pl Ieee.single x < 0) = true by simpa using hlt] at hl
      clear hlt hr
      go_enter Try.func21, Try.ntmps21
      go_wp2_with (first | (go_at_call 30; refine (l01Finite x hx _).mono ?_; rintro e1 w1 ⟨rfl, n1, rfl⟩) | (go_at_call 31; refine (HP.out _).mono ?_; rintro e1 w1 ⟨rfl, rfl⟩))
      go_ret3
      exact ⟨ret_i3 (by rw [HR.out]) rfl rfl, n1, rfl⟩
    · rw [if_neg hlt] at hr
      have HR := Lib.hid hr
      rw [show decide (pl Ieee.single x < 0) = false by simpa using hlt] at hl
      clear hlt hr
      go_enter Try.func21, Try.ntmps21
      go_wp2_with (first | (go_at_call 30; refine (l01Finite x hx _).mono ?_; rintro e1 w1 ⟨rfl, n1, rfl⟩) | (go_at_call 31; refine (HP.out _).mono ?_; rintro e1 w1 ⟨rfl, rfl⟩))
      go_ret3
      exact ⟨ret_i3 HR.out.symm rfl rfl, n1, rfl⟩

set_option maxHeartbeats 400000 in
theorem iPartsOf (x : Nat) (hx : x < 4294967296) (w : World) : Calls Try.prog 22 #[.float .f32 x] w fun e w' => e = .returned (if fin Ieee.single x = true then .tuple #[.int .i64 (sv (sg Ieee.single x) (mant x)), .int .i64 (expo x), .int .i64 0] else .tuple #[.int .i64 0, .int .i64 0, .int .i64 1]) ∧ w = w' := by
  cases hf : fin Ieee.single x with
  | false =>
    rw [if_neg (by simp)]
    go_enter Try.func22, Try.ntmps22
    go_wp2_with (first | (go_at_call 36; refine (isFinite x hx _).mono ?_; rintro e1 w1 ⟨rfl, rfl⟩))
    go_ret3
    exact ⟨rfl, rfl⟩
  | true =>
    rw [if_pos rfl]
    have hP := fun w => parts x hx w
    generalize sv (sg Ieee.single x) (mant x) = q at *
    generalize expo x = ex at *
    have HP := Lib.hid hP
    clear hP
    go_enter Try.func22, Try.ntmps22
    go_wp2_with (first | (go_at_call 36; refine (isFinite x hx _).mono ?_; rintro e1 w1 ⟨rfl, rfl⟩) | (go_at_call 37; refine (HP.out _).mono ?_; rintro e1 w1 ⟨rfl, rfl⟩))
    go_ret3
    exact ⟨rfl, rfl⟩

set_option maxHeartbeats 400000 in
theorem lPartsOf (x : Nat) (hx0 : (Lit.float .f32 x).wf = true) (w : World) : Calls Try.prog 9 #[.float .f32 x] w fun e w' => e = .returned (.bool true) ∧ Grown w w' := by
  have hx := lt_of_wf hx0
  clear hx0
  have h1 := fun w => sPartsOf x hx w
  have h2 := fun w => iPartsOf x hx w
  generalize sv (sg Ieee.single x) (mant x) = q at *
  generalize expo x = ex at *
  cases hf : fin Ieee.single x <;> simp only [hf, if_true, if_false, Bool.false_eq_true] at h1 h2
  all_goals
    have H1 := Lib.hid h1
    have H2 := Lib.hid h2
    clear h1 h2
    go_enter Try.func9, Try.ntmps9
    go_wp2_with (first | (go_at_call 21; refine (H1.out _).mono ?_; rintro e w' ⟨rfl, n1, rfl⟩) | (go_at_call 22; refine (H2.out _).mono ?_; rintro e w' ⟨rfl, rfl⟩))
    go_ret
    exact ⟨rfl, grown_drewN _ _⟩

/-- The words of a NaN are all alike: what a float that comes from bits is. -/
def likeF (a b : Nat) : Prop := a < 4294967296 ∧ b < 4294967296 ∧ (nan Ieee.single a = true ∧ nan Ieee.single b = true ∨ a = b ∧ nan Ieee.single a = false)

theorem and31 (n : Nat) (h : n < 4294967296) : bits .and .i64 (n : Int) 2147483647 = ((n % 2147483648 : Nat) : Int) := by
  have := bits_mask .i64 33 (by decide) (fun n h0 h1 => by rw [IntKind.wrap_i64]; omega) 31 (by decide) (n : Int) (by omega) (by omega)
  rw [show ((2 : Int) ^ 31 - 1) = 2147483647 from rfl] at this
  rw [this]; omega

set_option maxHeartbeats 400000 in
theorem sFloatOfBits (n : Nat) (hn : n < 4294967296) (w : World) : Calls Try.prog 19 #[.int .i64 (n : Int)] w fun e w' => (∃ r, e = .returned (.tuple #[.float .f32 r, .int .i64 0]) ∧ likeF n r) ∧ ∃ k, w' = w.drewN k := by
  have hb : decide ((0 : Int) ≤ n ∧ (n : Int) ≤ 4294967295) = true := by simp; omega
  have ha := and31 n hn
  have hrg : rg Ieee.single n = n % 2147483648 := by unfold rg; rw [sw32]
  generalize hrest : n % 2147483648 = rest at *
  by_cases h1 : 2139095040 < rest
  · have hnan : nan Ieee.single n = true := by unfold nan; rw [hrg, ir32]; simpa using h1
    obtain ⟨r, hr, hr1, hr2⟩ := run_arith_none (P := Try.prog) w .sub (by simp) 23 2139095040 2139095040 (by decide +kernel)
    have hd : decide ((2139095040 : Int) < rest) = true := by simp; omega
    have HH : Hid (likeF n r) := Lib.hid ⟨hn, hr1, .inl ⟨hnan, hr2⟩⟩
    clear h1 hnan hr1 hr2 hrg hrest
    go_enter Try.func19, Try.ntmps19
    go_wp2_with (first | (go_at_call 27; refine (l01In _ _ _ _).mono ?_; rw [hb]; rintro e1 w1 ⟨rfl, rfl⟩) | (go_at_call 33; refine (l01Huge _).mono ?_; rintro e1 w1 ⟨rfl, rfl⟩))
    go_ret2
    exact ⟨⟨r, rfl, HH.out⟩, 1, rfl⟩
  · have hnan : nan Ieee.single n = false := by unfold nan; rw [hrg, ir32]; simpa using h1
    have hd : decide ((2139095040 : Int) < rest) = false := by simp; omega
    have hat : at32 (rest : Int) = rest := by unfold at32; rw [if_neg (by omega)]; simp
    have HAT := Lib.hid hat
    have hle : (rest : Int) ≤ 2139095040 := by omega
    have hrlt : rest < 4294967296 := by omega
    have hrn : nan Ieee.single rest = false := by unfold nan rg; rw [sw32, ir32]; simp; omega
    by_cases h2 : 2147483648 ≤ n
    · have HH : Hid (likeF n (opp rest)) := Lib.hid (by
        have e1 : rg Ieee.single rest = rest := by unfold rg; rw [sw32]; omega
        have e2 : sg Ieee.single rest = false := by unfold sg; rw [sw32]; simp; omega
        have e3 : opp rest = n := by unfold opp; rw [e1, e2]; simp [Ieee.Format.word, sw32]; omega
        exact ⟨hn, by omega, .inr ⟨e3.symm, hnan⟩⟩)
      have hd2 : decide ((2147483648 : Int) ≤ n) = true := by simp; omega
      clear h1 hnan hrg hrest h2 hat
      go_enter Try.func19, Try.ntmps19
      go_wp2_with (first | (go_at_call 27; refine (l01In _ _ _ _).mono ?_; rw [hb]; rintro e1 w1 ⟨rfl, rfl⟩) | (go_at_call 28; refine (l01At (rest : Int) (by omega) hle _).mono ?_; rw [HAT.out]; rintro e1 w1 ⟨rfl, rfl⟩) | (go_at_call 34; refine (l01Turned rest hrlt hrn _).mono ?_; rintro e1 w1 ⟨rfl, rfl⟩))
      go_ret2
      exact ⟨⟨_, rfl, HH.out⟩, 0, rfl⟩
    · have HH : Hid (likeF n rest) := Lib.hid ⟨hn, by omega, .inr ⟨by omega, hnan⟩⟩
      have hd2 : decide ((2147483648 : Int) ≤ n) = false := by simp; omega
      clear h1 hnan hrg hrest h2 hat
      go_enter Try.func19, Try.ntmps19
      go_wp2_with (first | (go_at_call 27; refine (l01In _ _ _ _).mono ?_; rw [hb]; rintro e1 w1 ⟨rfl, rfl⟩) | (go_at_call 28; refine (l01At (rest : Int) (by omega) hle _).mono ?_; rw [HAT.out]; rintro e1 w1 ⟨rfl, rfl⟩))
      go_ret2
      exact ⟨⟨_, rfl, HH.out⟩, 0, rfl⟩

set_option maxHeartbeats 400000 in
theorem iFloatOfBits (n : Nat) (hn : n < 4294967296) (w : World) : Calls Try.prog 20 #[.int .i64 (n : Int)] w fun e w' => e = .returned (.tuple #[.float .f32 n, .int .i64 0]) ∧ w = w' := by
  have hle : (n : Int) ≤ 4294967295 := by omega
  go_enter Try.func20, Try.ntmps20
  go_wp2
  go_ret2
  exact ⟨ret_fi (by first | rfl | (simp; omega)) rfl, rfl⟩

set_option maxHeartbeats 400000 in
theorem out_FloatOfBits (n : Int) (h : ¬ (0 ≤ n ∧ n ≤ 4294967295)) (w : World) : Calls Try.prog 19 #[.int .i64 n] w (fun e w' => e = .returned (.tuple #[.float .f32 0, .int .i64 2]) ∧ w = w') ∧ Calls Try.prog 20 #[.int .i64 n] w (fun e w' => e = .returned (.tuple #[.float .f32 0, .int .i64 2]) ∧ w = w') := by
  have hb : decide (0 ≤ n ∧ n ≤ 4294967295) = false := by simpa using h
  constructor
  · go_enter Try.func19, Try.ntmps19
    go_wp2_with (first | (go_at_call 27; refine (l01In _ _ _ _).mono ?_; rw [hb]; rintro e1 w1 ⟨rfl, rfl⟩))
    go_ret2
    exact ⟨rfl, rfl⟩
  · clear hb
    by_cases h1 : n < 0
    · clear h
      go_enter Try.func20, Try.ntmps20
      go_wp2
      go_ret2
      exact ⟨rfl, rfl⟩
    · have h1' : 0 ≤ n := by omega
      have h2 : 4294967295 < n := by omega
      clear h h1
      go_enter Try.func20, Try.ntmps20
      go_wp2
      go_ret2
      exact ⟨rfl, rfl⟩

/-- What the laws ask of two floats that are alike. -/
theorem like_wide {P : Program} {a b : Nat} (h : likeF a b) (src dst : TypeId) (hs : (P.underlying src).isSome = true) (hd : P.underlying dst = some (.float .f64)) (w : World) :
    ∃ x y k1 k2, (convert src dst (.float .f32 a)).run P w = .ok (.float .f64 x) (w.drewN k1) ∧ (convert src dst (.float .f32 b)).run P (w.drewN k1) = .ok (.float .f64 y) (w.drewN k2) ∧ x < 18446744073709551616 ∧ y < 18446744073709551616 ∧ (nan Ieee.double x = true ∧ nan Ieee.double y = true ∨ x = y ∧ nan Ieee.double x = false) := by
  obtain ⟨ha, hb, ⟨na, nb⟩ | ⟨rfl, na⟩⟩ := h
  · obtain ⟨x, hx, hx1, hx2⟩ := run_convert_nan (P := P) w src dst ha na hs hd
    obtain ⟨y, hy, hy1, hy2⟩ := run_convert_nan (P := P) w.drew src dst hb nb hs hd
    exact ⟨x, y, 1, 2, hx, hy, hx1, hy1, .inl ⟨hx2, hy2⟩⟩
  · obtain ⟨x, hx, hx1, hx2⟩ := wide_of ha na
    have hr := fun w => run_convert_float_float (P := P) w src dst .f32 .f64 a x hs hd hx
    exact ⟨x, x, 0, 0, hr w, hr w, hx1, hx1, .inr ⟨rfl, hx2⟩⟩

theorem same_like (x y : Nat) (hx : x < 18446744073709551616) (hy : y < 18446744073709551616) (h : nan Ieee.double x = true ∧ nan Ieee.double y = true ∨ x = y ∧ nan Ieee.double x = false) (w : World) : Calls Try.prog 16 #[.float .f64 x, .float .f64 y] w fun e w' => e = .returned (.bool true) ∧ w = w' := by
  rcases h with ⟨h1, h2⟩ | ⟨rfl, h1⟩
  · exact sameFloat_nan x y hx hy h1 h2 w
  · exact sameFloat_self x hx h1 w

theorem likeF_symm {a b : Nat} (h : likeF a b) : likeF b a := by
  obtain ⟨h1, h2, ⟨h3, h4⟩ | ⟨rfl, h3⟩⟩ := h
  · exact ⟨h2, h1, .inl ⟨h4, h3⟩⟩
  · exact ⟨h2, h1, .inr ⟨rfl, h3⟩⟩

set_option maxHeartbeats 400000 in
theorem lFloatOfBits (n : Int) (_ : (Lit.int .i64 n).wf = true) (w : World) : Calls Try.prog 8 #[.int .i64 n] w fun e w' => e = .returned (.bool true) ∧ Grown w w' := by
  by_cases h : 0 ≤ n ∧ n ≤ 4294967295
  · obtain ⟨m, rfl⟩ : ∃ m : Nat, n = (m : Int) := ⟨n.toNat, by omega⟩
    have hm : m < 4294967296 := by omega
    clear h
    go_enter Try.func8, Try.ntmps8
    go_wp2_with fail
    refine (sFloatOfBits m hm _).mono ?_
    rintro e1 w1 ⟨⟨r, rfl, hr⟩, k, hw⟩
    have HW := Lib.hid hw
    clear hw
    obtain ⟨x, y, k1, k2, hc1, hc2, hx, hy, hxy⟩ := like_wide (P := Try.prog) hr 23 30 rfl Try.underlying30 w1
    have HR := Lib.hid hr
    clear hr
    go_wp2_with (first | (go_at_call 20; refine (iFloatOfBits m hm _).mono ?_; rintro e w' ⟨rfl, rfl⟩) | (go_at_call 16; refine (same_like x y hx hy hxy _).mono ?_; rintro e w' ⟨rfl, rfl⟩))
    go_ret
    exact ⟨rfl, by rw [HW.out, World.drewN_drewN]; exact grown_drewN _ _⟩
  · have h1 := fun w => (out_FloatOfBits n h w).1
    have h2 := fun w => (out_FloatOfBits n h w).2
    have H1 := Lib.hid h1
    have H2 := Lib.hid h2
    clear h1 h2
    have hc2 := run_convert_float_float (P := Try.prog) w 23 30 .f32 .f64 0 0 rfl Try.underlying30 (by decide +kernel)
    go_enter Try.func8, Try.ntmps8
    go_wp2_with (first | (go_at_call 19; refine (H1.out _).mono ?_; rintro e w' ⟨rfl, rfl⟩) | (go_at_call 20; refine (H2.out _).mono ?_; rintro e w' ⟨rfl, rfl⟩) | (go_at_call 16; refine (sameFloat_self 0 (by decide) (by decide) _).mono ?_; rintro e w' ⟨rfl, rfl⟩))
    go_ret
    exact ⟨rfl, Grown.refl _⟩

end Go.Proofs.Ythpnnnkabfjndaa.Wm
