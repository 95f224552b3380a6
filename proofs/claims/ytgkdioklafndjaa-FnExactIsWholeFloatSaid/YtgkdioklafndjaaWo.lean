/- Walks: places, distances, neighbours of floats, and the laws over them. -/
import Derived.Test.YtgkdioklafndjaaWn
set_option linter.unusedSimpArgs false
set_option linter.unusedVariables false
namespace Go.Proofs.Ytgkdioklafndjaa.Wo
open Go.RowKit Fp Go.Proofs.Ytgkdioklafndjaa.Wc Go.Proofs.Ytgkdioklafndjaa.Wd Go.Proofs.Ytgkdioklafndjaa.We Go.Proofs.Ytgkdioklafndjaa.Wf Go.Proofs.Ytgkdioklafndjaa.Wg Go.Proofs.Ytgkdioklafndjaa.Wh Go.Proofs.Ytgkdioklafndjaa.Wn

theorem grown_drewN (w : World) (n : Nat) : Grown w (w.drewN n) := by
  induction n with
  | zero => exact Grown.refl _
  | succ n ih => rw [← World.drew_drewN]; exact Grown.drew ih

theorem at32_lt (n : Int) (h1 : -2139095040 ≤ n) (h2 : n ≤ 2139095040) : at32 n < 4294967296 ∧ nan Ieee.single (at32 n) = false := by
  unfold at32 nan rg
  rw [sw32, ir32]
  split <;> simp <;> omega

theorem pl_le {x : Nat} (hn : nan Ieee.single x = false) : -2139095040 ≤ pl Ieee.single x ∧ pl Ieee.single x ≤ 2139095040 := by
  unfold nan at hn
  rw [ir32] at hn
  simp at hn
  unfold pl sv
  split <;> omega

set_option maxHeartbeats 400000 in
theorem lBitsOf (x : Nat) (hx0 : (Lit.float .f32 x).wf = true) (w : World) : Calls Try.prog 3 #[.float .f32 x] w fun e w' => e = .returned (.bool true) ∧ Grown w w' := by
  have hx := lt_of_wf hx0
  clear hx0
  have h1 := fun w => sBitsOf x hx w
  have h2 := fun w => iBitsOf x hx w
  generalize (if nan Ieee.single x = true then 2143289344 else (x : Int)) = q at *
  have H1 := Lib.hid h1
  have H2 := Lib.hid h2
  clear h1 h2
  go_enter Try.func3, Try.ntmps3
  go_wp2_with (first | (go_at_call 10; refine (H1.out _).mono ?_; rintro e w' ⟨rfl, n1, rfl⟩) | (go_at_call 11; refine (H2.out _).mono ?_; rintro e w' ⟨rfl, rfl⟩))
  go_ret
  exact ⟨rfl, grown_drewN _ _⟩

/-- A place and its code. -/
def plc (x : Nat) : Value := if nan Ieee.single x = true then .tuple #[.int .i64 0, .int .i64 1] else .tuple #[.int .i64 (pl Ieee.single x), .int .i64 0]

set_option maxHeartbeats 400000 in
theorem sPlaceOf (x : Nat) (hx : x < 4294967296) (w : World) : Calls Try.prog 12 #[.float .f32 x] w fun e w' => e = .returned (plc x) ∧ ∃ k, w' = w.drewN k := by
  unfold plc
  cases hn : nan Ieee.single x with
  | true =>
    rw [if_pos rfl]
    go_enter Try.func12, Try.ntmps12
    go_wp2_with (first | (go_at_call 27; refine (Wc.l01NaN x hx _).mono ?_; rintro e1 w1 ⟨rfl, rfl⟩))
    go_ret2
    exact ⟨rfl, 0, rfl⟩
  | false =>
    rw [if_neg (by simp)]
    go_enter Try.func12, Try.ntmps12
    go_wp2_with (first | (go_at_call 27; refine (Wc.l01NaN x hx _).mono ?_; rintro e1 w1 ⟨rfl, rfl⟩) | (go_at_call 28; refine (l01Place _ hx hn _).mono ?_; rintro e1 w1 ⟨rfl, n1, rfl⟩))
    go_ret2
    exact ⟨rfl, n1, rfl⟩

set_option maxHeartbeats 400000 in
theorem iPlaceOf (x : Nat) (hx : x < 4294967296) (w : World) : Calls Try.prog 13 #[.float .f32 x] w fun e w' => e = .returned (plc x) ∧ w = w' := by
  unfold plc
  cases hn : nan Ieee.single x with
  | true =>
    rw [if_pos rfl]
    go_enter Try.func13, Try.ntmps13
    go_wp2_with (first | (go_at_call 30; refine (Wc.isNaN x hx _).mono ?_; rintro e1 w1 ⟨rfl, rfl⟩))
    go_ret2
    exact ⟨rfl, rfl⟩
  | false =>
    rw [if_neg (by simp)]
    go_enter Try.func13, Try.ntmps13
    go_wp2_with (first | (go_at_call 30; refine (Wc.isNaN x hx _).mono ?_; rintro e1 w1 ⟨rfl, rfl⟩) | (go_at_call 32; refine (place _ hx _).mono ?_; rintro e1 w1 ⟨rfl, rfl⟩))
    go_ret2
    exact ⟨rfl, rfl⟩

set_option maxHeartbeats 400000 in
theorem lPlaceOf (x : Nat) (hx0 : (Lit.float .f32 x).wf = true) (w : World) : Calls Try.prog 4 #[.float .f32 x] w fun e w' => e = .returned (.bool true) ∧ Grown w w' := by
  have hx := lt_of_wf hx0
  clear hx0
  have h1 := fun w => sPlaceOf x hx w
  have h2 := fun w => iPlaceOf x hx w
  obtain ⟨a, b, hab⟩ : ∃ a b, plc x = .tuple #[.int .i64 a, .int .i64 b] := by unfold plc; split <;> exact ⟨_, _, rfl⟩
  rw [hab] at h1 h2
  have H1 := Lib.hid h1
  have H2 := Lib.hid h2
  clear h1 h2 hab
  go_enter Try.func4, Try.ntmps4
  go_wp2_with (first | (go_at_call 12; refine (H1.out _).mono ?_; rintro e w' ⟨rfl, n1, rfl⟩) | (go_at_call 13; refine (H2.out _).mono ?_; rintro e w' ⟨rfl, rfl⟩))
  go_ret
  exact ⟨rfl, grown_drewN _ _⟩

/-- How many places two floats are apart, and the code. -/
def gap (x y : Nat) : Value := if fin Ieee.single x = true ∧ fin Ieee.single y = true then .tuple #[.int .i64 (if pl Ieee.single x - pl Ieee.single y < 0 then -(pl Ieee.single x - pl Ieee.single y) else pl Ieee.single x - pl Ieee.single y), .int .i64 0] else .tuple #[.int .i64 0, .int .i64 1]

theorem nan_of_fin {x : Nat} (h : fin Ieee.single x = true) : nan Ieee.single x = false := by
  unfold fin nan at *; simp at *; omega

set_option maxHeartbeats 400000 in
theorem sPlacesBetween (x y : Nat) (hx : x < 4294967296) (hy : y < 4294967296) (w : World) : Calls Try.prog 14 #[.float .f32 x, .float .f32 y] w fun e w' => e = .returned (gap x y) ∧ ∃ k, w' = w.drewN k := by
  unfold gap
  cases hf : fin Ieee.single x with
  | false =>
    rw [if_neg (by simp)]
    go_enter Try.func14, Try.ntmps14
    go_wp2_with (first | (go_at_call 33; refine (l01Finite x hx _).mono ?_; rintro e1 w1 ⟨rfl, n1, rfl⟩))
    go_ret2
    exact ⟨rfl, n1, rfl⟩
  | true =>
    cases hf2 : fin Ieee.single y with
    | false =>
      rw [if_neg (by simp)]
      go_enter Try.func14, Try.ntmps14
      go_wp2_with fail
      refine (l01Finite x hx _).mono ?_
      rintro e1 w1 ⟨rfl, n1, rfl⟩
      go_wp2_with fail
      refine (l01Finite y hy _).mono ?_
      rintro e1 w1 ⟨rfl, n2, rfl⟩
      go_wp2
      go_ret2
      exact ⟨rfl, n1 + n2, by simp only [World.drewN_drewN]⟩
    | true =>
      rw [if_pos ⟨rfl, rfl⟩]
      have b1 := pl_bd x
      have b2 := pl_bd y
      generalize hp : pl Ieee.single x = p at *
      generalize hq : pl Ieee.single y = q at *
      have HP := Lib.hid hp
      have HQ := Lib.hid hq
      clear hp hq
      by_cases hlt : p - q < 0
      all_goals
        go_enter Try.func14, Try.ntmps14
        go_wp2_with fail
        refine (l01Finite x hx _).mono ?_
        rintro e1 w1 ⟨rfl, n1, rfl⟩
        go_wp2_with fail
        refine (l01Finite y hy _).mono ?_
        rintro e1 w1 ⟨rfl, n2, rfl⟩
        go_wp2_with fail
        refine (l01Place x hx (nan_of_fin hf) _).mono ?_
        rw [HP.out]
        rintro e1 w1 ⟨rfl, n3, rfl⟩
        go_wp2_with fail
        refine (l01Place y hy (nan_of_fin hf2) _).mono ?_
        rw [HQ.out]
        rintro e1 w1 ⟨rfl, n4, rfl⟩
        go_wp2
      all_goals go_ret2
      all_goals (refine ⟨?_, n1 + (n2 + (n3 + n4)), by simp only [World.drewN_drewN, Nat.add_assoc]⟩)
      all_goals (refine ret_ints ?_ rfl)
      all_goals (try split)
      all_goals omega

set_option maxHeartbeats 400000 in
theorem iPlacesBetween (x y : Nat) (hx : x < 4294967296) (hy : y < 4294967296) (w : World) : Calls Try.prog 15 #[.float .f32 x, .float .f32 y] w fun e w' => e = .returned (gap x y) ∧ w = w' := by
  unfold gap
  cases hf : fin Ieee.single x with
  | false =>
    rw [if_neg (by simp)]
    go_enter Try.func15, Try.ntmps15
    go_wp2_with (first | (go_at_call 34; refine (isFinite x hx _).mono ?_; rintro e1 w1 ⟨rfl, rfl⟩))
    go_ret2
    exact ⟨rfl, rfl⟩
  | true =>
    cases hf2 : fin Ieee.single y with
    | false =>
      rw [if_neg (by simp)]
      go_enter Try.func15, Try.ntmps15
      go_wp2_with fail
      refine (isFinite x hx _).mono ?_
      rintro e1 w1 ⟨rfl, rfl⟩
      go_wp2_with fail
      refine (isFinite y hy _).mono ?_
      rintro e1 w1 ⟨rfl, rfl⟩
      go_wp2
      go_ret2
      exact ⟨rfl, rfl⟩
    | true =>
      rw [if_pos ⟨rfl, rfl⟩]
      have b1 := pl_bd x
      have b2 := pl_bd y
      generalize hp : pl Ieee.single x = p at *
      generalize hq : pl Ieee.single y = q at *
      have HP := Lib.hid hp
      have HQ := Lib.hid hq
      clear hp hq
      by_cases hlt : p - q < 0
      all_goals
        go_enter Try.func15, Try.ntmps15
        go_wp2_with fail
        refine (isFinite x hx _).mono ?_
        rintro e1 w1 ⟨rfl, rfl⟩
        go_wp2_with fail
        refine (isFinite y hy _).mono ?_
        rintro e1 w1 ⟨rfl, rfl⟩
        go_wp2_with fail
        refine (place x hx _).mono ?_
        rw [HP.out]
        rintro e1 w1 ⟨rfl, rfl⟩
        go_wp2_with fail
        refine (place y hy _).mono ?_
        rw [HQ.out]
        rintro e1 w1 ⟨rfl, rfl⟩
        go_wp2
      all_goals go_ret2
      all_goals (refine ⟨?_, rfl⟩)
      all_goals (refine ret_ints ?_ rfl)
      all_goals (try split)
      all_goals omega

set_option maxHeartbeats 400000 in
theorem lPlacesBetween (x : Nat) (hx0 : (Lit.float .f32 x).wf = true) (y : Nat) (hy0 : (Lit.float .f32 y).wf = true) (w : World) : Calls Try.prog 5 #[.float .f32 x, .float .f32 y] w fun e w' => e = .returned (.bool true) ∧ Grown w w' := by
  have hx := lt_of_wf hx0
  have hy := lt_of_wf hy0
  clear hx0 hy0
  have h1 := fun w => sPlacesBetween x y hx hy w
  have h2 := fun w => iPlacesBetween x y hx hy w
  obtain ⟨a, b, hab⟩ : ∃ a b, gap x y = .tuple #[.int .i64 a, .int .i64 b] := by unfold gap; split <;> exact ⟨_, _, rfl⟩
  rw [hab] at h1 h2
  have H1 := Lib.hid h1
  have H2 := Lib.hid h2
  clear h1 h2 hab
  go_enter Try.func5, Try.ntmps5
  go_wp2_with (first | (go_at_call 14; refine (H1.out _).mono ?_; rintro e w' ⟨rfl, n1, rfl⟩) | (go_at_call 15; refine (H2.out _).mono ?_; rintro e w' ⟨rfl, rfl⟩))
  go_ret
  exact ⟨rfl, grown_drewN _ _⟩
end Go.Proofs.Ytgkdioklafndjaa.Wo
