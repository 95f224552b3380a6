/- Walks: the total order; classes, parts and bits; the float at a place; equality of floats; and the laws over them. -/
import Derived.Test.YtgkdioklafndjaaWe

set_option linter.unusedSimpArgs false

set_option linter.unusedVariables false
namespace Go.Proofs.Ytgkdioklafndjaa.Wf
open Go.RowKit Fp Go.Proofs.Ytgkdioklafndjaa.Wc Go.Proofs.Ytgkdioklafndjaa.Wd Go.Proofs.Ytgkdioklafndjaa.We

/-- The rank in the total order. -/
def rk (x : Nat) : Int := if nan Ieee.single x = true then 1099511627776 else if pl Ieee.single x = 0 ∧ sg Ieee.single x = false then 1 else 2 * pl Ieee.single x

theorem pl_bd (x : Nat) : -2147483648 < pl Ieee.single x ∧ pl Ieee.single x < 2147483648 := by
  have := rg_lt x
  unfold pl sv; split <;> omega

theorem rk_nan {x : Nat} (h : nan Ieee.single x = true) : rk x = 1099511627776 := by unfold rk; rw [if_pos h]

theorem rk_num {x : Nat} (h : nan Ieee.single x = false) : rk x = if pl Ieee.single x = 0 ∧ sg Ieee.single x = false then 1 else 2 * pl Ieee.single x := by unfold rk; rw [if_neg (by rw [h]; simp)]

theorem rk_lt {x y : Nat} (h : nan Ieee.single x = false) (h' : nan Ieee.single y = false) (hz : ¬ (pl Ieee.single x = 0 ∧ pl Ieee.single y = 0)) : decide (rk x < rk y) = decide (pl Ieee.single x < pl Ieee.single y) := by
  rw [rk_num h, rk_num h', Bool.eq_iff_iff, decide_eq_true_iff, decide_eq_true_iff]
  split <;> split <;> omega

theorem rk_zero {x y : Nat} (h : nan Ieee.single x = false) (h' : nan Ieee.single y = false) (hx : pl Ieee.single x = 0) (hy : pl Ieee.single y = 0) : decide (rk x < rk y) = (sg Ieee.single x && !(sg Ieee.single y)) := by
  rw [rk_num h, rk_num h', hx, hy]
  cases sg Ieee.single x <;> cases sg Ieee.single y <;> simp

theorem ne32 (x : Nat) (hx : x < 4294967296) : (FloatKind.f32.format.order x x != some .eq) = nan Ieee.single x := (nan32 x hx).symm

set_option maxHeartbeats 400000 in
theorem rank (x : Nat) (hx : x < 4294967296) (w : World) : Calls Try.prog 47 #[.float .f32 x] w fun e w' => e = .returned (.int .i64 (rk x)) ∧ w = w' := by
  have hpb := pl_bd x
  cases hn : nan Ieee.single x with
  | true =>
    have hr : Hid (rk x = 1099511627776) := Lib.hid (by unfold rk; rw [if_pos hn])
    go_enter Try.func47, Try.ntmps47
    go_wp2_with (first | (go_at_call 30; refine (Wc.isNaN x hx _).mono ?_; rintro e1 w1 ⟨rfl, rfl⟩))
    go_ret
    exact ⟨ret_int hr.out.symm, rfl⟩
  | false =>
    have he := eq32 hx (by decide : 0 < 4294967296) hn nan0
    rw [pl0] at he
    by_cases h0 : pl Ieee.single x = 0
    · rw [show decide (pl Ieee.single x = 0) = true by simpa using h0] at he
      cases hs : sg Ieee.single x with
      | false =>
        have hr : Hid (rk x = 1) := Lib.hid (by unfold rk; rw [if_neg (by simp [hn]), if_pos ⟨h0, hs⟩])
        clear h0
        go_enter Try.func47, Try.ntmps47
        go_wp2_with (first | (go_at_call 30; refine (Wc.isNaN x hx _).mono ?_; rintro e1 w1 ⟨rfl, rfl⟩) | (go_at_call 41; refine (minus x hx _).mono ?_; rintro e1 w1 ⟨rfl, rfl⟩))
        go_ret
        exact ⟨ret_int hr.out.symm, rfl⟩
      | true =>
        have hr : Hid (rk x = 2 * pl Ieee.single x) := Lib.hid (by unfold rk; rw [if_neg (by simp [hn]), if_neg (by simp [hs])])
        clear h0
        go_enter Try.func47, Try.ntmps47
        go_wp2_with (first | (go_at_call 30; refine (Wc.isNaN x hx _).mono ?_; rintro e1 w1 ⟨rfl, rfl⟩) | (go_at_call 41; refine (minus x hx _).mono ?_; rintro e1 w1 ⟨rfl, rfl⟩) | (go_at_call 32; refine (place x hx _).mono ?_; rintro e1 w1 ⟨rfl, rfl⟩))
        go_ret
        exact ⟨ret_int hr.out.symm, rfl⟩
    · rw [show decide (pl Ieee.single x = 0) = false by simpa using h0] at he
      have hr : Hid (rk x = 2 * pl Ieee.single x) := Lib.hid (by unfold rk; rw [if_neg (by simp [hn]), if_neg (by simp [h0])])
      clear h0
      go_enter Try.func47, Try.ntmps47
      go_wp2_with (first | (go_at_call 30; refine (Wc.isNaN x hx _).mono ?_; rintro e1 w1 ⟨rfl, rfl⟩) | (go_at_call 41; refine (minus x hx _).mono ?_; rintro e1 w1 ⟨rfl, rfl⟩) | (go_at_call 32; refine (place x hx _).mono ?_; rintro e1 w1 ⟨rfl, rfl⟩))
      go_ret
      exact ⟨ret_int hr.out.symm, rfl⟩

set_option maxHeartbeats 400000 in
theorem iTotalLess (x y : Nat) (hx : x < 4294967296) (hy : y < 4294967296) (w : World) : Calls Try.prog 38 #[.float .f32 x, .float .f32 y] w fun e w' => e = .returned (.bool (decide (rk x < rk y))) ∧ w = w' := by
  go_enter Try.func38, Try.ntmps38
  go_wp2_with fail
  refine (rank x hx _).mono ?_
  rintro e1 w1 ⟨rfl, rfl⟩
  go_wp2_with fail
  refine (rank y hy _).mono ?_
  rintro e1 w1 ⟨rfl, rfl⟩
  go_wp2_with fail
  go_ret
  exact ⟨rfl, rfl⟩

set_option maxHeartbeats 400000 in
theorem l01Ahead (x y : Nat) (hx : x < 4294967296) (hy : y < 4294967296) (w : World) : Calls Try.prog 46 #[.float .f32 x, .float .f32 y] w fun e w' => e = .returned (.bool (decide (rk x < rk y))) ∧ w = w' := by
  have bx := pl_bd x
  have by' := pl_bd y
  cases hn : nan Ieee.single x with
  | true =>
    have hr : Hid (decide (rk x < rk y) = false) := Lib.hid (by
      unfold rk; rw [if_pos hn]; simp; split
      · omega
      · split <;> omega)
    go_enter Try.func46, Try.ntmps46
    go_wp2_with (first | (go_at_call 27; refine (Wc.l01NaN _ ?_ _).mono ?_; assumption; rintro e1 w1 ⟨rfl, rfl⟩))
    go_ret
    exact ⟨ret_bool hr.out.symm, rfl⟩
  | false =>
    cases hn2 : nan Ieee.single y with
    | true =>
      have hr : Hid (decide (rk x < rk y) = true) := Lib.hid (by
        unfold rk; rw [if_neg (by simp [hn]), if_pos hn2]; simp
        split <;> omega)
      go_enter Try.func46, Try.ntmps46
      go_wp2_with (first | (go_at_call 27; refine (Wc.l01NaN _ ?_ _).mono ?_; assumption; rintro e1 w1 ⟨rfl, rfl⟩))
      go_ret
      exact ⟨ret_bool hr.out.symm, rfl⟩
    | false =>
      have hxy := lt32 hx hy hn hn2
      have he := eq32 hx (by decide : 0 < 4294967296) hn nan0
      have he2 := eq32 hy (by decide : 0 < 4294967296) hn2 nan0
      rw [pl0] at he he2
      by_cases h0 : pl Ieee.single x = 0
      · by_cases h1 : pl Ieee.single y = 0
        · rw [h0] at he
          rw [h1] at he2
          simp only [decide_true] at he he2
          have hr : Hid (decide (rk x < rk y) = (sg Ieee.single x && !(sg Ieee.single y))) := Lib.hid (rk_zero hn hn2 h0 h1)
          clear h0 h1 hxy
          cases hs : sg Ieee.single x <;> cases hs2 : sg Ieee.single y
          all_goals
            go_enter Try.func46, Try.ntmps46
            go_wp2_with (first | (go_at_call 27; refine (Wc.l01NaN _ ?_ _).mono ?_; assumption; rintro e1 w1 ⟨rfl, rfl⟩) | (go_at_call 29; refine (l01Minus _ ?_ ?_ _).mono ?_; assumption; assumption; rintro e1 w1 ⟨rfl, rfl⟩))
            go_ret
            exact ⟨ret_bool (by rw [hr.out, hs, hs2]; simp [hs, hs2]), rfl⟩
        · rw [show decide (pl Ieee.single y = 0) = false by simpa using h1] at he2
          have hr := Lib.hid (rk_lt hn hn2 (by omega))
          have HXY := Lib.hid hxy
          clear h0 h1 hxy
          go_enter Try.func46, Try.ntmps46
          go_wp2_with (first | (go_at_call 27; refine (Wc.l01NaN _ ?_ _).mono ?_; assumption; rintro e1 w1 ⟨rfl, rfl⟩))
          all_goals (go_ret; exact ⟨ret_bool (by rw [hr.out]; exact HXY.out), rfl⟩)
      · rw [show decide (pl Ieee.single x = 0) = false by simpa using h0] at he
        have hr := Lib.hid (rk_lt hn hn2 (by omega))
        have HXY := Lib.hid hxy
        clear h0 hxy he2
        go_enter Try.func46, Try.ntmps46
        go_wp2_with (first | (go_at_call 27; refine (Wc.l01NaN _ ?_ _).mono ?_; assumption; rintro e1 w1 ⟨rfl, rfl⟩))
        all_goals (go_ret; exact ⟨ret_bool (by rw [hr.out]; exact HXY.out), rfl⟩)



theorem lt_of_wf {x : Nat} (h : (Lit.float .f32 x).wf = true) : x < 4294967296 := by simpa [Lit.wf] using h

end Go.Proofs.Ytgkdioklafndjaa.Wf