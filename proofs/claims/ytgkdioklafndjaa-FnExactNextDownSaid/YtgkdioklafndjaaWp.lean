/- Walks: the neighbours of floats, and the laws over them. -/
import Derived.Test.YtgkdioklafndjaaWo
set_option linter.unusedSimpArgs false
set_option linter.unusedVariables false
namespace Go.Proofs.Ytgkdioklafndjaa.Wp
open Go.RowKit Fp Go.Proofs.Ytgkdioklafndjaa.Wc Go.Proofs.Ytgkdioklafndjaa.Wd Go.Proofs.Ytgkdioklafndjaa.We Go.Proofs.Ytgkdioklafndjaa.Wf Go.Proofs.Ytgkdioklafndjaa.Wg Go.Proofs.Ytgkdioklafndjaa.Wh Go.Proofs.Ytgkdioklafndjaa.Wn Go.Proofs.Ytgkdioklafndjaa.Wo

/-- A neighbour, s places on, and the code. -/
def nxt (x : Nat) (s : Int) : Value := if nan Ieee.single x = true then .tuple #[.float .f32 0, .int .i64 1] else .tuple #[.float .f32 (at32 (clamp (pl Ieee.single x + s))), .int .i64 0]

theorem nxt_form (x : Nat) (s : Int) : ∃ a c, nxt x s = .tuple #[.float .f32 a, .int .i64 c] ∧ a < 4294967296 ∧ nan Ieee.single a = false := by
  unfold nxt
  split
  · exact ⟨_, _, rfl, by decide, nan0⟩
  · have h := clamp_bd (pl Ieee.single x + s)
    have h2 := at32_lt _ h.1 h.2
    exact ⟨_, _, rfl, h2.1, h2.2⟩

set_option maxHeartbeats 400000 in
theorem sNextUp (x : Nat) (hx : x < 4294967296) (w : World) : Calls Try.prog 25 #[.float .f32 x] w fun e w' => e = .returned (nxt x 1) ∧ ∃ k, w' = w.drewN k := by
  unfold nxt
  cases hn : nan Ieee.single x with
  | true =>
    rw [if_pos rfl]
    go_enter Try.func25, Try.ntmps25
    go_wp2_with (first | (go_at_call 27; refine (Wc.l01NaN x hx _).mono ?_; rintro e1 w1 ⟨rfl, rfl⟩))
    go_ret2
    exact ⟨rfl, 0, rfl⟩
  | false =>
    rw [if_neg (by simp)]
    go_enter Try.func25, Try.ntmps25
    go_wp2_with (first | (go_at_call 27; refine (Wc.l01NaN x hx _).mono ?_; rintro e1 w1 ⟨rfl, rfl⟩) | (go_at_call 39; refine (l01Step _ hx hn 1 (by decide) (by decide) _).mono ?_; rintro e1 w1 ⟨rfl, n1, rfl⟩))
    go_ret2
    exact ⟨rfl, n1, rfl⟩

set_option maxHeartbeats 400000 in
theorem iNextUp (x : Nat) (hx : x < 4294967296) (w : World) : Calls Try.prog 26 #[.float .f32 x] w fun e w' => e = .returned (nxt x 1) ∧ w = w' := by
  unfold nxt
  cases hn : nan Ieee.single x with
  | true =>
    rw [if_pos rfl]
    go_enter Try.func26, Try.ntmps26
    go_wp2_with (first | (go_at_call 30; refine (Wc.isNaN x hx _).mono ?_; rintro e1 w1 ⟨rfl, rfl⟩))
    go_ret2
    exact ⟨rfl, rfl⟩
  | false =>
    rw [if_neg (by simp)]
    have hb := pl_le hn
    generalize hp : pl Ieee.single x = p at *
    have HP := Lib.hid hp
    have hc := clamp_bd (p + 1)
    have hcv : clamp (p + 1) = if 2139095040 < p + 1 then 2139095040 else if p + 1 < -2139095040 then -2139095040 else p + 1 := rfl
    generalize clamp (p + 1) = c at *
    clear hp
    by_cases h1 : 2139095040 < p + 1
    · have HC : Hid (2139095040 = c) := Lib.hid (by rw [hcv]; first | (rw [if_pos (by omega)]; done) | (rw [if_neg (by omega), if_pos (by omega)]; done))
      clear hcv
      go_enter Try.func26, Try.ntmps26
      go_wp2_with (first | (go_at_call 30; refine (Wc.isNaN x hx _).mono ?_; rintro e1 w1 ⟨rfl, rfl⟩) | (go_at_call 32; refine (place _ hx _).mono ?_; rw [HP.out]; rintro e1 w1 ⟨rfl, rfl⟩))
      rw [HC.out]
      refine (atPlace _ hc.1 hc.2 _).mono ?_
      rintro e1 w1 ⟨rfl, rfl⟩
      go_wp2
      go_ret2
      exact ⟨rfl, rfl⟩
    · have HC : Hid (p + 1 = c) := Lib.hid (by rw [hcv, if_neg (by omega), if_neg (by omega)])
      clear hcv
      go_enter Try.func26, Try.ntmps26
      go_wp2_with (first | (go_at_call 30; refine (Wc.isNaN x hx _).mono ?_; rintro e1 w1 ⟨rfl, rfl⟩) | (go_at_call 32; refine (place _ hx _).mono ?_; rw [HP.out]; rintro e1 w1 ⟨rfl, rfl⟩))
      all_goals (try (rw [show p - 1 = p + (-1) from rfl]))
      rw [HC.out]
      refine (atPlace _ hc.1 hc.2 _).mono ?_
      rintro e1 w1 ⟨rfl, rfl⟩
      go_wp2
      go_ret2
      exact ⟨rfl, rfl⟩

set_option maxHeartbeats 400000 in
theorem lNextUp (x : Nat) (hx0 : (Lit.float .f32 x).wf = true) (w : World) : Calls Try.prog 9 #[.float .f32 x] w fun e w' => e = .returned (.bool true) ∧ Grown w w' := by
  have hx := lt_of_wf hx0
  clear hx0
  have h1 := fun w => sNextUp x hx w
  have h2 := fun w => iNextUp x hx w
  obtain ⟨a, c, hac, ha1, ha2⟩ := nxt_form x 1
  rw [hac] at h1 h2
  have H1 := Lib.hid h1
  have H2 := Lib.hid h2
  obtain ⟨y, hy, hy1, hy2⟩ := wide_of ha1 ha2
  have hc2 := fun w => run_convert_float_float (P := Try.prog) w 22 36 .f32 .f64 a y rfl Try.underlying36 hy
  clear h1 h2 hac ha1 ha2 hy
  go_enter Try.func9, Try.ntmps9
  go_wp2_with (first | (go_at_call 25; refine (H1.out _).mono ?_; rintro e w' ⟨rfl, n1, rfl⟩) | (go_at_call 26; refine (H2.out _).mono ?_; rintro e w' ⟨rfl, rfl⟩) | (go_at_call 21; refine (sameFloat_self y hy1 hy2 _).mono ?_; rintro e w' ⟨rfl, rfl⟩))
  go_ret
  exact ⟨rfl, grown_drewN _ _⟩

set_option maxHeartbeats 400000 in
theorem sNextDown (x : Nat) (hx : x < 4294967296) (w : World) : Calls Try.prog 23 #[.float .f32 x] w fun e w' => e = .returned (nxt x (-1)) ∧ ∃ k, w' = w.drewN k := by
  unfold nxt
  cases hn : nan Ieee.single x with
  | true =>
    rw [if_pos rfl]
    go_enter Try.func23, Try.ntmps23
    go_wp2_with (first | (go_at_call 27; refine (Wc.l01NaN x hx _).mono ?_; rintro e1 w1 ⟨rfl, rfl⟩))
    go_ret2
    exact ⟨rfl, 0, rfl⟩
  | false =>
    rw [if_neg (by simp)]
    go_enter Try.func23, Try.ntmps23
    go_wp2_with (first | (go_at_call 27; refine (Wc.l01NaN x hx _).mono ?_; rintro e1 w1 ⟨rfl, rfl⟩) | (go_at_call 39; refine (l01Step _ hx hn (-1) (by decide) (by decide) _).mono ?_; rintro e1 w1 ⟨rfl, n1, rfl⟩))
    go_ret2
    exact ⟨rfl, n1, rfl⟩

set_option maxHeartbeats 400000 in
theorem iNextDown (x : Nat) (hx : x < 4294967296) (w : World) : Calls Try.prog 24 #[.float .f32 x] w fun e w' => e = .returned (nxt x (-1)) ∧ w = w' := by
  unfold nxt
  cases hn : nan Ieee.single x with
  | true =>
    rw [if_pos rfl]
    go_enter Try.func24, Try.ntmps24
    go_wp2_with (first | (go_at_call 30; refine (Wc.isNaN x hx _).mono ?_; rintro e1 w1 ⟨rfl, rfl⟩))
    go_ret2
    exact ⟨rfl, rfl⟩
  | false =>
    rw [if_neg (by simp)]
    have hb := pl_le hn
    generalize hp : pl Ieee.single x = p at *
    have HP := Lib.hid hp
    have hc := clamp_bd (p + (-1))
    have hcv : clamp (p + (-1)) = if 2139095040 < p + (-1) then 2139095040 else if p + (-1) < -2139095040 then -2139095040 else p + (-1) := rfl
    generalize clamp (p + (-1)) = c at *
    clear hp
    by_cases h1 : p + (-1) < -2139095040
    · have HC : Hid (-2139095040 = c) := Lib.hid (by rw [hcv]; first | (rw [if_pos (by omega)]; done) | (rw [if_neg (by omega), if_pos (by omega)]; done))
      clear hcv
      go_enter Try.func24, Try.ntmps24
      go_wp2_with (first | (go_at_call 30; refine (Wc.isNaN x hx _).mono ?_; rintro e1 w1 ⟨rfl, rfl⟩) | (go_at_call 32; refine (place _ hx _).mono ?_; rw [HP.out]; rintro e1 w1 ⟨rfl, rfl⟩))
      rw [HC.out]
      refine (atPlace _ hc.1 hc.2 _).mono ?_
      rintro e1 w1 ⟨rfl, rfl⟩
      go_wp2
      go_ret2
      exact ⟨rfl, rfl⟩
    · have HC : Hid (p + (-1) = c) := Lib.hid (by rw [hcv, if_neg (by omega), if_neg (by omega)])
      clear hcv
      go_enter Try.func24, Try.ntmps24
      go_wp2_with (first | (go_at_call 30; refine (Wc.isNaN x hx _).mono ?_; rintro e1 w1 ⟨rfl, rfl⟩) | (go_at_call 32; refine (place _ hx _).mono ?_; rw [HP.out]; rintro e1 w1 ⟨rfl, rfl⟩))
      all_goals (try (rw [show p - 1 = p + (-1) from rfl]))
      rw [HC.out]
      refine (atPlace _ hc.1 hc.2 _).mono ?_
      rintro e1 w1 ⟨rfl, rfl⟩
      go_wp2
      go_ret2
      exact ⟨rfl, rfl⟩

set_option maxHeartbeats 400000 in
theorem lNextDown (x : Nat) (hx0 : (Lit.float .f32 x).wf = true) (w : World) : Calls Try.prog 8 #[.float .f32 x] w fun e w' => e = .returned (.bool true) ∧ Grown w w' := by
  have hx := lt_of_wf hx0
  clear hx0
  have h1 := fun w => sNextDown x hx w
  have h2 := fun w => iNextDown x hx w
  obtain ⟨a, c, hac, ha1, ha2⟩ := nxt_form x (-1)
  rw [hac] at h1 h2
  have H1 := Lib.hid h1
  have H2 := Lib.hid h2
  obtain ⟨y, hy, hy1, hy2⟩ := wide_of ha1 ha2
  have hc2 := fun w => run_convert_float_float (P := Try.prog) w 22 36 .f32 .f64 a y rfl Try.underlying36 hy
  clear h1 h2 hac ha1 ha2 hy
  go_enter Try.func8, Try.ntmps8
  go_wp2_with (first | (go_at_call 23; refine (H1.out _).mono ?_; rintro e w' ⟨rfl, n1, rfl⟩) | (go_at_call 24; refine (H2.out _).mono ?_; rintro e w' ⟨rfl, rfl⟩) | (go_at_call 21; refine (sameFloat_self y hy1 hy2 _).mono ?_; rintro e w' ⟨rfl, rfl⟩))
  go_ret
  exact ⟨rfl, grown_drewN _ _⟩
end Go.Proofs.Ytgkdioklafndjaa.Wp
