/- Walks: places of floats, steps to neighbours, bits. -/
import Derived.Test.YtgkdioklafndjaaWh
set_option linter.unusedSimpArgs false
set_option linter.unusedVariables false
namespace Go.Proofs.Ytgkdioklafndjaa.Wn
open Go.RowKit Fp Go.Proofs.Ytgkdioklafndjaa.Wc Go.Proofs.Ytgkdioklafndjaa.Wd Go.Proofs.Ytgkdioklafndjaa.We Go.Proofs.Ytgkdioklafndjaa.Wf Go.Proofs.Ytgkdioklafndjaa.Wg Go.Proofs.Ytgkdioklafndjaa.Wh

theorem pl_parts {x : Nat} (hx : x < 4294967296) (hf : fin Ieee.single x = true) : pl Ieee.single x = sv (sg Ieee.single x) (if mant x < 8388608 then mant x else ((expo x + 149).toNat * 8388608 + mant x)) ∧ (8388608 ≤ mant x → -149 ≤ expo x ∧ expo x ≤ 104) ∧ mant x < 16777216 := by
  obtain ⟨_, hc, hrg, hlt⟩ := fin_parts hx hf
  have c1 := hc.lt
  have c2 := hc.le
  have c3 := hc.full
  rw [bi32] at c1 c3
  rw [lp32] at c2 c3
  unfold rung at hrg
  rw [lp32, bi32] at hrg
  unfold pl
  rw [← hrg]
  refine ⟨?_, fun h => ⟨c2, by omega⟩, by omega⟩
  congr 1
  split
  · have : expo x = -149 := by omega
    rw [this]; simp
  · congr 2

set_option maxHeartbeats 400000 in
theorem l01Place (x : Nat) (hx : x < 4294967296) (hn : nan Ieee.single x = false) (w : World) : Calls Try.prog 28 #[.float .f32 x] w fun e w' => e = .returned (.int .i64 (pl Ieee.single x)) ∧ ∃ k, w' = w.drewN k := by
  have hl := lt32 hx (by decide : 0 < 4294967296) hn nan0
  rw [pl0] at hl
  cases hf : fin Ieee.single x with
  | false =>
    obtain ⟨_, hw⟩ := read_inf hf32 (by rw [wd32]; exact hx) hf hn
    cases hs : sg Ieee.single x with
    | true =>
      have hx2 : x = 4286578688 := by rw [hw, hs]; decide
      subst hx2
      have hp : Hid (pl Ieee.single 4286578688 = -2139095040) := Lib.hid (by decide)
      rw [hp.out] at hl
      clear hw hs hn
      go_enter Try.func28, Try.ntmps28
      go_wp2_with (first | (go_at_call 33; refine (l01Finite _ hx _).mono ?_; rintro e1 w1 ⟨rfl, n1, rfl⟩))
      go_ret
      exact ⟨ret_int hp.out.symm, n1, rfl⟩
    | false =>
      have hx2 : x = 2139095040 := by rw [hw, hs]; decide
      subst hx2
      have hp : Hid (pl Ieee.single 2139095040 = 2139095040) := Lib.hid (by decide)
      rw [hp.out] at hl
      clear hw hs hn
      go_enter Try.func28, Try.ntmps28
      go_wp2_with (first | (go_at_call 33; refine (l01Finite _ hx _).mono ?_; rintro e1 w1 ⟨rfl, n1, rfl⟩))
      go_ret
      exact ⟨ret_int hp.out.symm, n1, rfl⟩
  | true =>
    obtain ⟨hp, he, hm⟩ := pl_parts hx hf
    have hP := fun w => l01Parts x hx hf w
    have hq : pl Ieee.single x = if pl Ieee.single x < 0 then -((if mant x < 8388608 then mant x else ((expo x + 149).toNat * 8388608 + mant x) : Nat) : Int) else ((if mant x < 8388608 then mant x else ((expo x + 149).toNat * 8388608 + mant x) : Nat) : Int) := by
      generalize hr : (if mant x < 8388608 then mant x else ((expo x + 149).toNat * 8388608 + mant x)) = r at *
      rw [hp]; unfold sv; cases sg Ieee.single x <;> simp <;> omega
    clear hp
    generalize mant x = m at *
    generalize expo x = ex at *
    generalize hpp : pl Ieee.single x = p at *
    have HP := Lib.hid hP
    have HPP := Lib.hid hpp
    have HQ := Lib.hid hq
    have hm0 : (0 : Int) ≤ m := by omega
    have hm1 : (m : Int) < 16777216 := by omega
    clear hP hpp hq
    by_cases hlt : p < 0
    · rw [show decide (p < 0) = true by simpa using hlt] at hl
      by_cases hb : m < 8388608
      · have hd : decide ((8388608 : Int) ≤ m) = false := by simp; omega
        have hr : Hid (p = -(m : Int)) := Lib.hid (by have := HQ.out; rwa [if_pos hlt, if_pos hb] at this)
        clear he hm hlt hb HQ
        go_enter Try.func28, Try.ntmps28
        go_wp2_with (first | (go_at_call 33; refine (l01Finite _ hx _).mono ?_; rintro e1 w1 ⟨rfl, n1, rfl⟩) | (go_at_call 35; refine (HP.out _).mono ?_; rintro e1 w1 ⟨rfl, rfl⟩))
        go_ret
        exact ⟨ret_int hr.out.symm, n1, rfl⟩
      · have hd : decide ((8388608 : Int) ≤ m) = true := by simp; omega
        obtain ⟨he1, he2⟩ := he (by omega)
        have hr : Hid (p = -((ex + 149) * 8388608 + m)) := Lib.hid (by have := HQ.out; rw [if_pos hlt, if_neg hb] at this; rw [this]; omega)
        clear he hm hlt hb HQ
        go_enter Try.func28, Try.ntmps28
        go_wp2_with (first | (go_at_call 33; refine (l01Finite _ hx _).mono ?_; rintro e1 w1 ⟨rfl, n1, rfl⟩) | (go_at_call 35; refine (HP.out _).mono ?_; rintro e1 w1 ⟨rfl, rfl⟩))
        go_ret
        refine ⟨ret_int ?_, n1, rfl⟩
        rw [hr.out]; omega
    · rw [show decide (p < 0) = false by simpa using hlt] at hl
      by_cases hb : m < 8388608
      · have hd : decide ((8388608 : Int) ≤ m) = false := by simp; omega
        have hr : Hid (p = (m : Int)) := Lib.hid (by have := HQ.out; rwa [if_neg hlt, if_pos hb] at this)
        clear he hm hlt hb HQ
        go_enter Try.func28, Try.ntmps28
        go_wp2_with (first | (go_at_call 33; refine (l01Finite _ hx _).mono ?_; rintro e1 w1 ⟨rfl, n1, rfl⟩) | (go_at_call 35; refine (HP.out _).mono ?_; rintro e1 w1 ⟨rfl, rfl⟩))
        go_ret
        exact ⟨ret_int hr.out.symm, n1, rfl⟩
      · have hd : decide ((8388608 : Int) ≤ m) = true := by simp; omega
        obtain ⟨he1, he2⟩ := he (by omega)
        have hr : Hid (p = ((ex + 149) * 8388608 + m)) := Lib.hid (by have := HQ.out; rw [if_neg hlt, if_neg hb] at this; rw [this]; omega)
        clear he hm hlt hb HQ
        go_enter Try.func28, Try.ntmps28
        go_wp2_with (first | (go_at_call 33; refine (l01Finite _ hx _).mono ?_; rintro e1 w1 ⟨rfl, n1, rfl⟩) | (go_at_call 35; refine (HP.out _).mono ?_; rintro e1 w1 ⟨rfl, rfl⟩))
        go_ret
        refine ⟨ret_int ?_, n1, rfl⟩
        rw [hr.out]; omega

/-- The place, not beyond the ends. -/
def clamp (n : Int) : Int := if 2139095040 < n then 2139095040 else if n < -2139095040 then -2139095040 else n

theorem clamp_bd (n : Int) : -2139095040 ≤ clamp n ∧ clamp n ≤ 2139095040 := by unfold clamp; split <;> (try split) <;> omega

set_option maxHeartbeats 400000 in
theorem l01Step (x : Nat) (hx : x < 4294967296) (hn : nan Ieee.single x = false) (s : Int) (hs : -10 ≤ s) (hs' : s ≤ 10) (w : World) : Calls Try.prog 39 #[.float .f32 x, .int .i64 s] w fun e w' => e = .returned (.float .f32 (at32 (clamp (pl Ieee.single x + s)))) ∧ ∃ k, w' = w.drewN k := by
  have hb := pl_bd x
  generalize hp : pl Ieee.single x = p at *
  have HP := Lib.hid hp
  have hc := clamp_bd (p + s)
  have hcv : clamp (p + s) = if 2139095040 < p + s then 2139095040 else if p + s < -2139095040 then -2139095040 else p + s := rfl
  generalize clamp (p + s) = c at *
  clear hp
  by_cases h1 : 2139095040 < p + s
  · have HC : Hid (2139095040 = c) := Lib.hid (by rw [if_pos h1] at hcv; exact hcv.symm)
    clear hcv
    go_enter Try.func39, Try.ntmps39
    go_wp2_with (first | (go_at_call 28; refine (l01Place _ hx hn _).mono ?_; rw [HP.out]; rintro e1 w1 ⟨rfl, n1, rfl⟩))
    rw [HC.out]
    refine (l01At _ hc.1 hc.2 _).mono ?_
    rintro e1 w1 ⟨rfl, rfl⟩
    go_wp2
    go_ret
    exact ⟨rfl, n1, rfl⟩
  · rw [if_neg h1] at hcv
    by_cases h2 : p + s < -2139095040
    · have HC : Hid (-2139095040 = c) := Lib.hid (by rw [if_pos h2] at hcv; exact hcv.symm)
      clear hcv
      go_enter Try.func39, Try.ntmps39
      go_wp2_with (first | (go_at_call 28; refine (l01Place _ hx hn _).mono ?_; rw [HP.out]; rintro e1 w1 ⟨rfl, n1, rfl⟩))
      rw [HC.out]
      refine (l01At _ hc.1 hc.2 _).mono ?_
      rintro e1 w1 ⟨rfl, rfl⟩
      go_wp2
      go_ret
      exact ⟨rfl, n1, rfl⟩
    · have HC : Hid (p + s = c) := Lib.hid (by rw [if_neg h2] at hcv; exact hcv.symm)
      clear hcv
      go_enter Try.func39, Try.ntmps39
      go_wp2_with (first | (go_at_call 28; refine (l01Place _ hx hn _).mono ?_; rw [HP.out]; rintro e1 w1 ⟨rfl, n1, rfl⟩))
      rw [HC.out]
      refine (l01At _ hc.1 hc.2 _).mono ?_
      rintro e1 w1 ⟨rfl, rfl⟩
      go_wp2
      go_ret
      exact ⟨rfl, n1, rfl⟩

set_option maxHeartbeats 400000 in
theorem sBitsOf (x : Nat) (hx : x < 4294967296) (w : World) : Calls Try.prog 10 #[.float .f32 x] w fun e w' => e = .returned (.int .i64 (if nan Ieee.single x = true then 2143289344 else (x : Int))) ∧ ∃ k, w' = w.drewN k := by
  cases hn : nan Ieee.single x with
  | true =>
    rw [if_pos rfl]
    go_enter Try.func10, Try.ntmps10
    go_wp2_with (first | (go_at_call 27; refine (Wc.l01NaN x hx _).mono ?_; rintro e1 w1 ⟨rfl, rfl⟩))
    go_ret
    exact ⟨rfl, 0, rfl⟩
  | false =>
    rw [if_neg (by simp)]
    have hb := pl_bd x
    have hs := split32 x hx
    have hq : (x : Int) = if sg Ieee.single x = true then 2147483648 - pl Ieee.single x else pl Ieee.single x := by
      unfold pl
      generalize hr : rg Ieee.single x = r at *
      cases hg : sg Ieee.single x <;> rw [hg] at hs
      · rw [hs]; simp [sv, Ieee.Format.word]
      · rw [hs]; simp [sv, Ieee.Format.word, sw32]
    have HQ := Lib.hid hq
    generalize hp : pl Ieee.single x = p at *
    have HP := Lib.hid hp
    clear hp hs hq
    cases hg : sg Ieee.single x with
    | true =>
      go_enter Try.func10, Try.ntmps10
      go_wp2_with (first | (go_at_call 27; refine (Wc.l01NaN x hx _).mono ?_; rintro e1 w1 ⟨rfl, rfl⟩) | (go_at_call 28; refine (l01Place _ hx hn _).mono ?_; rw [HP.out]; rintro e1 w1 ⟨rfl, n1, rfl⟩) | (go_at_call 29; refine (l01Minus _ hx hn _).mono ?_; rintro e1 w1 ⟨rfl, rfl⟩))
      go_ret
      exact ⟨ret_int (by have := HQ.out; rw [hg, if_pos rfl] at this; exact this.symm), n1, rfl⟩
    | false =>
      go_enter Try.func10, Try.ntmps10
      go_wp2_with (first | (go_at_call 27; refine (Wc.l01NaN x hx _).mono ?_; rintro e1 w1 ⟨rfl, rfl⟩) | (go_at_call 28; refine (l01Place _ hx hn _).mono ?_; rw [HP.out]; rintro e1 w1 ⟨rfl, n1, rfl⟩) | (go_at_call 29; refine (l01Minus _ hx hn _).mono ?_; rintro e1 w1 ⟨rfl, rfl⟩))
      go_ret
      exact ⟨ret_int (by have := HQ.out; rw [hg, if_neg (by simp)] at this; exact this.symm), n1, rfl⟩

set_option maxHeartbeats 400000 in
theorem iBitsOf (x : Nat) (hx : x < 4294967296) (w : World) : Calls Try.prog 11 #[.float .f32 x] w fun e w' => e = .returned (.int .i64 (if nan Ieee.single x = true then 2143289344 else (x : Int))) ∧ w = w' := by
  have hx2 : (x : Int) < 4294967296 := by omega
  cases hn : nan Ieee.single x with
  | true =>
    rw [if_pos rfl]
    go_enter Try.func11, Try.ntmps11
    go_wp2_with (first | (go_at_call 30; refine (Wc.isNaN x hx _).mono ?_; rintro e1 w1 ⟨rfl, rfl⟩))
    go_ret
    exact ⟨rfl, rfl⟩
  | false =>
    rw [if_neg (by simp)]
    go_enter Try.func11, Try.ntmps11
    go_wp2_with (first | (go_at_call 30; refine (Wc.isNaN x hx _).mono ?_; rintro e1 w1 ⟨rfl, rfl⟩))
    go_ret
    exact ⟨rfl, rfl⟩
end Go.Proofs.Ytgkdioklafndjaa.Wn
