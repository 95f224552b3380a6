/- Walks: the float at a place, the place, classes, parts and bits; equality of floats. -/
import Derived.Test.YtgkdioklafndjaaWf

set_option linter.unusedSimpArgs false

set_option linter.unusedVariables false
namespace Go.Proofs.Ytgkdioklafndjaa.Wg
open Go.RowKit Fp Go.Proofs.Ytgkdioklafndjaa.Wc Go.Proofs.Ytgkdioklafndjaa.Wd Go.Proofs.Ytgkdioklafndjaa.We Go.Proofs.Ytgkdioklafndjaa.Wf

theorem and23 (n : Nat) (h : n < 4294967296) : bits .and .i64 (n : Int) 8388607 = ((n % 8388608 : Nat) : Int) := by
  have := bits_mask .i64 33 (by decide) (fun n h0 h1 => by rw [IntKind.wrap_i64]; omega) 23 (by decide) (n : Int) (by omega) (by omega)
  rw [show ((2 : Int) ^ 23 - 1) = 8388607 from rfl] at this
  rw [this]; omega

set_option maxHeartbeats 400000 in
theorem l01At_pos (n : Nat) (hn : n ≤ 2139095040) (w : World) : Calls Try.prog 48 #[.int .i64 (n : Int)] w fun e w' => e = .returned (.float .f32 n) ∧ w = w' := by
  by_cases h255 : n = 2139095040
  · subst h255
    go_enter Try.func48, Try.ntmps48
    go_wp2_with (first | (go_at_call 54; refine (l01Huge _).mono ?_; rintro e w' ⟨rfl, rfl⟩))
    go_ret
    exact ⟨rfl, rfl⟩
  · obtain ⟨m, e, hc, he, hrung, htop, hm⟩ : ∃ (m : Nat) (e : Int), Canon Ieee.single m e ∧ (if n / 8388608 = 0 then m = n % 8388608 ∧ e = -149 else m = n % 8388608 + 8388608 ∧ e = ((n / 8388608 : Nat) : Int) - 150) ∧ rung Ieee.single m e = n ∧ -149 ≤ e ∧ e ≤ 104 ∧ m < 16777216 := by
      by_cases h0 : n / 8388608 = 0
      · refine ⟨n % 8388608, -149, ⟨by rw [bi32]; omega, by rw [lp32]; omega, by rw [lp32, bi32]; omega⟩, by rw [if_pos h0]; exact ⟨rfl, rfl⟩, ?_, by omega, by omega, by omega⟩
        unfold rung
        rw [lp32, bi32]; omega
      · refine ⟨n % 8388608 + 8388608, ((n / 8388608 : Nat) : Int) - 150, ⟨by rw [bi32]; omega, by rw [lp32]; omega, by rw [lp32, bi32]; omega⟩, by rw [if_neg h0]; exact ⟨rfl, rfl⟩, ?_, by omega, by omega, by omega⟩
        unfold rung
        rw [lp32, bi32]; omega
    have rp : Rp Ieee.single m e := ⟨by rw [bi32]; omega, by rw [lp32]; omega, by rw [top32]; omega⟩
    have hN : ∀ b, IsN Ieee.single b false (V m e) → b = n := fun b hb => by rw [isN_eq hK32 hb hc, hrung]; rfl
    have hO := ofInt64 (m : Int) (by omega) (by omega)
    rw [show decide ((m : Int) < 0) = false by simp, Int.natAbs_natCast] at hO
    have ha := and23 n (by omega)
    have HA := Lib.hid ha
    clear ha hc hrung
    by_cases h0 : n / 8388608 = 0
    · rw [if_pos h0] at he
      obtain ⟨hme, hee⟩ := he
      have HM := Lib.hid hme
      have t1 : ((n : Int) / 8388608 == 255) = false := by simp; omega
      have t2 : ((n : Int) / 8388608 == 0) = true := by simp; omega
      have HE := Lib.hid hee
      clear hme hee h0
      go_enter Try.func48, Try.ntmps48
      go_wp2_with fail
      rw [HA.out, ← HM.out]
      refine (l01Twos _ (-149) false m 0 hO (by omega) (by omega) (by omega) (by omega) (by omega) _).mono ?_
      rintro e1 w1 ⟨⟨r, rfl, hr⟩, rfl⟩
      rw [show (0 : Int) + -149 = e by rw [HE.out]; rfl] at hr
      obtain ⟨q, hq, hqn⟩ := narrow hr rp
      obtain rfl := hN q hqn
      have hc2 := run_convert_float_float (P := Try.prog) w 36 22 .f64 .f32 r q rfl Try.underlying22 hq
      clear hq hqn hN hr hO
      go_wp2
      go_ret
      exact ⟨rfl, rfl⟩
    · rw [if_neg h0] at he
      obtain ⟨hme, hee⟩ := he
      have HM := Lib.hid hme
      have t1 : ((n : Int) / 8388608 == 255) = false := by simp; omega
      have t2 : ((n : Int) / 8388608 == 0) = false := by simp; omega
      have HE := Lib.hid hee
      clear hme hee h0
      go_enter Try.func48, Try.ntmps48
      go_wp2_with fail
      rw [HA.out, show wrap64 (((n % 8388608 : Nat) : Int) + 8388608) = (m : Int) by rw [HM.out]; unfold wrap64; omega]
      refine (l01Twos _ ((n : Int) / 8388608 - 150) false m 0 hO (by omega) (by omega) (by omega) (by omega) (by omega) _).mono ?_
      rintro e1 w1 ⟨⟨r, rfl, hr⟩, rfl⟩
      rw [show (0 : Int) + ((n : Int) / 8388608 - 150) = e by rw [HE.out]; omega] at hr
      obtain ⟨q, hq, hqn⟩ := narrow hr rp
      obtain rfl := hN q hqn
      have hc2 := run_convert_float_float (P := Try.prog) w 36 22 .f64 .f32 r q rfl Try.underlying22 hq
      clear hq hqn hN hr hO
      go_wp2
      go_ret
      exact ⟨rfl, rfl⟩

set_option maxHeartbeats 400000 in
theorem l01At (n : Int) (h1 : -2139095040 ≤ n) (h2 : n ≤ 2139095040) (w : World) : Calls Try.prog 48 #[.int .i64 n] w fun e w' => e = .returned (.float .f32 (at32 n)) ∧ w = w' := by
  by_cases hn : n < 0
  · obtain ⟨m, rfl⟩ : ∃ m : Nat, n = -(m : Int) := ⟨(-n).toNat, by omega⟩
    have hat : Hid (Op.negFloat .f32 m = at32 (-(m : Int))) := Lib.hid (by
      rw [neg32 m (by omega)]
      unfold opp at32
      have e1 : rg Ieee.single m = m := by unfold rg; rw [sw32]; omega
      have e2 : sg Ieee.single m = false := by unfold sg; rw [sw32]; simp; omega
      rw [e1, e2, if_pos hn]
      simp [Ieee.Format.word, sw32])
    go_enter Try.func48, Try.ntmps48
    go_wp2_with fail
    refine (l01At_pos m (by omega) _).mono ?_
    rintro e1 w1 ⟨rfl, rfl⟩
    go_wp2
    go_ret
    exact ⟨ret_float hat.out, rfl⟩
  · obtain ⟨m, rfl⟩ : ∃ m : Nat, n = (m : Int) := ⟨n.toNat, by omega⟩
    refine (l01At_pos m (by omega) w).mono ?_
    rintro e1 w1 ⟨rfl, rfl⟩
    refine ⟨ret_float ?_, rfl⟩
    unfold at32
    rw [if_neg (by omega)]; simp

end Go.Proofs.Ytgkdioklafndjaa.Wg
