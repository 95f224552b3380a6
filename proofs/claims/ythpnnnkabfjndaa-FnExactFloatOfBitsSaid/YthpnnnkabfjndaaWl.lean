/- Walks: the laws on classes, parts and bits of floats. -/
import Derived.Test.YthpnnnkabfjndaaWk
set_option linter.unusedSimpArgs false
set_option linter.unusedVariables false
namespace Go.Proofs.Ythpnnnkabfjndaa.Wl
open Go.RowKit Fp Go.Proofs.Ythpnnnkabfjndaa.Wc Go.Proofs.Ythpnnnkabfjndaa.Wd Go.Proofs.Ythpnnnkabfjndaa.We Go.Proofs.Ythpnnnkabfjndaa.Wf Go.Proofs.Ythpnnnkabfjndaa.Wg Go.Proofs.Ythpnnnkabfjndaa.Wh Go.Proofs.Ythpnnnkabfjndaa.Wk

def cls (x : Nat) : Int := if x / 8388608 % 256 = 255 then (if x % 8388608 = 0 then 3 else 4) else if 0 < x / 8388608 % 256 then 2 else if 0 < x % 8388608 then 1 else 0

theorem nan_iff {x : Nat} : nan Ieee.single x = true ↔ x / 8388608 % 256 = 255 ∧ x % 8388608 ≠ 0 := by
  unfold nan rg; rw [sw32, ir32]; simp; omega
theorem fin_iff {x : Nat} : fin Ieee.single x = true ↔ x / 8388608 % 256 ≠ 255 := by
  unfold fin rg; rw [sw32, ir32]; simp; omega
theorem pl0_iff {x : Nat} : pl Ieee.single x = 0 ↔ x / 8388608 % 256 = 0 ∧ x % 8388608 = 0 := by
  unfold pl sv rg; rw [sw32]; split <;> omega

set_option maxHeartbeats 400000 in
set_option maxRecDepth 100000 in
theorem sClassOf (x : Nat) (hx : x < 4294967296) (w : World) : Calls Try.prog 17 #[.float .f32 x] w fun e w' => e = .returned (.int .i64 (cls x)) ∧ ∃ n, w' = w.drewN n := by
  cases hn : nan Ieee.single x with
  | true =>
    have h1 := nan_iff.1 hn
    have hr : Hid (cls x = 4) := Lib.hid (by unfold cls; rw [if_pos h1.1, if_neg h1.2])
    clear h1
    go_enter Try.func17, Try.ntmps17
    go_wp2_with (first | (go_at_call 23; refine (Wc.l01NaN x hx _).mono ?_; rintro e1 w1 ⟨rfl, rfl⟩))
    go_ret
    exact ⟨ret_int hr.out.symm, 0, rfl⟩
  | false =>
    cases hf : fin Ieee.single x with
    | false =>
      have hr : Hid (cls x = 3) := Lib.hid (by
        have h1 : ¬ (nan Ieee.single x = true) := by simp [hn]
        have h2 : ¬ (fin Ieee.single x = true) := by simp [hf]
        rw [nan_iff] at h1
        rw [fin_iff] at h2
        unfold cls; rw [if_pos (by omega), if_pos (by omega)])
      go_enter Try.func17, Try.ntmps17
      go_wp2_with (first | (go_at_call 23; refine (Wc.l01NaN x hx _).mono ?_; rintro e1 w1 ⟨rfl, rfl⟩) | (go_at_call 30; refine (l01Finite x hx _).mono ?_; rintro e1 w1 ⟨rfl, n1, rfl⟩))
      go_ret
      exact ⟨ret_int hr.out.symm, n1, rfl⟩
    | true =>
      have he := eq32 hx (by decide : 0 < 4294967296) hn nan0
      rw [pl0] at he
      have h2 := fin_iff.1 hf
      by_cases h0 : pl Ieee.single x = 0
      · have hr : Hid (cls x = 0) := Lib.hid (by
          have := pl0_iff.1 h0
          unfold cls; rw [if_neg h2, if_neg (by omega), if_neg (by omega)])
        rw [show decide (pl Ieee.single x = 0) = true by simpa using h0] at he
        clear h0 h2
        go_enter Try.func17, Try.ntmps17
        go_wp2_with (first | (go_at_call 23; refine (Wc.l01NaN x hx _).mono ?_; rintro e1 w1 ⟨rfl, rfl⟩) | (go_at_call 30; refine (l01Finite x hx _).mono ?_; rintro e1 w1 ⟨rfl, n1, rfl⟩))
        go_ret
        exact ⟨ret_int hr.out.symm, n1, rfl⟩
      · have h3 : ¬ (x / 8388608 % 256 = 0 ∧ x % 8388608 = 0) := fun h => h0 (pl0_iff.2 h)
        have hm : mant x < 16777216 := by unfold mant; split <;> omega
        have hr : Hid (if mant x < 8388608 then cls x = 1 else cls x = 2) := Lib.hid (by
          unfold mant cls
          rw [if_neg h2]
          by_cases h4 : x / 8388608 % 256 = 0
          · rw [if_pos h4, if_pos (by omega), if_neg (by omega), if_pos (by omega)]
          · rw [if_neg h4, if_neg (by omega), if_pos (by omega)])
        rw [show decide (pl Ieee.single x = 0) = false by simpa using h0] at he
        clear h0 h2 h3
        clear hm
        generalize hmx : mant x = mx at *
        have HM := Lib.hid hmx
        clear hmx
        by_cases hlt : mx < 8388608
        · have hr2 : Hid (cls x = 1) := Lib.hid (by have := hr.out; rwa [if_pos hlt] at this)
          have hd : decide ((mx : Int) < 8388608) = true := by simp; omega
          clear hlt hr
          go_enter Try.func17, Try.ntmps17
          go_wp2_with (first | (go_at_call 23; refine (Wc.l01NaN x hx _).mono ?_; rintro e1 w1 ⟨rfl, rfl⟩) | (go_at_call 30; refine (l01Finite x hx _).mono ?_; rintro e1 w1 ⟨rfl, n1, rfl⟩) | (go_at_call 31; refine (l01Parts x hx hf _).mono ?_; rw [HM.out]; rintro e1 w1 ⟨rfl, rfl⟩))
          go_ret
          exact ⟨ret_int hr2.out.symm, n1, rfl⟩
        · have hr2 : Hid (cls x = 2) := Lib.hid (by have := hr.out; rwa [if_neg hlt] at this)
          have hd : decide ((mx : Int) < 8388608) = false := by simp; omega
          clear hlt hr
          go_enter Try.func17, Try.ntmps17
          go_wp2_with (first | (go_at_call 23; refine (Wc.l01NaN x hx _).mono ?_; rintro e1 w1 ⟨rfl, rfl⟩) | (go_at_call 30; refine (l01Finite x hx _).mono ?_; rintro e1 w1 ⟨rfl, n1, rfl⟩) | (go_at_call 31; refine (l01Parts x hx hf _).mono ?_; rw [HM.out]; rintro e1 w1 ⟨rfl, rfl⟩))
          go_ret
          exact ⟨ret_int hr2.out.symm, n1, rfl⟩

set_option maxHeartbeats 400000 in
theorem iClassOf (x : Nat) (hx : x < 4294967296) (w : World) : Calls Try.prog 18 #[.float .f32 x] w fun e w' => e = .returned (.int .i64 (cls x)) ∧ w = w' := by
  have e1 := Lib.hid (and255 x hx)
  have e2 := Lib.hid (andFr x hx)
  go_enter Try.func18, Try.ntmps18
  go_wp2_with fail
  all_goals (go_ret; refine ⟨ret_int ?_, rfl⟩; have k1 := e1.out; have k2 := e2.out; clear e1 e2; simp only [k1, k2] at *)
  all_goals (clear k1 k2; simp at *; unfold cls)
  all_goals (repeat' split)
  all_goals omega
end Go.Proofs.Ythpnnnkabfjndaa.Wl
