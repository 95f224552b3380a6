/- Walks: NaN, comparing floats. -/
import Derived.Test.YthpnnnkabfjndaaProg
import Derived.Test.YthpnnnkabfjndaaFpl
import Derived.WalkKit
import Derived.WalkSpells
import Derived.WalkLawsBesides
import Derived.KernelRfl
import Derived.Lib.Hide
import Derived.Handy
set_option linter.unusedSimpArgs false
set_option linter.unusedVariables false
namespace Go.Proofs.Ythpnnnkabfjndaa.Wb
open Go.RowKit

set_option maxHeartbeats 400000 in
theorem l01NaN (x : Nat) (w : World) : Calls Try.prog 23 #[.float .f32 x] w fun e w' => e = .returned (.bool (Ieee.single.order x x != some .eq)) ∧ w = w' := by
  go_enter Try.func23, Try.ntmps23
  go_wp2
  go_ret
  exact ⟨rfl, rfl⟩
set_option maxHeartbeats 400000 in
theorem isNaN (x : Nat) (w : World) : Calls Try.prog 24 #[.float .f32 x] w fun e w' => e = .returned (.bool (Ieee.single.order x x != some .eq)) ∧ w = w' := by
  go_enter Try.func24, Try.ntmps24
  go_wp2
  go_ret
  exact ⟨rfl, rfl⟩

def cmpF (x y : Nat) : Int × Int :=
  if (Ieee.single.order x x != some .eq) || (Ieee.single.order y y != some .eq) then (0, 1)
  else if Ieee.single.order x y == some .lt then (-1, 0) else if Ieee.single.order x y == some .gt then (1, 0) else (0, 0)

set_option maxHeartbeats 400000 in
theorem sCompareFloats (x y : Nat) (w : World) : Calls Try.prog 10 #[.float .f32 x, .float .f32 y] w fun e w' => e = .returned (.tuple #[.int .i64 (cmpF x y).1, .int .i64 (cmpF x y).2]) ∧ w = w' := by
  go_enter Try.func10, Try.ntmps10
  go_wp2_with (first | (go_at_call 23; refine (l01NaN _ _).mono ?_; rintro e w' ⟨rfl, rfl⟩))
  all_goals (go_ret2; exact ⟨by simp_all [cmpF, FloatKind.format], rfl⟩)

set_option maxHeartbeats 400000 in
theorem iCompareFloats (x y : Nat) (w : World) : Calls Try.prog 11 #[.float .f32 x, .float .f32 y] w fun e w' => e = .returned (.tuple #[.int .i64 (cmpF x y).1, .int .i64 (cmpF x y).2]) ∧ w = w' := by
  go_enter Try.func11, Try.ntmps11
  go_wp2_with (first | (go_at_call 24; refine (isNaN _ _).mono ?_; rintro e w' ⟨rfl, rfl⟩))
  all_goals (go_ret2; exact ⟨by simp_all [cmpF, FloatKind.format], rfl⟩)

set_option maxHeartbeats 400000 in
theorem lCompareFloats (x : Nat) (_ : (Lit.float .f32 x).wf = true) (y : Nat) (_ : (Lit.float .f32 y).wf = true) (w : World) :
    Calls Try.prog 4 #[.float .f32 x, .float .f32 y] w fun e w' => e = .returned (.bool true) ∧ Grown w w' := by
  go_enter Try.func4, Try.ntmps4
  go_wp2_with (first | (go_at_call 10; refine (sCompareFloats _ _ _).mono ?_; rintro e w' ⟨rfl, rfl⟩) | (go_at_call 11; refine (iCompareFloats _ _ _).mono ?_; rintro e w' ⟨rfl, rfl⟩))
  go_ret
  exact ⟨rfl, Grown.refl _⟩
end Go.Proofs.Ythpnnnkabfjndaa.Wb
