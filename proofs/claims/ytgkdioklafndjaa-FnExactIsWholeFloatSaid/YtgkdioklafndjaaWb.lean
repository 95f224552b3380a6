/- Walks: NaN, comparing floats. -/
import Derived.Test.YtgkdioklafndjaaProg
import Derived.Test.YtgkdioklafndjaaFpl
import Derived.WalkKit
import Derived.WalkSpells
import Derived.WalkLawsBesides
import Derived.KernelRfl
import Derived.Lib.Hide
import Derived.Handy

set_option linter.unusedSimpArgs false

set_option linter.unusedVariables false
namespace Go.Proofs.Ytgkdioklafndjaa.Wb
open Go.RowKit

set_option maxHeartbeats 400000 in
theorem l01NaN (x : Nat) (w : World) : Calls Try.prog 27 #[.float .f32 x] w fun e w' => e = .returned (.bool (Ieee.single.order x x != some .eq)) ∧ w = w' := by
  go_enter Try.func27, Try.ntmps27
  go_wp2
  go_ret
  exact ⟨rfl, rfl⟩

set_option maxHeartbeats 400000 in
theorem isNaN (x : Nat) (w : World) : Calls Try.prog 30 #[.float .f32 x] w fun e w' => e = .returned (.bool (Ieee.single.order x x != some .eq)) ∧ w = w' := by
  go_enter Try.func30, Try.ntmps30
  go_wp2
  go_ret
  exact ⟨rfl, rfl⟩

def cmpF (x y : Nat) : Int × Int :=
  if (Ieee.single.order x x != some .eq) || (Ieee.single.order y y != some .eq) then (0, 1)
  else if Ieee.single.order x y == some .lt then (-1, 0) else if Ieee.single.order x y == some .gt then (1, 0) else (0, 0)





end Go.Proofs.Ytgkdioklafndjaa.Wb