/- Walks: constants; comparing floats; the total order; all by their bits. -/
import Derived.Test.YthpnnnkabfjndaaProg
import Derived.Test.YthpnnnkabfjndaaFpo
import Derived.WalkKit
import Derived.WalkSpells
import Derived.WalkLawsBesides
import Derived.KernelRfl
namespace Go.Proofs.Ythpnnnkabfjndaa.Wa
open Go.RowKit

set_option maxHeartbeats 400000 in
theorem constants (w : World) : Calls Try.prog 3 #[] w fun e w' => e = .returned (.bool true) ∧ Grown w w' := by
  go_enter Try.func3, Try.ntmps3
  go_wp2
  go_ret
  exact ⟨rfl, Grown.refl _⟩
end Go.Proofs.Ythpnnnkabfjndaa.Wa
