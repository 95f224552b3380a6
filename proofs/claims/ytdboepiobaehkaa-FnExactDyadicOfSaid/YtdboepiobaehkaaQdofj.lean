/- Lemmas of the claim: Rk. -/
import Derived.Lib.SmallJoins
import Derived.ChangeOld
import Derived.ChangeSlices
import Derived.Carry
import Derived.Test.YtdboepiobaehkaaQdoff
section
namespace Go.Proofs.Ytdboepiobaehkaa.Rk
end Go.Proofs.Ytdboepiobaehkaa.Rk
end
