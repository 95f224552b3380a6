/- Lemmas of the claim: WSized. -/
import Derived.SizedLaws
import Derived.ChangeSlices
section
namespace Go.Proofs.YtdboepiobaehkaaW.PrintWords
end Go.Proofs.YtdboepiobaehkaaW.PrintWords
end
