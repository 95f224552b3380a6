/- Lemmas of the claim: WSized. -/
import Derived.SizedLaws
import Derived.ChangeSlices
section
namespace Go.Proofs.YthanlckjfghnkaaW.PrintWords
end Go.Proofs.YthanlckjfghnkaaW.PrintWords
end
