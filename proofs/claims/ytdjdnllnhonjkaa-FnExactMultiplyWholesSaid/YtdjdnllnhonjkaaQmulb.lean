/- Lemmas of the claim: WSized. -/
import Derived.SizedLaws
import Derived.ChangeSlices
section
namespace Go.Proofs.YtdjdnllnhonjkaaW.PrintWords
end Go.Proofs.YtdjdnllnhonjkaaW.PrintWords
end
