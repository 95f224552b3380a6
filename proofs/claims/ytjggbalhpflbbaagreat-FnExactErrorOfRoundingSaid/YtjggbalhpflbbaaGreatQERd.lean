/- Lemmas of the claim: WSized. -/
import Derived.SizedLaws
import Derived.ChangeSlices
section
namespace Go.Proofs.YtjggbalhpflbbaaGreatW.PrintWords
end Go.Proofs.YtjggbalhpflbbaaGreatW.PrintWords
end
