/- Lemmas of the claim: WSized. -/
import Derived.SizedLaws
import Derived.ChangeSlices
section
namespace Go.Proofs.YtfinbmnjfnajiaaW.PrintWords
end Go.Proofs.YtfinbmnjfnajiaaW.PrintWords
end
