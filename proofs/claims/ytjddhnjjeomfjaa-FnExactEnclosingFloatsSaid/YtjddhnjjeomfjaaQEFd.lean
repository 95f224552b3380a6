/- Lemmas of the claim: WSized. -/
import Derived.SizedLaws
import Derived.ChangeSlices
section
namespace Go.Proofs.YtjddhnjjeomfjaaW.PrintWords
end Go.Proofs.YtjddhnjjeomfjaaW.PrintWords
end
