/- Lemmas of the claim: . -/
import Derived.SizedLaws
import Derived.ChangeSlices

