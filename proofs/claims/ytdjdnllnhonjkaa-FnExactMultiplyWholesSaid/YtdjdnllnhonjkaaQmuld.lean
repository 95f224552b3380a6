/- Lemmas of the claim: Facts. -/
import Derived.Test.YtdjdnllnhonjkaaRows
import Derived.JoinedOf
import Derived.KernelRfl
section
namespace Go.Proofs.Ytdjdnllnhonjkaa.Facts
theorem and2 {a b : Bool} (h : a = true) (k : b = true) : (a && b) = true := by rw [h, k]; rfl
theorem own : ownKnob Try.prog.godebug = none := by kernel_rfl
theorem laid : laidOutB Try.prog = true := by kernel_rfl
theorem mapsR : mapsRowed Try.prog = true := by kernel_rfl
theorem stops : (Try.prog.stops == []) = true := by kernel_rfl
theorem knobs : (Try.prog.stopKnobs == []) = true := by kernel_rfl
theorem plainK : (true == Try.prog.plainKeys) = true := by kernel_rfl
theorem heard : Try.prog.stopsHeard = true := by kernel_rfl
theorem may : Try.prog.mayEnter = true := by kernel_rfl
theorem lifts : (false == Try.prog.liftsFinal) = true := by kernel_rfl
theorem make : (Try.prog.make == some .cut) = true := by kernel_rfl
end Go.Proofs.Ytdjdnllnhonjkaa.Facts
end
