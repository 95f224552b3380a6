/- Lemmas of the claim: Facts. -/
import Derived.Test.YtjggbalhpflbbaaGreatRows
import Derived.JoinedOf
import Derived.KernelRfl
section
namespace Go.Proofs.YtjggbalhpflbbaaGreat.Facts
theorem and2 {a b : Bool} (h : a = true) (k : b = true) : (a && b) = true := by rw [h, k]; rfl
theorem own : ownKnob Tryz.prog.godebug = none := by kernel_rfl
theorem laid : laidOutB Tryz.prog = true := by kernel_rfl
theorem mapsR : mapsRowed Tryz.prog = true := by kernel_rfl
theorem stops : (Tryz.prog.stops == []) = true := by kernel_rfl
theorem knobs : (Tryz.prog.stopKnobs == []) = true := by kernel_rfl
theorem plainK : (true == Tryz.prog.plainKeys) = true := by kernel_rfl
theorem heard : Tryz.prog.stopsHeard = true := by kernel_rfl
def ioL : List Char := ([104, 97, 114, 110, 101, 115, 115, 32, 55, 102, 57, 53, 56, 99, 97, 101, 54, 49, 57, 98, 99, 49, 102, 50, 48, 51, 48, 101, 51, 57, 97, 51, 98, 101, 98, 55, 101, 57, 55, 48, 100, 102, 48, 100, 56, 48, 50, 57, 53, 50, 52, 54, 48, 102, 49, 102, 50, 98, 97, 48, 52, 57, 99, 51, 51, 55, 51, 52, 98, 57, 56, 54, 32, 99, 117, 116, 32, 97, 116, 32, 108, 111, 111, 112, 46, 101, 120, 97, 109, 112, 108, 101, 47, 103, 48, 49, 49, 55, 50, 47, 108, 97, 119, 115, 46, 70, 110, 69, 120, 97, 99, 116, 69, 114, 114, 111, 114, 79, 102, 82, 111, 117, 110, 100, 105, 110, 103] : List Nat).map Char.ofNat
set_option maxRecDepth 100000 in
theorem io : Tryz.prog.initOrder.toList = ioL := (show (String.ofList ioL).toList = ioL from String.toList_ofList)
theorem lifts : (false == Tryz.prog.liftsFinal) = true := by
  unfold Program.liftsFinal Program.headLifts
  rw [io]
  kernel_rfl
theorem hd : (behindMainWord (wordsSigns ioL)).head? = some "cut".toList := by kernel_rfl
theorem make_of {P : Program} {l : List (List Char)} (h0 : behindMainWord (wordsSigns P.initOrder.toList) = l) (h1 : l.head? = some "cut".toList) : (P.make == some .cut) = true := by
  unfold Program.make
  rw [h0]
  cases l with
  | nil => cases h1
  | cons c rest =>
    obtain rfl : c = "cut".toList := Option.some.inj h1
    rfl
theorem make : (Tryz.prog.make == some .cut) = true := make_of (by rw [io]) hd
theorem ll : Tryz.prog.laysLater = false := by kernel_rfl
theorem br : Tryz.prog.bearsReflect = false := by kernel_rfl
theorem dr : Tryz.prog.doorRows = [] := by kernel_rfl
theorem st : (stripLifts liftWords (behindMainWord (wordsSigns ioL))).1 = [] := by kernel_rfl
theorem s2 : ((stripLifts liftWords (behindMainWord (wordsSigns ioL))).2.head? == some "cut".toList) = true := by kernel_rfl
theorem door {P : Program} (h : P.doorRows = []) : P.doorFits [] = true := by
  unfold Program.doorFits
  rw [h]
  rfl
theorem may_of {P : Program} {l : List (List Char)} (h0 : behindMainWord (wordsSigns P.initOrder.toList) = l) (h1 : (stripLifts liftWords l).1 = []) (h2 : ((stripLifts liftWords l).2.head? == some "cut".toList) = true) (h3 : P.laysLater = false) (h4 : P.bearsReflect = false) (h5 : P.doorRows = []) : P.mayEnter = true := by
  unfold Program.mayEnter
  rw [h0]
  cases l with
  | nil => exact absurd h2 (by decide)
  | cons c rest =>
    show (_ || _ || (_ && _ && _ && _ && _)) = true
    rw [h1, h2, h3, h4, door h5]
    simp
theorem may : Tryz.prog.mayEnter = true := may_of (by rw [io]) st s2 ll br dr
end Go.Proofs.YtjggbalhpflbbaaGreat.Facts
end
