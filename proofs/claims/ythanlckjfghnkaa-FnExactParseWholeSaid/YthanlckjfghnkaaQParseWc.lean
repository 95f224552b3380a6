/- Lemmas of the claim: Facts. -/
import Derived.Test.YthanlckjfghnkaaRows
import Derived.JoinedOf
import Derived.KernelRfl
section
namespace Go.Proofs.Ythanlckjfghnkaa.Facts
theorem and2 {a b : Bool} (h : a = true) (k : b = true) : (a && b) = true := by rw [h, k]; rfl
theorem own : ownKnob Try.prog.godebug = none := by kernel_rfl
theorem laid : laidOutB Try.prog = true := by kernel_rfl
theorem mapsR : mapsRowed Try.prog = true := by kernel_rfl
theorem stops : (Try.prog.stops == []) = true := by kernel_rfl
theorem knobs : (Try.prog.stopKnobs == []) = true := by kernel_rfl
theorem plainK : (true == Try.prog.plainKeys) = true := by kernel_rfl
theorem heard : Try.prog.stopsHeard = true := by kernel_rfl
def ioL : List Char := ([104, 97, 114, 110, 101, 115, 115, 32, 99, 100, 55, 99, 102, 56, 99, 99, 55, 52, 52, 50, 50, 56, 48, 54, 57, 99, 50, 97, 52, 100, 102, 98, 52, 99, 102, 101, 54, 52, 54, 50, 98, 50, 48, 100, 50, 100, 49, 101, 52, 99, 99, 53, 50, 99, 101, 100, 57, 54, 48, 102, 54, 56, 48, 98, 52, 98, 57, 54, 48, 100, 97, 48, 32, 99, 117, 116, 32, 97, 116, 32, 108, 111, 111, 112, 46, 101, 120, 97, 109, 112, 108, 101, 47, 103, 48, 49, 49, 55, 50, 47, 108, 97, 119, 115, 46, 70, 110, 69, 120, 97, 99, 116, 82, 111, 111, 116, 79, 102, 87, 104, 111, 108, 101, 32, 108, 111, 111, 112, 46, 101, 120, 97, 109, 112, 108, 101, 47, 103, 48, 49, 49, 55, 50, 47, 108, 97, 119, 115, 46, 70, 110, 69, 120, 97, 99, 116, 80, 97, 114, 115, 101, 87, 104, 111, 108, 101, 32, 108, 111, 111, 112, 46, 101, 120, 97, 109, 112, 108, 101, 47, 103, 48, 49, 49, 55, 50, 47, 108, 97, 119, 115, 46, 70, 110, 69, 120, 97, 99, 116, 68, 105, 118, 105, 100, 101, 87, 104, 111, 108, 101, 115, 32, 108, 111, 111, 112, 46, 101, 120, 97, 109, 112, 108, 101, 47, 103, 48, 49, 49, 55, 50, 47, 108, 97, 119, 115, 46, 70, 110, 69, 120, 97, 99, 116, 81, 117, 111, 116, 105, 101, 110, 116, 66, 101, 108, 111, 119] : List Nat).map Char.ofNat
set_option maxRecDepth 100000 in
theorem io : Try.prog.initOrder.toList = ioL := (show (String.ofList ioL).toList = ioL from String.toList_ofList)
theorem lifts : (false == Try.prog.liftsFinal) = true := by
  unfold Program.liftsFinal Program.headLifts
  rw [io]
  kernel_rfl
theorem hd : (behindMainWord (wordsSigns ioL)).head? = some "cut".toList := by kernel_rfl
theorem make_of {P : Program} {l : List (List Char)} (h0 : behindMainWord (wordsSigns P.initOrder.toList) = l) (h1 : l.head? = some "cut".toList) : (P.make == some .cut) = true := by
  unfold Program.make
  rw [h0]
  cases l with
  | nil => cases h1
  | cons c rest =>
    obtain rfl : c = "cut".toList := Option.some.inj h1
    rfl
theorem make : (Try.prog.make == some .cut) = true := make_of (by rw [io]) hd
theorem ll : Try.prog.laysLater = false := by kernel_rfl
theorem br : Try.prog.bearsReflect = false := by kernel_rfl
theorem dr : Try.prog.doorRows = [] := by kernel_rfl
theorem st : (stripLifts liftWords (behindMainWord (wordsSigns ioL))).1 = [] := by kernel_rfl
theorem s2 : ((stripLifts liftWords (behindMainWord (wordsSigns ioL))).2.head? == some "cut".toList) = true := by kernel_rfl
theorem door {P : Program} (h : P.doorRows = []) : P.doorFits [] = true := by
  unfold Program.doorFits
  rw [h]
  rfl
theorem may_of {P : Program} {l : List (List Char)} (h0 : behindMainWord (wordsSigns P.initOrder.toList) = l) (h1 : (stripLifts liftWords l).1 = []) (h2 : ((stripLifts liftWords l).2.head? == some "cut".toList) = true) (h3 : P.laysLater = false) (h4 : P.bearsReflect = false) (h5 : P.doorRows = []) : P.mayEnter = true := by
  unfold Program.mayEnter
  rw [h0]
  cases l with
  | nil => exact absurd h2 (by decide)
  | cons c rest =>
    show (_ || _ || (_ && _ && _ && _ && _)) = true
    rw [h1, h2, h3, h4, door h5]
    simp
theorem may : Try.prog.mayEnter = true := may_of (by rw [io]) st s2 ll br dr
end Go.Proofs.Ythanlckjfghnkaa.Facts
end
