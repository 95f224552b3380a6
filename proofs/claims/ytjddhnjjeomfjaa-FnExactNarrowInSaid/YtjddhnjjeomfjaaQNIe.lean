/- Lemmas of the claim: Facts. -/
import Derived.Test.YtjddhnjjeomfjaaRows
import Derived.JoinedOf
import Derived.KernelRfl
section
namespace Go.Proofs.Ytjddhnjjeomfjaa.Facts
theorem and2 {a b : Bool} (h : a = true) (k : b = true) : (a && b) = true := by rw [h, k]; rfl
theorem own : ownKnob Try.prog.godebug = none := by kernel_rfl
theorem laid : laidOutB Try.prog = true := by kernel_rfl
theorem mapsR : mapsRowed Try.prog = true := by kernel_rfl
theorem stops : (Try.prog.stops == []) = true := by kernel_rfl
theorem knobs : (Try.prog.stopKnobs == []) = true := by kernel_rfl
theorem plainK : (true == Try.prog.plainKeys) = true := by kernel_rfl
theorem heard : Try.prog.stopsHeard = true := by kernel_rfl
def ioL : List Char := ([104, 97, 114, 110, 101, 115, 115, 32, 99, 57, 51, 51, 57, 51, 48, 102, 56, 102, 53, 99, 50, 49, 97, 56, 101, 98, 98, 100, 54, 55, 56, 50, 54, 56, 97, 55, 49, 49, 48, 48, 53, 100, 97, 101, 49, 98, 48, 99, 99, 102, 101, 99, 56, 56, 51, 49, 101, 101, 54, 97, 49, 97, 57, 100, 48, 51, 56, 55, 49, 54, 52, 101, 32, 99, 117, 116, 32, 97, 116, 32, 108, 111, 111, 112, 46, 101, 120, 97, 109, 112, 108, 101, 47, 103, 48, 49, 49, 55, 50, 47, 108, 97, 119, 115, 46, 70, 110, 69, 120, 97, 99, 116, 82, 111, 117, 110, 100, 68, 121, 97, 100, 105, 99, 32, 108, 111, 111, 112, 46, 101, 120, 97, 109, 112, 108, 101, 47, 103, 48, 49, 49, 55, 50, 47, 108, 97, 119, 115, 46, 70, 110, 69, 120, 97, 99, 116, 69, 110, 99, 108, 111, 115, 105, 110, 103, 70, 108, 111, 97, 116, 115, 32, 108, 111, 111, 112, 46, 101, 120, 97, 109, 112, 108, 101, 47, 103, 48, 49, 49, 55, 50, 47, 108, 97, 119, 115, 46, 70, 110, 69, 120, 97, 99, 116, 65, 100, 100, 73, 110, 32, 108, 111, 111, 112, 46, 101, 120, 97, 109, 112, 108, 101, 47, 103, 48, 49, 49, 55, 50, 47, 108, 97, 119, 115, 46, 70, 110, 69, 120, 97, 99, 116, 83, 117, 98, 116, 114, 97, 99, 116, 73, 110, 32, 108, 111, 111, 112, 46, 101, 120, 97, 109, 112, 108, 101, 47, 103, 48, 49, 49, 55, 50, 47, 108, 97, 119, 115, 46, 70, 110, 69, 120, 97, 99, 116, 77, 117, 108, 116, 105, 112, 108, 121, 73, 110, 32, 108, 111, 111, 112, 46, 101, 120, 97, 109, 112, 108, 101, 47, 103, 48, 49, 49, 55, 50, 47, 108, 97, 119, 115, 46, 70, 110, 69, 120, 97, 99, 116, 73, 115, 69, 120, 97, 99, 116, 83, 117, 109, 32, 108, 111, 111, 112, 46, 101, 120, 97, 109, 112, 108, 101, 47, 103, 48, 49, 49, 55, 50, 47, 108, 97, 119, 115, 46, 70, 110, 69, 120, 97, 99, 116, 78, 97, 114, 114, 111, 119, 73, 110] : List Nat).map Char.ofNat
set_option maxRecDepth 100000 in
theorem io : Try.prog.initOrder.toList = ioL := (show (String.ofList ioL).toList = ioL from String.toList_ofList)
theorem lifts : (false == Try.prog.liftsFinal) = true := by
  unfold Program.liftsFinal Program.headLifts
  rw [io]
  kernel_rfl
theorem hd : (behindMainWord (wordsSigns ioL)).head? = some "cut".toList := by kernel_rfl
theorem make_of {P : Program} {l : List (List Char)} (h0 : behindMainWord (wordsSigns P.initOrder.toList) = l) (h1 : l.head? = some "cut".toList) : (P.make == some .cut) = true := by
  unfold Program.make
  rw [h0]
  cases l with
  | nil => cases h1
  | cons c rest =>
    obtain rfl : c = "cut".toList := Option.some.inj h1
    rfl
theorem make : (Try.prog.make == some .cut) = true := make_of (by rw [io]) hd
theorem ll : Try.prog.laysLater = false := by kernel_rfl
theorem br : Try.prog.bearsReflect = false := by kernel_rfl
theorem dr : Try.prog.doorRows = [] := by kernel_rfl
theorem st : (stripLifts liftWords (behindMainWord (wordsSigns ioL))).1 = [] := by kernel_rfl
theorem s2 : ((stripLifts liftWords (behindMainWord (wordsSigns ioL))).2.head? == some "cut".toList) = true := by kernel_rfl
theorem door {P : Program} (h : P.doorRows = []) : P.doorFits [] = true := by
  unfold Program.doorFits
  rw [h]
  rfl
theorem may_of {P : Program} {l : List (List Char)} (h0 : behindMainWord (wordsSigns P.initOrder.toList) = l) (h1 : (stripLifts liftWords l).1 = []) (h2 : ((stripLifts liftWords l).2.head? == some "cut".toList) = true) (h3 : P.laysLater = false) (h4 : P.bearsReflect = false) (h5 : P.doorRows = []) : P.mayEnter = true := by
  unfold Program.mayEnter
  rw [h0]
  cases l with
  | nil => exact absurd h2 (by decide)
  | cons c rest =>
    show (_ || _ || (_ && _ && _ && _ && _)) = true
    rw [h1, h2, h3, h4, door h5]
    simp
theorem may : Try.prog.mayEnter = true := may_of (by rw [io]) st s2 ll br dr
end Go.Proofs.Ytjddhnjjeomfjaa.Facts
end
