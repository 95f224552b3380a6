/-
  No cell of these rows narrows 'for every input' (looked for: loops, veiled, ifaces, maps, wideKeys, modest, calm, conditions, laid).
  DERIVED. THE GIVEN ROWS OF THIS SEAT. 7 by the template 'for every input the law returns true; each argument reads behind the call as it read before'; 0 by the template 'total and deterministic' (their statements: YtjddhnjjeomfjaaTotals.lean).
  GIVEN WITH THE SEED: the statements are not yours to turn. If you find one false, say at which input.
  Laid BY PROGRAM, IN A SANDBOX (cutbox-rows.mjs): the forced cells as the released guide's own fill.sh prints them over the translation 1e34cce888046e3d… (all of the seat's roots in one cut). By AI agents, Wed Nov 11 2026. No macro, syntax, notation, axiom, sorry.
-/
import Derived.Test.YtjddhnjjeomfjaaChecked
import GoSem.Claim
import GoSem.ClaimJoined
import GoSem.ClaimMapViews
import Derived.JoinedTies
import Derived.KernelRfl
namespace Go.Proofs.Ytjddhnjjeomfjaa
/- THE CELL 'sum', in the pinned program and in every row, IS THE sha256 OF THE DUMP (.gsa) THAT YtjddhnjjeomfjaaProg.lean LOADS. Nothing in Lean hashes anything: it is a label: what it is worth is what the hold of that sum in a sandbox is worth. -/
noncomputable def Try.pinned : Pinned := { name := "ytjddhnjjeomfjaa", sum := "1e34cce888046e3d9251a8594ed12e1fcd37745a38be53606dc7b33eff4928f0", checked := Try.checked }
namespace Rows
def none {H : Type} : Left H := { results := [], args := [] }

/-- 'laws.FnExactRoundDyadic': WHATEVER THE INPUT: true; the input reads as it did. -/
def fnExactRoundDyadicSpec : ChangeSpec := { name := "fnExactRoundDyadic", fn := fun _ => fun
  | [d1, d2] => { results := [.lit (.bool true)], args := [d1, d2] }
  | _ => none }
def fnExactRoundDyadicRow : OpenClaim := { program := "ytjddhnjjeomfjaa", sum := "1e34cce888046e3d9251a8594ed12e1fcd37745a38be53606dc7b33eff4928f0", func := "loop.example/g01172/laws.FnExactRoundDyadic", spec := "fnExactRoundDyadic", inPlace := ["math.Float32frombits", "math.Float64frombits", "math.Float64bits"], unfollowed := true, recurses := true, apart := false }
def FnExactRoundDyadicSaid : Prop := fnExactRoundDyadicRow.holds Try.pinned (OpenSpec.ofChange fnExactRoundDyadicSpec)

/-- ITS FALSE NEIGHBOUR: 'it returns false'. Refute it at one input. -/
def fnExactRoundDyadicWrong : ChangeSpec := { name := "fnExactRoundDyadic", fn := fun _ => fun
  | [d1, d2] => { results := [.lit (.bool false)], args := [d1, d2] }
  | _ => none }
def FnExactRoundDyadicWrongFalsely : Prop := fnExactRoundDyadicRow.holds Try.pinned (OpenSpec.ofChange fnExactRoundDyadicWrong)

/-- 'laws.FnExactEnclosingFloats': WHATEVER THE INPUT: true; the input reads as it did. -/
def fnExactEnclosingFloatsSpec : ChangeSpec := { name := "fnExactEnclosingFloats", fn := fun _ => fun
  | [d] => { results := [.lit (.bool true)], args := [d] }
  | _ => none }
def fnExactEnclosingFloatsRow : OpenClaim := { program := "ytjddhnjjeomfjaa", sum := "1e34cce888046e3d9251a8594ed12e1fcd37745a38be53606dc7b33eff4928f0", func := "loop.example/g01172/laws.FnExactEnclosingFloats", spec := "fnExactEnclosingFloats", inPlace := ["math.Float32frombits", "math.Float64frombits", "math.Float64bits"], unfollowed := true, recurses := true, apart := false }
def FnExactEnclosingFloatsSaid : Prop := fnExactEnclosingFloatsRow.holds Try.pinned (OpenSpec.ofChange fnExactEnclosingFloatsSpec)

/-- ITS FALSE NEIGHBOUR: 'it returns false'. Refute it at one input. -/
def fnExactEnclosingFloatsWrong : ChangeSpec := { name := "fnExactEnclosingFloats", fn := fun _ => fun
  | [d] => { results := [.lit (.bool false)], args := [d] }
  | _ => none }
def FnExactEnclosingFloatsWrongFalsely : Prop := fnExactEnclosingFloatsRow.holds Try.pinned (OpenSpec.ofChange fnExactEnclosingFloatsWrong)

/-- 'laws.FnExactAddIn': WHATEVER THE INPUT: true; the input reads as it did. -/
def fnExactAddInSpec : ChangeSpec := { name := "fnExactAddIn", fn := fun _ => fun
  | [d1, d2, d3] => { results := [.lit (.bool true)], args := [d1, d2, d3] }
  | _ => none }
def fnExactAddInRow : OpenClaim := { program := "ytjddhnjjeomfjaa", sum := "1e34cce888046e3d9251a8594ed12e1fcd37745a38be53606dc7b33eff4928f0", func := "loop.example/g01172/laws.FnExactAddIn", spec := "fnExactAddIn", inPlace := ["math.Float32bits", "math.Float32frombits", "math.Float64frombits", "math.Float64bits"], unfollowed := true, recurses := true, apart := false }
def FnExactAddInSaid : Prop := fnExactAddInRow.holds Try.pinned (OpenSpec.ofChange fnExactAddInSpec)

/-- ITS FALSE NEIGHBOUR: 'it returns false'. Refute it at one input. -/
def fnExactAddInWrong : ChangeSpec := { name := "fnExactAddIn", fn := fun _ => fun
  | [d1, d2, d3] => { results := [.lit (.bool false)], args := [d1, d2, d3] }
  | _ => none }
def FnExactAddInWrongFalsely : Prop := fnExactAddInRow.holds Try.pinned (OpenSpec.ofChange fnExactAddInWrong)

/-- 'laws.FnExactSubtractIn': WHATEVER THE INPUT: true; the input reads as it did. -/
def fnExactSubtractInSpec : ChangeSpec := { name := "fnExactSubtractIn", fn := fun _ => fun
  | [d1, d2, d3] => { results := [.lit (.bool true)], args := [d1, d2, d3] }
  | _ => none }
def fnExactSubtractInRow : OpenClaim := { program := "ytjddhnjjeomfjaa", sum := "1e34cce888046e3d9251a8594ed12e1fcd37745a38be53606dc7b33eff4928f0", func := "loop.example/g01172/laws.FnExactSubtractIn", spec := "fnExactSubtractIn", inPlace := ["math.Float32bits", "math.Float32frombits", "math.Float64frombits", "math.Float64bits"], unfollowed := true, recurses := true, apart := false }
def FnExactSubtractInSaid : Prop := fnExactSubtractInRow.holds Try.pinned (OpenSpec.ofChange fnExactSubtractInSpec)

/-- ITS FALSE NEIGHBOUR: 'it returns false'. Refute it at one input. -/
def fnExactSubtractInWrong : ChangeSpec := { name := "fnExactSubtractIn", fn := fun _ => fun
  | [d1, d2, d3] => { results := [.lit (.bool false)], args := [d1, d2, d3] }
  | _ => none }
def FnExactSubtractInWrongFalsely : Prop := fnExactSubtractInRow.holds Try.pinned (OpenSpec.ofChange fnExactSubtractInWrong)

/-- 'laws.FnExactMultiplyIn': WHATEVER THE INPUT: true; the input reads as it did. -/
def fnExactMultiplyInSpec : ChangeSpec := { name := "fnExactMultiplyIn", fn := fun _ => fun
  | [d1, d2, d3] => { results := [.lit (.bool true)], args := [d1, d2, d3] }
  | _ => none }
def fnExactMultiplyInRow : OpenClaim := { program := "ytjddhnjjeomfjaa", sum := "1e34cce888046e3d9251a8594ed12e1fcd37745a38be53606dc7b33eff4928f0", func := "loop.example/g01172/laws.FnExactMultiplyIn", spec := "fnExactMultiplyIn", inPlace := ["math.Float32bits", "math.Float32frombits", "math.Float64frombits", "math.Float64bits"], unfollowed := true, recurses := true, apart := false }
def FnExactMultiplyInSaid : Prop := fnExactMultiplyInRow.holds Try.pinned (OpenSpec.ofChange fnExactMultiplyInSpec)

/-- ITS FALSE NEIGHBOUR: 'it returns false'. Refute it at one input. -/
def fnExactMultiplyInWrong : ChangeSpec := { name := "fnExactMultiplyIn", fn := fun _ => fun
  | [d1, d2, d3] => { results := [.lit (.bool false)], args := [d1, d2, d3] }
  | _ => none }
def FnExactMultiplyInWrongFalsely : Prop := fnExactMultiplyInRow.holds Try.pinned (OpenSpec.ofChange fnExactMultiplyInWrong)

/-- 'laws.FnExactIsExactSum': WHATEVER THE INPUT: true; the input reads as it did. -/
def fnExactIsExactSumSpec : ChangeSpec := { name := "fnExactIsExactSum", fn := fun _ => fun
  | [d1, d2] => { results := [.lit (.bool true)], args := [d1, d2] }
  | _ => none }
def fnExactIsExactSumRow : OpenClaim := { program := "ytjddhnjjeomfjaa", sum := "1e34cce888046e3d9251a8594ed12e1fcd37745a38be53606dc7b33eff4928f0", func := "loop.example/g01172/laws.FnExactIsExactSum", spec := "fnExactIsExactSum", inPlace := ["math.Float32bits", "math.Float32frombits", "math.Float64frombits", "math.Float64bits"], unfollowed := true, recurses := true, apart := false }
def FnExactIsExactSumSaid : Prop := fnExactIsExactSumRow.holds Try.pinned (OpenSpec.ofChange fnExactIsExactSumSpec)

/-- ITS FALSE NEIGHBOUR: 'it returns false'. Refute it at one input. -/
def fnExactIsExactSumWrong : ChangeSpec := { name := "fnExactIsExactSum", fn := fun _ => fun
  | [d1, d2] => { results := [.lit (.bool false)], args := [d1, d2] }
  | _ => none }
def FnExactIsExactSumWrongFalsely : Prop := fnExactIsExactSumRow.holds Try.pinned (OpenSpec.ofChange fnExactIsExactSumWrong)

/-- 'laws.FnExactNarrowIn': WHATEVER THE INPUT: true; the input reads as it did. -/
def fnExactNarrowInSpec : ChangeSpec := { name := "fnExactNarrowIn", fn := fun _ => fun
  | [d1, d2] => { results := [.lit (.bool true)], args := [d1, d2] }
  | _ => none }
def fnExactNarrowInRow : OpenClaim := { program := "ytjddhnjjeomfjaa", sum := "1e34cce888046e3d9251a8594ed12e1fcd37745a38be53606dc7b33eff4928f0", func := "loop.example/g01172/laws.FnExactNarrowIn", spec := "fnExactNarrowIn", inPlace := ["math.Float64bits", "math.Float64frombits", "math.Float32frombits"], unfollowed := true, recurses := true, apart := false }
def FnExactNarrowInSaid : Prop := fnExactNarrowInRow.holds Try.pinned (OpenSpec.ofChange fnExactNarrowInSpec)

/-- ITS FALSE NEIGHBOUR: 'it returns false'. Refute it at one input. -/
def fnExactNarrowInWrong : ChangeSpec := { name := "fnExactNarrowIn", fn := fun _ => fun
  | [d1, d2] => { results := [.lit (.bool false)], args := [d1, d2] }
  | _ => none }
def FnExactNarrowInWrongFalsely : Prop := fnExactNarrowInRow.holds Try.pinned (OpenSpec.ofChange fnExactNarrowInWrong)

/- THE SECOND FORM. 'bulk': how many values and letters a reading holds, each counted each time it is reached (what is shared counts as often as it is met; a slice's spare places count too). A statement '..UptoSaid' is the law's where the arguments, and the package variables that the reading takes, are together of bulk at most 1048576: NARROWER than '..Said'. Prove '..Said' where nothing that the law and all that it calls make is longer than what came in: it says more and counts as full. Else prove '..UptoSaid'. A law counts once. -/
mutual
def uptoBulk {H : Type} : DataW H → Nat
  | .lit (.string bytes) => bytes.length + 1
  | .lit _ => 1
  | .nil => 1
  | .ptr d => uptoBulk d + 1
  | .slice elems spare => uptoBulkAll elems + uptoBulkAll spare + 1
  | .agg parts => uptoBulkAll parts + 1
  | .iface _ d => uptoBulk d + 1
  | .map entries => uptoBulkEntries entries + 1
  | .held _ => 1
def uptoBulkAll {H : Type} : List (DataW H) → Nat
  | [] => 0
  | d :: r => uptoBulk d + uptoBulkAll r
def uptoBulkEntries {H : Type} : List (Lit × DataW H) → Nat
  | [] => 0
  | x :: r => uptoBulkEntry x + uptoBulkEntries r
def uptoBulkEntry {H : Type} : Lit × DataW H → Nat
  | (.string bytes, d) => bytes.length + uptoBulk d + 1
  | (_, d) => uptoBulk d + 1
 end
def uptoSmall : (H : Type) → List (DataW H) → Bool := fun _ ds => decide (uptoBulkAll ds ≤ 1048576)
def OpenSpec.upto (s : _root_.Go.ChangeSpec) : _root_.Go.OpenSpec := { _root_.Go.OpenSpec.ofChange s with cond := some uptoSmall }

/-- 'laws.FnExactRoundDyadic', WHERE WHAT IT READS IS OF BULK AT MOST 1048576: true; the input reads as it did. -/
def fnExactRoundDyadicUptoRow : OpenClaim := { program := "ytjddhnjjeomfjaa", sum := "1e34cce888046e3d9251a8594ed12e1fcd37745a38be53606dc7b33eff4928f0", func := "loop.example/g01172/laws.FnExactRoundDyadic", spec := "fnExactRoundDyadic", inPlace := ["math.Float32frombits", "math.Float64frombits", "math.Float64bits"], unfollowed := true, recurses := true, apart := false, narrowed := true }
def FnExactRoundDyadicUptoSaid : Prop := fnExactRoundDyadicUptoRow.holds Try.pinned (OpenSpec.upto fnExactRoundDyadicSpec)

/-- 'laws.FnExactEnclosingFloats', WHERE WHAT IT READS IS OF BULK AT MOST 1048576: true; the input reads as it did. -/
def fnExactEnclosingFloatsUptoRow : OpenClaim := { program := "ytjddhnjjeomfjaa", sum := "1e34cce888046e3d9251a8594ed12e1fcd37745a38be53606dc7b33eff4928f0", func := "loop.example/g01172/laws.FnExactEnclosingFloats", spec := "fnExactEnclosingFloats", inPlace := ["math.Float32frombits", "math.Float64frombits", "math.Float64bits"], unfollowed := true, recurses := true, apart := false, narrowed := true }
def FnExactEnclosingFloatsUptoSaid : Prop := fnExactEnclosingFloatsUptoRow.holds Try.pinned (OpenSpec.upto fnExactEnclosingFloatsSpec)

/-- 'laws.FnExactAddIn', WHERE WHAT IT READS IS OF BULK AT MOST 1048576: true; the input reads as it did. -/
def fnExactAddInUptoRow : OpenClaim := { program := "ytjddhnjjeomfjaa", sum := "1e34cce888046e3d9251a8594ed12e1fcd37745a38be53606dc7b33eff4928f0", func := "loop.example/g01172/laws.FnExactAddIn", spec := "fnExactAddIn", inPlace := ["math.Float32bits", "math.Float32frombits", "math.Float64frombits", "math.Float64bits"], unfollowed := true, recurses := true, apart := false, narrowed := true }
def FnExactAddInUptoSaid : Prop := fnExactAddInUptoRow.holds Try.pinned (OpenSpec.upto fnExactAddInSpec)

/-- 'laws.FnExactSubtractIn', WHERE WHAT IT READS IS OF BULK AT MOST 1048576: true; the input reads as it did. -/
def fnExactSubtractInUptoRow : OpenClaim := { program := "ytjddhnjjeomfjaa", sum := "1e34cce888046e3d9251a8594ed12e1fcd37745a38be53606dc7b33eff4928f0", func := "loop.example/g01172/laws.FnExactSubtractIn", spec := "fnExactSubtractIn", inPlace := ["math.Float32bits", "math.Float32frombits", "math.Float64frombits", "math.Float64bits"], unfollowed := true, recurses := true, apart := false, narrowed := true }
def FnExactSubtractInUptoSaid : Prop := fnExactSubtractInUptoRow.holds Try.pinned (OpenSpec.upto fnExactSubtractInSpec)

/-- 'laws.FnExactMultiplyIn', WHERE WHAT IT READS IS OF BULK AT MOST 1048576: true; the input reads as it did. -/
def fnExactMultiplyInUptoRow : OpenClaim := { program := "ytjddhnjjeomfjaa", sum := "1e34cce888046e3d9251a8594ed12e1fcd37745a38be53606dc7b33eff4928f0", func := "loop.example/g01172/laws.FnExactMultiplyIn", spec := "fnExactMultiplyIn", inPlace := ["math.Float32bits", "math.Float32frombits", "math.Float64frombits", "math.Float64bits"], unfollowed := true, recurses := true, apart := false, narrowed := true }
def FnExactMultiplyInUptoSaid : Prop := fnExactMultiplyInUptoRow.holds Try.pinned (OpenSpec.upto fnExactMultiplyInSpec)

/-- 'laws.FnExactIsExactSum', WHERE WHAT IT READS IS OF BULK AT MOST 1048576: true; the input reads as it did. -/
def fnExactIsExactSumUptoRow : OpenClaim := { program := "ytjddhnjjeomfjaa", sum := "1e34cce888046e3d9251a8594ed12e1fcd37745a38be53606dc7b33eff4928f0", func := "loop.example/g01172/laws.FnExactIsExactSum", spec := "fnExactIsExactSum", inPlace := ["math.Float32bits", "math.Float32frombits", "math.Float64frombits", "math.Float64bits"], unfollowed := true, recurses := true, apart := false, narrowed := true }
def FnExactIsExactSumUptoSaid : Prop := fnExactIsExactSumUptoRow.holds Try.pinned (OpenSpec.upto fnExactIsExactSumSpec)

/-- 'laws.FnExactNarrowIn', WHERE WHAT IT READS IS OF BULK AT MOST 1048576: true; the input reads as it did. -/
def fnExactNarrowInUptoRow : OpenClaim := { program := "ytjddhnjjeomfjaa", sum := "1e34cce888046e3d9251a8594ed12e1fcd37745a38be53606dc7b33eff4928f0", func := "loop.example/g01172/laws.FnExactNarrowIn", spec := "fnExactNarrowIn", inPlace := ["math.Float64bits", "math.Float64frombits", "math.Float32frombits"], unfollowed := true, recurses := true, apart := false, narrowed := true }
def FnExactNarrowInUptoSaid : Prop := fnExactNarrowInUptoRow.holds Try.pinned (OpenSpec.upto fnExactNarrowInSpec)

end Rows
end Go.Proofs.Ytjddhnjjeomfjaa
