/-
  No cell of these rows narrows 'for every input' (looked for: loops, veiled, ifaces, maps, wideKeys, modest, calm, conditions, laid).
  DERIVED. THE GIVEN ROWS OF THIS SEAT. 19 by the template 'for every input the law returns true; each argument reads behind the call as it read before'; 0 by the template 'total and deterministic' (their statements: YtdboepiobaehkaaTotals.lean).
  GIVEN WITH THE SEED: the statements are not yours to turn. If you find one false, say at which input.
  Laid BY PROGRAM, IN A SANDBOX (cutbox-rows.mjs): the forced cells as the released guide's own fill.sh prints them over the translation 1b5f8bcf7bd435de… (all of the seat's roots in one cut). By AI agents, Wed Nov 11 2026. No macro, syntax, notation, axiom, sorry.
-/
import Derived.Test.YtdboepiobaehkaaChecked
import GoSem.Claim
import GoSem.ClaimJoined
import GoSem.ClaimMapViews
import Derived.JoinedTies
import Derived.KernelRfl
namespace Go.Proofs.Ytdboepiobaehkaa
/- THE CELL 'sum', in the pinned program and in every row, IS THE sha256 OF THE DUMP (.gsa) THAT YtdboepiobaehkaaProg.lean LOADS. Nothing in Lean hashes anything: it is a label: what it is worth is what the hold of that sum in a sandbox is worth. -/
noncomputable def Try.pinned : Pinned := { name := "ytdboepiobaehkaa", sum := "1b5f8bcf7bd435de92d0f2c6d544f56d04d1f12321f378be621d8abd8234af83", checked := Try.checked }
namespace Rows
def none {H : Type} : Left H := { results := [], args := [] }

/-- 'laws.FnExactIsDyadic': WHATEVER THE INPUT: true; the input reads as it did. -/
def fnExactIsDyadicSpec : ChangeSpec := { name := "fnExactIsDyadic", fn := fun _ => fun
  | [d] => { results := [.lit (.bool true)], args := [d] }
  | _ => none }
def fnExactIsDyadicRow : OpenClaim := { program := "ytdboepiobaehkaa", sum := "1b5f8bcf7bd435de92d0f2c6d544f56d04d1f12321f378be621d8abd8234af83", func := "loop.example/g01172/laws.FnExactIsDyadic", spec := "fnExactIsDyadic", apart := false }
def FnExactIsDyadicSaid : Prop := fnExactIsDyadicRow.holds Try.pinned (OpenSpec.ofChange fnExactIsDyadicSpec)

/-- ITS FALSE NEIGHBOUR: 'it returns false'. Refute it at one input. -/
def fnExactIsDyadicWrong : ChangeSpec := { name := "fnExactIsDyadic", fn := fun _ => fun
  | [d] => { results := [.lit (.bool false)], args := [d] }
  | _ => none }
def FnExactIsDyadicWrongFalsely : Prop := fnExactIsDyadicRow.holds Try.pinned (OpenSpec.ofChange fnExactIsDyadicWrong)

/-- 'laws.FnExactDyadicOf': WHATEVER THE INPUT: true; the input reads as it did. -/
def fnExactDyadicOfSpec : ChangeSpec := { name := "fnExactDyadicOf", fn := fun _ => fun
  | [d] => { results := [.lit (.bool true)], args := [d] }
  | _ => none }
def fnExactDyadicOfRow : OpenClaim := { program := "ytdboepiobaehkaa", sum := "1b5f8bcf7bd435de92d0f2c6d544f56d04d1f12321f378be621d8abd8234af83", func := "loop.example/g01172/laws.FnExactDyadicOf", spec := "fnExactDyadicOf", inPlace := ["math.Float32bits"], apart := false }
def FnExactDyadicOfSaid : Prop := fnExactDyadicOfRow.holds Try.pinned (OpenSpec.ofChange fnExactDyadicOfSpec)

/-- ITS FALSE NEIGHBOUR: 'it returns false'. Refute it at one input. -/
def fnExactDyadicOfWrong : ChangeSpec := { name := "fnExactDyadicOf", fn := fun _ => fun
  | [d] => { results := [.lit (.bool false)], args := [d] }
  | _ => none }
def FnExactDyadicOfWrongFalsely : Prop := fnExactDyadicOfRow.holds Try.pinned (OpenSpec.ofChange fnExactDyadicOfWrong)

/-- 'laws.FnExactMakeDyadic': WHATEVER THE INPUT: true; the input reads as it did. -/
def fnExactMakeDyadicSpec : ChangeSpec := { name := "fnExactMakeDyadic", fn := fun _ => fun
  | [d1, d2] => { results := [.lit (.bool true)], args := [d1, d2] }
  | _ => none }
def fnExactMakeDyadicRow : OpenClaim := { program := "ytdboepiobaehkaa", sum := "1b5f8bcf7bd435de92d0f2c6d544f56d04d1f12321f378be621d8abd8234af83", func := "loop.example/g01172/laws.FnExactMakeDyadic", spec := "fnExactMakeDyadic", apart := false }
def FnExactMakeDyadicSaid : Prop := fnExactMakeDyadicRow.holds Try.pinned (OpenSpec.ofChange fnExactMakeDyadicSpec)

/-- ITS FALSE NEIGHBOUR: 'it returns false'. Refute it at one input. -/
def fnExactMakeDyadicWrong : ChangeSpec := { name := "fnExactMakeDyadic", fn := fun _ => fun
  | [d1, d2] => { results := [.lit (.bool false)], args := [d1, d2] }
  | _ => none }
def FnExactMakeDyadicWrongFalsely : Prop := fnExactMakeDyadicRow.holds Try.pinned (OpenSpec.ofChange fnExactMakeDyadicWrong)

/-- 'laws.FnExactCompareDyadics': WHATEVER THE INPUT: true; the input reads as it did. -/
def fnExactCompareDyadicsSpec : ChangeSpec := { name := "fnExactCompareDyadics", fn := fun _ => fun
  | [d1, d2] => { results := [.lit (.bool true)], args := [d1, d2] }
  | _ => none }
def fnExactCompareDyadicsRow : OpenClaim := { program := "ytdboepiobaehkaa", sum := "1b5f8bcf7bd435de92d0f2c6d544f56d04d1f12321f378be621d8abd8234af83", func := "loop.example/g01172/laws.FnExactCompareDyadics", spec := "fnExactCompareDyadics", apart := false }
def FnExactCompareDyadicsSaid : Prop := fnExactCompareDyadicsRow.holds Try.pinned (OpenSpec.ofChange fnExactCompareDyadicsSpec)

/-- ITS FALSE NEIGHBOUR: 'it returns false'. Refute it at one input. -/
def fnExactCompareDyadicsWrong : ChangeSpec := { name := "fnExactCompareDyadics", fn := fun _ => fun
  | [d1, d2] => { results := [.lit (.bool false)], args := [d1, d2] }
  | _ => none }
def FnExactCompareDyadicsWrongFalsely : Prop := fnExactCompareDyadicsRow.holds Try.pinned (OpenSpec.ofChange fnExactCompareDyadicsWrong)

/-- 'laws.FnExactScaleDyadic': WHATEVER THE INPUT: true; the input reads as it did. -/
def fnExactScaleDyadicSpec : ChangeSpec := { name := "fnExactScaleDyadic", fn := fun _ => fun
  | [d1, d2] => { results := [.lit (.bool true)], args := [d1, d2] }
  | _ => none }
def fnExactScaleDyadicRow : OpenClaim := { program := "ytdboepiobaehkaa", sum := "1b5f8bcf7bd435de92d0f2c6d544f56d04d1f12321f378be621d8abd8234af83", func := "loop.example/g01172/laws.FnExactScaleDyadic", spec := "fnExactScaleDyadic", apart := false }
def FnExactScaleDyadicSaid : Prop := fnExactScaleDyadicRow.holds Try.pinned (OpenSpec.ofChange fnExactScaleDyadicSpec)

/-- ITS FALSE NEIGHBOUR: 'it returns false'. Refute it at one input. -/
def fnExactScaleDyadicWrong : ChangeSpec := { name := "fnExactScaleDyadic", fn := fun _ => fun
  | [d1, d2] => { results := [.lit (.bool false)], args := [d1, d2] }
  | _ => none }
def FnExactScaleDyadicWrongFalsely : Prop := fnExactScaleDyadicRow.holds Try.pinned (OpenSpec.ofChange fnExactScaleDyadicWrong)

/-- 'laws.FnExactMultiplyDyadics': WHATEVER THE INPUT: true; the input reads as it did. -/
def fnExactMultiplyDyadicsSpec : ChangeSpec := { name := "fnExactMultiplyDyadics", fn := fun _ => fun
  | [d1, d2] => { results := [.lit (.bool true)], args := [d1, d2] }
  | _ => none }
def fnExactMultiplyDyadicsRow : OpenClaim := { program := "ytdboepiobaehkaa", sum := "1b5f8bcf7bd435de92d0f2c6d544f56d04d1f12321f378be621d8abd8234af83", func := "loop.example/g01172/laws.FnExactMultiplyDyadics", spec := "fnExactMultiplyDyadics", apart := false }
def FnExactMultiplyDyadicsSaid : Prop := fnExactMultiplyDyadicsRow.holds Try.pinned (OpenSpec.ofChange fnExactMultiplyDyadicsSpec)

/-- ITS FALSE NEIGHBOUR: 'it returns false'. Refute it at one input. -/
def fnExactMultiplyDyadicsWrong : ChangeSpec := { name := "fnExactMultiplyDyadics", fn := fun _ => fun
  | [d1, d2] => { results := [.lit (.bool false)], args := [d1, d2] }
  | _ => none }
def FnExactMultiplyDyadicsWrongFalsely : Prop := fnExactMultiplyDyadicsRow.holds Try.pinned (OpenSpec.ofChange fnExactMultiplyDyadicsWrong)

/-- 'laws.FnExactFloorDyadic': WHATEVER THE INPUT: true; the input reads as it did. -/
def fnExactFloorDyadicSpec : ChangeSpec := { name := "fnExactFloorDyadic", fn := fun _ => fun
  | [d1, d2] => { results := [.lit (.bool true)], args := [d1, d2] }
  | _ => none }
def fnExactFloorDyadicRow : OpenClaim := { program := "ytdboepiobaehkaa", sum := "1b5f8bcf7bd435de92d0f2c6d544f56d04d1f12321f378be621d8abd8234af83", func := "loop.example/g01172/laws.FnExactFloorDyadic", spec := "fnExactFloorDyadic", apart := false }
def FnExactFloorDyadicSaid : Prop := fnExactFloorDyadicRow.holds Try.pinned (OpenSpec.ofChange fnExactFloorDyadicSpec)

/-- ITS FALSE NEIGHBOUR: 'it returns false'. Refute it at one input. -/
def fnExactFloorDyadicWrong : ChangeSpec := { name := "fnExactFloorDyadic", fn := fun _ => fun
  | [d1, d2] => { results := [.lit (.bool false)], args := [d1, d2] }
  | _ => none }
def FnExactFloorDyadicWrongFalsely : Prop := fnExactFloorDyadicRow.holds Try.pinned (OpenSpec.ofChange fnExactFloorDyadicWrong)

/-- 'laws.FnExactCeilDyadic': WHATEVER THE INPUT: true; the input reads as it did. -/
def fnExactCeilDyadicSpec : ChangeSpec := { name := "fnExactCeilDyadic", fn := fun _ => fun
  | [d1, d2] => { results := [.lit (.bool true)], args := [d1, d2] }
  | _ => none }
def fnExactCeilDyadicRow : OpenClaim := { program := "ytdboepiobaehkaa", sum := "1b5f8bcf7bd435de92d0f2c6d544f56d04d1f12321f378be621d8abd8234af83", func := "loop.example/g01172/laws.FnExactCeilDyadic", spec := "fnExactCeilDyadic", apart := false }
def FnExactCeilDyadicSaid : Prop := fnExactCeilDyadicRow.holds Try.pinned (OpenSpec.ofChange fnExactCeilDyadicSpec)

/-- ITS FALSE NEIGHBOUR: 'it returns false'. Refute it at one input. -/
def fnExactCeilDyadicWrong : ChangeSpec := { name := "fnExactCeilDyadic", fn := fun _ => fun
  | [d1, d2] => { results := [.lit (.bool false)], args := [d1, d2] }
  | _ => none }
def FnExactCeilDyadicWrongFalsely : Prop := fnExactCeilDyadicRow.holds Try.pinned (OpenSpec.ofChange fnExactCeilDyadicWrong)

/-- 'laws.FnExactAddDyadics': WHATEVER THE INPUT: true; the input reads as it did. -/
def fnExactAddDyadicsSpec : ChangeSpec := { name := "fnExactAddDyadics", fn := fun _ => fun
  | [d1, d2] => { results := [.lit (.bool true)], args := [d1, d2] }
  | _ => none }
def fnExactAddDyadicsRow : OpenClaim := { program := "ytdboepiobaehkaa", sum := "1b5f8bcf7bd435de92d0f2c6d544f56d04d1f12321f378be621d8abd8234af83", func := "loop.example/g01172/laws.FnExactAddDyadics", spec := "fnExactAddDyadics", apart := false }
def FnExactAddDyadicsSaid : Prop := fnExactAddDyadicsRow.holds Try.pinned (OpenSpec.ofChange fnExactAddDyadicsSpec)

/-- ITS FALSE NEIGHBOUR: 'it returns false'. Refute it at one input. -/
def fnExactAddDyadicsWrong : ChangeSpec := { name := "fnExactAddDyadics", fn := fun _ => fun
  | [d1, d2] => { results := [.lit (.bool false)], args := [d1, d2] }
  | _ => none }
def FnExactAddDyadicsWrongFalsely : Prop := fnExactAddDyadicsRow.holds Try.pinned (OpenSpec.ofChange fnExactAddDyadicsWrong)

/-- 'laws.FnExactSubtractDyadics': WHATEVER THE INPUT: true; the input reads as it did. -/
def fnExactSubtractDyadicsSpec : ChangeSpec := { name := "fnExactSubtractDyadics", fn := fun _ => fun
  | [d1, d2] => { results := [.lit (.bool true)], args := [d1, d2] }
  | _ => none }
def fnExactSubtractDyadicsRow : OpenClaim := { program := "ytdboepiobaehkaa", sum := "1b5f8bcf7bd435de92d0f2c6d544f56d04d1f12321f378be621d8abd8234af83", func := "loop.example/g01172/laws.FnExactSubtractDyadics", spec := "fnExactSubtractDyadics", apart := false }
def FnExactSubtractDyadicsSaid : Prop := fnExactSubtractDyadicsRow.holds Try.pinned (OpenSpec.ofChange fnExactSubtractDyadicsSpec)

/-- ITS FALSE NEIGHBOUR: 'it returns false'. Refute it at one input. -/
def fnExactSubtractDyadicsWrong : ChangeSpec := { name := "fnExactSubtractDyadics", fn := fun _ => fun
  | [d1, d2] => { results := [.lit (.bool false)], args := [d1, d2] }
  | _ => none }
def FnExactSubtractDyadicsWrongFalsely : Prop := fnExactSubtractDyadicsRow.holds Try.pinned (OpenSpec.ofChange fnExactSubtractDyadicsWrong)

/-- 'laws.FnExactNarrowIn': WHATEVER THE INPUT: true; the input reads as it did. -/
def fnExactNarrowInSpec : ChangeSpec := { name := "fnExactNarrowIn", fn := fun _ => fun
  | [d1, d2] => { results := [.lit (.bool true)], args := [d1, d2] }
  | _ => none }
def fnExactNarrowInRow : OpenClaim := { program := "ytdboepiobaehkaa", sum := "1b5f8bcf7bd435de92d0f2c6d544f56d04d1f12321f378be621d8abd8234af83", func := "loop.example/g01172/laws.FnExactNarrowIn", spec := "fnExactNarrowIn", inPlace := ["math.Float64bits", "math.Float64frombits", "math.Float32frombits"], unfollowed := true, recurses := true, apart := false }
def FnExactNarrowInSaid : Prop := fnExactNarrowInRow.holds Try.pinned (OpenSpec.ofChange fnExactNarrowInSpec)

/-- ITS FALSE NEIGHBOUR: 'it returns false'. Refute it at one input. -/
def fnExactNarrowInWrong : ChangeSpec := { name := "fnExactNarrowIn", fn := fun _ => fun
  | [d1, d2] => { results := [.lit (.bool false)], args := [d1, d2] }
  | _ => none }
def FnExactNarrowInWrongFalsely : Prop := fnExactNarrowInRow.holds Try.pinned (OpenSpec.ofChange fnExactNarrowInWrong)

/-- 'laws.FnExactIsExactSum': WHATEVER THE INPUT: true; the input reads as it did. -/
def fnExactIsExactSumSpec : ChangeSpec := { name := "fnExactIsExactSum", fn := fun _ => fun
  | [d1, d2] => { results := [.lit (.bool true)], args := [d1, d2] }
  | _ => none }
def fnExactIsExactSumRow : OpenClaim := { program := "ytdboepiobaehkaa", sum := "1b5f8bcf7bd435de92d0f2c6d544f56d04d1f12321f378be621d8abd8234af83", func := "loop.example/g01172/laws.FnExactIsExactSum", spec := "fnExactIsExactSum", inPlace := ["math.Float32bits", "math.Float32frombits", "math.Float64frombits", "math.Float64bits"], unfollowed := true, recurses := true, apart := false }
def FnExactIsExactSumSaid : Prop := fnExactIsExactSumRow.holds Try.pinned (OpenSpec.ofChange fnExactIsExactSumSpec)

/-- ITS FALSE NEIGHBOUR: 'it returns false'. Refute it at one input. -/
def fnExactIsExactSumWrong : ChangeSpec := { name := "fnExactIsExactSum", fn := fun _ => fun
  | [d1, d2] => { results := [.lit (.bool false)], args := [d1, d2] }
  | _ => none }
def FnExactIsExactSumWrongFalsely : Prop := fnExactIsExactSumRow.holds Try.pinned (OpenSpec.ofChange fnExactIsExactSumWrong)

/-- 'laws.FnExactEnclosingFloats': WHATEVER THE INPUT: true; the input reads as it did. -/
def fnExactEnclosingFloatsSpec : ChangeSpec := { name := "fnExactEnclosingFloats", fn := fun _ => fun
  | [d] => { results := [.lit (.bool true)], args := [d] }
  | _ => none }
def fnExactEnclosingFloatsRow : OpenClaim := { program := "ytdboepiobaehkaa", sum := "1b5f8bcf7bd435de92d0f2c6d544f56d04d1f12321f378be621d8abd8234af83", func := "loop.example/g01172/laws.FnExactEnclosingFloats", spec := "fnExactEnclosingFloats", inPlace := ["math.Float32frombits", "math.Float64frombits", "math.Float64bits"], unfollowed := true, recurses := true, apart := false }
def FnExactEnclosingFloatsSaid : Prop := fnExactEnclosingFloatsRow.holds Try.pinned (OpenSpec.ofChange fnExactEnclosingFloatsSpec)

/-- ITS FALSE NEIGHBOUR: 'it returns false'. Refute it at one input. -/
def fnExactEnclosingFloatsWrong : ChangeSpec := { name := "fnExactEnclosingFloats", fn := fun _ => fun
  | [d] => { results := [.lit (.bool false)], args := [d] }
  | _ => none }
def FnExactEnclosingFloatsWrongFalsely : Prop := fnExactEnclosingFloatsRow.holds Try.pinned (OpenSpec.ofChange fnExactEnclosingFloatsWrong)

/-- 'laws.FnExactAddIn': WHATEVER THE INPUT: true; the input reads as it did. -/
def fnExactAddInSpec : ChangeSpec := { name := "fnExactAddIn", fn := fun _ => fun
  | [d1, d2, d3] => { results := [.lit (.bool true)], args := [d1, d2, d3] }
  | _ => none }
def fnExactAddInRow : OpenClaim := { program := "ytdboepiobaehkaa", sum := "1b5f8bcf7bd435de92d0f2c6d544f56d04d1f12321f378be621d8abd8234af83", func := "loop.example/g01172/laws.FnExactAddIn", spec := "fnExactAddIn", inPlace := ["math.Float32bits", "math.Float32frombits", "math.Float64frombits", "math.Float64bits"], unfollowed := true, recurses := true, apart := false }
def FnExactAddInSaid : Prop := fnExactAddInRow.holds Try.pinned (OpenSpec.ofChange fnExactAddInSpec)

/-- ITS FALSE NEIGHBOUR: 'it returns false'. Refute it at one input. -/
def fnExactAddInWrong : ChangeSpec := { name := "fnExactAddIn", fn := fun _ => fun
  | [d1, d2, d3] => { results := [.lit (.bool false)], args := [d1, d2, d3] }
  | _ => none }
def FnExactAddInWrongFalsely : Prop := fnExactAddInRow.holds Try.pinned (OpenSpec.ofChange fnExactAddInWrong)

/-- 'laws.FnExactSubtractIn': WHATEVER THE INPUT: true; the input reads as it did. -/
def fnExactSubtractInSpec : ChangeSpec := { name := "fnExactSubtractIn", fn := fun _ => fun
  | [d1, d2, d3] => { results := [.lit (.bool true)], args := [d1, d2, d3] }
  | _ => none }
def fnExactSubtractInRow : OpenClaim := { program := "ytdboepiobaehkaa", sum := "1b5f8bcf7bd435de92d0f2c6d544f56d04d1f12321f378be621d8abd8234af83", func := "loop.example/g01172/laws.FnExactSubtractIn", spec := "fnExactSubtractIn", inPlace := ["math.Float32bits", "math.Float32frombits", "math.Float64frombits", "math.Float64bits"], unfollowed := true, recurses := true, apart := false }
def FnExactSubtractInSaid : Prop := fnExactSubtractInRow.holds Try.pinned (OpenSpec.ofChange fnExactSubtractInSpec)

/-- ITS FALSE NEIGHBOUR: 'it returns false'. Refute it at one input. -/
def fnExactSubtractInWrong : ChangeSpec := { name := "fnExactSubtractIn", fn := fun _ => fun
  | [d1, d2, d3] => { results := [.lit (.bool false)], args := [d1, d2, d3] }
  | _ => none }
def FnExactSubtractInWrongFalsely : Prop := fnExactSubtractInRow.holds Try.pinned (OpenSpec.ofChange fnExactSubtractInWrong)

/-- 'laws.FnExactMultiplyIn': WHATEVER THE INPUT: true; the input reads as it did. -/
def fnExactMultiplyInSpec : ChangeSpec := { name := "fnExactMultiplyIn", fn := fun _ => fun
  | [d1, d2, d3] => { results := [.lit (.bool true)], args := [d1, d2, d3] }
  | _ => none }
def fnExactMultiplyInRow : OpenClaim := { program := "ytdboepiobaehkaa", sum := "1b5f8bcf7bd435de92d0f2c6d544f56d04d1f12321f378be621d8abd8234af83", func := "loop.example/g01172/laws.FnExactMultiplyIn", spec := "fnExactMultiplyIn", inPlace := ["math.Float32bits", "math.Float32frombits", "math.Float64frombits", "math.Float64bits"], unfollowed := true, recurses := true, apart := false }
def FnExactMultiplyInSaid : Prop := fnExactMultiplyInRow.holds Try.pinned (OpenSpec.ofChange fnExactMultiplyInSpec)

/-- ITS FALSE NEIGHBOUR: 'it returns false'. Refute it at one input. -/
def fnExactMultiplyInWrong : ChangeSpec := { name := "fnExactMultiplyIn", fn := fun _ => fun
  | [d1, d2, d3] => { results := [.lit (.bool false)], args := [d1, d2, d3] }
  | _ => none }
def FnExactMultiplyInWrongFalsely : Prop := fnExactMultiplyInRow.holds Try.pinned (OpenSpec.ofChange fnExactMultiplyInWrong)

/-- 'laws.FnExactQuotientBelow': WHATEVER THE INPUT: true; the input reads as it did. -/
def fnExactQuotientBelowSpec : ChangeSpec := { name := "fnExactQuotientBelow", fn := fun _ => fun
  | [d1, d2, d3] => { results := [.lit (.bool true)], args := [d1, d2, d3] }
  | _ => none }
def fnExactQuotientBelowRow : OpenClaim := { program := "ytdboepiobaehkaa", sum := "1b5f8bcf7bd435de92d0f2c6d544f56d04d1f12321f378be621d8abd8234af83", func := "loop.example/g01172/laws.FnExactQuotientBelow", spec := "fnExactQuotientBelow", apart := false }
def FnExactQuotientBelowSaid : Prop := fnExactQuotientBelowRow.holds Try.pinned (OpenSpec.ofChange fnExactQuotientBelowSpec)

/-- ITS FALSE NEIGHBOUR: 'it returns false'. Refute it at one input. -/
def fnExactQuotientBelowWrong : ChangeSpec := { name := "fnExactQuotientBelow", fn := fun _ => fun
  | [d1, d2, d3] => { results := [.lit (.bool false)], args := [d1, d2, d3] }
  | _ => none }
def FnExactQuotientBelowWrongFalsely : Prop := fnExactQuotientBelowRow.holds Try.pinned (OpenSpec.ofChange fnExactQuotientBelowWrong)

/-- 'laws.FnExactRoundDyadic': WHATEVER THE INPUT: true; the input reads as it did. -/
def fnExactRoundDyadicSpec : ChangeSpec := { name := "fnExactRoundDyadic", fn := fun _ => fun
  | [d1, d2] => { results := [.lit (.bool true)], args := [d1, d2] }
  | _ => none }
def fnExactRoundDyadicRow : OpenClaim := { program := "ytdboepiobaehkaa", sum := "1b5f8bcf7bd435de92d0f2c6d544f56d04d1f12321f378be621d8abd8234af83", func := "loop.example/g01172/laws.FnExactRoundDyadic", spec := "fnExactRoundDyadic", inPlace := ["math.Float32frombits", "math.Float64frombits", "math.Float64bits"], unfollowed := true, recurses := true, apart := false }
def FnExactRoundDyadicSaid : Prop := fnExactRoundDyadicRow.holds Try.pinned (OpenSpec.ofChange fnExactRoundDyadicSpec)

/-- ITS FALSE NEIGHBOUR: 'it returns false'. Refute it at one input. -/
def fnExactRoundDyadicWrong : ChangeSpec := { name := "fnExactRoundDyadic", fn := fun _ => fun
  | [d1, d2] => { results := [.lit (.bool false)], args := [d1, d2] }
  | _ => none }
def FnExactRoundDyadicWrongFalsely : Prop := fnExactRoundDyadicRow.holds Try.pinned (OpenSpec.ofChange fnExactRoundDyadicWrong)

/-- 'laws.FnExactRootBelow': WHATEVER THE INPUT: true; the input reads as it did. -/
def fnExactRootBelowSpec : ChangeSpec := { name := "fnExactRootBelow", fn := fun _ => fun
  | [d1, d2] => { results := [.lit (.bool true)], args := [d1, d2] }
  | _ => none }
def fnExactRootBelowRow : OpenClaim := { program := "ytdboepiobaehkaa", sum := "1b5f8bcf7bd435de92d0f2c6d544f56d04d1f12321f378be621d8abd8234af83", func := "loop.example/g01172/laws.FnExactRootBelow", spec := "fnExactRootBelow", apart := false }
def FnExactRootBelowSaid : Prop := fnExactRootBelowRow.holds Try.pinned (OpenSpec.ofChange fnExactRootBelowSpec)

/-- ITS FALSE NEIGHBOUR: 'it returns false'. Refute it at one input. -/
def fnExactRootBelowWrong : ChangeSpec := { name := "fnExactRootBelow", fn := fun _ => fun
  | [d1, d2] => { results := [.lit (.bool false)], args := [d1, d2] }
  | _ => none }
def FnExactRootBelowWrongFalsely : Prop := fnExactRootBelowRow.holds Try.pinned (OpenSpec.ofChange fnExactRootBelowWrong)

/- THE SECOND FORM. 'bulk': how many values and letters a reading holds, each counted each time it is reached (what is shared counts as often as it is met; a slice's spare places count too). A statement '..UptoSaid' is the law's where the arguments, and the package variables that the reading takes, are together of bulk at most 1048576: NARROWER than '..Said'. Prove '..Said' where nothing that the law and all that it calls make is longer than what came in: it says more and counts as full. Else prove '..UptoSaid'. A law counts once. -/
mutual
def uptoBulk {H : Type} : DataW H → Nat
  | .lit (.string bytes) => bytes.length + 1
  | .lit _ => 1
  | .nil => 1
  | .ptr d => uptoBulk d + 1
  | .slice elems spare => uptoBulkAll elems + uptoBulkAll spare + 1
  | .agg parts => uptoBulkAll parts + 1
  | .iface _ d => uptoBulk d + 1
  | .map entries => uptoBulkEntries entries + 1
  | .held _ => 1
def uptoBulkAll {H : Type} : List (DataW H) → Nat
  | [] => 0
  | d :: r => uptoBulk d + uptoBulkAll r
def uptoBulkEntries {H : Type} : List (Lit × DataW H) → Nat
  | [] => 0
  | x :: r => uptoBulkEntry x + uptoBulkEntries r
def uptoBulkEntry {H : Type} : Lit × DataW H → Nat
  | (.string bytes, d) => bytes.length + uptoBulk d + 1
  | (_, d) => uptoBulk d + 1
 end
def uptoSmall : (H : Type) → List (DataW H) → Bool := fun _ ds => decide (uptoBulkAll ds ≤ 1048576)
def OpenSpec.upto (s : _root_.Go.ChangeSpec) : _root_.Go.OpenSpec := { _root_.Go.OpenSpec.ofChange s with cond := some uptoSmall }

/-- 'laws.FnExactIsDyadic', WHERE WHAT IT READS IS OF BULK AT MOST 1048576: true; the input reads as it did. -/
def fnExactIsDyadicUptoRow : OpenClaim := { program := "ytdboepiobaehkaa", sum := "1b5f8bcf7bd435de92d0f2c6d544f56d04d1f12321f378be621d8abd8234af83", func := "loop.example/g01172/laws.FnExactIsDyadic", spec := "fnExactIsDyadic", apart := false, narrowed := true }
def FnExactIsDyadicUptoSaid : Prop := fnExactIsDyadicUptoRow.holds Try.pinned (OpenSpec.upto fnExactIsDyadicSpec)

/-- 'laws.FnExactDyadicOf', WHERE WHAT IT READS IS OF BULK AT MOST 1048576: true; the input reads as it did. -/
def fnExactDyadicOfUptoRow : OpenClaim := { program := "ytdboepiobaehkaa", sum := "1b5f8bcf7bd435de92d0f2c6d544f56d04d1f12321f378be621d8abd8234af83", func := "loop.example/g01172/laws.FnExactDyadicOf", spec := "fnExactDyadicOf", inPlace := ["math.Float32bits"], apart := false, narrowed := true }
def FnExactDyadicOfUptoSaid : Prop := fnExactDyadicOfUptoRow.holds Try.pinned (OpenSpec.upto fnExactDyadicOfSpec)

/-- 'laws.FnExactMakeDyadic', WHERE WHAT IT READS IS OF BULK AT MOST 1048576: true; the input reads as it did. -/
def fnExactMakeDyadicUptoRow : OpenClaim := { program := "ytdboepiobaehkaa", sum := "1b5f8bcf7bd435de92d0f2c6d544f56d04d1f12321f378be621d8abd8234af83", func := "loop.example/g01172/laws.FnExactMakeDyadic", spec := "fnExactMakeDyadic", apart := false, narrowed := true }
def FnExactMakeDyadicUptoSaid : Prop := fnExactMakeDyadicUptoRow.holds Try.pinned (OpenSpec.upto fnExactMakeDyadicSpec)

/-- 'laws.FnExactCompareDyadics', WHERE WHAT IT READS IS OF BULK AT MOST 1048576: true; the input reads as it did. -/
def fnExactCompareDyadicsUptoRow : OpenClaim := { program := "ytdboepiobaehkaa", sum := "1b5f8bcf7bd435de92d0f2c6d544f56d04d1f12321f378be621d8abd8234af83", func := "loop.example/g01172/laws.FnExactCompareDyadics", spec := "fnExactCompareDyadics", apart := false, narrowed := true }
def FnExactCompareDyadicsUptoSaid : Prop := fnExactCompareDyadicsUptoRow.holds Try.pinned (OpenSpec.upto fnExactCompareDyadicsSpec)

/-- 'laws.FnExactScaleDyadic', WHERE WHAT IT READS IS OF BULK AT MOST 1048576: true; the input reads as it did. -/
def fnExactScaleDyadicUptoRow : OpenClaim := { program := "ytdboepiobaehkaa", sum := "1b5f8bcf7bd435de92d0f2c6d544f56d04d1f12321f378be621d8abd8234af83", func := "loop.example/g01172/laws.FnExactScaleDyadic", spec := "fnExactScaleDyadic", apart := false, narrowed := true }
def FnExactScaleDyadicUptoSaid : Prop := fnExactScaleDyadicUptoRow.holds Try.pinned (OpenSpec.upto fnExactScaleDyadicSpec)

/-- 'laws.FnExactMultiplyDyadics', WHERE WHAT IT READS IS OF BULK AT MOST 1048576: true; the input reads as it did. -/
def fnExactMultiplyDyadicsUptoRow : OpenClaim := { program := "ytdboepiobaehkaa", sum := "1b5f8bcf7bd435de92d0f2c6d544f56d04d1f12321f378be621d8abd8234af83", func := "loop.example/g01172/laws.FnExactMultiplyDyadics", spec := "fnExactMultiplyDyadics", apart := false, narrowed := true }
def FnExactMultiplyDyadicsUptoSaid : Prop := fnExactMultiplyDyadicsUptoRow.holds Try.pinned (OpenSpec.upto fnExactMultiplyDyadicsSpec)

/-- 'laws.FnExactFloorDyadic', WHERE WHAT IT READS IS OF BULK AT MOST 1048576: true; the input reads as it did. -/
def fnExactFloorDyadicUptoRow : OpenClaim := { program := "ytdboepiobaehkaa", sum := "1b5f8bcf7bd435de92d0f2c6d544f56d04d1f12321f378be621d8abd8234af83", func := "loop.example/g01172/laws.FnExactFloorDyadic", spec := "fnExactFloorDyadic", apart := false, narrowed := true }
def FnExactFloorDyadicUptoSaid : Prop := fnExactFloorDyadicUptoRow.holds Try.pinned (OpenSpec.upto fnExactFloorDyadicSpec)

/-- 'laws.FnExactCeilDyadic', WHERE WHAT IT READS IS OF BULK AT MOST 1048576: true; the input reads as it did. -/
def fnExactCeilDyadicUptoRow : OpenClaim := { program := "ytdboepiobaehkaa", sum := "1b5f8bcf7bd435de92d0f2c6d544f56d04d1f12321f378be621d8abd8234af83", func := "loop.example/g01172/laws.FnExactCeilDyadic", spec := "fnExactCeilDyadic", apart := false, narrowed := true }
def FnExactCeilDyadicUptoSaid : Prop := fnExactCeilDyadicUptoRow.holds Try.pinned (OpenSpec.upto fnExactCeilDyadicSpec)

/-- 'laws.FnExactAddDyadics', WHERE WHAT IT READS IS OF BULK AT MOST 1048576: true; the input reads as it did. -/
def fnExactAddDyadicsUptoRow : OpenClaim := { program := "ytdboepiobaehkaa", sum := "1b5f8bcf7bd435de92d0f2c6d544f56d04d1f12321f378be621d8abd8234af83", func := "loop.example/g01172/laws.FnExactAddDyadics", spec := "fnExactAddDyadics", apart := false, narrowed := true }
def FnExactAddDyadicsUptoSaid : Prop := fnExactAddDyadicsUptoRow.holds Try.pinned (OpenSpec.upto fnExactAddDyadicsSpec)

/-- 'laws.FnExactSubtractDyadics', WHERE WHAT IT READS IS OF BULK AT MOST 1048576: true; the input reads as it did. -/
def fnExactSubtractDyadicsUptoRow : OpenClaim := { program := "ytdboepiobaehkaa", sum := "1b5f8bcf7bd435de92d0f2c6d544f56d04d1f12321f378be621d8abd8234af83", func := "loop.example/g01172/laws.FnExactSubtractDyadics", spec := "fnExactSubtractDyadics", apart := false, narrowed := true }
def FnExactSubtractDyadicsUptoSaid : Prop := fnExactSubtractDyadicsUptoRow.holds Try.pinned (OpenSpec.upto fnExactSubtractDyadicsSpec)

/-- 'laws.FnExactNarrowIn', WHERE WHAT IT READS IS OF BULK AT MOST 1048576: true; the input reads as it did. -/
def fnExactNarrowInUptoRow : OpenClaim := { program := "ytdboepiobaehkaa", sum := "1b5f8bcf7bd435de92d0f2c6d544f56d04d1f12321f378be621d8abd8234af83", func := "loop.example/g01172/laws.FnExactNarrowIn", spec := "fnExactNarrowIn", inPlace := ["math.Float64bits", "math.Float64frombits", "math.Float32frombits"], unfollowed := true, recurses := true, apart := false, narrowed := true }
def FnExactNarrowInUptoSaid : Prop := fnExactNarrowInUptoRow.holds Try.pinned (OpenSpec.upto fnExactNarrowInSpec)

/-- 'laws.FnExactIsExactSum', WHERE WHAT IT READS IS OF BULK AT MOST 1048576: true; the input reads as it did. -/
def fnExactIsExactSumUptoRow : OpenClaim := { program := "ytdboepiobaehkaa", sum := "1b5f8bcf7bd435de92d0f2c6d544f56d04d1f12321f378be621d8abd8234af83", func := "loop.example/g01172/laws.FnExactIsExactSum", spec := "fnExactIsExactSum", inPlace := ["math.Float32bits", "math.Float32frombits", "math.Float64frombits", "math.Float64bits"], unfollowed := true, recurses := true, apart := false, narrowed := true }
def FnExactIsExactSumUptoSaid : Prop := fnExactIsExactSumUptoRow.holds Try.pinned (OpenSpec.upto fnExactIsExactSumSpec)

/-- 'laws.FnExactEnclosingFloats', WHERE WHAT IT READS IS OF BULK AT MOST 1048576: true; the input reads as it did. -/
def fnExactEnclosingFloatsUptoRow : OpenClaim := { program := "ytdboepiobaehkaa", sum := "1b5f8bcf7bd435de92d0f2c6d544f56d04d1f12321f378be621d8abd8234af83", func := "loop.example/g01172/laws.FnExactEnclosingFloats", spec := "fnExactEnclosingFloats", inPlace := ["math.Float32frombits", "math.Float64frombits", "math.Float64bits"], unfollowed := true, recurses := true, apart := false, narrowed := true }
def FnExactEnclosingFloatsUptoSaid : Prop := fnExactEnclosingFloatsUptoRow.holds Try.pinned (OpenSpec.upto fnExactEnclosingFloatsSpec)

/-- 'laws.FnExactAddIn', WHERE WHAT IT READS IS OF BULK AT MOST 1048576: true; the input reads as it did. -/
def fnExactAddInUptoRow : OpenClaim := { program := "ytdboepiobaehkaa", sum := "1b5f8bcf7bd435de92d0f2c6d544f56d04d1f12321f378be621d8abd8234af83", func := "loop.example/g01172/laws.FnExactAddIn", spec := "fnExactAddIn", inPlace := ["math.Float32bits", "math.Float32frombits", "math.Float64frombits", "math.Float64bits"], unfollowed := true, recurses := true, apart := false, narrowed := true }
def FnExactAddInUptoSaid : Prop := fnExactAddInUptoRow.holds Try.pinned (OpenSpec.upto fnExactAddInSpec)

/-- 'laws.FnExactSubtractIn', WHERE WHAT IT READS IS OF BULK AT MOST 1048576: true; the input reads as it did. -/
def fnExactSubtractInUptoRow : OpenClaim := { program := "ytdboepiobaehkaa", sum := "1b5f8bcf7bd435de92d0f2c6d544f56d04d1f12321f378be621d8abd8234af83", func := "loop.example/g01172/laws.FnExactSubtractIn", spec := "fnExactSubtractIn", inPlace := ["math.Float32bits", "math.Float32frombits", "math.Float64frombits", "math.Float64bits"], unfollowed := true, recurses := true, apart := false, narrowed := true }
def FnExactSubtractInUptoSaid : Prop := fnExactSubtractInUptoRow.holds Try.pinned (OpenSpec.upto fnExactSubtractInSpec)

/-- 'laws.FnExactMultiplyIn', WHERE WHAT IT READS IS OF BULK AT MOST 1048576: true; the input reads as it did. -/
def fnExactMultiplyInUptoRow : OpenClaim := { program := "ytdboepiobaehkaa", sum := "1b5f8bcf7bd435de92d0f2c6d544f56d04d1f12321f378be621d8abd8234af83", func := "loop.example/g01172/laws.FnExactMultiplyIn", spec := "fnExactMultiplyIn", inPlace := ["math.Float32bits", "math.Float32frombits", "math.Float64frombits", "math.Float64bits"], unfollowed := true, recurses := true, apart := false, narrowed := true }
def FnExactMultiplyInUptoSaid : Prop := fnExactMultiplyInUptoRow.holds Try.pinned (OpenSpec.upto fnExactMultiplyInSpec)

/-- 'laws.FnExactQuotientBelow', WHERE WHAT IT READS IS OF BULK AT MOST 1048576: true; the input reads as it did. -/
def fnExactQuotientBelowUptoRow : OpenClaim := { program := "ytdboepiobaehkaa", sum := "1b5f8bcf7bd435de92d0f2c6d544f56d04d1f12321f378be621d8abd8234af83", func := "loop.example/g01172/laws.FnExactQuotientBelow", spec := "fnExactQuotientBelow", apart := false, narrowed := true }
def FnExactQuotientBelowUptoSaid : Prop := fnExactQuotientBelowUptoRow.holds Try.pinned (OpenSpec.upto fnExactQuotientBelowSpec)

/-- 'laws.FnExactRoundDyadic', WHERE WHAT IT READS IS OF BULK AT MOST 1048576: true; the input reads as it did. -/
def fnExactRoundDyadicUptoRow : OpenClaim := { program := "ytdboepiobaehkaa", sum := "1b5f8bcf7bd435de92d0f2c6d544f56d04d1f12321f378be621d8abd8234af83", func := "loop.example/g01172/laws.FnExactRoundDyadic", spec := "fnExactRoundDyadic", inPlace := ["math.Float32frombits", "math.Float64frombits", "math.Float64bits"], unfollowed := true, recurses := true, apart := false, narrowed := true }
def FnExactRoundDyadicUptoSaid : Prop := fnExactRoundDyadicUptoRow.holds Try.pinned (OpenSpec.upto fnExactRoundDyadicSpec)

/-- 'laws.FnExactRootBelow', WHERE WHAT IT READS IS OF BULK AT MOST 1048576: true; the input reads as it did. -/
def fnExactRootBelowUptoRow : OpenClaim := { program := "ytdboepiobaehkaa", sum := "1b5f8bcf7bd435de92d0f2c6d544f56d04d1f12321f378be621d8abd8234af83", func := "loop.example/g01172/laws.FnExactRootBelow", spec := "fnExactRootBelow", apart := false, narrowed := true }
def FnExactRootBelowUptoSaid : Prop := fnExactRootBelowUptoRow.holds Try.pinned (OpenSpec.upto fnExactRootBelowSpec)

end Rows
end Go.Proofs.Ytdboepiobaehkaa
