/-
  No cell of these rows narrows 'for every input' (looked for: loops, veiled, ifaces, maps, wideKeys, modest, calm, conditions, laid).
  DERIVED. THE GIVEN ROWS OF THIS SEAT. 7 by the template 'for every input the law returns true; each argument reads behind the call as it read before'; 0 by the template 'total and deterministic' (their statements: YtgkdioklafndjaaTotals.lean).
  GIVEN WITH THE SEED: the statements are not yours to turn. If you find one false, say at which input.
  Laid BY PROGRAM, IN A SANDBOX (cutbox-rows.mjs): the forced cells as the released guide's own fill.sh prints them over the translation abc90fad6a20399d… (all of the seat's roots in one cut). By AI agents, Wed Nov 11 2026. No macro, syntax, notation, axiom, sorry.
-/
import Derived.Test.YtgkdioklafndjaaChecked
import GoSem.Claim
import GoSem.ClaimJoined
import GoSem.ClaimMapViews
import Derived.JoinedTies
import Derived.KernelRfl
namespace Go.Proofs.Ytgkdioklafndjaa
/- THE CELL 'sum', in the pinned program and in every row, IS THE sha256 OF THE DUMP (.gsa) THAT YtgkdioklafndjaaProg.lean LOADS. Nothing in Lean hashes anything: it is a label: what it is worth is what the hold of that sum in a sandbox is worth. -/
noncomputable def Try.pinned : Pinned := { name := "ytgkdioklafndjaa", sum := "abc90fad6a20399de3ab9b7911a384bca0effa4de01571d89289f7a7e64c037f", checked := Try.checked }
namespace Rows
def none {H : Type} : Left H := { results := [], args := [] }

/-- 'laws.FnExactBitsOf': WHATEVER THE INPUT: true; the input reads as it did. -/
def fnExactBitsOfSpec : ChangeSpec := { name := "fnExactBitsOf", fn := fun _ => fun
  | [d] => { results := [.lit (.bool true)], args := [d] }
  | _ => none }
def fnExactBitsOfRow : OpenClaim := { program := "ytgkdioklafndjaa", sum := "abc90fad6a20399de3ab9b7911a384bca0effa4de01571d89289f7a7e64c037f", func := "loop.example/g01172/laws.FnExactBitsOf", spec := "fnExactBitsOf", inPlace := ["math.Float32bits"], apart := false }
def FnExactBitsOfSaid : Prop := fnExactBitsOfRow.holds Try.pinned (OpenSpec.ofChange fnExactBitsOfSpec)

/-- ITS FALSE NEIGHBOUR: 'it returns false'. Refute it at one input. -/
def fnExactBitsOfWrong : ChangeSpec := { name := "fnExactBitsOf", fn := fun _ => fun
  | [d] => { results := [.lit (.bool false)], args := [d] }
  | _ => none }
def FnExactBitsOfWrongFalsely : Prop := fnExactBitsOfRow.holds Try.pinned (OpenSpec.ofChange fnExactBitsOfWrong)

/-- 'laws.FnExactPlaceOf': WHATEVER THE INPUT: true; the input reads as it did. -/
def fnExactPlaceOfSpec : ChangeSpec := { name := "fnExactPlaceOf", fn := fun _ => fun
  | [d] => { results := [.lit (.bool true)], args := [d] }
  | _ => none }
def fnExactPlaceOfRow : OpenClaim := { program := "ytgkdioklafndjaa", sum := "abc90fad6a20399de3ab9b7911a384bca0effa4de01571d89289f7a7e64c037f", func := "loop.example/g01172/laws.FnExactPlaceOf", spec := "fnExactPlaceOf", inPlace := ["math.Float32bits"], apart := false }
def FnExactPlaceOfSaid : Prop := fnExactPlaceOfRow.holds Try.pinned (OpenSpec.ofChange fnExactPlaceOfSpec)

/-- ITS FALSE NEIGHBOUR: 'it returns false'. Refute it at one input. -/
def fnExactPlaceOfWrong : ChangeSpec := { name := "fnExactPlaceOf", fn := fun _ => fun
  | [d] => { results := [.lit (.bool false)], args := [d] }
  | _ => none }
def FnExactPlaceOfWrongFalsely : Prop := fnExactPlaceOfRow.holds Try.pinned (OpenSpec.ofChange fnExactPlaceOfWrong)

/-- 'laws.FnExactPlacesBetween': WHATEVER THE INPUT: true; the input reads as it did. -/
def fnExactPlacesBetweenSpec : ChangeSpec := { name := "fnExactPlacesBetween", fn := fun _ => fun
  | [d1, d2] => { results := [.lit (.bool true)], args := [d1, d2] }
  | _ => none }
def fnExactPlacesBetweenRow : OpenClaim := { program := "ytgkdioklafndjaa", sum := "abc90fad6a20399de3ab9b7911a384bca0effa4de01571d89289f7a7e64c037f", func := "loop.example/g01172/laws.FnExactPlacesBetween", spec := "fnExactPlacesBetween", inPlace := ["math.Float32bits"], apart := false }
def FnExactPlacesBetweenSaid : Prop := fnExactPlacesBetweenRow.holds Try.pinned (OpenSpec.ofChange fnExactPlacesBetweenSpec)

/-- ITS FALSE NEIGHBOUR: 'it returns false'. Refute it at one input. -/
def fnExactPlacesBetweenWrong : ChangeSpec := { name := "fnExactPlacesBetween", fn := fun _ => fun
  | [d1, d2] => { results := [.lit (.bool false)], args := [d1, d2] }
  | _ => none }
def FnExactPlacesBetweenWrongFalsely : Prop := fnExactPlacesBetweenRow.holds Try.pinned (OpenSpec.ofChange fnExactPlacesBetweenWrong)

/-- 'laws.FnExactIsWholeFloat': WHATEVER THE INPUT: true; the input reads as it did. -/
def fnExactIsWholeFloatSpec : ChangeSpec := { name := "fnExactIsWholeFloat", fn := fun _ => fun
  | [d] => { results := [.lit (.bool true)], args := [d] }
  | _ => none }
def fnExactIsWholeFloatRow : OpenClaim := { program := "ytgkdioklafndjaa", sum := "abc90fad6a20399de3ab9b7911a384bca0effa4de01571d89289f7a7e64c037f", func := "loop.example/g01172/laws.FnExactIsWholeFloat", spec := "fnExactIsWholeFloat", inPlace := ["math.Float32bits", "math.archTrunc", "math.Float64bits", "math.Float64frombits"], apart := false }
def FnExactIsWholeFloatSaid : Prop := fnExactIsWholeFloatRow.holds Try.pinned (OpenSpec.ofChange fnExactIsWholeFloatSpec)

/-- ITS FALSE NEIGHBOUR: 'it returns false'. Refute it at one input. -/
def fnExactIsWholeFloatWrong : ChangeSpec := { name := "fnExactIsWholeFloat", fn := fun _ => fun
  | [d] => { results := [.lit (.bool false)], args := [d] }
  | _ => none }
def FnExactIsWholeFloatWrongFalsely : Prop := fnExactIsWholeFloatRow.holds Try.pinned (OpenSpec.ofChange fnExactIsWholeFloatWrong)

/-- 'laws.FnExactLeastFloat': WHATEVER THE INPUT: true; the input reads as it did. -/
def fnExactLeastFloatSpec : ChangeSpec := { name := "fnExactLeastFloat", fn := fun _ => fun
  | [d] => { results := [.lit (.bool true)], args := [d] }
  | _ => none }
def fnExactLeastFloatRow : OpenClaim := { program := "ytgkdioklafndjaa", sum := "abc90fad6a20399de3ab9b7911a384bca0effa4de01571d89289f7a7e64c037f", func := "loop.example/g01172/laws.FnExactLeastFloat", spec := "fnExactLeastFloat", inPlace := ["math.Float32bits"], apart := false }
def FnExactLeastFloatSaid : Prop := fnExactLeastFloatRow.holds Try.pinned (OpenSpec.ofChange fnExactLeastFloatSpec)

/-- ITS FALSE NEIGHBOUR: 'it returns false'. Refute it at one input. -/
def fnExactLeastFloatWrong : ChangeSpec := { name := "fnExactLeastFloat", fn := fun _ => fun
  | [d] => { results := [.lit (.bool false)], args := [d] }
  | _ => none }
def FnExactLeastFloatWrongFalsely : Prop := fnExactLeastFloatRow.holds Try.pinned (OpenSpec.ofChange fnExactLeastFloatWrong)

/-- 'laws.FnExactNextDown': WHATEVER THE INPUT: true; the input reads as it did. -/
def fnExactNextDownSpec : ChangeSpec := { name := "fnExactNextDown", fn := fun _ => fun
  | [d] => { results := [.lit (.bool true)], args := [d] }
  | _ => none }
def fnExactNextDownRow : OpenClaim := { program := "ytgkdioklafndjaa", sum := "abc90fad6a20399de3ab9b7911a384bca0effa4de01571d89289f7a7e64c037f", func := "loop.example/g01172/laws.FnExactNextDown", spec := "fnExactNextDown", inPlace := ["math.Float32bits", "math.Float32frombits"], recurses := true, apart := false }
def FnExactNextDownSaid : Prop := fnExactNextDownRow.holds Try.pinned (OpenSpec.ofChange fnExactNextDownSpec)

/-- ITS FALSE NEIGHBOUR: 'it returns false'. Refute it at one input. -/
def fnExactNextDownWrong : ChangeSpec := { name := "fnExactNextDown", fn := fun _ => fun
  | [d] => { results := [.lit (.bool false)], args := [d] }
  | _ => none }
def FnExactNextDownWrongFalsely : Prop := fnExactNextDownRow.holds Try.pinned (OpenSpec.ofChange fnExactNextDownWrong)

/-- 'laws.FnExactNextUp': WHATEVER THE INPUT: true; the input reads as it did. -/
def fnExactNextUpSpec : ChangeSpec := { name := "fnExactNextUp", fn := fun _ => fun
  | [d] => { results := [.lit (.bool true)], args := [d] }
  | _ => none }
def fnExactNextUpRow : OpenClaim := { program := "ytgkdioklafndjaa", sum := "abc90fad6a20399de3ab9b7911a384bca0effa4de01571d89289f7a7e64c037f", func := "loop.example/g01172/laws.FnExactNextUp", spec := "fnExactNextUp", inPlace := ["math.Float32bits", "math.Float32frombits"], recurses := true, apart := false }
def FnExactNextUpSaid : Prop := fnExactNextUpRow.holds Try.pinned (OpenSpec.ofChange fnExactNextUpSpec)

/-- ITS FALSE NEIGHBOUR: 'it returns false'. Refute it at one input. -/
def fnExactNextUpWrong : ChangeSpec := { name := "fnExactNextUp", fn := fun _ => fun
  | [d] => { results := [.lit (.bool false)], args := [d] }
  | _ => none }
def FnExactNextUpWrongFalsely : Prop := fnExactNextUpRow.holds Try.pinned (OpenSpec.ofChange fnExactNextUpWrong)

/- THE SECOND FORM. 'bulk': how many values and letters a reading holds, each counted each time it is reached (what is shared counts as often as it is met; a slice's spare places count too). A statement '..UptoSaid' is the law's where the arguments, and the package variables that the reading takes, are together of bulk at most 1048576: NARROWER than '..Said'. Prove '..Said' where nothing that the law and all that it calls make is longer than what came in: it says more and counts as full. Else prove '..UptoSaid'. A law counts once. -/
mutual
def uptoBulk {H : Type} : DataW H → Nat
  | .lit (.string bytes) => bytes.length + 1
  | .lit _ => 1
  | .nil => 1
  | .ptr d => uptoBulk d + 1
  | .slice elems spare => uptoBulkAll elems + uptoBulkAll spare + 1
  | .agg parts => uptoBulkAll parts + 1
  | .iface _ d => uptoBulk d + 1
  | .map entries => uptoBulkEntries entries + 1
  | .held _ => 1
def uptoBulkAll {H : Type} : List (DataW H) → Nat
  | [] => 0
  | d :: r => uptoBulk d + uptoBulkAll r
def uptoBulkEntries {H : Type} : List (Lit × DataW H) → Nat
  | [] => 0
  | x :: r => uptoBulkEntry x + uptoBulkEntries r
def uptoBulkEntry {H : Type} : Lit × DataW H → Nat
  | (.string bytes, d) => bytes.length + uptoBulk d + 1
  | (_, d) => uptoBulk d + 1
 end
def uptoSmall : (H : Type) → List (DataW H) → Bool := fun _ ds => decide (uptoBulkAll ds ≤ 1048576)
def OpenSpec.upto (s : _root_.Go.ChangeSpec) : _root_.Go.OpenSpec := { _root_.Go.OpenSpec.ofChange s with cond := some uptoSmall }

/-- 'laws.FnExactBitsOf', WHERE WHAT IT READS IS OF BULK AT MOST 1048576: true; the input reads as it did. -/
def fnExactBitsOfUptoRow : OpenClaim := { program := "ytgkdioklafndjaa", sum := "abc90fad6a20399de3ab9b7911a384bca0effa4de01571d89289f7a7e64c037f", func := "loop.example/g01172/laws.FnExactBitsOf", spec := "fnExactBitsOf", inPlace := ["math.Float32bits"], apart := false, narrowed := true }
def FnExactBitsOfUptoSaid : Prop := fnExactBitsOfUptoRow.holds Try.pinned (OpenSpec.upto fnExactBitsOfSpec)

/-- 'laws.FnExactPlaceOf', WHERE WHAT IT READS IS OF BULK AT MOST 1048576: true; the input reads as it did. -/
def fnExactPlaceOfUptoRow : OpenClaim := { program := "ytgkdioklafndjaa", sum := "abc90fad6a20399de3ab9b7911a384bca0effa4de01571d89289f7a7e64c037f", func := "loop.example/g01172/laws.FnExactPlaceOf", spec := "fnExactPlaceOf", inPlace := ["math.Float32bits"], apart := false, narrowed := true }
def FnExactPlaceOfUptoSaid : Prop := fnExactPlaceOfUptoRow.holds Try.pinned (OpenSpec.upto fnExactPlaceOfSpec)

/-- 'laws.FnExactPlacesBetween', WHERE WHAT IT READS IS OF BULK AT MOST 1048576: true; the input reads as it did. -/
def fnExactPlacesBetweenUptoRow : OpenClaim := { program := "ytgkdioklafndjaa", sum := "abc90fad6a20399de3ab9b7911a384bca0effa4de01571d89289f7a7e64c037f", func := "loop.example/g01172/laws.FnExactPlacesBetween", spec := "fnExactPlacesBetween", inPlace := ["math.Float32bits"], apart := false, narrowed := true }
def FnExactPlacesBetweenUptoSaid : Prop := fnExactPlacesBetweenUptoRow.holds Try.pinned (OpenSpec.upto fnExactPlacesBetweenSpec)

/-- 'laws.FnExactIsWholeFloat', WHERE WHAT IT READS IS OF BULK AT MOST 1048576: true; the input reads as it did. -/
def fnExactIsWholeFloatUptoRow : OpenClaim := { program := "ytgkdioklafndjaa", sum := "abc90fad6a20399de3ab9b7911a384bca0effa4de01571d89289f7a7e64c037f", func := "loop.example/g01172/laws.FnExactIsWholeFloat", spec := "fnExactIsWholeFloat", inPlace := ["math.Float32bits", "math.archTrunc", "math.Float64bits", "math.Float64frombits"], apart := false, narrowed := true }
def FnExactIsWholeFloatUptoSaid : Prop := fnExactIsWholeFloatUptoRow.holds Try.pinned (OpenSpec.upto fnExactIsWholeFloatSpec)

/-- 'laws.FnExactLeastFloat', WHERE WHAT IT READS IS OF BULK AT MOST 1048576: true; the input reads as it did. -/
def fnExactLeastFloatUptoRow : OpenClaim := { program := "ytgkdioklafndjaa", sum := "abc90fad6a20399de3ab9b7911a384bca0effa4de01571d89289f7a7e64c037f", func := "loop.example/g01172/laws.FnExactLeastFloat", spec := "fnExactLeastFloat", inPlace := ["math.Float32bits"], apart := false, narrowed := true }
def FnExactLeastFloatUptoSaid : Prop := fnExactLeastFloatUptoRow.holds Try.pinned (OpenSpec.upto fnExactLeastFloatSpec)

/-- 'laws.FnExactNextDown', WHERE WHAT IT READS IS OF BULK AT MOST 1048576: true; the input reads as it did. -/
def fnExactNextDownUptoRow : OpenClaim := { program := "ytgkdioklafndjaa", sum := "abc90fad6a20399de3ab9b7911a384bca0effa4de01571d89289f7a7e64c037f", func := "loop.example/g01172/laws.FnExactNextDown", spec := "fnExactNextDown", inPlace := ["math.Float32bits", "math.Float32frombits"], recurses := true, apart := false, narrowed := true }
def FnExactNextDownUptoSaid : Prop := fnExactNextDownUptoRow.holds Try.pinned (OpenSpec.upto fnExactNextDownSpec)

/-- 'laws.FnExactNextUp', WHERE WHAT IT READS IS OF BULK AT MOST 1048576: true; the input reads as it did. -/
def fnExactNextUpUptoRow : OpenClaim := { program := "ytgkdioklafndjaa", sum := "abc90fad6a20399de3ab9b7911a384bca0effa4de01571d89289f7a7e64c037f", func := "loop.example/g01172/laws.FnExactNextUp", spec := "fnExactNextUp", inPlace := ["math.Float32bits", "math.Float32frombits"], recurses := true, apart := false, narrowed := true }
def FnExactNextUpUptoSaid : Prop := fnExactNextUpUptoRow.holds Try.pinned (OpenSpec.upto fnExactNextUpSpec)

end Rows
end Go.Proofs.Ytgkdioklafndjaa
