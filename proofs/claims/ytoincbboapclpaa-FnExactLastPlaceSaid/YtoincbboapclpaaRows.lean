/-
  No cell of these rows narrows 'for every input' (looked for: loops, veiled, ifaces, maps, wideKeys, modest, calm, conditions, laid).
  DERIVED. THE GIVEN ROWS OF THIS SEAT. 6 by the template 'for every input the law returns true; each argument reads behind the call as it read before'; 0 by the template 'total and deterministic' (their statements: YtoincbboapclpaaTotals.lean).
  GIVEN WITH THE SEED: the statements are not yours to turn. If you find one false, say at which input.
  Laid BY PROGRAM, IN A SANDBOX (cutbox-rows.mjs): the forced cells as the released guide's own fill.sh prints them over the translation 65e2384aa5d5aaf4… (all of the seat's roots in one cut). By AI agents, Wed Nov 11 2026. No macro, syntax, notation, axiom, sorry.
-/
import Derived.Test.YtoincbboapclpaaChecked
import GoSem.Claim
import GoSem.ClaimJoined
import GoSem.ClaimMapViews
import Derived.JoinedTies
import Derived.KernelRfl
namespace Go.Proofs.Ytoincbboapclpaa
/- THE CELL 'sum', in the pinned program and in every row, IS THE sha256 OF THE DUMP (.gsa) THAT YtoincbboapclpaaProg.lean LOADS. Nothing in Lean hashes anything: it is a label: what it is worth is what the hold of that sum in a sandbox is worth. -/
noncomputable def Try.pinned : Pinned := { name := "ytoincbboapclpaa", sum := "65e2384aa5d5aaf4784e5ced566f309340f17f7665ab0fa8c400cf87e52c1911", checked := Try.checked }
namespace Rows
def none {H : Type} : Left H := { results := [], args := [] }

/-- 'laws.FnExactLeastFloat': WHATEVER THE INPUT: true; the input reads as it did. -/
def fnExactLeastFloatSpec : ChangeSpec := { name := "fnExactLeastFloat", fn := fun _ => fun
  | [d] => { results := [.lit (.bool true)], args := [d] }
  | _ => none }
def fnExactLeastFloatRow : OpenClaim := { program := "ytoincbboapclpaa", sum := "65e2384aa5d5aaf4784e5ced566f309340f17f7665ab0fa8c400cf87e52c1911", func := "loop.example/g01172/laws.FnExactLeastFloat", spec := "fnExactLeastFloat", inPlace := ["math.Float32bits"], apart := false }
def FnExactLeastFloatSaid : Prop := fnExactLeastFloatRow.holds Try.pinned (OpenSpec.ofChange fnExactLeastFloatSpec)

/-- ITS FALSE NEIGHBOUR: 'it returns false'. Refute it at one input. -/
def fnExactLeastFloatWrong : ChangeSpec := { name := "fnExactLeastFloat", fn := fun _ => fun
  | [d] => { results := [.lit (.bool false)], args := [d] }
  | _ => none }
def FnExactLeastFloatWrongFalsely : Prop := fnExactLeastFloatRow.holds Try.pinned (OpenSpec.ofChange fnExactLeastFloatWrong)

/-- 'laws.FnExactLastPlace': WHATEVER THE INPUT: true; the input reads as it did. -/
def fnExactLastPlaceSpec : ChangeSpec := { name := "fnExactLastPlace", fn := fun _ => fun
  | [d] => { results := [.lit (.bool true)], args := [d] }
  | _ => none }
def fnExactLastPlaceRow : OpenClaim := { program := "ytoincbboapclpaa", sum := "65e2384aa5d5aaf4784e5ced566f309340f17f7665ab0fa8c400cf87e52c1911", func := "loop.example/g01172/laws.FnExactLastPlace", spec := "fnExactLastPlace", inPlace := ["math.Float32bits", "math.Float64bits", "math.Float64frombits"], apart := false }
def FnExactLastPlaceSaid : Prop := fnExactLastPlaceRow.holds Try.pinned (OpenSpec.ofChange fnExactLastPlaceSpec)

/-- ITS FALSE NEIGHBOUR: 'it returns false'. Refute it at one input. -/
def fnExactLastPlaceWrong : ChangeSpec := { name := "fnExactLastPlace", fn := fun _ => fun
  | [d] => { results := [.lit (.bool false)], args := [d] }
  | _ => none }
def FnExactLastPlaceWrongFalsely : Prop := fnExactLastPlaceRow.holds Try.pinned (OpenSpec.ofChange fnExactLastPlaceWrong)

/-- 'laws.FnExactSortFloats': WHATEVER THE INPUT: true; the input reads as it did. -/
def fnExactSortFloatsSpec : ChangeSpec := { name := "fnExactSortFloats", fn := fun _ => fun
  | [d] => { results := [.lit (.bool true)], args := [d] }
  | _ => none }
def fnExactSortFloatsRow : OpenClaim := { program := "ytoincbboapclpaa", sum := "65e2384aa5d5aaf4784e5ced566f309340f17f7665ab0fa8c400cf87e52c1911", func := "loop.example/g01172/laws.FnExactSortFloats", spec := "fnExactSortFloats", inPlace := ["math.Float32bits", "internal/reflectlite.ValueOf", "internal/reflectlite.Swapper", "(internal/reflectlite.Value).Len"], unfollowed := true, recurses := true, apart := false }
def FnExactSortFloatsSaid : Prop := fnExactSortFloatsRow.holds Try.pinned (OpenSpec.ofChange fnExactSortFloatsSpec)

/-- ITS FALSE NEIGHBOUR: 'it returns false'. Refute it at one input. -/
def fnExactSortFloatsWrong : ChangeSpec := { name := "fnExactSortFloats", fn := fun _ => fun
  | [d] => { results := [.lit (.bool false)], args := [d] }
  | _ => none }
def FnExactSortFloatsWrongFalsely : Prop := fnExactSortFloatsRow.holds Try.pinned (OpenSpec.ofChange fnExactSortFloatsWrong)

/-- 'laws.FnBits': WHATEVER THE INPUT: true; the input reads as it did. -/
def fnBitsSpec : ChangeSpec := { name := "fnBits", fn := fun _ => fun
  | [d] => { results := [.lit (.bool true)], args := [d] }
  | _ => none }
def fnBitsRow : OpenClaim := { program := "ytoincbboapclpaa", sum := "65e2384aa5d5aaf4784e5ced566f309340f17f7665ab0fa8c400cf87e52c1911", func := "loop.example/g01172/laws.FnBits", spec := "fnBits", inPlace := ["math.Float32bits", "math.Float32frombits"], recurses := true, apart := false }
def FnBitsSaid : Prop := fnBitsRow.holds Try.pinned (OpenSpec.ofChange fnBitsSpec)

/-- ITS FALSE NEIGHBOUR: 'it returns false'. Refute it at one input. -/
def fnBitsWrong : ChangeSpec := { name := "fnBits", fn := fun _ => fun
  | [d] => { results := [.lit (.bool false)], args := [d] }
  | _ => none }
def FnBitsWrongFalsely : Prop := fnBitsRow.holds Try.pinned (OpenSpec.ofChange fnBitsWrong)

/-- 'laws.FnExactScaleFloat': WHATEVER THE INPUT: true; the input reads as it did. -/
def fnExactScaleFloatSpec : ChangeSpec := { name := "fnExactScaleFloat", fn := fun _ => fun
  | [d1, d2] => { results := [.lit (.bool true)], args := [d1, d2] }
  | _ => none }
def fnExactScaleFloatRow : OpenClaim := { program := "ytoincbboapclpaa", sum := "65e2384aa5d5aaf4784e5ced566f309340f17f7665ab0fa8c400cf87e52c1911", func := "loop.example/g01172/laws.FnExactScaleFloat", spec := "fnExactScaleFloat", inPlace := ["math.Float32bits", "math.Float64bits", "math.Float64frombits"], apart := false }
def FnExactScaleFloatSaid : Prop := fnExactScaleFloatRow.holds Try.pinned (OpenSpec.ofChange fnExactScaleFloatSpec)

/-- ITS FALSE NEIGHBOUR: 'it returns false'. Refute it at one input. -/
def fnExactScaleFloatWrong : ChangeSpec := { name := "fnExactScaleFloat", fn := fun _ => fun
  | [d1, d2] => { results := [.lit (.bool false)], args := [d1, d2] }
  | _ => none }
def FnExactScaleFloatWrongFalsely : Prop := fnExactScaleFloatRow.holds Try.pinned (OpenSpec.ofChange fnExactScaleFloatWrong)

/-- 'laws.FnExactIsWhole': WHATEVER THE INPUT: true; the input reads as it did. -/
def fnExactIsWholeSpec : ChangeSpec := { name := "fnExactIsWhole", fn := fun _ => fun
  | [d] => { results := [.lit (.bool true)], args := [d] }
  | _ => none }
def fnExactIsWholeRow : OpenClaim := { program := "ytoincbboapclpaa", sum := "65e2384aa5d5aaf4784e5ced566f309340f17f7665ab0fa8c400cf87e52c1911", func := "loop.example/g01172/laws.FnExactIsWhole", spec := "fnExactIsWhole", apart := false }
def FnExactIsWholeSaid : Prop := fnExactIsWholeRow.holds Try.pinned (OpenSpec.ofChange fnExactIsWholeSpec)

/-- ITS FALSE NEIGHBOUR: 'it returns false'. Refute it at one input. -/
def fnExactIsWholeWrong : ChangeSpec := { name := "fnExactIsWhole", fn := fun _ => fun
  | [d] => { results := [.lit (.bool false)], args := [d] }
  | _ => none }
def FnExactIsWholeWrongFalsely : Prop := fnExactIsWholeRow.holds Try.pinned (OpenSpec.ofChange fnExactIsWholeWrong)

/- THE SECOND FORM. 'bulk': how many values and letters a reading holds, each counted each time it is reached (what is shared counts as often as it is met; a slice's spare places count too). A statement '..UptoSaid' is the law's where the arguments, and the package variables that the reading takes, are together of bulk at most 1048576: NARROWER than '..Said'. Prove '..Said' where nothing that the law and all that it calls make is longer than what came in: it says more and counts as full. Else prove '..UptoSaid'. A law counts once. -/
mutual
def uptoBulk {H : Type} : DataW H → Nat
  | .lit (.string bytes) => bytes.length + 1
  | .lit _ => 1
  | .nil => 1
  | .ptr d => uptoBulk d + 1
  | .slice elems spare => uptoBulkAll elems + uptoBulkAll spare + 1
  | .agg parts => uptoBulkAll parts + 1
  | .iface _ d => uptoBulk d + 1
  | .map entries => uptoBulkEntries entries + 1
  | .held _ => 1
def uptoBulkAll {H : Type} : List (DataW H) → Nat
  | [] => 0
  | d :: r => uptoBulk d + uptoBulkAll r
def uptoBulkEntries {H : Type} : List (Lit × DataW H) → Nat
  | [] => 0
  | x :: r => uptoBulkEntry x + uptoBulkEntries r
def uptoBulkEntry {H : Type} : Lit × DataW H → Nat
  | (.string bytes, d) => bytes.length + uptoBulk d + 1
  | (_, d) => uptoBulk d + 1
 end
def uptoSmall : (H : Type) → List (DataW H) → Bool := fun _ ds => decide (uptoBulkAll ds ≤ 1048576)
def OpenSpec.upto (s : _root_.Go.ChangeSpec) : _root_.Go.OpenSpec := { _root_.Go.OpenSpec.ofChange s with cond := some uptoSmall }

/-- 'laws.FnExactLeastFloat', WHERE WHAT IT READS IS OF BULK AT MOST 1048576: true; the input reads as it did. -/
def fnExactLeastFloatUptoRow : OpenClaim := { program := "ytoincbboapclpaa", sum := "65e2384aa5d5aaf4784e5ced566f309340f17f7665ab0fa8c400cf87e52c1911", func := "loop.example/g01172/laws.FnExactLeastFloat", spec := "fnExactLeastFloat", inPlace := ["math.Float32bits"], apart := false, narrowed := true }
def FnExactLeastFloatUptoSaid : Prop := fnExactLeastFloatUptoRow.holds Try.pinned (OpenSpec.upto fnExactLeastFloatSpec)

/-- 'laws.FnExactLastPlace', WHERE WHAT IT READS IS OF BULK AT MOST 1048576: true; the input reads as it did. -/
def fnExactLastPlaceUptoRow : OpenClaim := { program := "ytoincbboapclpaa", sum := "65e2384aa5d5aaf4784e5ced566f309340f17f7665ab0fa8c400cf87e52c1911", func := "loop.example/g01172/laws.FnExactLastPlace", spec := "fnExactLastPlace", inPlace := ["math.Float32bits", "math.Float64bits", "math.Float64frombits"], apart := false, narrowed := true }
def FnExactLastPlaceUptoSaid : Prop := fnExactLastPlaceUptoRow.holds Try.pinned (OpenSpec.upto fnExactLastPlaceSpec)

/-- 'laws.FnExactSortFloats', WHERE WHAT IT READS IS OF BULK AT MOST 1048576: true; the input reads as it did. -/
def fnExactSortFloatsUptoRow : OpenClaim := { program := "ytoincbboapclpaa", sum := "65e2384aa5d5aaf4784e5ced566f309340f17f7665ab0fa8c400cf87e52c1911", func := "loop.example/g01172/laws.FnExactSortFloats", spec := "fnExactSortFloats", inPlace := ["math.Float32bits", "internal/reflectlite.ValueOf", "internal/reflectlite.Swapper", "(internal/reflectlite.Value).Len"], unfollowed := true, recurses := true, apart := false, narrowed := true }
def FnExactSortFloatsUptoSaid : Prop := fnExactSortFloatsUptoRow.holds Try.pinned (OpenSpec.upto fnExactSortFloatsSpec)

/-- 'laws.FnBits', WHERE WHAT IT READS IS OF BULK AT MOST 1048576: true; the input reads as it did. -/
def fnBitsUptoRow : OpenClaim := { program := "ytoincbboapclpaa", sum := "65e2384aa5d5aaf4784e5ced566f309340f17f7665ab0fa8c400cf87e52c1911", func := "loop.example/g01172/laws.FnBits", spec := "fnBits", inPlace := ["math.Float32bits", "math.Float32frombits"], recurses := true, apart := false, narrowed := true }
def FnBitsUptoSaid : Prop := fnBitsUptoRow.holds Try.pinned (OpenSpec.upto fnBitsSpec)

/-- 'laws.FnExactScaleFloat', WHERE WHAT IT READS IS OF BULK AT MOST 1048576: true; the input reads as it did. -/
def fnExactScaleFloatUptoRow : OpenClaim := { program := "ytoincbboapclpaa", sum := "65e2384aa5d5aaf4784e5ced566f309340f17f7665ab0fa8c400cf87e52c1911", func := "loop.example/g01172/laws.FnExactScaleFloat", spec := "fnExactScaleFloat", inPlace := ["math.Float32bits", "math.Float64bits", "math.Float64frombits"], apart := false, narrowed := true }
def FnExactScaleFloatUptoSaid : Prop := fnExactScaleFloatUptoRow.holds Try.pinned (OpenSpec.upto fnExactScaleFloatSpec)

/-- 'laws.FnExactIsWhole', WHERE WHAT IT READS IS OF BULK AT MOST 1048576: true; the input reads as it did. -/
def fnExactIsWholeUptoRow : OpenClaim := { program := "ytoincbboapclpaa", sum := "65e2384aa5d5aaf4784e5ced566f309340f17f7665ab0fa8c400cf87e52c1911", func := "loop.example/g01172/laws.FnExactIsWhole", spec := "fnExactIsWhole", apart := false, narrowed := true }
def FnExactIsWholeUptoSaid : Prop := fnExactIsWholeUptoRow.holds Try.pinned (OpenSpec.upto fnExactIsWholeSpec)

end Rows
end Go.Proofs.Ytoincbboapclpaa
