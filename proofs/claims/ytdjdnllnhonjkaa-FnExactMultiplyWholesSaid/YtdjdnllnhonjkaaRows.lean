/-
  No cell of these rows narrows 'for every input' (looked for: loops, veiled, ifaces, maps, wideKeys, modest, calm, conditions, laid).
  DERIVED. THE GIVEN ROWS OF THIS SEAT. 14 by the template 'for every input the law returns true; each argument reads behind the call as it read before'; 0 by the template 'total and deterministic' (their statements: YtdjdnllnhonjkaaTotals.lean).
  GIVEN WITH THE SEED: the statements are not yours to turn. If you find one false, say at which input.
  Laid BY PROGRAM, IN A SANDBOX (cutbox-rows.mjs): the forced cells as the released guide's own fill.sh prints them over the translation 32691015406d1aed… (all of the seat's roots in one cut). By AI agents, Wed Nov 11 2026. No macro, syntax, notation, axiom, sorry.
-/
import Derived.Test.YtdjdnllnhonjkaaChecked
import GoSem.Claim
import GoSem.ClaimJoined
import GoSem.ClaimMapViews
import Derived.JoinedTies
import Derived.KernelRfl
namespace Go.Proofs.Ytdjdnllnhonjkaa
/- THE CELL 'sum', in the pinned program and in every row, IS THE sha256 OF THE DUMP (.gsa) THAT YtdjdnllnhonjkaaProg.lean LOADS. Nothing in Lean hashes anything: it is a label: what it is worth is what the hold of that sum in a sandbox is worth. -/
noncomputable def Try.pinned : Pinned := { name := "ytdjdnllnhonjkaa", sum := "32691015406d1aed284fe00dbe9ddf72f44f868cc83b6198cf0f4170e91f36f6", checked := Try.checked }
namespace Rows
def none {H : Type} : Left H := { results := [], args := [] }

/-- 'laws.FnExactLengthOfWhole': WHATEVER THE INPUT: true; the input reads as it did. -/
def fnExactLengthOfWholeSpec : ChangeSpec := { name := "fnExactLengthOfWhole", fn := fun _ => fun
  | [d] => { results := [.lit (.bool true)], args := [d] }
  | _ => none }
def fnExactLengthOfWholeRow : OpenClaim := { program := "ytdjdnllnhonjkaa", sum := "32691015406d1aed284fe00dbe9ddf72f44f868cc83b6198cf0f4170e91f36f6", func := "loop.example/g01172/laws.FnExactLengthOfWhole", spec := "fnExactLengthOfWhole", apart := false }
def FnExactLengthOfWholeSaid : Prop := fnExactLengthOfWholeRow.holds Try.pinned (OpenSpec.ofChange fnExactLengthOfWholeSpec)

/-- ITS FALSE NEIGHBOUR: 'it returns false'. Refute it at one input. -/
def fnExactLengthOfWholeWrong : ChangeSpec := { name := "fnExactLengthOfWhole", fn := fun _ => fun
  | [d] => { results := [.lit (.bool false)], args := [d] }
  | _ => none }
def FnExactLengthOfWholeWrongFalsely : Prop := fnExactLengthOfWholeRow.holds Try.pinned (OpenSpec.ofChange fnExactLengthOfWholeWrong)

/-- 'laws.FnExactWholeOf': WHATEVER THE INPUT: true; the input reads as it did. -/
def fnExactWholeOfSpec : ChangeSpec := { name := "fnExactWholeOf", fn := fun _ => fun
  | [d] => { results := [.lit (.bool true)], args := [d] }
  | _ => none }
def fnExactWholeOfRow : OpenClaim := { program := "ytdjdnllnhonjkaa", sum := "32691015406d1aed284fe00dbe9ddf72f44f868cc83b6198cf0f4170e91f36f6", func := "loop.example/g01172/laws.FnExactWholeOf", spec := "fnExactWholeOf", apart := false }
def FnExactWholeOfSaid : Prop := fnExactWholeOfRow.holds Try.pinned (OpenSpec.ofChange fnExactWholeOfSpec)

/-- ITS FALSE NEIGHBOUR: 'it returns false'. Refute it at one input. -/
def fnExactWholeOfWrong : ChangeSpec := { name := "fnExactWholeOf", fn := fun _ => fun
  | [d] => { results := [.lit (.bool false)], args := [d] }
  | _ => none }
def FnExactWholeOfWrongFalsely : Prop := fnExactWholeOfRow.holds Try.pinned (OpenSpec.ofChange fnExactWholeOfWrong)

/-- 'laws.FnExactCompareWholes': WHATEVER THE INPUT: true; the input reads as it did. -/
def fnExactCompareWholesSpec : ChangeSpec := { name := "fnExactCompareWholes", fn := fun _ => fun
  | [d1, d2] => { results := [.lit (.bool true)], args := [d1, d2] }
  | _ => none }
def fnExactCompareWholesRow : OpenClaim := { program := "ytdjdnllnhonjkaa", sum := "32691015406d1aed284fe00dbe9ddf72f44f868cc83b6198cf0f4170e91f36f6", func := "loop.example/g01172/laws.FnExactCompareWholes", spec := "fnExactCompareWholes", apart := false }
def FnExactCompareWholesSaid : Prop := fnExactCompareWholesRow.holds Try.pinned (OpenSpec.ofChange fnExactCompareWholesSpec)

/-- ITS FALSE NEIGHBOUR: 'it returns false'. Refute it at one input. -/
def fnExactCompareWholesWrong : ChangeSpec := { name := "fnExactCompareWholes", fn := fun _ => fun
  | [d1, d2] => { results := [.lit (.bool false)], args := [d1, d2] }
  | _ => none }
def FnExactCompareWholesWrongFalsely : Prop := fnExactCompareWholesRow.holds Try.pinned (OpenSpec.ofChange fnExactCompareWholesWrong)

/-- 'laws.FnExactIntegerOf': WHATEVER THE INPUT: true; the input reads as it did. -/
def fnExactIntegerOfSpec : ChangeSpec := { name := "fnExactIntegerOf", fn := fun _ => fun
  | [d] => { results := [.lit (.bool true)], args := [d] }
  | _ => none }
def fnExactIntegerOfRow : OpenClaim := { program := "ytdjdnllnhonjkaa", sum := "32691015406d1aed284fe00dbe9ddf72f44f868cc83b6198cf0f4170e91f36f6", func := "loop.example/g01172/laws.FnExactIntegerOf", spec := "fnExactIntegerOf", apart := false }
def FnExactIntegerOfSaid : Prop := fnExactIntegerOfRow.holds Try.pinned (OpenSpec.ofChange fnExactIntegerOfSpec)

/-- ITS FALSE NEIGHBOUR: 'it returns false'. Refute it at one input. -/
def fnExactIntegerOfWrong : ChangeSpec := { name := "fnExactIntegerOf", fn := fun _ => fun
  | [d] => { results := [.lit (.bool false)], args := [d] }
  | _ => none }
def FnExactIntegerOfWrongFalsely : Prop := fnExactIntegerOfRow.holds Try.pinned (OpenSpec.ofChange fnExactIntegerOfWrong)

/-- 'laws.FnExactParseWhole': WHATEVER THE INPUT: true; the input reads as it did. -/
def fnExactParseWholeSpec : ChangeSpec := { name := "fnExactParseWhole", fn := fun _ => fun
  | [d] => { results := [.lit (.bool true)], args := [d] }
  | _ => none }
def fnExactParseWholeRow : OpenClaim := { program := "ytdjdnllnhonjkaa", sum := "32691015406d1aed284fe00dbe9ddf72f44f868cc83b6198cf0f4170e91f36f6", func := "loop.example/g01172/laws.FnExactParseWhole", spec := "fnExactParseWhole", apart := false }
def FnExactParseWholeSaid : Prop := fnExactParseWholeRow.holds Try.pinned (OpenSpec.ofChange fnExactParseWholeSpec)

/-- ITS FALSE NEIGHBOUR: 'it returns false'. Refute it at one input. -/
def fnExactParseWholeWrong : ChangeSpec := { name := "fnExactParseWhole", fn := fun _ => fun
  | [d] => { results := [.lit (.bool false)], args := [d] }
  | _ => none }
def FnExactParseWholeWrongFalsely : Prop := fnExactParseWholeRow.holds Try.pinned (OpenSpec.ofChange fnExactParseWholeWrong)

/-- 'laws.FnExactWholeText': WHATEVER THE INPUT: true; the input reads as it did. -/
def fnExactWholeTextSpec : ChangeSpec := { name := "fnExactWholeText", fn := fun _ => fun
  | [d] => { results := [.lit (.bool true)], args := [d] }
  | _ => none }
def fnExactWholeTextRow : OpenClaim := { program := "ytdjdnllnhonjkaa", sum := "32691015406d1aed284fe00dbe9ddf72f44f868cc83b6198cf0f4170e91f36f6", func := "loop.example/g01172/laws.FnExactWholeText", spec := "fnExactWholeText", recurses := true, apart := false }
def FnExactWholeTextSaid : Prop := fnExactWholeTextRow.holds Try.pinned (OpenSpec.ofChange fnExactWholeTextSpec)

/-- ITS FALSE NEIGHBOUR: 'it returns false'. Refute it at one input. -/
def fnExactWholeTextWrong : ChangeSpec := { name := "fnExactWholeText", fn := fun _ => fun
  | [d] => { results := [.lit (.bool false)], args := [d] }
  | _ => none }
def FnExactWholeTextWrongFalsely : Prop := fnExactWholeTextRow.holds Try.pinned (OpenSpec.ofChange fnExactWholeTextWrong)

/-- 'laws.FnExactMultiplyWholes': WHATEVER THE INPUT: true; the input reads as it did. -/
def fnExactMultiplyWholesSpec : ChangeSpec := { name := "fnExactMultiplyWholes", fn := fun _ => fun
  | [d1, d2] => { results := [.lit (.bool true)], args := [d1, d2] }
  | _ => none }
def fnExactMultiplyWholesRow : OpenClaim := { program := "ytdjdnllnhonjkaa", sum := "32691015406d1aed284fe00dbe9ddf72f44f868cc83b6198cf0f4170e91f36f6", func := "loop.example/g01172/laws.FnExactMultiplyWholes", spec := "fnExactMultiplyWholes", apart := false }
def FnExactMultiplyWholesSaid : Prop := fnExactMultiplyWholesRow.holds Try.pinned (OpenSpec.ofChange fnExactMultiplyWholesSpec)

/-- ITS FALSE NEIGHBOUR: 'it returns false'. Refute it at one input. -/
def fnExactMultiplyWholesWrong : ChangeSpec := { name := "fnExactMultiplyWholes", fn := fun _ => fun
  | [d1, d2] => { results := [.lit (.bool false)], args := [d1, d2] }
  | _ => none }
def FnExactMultiplyWholesWrongFalsely : Prop := fnExactMultiplyWholesRow.holds Try.pinned (OpenSpec.ofChange fnExactMultiplyWholesWrong)

/-- 'laws.FnExactAddWholes': WHATEVER THE INPUT: true; the input reads as it did. -/
def fnExactAddWholesSpec : ChangeSpec := { name := "fnExactAddWholes", fn := fun _ => fun
  | [d1, d2] => { results := [.lit (.bool true)], args := [d1, d2] }
  | _ => none }
def fnExactAddWholesRow : OpenClaim := { program := "ytdjdnllnhonjkaa", sum := "32691015406d1aed284fe00dbe9ddf72f44f868cc83b6198cf0f4170e91f36f6", func := "loop.example/g01172/laws.FnExactAddWholes", spec := "fnExactAddWholes", apart := false }
def FnExactAddWholesSaid : Prop := fnExactAddWholesRow.holds Try.pinned (OpenSpec.ofChange fnExactAddWholesSpec)

/-- ITS FALSE NEIGHBOUR: 'it returns false'. Refute it at one input. -/
def fnExactAddWholesWrong : ChangeSpec := { name := "fnExactAddWholes", fn := fun _ => fun
  | [d1, d2] => { results := [.lit (.bool false)], args := [d1, d2] }
  | _ => none }
def FnExactAddWholesWrongFalsely : Prop := fnExactAddWholesRow.holds Try.pinned (OpenSpec.ofChange fnExactAddWholesWrong)

/-- 'laws.FnExactSubtractWholes': WHATEVER THE INPUT: true; the input reads as it did. -/
def fnExactSubtractWholesSpec : ChangeSpec := { name := "fnExactSubtractWholes", fn := fun _ => fun
  | [d1, d2] => { results := [.lit (.bool true)], args := [d1, d2] }
  | _ => none }
def fnExactSubtractWholesRow : OpenClaim := { program := "ytdjdnllnhonjkaa", sum := "32691015406d1aed284fe00dbe9ddf72f44f868cc83b6198cf0f4170e91f36f6", func := "loop.example/g01172/laws.FnExactSubtractWholes", spec := "fnExactSubtractWholes", apart := false }
def FnExactSubtractWholesSaid : Prop := fnExactSubtractWholesRow.holds Try.pinned (OpenSpec.ofChange fnExactSubtractWholesSpec)

/-- ITS FALSE NEIGHBOUR: 'it returns false'. Refute it at one input. -/
def fnExactSubtractWholesWrong : ChangeSpec := { name := "fnExactSubtractWholes", fn := fun _ => fun
  | [d1, d2] => { results := [.lit (.bool false)], args := [d1, d2] }
  | _ => none }
def FnExactSubtractWholesWrongFalsely : Prop := fnExactSubtractWholesRow.holds Try.pinned (OpenSpec.ofChange fnExactSubtractWholesWrong)

/-- 'laws.FnExactShiftWhole': WHATEVER THE INPUT: true; the input reads as it did. -/
def fnExactShiftWholeSpec : ChangeSpec := { name := "fnExactShiftWhole", fn := fun _ => fun
  | [d1, d2] => { results := [.lit (.bool true)], args := [d1, d2] }
  | _ => none }
def fnExactShiftWholeRow : OpenClaim := { program := "ytdjdnllnhonjkaa", sum := "32691015406d1aed284fe00dbe9ddf72f44f868cc83b6198cf0f4170e91f36f6", func := "loop.example/g01172/laws.FnExactShiftWhole", spec := "fnExactShiftWhole", apart := false }
def FnExactShiftWholeSaid : Prop := fnExactShiftWholeRow.holds Try.pinned (OpenSpec.ofChange fnExactShiftWholeSpec)

/-- ITS FALSE NEIGHBOUR: 'it returns false'. Refute it at one input. -/
def fnExactShiftWholeWrong : ChangeSpec := { name := "fnExactShiftWhole", fn := fun _ => fun
  | [d1, d2] => { results := [.lit (.bool false)], args := [d1, d2] }
  | _ => none }
def FnExactShiftWholeWrongFalsely : Prop := fnExactShiftWholeRow.holds Try.pinned (OpenSpec.ofChange fnExactShiftWholeWrong)

/-- 'laws.FnExactDivideWholes': WHATEVER THE INPUT: true; the input reads as it did. -/
def fnExactDivideWholesSpec : ChangeSpec := { name := "fnExactDivideWholes", fn := fun _ => fun
  | [d1, d2] => { results := [.lit (.bool true)], args := [d1, d2] }
  | _ => none }
def fnExactDivideWholesRow : OpenClaim := { program := "ytdjdnllnhonjkaa", sum := "32691015406d1aed284fe00dbe9ddf72f44f868cc83b6198cf0f4170e91f36f6", func := "loop.example/g01172/laws.FnExactDivideWholes", spec := "fnExactDivideWholes", apart := false }
def FnExactDivideWholesSaid : Prop := fnExactDivideWholesRow.holds Try.pinned (OpenSpec.ofChange fnExactDivideWholesSpec)

/-- ITS FALSE NEIGHBOUR: 'it returns false'. Refute it at one input. -/
def fnExactDivideWholesWrong : ChangeSpec := { name := "fnExactDivideWholes", fn := fun _ => fun
  | [d1, d2] => { results := [.lit (.bool false)], args := [d1, d2] }
  | _ => none }
def FnExactDivideWholesWrongFalsely : Prop := fnExactDivideWholesRow.holds Try.pinned (OpenSpec.ofChange fnExactDivideWholesWrong)

/-- 'laws.FnExactRootOfWhole': WHATEVER THE INPUT: true; the input reads as it did. -/
def fnExactRootOfWholeSpec : ChangeSpec := { name := "fnExactRootOfWhole", fn := fun _ => fun
  | [d] => { results := [.lit (.bool true)], args := [d] }
  | _ => none }
def fnExactRootOfWholeRow : OpenClaim := { program := "ytdjdnllnhonjkaa", sum := "32691015406d1aed284fe00dbe9ddf72f44f868cc83b6198cf0f4170e91f36f6", func := "loop.example/g01172/laws.FnExactRootOfWhole", spec := "fnExactRootOfWhole", apart := false }
def FnExactRootOfWholeSaid : Prop := fnExactRootOfWholeRow.holds Try.pinned (OpenSpec.ofChange fnExactRootOfWholeSpec)

/-- ITS FALSE NEIGHBOUR: 'it returns false'. Refute it at one input. -/
def fnExactRootOfWholeWrong : ChangeSpec := { name := "fnExactRootOfWhole", fn := fun _ => fun
  | [d] => { results := [.lit (.bool false)], args := [d] }
  | _ => none }
def FnExactRootOfWholeWrongFalsely : Prop := fnExactRootOfWholeRow.holds Try.pinned (OpenSpec.ofChange fnExactRootOfWholeWrong)

/-- 'laws.FnWholes': WHATEVER THE INPUT: true; the input reads as it did. -/
def fnWholesSpec : ChangeSpec := { name := "fnWholes", fn := fun _ => fun
  | [d] => { results := [.lit (.bool true)], args := [d] }
  | _ => none }
def fnWholesRow : OpenClaim := { program := "ytdjdnllnhonjkaa", sum := "32691015406d1aed284fe00dbe9ddf72f44f868cc83b6198cf0f4170e91f36f6", func := "loop.example/g01172/laws.FnWholes", spec := "fnWholes", apart := false }
def FnWholesSaid : Prop := fnWholesRow.holds Try.pinned (OpenSpec.ofChange fnWholesSpec)

/-- ITS FALSE NEIGHBOUR: 'it returns false'. Refute it at one input. -/
def fnWholesWrong : ChangeSpec := { name := "fnWholes", fn := fun _ => fun
  | [d] => { results := [.lit (.bool false)], args := [d] }
  | _ => none }
def FnWholesWrongFalsely : Prop := fnWholesRow.holds Try.pinned (OpenSpec.ofChange fnWholesWrong)

/-- 'laws.FnWholeRoots': WHATEVER THE INPUT: true; the input reads as it did. -/
def fnWholeRootsSpec : ChangeSpec := { name := "fnWholeRoots", fn := fun _ => fun
  | [d] => { results := [.lit (.bool true)], args := [d] }
  | _ => none }
def fnWholeRootsRow : OpenClaim := { program := "ytdjdnllnhonjkaa", sum := "32691015406d1aed284fe00dbe9ddf72f44f868cc83b6198cf0f4170e91f36f6", func := "loop.example/g01172/laws.FnWholeRoots", spec := "fnWholeRoots", recurses := true, apart := false }
def FnWholeRootsSaid : Prop := fnWholeRootsRow.holds Try.pinned (OpenSpec.ofChange fnWholeRootsSpec)

/-- ITS FALSE NEIGHBOUR: 'it returns false'. Refute it at one input. -/
def fnWholeRootsWrong : ChangeSpec := { name := "fnWholeRoots", fn := fun _ => fun
  | [d] => { results := [.lit (.bool false)], args := [d] }
  | _ => none }
def FnWholeRootsWrongFalsely : Prop := fnWholeRootsRow.holds Try.pinned (OpenSpec.ofChange fnWholeRootsWrong)

/- THE SECOND FORM. 'bulk': how many values and letters a reading holds, each counted each time it is reached (what is shared counts as often as it is met; a slice's spare places count too). A statement '..UptoSaid' is the law's where the arguments, and the package variables that the reading takes, are together of bulk at most 1048576: NARROWER than '..Said'. Prove '..Said' where nothing that the law and all that it calls make is longer than what came in: it says more and counts as full. Else prove '..UptoSaid'. A law counts once. -/
mutual
def uptoBulk {H : Type} : DataW H → Nat
  | .lit (.string bytes) => bytes.length + 1
  | .lit _ => 1
  | .nil => 1
  | .ptr d => uptoBulk d + 1
  | .slice elems spare => uptoBulkAll elems + uptoBulkAll spare + 1
  | .agg parts => uptoBulkAll parts + 1
  | .iface _ d => uptoBulk d + 1
  | .map entries => uptoBulkEntries entries + 1
  | .held _ => 1
def uptoBulkAll {H : Type} : List (DataW H) → Nat
  | [] => 0
  | d :: r => uptoBulk d + uptoBulkAll r
def uptoBulkEntries {H : Type} : List (Lit × DataW H) → Nat
  | [] => 0
  | x :: r => uptoBulkEntry x + uptoBulkEntries r
def uptoBulkEntry {H : Type} : Lit × DataW H → Nat
  | (.string bytes, d) => bytes.length + uptoBulk d + 1
  | (_, d) => uptoBulk d + 1
 end
def uptoSmall : (H : Type) → List (DataW H) → Bool := fun _ ds => decide (uptoBulkAll ds ≤ 1048576)
def OpenSpec.upto (s : _root_.Go.ChangeSpec) : _root_.Go.OpenSpec := { _root_.Go.OpenSpec.ofChange s with cond := some uptoSmall }

/-- 'laws.FnExactLengthOfWhole', WHERE WHAT IT READS IS OF BULK AT MOST 1048576: true; the input reads as it did. -/
def fnExactLengthOfWholeUptoRow : OpenClaim := { program := "ytdjdnllnhonjkaa", sum := "32691015406d1aed284fe00dbe9ddf72f44f868cc83b6198cf0f4170e91f36f6", func := "loop.example/g01172/laws.FnExactLengthOfWhole", spec := "fnExactLengthOfWhole", apart := false, narrowed := true }
def FnExactLengthOfWholeUptoSaid : Prop := fnExactLengthOfWholeUptoRow.holds Try.pinned (OpenSpec.upto fnExactLengthOfWholeSpec)

/-- 'laws.FnExactWholeOf', WHERE WHAT IT READS IS OF BULK AT MOST 1048576: true; the input reads as it did. -/
def fnExactWholeOfUptoRow : OpenClaim := { program := "ytdjdnllnhonjkaa", sum := "32691015406d1aed284fe00dbe9ddf72f44f868cc83b6198cf0f4170e91f36f6", func := "loop.example/g01172/laws.FnExactWholeOf", spec := "fnExactWholeOf", apart := false, narrowed := true }
def FnExactWholeOfUptoSaid : Prop := fnExactWholeOfUptoRow.holds Try.pinned (OpenSpec.upto fnExactWholeOfSpec)

/-- 'laws.FnExactCompareWholes', WHERE WHAT IT READS IS OF BULK AT MOST 1048576: true; the input reads as it did. -/
def fnExactCompareWholesUptoRow : OpenClaim := { program := "ytdjdnllnhonjkaa", sum := "32691015406d1aed284fe00dbe9ddf72f44f868cc83b6198cf0f4170e91f36f6", func := "loop.example/g01172/laws.FnExactCompareWholes", spec := "fnExactCompareWholes", apart := false, narrowed := true }
def FnExactCompareWholesUptoSaid : Prop := fnExactCompareWholesUptoRow.holds Try.pinned (OpenSpec.upto fnExactCompareWholesSpec)

/-- 'laws.FnExactIntegerOf', WHERE WHAT IT READS IS OF BULK AT MOST 1048576: true; the input reads as it did. -/
def fnExactIntegerOfUptoRow : OpenClaim := { program := "ytdjdnllnhonjkaa", sum := "32691015406d1aed284fe00dbe9ddf72f44f868cc83b6198cf0f4170e91f36f6", func := "loop.example/g01172/laws.FnExactIntegerOf", spec := "fnExactIntegerOf", apart := false, narrowed := true }
def FnExactIntegerOfUptoSaid : Prop := fnExactIntegerOfUptoRow.holds Try.pinned (OpenSpec.upto fnExactIntegerOfSpec)

/-- 'laws.FnExactParseWhole', WHERE WHAT IT READS IS OF BULK AT MOST 1048576: true; the input reads as it did. -/
def fnExactParseWholeUptoRow : OpenClaim := { program := "ytdjdnllnhonjkaa", sum := "32691015406d1aed284fe00dbe9ddf72f44f868cc83b6198cf0f4170e91f36f6", func := "loop.example/g01172/laws.FnExactParseWhole", spec := "fnExactParseWhole", apart := false, narrowed := true }
def FnExactParseWholeUptoSaid : Prop := fnExactParseWholeUptoRow.holds Try.pinned (OpenSpec.upto fnExactParseWholeSpec)

/-- 'laws.FnExactWholeText', WHERE WHAT IT READS IS OF BULK AT MOST 1048576: true; the input reads as it did. -/
def fnExactWholeTextUptoRow : OpenClaim := { program := "ytdjdnllnhonjkaa", sum := "32691015406d1aed284fe00dbe9ddf72f44f868cc83b6198cf0f4170e91f36f6", func := "loop.example/g01172/laws.FnExactWholeText", spec := "fnExactWholeText", recurses := true, apart := false, narrowed := true }
def FnExactWholeTextUptoSaid : Prop := fnExactWholeTextUptoRow.holds Try.pinned (OpenSpec.upto fnExactWholeTextSpec)

/-- 'laws.FnExactMultiplyWholes', WHERE WHAT IT READS IS OF BULK AT MOST 1048576: true; the input reads as it did. -/
def fnExactMultiplyWholesUptoRow : OpenClaim := { program := "ytdjdnllnhonjkaa", sum := "32691015406d1aed284fe00dbe9ddf72f44f868cc83b6198cf0f4170e91f36f6", func := "loop.example/g01172/laws.FnExactMultiplyWholes", spec := "fnExactMultiplyWholes", apart := false, narrowed := true }
def FnExactMultiplyWholesUptoSaid : Prop := fnExactMultiplyWholesUptoRow.holds Try.pinned (OpenSpec.upto fnExactMultiplyWholesSpec)

/-- 'laws.FnExactAddWholes', WHERE WHAT IT READS IS OF BULK AT MOST 1048576: true; the input reads as it did. -/
def fnExactAddWholesUptoRow : OpenClaim := { program := "ytdjdnllnhonjkaa", sum := "32691015406d1aed284fe00dbe9ddf72f44f868cc83b6198cf0f4170e91f36f6", func := "loop.example/g01172/laws.FnExactAddWholes", spec := "fnExactAddWholes", apart := false, narrowed := true }
def FnExactAddWholesUptoSaid : Prop := fnExactAddWholesUptoRow.holds Try.pinned (OpenSpec.upto fnExactAddWholesSpec)

/-- 'laws.FnExactSubtractWholes', WHERE WHAT IT READS IS OF BULK AT MOST 1048576: true; the input reads as it did. -/
def fnExactSubtractWholesUptoRow : OpenClaim := { program := "ytdjdnllnhonjkaa", sum := "32691015406d1aed284fe00dbe9ddf72f44f868cc83b6198cf0f4170e91f36f6", func := "loop.example/g01172/laws.FnExactSubtractWholes", spec := "fnExactSubtractWholes", apart := false, narrowed := true }
def FnExactSubtractWholesUptoSaid : Prop := fnExactSubtractWholesUptoRow.holds Try.pinned (OpenSpec.upto fnExactSubtractWholesSpec)

/-- 'laws.FnExactShiftWhole', WHERE WHAT IT READS IS OF BULK AT MOST 1048576: true; the input reads as it did. -/
def fnExactShiftWholeUptoRow : OpenClaim := { program := "ytdjdnllnhonjkaa", sum := "32691015406d1aed284fe00dbe9ddf72f44f868cc83b6198cf0f4170e91f36f6", func := "loop.example/g01172/laws.FnExactShiftWhole", spec := "fnExactShiftWhole", apart := false, narrowed := true }
def FnExactShiftWholeUptoSaid : Prop := fnExactShiftWholeUptoRow.holds Try.pinned (OpenSpec.upto fnExactShiftWholeSpec)

/-- 'laws.FnExactDivideWholes', WHERE WHAT IT READS IS OF BULK AT MOST 1048576: true; the input reads as it did. -/
def fnExactDivideWholesUptoRow : OpenClaim := { program := "ytdjdnllnhonjkaa", sum := "32691015406d1aed284fe00dbe9ddf72f44f868cc83b6198cf0f4170e91f36f6", func := "loop.example/g01172/laws.FnExactDivideWholes", spec := "fnExactDivideWholes", apart := false, narrowed := true }
def FnExactDivideWholesUptoSaid : Prop := fnExactDivideWholesUptoRow.holds Try.pinned (OpenSpec.upto fnExactDivideWholesSpec)

/-- 'laws.FnExactRootOfWhole', WHERE WHAT IT READS IS OF BULK AT MOST 1048576: true; the input reads as it did. -/
def fnExactRootOfWholeUptoRow : OpenClaim := { program := "ytdjdnllnhonjkaa", sum := "32691015406d1aed284fe00dbe9ddf72f44f868cc83b6198cf0f4170e91f36f6", func := "loop.example/g01172/laws.FnExactRootOfWhole", spec := "fnExactRootOfWhole", apart := false, narrowed := true }
def FnExactRootOfWholeUptoSaid : Prop := fnExactRootOfWholeUptoRow.holds Try.pinned (OpenSpec.upto fnExactRootOfWholeSpec)

/-- 'laws.FnWholes', WHERE WHAT IT READS IS OF BULK AT MOST 1048576: true; the input reads as it did. -/
def fnWholesUptoRow : OpenClaim := { program := "ytdjdnllnhonjkaa", sum := "32691015406d1aed284fe00dbe9ddf72f44f868cc83b6198cf0f4170e91f36f6", func := "loop.example/g01172/laws.FnWholes", spec := "fnWholes", apart := false, narrowed := true }
def FnWholesUptoSaid : Prop := fnWholesUptoRow.holds Try.pinned (OpenSpec.upto fnWholesSpec)

/-- 'laws.FnWholeRoots', WHERE WHAT IT READS IS OF BULK AT MOST 1048576: true; the input reads as it did. -/
def fnWholeRootsUptoRow : OpenClaim := { program := "ytdjdnllnhonjkaa", sum := "32691015406d1aed284fe00dbe9ddf72f44f868cc83b6198cf0f4170e91f36f6", func := "loop.example/g01172/laws.FnWholeRoots", spec := "fnWholeRoots", recurses := true, apart := false, narrowed := true }
def FnWholeRootsUptoSaid : Prop := fnWholeRootsUptoRow.holds Try.pinned (OpenSpec.upto fnWholeRootsSpec)

end Rows
end Go.Proofs.Ytdjdnllnhonjkaa
