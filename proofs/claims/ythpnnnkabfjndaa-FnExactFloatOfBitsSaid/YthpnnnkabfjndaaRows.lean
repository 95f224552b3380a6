/-
  No cell of these rows narrows 'for every input' (looked for: loops, veiled, ifaces, maps, wideKeys, modest, calm, conditions, laid).
  DERIVED. THE GIVEN ROWS OF THIS SEAT. 7 by the template 'for every input the law returns true; each argument reads behind the call as it read before'; 0 by the template 'total and deterministic' (their statements: YthpnnnkabfjndaaTotals.lean).
  GIVEN WITH THE SEED: the statements are not yours to turn. If you find one false, say at which input.
  Laid BY PROGRAM, IN A SANDBOX (cutbox-rows.mjs): the forced cells as the released guide's own fill.sh prints them over the translation a3553854ed5a35cd… (all of the seat's roots in one cut). By AI agents, Wed Nov 11 2026. No macro, syntax, notation, axiom, sorry.
-/
import Derived.Test.YthpnnnkabfjndaaChecked
import GoSem.Claim
import GoSem.ClaimJoined
import GoSem.ClaimMapViews
import Derived.JoinedTies
import Derived.KernelRfl
namespace Go.Proofs.Ythpnnnkabfjndaa
/- THE CELL 'sum', in the pinned program and in every row, IS THE sha256 OF THE DUMP (.gsa) THAT YthpnnnkabfjndaaProg.lean LOADS. Nothing in Lean hashes anything: it is a label: what it is worth is what the hold of that sum in a sandbox is worth. -/
noncomputable def Try.pinned : Pinned := { name := "ythpnnnkabfjndaa", sum := "a3553854ed5a35cdf5541cbbecc1332275407f0fff60a52b4840f240aee202d4", checked := Try.checked }
namespace Rows
def none {H : Type} : Left H := { results := [], args := [] }

/-- 'laws.FnExactConstants': WHATEVER THE INPUT: true; the input reads as it did. -/
def fnExactConstantsSpec : ChangeSpec := { name := "fnExactConstants", fn := fun _ => fun
  | [] => { results := [.lit (.bool true)], args := [] }
  | _ => none }
def fnExactConstantsRow : OpenClaim := { program := "ythpnnnkabfjndaa", sum := "a3553854ed5a35cdf5541cbbecc1332275407f0fff60a52b4840f240aee202d4", func := "loop.example/g01172/laws.FnExactConstants", spec := "fnExactConstants", apart := false }
def FnExactConstantsSaid : Prop := fnExactConstantsRow.holds Try.pinned (OpenSpec.ofChange fnExactConstantsSpec)

/-- ITS FALSE NEIGHBOUR: 'it returns false'. Refute it at one input. -/
def fnExactConstantsWrong : ChangeSpec := { name := "fnExactConstants", fn := fun _ => fun
  | [] => { results := [.lit (.bool false)], args := [] }
  | _ => none }
def FnExactConstantsWrongFalsely : Prop := fnExactConstantsRow.holds Try.pinned (OpenSpec.ofChange fnExactConstantsWrong)

/-- 'laws.FnExactCompareFloats': WHATEVER THE INPUT: true; the input reads as it did. -/
def fnExactCompareFloatsSpec : ChangeSpec := { name := "fnExactCompareFloats", fn := fun _ => fun
  | [d1, d2] => { results := [.lit (.bool true)], args := [d1, d2] }
  | _ => none }
def fnExactCompareFloatsRow : OpenClaim := { program := "ythpnnnkabfjndaa", sum := "a3553854ed5a35cdf5541cbbecc1332275407f0fff60a52b4840f240aee202d4", func := "loop.example/g01172/laws.FnExactCompareFloats", spec := "fnExactCompareFloats", apart := false }
def FnExactCompareFloatsSaid : Prop := fnExactCompareFloatsRow.holds Try.pinned (OpenSpec.ofChange fnExactCompareFloatsSpec)

/-- ITS FALSE NEIGHBOUR: 'it returns false'. Refute it at one input. -/
def fnExactCompareFloatsWrong : ChangeSpec := { name := "fnExactCompareFloats", fn := fun _ => fun
  | [d1, d2] => { results := [.lit (.bool false)], args := [d1, d2] }
  | _ => none }
def FnExactCompareFloatsWrongFalsely : Prop := fnExactCompareFloatsRow.holds Try.pinned (OpenSpec.ofChange fnExactCompareFloatsWrong)

/-- 'laws.FnExactTotalLess': WHATEVER THE INPUT: true; the input reads as it did. -/
def fnExactTotalLessSpec : ChangeSpec := { name := "fnExactTotalLess", fn := fun _ => fun
  | [d1, d2] => { results := [.lit (.bool true)], args := [d1, d2] }
  | _ => none }
def fnExactTotalLessRow : OpenClaim := { program := "ythpnnnkabfjndaa", sum := "a3553854ed5a35cdf5541cbbecc1332275407f0fff60a52b4840f240aee202d4", func := "loop.example/g01172/laws.FnExactTotalLess", spec := "fnExactTotalLess", inPlace := ["math.Float32bits"], apart := false }
def FnExactTotalLessSaid : Prop := fnExactTotalLessRow.holds Try.pinned (OpenSpec.ofChange fnExactTotalLessSpec)

/-- ITS FALSE NEIGHBOUR: 'it returns false'. Refute it at one input. -/
def fnExactTotalLessWrong : ChangeSpec := { name := "fnExactTotalLess", fn := fun _ => fun
  | [d1, d2] => { results := [.lit (.bool false)], args := [d1, d2] }
  | _ => none }
def FnExactTotalLessWrongFalsely : Prop := fnExactTotalLessRow.holds Try.pinned (OpenSpec.ofChange fnExactTotalLessWrong)

/-- 'laws.FnExactFloatAtPlace': WHATEVER THE INPUT: true; the input reads as it did. -/
def fnExactFloatAtPlaceSpec : ChangeSpec := { name := "fnExactFloatAtPlace", fn := fun _ => fun
  | [d] => { results := [.lit (.bool true)], args := [d] }
  | _ => none }
def fnExactFloatAtPlaceRow : OpenClaim := { program := "ythpnnnkabfjndaa", sum := "a3553854ed5a35cdf5541cbbecc1332275407f0fff60a52b4840f240aee202d4", func := "loop.example/g01172/laws.FnExactFloatAtPlace", spec := "fnExactFloatAtPlace", inPlace := ["math.Float32frombits"], recurses := true, apart := false }
def FnExactFloatAtPlaceSaid : Prop := fnExactFloatAtPlaceRow.holds Try.pinned (OpenSpec.ofChange fnExactFloatAtPlaceSpec)

/-- ITS FALSE NEIGHBOUR: 'it returns false'. Refute it at one input. -/
def fnExactFloatAtPlaceWrong : ChangeSpec := { name := "fnExactFloatAtPlace", fn := fun _ => fun
  | [d] => { results := [.lit (.bool false)], args := [d] }
  | _ => none }
def FnExactFloatAtPlaceWrongFalsely : Prop := fnExactFloatAtPlaceRow.holds Try.pinned (OpenSpec.ofChange fnExactFloatAtPlaceWrong)

/-- 'laws.FnExactClassOf': WHATEVER THE INPUT: true; the input reads as it did. -/
def fnExactClassOfSpec : ChangeSpec := { name := "fnExactClassOf", fn := fun _ => fun
  | [d] => { results := [.lit (.bool true)], args := [d] }
  | _ => none }
def fnExactClassOfRow : OpenClaim := { program := "ythpnnnkabfjndaa", sum := "a3553854ed5a35cdf5541cbbecc1332275407f0fff60a52b4840f240aee202d4", func := "loop.example/g01172/laws.FnExactClassOf", spec := "fnExactClassOf", inPlace := ["math.Float32bits"], apart := false }
def FnExactClassOfSaid : Prop := fnExactClassOfRow.holds Try.pinned (OpenSpec.ofChange fnExactClassOfSpec)

/-- ITS FALSE NEIGHBOUR: 'it returns false'. Refute it at one input. -/
def fnExactClassOfWrong : ChangeSpec := { name := "fnExactClassOf", fn := fun _ => fun
  | [d] => { results := [.lit (.bool false)], args := [d] }
  | _ => none }
def FnExactClassOfWrongFalsely : Prop := fnExactClassOfRow.holds Try.pinned (OpenSpec.ofChange fnExactClassOfWrong)

/-- 'laws.FnExactFloatOfBits': WHATEVER THE INPUT: true; the input reads as it did. -/
def fnExactFloatOfBitsSpec : ChangeSpec := { name := "fnExactFloatOfBits", fn := fun _ => fun
  | [d] => { results := [.lit (.bool true)], args := [d] }
  | _ => none }
def fnExactFloatOfBitsRow : OpenClaim := { program := "ythpnnnkabfjndaa", sum := "a3553854ed5a35cdf5541cbbecc1332275407f0fff60a52b4840f240aee202d4", func := "loop.example/g01172/laws.FnExactFloatOfBits", spec := "fnExactFloatOfBits", inPlace := ["math.Float32frombits"], recurses := true, apart := false }
def FnExactFloatOfBitsSaid : Prop := fnExactFloatOfBitsRow.holds Try.pinned (OpenSpec.ofChange fnExactFloatOfBitsSpec)

/-- ITS FALSE NEIGHBOUR: 'it returns false'. Refute it at one input. -/
def fnExactFloatOfBitsWrong : ChangeSpec := { name := "fnExactFloatOfBits", fn := fun _ => fun
  | [d] => { results := [.lit (.bool false)], args := [d] }
  | _ => none }
def FnExactFloatOfBitsWrongFalsely : Prop := fnExactFloatOfBitsRow.holds Try.pinned (OpenSpec.ofChange fnExactFloatOfBitsWrong)

/-- 'laws.FnExactPartsOf': WHATEVER THE INPUT: true; the input reads as it did. -/
def fnExactPartsOfSpec : ChangeSpec := { name := "fnExactPartsOf", fn := fun _ => fun
  | [d] => { results := [.lit (.bool true)], args := [d] }
  | _ => none }
def fnExactPartsOfRow : OpenClaim := { program := "ythpnnnkabfjndaa", sum := "a3553854ed5a35cdf5541cbbecc1332275407f0fff60a52b4840f240aee202d4", func := "loop.example/g01172/laws.FnExactPartsOf", spec := "fnExactPartsOf", inPlace := ["math.Float32bits"], apart := false }
def FnExactPartsOfSaid : Prop := fnExactPartsOfRow.holds Try.pinned (OpenSpec.ofChange fnExactPartsOfSpec)

/-- ITS FALSE NEIGHBOUR: 'it returns false'. Refute it at one input. -/
def fnExactPartsOfWrong : ChangeSpec := { name := "fnExactPartsOf", fn := fun _ => fun
  | [d] => { results := [.lit (.bool false)], args := [d] }
  | _ => none }
def FnExactPartsOfWrongFalsely : Prop := fnExactPartsOfRow.holds Try.pinned (OpenSpec.ofChange fnExactPartsOfWrong)

/- THE SECOND FORM. 'bulk': how many values and letters a reading holds, each counted each time it is reached (what is shared counts as often as it is met; a slice's spare places count too). A statement '..UptoSaid' is the law's where the arguments, and the package variables that the reading takes, are together of bulk at most 1048576: NARROWER than '..Said'. Prove '..Said' where nothing that the law and all that it calls make is longer than what came in: it says more and counts as full. Else prove '..UptoSaid'. A law counts once. -/
mutual
def uptoBulk {H : Type} : DataW H → Nat
  | .lit (.string bytes) => bytes.length + 1
  | .lit _ => 1
  | .nil => 1
  | .ptr d => uptoBulk d + 1
  | .slice elems spare => uptoBulkAll elems + uptoBulkAll spare + 1
  | .agg parts => uptoBulkAll parts + 1
  | .iface _ d => uptoBulk d + 1
  | .map entries => uptoBulkEntries entries + 1
  | .held _ => 1
def uptoBulkAll {H : Type} : List (DataW H) → Nat
  | [] => 0
  | d :: r => uptoBulk d + uptoBulkAll r
def uptoBulkEntries {H : Type} : List (Lit × DataW H) → Nat
  | [] => 0
  | x :: r => uptoBulkEntry x + uptoBulkEntries r
def uptoBulkEntry {H : Type} : Lit × DataW H → Nat
  | (.string bytes, d) => bytes.length + uptoBulk d + 1
  | (_, d) => uptoBulk d + 1
 end
def uptoSmall : (H : Type) → List (DataW H) → Bool := fun _ ds => decide (uptoBulkAll ds ≤ 1048576)
def OpenSpec.upto (s : _root_.Go.ChangeSpec) : _root_.Go.OpenSpec := { _root_.Go.OpenSpec.ofChange s with cond := some uptoSmall }

/-- 'laws.FnExactConstants', WHERE WHAT IT READS IS OF BULK AT MOST 1048576: true; the input reads as it did. -/
def fnExactConstantsUptoRow : OpenClaim := { program := "ythpnnnkabfjndaa", sum := "a3553854ed5a35cdf5541cbbecc1332275407f0fff60a52b4840f240aee202d4", func := "loop.example/g01172/laws.FnExactConstants", spec := "fnExactConstants", apart := false, narrowed := true }
def FnExactConstantsUptoSaid : Prop := fnExactConstantsUptoRow.holds Try.pinned (OpenSpec.upto fnExactConstantsSpec)

/-- 'laws.FnExactCompareFloats', WHERE WHAT IT READS IS OF BULK AT MOST 1048576: true; the input reads as it did. -/
def fnExactCompareFloatsUptoRow : OpenClaim := { program := "ythpnnnkabfjndaa", sum := "a3553854ed5a35cdf5541cbbecc1332275407f0fff60a52b4840f240aee202d4", func := "loop.example/g01172/laws.FnExactCompareFloats", spec := "fnExactCompareFloats", apart := false, narrowed := true }
def FnExactCompareFloatsUptoSaid : Prop := fnExactCompareFloatsUptoRow.holds Try.pinned (OpenSpec.upto fnExactCompareFloatsSpec)

/-- 'laws.FnExactTotalLess', WHERE WHAT IT READS IS OF BULK AT MOST 1048576: true; the input reads as it did. -/
def fnExactTotalLessUptoRow : OpenClaim := { program := "ythpnnnkabfjndaa", sum := "a3553854ed5a35cdf5541cbbecc1332275407f0fff60a52b4840f240aee202d4", func := "loop.example/g01172/laws.FnExactTotalLess", spec := "fnExactTotalLess", inPlace := ["math.Float32bits"], apart := false, narrowed := true }
def FnExactTotalLessUptoSaid : Prop := fnExactTotalLessUptoRow.holds Try.pinned (OpenSpec.upto fnExactTotalLessSpec)

/-- 'laws.FnExactFloatAtPlace', WHERE WHAT IT READS IS OF BULK AT MOST 1048576: true; the input reads as it did. -/
def fnExactFloatAtPlaceUptoRow : OpenClaim := { program := "ythpnnnkabfjndaa", sum := "a3553854ed5a35cdf5541cbbecc1332275407f0fff60a52b4840f240aee202d4", func := "loop.example/g01172/laws.FnExactFloatAtPlace", spec := "fnExactFloatAtPlace", inPlace := ["math.Float32frombits"], recurses := true, apart := false, narrowed := true }
def FnExactFloatAtPlaceUptoSaid : Prop := fnExactFloatAtPlaceUptoRow.holds Try.pinned (OpenSpec.upto fnExactFloatAtPlaceSpec)

/-- 'laws.FnExactClassOf', WHERE WHAT IT READS IS OF BULK AT MOST 1048576: true; the input reads as it did. -/
def fnExactClassOfUptoRow : OpenClaim := { program := "ythpnnnkabfjndaa", sum := "a3553854ed5a35cdf5541cbbecc1332275407f0fff60a52b4840f240aee202d4", func := "loop.example/g01172/laws.FnExactClassOf", spec := "fnExactClassOf", inPlace := ["math.Float32bits"], apart := false, narrowed := true }
def FnExactClassOfUptoSaid : Prop := fnExactClassOfUptoRow.holds Try.pinned (OpenSpec.upto fnExactClassOfSpec)

/-- 'laws.FnExactFloatOfBits', WHERE WHAT IT READS IS OF BULK AT MOST 1048576: true; the input reads as it did. -/
def fnExactFloatOfBitsUptoRow : OpenClaim := { program := "ythpnnnkabfjndaa", sum := "a3553854ed5a35cdf5541cbbecc1332275407f0fff60a52b4840f240aee202d4", func := "loop.example/g01172/laws.FnExactFloatOfBits", spec := "fnExactFloatOfBits", inPlace := ["math.Float32frombits"], recurses := true, apart := false, narrowed := true }
def FnExactFloatOfBitsUptoSaid : Prop := fnExactFloatOfBitsUptoRow.holds Try.pinned (OpenSpec.upto fnExactFloatOfBitsSpec)

/-- 'laws.FnExactPartsOf', WHERE WHAT IT READS IS OF BULK AT MOST 1048576: true; the input reads as it did. -/
def fnExactPartsOfUptoRow : OpenClaim := { program := "ythpnnnkabfjndaa", sum := "a3553854ed5a35cdf5541cbbecc1332275407f0fff60a52b4840f240aee202d4", func := "loop.example/g01172/laws.FnExactPartsOf", spec := "fnExactPartsOf", inPlace := ["math.Float32bits"], apart := false, narrowed := true }
def FnExactPartsOfUptoSaid : Prop := fnExactPartsOfUptoRow.holds Try.pinned (OpenSpec.upto fnExactPartsOfSpec)

end Rows
end Go.Proofs.Ythpnnnkabfjndaa
