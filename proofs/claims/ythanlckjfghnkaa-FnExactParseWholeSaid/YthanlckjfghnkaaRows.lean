/-
  No cell of these rows narrows 'for every input' (looked for: loops, veiled, ifaces, maps, wideKeys, modest, calm, conditions, laid).
  DERIVED. THE GIVEN ROWS OF THIS SEAT. 4 by the template 'for every input the law returns true; each argument reads behind the call as it read before'; 0 by the template 'total and deterministic' (their statements: YthanlckjfghnkaaTotals.lean).
  GIVEN WITH THE SEED: the statements are not yours to turn. If you find one false, say at which input.
  Laid BY PROGRAM, IN A SANDBOX (cutbox-rows.mjs): the forced cells as the released guide's own fill.sh prints them over the translation 1ca08edd2bec3f0f… (all of the seat's roots in one cut). By AI agents, Wed Nov 11 2026. No macro, syntax, notation, axiom, sorry.
-/
import Derived.Test.YthanlckjfghnkaaChecked
import GoSem.Claim
import GoSem.ClaimJoined
import GoSem.ClaimMapViews
import Derived.JoinedTies
import Derived.KernelRfl
namespace Go.Proofs.Ythanlckjfghnkaa
/- THE CELL 'sum', in the pinned program and in every row, IS THE sha256 OF THE DUMP (.gsa) THAT YthanlckjfghnkaaProg.lean LOADS. Nothing in Lean hashes anything: it is a label: what it is worth is what the hold of that sum in a sandbox is worth. -/
noncomputable def Try.pinned : Pinned := { name := "ythanlckjfghnkaa", sum := "1ca08edd2bec3f0fbe75ac703c74ccc59af95dc16a3fc9124cc636ba6b0a46f8", checked := Try.checked }
namespace Rows
def none {H : Type} : Left H := { results := [], args := [] }

/-- 'laws.FnExactRootOfWhole': WHATEVER THE INPUT: true; the input reads as it did. -/
def fnExactRootOfWholeSpec : ChangeSpec := { name := "fnExactRootOfWhole", fn := fun _ => fun
  | [d] => { results := [.lit (.bool true)], args := [d] }
  | _ => none }
def fnExactRootOfWholeRow : OpenClaim := { program := "ythanlckjfghnkaa", sum := "1ca08edd2bec3f0fbe75ac703c74ccc59af95dc16a3fc9124cc636ba6b0a46f8", func := "loop.example/g01172/laws.FnExactRootOfWhole", spec := "fnExactRootOfWhole", apart := false }
def FnExactRootOfWholeSaid : Prop := fnExactRootOfWholeRow.holds Try.pinned (OpenSpec.ofChange fnExactRootOfWholeSpec)

/-- ITS FALSE NEIGHBOUR: 'it returns false'. Refute it at one input. -/
def fnExactRootOfWholeWrong : ChangeSpec := { name := "fnExactRootOfWhole", fn := fun _ => fun
  | [d] => { results := [.lit (.bool false)], args := [d] }
  | _ => none }
def FnExactRootOfWholeWrongFalsely : Prop := fnExactRootOfWholeRow.holds Try.pinned (OpenSpec.ofChange fnExactRootOfWholeWrong)

/-- 'laws.FnExactParseWhole': WHATEVER THE INPUT: true; the input reads as it did. -/
def fnExactParseWholeSpec : ChangeSpec := { name := "fnExactParseWhole", fn := fun _ => fun
  | [d] => { results := [.lit (.bool true)], args := [d] }
  | _ => none }
def fnExactParseWholeRow : OpenClaim := { program := "ythanlckjfghnkaa", sum := "1ca08edd2bec3f0fbe75ac703c74ccc59af95dc16a3fc9124cc636ba6b0a46f8", func := "loop.example/g01172/laws.FnExactParseWhole", spec := "fnExactParseWhole", apart := false }
def FnExactParseWholeSaid : Prop := fnExactParseWholeRow.holds Try.pinned (OpenSpec.ofChange fnExactParseWholeSpec)

/-- ITS FALSE NEIGHBOUR: 'it returns false'. Refute it at one input. -/
def fnExactParseWholeWrong : ChangeSpec := { name := "fnExactParseWhole", fn := fun _ => fun
  | [d] => { results := [.lit (.bool false)], args := [d] }
  | _ => none }
def FnExactParseWholeWrongFalsely : Prop := fnExactParseWholeRow.holds Try.pinned (OpenSpec.ofChange fnExactParseWholeWrong)

/-- 'laws.FnExactDivideWholes': WHATEVER THE INPUT: true; the input reads as it did. -/
def fnExactDivideWholesSpec : ChangeSpec := { name := "fnExactDivideWholes", fn := fun _ => fun
  | [d1, d2] => { results := [.lit (.bool true)], args := [d1, d2] }
  | _ => none }
def fnExactDivideWholesRow : OpenClaim := { program := "ythanlckjfghnkaa", sum := "1ca08edd2bec3f0fbe75ac703c74ccc59af95dc16a3fc9124cc636ba6b0a46f8", func := "loop.example/g01172/laws.FnExactDivideWholes", spec := "fnExactDivideWholes", apart := false }
def FnExactDivideWholesSaid : Prop := fnExactDivideWholesRow.holds Try.pinned (OpenSpec.ofChange fnExactDivideWholesSpec)

/-- ITS FALSE NEIGHBOUR: 'it returns false'. Refute it at one input. -/
def fnExactDivideWholesWrong : ChangeSpec := { name := "fnExactDivideWholes", fn := fun _ => fun
  | [d1, d2] => { results := [.lit (.bool false)], args := [d1, d2] }
  | _ => none }
def FnExactDivideWholesWrongFalsely : Prop := fnExactDivideWholesRow.holds Try.pinned (OpenSpec.ofChange fnExactDivideWholesWrong)

/-- 'laws.FnExactQuotientBelow': WHATEVER THE INPUT: true; the input reads as it did. -/
def fnExactQuotientBelowSpec : ChangeSpec := { name := "fnExactQuotientBelow", fn := fun _ => fun
  | [d1, d2, d3] => { results := [.lit (.bool true)], args := [d1, d2, d3] }
  | _ => none }
def fnExactQuotientBelowRow : OpenClaim := { program := "ythanlckjfghnkaa", sum := "1ca08edd2bec3f0fbe75ac703c74ccc59af95dc16a3fc9124cc636ba6b0a46f8", func := "loop.example/g01172/laws.FnExactQuotientBelow", spec := "fnExactQuotientBelow", apart := false }
def FnExactQuotientBelowSaid : Prop := fnExactQuotientBelowRow.holds Try.pinned (OpenSpec.ofChange fnExactQuotientBelowSpec)

/-- ITS FALSE NEIGHBOUR: 'it returns false'. Refute it at one input. -/
def fnExactQuotientBelowWrong : ChangeSpec := { name := "fnExactQuotientBelow", fn := fun _ => fun
  | [d1, d2, d3] => { results := [.lit (.bool false)], args := [d1, d2, d3] }
  | _ => none }
def FnExactQuotientBelowWrongFalsely : Prop := fnExactQuotientBelowRow.holds Try.pinned (OpenSpec.ofChange fnExactQuotientBelowWrong)

/- THE SECOND FORM. 'bulk': how many values and letters a reading holds, each counted each time it is reached (what is shared counts as often as it is met; a slice's spare places count too). A statement '..UptoSaid' is the law's where the arguments, and the package variables that the reading takes, are together of bulk at most 1048576: NARROWER than '..Said'. Prove '..Said' where nothing that the law and all that it calls make is longer than what came in: it says more and counts as full. Else prove '..UptoSaid'. A law counts once. -/
mutual
def uptoBulk {H : Type} : DataW H → Nat
  | .lit (.string bytes) => bytes.length + 1
  | .lit _ => 1
  | .nil => 1
  | .ptr d => uptoBulk d + 1
  | .slice elems spare => uptoBulkAll elems + uptoBulkAll spare + 1
  | .agg parts => uptoBulkAll parts + 1
  | .iface _ d => uptoBulk d + 1
  | .map entries => uptoBulkEntries entries + 1
  | .held _ => 1
def uptoBulkAll {H : Type} : List (DataW H) → Nat
  | [] => 0
  | d :: r => uptoBulk d + uptoBulkAll r
def uptoBulkEntries {H : Type} : List (Lit × DataW H) → Nat
  | [] => 0
  | x :: r => uptoBulkEntry x + uptoBulkEntries r
def uptoBulkEntry {H : Type} : Lit × DataW H → Nat
  | (.string bytes, d) => bytes.length + uptoBulk d + 1
  | (_, d) => uptoBulk d + 1
 end
def uptoSmall : (H : Type) → List (DataW H) → Bool := fun _ ds => decide (uptoBulkAll ds ≤ 1048576)
def OpenSpec.upto (s : _root_.Go.ChangeSpec) : _root_.Go.OpenSpec := { _root_.Go.OpenSpec.ofChange s with cond := some uptoSmall }

/-- 'laws.FnExactRootOfWhole', WHERE WHAT IT READS IS OF BULK AT MOST 1048576: true; the input reads as it did. -/
def fnExactRootOfWholeUptoRow : OpenClaim := { program := "ythanlckjfghnkaa", sum := "1ca08edd2bec3f0fbe75ac703c74ccc59af95dc16a3fc9124cc636ba6b0a46f8", func := "loop.example/g01172/laws.FnExactRootOfWhole", spec := "fnExactRootOfWhole", apart := false, narrowed := true }
def FnExactRootOfWholeUptoSaid : Prop := fnExactRootOfWholeUptoRow.holds Try.pinned (OpenSpec.upto fnExactRootOfWholeSpec)

/-- 'laws.FnExactParseWhole', WHERE WHAT IT READS IS OF BULK AT MOST 1048576: true; the input reads as it did. -/
def fnExactParseWholeUptoRow : OpenClaim := { program := "ythanlckjfghnkaa", sum := "1ca08edd2bec3f0fbe75ac703c74ccc59af95dc16a3fc9124cc636ba6b0a46f8", func := "loop.example/g01172/laws.FnExactParseWhole", spec := "fnExactParseWhole", apart := false, narrowed := true }
def FnExactParseWholeUptoSaid : Prop := fnExactParseWholeUptoRow.holds Try.pinned (OpenSpec.upto fnExactParseWholeSpec)

/-- 'laws.FnExactDivideWholes', WHERE WHAT IT READS IS OF BULK AT MOST 1048576: true; the input reads as it did. -/
def fnExactDivideWholesUptoRow : OpenClaim := { program := "ythanlckjfghnkaa", sum := "1ca08edd2bec3f0fbe75ac703c74ccc59af95dc16a3fc9124cc636ba6b0a46f8", func := "loop.example/g01172/laws.FnExactDivideWholes", spec := "fnExactDivideWholes", apart := false, narrowed := true }
def FnExactDivideWholesUptoSaid : Prop := fnExactDivideWholesUptoRow.holds Try.pinned (OpenSpec.upto fnExactDivideWholesSpec)

/-- 'laws.FnExactQuotientBelow', WHERE WHAT IT READS IS OF BULK AT MOST 1048576: true; the input reads as it did. -/
def fnExactQuotientBelowUptoRow : OpenClaim := { program := "ythanlckjfghnkaa", sum := "1ca08edd2bec3f0fbe75ac703c74ccc59af95dc16a3fc9124cc636ba6b0a46f8", func := "loop.example/g01172/laws.FnExactQuotientBelow", spec := "fnExactQuotientBelow", apart := false, narrowed := true }
def FnExactQuotientBelowUptoSaid : Prop := fnExactQuotientBelowUptoRow.holds Try.pinned (OpenSpec.upto fnExactQuotientBelowSpec)

end Rows
end Go.Proofs.Ythanlckjfghnkaa
