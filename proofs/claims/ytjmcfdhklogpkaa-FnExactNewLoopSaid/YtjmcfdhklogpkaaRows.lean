/-
  No cell of these rows narrows 'for every input' (looked for: loops, veiled, ifaces, maps, wideKeys, modest, calm, conditions, laid).
  DERIVED. THE GIVEN ROWS OF THIS SEAT. 9 by the template 'for every input the law returns true; each argument reads behind the call as it read before'; 0 by the template 'total and deterministic' (their statements: YtjmcfdhklogpkaaTotals.lean).
  GIVEN WITH THE SEED: the statements are not yours to turn. If you find one false, say at which input.
  Laid BY PROGRAM, IN A SANDBOX (cutbox-rows.mjs): the forced cells as the released guide's own fill.sh prints them over the translation 04022a96fca0bc66… (all of the seat's roots in one cut). By AI agents, Wed Nov 11 2026. No macro, syntax, notation, axiom, sorry.
-/
import Derived.Test.YtjmcfdhklogpkaaChecked
import GoSem.Claim
import GoSem.ClaimJoined
import GoSem.ClaimMapViews
import Derived.JoinedTies
import Derived.KernelRfl
namespace Go.Proofs.Ytjmcfdhklogpkaa
/- THE CELL 'sum', in the pinned program and in every row, IS THE sha256 OF THE DUMP (.gsa) THAT YtjmcfdhklogpkaaProg.lean LOADS. Nothing in Lean hashes anything: it is a label: what it is worth is what the hold of that sum in a sandbox is worth. -/
noncomputable def Try.pinned : Pinned := { name := "ytjmcfdhklogpkaa", sum := "04022a96fca0bc66814b341845c4474823a98c054a56c724baade851268decc7", checked := Try.checked }
namespace Rows
def none {H : Type} : Left H := { results := [], args := [] }

/-- 'laws.FnExactRefsIn': WHATEVER THE INPUT: true; the input reads as it did. -/
def fnExactRefsInSpec : ChangeSpec := { name := "fnExactRefsIn", fn := fun _ => fun
  | [d] => { results := [.lit (.bool true)], args := [d] }
  | _ => none }
def fnExactRefsInRow : OpenClaim := { program := "ytjmcfdhklogpkaa", sum := "04022a96fca0bc66814b341845c4474823a98c054a56c724baade851268decc7", func := "loop.example/g00591/laws.FnExactRefsIn", spec := "fnExactRefsIn", apart := false }
def FnExactRefsInSaid : Prop := fnExactRefsInRow.holds Try.pinned (OpenSpec.ofChange fnExactRefsInSpec)

/-- ITS FALSE NEIGHBOUR: 'it returns false'. Refute it at one input. -/
def fnExactRefsInWrong : ChangeSpec := { name := "fnExactRefsIn", fn := fun _ => fun
  | [d] => { results := [.lit (.bool false)], args := [d] }
  | _ => none }
def FnExactRefsInWrongFalsely : Prop := fnExactRefsInRow.holds Try.pinned (OpenSpec.ofChange fnExactRefsInWrong)

/-- 'laws.FnLinks': WHATEVER THE INPUT: true; the input reads as it did. -/
def fnLinksSpec : ChangeSpec := { name := "fnLinks", fn := fun _ => fun
  | [d] => { results := [.lit (.bool true)], args := [d] }
  | _ => none }
def fnLinksRow : OpenClaim := { program := "ytjmcfdhklogpkaa", sum := "04022a96fca0bc66814b341845c4474823a98c054a56c724baade851268decc7", func := "loop.example/g00591/laws.FnLinks", spec := "fnLinks", unfollowed := true, recurses := true, apart := false }
def FnLinksSaid : Prop := fnLinksRow.holds Try.pinned (OpenSpec.ofChange fnLinksSpec)

/-- ITS FALSE NEIGHBOUR: 'it returns false'. Refute it at one input. -/
def fnLinksWrong : ChangeSpec := { name := "fnLinks", fn := fun _ => fun
  | [d] => { results := [.lit (.bool false)], args := [d] }
  | _ => none }
def FnLinksWrongFalsely : Prop := fnLinksRow.holds Try.pinned (OpenSpec.ofChange fnLinksWrong)

/-- 'laws.FnExactEqualOutputs': WHATEVER THE INPUT: true; the input reads as it did. -/
def fnExactEqualOutputsSpec : ChangeSpec := { name := "fnExactEqualOutputs", fn := fun _ => fun
  | [d1, d2] => { results := [.lit (.bool true)], args := [d1, d2] }
  | _ => none }
def fnExactEqualOutputsRow : OpenClaim := { program := "ytjmcfdhklogpkaa", sum := "04022a96fca0bc66814b341845c4474823a98c054a56c724baade851268decc7", func := "loop.example/g00591/laws.FnExactEqualOutputs", spec := "fnExactEqualOutputs", unfollowed := true, recurses := true, apart := false }
def FnExactEqualOutputsSaid : Prop := fnExactEqualOutputsRow.holds Try.pinned (OpenSpec.ofChange fnExactEqualOutputsSpec)

/-- ITS FALSE NEIGHBOUR: 'it returns false'. Refute it at one input. -/
def fnExactEqualOutputsWrong : ChangeSpec := { name := "fnExactEqualOutputs", fn := fun _ => fun
  | [d1, d2] => { results := [.lit (.bool false)], args := [d1, d2] }
  | _ => none }
def FnExactEqualOutputsWrongFalsely : Prop := fnExactEqualOutputsRow.holds Try.pinned (OpenSpec.ofChange fnExactEqualOutputsWrong)

/-- 'laws.FnExactCellValue': WHATEVER THE INPUT: true; the input reads as it did. -/
def fnExactCellValueSpec : ChangeSpec := { name := "fnExactCellValue", fn := fun _ => fun
  | [d1, d2] => { results := [.lit (.bool true)], args := [d1, d2] }
  | _ => none }
def fnExactCellValueRow : OpenClaim := { program := "ytjmcfdhklogpkaa", sum := "04022a96fca0bc66814b341845c4474823a98c054a56c724baade851268decc7", func := "loop.example/g00591/laws.FnExactCellValue", spec := "fnExactCellValue", apart := false }
def FnExactCellValueSaid : Prop := fnExactCellValueRow.holds Try.pinned (OpenSpec.ofChange fnExactCellValueSpec)

/-- ITS FALSE NEIGHBOUR: 'it returns false'. Refute it at one input. -/
def fnExactCellValueWrong : ChangeSpec := { name := "fnExactCellValue", fn := fun _ => fun
  | [d1, d2] => { results := [.lit (.bool false)], args := [d1, d2] }
  | _ => none }
def FnExactCellValueWrongFalsely : Prop := fnExactCellValueRow.holds Try.pinned (OpenSpec.ofChange fnExactCellValueWrong)

/-- 'laws.FnExactIsKeptLoop': WHATEVER THE INPUT: true; the input reads as it did. -/
def fnExactIsKeptLoopSpec : ChangeSpec := { name := "fnExactIsKeptLoop", fn := fun _ => fun
  | [d] => { results := [.lit (.bool true)], args := [d] }
  | _ => none }
def fnExactIsKeptLoopRow : OpenClaim := { program := "ytjmcfdhklogpkaa", sum := "04022a96fca0bc66814b341845c4474823a98c054a56c724baade851268decc7", func := "loop.example/g00591/laws.FnExactIsKeptLoop", spec := "fnExactIsKeptLoop", apart := false }
def FnExactIsKeptLoopSaid : Prop := fnExactIsKeptLoopRow.holds Try.pinned (OpenSpec.ofChange fnExactIsKeptLoopSpec)

/-- ITS FALSE NEIGHBOUR: 'it returns false'. Refute it at one input. -/
def fnExactIsKeptLoopWrong : ChangeSpec := { name := "fnExactIsKeptLoop", fn := fun _ => fun
  | [d] => { results := [.lit (.bool false)], args := [d] }
  | _ => none }
def FnExactIsKeptLoopWrongFalsely : Prop := fnExactIsKeptLoopRow.holds Try.pinned (OpenSpec.ofChange fnExactIsKeptLoopWrong)

/-- 'laws.FnExactSameShape': WHATEVER THE INPUT: true; the input reads as it did. -/
def fnExactSameShapeSpec : ChangeSpec := { name := "fnExactSameShape", fn := fun _ => fun
  | [d1, d2] => { results := [.lit (.bool true)], args := [d1, d2] }
  | _ => none }
def fnExactSameShapeRow : OpenClaim := { program := "ytjmcfdhklogpkaa", sum := "04022a96fca0bc66814b341845c4474823a98c054a56c724baade851268decc7", func := "loop.example/g00591/laws.FnExactSameShape", spec := "fnExactSameShape", unfollowed := true, recurses := true, apart := false }
def FnExactSameShapeSaid : Prop := fnExactSameShapeRow.holds Try.pinned (OpenSpec.ofChange fnExactSameShapeSpec)

/-- ITS FALSE NEIGHBOUR: 'it returns false'. Refute it at one input. -/
def fnExactSameShapeWrong : ChangeSpec := { name := "fnExactSameShape", fn := fun _ => fun
  | [d1, d2] => { results := [.lit (.bool false)], args := [d1, d2] }
  | _ => none }
def FnExactSameShapeWrongFalsely : Prop := fnExactSameShapeRow.holds Try.pinned (OpenSpec.ofChange fnExactSameShapeWrong)

/-- 'laws.FnExactTargetAt': WHATEVER THE INPUT: true; the input reads as it did. -/
def fnExactTargetAtSpec : ChangeSpec := { name := "fnExactTargetAt", fn := fun _ => fun
  | [d1, d2, d3] => { results := [.lit (.bool true)], args := [d1, d2, d3] }
  | _ => none }
def fnExactTargetAtRow : OpenClaim := { program := "ytjmcfdhklogpkaa", sum := "04022a96fca0bc66814b341845c4474823a98c054a56c724baade851268decc7", func := "loop.example/g00591/laws.FnExactTargetAt", spec := "fnExactTargetAt", unfollowed := true, recurses := true, apart := false }
def FnExactTargetAtSaid : Prop := fnExactTargetAtRow.holds Try.pinned (OpenSpec.ofChange fnExactTargetAtSpec)

/-- ITS FALSE NEIGHBOUR: 'it returns false'. Refute it at one input. -/
def fnExactTargetAtWrong : ChangeSpec := { name := "fnExactTargetAt", fn := fun _ => fun
  | [d1, d2, d3] => { results := [.lit (.bool false)], args := [d1, d2, d3] }
  | _ => none }
def FnExactTargetAtWrongFalsely : Prop := fnExactTargetAtRow.holds Try.pinned (OpenSpec.ofChange fnExactTargetAtWrong)

/-- 'laws.FnExactIsVat': WHATEVER THE INPUT: true; the input reads as it did. -/
def fnExactIsVatSpec : ChangeSpec := { name := "fnExactIsVat", fn := fun _ => fun
  | [d] => { results := [.lit (.bool true)], args := [d] }
  | _ => none }
def fnExactIsVatRow : OpenClaim := { program := "ytjmcfdhklogpkaa", sum := "04022a96fca0bc66814b341845c4474823a98c054a56c724baade851268decc7", func := "loop.example/g00591/laws.FnExactIsVat", spec := "fnExactIsVat", unfollowed := true, recurses := true, apart := false }
def FnExactIsVatSaid : Prop := fnExactIsVatRow.holds Try.pinned (OpenSpec.ofChange fnExactIsVatSpec)

/-- ITS FALSE NEIGHBOUR: 'it returns false'. Refute it at one input. -/
def fnExactIsVatWrong : ChangeSpec := { name := "fnExactIsVat", fn := fun _ => fun
  | [d] => { results := [.lit (.bool false)], args := [d] }
  | _ => none }
def FnExactIsVatWrongFalsely : Prop := fnExactIsVatRow.holds Try.pinned (OpenSpec.ofChange fnExactIsVatWrong)

/-- 'laws.FnExactNewLoop': WHATEVER THE INPUT: true; the input reads as it did. -/
def fnExactNewLoopSpec : ChangeSpec := { name := "fnExactNewLoop", fn := fun _ => fun
  | [d1, d2] => { results := [.lit (.bool true)], args := [d1, d2] }
  | _ => none }
def fnExactNewLoopRow : OpenClaim := { program := "ytjmcfdhklogpkaa", sum := "04022a96fca0bc66814b341845c4474823a98c054a56c724baade851268decc7", func := "loop.example/g00591/laws.FnExactNewLoop", spec := "fnExactNewLoop", apart := false }
def FnExactNewLoopSaid : Prop := fnExactNewLoopRow.holds Try.pinned (OpenSpec.ofChange fnExactNewLoopSpec)

/-- ITS FALSE NEIGHBOUR: 'it returns false'. Refute it at one input. -/
def fnExactNewLoopWrong : ChangeSpec := { name := "fnExactNewLoop", fn := fun _ => fun
  | [d1, d2] => { results := [.lit (.bool false)], args := [d1, d2] }
  | _ => none }
def FnExactNewLoopWrongFalsely : Prop := fnExactNewLoopRow.holds Try.pinned (OpenSpec.ofChange fnExactNewLoopWrong)

/- THE SECOND FORM. 'bulk': how many values and letters a reading holds, each counted each time it is reached (what is shared counts as often as it is met; a slice's spare places count too). A statement '..UptoSaid' is the law's where the arguments, and the package variables that the reading takes, are together of bulk at most 1048576: NARROWER than '..Said'. Prove '..Said' where nothing that the law and all that it calls make is longer than what came in: it says more and counts as full. Else prove '..UptoSaid'. A law counts once. -/
mutual
def uptoBulk {H : Type} : DataW H → Nat
  | .lit (.string bytes) => bytes.length + 1
  | .lit _ => 1
  | .nil => 1
  | .ptr d => uptoBulk d + 1
  | .slice elems spare => uptoBulkAll elems + uptoBulkAll spare + 1
  | .agg parts => uptoBulkAll parts + 1
  | .iface _ d => uptoBulk d + 1
  | .map entries => uptoBulkEntries entries + 1
  | .held _ => 1
def uptoBulkAll {H : Type} : List (DataW H) → Nat
  | [] => 0
  | d :: r => uptoBulk d + uptoBulkAll r
def uptoBulkEntries {H : Type} : List (Lit × DataW H) → Nat
  | [] => 0
  | x :: r => uptoBulkEntry x + uptoBulkEntries r
def uptoBulkEntry {H : Type} : Lit × DataW H → Nat
  | (.string bytes, d) => bytes.length + uptoBulk d + 1
  | (_, d) => uptoBulk d + 1
 end
def uptoSmall : (H : Type) → List (DataW H) → Bool := fun _ ds => decide (uptoBulkAll ds ≤ 1048576)
def OpenSpec.upto (s : _root_.Go.ChangeSpec) : _root_.Go.OpenSpec := { _root_.Go.OpenSpec.ofChange s with cond := some uptoSmall }

/-- 'laws.FnExactRefsIn', WHERE WHAT IT READS IS OF BULK AT MOST 1048576: true; the input reads as it did. -/
def fnExactRefsInUptoRow : OpenClaim := { program := "ytjmcfdhklogpkaa", sum := "04022a96fca0bc66814b341845c4474823a98c054a56c724baade851268decc7", func := "loop.example/g00591/laws.FnExactRefsIn", spec := "fnExactRefsIn", apart := false, narrowed := true }
def FnExactRefsInUptoSaid : Prop := fnExactRefsInUptoRow.holds Try.pinned (OpenSpec.upto fnExactRefsInSpec)

/-- 'laws.FnLinks', WHERE WHAT IT READS IS OF BULK AT MOST 1048576: true; the input reads as it did. -/
def fnLinksUptoRow : OpenClaim := { program := "ytjmcfdhklogpkaa", sum := "04022a96fca0bc66814b341845c4474823a98c054a56c724baade851268decc7", func := "loop.example/g00591/laws.FnLinks", spec := "fnLinks", unfollowed := true, recurses := true, apart := false, narrowed := true }
def FnLinksUptoSaid : Prop := fnLinksUptoRow.holds Try.pinned (OpenSpec.upto fnLinksSpec)

/-- 'laws.FnExactEqualOutputs', WHERE WHAT IT READS IS OF BULK AT MOST 1048576: true; the input reads as it did. -/
def fnExactEqualOutputsUptoRow : OpenClaim := { program := "ytjmcfdhklogpkaa", sum := "04022a96fca0bc66814b341845c4474823a98c054a56c724baade851268decc7", func := "loop.example/g00591/laws.FnExactEqualOutputs", spec := "fnExactEqualOutputs", unfollowed := true, recurses := true, apart := false, narrowed := true }
def FnExactEqualOutputsUptoSaid : Prop := fnExactEqualOutputsUptoRow.holds Try.pinned (OpenSpec.upto fnExactEqualOutputsSpec)

/-- 'laws.FnExactCellValue', WHERE WHAT IT READS IS OF BULK AT MOST 1048576: true; the input reads as it did. -/
def fnExactCellValueUptoRow : OpenClaim := { program := "ytjmcfdhklogpkaa", sum := "04022a96fca0bc66814b341845c4474823a98c054a56c724baade851268decc7", func := "loop.example/g00591/laws.FnExactCellValue", spec := "fnExactCellValue", apart := false, narrowed := true }
def FnExactCellValueUptoSaid : Prop := fnExactCellValueUptoRow.holds Try.pinned (OpenSpec.upto fnExactCellValueSpec)

/-- 'laws.FnExactIsKeptLoop', WHERE WHAT IT READS IS OF BULK AT MOST 1048576: true; the input reads as it did. -/
def fnExactIsKeptLoopUptoRow : OpenClaim := { program := "ytjmcfdhklogpkaa", sum := "04022a96fca0bc66814b341845c4474823a98c054a56c724baade851268decc7", func := "loop.example/g00591/laws.FnExactIsKeptLoop", spec := "fnExactIsKeptLoop", apart := false, narrowed := true }
def FnExactIsKeptLoopUptoSaid : Prop := fnExactIsKeptLoopUptoRow.holds Try.pinned (OpenSpec.upto fnExactIsKeptLoopSpec)

/-- 'laws.FnExactSameShape', WHERE WHAT IT READS IS OF BULK AT MOST 1048576: true; the input reads as it did. -/
def fnExactSameShapeUptoRow : OpenClaim := { program := "ytjmcfdhklogpkaa", sum := "04022a96fca0bc66814b341845c4474823a98c054a56c724baade851268decc7", func := "loop.example/g00591/laws.FnExactSameShape", spec := "fnExactSameShape", unfollowed := true, recurses := true, apart := false, narrowed := true }
def FnExactSameShapeUptoSaid : Prop := fnExactSameShapeUptoRow.holds Try.pinned (OpenSpec.upto fnExactSameShapeSpec)

/-- 'laws.FnExactTargetAt', WHERE WHAT IT READS IS OF BULK AT MOST 1048576: true; the input reads as it did. -/
def fnExactTargetAtUptoRow : OpenClaim := { program := "ytjmcfdhklogpkaa", sum := "04022a96fca0bc66814b341845c4474823a98c054a56c724baade851268decc7", func := "loop.example/g00591/laws.FnExactTargetAt", spec := "fnExactTargetAt", unfollowed := true, recurses := true, apart := false, narrowed := true }
def FnExactTargetAtUptoSaid : Prop := fnExactTargetAtUptoRow.holds Try.pinned (OpenSpec.upto fnExactTargetAtSpec)

/-- 'laws.FnExactIsVat', WHERE WHAT IT READS IS OF BULK AT MOST 1048576: true; the input reads as it did. -/
def fnExactIsVatUptoRow : OpenClaim := { program := "ytjmcfdhklogpkaa", sum := "04022a96fca0bc66814b341845c4474823a98c054a56c724baade851268decc7", func := "loop.example/g00591/laws.FnExactIsVat", spec := "fnExactIsVat", unfollowed := true, recurses := true, apart := false, narrowed := true }
def FnExactIsVatUptoSaid : Prop := fnExactIsVatUptoRow.holds Try.pinned (OpenSpec.upto fnExactIsVatSpec)

/-- 'laws.FnExactNewLoop', WHERE WHAT IT READS IS OF BULK AT MOST 1048576: true; the input reads as it did. -/
def fnExactNewLoopUptoRow : OpenClaim := { program := "ytjmcfdhklogpkaa", sum := "04022a96fca0bc66814b341845c4474823a98c054a56c724baade851268decc7", func := "loop.example/g00591/laws.FnExactNewLoop", spec := "fnExactNewLoop", apart := false, narrowed := true }
def FnExactNewLoopUptoSaid : Prop := fnExactNewLoopUptoRow.holds Try.pinned (OpenSpec.upto fnExactNewLoopSpec)

end Rows
end Go.Proofs.Ytjmcfdhklogpkaa
