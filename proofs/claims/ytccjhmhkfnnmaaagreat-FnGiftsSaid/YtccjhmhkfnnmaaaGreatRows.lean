/-
  No cell of these rows narrows 'for every input' (looked for: loops, veiled, ifaces, maps, wideKeys, modest, calm, conditions, laid).
  DERIVED. THE GIVEN ROWS OF THIS SEAT. 4 by the template 'for every input the law returns true; each argument reads behind the call as it read before'; 0 by the template 'total and deterministic' (their statements: YtccjhmhkfnnmaaaGreatTotals.lean).
  GIVEN WITH THE SEED: the statements are not yours to turn. If you find one false, say at which input.
  Laid BY PROGRAM, IN A SANDBOX (cutbox-rows.mjs): the forced cells as the released guide's own fill.sh prints them over the translation 165b9594cee8bdc6… (all of the seat's roots in one cut). By AI agents, Wed Nov 11 2026. No macro, syntax, notation, axiom, sorry.
-/
import Derived.Test.YtccjhmhkfnnmaaaGreatChecked
import GoSem.Claim
import GoSem.ClaimJoined
import GoSem.ClaimMapViews
import Derived.JoinedTies
import Derived.KernelRfl
namespace Go.Proofs.YtccjhmhkfnnmaaaGreat
/- THE CELL 'sum', in the pinned program and in every row, IS THE sha256 OF THE DUMP (.gsa) THAT YtccjhmhkfnnmaaaGreatProg.lean LOADS. Nothing in Lean hashes anything: it is a label: what it is worth is what the hold of that sum in a sandbox is worth. -/
noncomputable def Tryz.pinned : Pinned := { name := "ytccjhmhkfnnmaaagreat", sum := "165b9594cee8bdc65de2eae8a275f494f2d673cb4aa4a8872c4b3f0144719dfb", checked := Tryz.checked }
namespace Rows
def none {H : Type} : Left H := { results := [], args := [] }

/-- 'laws.FnSends': WHATEVER THE INPUT: true; the input reads as it did. -/
def fnSendsSpec : ChangeSpec := { name := "fnSends", fn := fun _ => fun
  | [d] => { results := [.lit (.bool true)], args := [d] }
  | _ => none }
def fnSendsRow : OpenClaim := { program := "ytccjhmhkfnnmaaagreat", sum := "165b9594cee8bdc65de2eae8a275f494f2d673cb4aa4a8872c4b3f0144719dfb", func := "loop.example/g00591/laws.FnSends", spec := "fnSends", unfollowed := true, recurses := true, apart := false }
def FnSendsSaid : Prop := fnSendsRow.holds Tryz.pinned (OpenSpec.ofChange fnSendsSpec)

/-- ITS FALSE NEIGHBOUR: 'it returns false'. Refute it at one input. -/
def fnSendsWrong : ChangeSpec := { name := "fnSends", fn := fun _ => fun
  | [d] => { results := [.lit (.bool false)], args := [d] }
  | _ => none }
def FnSendsWrongFalsely : Prop := fnSendsRow.holds Tryz.pinned (OpenSpec.ofChange fnSendsWrong)

/-- 'laws.FnGifts': WHATEVER THE INPUT: true; the input reads as it did. -/
def fnGiftsSpec : ChangeSpec := { name := "fnGifts", fn := fun _ => fun
  | [d] => { results := [.lit (.bool true)], args := [d] }
  | _ => none }
def fnGiftsRow : OpenClaim := { program := "ytccjhmhkfnnmaaagreat", sum := "165b9594cee8bdc65de2eae8a275f494f2d673cb4aa4a8872c4b3f0144719dfb", func := "loop.example/g00591/laws.FnGifts", spec := "fnGifts", unfollowed := true, recurses := true, apart := false }
def FnGiftsSaid : Prop := fnGiftsRow.holds Tryz.pinned (OpenSpec.ofChange fnGiftsSpec)

/-- ITS FALSE NEIGHBOUR: 'it returns false'. Refute it at one input. -/
def fnGiftsWrong : ChangeSpec := { name := "fnGifts", fn := fun _ => fun
  | [d] => { results := [.lit (.bool false)], args := [d] }
  | _ => none }
def FnGiftsWrongFalsely : Prop := fnGiftsRow.holds Tryz.pinned (OpenSpec.ofChange fnGiftsWrong)

/-- 'laws.FnExactMayTouch': WHATEVER THE INPUT: true; the input reads as it did. -/
def fnExactMayTouchSpec : ChangeSpec := { name := "fnExactMayTouch", fn := fun _ => fun
  | [d1, d2] => { results := [.lit (.bool true)], args := [d1, d2] }
  | _ => none }
def fnExactMayTouchRow : OpenClaim := { program := "ytccjhmhkfnnmaaagreat", sum := "165b9594cee8bdc65de2eae8a275f494f2d673cb4aa4a8872c4b3f0144719dfb", func := "loop.example/g00591/laws.FnExactMayTouch", spec := "fnExactMayTouch", unfollowed := true, recurses := true, apart := false }
def FnExactMayTouchSaid : Prop := fnExactMayTouchRow.holds Tryz.pinned (OpenSpec.ofChange fnExactMayTouchSpec)

/-- ITS FALSE NEIGHBOUR: 'it returns false'. Refute it at one input. -/
def fnExactMayTouchWrong : ChangeSpec := { name := "fnExactMayTouch", fn := fun _ => fun
  | [d1, d2] => { results := [.lit (.bool false)], args := [d1, d2] }
  | _ => none }
def FnExactMayTouchWrongFalsely : Prop := fnExactMayTouchRow.holds Tryz.pinned (OpenSpec.ofChange fnExactMayTouchWrong)

/-- 'laws.FnReturns': WHATEVER THE INPUT: true; the input reads as it did. -/
def fnReturnsSpec : ChangeSpec := { name := "fnReturns", fn := fun _ => fun
  | [d] => { results := [.lit (.bool true)], args := [d] }
  | _ => none }
def fnReturnsRow : OpenClaim := { program := "ytccjhmhkfnnmaaagreat", sum := "165b9594cee8bdc65de2eae8a275f494f2d673cb4aa4a8872c4b3f0144719dfb", func := "loop.example/g00591/laws.FnReturns", spec := "fnReturns", unfollowed := true, recurses := true, apart := false }
def FnReturnsSaid : Prop := fnReturnsRow.holds Tryz.pinned (OpenSpec.ofChange fnReturnsSpec)

/-- ITS FALSE NEIGHBOUR: 'it returns false'. Refute it at one input. -/
def fnReturnsWrong : ChangeSpec := { name := "fnReturns", fn := fun _ => fun
  | [d] => { results := [.lit (.bool false)], args := [d] }
  | _ => none }
def FnReturnsWrongFalsely : Prop := fnReturnsRow.holds Tryz.pinned (OpenSpec.ofChange fnReturnsWrong)

/- THE SECOND FORM. 'bulk': how many values and letters a reading holds, each counted each time it is reached (what is shared counts as often as it is met; a slice's spare places count too). A statement '..UptoSaid' is the law's where the arguments, and the package variables that the reading takes, are together of bulk at most 1048576: NARROWER than '..Said'. Prove '..Said' where nothing that the law and all that it calls make is longer than what came in: it says more and counts as full. Else prove '..UptoSaid'. A law counts once. -/
mutual
def uptoBulk {H : Type} : DataW H → Nat
  | .lit (.string bytes) => bytes.length + 1
  | .lit _ => 1
  | .nil => 1
  | .ptr d => uptoBulk d + 1
  | .slice elems spare => uptoBulkAll elems + uptoBulkAll spare + 1
  | .agg parts => uptoBulkAll parts + 1
  | .iface _ d => uptoBulk d + 1
  | .map entries => uptoBulkEntries entries + 1
  | .held _ => 1
def uptoBulkAll {H : Type} : List (DataW H) → Nat
  | [] => 0
  | d :: r => uptoBulk d + uptoBulkAll r
def uptoBulkEntries {H : Type} : List (Lit × DataW H) → Nat
  | [] => 0
  | x :: r => uptoBulkEntry x + uptoBulkEntries r
def uptoBulkEntry {H : Type} : Lit × DataW H → Nat
  | (.string bytes, d) => bytes.length + uptoBulk d + 1
  | (_, d) => uptoBulk d + 1
 end
def uptoSmall : (H : Type) → List (DataW H) → Bool := fun _ ds => decide (uptoBulkAll ds ≤ 1048576)
def OpenSpec.upto (s : _root_.Go.ChangeSpec) : _root_.Go.OpenSpec := { _root_.Go.OpenSpec.ofChange s with cond := some uptoSmall }

/-- 'laws.FnSends', WHERE WHAT IT READS IS OF BULK AT MOST 1048576: true; the input reads as it did. -/
def fnSendsUptoRow : OpenClaim := { program := "ytccjhmhkfnnmaaagreat", sum := "165b9594cee8bdc65de2eae8a275f494f2d673cb4aa4a8872c4b3f0144719dfb", func := "loop.example/g00591/laws.FnSends", spec := "fnSends", unfollowed := true, recurses := true, apart := false, narrowed := true }
def FnSendsUptoSaid : Prop := fnSendsUptoRow.holds Tryz.pinned (OpenSpec.upto fnSendsSpec)

/-- 'laws.FnGifts', WHERE WHAT IT READS IS OF BULK AT MOST 1048576: true; the input reads as it did. -/
def fnGiftsUptoRow : OpenClaim := { program := "ytccjhmhkfnnmaaagreat", sum := "165b9594cee8bdc65de2eae8a275f494f2d673cb4aa4a8872c4b3f0144719dfb", func := "loop.example/g00591/laws.FnGifts", spec := "fnGifts", unfollowed := true, recurses := true, apart := false, narrowed := true }
def FnGiftsUptoSaid : Prop := fnGiftsUptoRow.holds Tryz.pinned (OpenSpec.upto fnGiftsSpec)

/-- 'laws.FnExactMayTouch', WHERE WHAT IT READS IS OF BULK AT MOST 1048576: true; the input reads as it did. -/
def fnExactMayTouchUptoRow : OpenClaim := { program := "ytccjhmhkfnnmaaagreat", sum := "165b9594cee8bdc65de2eae8a275f494f2d673cb4aa4a8872c4b3f0144719dfb", func := "loop.example/g00591/laws.FnExactMayTouch", spec := "fnExactMayTouch", unfollowed := true, recurses := true, apart := false, narrowed := true }
def FnExactMayTouchUptoSaid : Prop := fnExactMayTouchUptoRow.holds Tryz.pinned (OpenSpec.upto fnExactMayTouchSpec)

/-- 'laws.FnReturns', WHERE WHAT IT READS IS OF BULK AT MOST 1048576: true; the input reads as it did. -/
def fnReturnsUptoRow : OpenClaim := { program := "ytccjhmhkfnnmaaagreat", sum := "165b9594cee8bdc65de2eae8a275f494f2d673cb4aa4a8872c4b3f0144719dfb", func := "loop.example/g00591/laws.FnReturns", spec := "fnReturns", unfollowed := true, recurses := true, apart := false, narrowed := true }
def FnReturnsUptoSaid : Prop := fnReturnsUptoRow.holds Tryz.pinned (OpenSpec.upto fnReturnsSpec)

end Rows
end Go.Proofs.YtccjhmhkfnnmaaaGreat
