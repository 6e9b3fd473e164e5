/-
  No cell of these rows narrows 'for every input' (looked for: loops, veiled, ifaces, maps, wideKeys, modest, calm, conditions, laid).
  DERIVED. THE GIVEN ROWS OF THIS SEAT. 4 by the template 'for every input the law returns true; each argument reads behind the call as it read before'; 0 by the template 'total and deterministic' (their statements: YtleddolmolkpfaaGreatTotals.lean).
  GIVEN WITH THE SEED: the statements are not yours to turn. If you find one false, say at which input.
  Laid BY PROGRAM, IN A SANDBOX (cutbox-rows.mjs): the forced cells as the released guide's own fill.sh prints them over the translation a4971d5c8998cc35… (all of the seat's roots in one cut). By AI agents, Wed Nov 11 2026. No macro, syntax, notation, axiom, sorry.
-/
import Derived.Test.YtleddolmolkpfaaGreatChecked
import GoSem.Claim
import GoSem.ClaimJoined
import GoSem.ClaimMapViews
import Derived.JoinedTies
import Derived.KernelRfl
namespace Go.Proofs.YtleddolmolkpfaaGreat
/- THE CELL 'sum', in the pinned program and in every row, IS THE sha256 OF THE DUMP (.gsa) THAT YtleddolmolkpfaaGreatProg.lean LOADS. Nothing in Lean hashes anything: it is a label: what it is worth is what the hold of that sum in a sandbox is worth. -/
noncomputable def Tryz.pinned : Pinned := { name := "ytleddolmolkpfaagreat", sum := "a4971d5c8998cc3571b7fb4285188ce25ed4c5349f9669eada8655601ebd478e", checked := Tryz.checked }
namespace Rows
def none {H : Type} : Left H := { results := [], args := [] }

/-- 'laws.FnExactDepositGift': WHATEVER THE INPUT: true; the input reads as it did. -/
def fnExactDepositGiftSpec : ChangeSpec := { name := "fnExactDepositGift", fn := fun _ => fun
  | [d1, d2, d3, d4, d5, d6] => { results := [.lit (.bool true)], args := [d1, d2, d3, d4, d5, d6] }
  | _ => none }
def fnExactDepositGiftRow : OpenClaim := { program := "ytleddolmolkpfaagreat", sum := "a4971d5c8998cc3571b7fb4285188ce25ed4c5349f9669eada8655601ebd478e", func := "loop.example/g00591/laws.FnExactDepositGift", spec := "fnExactDepositGift", unfollowed := true, recurses := true, apart := false }
def FnExactDepositGiftSaid : Prop := fnExactDepositGiftRow.holds Tryz.pinned (OpenSpec.ofChange fnExactDepositGiftSpec)

/-- ITS FALSE NEIGHBOUR: 'it returns false'. Refute it at one input. -/
def fnExactDepositGiftWrong : ChangeSpec := { name := "fnExactDepositGift", fn := fun _ => fun
  | [d1, d2, d3, d4, d5, d6] => { results := [.lit (.bool false)], args := [d1, d2, d3, d4, d5, d6] }
  | _ => none }
def FnExactDepositGiftWrongFalsely : Prop := fnExactDepositGiftRow.holds Tryz.pinned (OpenSpec.ofChange fnExactDepositGiftWrong)

/-- 'laws.FnExactUpgradeObjects': WHATEVER THE INPUT: true; the input reads as it did. -/
def fnExactUpgradeObjectsSpec : ChangeSpec := { name := "fnExactUpgradeObjects", fn := fun _ => fun
  | [d1, d2, d3, d4] => { results := [.lit (.bool true)], args := [d1, d2, d3, d4] }
  | _ => none }
def fnExactUpgradeObjectsRow : OpenClaim := { program := "ytleddolmolkpfaagreat", sum := "a4971d5c8998cc3571b7fb4285188ce25ed4c5349f9669eada8655601ebd478e", func := "loop.example/g00591/laws.FnExactUpgradeObjects", spec := "fnExactUpgradeObjects", apart := false }
def FnExactUpgradeObjectsSaid : Prop := fnExactUpgradeObjectsRow.holds Tryz.pinned (OpenSpec.ofChange fnExactUpgradeObjectsSpec)

/-- ITS FALSE NEIGHBOUR: 'it returns false'. Refute it at one input. -/
def fnExactUpgradeObjectsWrong : ChangeSpec := { name := "fnExactUpgradeObjects", fn := fun _ => fun
  | [d1, d2, d3, d4] => { results := [.lit (.bool false)], args := [d1, d2, d3, d4] }
  | _ => none }
def FnExactUpgradeObjectsWrongFalsely : Prop := fnExactUpgradeObjectsRow.holds Tryz.pinned (OpenSpec.ofChange fnExactUpgradeObjectsWrong)

/-- 'laws.FnExactAcceptGift': WHATEVER THE INPUT: true; the input reads as it did. -/
def fnExactAcceptGiftSpec : ChangeSpec := { name := "fnExactAcceptGift", fn := fun _ => fun
  | [d1, d2, d3, d4, d5] => { results := [.lit (.bool true)], args := [d1, d2, d3, d4, d5] }
  | _ => none }
def fnExactAcceptGiftRow : OpenClaim := { program := "ytleddolmolkpfaagreat", sum := "a4971d5c8998cc3571b7fb4285188ce25ed4c5349f9669eada8655601ebd478e", func := "loop.example/g00591/laws.FnExactAcceptGift", spec := "fnExactAcceptGift", unfollowed := true, recurses := true, apart := false }
def FnExactAcceptGiftSaid : Prop := fnExactAcceptGiftRow.holds Tryz.pinned (OpenSpec.ofChange fnExactAcceptGiftSpec)

/-- ITS FALSE NEIGHBOUR: 'it returns false'. Refute it at one input. -/
def fnExactAcceptGiftWrong : ChangeSpec := { name := "fnExactAcceptGift", fn := fun _ => fun
  | [d1, d2, d3, d4, d5] => { results := [.lit (.bool false)], args := [d1, d2, d3, d4, d5] }
  | _ => none }
def FnExactAcceptGiftWrongFalsely : Prop := fnExactAcceptGiftRow.holds Tryz.pinned (OpenSpec.ofChange fnExactAcceptGiftWrong)

/-- 'laws.FnExactForgeIn': WHATEVER THE INPUT: true; the input reads as it did. -/
def fnExactForgeInSpec : ChangeSpec := { name := "fnExactForgeIn", fn := fun _ => fun
  | [d1, d2, d3, d4] => { results := [.lit (.bool true)], args := [d1, d2, d3, d4] }
  | _ => none }
def fnExactForgeInRow : OpenClaim := { program := "ytleddolmolkpfaagreat", sum := "a4971d5c8998cc3571b7fb4285188ce25ed4c5349f9669eada8655601ebd478e", func := "loop.example/g00591/laws.FnExactForgeIn", spec := "fnExactForgeIn", unfollowed := true, recurses := true, apart := false }
def FnExactForgeInSaid : Prop := fnExactForgeInRow.holds Tryz.pinned (OpenSpec.ofChange fnExactForgeInSpec)

/-- ITS FALSE NEIGHBOUR: 'it returns false'. Refute it at one input. -/
def fnExactForgeInWrong : ChangeSpec := { name := "fnExactForgeIn", fn := fun _ => fun
  | [d1, d2, d3, d4] => { results := [.lit (.bool false)], args := [d1, d2, d3, d4] }
  | _ => none }
def FnExactForgeInWrongFalsely : Prop := fnExactForgeInRow.holds Tryz.pinned (OpenSpec.ofChange fnExactForgeInWrong)

/- THE SECOND FORM. 'bulk': how many values and letters a reading holds, each counted each time it is reached (what is shared counts as often as it is met; a slice's spare places count too). A statement '..UptoSaid' is the law's where the arguments, and the package variables that the reading takes, are together of bulk at most 1048576: NARROWER than '..Said'. Prove '..Said' where nothing that the law and all that it calls make is longer than what came in: it says more and counts as full. Else prove '..UptoSaid'. A law counts once. -/
mutual
def uptoBulk {H : Type} : DataW H → Nat
  | .lit (.string bytes) => bytes.length + 1
  | .lit _ => 1
  | .nil => 1
  | .ptr d => uptoBulk d + 1
  | .slice elems spare => uptoBulkAll elems + uptoBulkAll spare + 1
  | .agg parts => uptoBulkAll parts + 1
  | .iface _ d => uptoBulk d + 1
  | .map entries => uptoBulkEntries entries + 1
  | .held _ => 1
def uptoBulkAll {H : Type} : List (DataW H) → Nat
  | [] => 0
  | d :: r => uptoBulk d + uptoBulkAll r
def uptoBulkEntries {H : Type} : List (Lit × DataW H) → Nat
  | [] => 0
  | x :: r => uptoBulkEntry x + uptoBulkEntries r
def uptoBulkEntry {H : Type} : Lit × DataW H → Nat
  | (.string bytes, d) => bytes.length + uptoBulk d + 1
  | (_, d) => uptoBulk d + 1
 end
def uptoSmall : (H : Type) → List (DataW H) → Bool := fun _ ds => decide (uptoBulkAll ds ≤ 1048576)
def OpenSpec.upto (s : _root_.Go.ChangeSpec) : _root_.Go.OpenSpec := { _root_.Go.OpenSpec.ofChange s with cond := some uptoSmall }

/-- 'laws.FnExactDepositGift', WHERE WHAT IT READS IS OF BULK AT MOST 1048576: true; the input reads as it did. -/
def fnExactDepositGiftUptoRow : OpenClaim := { program := "ytleddolmolkpfaagreat", sum := "a4971d5c8998cc3571b7fb4285188ce25ed4c5349f9669eada8655601ebd478e", func := "loop.example/g00591/laws.FnExactDepositGift", spec := "fnExactDepositGift", unfollowed := true, recurses := true, apart := false, narrowed := true }
def FnExactDepositGiftUptoSaid : Prop := fnExactDepositGiftUptoRow.holds Tryz.pinned (OpenSpec.upto fnExactDepositGiftSpec)

/-- 'laws.FnExactUpgradeObjects', WHERE WHAT IT READS IS OF BULK AT MOST 1048576: true; the input reads as it did. -/
def fnExactUpgradeObjectsUptoRow : OpenClaim := { program := "ytleddolmolkpfaagreat", sum := "a4971d5c8998cc3571b7fb4285188ce25ed4c5349f9669eada8655601ebd478e", func := "loop.example/g00591/laws.FnExactUpgradeObjects", spec := "fnExactUpgradeObjects", apart := false, narrowed := true }
def FnExactUpgradeObjectsUptoSaid : Prop := fnExactUpgradeObjectsUptoRow.holds Tryz.pinned (OpenSpec.upto fnExactUpgradeObjectsSpec)

/-- 'laws.FnExactAcceptGift', WHERE WHAT IT READS IS OF BULK AT MOST 1048576: true; the input reads as it did. -/
def fnExactAcceptGiftUptoRow : OpenClaim := { program := "ytleddolmolkpfaagreat", sum := "a4971d5c8998cc3571b7fb4285188ce25ed4c5349f9669eada8655601ebd478e", func := "loop.example/g00591/laws.FnExactAcceptGift", spec := "fnExactAcceptGift", unfollowed := true, recurses := true, apart := false, narrowed := true }
def FnExactAcceptGiftUptoSaid : Prop := fnExactAcceptGiftUptoRow.holds Tryz.pinned (OpenSpec.upto fnExactAcceptGiftSpec)

/-- 'laws.FnExactForgeIn', WHERE WHAT IT READS IS OF BULK AT MOST 1048576: true; the input reads as it did. -/
def fnExactForgeInUptoRow : OpenClaim := { program := "ytleddolmolkpfaagreat", sum := "a4971d5c8998cc3571b7fb4285188ce25ed4c5349f9669eada8655601ebd478e", func := "loop.example/g00591/laws.FnExactForgeIn", spec := "fnExactForgeIn", unfollowed := true, recurses := true, apart := false, narrowed := true }
def FnExactForgeInUptoSaid : Prop := fnExactForgeInUptoRow.holds Tryz.pinned (OpenSpec.upto fnExactForgeInSpec)

end Rows
end Go.Proofs.YtleddolmolkpfaaGreat
