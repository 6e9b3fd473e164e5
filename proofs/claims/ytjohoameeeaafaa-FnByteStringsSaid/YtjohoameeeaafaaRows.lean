/-
  No cell of these rows narrows 'for every input' (looked for: loops, veiled, ifaces, maps, wideKeys, modest, calm, conditions, laid).
  DERIVED. THE GIVEN ROWS OF THIS SEAT. 12 by the template 'for every input the law returns true; each argument reads behind the call as it read before'; 0 by the template 'total and deterministic' (their statements: YtjohoameeeaafaaTotals.lean).
  GIVEN WITH THE SEED: the statements are not yours to turn. If you find one false, say at which input.
  Laid BY PROGRAM, IN A SANDBOX (cutbox-rows.mjs): the forced cells as the released guide's own fill.sh prints them over the translation 08e557d6b8ff4c2f… (all of the seat's roots in one cut). By AI agents, Wed Nov 11 2026. No macro, syntax, notation, axiom, sorry.
-/
import Derived.Test.YtjohoameeeaafaaChecked
import GoSem.Claim
import GoSem.ClaimJoined
import GoSem.ClaimMapViews
import Derived.JoinedTies
import Derived.KernelRfl
namespace Go.Proofs.Ytjohoameeeaafaa
/- THE CELL 'sum', in the pinned program and in every row, IS THE sha256 OF THE DUMP (.gsa) THAT YtjohoameeeaafaaProg.lean LOADS. Nothing in Lean hashes anything: it is a label: what it is worth is what the hold of that sum in a sandbox is worth. -/
noncomputable def Try.pinned : Pinned := { name := "ytjohoameeeaafaa", sum := "08e557d6b8ff4c2fb51bc02976c0b0c0f91ad8c6b0e16196027651f1c6806832", checked := Try.checked }
namespace Rows
def none {H : Type} : Left H := { results := [], args := [] }

/-- 'laws.FnExactAllWithin': WHATEVER THE INPUT: true; the input reads as it did. -/
def fnExactAllWithinSpec : ChangeSpec := { name := "fnExactAllWithin", fn := fun _ => fun
  | [d1, d2] => { results := [.lit (.bool true)], args := [d1, d2] }
  | _ => none }
def fnExactAllWithinRow : OpenClaim := { program := "ytjohoameeeaafaa", sum := "08e557d6b8ff4c2fb51bc02976c0b0c0f91ad8c6b0e16196027651f1c6806832", func := "loop.example/g00591/laws.FnExactAllWithin", spec := "fnExactAllWithin", unfollowed := true, recurses := true, apart := false }
def FnExactAllWithinSaid : Prop := fnExactAllWithinRow.holds Try.pinned (OpenSpec.ofChange fnExactAllWithinSpec)

/-- ITS FALSE NEIGHBOUR: 'it returns false'. Refute it at one input. -/
def fnExactAllWithinWrong : ChangeSpec := { name := "fnExactAllWithin", fn := fun _ => fun
  | [d1, d2] => { results := [.lit (.bool false)], args := [d1, d2] }
  | _ => none }
def FnExactAllWithinWrongFalsely : Prop := fnExactAllWithinRow.holds Try.pinned (OpenSpec.ofChange fnExactAllWithinWrong)

/-- 'laws.FnExactAreGifts': WHATEVER THE INPUT: true; the input reads as it did. -/
def fnExactAreGiftsSpec : ChangeSpec := { name := "fnExactAreGifts", fn := fun _ => fun
  | [d] => { results := [.lit (.bool true)], args := [d] }
  | _ => none }
def fnExactAreGiftsRow : OpenClaim := { program := "ytjohoameeeaafaa", sum := "08e557d6b8ff4c2fb51bc02976c0b0c0f91ad8c6b0e16196027651f1c6806832", func := "loop.example/g00591/laws.FnExactAreGifts", spec := "fnExactAreGifts", unfollowed := true, recurses := true, apart := false }
def FnExactAreGiftsSaid : Prop := fnExactAreGiftsRow.holds Try.pinned (OpenSpec.ofChange fnExactAreGiftsSpec)

/-- ITS FALSE NEIGHBOUR: 'it returns false'. Refute it at one input. -/
def fnExactAreGiftsWrong : ChangeSpec := { name := "fnExactAreGifts", fn := fun _ => fun
  | [d] => { results := [.lit (.bool false)], args := [d] }
  | _ => none }
def FnExactAreGiftsWrongFalsely : Prop := fnExactAreGiftsRow.holds Try.pinned (OpenSpec.ofChange fnExactAreGiftsWrong)

/-- 'laws.FnExactUnseal': WHATEVER THE INPUT: true; the input reads as it did. -/
def fnExactUnsealSpec : ChangeSpec := { name := "fnExactUnseal", fn := fun _ => fun
  | [d1, d2, d3] => { results := [.lit (.bool true)], args := [d1, d2, d3] }
  | _ => none }
def fnExactUnsealRow : OpenClaim := { program := "ytjohoameeeaafaa", sum := "08e557d6b8ff4c2fb51bc02976c0b0c0f91ad8c6b0e16196027651f1c6806832", func := "loop.example/g00591/laws.FnExactUnseal", spec := "fnExactUnseal", unfollowed := true, recurses := true, apart := false }
def FnExactUnsealSaid : Prop := fnExactUnsealRow.holds Try.pinned (OpenSpec.ofChange fnExactUnsealSpec)

/-- ITS FALSE NEIGHBOUR: 'it returns false'. Refute it at one input. -/
def fnExactUnsealWrong : ChangeSpec := { name := "fnExactUnseal", fn := fun _ => fun
  | [d1, d2, d3] => { results := [.lit (.bool false)], args := [d1, d2, d3] }
  | _ => none }
def FnExactUnsealWrongFalsely : Prop := fnExactUnsealRow.holds Try.pinned (OpenSpec.ofChange fnExactUnsealWrong)

/-- 'laws.FnExactGuessCall': WHATEVER THE INPUT: true; the input reads as it did. -/
def fnExactGuessCallSpec : ChangeSpec := { name := "fnExactGuessCall", fn := fun _ => fun
  | [d1, d2, d3, d4] => { results := [.lit (.bool true)], args := [d1, d2, d3, d4] }
  | _ => none }
def fnExactGuessCallRow : OpenClaim := { program := "ytjohoameeeaafaa", sum := "08e557d6b8ff4c2fb51bc02976c0b0c0f91ad8c6b0e16196027651f1c6806832", func := "loop.example/g00591/laws.FnExactGuessCall", spec := "fnExactGuessCall", apart := false }
def FnExactGuessCallSaid : Prop := fnExactGuessCallRow.holds Try.pinned (OpenSpec.ofChange fnExactGuessCallSpec)

/-- ITS FALSE NEIGHBOUR: 'it returns false'. Refute it at one input. -/
def fnExactGuessCallWrong : ChangeSpec := { name := "fnExactGuessCall", fn := fun _ => fun
  | [d1, d2, d3, d4] => { results := [.lit (.bool false)], args := [d1, d2, d3, d4] }
  | _ => none }
def FnExactGuessCallWrongFalsely : Prop := fnExactGuessCallRow.holds Try.pinned (OpenSpec.ofChange fnExactGuessCallWrong)

/-- 'laws.FnExactBoxesOf': WHATEVER THE INPUT: true; the input reads as it did. -/
def fnExactBoxesOfSpec : ChangeSpec := { name := "fnExactBoxesOf", fn := fun _ => fun
  | [d1, d2] => { results := [.lit (.bool true)], args := [d1, d2] }
  | _ => none }
def fnExactBoxesOfRow : OpenClaim := { program := "ytjohoameeeaafaa", sum := "08e557d6b8ff4c2fb51bc02976c0b0c0f91ad8c6b0e16196027651f1c6806832", func := "loop.example/g00591/laws.FnExactBoxesOf", spec := "fnExactBoxesOf", apart := false }
def FnExactBoxesOfSaid : Prop := fnExactBoxesOfRow.holds Try.pinned (OpenSpec.ofChange fnExactBoxesOfSpec)

/-- ITS FALSE NEIGHBOUR: 'it returns false'. Refute it at one input. -/
def fnExactBoxesOfWrong : ChangeSpec := { name := "fnExactBoxesOf", fn := fun _ => fun
  | [d1, d2] => { results := [.lit (.bool false)], args := [d1, d2] }
  | _ => none }
def FnExactBoxesOfWrongFalsely : Prop := fnExactBoxesOfRow.holds Try.pinned (OpenSpec.ofChange fnExactBoxesOfWrong)

/-- 'laws.FnExactDropGifts': WHATEVER THE INPUT: true; the input reads as it did. -/
def fnExactDropGiftsSpec : ChangeSpec := { name := "fnExactDropGifts", fn := fun _ => fun
  | [d1, d2] => { results := [.lit (.bool true)], args := [d1, d2] }
  | _ => none }
def fnExactDropGiftsRow : OpenClaim := { program := "ytjohoameeeaafaa", sum := "08e557d6b8ff4c2fb51bc02976c0b0c0f91ad8c6b0e16196027651f1c6806832", func := "loop.example/g00591/laws.FnExactDropGifts", spec := "fnExactDropGifts", unfollowed := true, recurses := true, apart := false }
def FnExactDropGiftsSaid : Prop := fnExactDropGiftsRow.holds Try.pinned (OpenSpec.ofChange fnExactDropGiftsSpec)

/-- ITS FALSE NEIGHBOUR: 'it returns false'. Refute it at one input. -/
def fnExactDropGiftsWrong : ChangeSpec := { name := "fnExactDropGifts", fn := fun _ => fun
  | [d1, d2] => { results := [.lit (.bool false)], args := [d1, d2] }
  | _ => none }
def FnExactDropGiftsWrongFalsely : Prop := fnExactDropGiftsRow.holds Try.pinned (OpenSpec.ofChange fnExactDropGiftsWrong)

/-- 'laws.FnKeyedHash': WHATEVER THE INPUT: true; the input reads as it did. -/
def fnKeyedHashSpec : ChangeSpec := { name := "fnKeyedHash", fn := fun _ => fun
  | [d] => { results := [.lit (.bool true)], args := [d] }
  | _ => none }
def fnKeyedHashRow : OpenClaim := { program := "ytjohoameeeaafaa", sum := "08e557d6b8ff4c2fb51bc02976c0b0c0f91ad8c6b0e16196027651f1c6806832", func := "loop.example/g00591/laws.FnKeyedHash", spec := "fnKeyedHash", apart := false }
def FnKeyedHashSaid : Prop := fnKeyedHashRow.holds Try.pinned (OpenSpec.ofChange fnKeyedHashSpec)

/-- ITS FALSE NEIGHBOUR: 'it returns false'. Refute it at one input. -/
def fnKeyedHashWrong : ChangeSpec := { name := "fnKeyedHash", fn := fun _ => fun
  | [d] => { results := [.lit (.bool false)], args := [d] }
  | _ => none }
def FnKeyedHashWrongFalsely : Prop := fnKeyedHashRow.holds Try.pinned (OpenSpec.ofChange fnKeyedHashWrong)

/-- 'laws.FnByteStrings': WHATEVER THE INPUT: true; the input reads as it did. -/
def fnByteStringsSpec : ChangeSpec := { name := "fnByteStrings", fn := fun _ => fun
  | [d] => { results := [.lit (.bool true)], args := [d] }
  | _ => none }
def fnByteStringsRow : OpenClaim := { program := "ytjohoameeeaafaa", sum := "08e557d6b8ff4c2fb51bc02976c0b0c0f91ad8c6b0e16196027651f1c6806832", func := "loop.example/g00591/laws.FnByteStrings", spec := "fnByteStrings", apart := false }
def FnByteStringsSaid : Prop := fnByteStringsRow.holds Try.pinned (OpenSpec.ofChange fnByteStringsSpec)

/-- ITS FALSE NEIGHBOUR: 'it returns false'. Refute it at one input. -/
def fnByteStringsWrong : ChangeSpec := { name := "fnByteStrings", fn := fun _ => fun
  | [d] => { results := [.lit (.bool false)], args := [d] }
  | _ => none }
def FnByteStringsWrongFalsely : Prop := fnByteStringsRow.holds Try.pinned (OpenSpec.ofChange fnByteStringsWrong)

/-- 'laws.FnExactPutGift': WHATEVER THE INPUT: true; the input reads as it did. -/
def fnExactPutGiftSpec : ChangeSpec := { name := "fnExactPutGift", fn := fun _ => fun
  | [d1, d2] => { results := [.lit (.bool true)], args := [d1, d2] }
  | _ => none }
def fnExactPutGiftRow : OpenClaim := { program := "ytjohoameeeaafaa", sum := "08e557d6b8ff4c2fb51bc02976c0b0c0f91ad8c6b0e16196027651f1c6806832", func := "loop.example/g00591/laws.FnExactPutGift", spec := "fnExactPutGift", unfollowed := true, recurses := true, apart := false }
def FnExactPutGiftSaid : Prop := fnExactPutGiftRow.holds Try.pinned (OpenSpec.ofChange fnExactPutGiftSpec)

/-- ITS FALSE NEIGHBOUR: 'it returns false'. Refute it at one input. -/
def fnExactPutGiftWrong : ChangeSpec := { name := "fnExactPutGift", fn := fun _ => fun
  | [d1, d2] => { results := [.lit (.bool false)], args := [d1, d2] }
  | _ => none }
def FnExactPutGiftWrongFalsely : Prop := fnExactPutGiftRow.holds Try.pinned (OpenSpec.ofChange fnExactPutGiftWrong)

/-- 'laws.FnExactSealIn': WHATEVER THE INPUT: true; the input reads as it did. -/
def fnExactSealInSpec : ChangeSpec := { name := "fnExactSealIn", fn := fun _ => fun
  | [d1, d2, d3] => { results := [.lit (.bool true)], args := [d1, d2, d3] }
  | _ => none }
def fnExactSealInRow : OpenClaim := { program := "ytjohoameeeaafaa", sum := "08e557d6b8ff4c2fb51bc02976c0b0c0f91ad8c6b0e16196027651f1c6806832", func := "loop.example/g00591/laws.FnExactSealIn", spec := "fnExactSealIn", apart := false }
def FnExactSealInSaid : Prop := fnExactSealInRow.holds Try.pinned (OpenSpec.ofChange fnExactSealInSpec)

/-- ITS FALSE NEIGHBOUR: 'it returns false'. Refute it at one input. -/
def fnExactSealInWrong : ChangeSpec := { name := "fnExactSealIn", fn := fun _ => fun
  | [d1, d2, d3] => { results := [.lit (.bool false)], args := [d1, d2, d3] }
  | _ => none }
def FnExactSealInWrongFalsely : Prop := fnExactSealInRow.holds Try.pinned (OpenSpec.ofChange fnExactSealInWrong)

/-- 'laws.FnExactFindExport': WHATEVER THE INPUT: true; the input reads as it did. -/
def fnExactFindExportSpec : ChangeSpec := { name := "fnExactFindExport", fn := fun _ => fun
  | [d1, d2] => { results := [.lit (.bool true)], args := [d1, d2] }
  | _ => none }
def fnExactFindExportRow : OpenClaim := { program := "ytjohoameeeaafaa", sum := "08e557d6b8ff4c2fb51bc02976c0b0c0f91ad8c6b0e16196027651f1c6806832", func := "loop.example/g00591/laws.FnExactFindExport", spec := "fnExactFindExport", unfollowed := true, recurses := true, apart := false }
def FnExactFindExportSaid : Prop := fnExactFindExportRow.holds Try.pinned (OpenSpec.ofChange fnExactFindExportSpec)

/-- ITS FALSE NEIGHBOUR: 'it returns false'. Refute it at one input. -/
def fnExactFindExportWrong : ChangeSpec := { name := "fnExactFindExport", fn := fun _ => fun
  | [d1, d2] => { results := [.lit (.bool false)], args := [d1, d2] }
  | _ => none }
def FnExactFindExportWrongFalsely : Prop := fnExactFindExportRow.holds Try.pinned (OpenSpec.ofChange fnExactFindExportWrong)

/-- 'laws.FnSeals': WHATEVER THE INPUT: true; the input reads as it did. -/
def fnSealsSpec : ChangeSpec := { name := "fnSeals", fn := fun _ => fun
  | [d] => { results := [.lit (.bool true)], args := [d] }
  | _ => none }
def fnSealsRow : OpenClaim := { program := "ytjohoameeeaafaa", sum := "08e557d6b8ff4c2fb51bc02976c0b0c0f91ad8c6b0e16196027651f1c6806832", func := "loop.example/g00591/laws.FnSeals", spec := "fnSeals", unfollowed := true, recurses := true, apart := false }
def FnSealsSaid : Prop := fnSealsRow.holds Try.pinned (OpenSpec.ofChange fnSealsSpec)

/-- ITS FALSE NEIGHBOUR: 'it returns false'. Refute it at one input. -/
def fnSealsWrong : ChangeSpec := { name := "fnSeals", fn := fun _ => fun
  | [d] => { results := [.lit (.bool false)], args := [d] }
  | _ => none }
def FnSealsWrongFalsely : Prop := fnSealsRow.holds Try.pinned (OpenSpec.ofChange fnSealsWrong)

/- THE SECOND FORM. 'bulk': how many values and letters a reading holds, each counted each time it is reached (what is shared counts as often as it is met; a slice's spare places count too). A statement '..UptoSaid' is the law's where the arguments, and the package variables that the reading takes, are together of bulk at most 1048576: NARROWER than '..Said'. Prove '..Said' where nothing that the law and all that it calls make is longer than what came in: it says more and counts as full. Else prove '..UptoSaid'. A law counts once. -/
mutual
def uptoBulk {H : Type} : DataW H → Nat
  | .lit (.string bytes) => bytes.length + 1
  | .lit _ => 1
  | .nil => 1
  | .ptr d => uptoBulk d + 1
  | .slice elems spare => uptoBulkAll elems + uptoBulkAll spare + 1
  | .agg parts => uptoBulkAll parts + 1
  | .iface _ d => uptoBulk d + 1
  | .map entries => uptoBulkEntries entries + 1
  | .held _ => 1
def uptoBulkAll {H : Type} : List (DataW H) → Nat
  | [] => 0
  | d :: r => uptoBulk d + uptoBulkAll r
def uptoBulkEntries {H : Type} : List (Lit × DataW H) → Nat
  | [] => 0
  | x :: r => uptoBulkEntry x + uptoBulkEntries r
def uptoBulkEntry {H : Type} : Lit × DataW H → Nat
  | (.string bytes, d) => bytes.length + uptoBulk d + 1
  | (_, d) => uptoBulk d + 1
 end
def uptoSmall : (H : Type) → List (DataW H) → Bool := fun _ ds => decide (uptoBulkAll ds ≤ 1048576)
def OpenSpec.upto (s : _root_.Go.ChangeSpec) : _root_.Go.OpenSpec := { _root_.Go.OpenSpec.ofChange s with cond := some uptoSmall }

/-- 'laws.FnExactAllWithin', WHERE WHAT IT READS IS OF BULK AT MOST 1048576: true; the input reads as it did. -/
def fnExactAllWithinUptoRow : OpenClaim := { program := "ytjohoameeeaafaa", sum := "08e557d6b8ff4c2fb51bc02976c0b0c0f91ad8c6b0e16196027651f1c6806832", func := "loop.example/g00591/laws.FnExactAllWithin", spec := "fnExactAllWithin", unfollowed := true, recurses := true, apart := false, narrowed := true }
def FnExactAllWithinUptoSaid : Prop := fnExactAllWithinUptoRow.holds Try.pinned (OpenSpec.upto fnExactAllWithinSpec)

/-- 'laws.FnExactAreGifts', WHERE WHAT IT READS IS OF BULK AT MOST 1048576: true; the input reads as it did. -/
def fnExactAreGiftsUptoRow : OpenClaim := { program := "ytjohoameeeaafaa", sum := "08e557d6b8ff4c2fb51bc02976c0b0c0f91ad8c6b0e16196027651f1c6806832", func := "loop.example/g00591/laws.FnExactAreGifts", spec := "fnExactAreGifts", unfollowed := true, recurses := true, apart := false, narrowed := true }
def FnExactAreGiftsUptoSaid : Prop := fnExactAreGiftsUptoRow.holds Try.pinned (OpenSpec.upto fnExactAreGiftsSpec)

/-- 'laws.FnExactUnseal', WHERE WHAT IT READS IS OF BULK AT MOST 1048576: true; the input reads as it did. -/
def fnExactUnsealUptoRow : OpenClaim := { program := "ytjohoameeeaafaa", sum := "08e557d6b8ff4c2fb51bc02976c0b0c0f91ad8c6b0e16196027651f1c6806832", func := "loop.example/g00591/laws.FnExactUnseal", spec := "fnExactUnseal", unfollowed := true, recurses := true, apart := false, narrowed := true }
def FnExactUnsealUptoSaid : Prop := fnExactUnsealUptoRow.holds Try.pinned (OpenSpec.upto fnExactUnsealSpec)

/-- 'laws.FnExactGuessCall', WHERE WHAT IT READS IS OF BULK AT MOST 1048576: true; the input reads as it did. -/
def fnExactGuessCallUptoRow : OpenClaim := { program := "ytjohoameeeaafaa", sum := "08e557d6b8ff4c2fb51bc02976c0b0c0f91ad8c6b0e16196027651f1c6806832", func := "loop.example/g00591/laws.FnExactGuessCall", spec := "fnExactGuessCall", apart := false, narrowed := true }
def FnExactGuessCallUptoSaid : Prop := fnExactGuessCallUptoRow.holds Try.pinned (OpenSpec.upto fnExactGuessCallSpec)

/-- 'laws.FnExactBoxesOf', WHERE WHAT IT READS IS OF BULK AT MOST 1048576: true; the input reads as it did. -/
def fnExactBoxesOfUptoRow : OpenClaim := { program := "ytjohoameeeaafaa", sum := "08e557d6b8ff4c2fb51bc02976c0b0c0f91ad8c6b0e16196027651f1c6806832", func := "loop.example/g00591/laws.FnExactBoxesOf", spec := "fnExactBoxesOf", apart := false, narrowed := true }
def FnExactBoxesOfUptoSaid : Prop := fnExactBoxesOfUptoRow.holds Try.pinned (OpenSpec.upto fnExactBoxesOfSpec)

/-- 'laws.FnExactDropGifts', WHERE WHAT IT READS IS OF BULK AT MOST 1048576: true; the input reads as it did. -/
def fnExactDropGiftsUptoRow : OpenClaim := { program := "ytjohoameeeaafaa", sum := "08e557d6b8ff4c2fb51bc02976c0b0c0f91ad8c6b0e16196027651f1c6806832", func := "loop.example/g00591/laws.FnExactDropGifts", spec := "fnExactDropGifts", unfollowed := true, recurses := true, apart := false, narrowed := true }
def FnExactDropGiftsUptoSaid : Prop := fnExactDropGiftsUptoRow.holds Try.pinned (OpenSpec.upto fnExactDropGiftsSpec)

/-- 'laws.FnKeyedHash', WHERE WHAT IT READS IS OF BULK AT MOST 1048576: true; the input reads as it did. -/
def fnKeyedHashUptoRow : OpenClaim := { program := "ytjohoameeeaafaa", sum := "08e557d6b8ff4c2fb51bc02976c0b0c0f91ad8c6b0e16196027651f1c6806832", func := "loop.example/g00591/laws.FnKeyedHash", spec := "fnKeyedHash", apart := false, narrowed := true }
def FnKeyedHashUptoSaid : Prop := fnKeyedHashUptoRow.holds Try.pinned (OpenSpec.upto fnKeyedHashSpec)

/-- 'laws.FnByteStrings', WHERE WHAT IT READS IS OF BULK AT MOST 1048576: true; the input reads as it did. -/
def fnByteStringsUptoRow : OpenClaim := { program := "ytjohoameeeaafaa", sum := "08e557d6b8ff4c2fb51bc02976c0b0c0f91ad8c6b0e16196027651f1c6806832", func := "loop.example/g00591/laws.FnByteStrings", spec := "fnByteStrings", apart := false, narrowed := true }
def FnByteStringsUptoSaid : Prop := fnByteStringsUptoRow.holds Try.pinned (OpenSpec.upto fnByteStringsSpec)

/-- 'laws.FnExactPutGift', WHERE WHAT IT READS IS OF BULK AT MOST 1048576: true; the input reads as it did. -/
def fnExactPutGiftUptoRow : OpenClaim := { program := "ytjohoameeeaafaa", sum := "08e557d6b8ff4c2fb51bc02976c0b0c0f91ad8c6b0e16196027651f1c6806832", func := "loop.example/g00591/laws.FnExactPutGift", spec := "fnExactPutGift", unfollowed := true, recurses := true, apart := false, narrowed := true }
def FnExactPutGiftUptoSaid : Prop := fnExactPutGiftUptoRow.holds Try.pinned (OpenSpec.upto fnExactPutGiftSpec)

/-- 'laws.FnExactSealIn', WHERE WHAT IT READS IS OF BULK AT MOST 1048576: true; the input reads as it did. -/
def fnExactSealInUptoRow : OpenClaim := { program := "ytjohoameeeaafaa", sum := "08e557d6b8ff4c2fb51bc02976c0b0c0f91ad8c6b0e16196027651f1c6806832", func := "loop.example/g00591/laws.FnExactSealIn", spec := "fnExactSealIn", apart := false, narrowed := true }
def FnExactSealInUptoSaid : Prop := fnExactSealInUptoRow.holds Try.pinned (OpenSpec.upto fnExactSealInSpec)

/-- 'laws.FnExactFindExport', WHERE WHAT IT READS IS OF BULK AT MOST 1048576: true; the input reads as it did. -/
def fnExactFindExportUptoRow : OpenClaim := { program := "ytjohoameeeaafaa", sum := "08e557d6b8ff4c2fb51bc02976c0b0c0f91ad8c6b0e16196027651f1c6806832", func := "loop.example/g00591/laws.FnExactFindExport", spec := "fnExactFindExport", unfollowed := true, recurses := true, apart := false, narrowed := true }
def FnExactFindExportUptoSaid : Prop := fnExactFindExportUptoRow.holds Try.pinned (OpenSpec.upto fnExactFindExportSpec)

/-- 'laws.FnSeals', WHERE WHAT IT READS IS OF BULK AT MOST 1048576: true; the input reads as it did. -/
def fnSealsUptoRow : OpenClaim := { program := "ytjohoameeeaafaa", sum := "08e557d6b8ff4c2fb51bc02976c0b0c0f91ad8c6b0e16196027651f1c6806832", func := "loop.example/g00591/laws.FnSeals", spec := "fnSeals", unfollowed := true, recurses := true, apart := false, narrowed := true }
def FnSealsUptoSaid : Prop := fnSealsUptoRow.holds Try.pinned (OpenSpec.upto fnSealsSpec)

end Rows
end Go.Proofs.Ytjohoameeeaafaa
