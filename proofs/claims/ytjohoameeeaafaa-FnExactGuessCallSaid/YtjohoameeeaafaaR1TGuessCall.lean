/- The law FnExactGuessCall returns true at every input, and its arguments read behind the call as before. Conditions: none beyond the given row's. -/
import Derived.Test.YtjohoameeeaafaaRows
import Derived.WalkKit
import Derived.ProofKit
import Derived.OpenShut
import Derived.Test.YtjohoameeeaafaaAmTop
import Derived.Test.YtjohoameeeaafaaR1LGuessCall
set_option linter.unusedVariables false
set_option linter.unusedSimpArgs false
namespace Go.Proofs.Ytjohoameeeaafaa
open Go.AM
open Go.ChangeShapes Go.WideShapes Go.ChangeAt Go.RowKit
set_option linter.unusedVariables false
theorem own : ownKnob Try.prog.godebug = none := by kernel_rfl
structure Facts (P : Program) : Prop where
  und3 : P.underlying 3 = some (.int .i64)
  und9 : P.underlying 9 = some .string
theorem facts : Facts Try.prog := ⟨by kernel_rfl, by kernel_rfl⟩
set_option maxRecDepth 100000 in
theorem fnExactGuessCall_walk (ds : List Dat) (h : DatAll Try.prog 1 Try.f6.params.toList ds) : T Try.prog (fun _ => none) 6 (ds.map Dat.av) [] fun v _ => v = .bool true := by
  have hp : Try.f6.params.toList = [3, 3, 3, 9] := by kernel_rfl
  obtain ⟨d0, ds, rfl, k0, h⟩ := DatAll.cons (hp ▸ h : DatAll Try.prog 1 [3, 3, 3, 9] ds)
  obtain ⟨d1, ds, rfl, k1, h⟩ := DatAll.cons h
  obtain ⟨d2, ds, rfl, k2, h⟩ := DatAll.cons h
  obtain ⟨d3, ds, rfl, k3, h⟩ := DatAll.cons h
  obtain rfl := DatAll.nil h
  obtain ⟨x0, rfl, w0⟩ := dat_int (n := 0) facts.und3 k0
  obtain ⟨x1, rfl, w1⟩ := dat_int (n := 0) facts.und3 k1
  obtain ⟨x2, rfl, w2⟩ := dat_int (n := 0) facts.und3 k2
  obtain ⟨x3, rfl, q3⟩ := dat_str (n := 0) facts.und9 k3
  have := law_GuessCall (Γ := fun _ => none) x0 x1 x2 x3 q3 []
  exact this.mono fun v h' hv => hv.1
set_option maxRecDepth 100000 in
theorem fnExactGuessCall_lifted (os : Os) (started : os.Started) (H : Type) (enc : TypeId × Value → H) :
    ReturnsInHanded {} Try.checked os 6 .any (Rows.fnExactGuessCallSpec.pre6 enc Try.prog Try.f6 Rows.fnExactGuessCallRow.domain false) (Rows.fnExactGuessCallSpec.post enc Try.prog Try.f6 false true false false) := by
  refine returnsInHanded_of_change (C := Try.checked) own started (by kernel_rfl) Try.func6
    (ChangeSpec.witness6 (enc := enc) (C := Try.checked) false ⟨#[], #[.int .i64 0, .int .i64 0, .int .i64 0, .string ⟨#[]⟩], []⟩ 8 (by kernel_rfl) (by kernel_rfl) (by kernel_rfl) (by kernel_rfl)) ?_
  intro W base args ds gs before hval hW hcnd _
  refine law_post (n := 1) (tb := 4) (by decide +kernel) rfl (by kernel_rfl) (by kernel_rfl) (fun xs hx => ?_) fnExactGuessCall_walk hval hW
  have hp : Try.f6.params.toList.length = 4 := by kernel_rfl
  rw [hp] at hx
  match xs, hx with
  | [_, _, _, _], _ => rfl
theorem fnExactGuessCall_over : Rows.fnExactGuessCallRow.holds Try.pinned (OpenSpec.ofChange Rows.fnExactGuessCallSpec) :=
  OpenClaim.holds_of_wide 6 Try.f6 rfl rfl rfl rfl rfl rfl rfl ⟨rfl, rfl, rfl, rfl, rfl⟩ rfl rfl rfl rfl rfl (by kernel_rfl) Try.func6 (by kernel_rfl)
    (of_decide_eq_true (by kernel_rfl)) (by unfold Func.isWrapper; first | (rw [if_pos (by decide +kernel)]; kernel_rfl) | (rw [if_neg (by decide +kernel)]; exact ⟨rfl, rfl⟩))
    (fun os started H enc _ => fnExactGuessCall_lifted os started H enc)
/-- THE STATEMENT. -/
theorem fnExactGuessCall_proved : Rows.FnExactGuessCallSaid := fnExactGuessCall_over
#print axioms fnExactGuessCall_proved
end Go.Proofs.Ytjohoameeeaafaa
