/- The law FnExactAllWithin returns true at every input, and its arguments read behind the call as before. Conditions: none beyond the given row's. -/
import Derived.Test.YtjohoameeeaafaaRows
import Derived.WalkKit
import Derived.ProofKit
import Derived.OpenShut
import Derived.Test.YtjohoameeeaafaaAmTop
import Derived.Test.YtjohoameeeaafaaLawAllWithin0
set_option linter.unusedVariables false
set_option linter.unusedSimpArgs false
namespace Go.Proofs.Ytjohoameeeaafaa
open Go.AM
open Go.ChangeShapes Go.WideShapes Go.ChangeAt Go.RowKit
theorem own : ownKnob Try.prog.godebug = none := by kernel_rfl

theorem cells3 : Try.prog.cellsOf 3 = 1 := by kernel_rfl
set_option maxRecDepth 100000 in
theorem fnExactAllWithin_walk (ds : List Dat) (h : DatAll Try.prog 3 Try.f3.params.toList ds) : T Try.prog (fun _ => none) 3 (ds.map Dat.av) [] fun v _ => v = .bool true := by
  have hp : Try.f3.params.toList = [22, 22] := by kernel_rfl
  obtain ⟨d0, ds, rfl, k0, h⟩ := DatAll.cons (hp ▸ h : DatAll Try.prog 3 [22, 22] ds)
  obtain ⟨d1, ds, rfl, k1, h⟩ := DatAll.cons h
  obtain rfl := DatAll.nil h
  obtain ⟨s0, xs, h0, e0⟩ := dat_ints (P := Try.prog) (n := 1) (t := 22) (e := 3) Try.underlying22 Try.underlying3 cells3 k0
  obtain ⟨s1, ys, h1, e1⟩ := dat_ints (P := Try.prog) (n := 1) (t := 22) (e := 3) Try.underlying22 Try.underlying3 cells3 k1
  have := law_AllWithin (Γ := fun _ => none) s0 s1 xs ys h0 h1 []
  rw [← e0, ← e1] at this
  exact this.mono fun v h' hv => hv.1

set_option maxRecDepth 100000 in
theorem fnExactAllWithin_lifted (os : Os) (started : os.Started) (H : Type) (enc : TypeId × Value → H) :
    ReturnsInHanded {} Try.checked os 3 .any (Rows.fnExactAllWithinSpec.pre6 enc Try.prog Try.f3 Rows.fnExactAllWithinRow.domain false) (Rows.fnExactAllWithinSpec.post enc Try.prog Try.f3 false true false false) := by
  refine returnsInHanded_of_change (C := Try.checked) own started (by kernel_rfl) Try.func3
    (ChangeSpec.witness6 (enc := enc) (C := Try.checked) false ⟨#[], #[.slice none 0 0, .slice none 0 0], []⟩ 8 (by kernel_rfl) (by kernel_rfl) (by kernel_rfl) (by kernel_rfl)) ?_
  intro W base args ds gs before hval hW hcnd _
  refine law_post (n := 3) (tb := 4) (by decide +kernel) rfl (by kernel_rfl) (by kernel_rfl) (fun xs hx => ?_) fnExactAllWithin_walk hval hW
  have hp : Try.f3.params.toList.length = 2 := by kernel_rfl
  rw [hp] at hx
  match xs, hx with
  | [_, _], _ => rfl

theorem fnExactAllWithin_over : Rows.fnExactAllWithinRow.holds Try.pinned (OpenSpec.ofChange Rows.fnExactAllWithinSpec) :=
  OpenClaim.holds_of_wide 3 Try.f3 rfl rfl rfl rfl rfl rfl rfl ⟨rfl, rfl, rfl, rfl, rfl⟩ rfl rfl rfl rfl rfl (by kernel_rfl) Try.func3 (by kernel_rfl)
    (of_decide_eq_true (by kernel_rfl)) (by unfold Func.isWrapper; first | (rw [if_pos (by decide +kernel)]; kernel_rfl) | (rw [if_neg (by decide +kernel)]; exact ⟨rfl, rfl⟩))
    (fun os started H enc _ => fnExactAllWithin_lifted os started H enc)

/-- THE STATEMENT. -/
theorem fnExactAllWithin_proved : Rows.FnExactAllWithinSaid := fnExactAllWithin_over
#print axioms fnExactAllWithin_proved
end Go.Proofs.Ytjohoameeeaafaa
