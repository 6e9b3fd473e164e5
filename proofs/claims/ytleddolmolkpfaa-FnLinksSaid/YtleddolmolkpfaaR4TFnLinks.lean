/- The law FnLinks returns true at every input, and its arguments read behind the call as before. Conditions: none beyond the given row's. -/
import Derived.Test.YtleddolmolkpfaaRows
import Derived.WalkKit
import Derived.ProofKit
import Derived.OpenShut
import Derived.Test.YtleddolmolkpfaaAmTop
import Derived.Test.YtleddolmolkpfaaR4LFnLinks
set_option linter.unusedVariables false
set_option linter.unusedSimpArgs false
namespace Go.Proofs.Ytleddolmolkpfaa
open Go.AM
open Go.ChangeShapes Go.WideShapes Go.ChangeAt Go.RowKit
set_option linter.unusedVariables false
theorem own : ownKnob Try.prog.godebug = none := by kernel_rfl
structure Facts (P : Program) : Prop where
  und5 : P.underlying 5 = some (.int .u8)
  und22 : P.underlying 22 = some (.slice 5)
  cel5 : P.cellsOf 5 = 1
theorem dat22 {P : Program} (F : Facts P) {n : Nat} {d : Dat} (h : Dat.ok P (n + 2) 22 d) : ∃ l : List Int, d.av = .vs false 1 false (l.map fun n => [.int .u8 n]) ∧ l.length ≤ maxLen ∧ ∀ x ∈ l, 0 ≤ x ∧ x < 256 := by
  obtain ⟨xs, rfl, hm, hx⟩ := dat_sl F.und22 h
  obtain ⟨zs, e1, e2, e3⟩ := dat_listQ (fun m : Int => [.int .u8 m]) (fun x => 0 ≤ x ∧ x < 256) (fun d hd => by obtain ⟨m, rfl, hw⟩ := dat_int F.und5 hd; exact ⟨m, rfl, by simp [Lit.wf, IntKind.min, IntKind.max, IntKind.signed, IntKind.bits] at hw; omega⟩) hx
  exact ⟨zs, by simp only [Dat.av, AM.sl, F.cel5, e2], by omega, e3⟩
theorem facts : Facts Try.prog := ⟨by kernel_rfl, by kernel_rfl, by kernel_rfl⟩
set_option maxRecDepth 100000 in
theorem fnLinks_walk (ds : List Dat) (h : DatAll Try.prog 2 Try.f3.params.toList ds) : T Try.prog (fun _ => none) 3 (ds.map Dat.av) [] fun v _ => v = .bool true := by
  have hp : Try.f3.params.toList = [22] := by kernel_rfl
  obtain ⟨d0, ds, rfl, k0, h⟩ := DatAll.cons (hp ▸ h : DatAll Try.prog 2 [22] ds)
  obtain rfl := DatAll.nil h
  obtain ⟨x0, e0, q0, r0⟩ := dat22 facts (n := 0) k0
  have := law_FnLinks (Γ := fun _ => none) x0 q0 r0 []
  rw [← e0] at this
  exact this.mono fun v h' hv => hv.1
set_option maxRecDepth 100000 in
theorem fnLinks_lifted (os : Os) (started : os.Started) (H : Type) (enc : TypeId × Value → H) :
    ReturnsInHanded {} Try.checked os 3 .any (Rows.fnLinksSpec.pre6 enc Try.prog Try.f3 Rows.fnLinksRow.domain false) (Rows.fnLinksSpec.post enc Try.prog Try.f3 false true false false) := by
  refine returnsInHanded_of_change (C := Try.checked) own started (by kernel_rfl) Try.func3
    (ChangeSpec.witness6 (enc := enc) (C := Try.checked) false ⟨#[], #[.slice none 0 0], []⟩ 8 (by kernel_rfl) (by kernel_rfl) (by kernel_rfl) (by kernel_rfl)) ?_
  intro W base args ds gs before hval hW hcnd _
  refine law_post (n := 2) (tb := 4) (by decide +kernel) rfl (by kernel_rfl) (by kernel_rfl) (fun xs hx => ?_) fnLinks_walk hval hW
  have hp : Try.f3.params.toList.length = 1 := by kernel_rfl
  rw [hp] at hx
  match xs, hx with
  | [_], _ => rfl
theorem fnLinks_over : Rows.fnLinksRow.holds Try.pinned (OpenSpec.ofChange Rows.fnLinksSpec) :=
  OpenClaim.holds_of_wide 3 Try.f3 rfl rfl rfl rfl rfl rfl rfl ⟨rfl, rfl, rfl, rfl, rfl⟩ rfl rfl rfl rfl rfl (by kernel_rfl) Try.func3 (by kernel_rfl)
    (of_decide_eq_true (by kernel_rfl)) (by unfold Func.isWrapper; first | (rw [if_pos (by decide +kernel)]; kernel_rfl) | (rw [if_neg (by decide +kernel)]; exact ⟨rfl, rfl⟩))
    (fun os started H enc _ => fnLinks_lifted os started H enc)
theorem fnLinks_proved : Rows.FnLinksSaid := fnLinks_over
#print axioms fnLinks_proved
end Go.Proofs.Ytleddolmolkpfaa

