/- The law FnExactEqualOutputs returns true at every input, and its arguments read behind the call as before. Conditions: none beyond the given row's. -/
import Derived.Test.YtjmcfdhklogpkaaRows
import Derived.WalkKit
import Derived.ProofKit
import Derived.OpenShut
import Derived.Test.YtjmcfdhklogpkaaAmTop
import Derived.Test.YtjmcfdhklogpkaaR2LEqualOutputs
set_option linter.unusedVariables false
set_option linter.unusedSimpArgs false
namespace Go.Proofs.Ytjmcfdhklogpkaa
open Go.AM
open Go.ChangeShapes Go.WideShapes Go.ChangeAt Go.RowKit
set_option linter.unusedVariables false
theorem own : ownKnob Try.prog.godebug = none := by kernel_rfl
noncomputable def gfl73 : Array Field := match Try.prog.underlying 73 with | some (.struct fs) => fs | _ => #[]
noncomputable def gfl75 : Array Field := match Try.prog.underlying 75 with | some (.struct fs) => fs | _ => #[]
noncomputable def gfl77 : Array Field := match Try.prog.underlying 77 with | some (.struct fs) => fs | _ => #[]
noncomputable def gfl117 : Array Field := match Try.prog.underlying 117 with | some (.struct fs) => fs | _ => #[]
structure Facts (P : Program) (f73 f75 f77 f117 : Array Field) : Prop where
  und3 : P.underlying 3 = some (.int .i64)
  und9 : P.underlying 9 = some .string
  und73 : P.underlying 73 = some (.struct f73)
  fls73 : f73.toList.map (·.type) = [3, 3]
  und72 : P.underlying 72 = some (.slice 73)
  cel73 : P.cellsOf 73 = 2
  und75 : P.underlying 75 = some (.struct f75)
  fls75 : f75.toList.map (·.type) = [3, 3, 3]
  und77 : P.underlying 77 = some (.struct f77)
  fls77 : f77.toList.map (·.type) = [3, 3, 3, 3, 9, 72, 73, 3, 75]
  und117 : P.underlying 117 = some (.struct f117)
  fls117 : f117.toList.map (·.type) = [3, 77]
  und47 : P.underlying 47 = some (.slice 117)
  cel117 : P.cellsOf 117 = 13
theorem dat73 {P : Program} {f73 f75 f77 f117 : Array Field} (F : Facts P f73 f75 f77 f117) {n : Nat} {d : Dat} (h : Dat.ok P (n + 2) 73 d) : ∃ x : DWire, d.cells = x.c false := by
  obtain ⟨ds, rfl, hh⟩ := dat_struct F.und73 h
  rw [F.fls73] at hh
  obtain ⟨d0, ds, rfl, k0, hh⟩ := DatAll.cons hh
  obtain ⟨d1, ds, rfl, k1, hh⟩ := DatAll.cons hh
  obtain rfl := DatAll.nil hh
  obtain ⟨x0, rfl, _⟩ := dat_int F.und3 k0
  obtain ⟨x1, rfl, _⟩ := dat_int F.und3 k1
  exact ⟨⟨x0, x1⟩, by simp [Dat.cells, Dat.cellsF, DWire.c]⟩
theorem dat72 {P : Program} {f73 f75 f77 f117 : Array Field} (F : Facts P f73 f75 f77 f117) {n : Nat} {d : Dat} (h : Dat.ok P (n + 3) 72 d) : ∃ l : List DWire, d.av = .vs false 2 false (l.map (DWire.c false)) ∧ d.cells = [.vs false 2 false (l.map (DWire.c false))] ∧ l.length ≤ maxLen := by
  obtain ⟨xs, rfl, hm, hx⟩ := dat_sl F.und72 h
  obtain ⟨zs, e1, e2, e3⟩ := dat_listQ (DWire.c false) (fun _ => True) (fun d hd => by have := dat73 F hd; obtain ⟨x, hx⟩ := this; exact ⟨x, hx, trivial⟩) hx
  exact ⟨zs, by simp only [Dat.av, AM.sl, F.cel73, e2], by simp only [Dat.cells, AM.sl, F.cel73, e2], by omega⟩
theorem dat75 {P : Program} {f73 f75 f77 f117 : Array Field} (F : Facts P f73 f75 f77 f117) {n : Nat} {d : Dat} (h : Dat.ok P (n + 2) 75 d) : ∃ x : DTag, d.cells = x.c false := by
  obtain ⟨ds, rfl, hh⟩ := dat_struct F.und75 h
  rw [F.fls75] at hh
  obtain ⟨d0, ds, rfl, k0, hh⟩ := DatAll.cons hh
  obtain ⟨d1, ds, rfl, k1, hh⟩ := DatAll.cons hh
  obtain ⟨d2, ds, rfl, k2, hh⟩ := DatAll.cons hh
  obtain rfl := DatAll.nil hh
  obtain ⟨x0, rfl, _⟩ := dat_int F.und3 k0
  obtain ⟨x1, rfl, _⟩ := dat_int F.und3 k1
  obtain ⟨x2, rfl, _⟩ := dat_int F.und3 k2
  exact ⟨⟨x0, x1, x2⟩, by simp [Dat.cells, Dat.cellsF, DTag.c]⟩
theorem dat77 {P : Program} {f73 f75 f77 f117 : Array Field} (F : Facts P f73 f75 f77 f117) {n : Nat} {d : Dat} (h : Dat.ok P (n + 4) 77 d) : ∃ x : DMessage, d.cells = x.c false ∧ x.ok maxLen := by
  obtain ⟨ds, rfl, hh⟩ := dat_struct F.und77 h
  rw [F.fls77] at hh
  obtain ⟨d0, ds, rfl, k0, hh⟩ := DatAll.cons hh
  obtain ⟨d1, ds, rfl, k1, hh⟩ := DatAll.cons hh
  obtain ⟨d2, ds, rfl, k2, hh⟩ := DatAll.cons hh
  obtain ⟨d3, ds, rfl, k3, hh⟩ := DatAll.cons hh
  obtain ⟨d4, ds, rfl, k4, hh⟩ := DatAll.cons hh
  obtain ⟨d5, ds, rfl, k5, hh⟩ := DatAll.cons hh
  obtain ⟨d6, ds, rfl, k6, hh⟩ := DatAll.cons hh
  obtain ⟨d7, ds, rfl, k7, hh⟩ := DatAll.cons hh
  obtain ⟨d8, ds, rfl, k8, hh⟩ := DatAll.cons hh
  obtain rfl := DatAll.nil hh
  obtain ⟨x0, rfl, _⟩ := dat_int F.und3 k0
  obtain ⟨x1, rfl, _⟩ := dat_int F.und3 k1
  obtain ⟨x2, rfl, _⟩ := dat_int F.und3 k2
  obtain ⟨x3, rfl, _⟩ := dat_int F.und3 k3
  obtain ⟨x4, rfl, q4⟩ := dat_str F.und9 k4
  obtain ⟨x5, _, e5, q5⟩ := dat72 F k5
  obtain ⟨x6, e6⟩ := dat73 F k6
  obtain ⟨x7, rfl, _⟩ := dat_int F.und3 k7
  obtain ⟨x8, e8⟩ := dat75 F k8
  exact ⟨⟨x0, x1, x2, x3, x4, x5, x6, x7, x8⟩, by simp [Dat.cells, Dat.cellsF, e5, e6, e8, DMessage.c, DTag.c, DWire.c], ⟨q4, q5⟩⟩
theorem dat117 {P : Program} {f73 f75 f77 f117 : Array Field} (F : Facts P f73 f75 f77 f117) {n : Nat} {d : Dat} (h : Dat.ok P (n + 5) 117 d) : ∃ x : DOutgoing, d.cells = x.c false ∧ x.ok maxLen := by
  obtain ⟨ds, rfl, hh⟩ := dat_struct F.und117 h
  rw [F.fls117] at hh
  obtain ⟨d0, ds, rfl, k0, hh⟩ := DatAll.cons hh
  obtain ⟨d1, ds, rfl, k1, hh⟩ := DatAll.cons hh
  obtain rfl := DatAll.nil hh
  obtain ⟨x0, rfl, _⟩ := dat_int F.und3 k0
  obtain ⟨x1, e1, q1⟩ := dat77 F k1
  exact ⟨⟨x0, x1⟩, by simp [Dat.cells, Dat.cellsF, e1, DOutgoing.c, DMessage.c], q1⟩
theorem dat47 {P : Program} {f73 f75 f77 f117 : Array Field} (F : Facts P f73 f75 f77 f117) {n : Nat} {d : Dat} (h : Dat.ok P (n + 6) 47 d) : ∃ l : List DOutgoing, d.av = .vs false 13 false (l.map (DOutgoing.c false)) ∧ d.cells = [.vs false 13 false (l.map (DOutgoing.c false))] ∧ l.length ≤ maxLen ∧ ∀ x ∈ l, x.ok maxLen := by
  obtain ⟨xs, rfl, hm, hx⟩ := dat_sl F.und47 h
  obtain ⟨zs, e1, e2, e3⟩ := dat_listQ (DOutgoing.c false) (DOutgoing.ok maxLen) (fun d hd => by have := dat117 F hd; exact this) hx
  exact ⟨zs, by simp only [Dat.av, AM.sl, F.cel117, e2], by simp only [Dat.cells, AM.sl, F.cel117, e2], by omega, e3⟩
theorem facts : Facts Try.prog gfl73 gfl75 gfl77 gfl117 := ⟨by kernel_rfl, by kernel_rfl, by kernel_rfl, by kernel_rfl, by kernel_rfl, by kernel_rfl, by kernel_rfl, by kernel_rfl, by kernel_rfl, by kernel_rfl, by kernel_rfl, by kernel_rfl, by kernel_rfl, by kernel_rfl⟩
set_option maxRecDepth 100000 in
theorem fnExactEqualOutputs_walk (ds : List Dat) (h : DatAll Try.prog 6 Try.f5.params.toList ds) : T Try.prog (fun _ => none) 5 (ds.map Dat.av) [] fun v _ => v = .bool true := by
  have hp : Try.f5.params.toList = [47, 47] := by kernel_rfl
  obtain ⟨d0, ds, rfl, k0, h⟩ := DatAll.cons (hp ▸ h : DatAll Try.prog 6 [47, 47] ds)
  obtain ⟨d1, ds, rfl, k1, h⟩ := DatAll.cons h
  obtain rfl := DatAll.nil h
  obtain ⟨x0, e0, _, q0, r0⟩ := dat47 facts (n := 0) k0
  obtain ⟨x1, e1, _, q1, r1⟩ := dat47 facts (n := 0) k1
  have := law_EqualOutputs (Γ := fun _ => none) x0 q0 r0 x1 q1 r1 []
  rw [← e0, ← e1] at this
  exact this.mono fun v h' hv => hv.1
set_option maxRecDepth 100000 in
theorem fnExactEqualOutputs_lifted (os : Os) (started : os.Started) (H : Type) (enc : TypeId × Value → H) :
    ReturnsInHanded {} Try.checked os 5 .any (Rows.fnExactEqualOutputsSpec.pre6 enc Try.prog Try.f5 Rows.fnExactEqualOutputsRow.domain false) (Rows.fnExactEqualOutputsSpec.post enc Try.prog Try.f5 false true false false) := by
  refine returnsInHanded_of_change (C := Try.checked) own started (by kernel_rfl) Try.func5
    (ChangeSpec.witness6 (enc := enc) (C := Try.checked) false ⟨#[], #[.slice none 0 0, .slice none 0 0], []⟩ 9 (by kernel_rfl) (by kernel_rfl) (by kernel_rfl) (by kernel_rfl)) ?_
  intro W base args ds gs before hval hW hcnd _
  refine law_post (n := 6) (tb := 4) (by decide +kernel) rfl (by kernel_rfl) (by kernel_rfl) (fun xs hx => ?_) fnExactEqualOutputs_walk hval hW
  have hp : Try.f5.params.toList.length = 2 := by kernel_rfl
  rw [hp] at hx
  match xs, hx with
  | [_, _], _ => rfl
theorem fnExactEqualOutputs_over : Rows.fnExactEqualOutputsRow.holds Try.pinned (OpenSpec.ofChange Rows.fnExactEqualOutputsSpec) :=
  OpenClaim.holds_of_wide 5 Try.f5 rfl rfl rfl rfl rfl rfl rfl ⟨rfl, rfl, rfl, rfl, rfl⟩ rfl rfl rfl rfl rfl (by kernel_rfl) Try.func5 (by kernel_rfl)
    (of_decide_eq_true (by kernel_rfl)) (by unfold Func.isWrapper; first | (rw [if_pos (by decide +kernel)]; kernel_rfl) | (rw [if_neg (by decide +kernel)]; exact ⟨rfl, rfl⟩))
    (fun os started H enc _ => fnExactEqualOutputs_lifted os started H enc)
/-- THE STATEMENT. -/
theorem fnExactEqualOutputs_proved : Rows.FnExactEqualOutputsSaid := fnExactEqualOutputs_over
#print axioms fnExactEqualOutputs_proved
end Go.Proofs.Ytjmcfdhklogpkaa
