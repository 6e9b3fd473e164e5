/- The law FnExactFindExport returns true at every input, and its arguments read behind the call as before. Conditions: none beyond the given row's. -/
import Derived.Test.YtjohoameeeaafaaRows
import Derived.WalkKit
import Derived.ProofKit
import Derived.OpenShut
import Derived.Test.YtjohoameeeaafaaAmTop
import Derived.Test.YtjohoameeeaafaaR1LFindExport
set_option linter.unusedVariables false
set_option linter.unusedSimpArgs false
namespace Go.Proofs.Ytjohoameeeaafaa
open Go.AM
open Go.ChangeShapes Go.WideShapes Go.ChangeAt Go.RowKit
set_option linter.unusedVariables false
theorem own : ownKnob Try.prog.godebug = none := by kernel_rfl
noncomputable def gfl171 : Array Field := match Try.prog.underlying 171 with | some (.struct fs) => fs | _ => #[]
noncomputable def gfl175 : Array Field := match Try.prog.underlying 175 with | some (.struct fs) => fs | _ => #[]
noncomputable def gfl96 : Array Field := match Try.prog.underlying 96 with | some (.struct fs) => fs | _ => #[]
structure Facts (P : Program) (f171 f175 f96 : Array Field) : Prop where
  und3 : P.underlying 3 = some (.int .i64)
  und4 : P.underlying 4 = some .bool
  und171 : P.underlying 171 = some (.struct f171)
  fls171 : f171.toList.map (·.type) = [3, 3, 3]
  und93 : P.underlying 93 = some (.slice 171)
  cel171 : P.cellsOf 171 = 3
  und175 : P.underlying 175 = some (.struct f175)
  fls175 : f175.toList.map (·.type) = [3, 3]
  und94 : P.underlying 94 = some (.slice 175)
  cel175 : P.cellsOf 175 = 2
  und96 : P.underlying 96 = some (.struct f96)
  fls96 : f96.toList.map (·.type) = [3, 4, 93, 3, 94, 3, 94]
theorem dat171 {P : Program} {f171 f175 f96 : Array Field} (F : Facts P f171 f175 f96) {n : Nat} {d : Dat} (h : Dat.ok P (n + 2) 171 d) : ∃ x : DExport, d.cells = x.c false := by
  obtain ⟨ds, rfl, hh⟩ := dat_struct F.und171 h
  rw [F.fls171] at hh
  obtain ⟨d0, ds, rfl, k0, hh⟩ := DatAll.cons hh
  obtain ⟨d1, ds, rfl, k1, hh⟩ := DatAll.cons hh
  obtain ⟨d2, ds, rfl, k2, hh⟩ := DatAll.cons hh
  obtain rfl := DatAll.nil hh
  obtain ⟨x0, rfl, _⟩ := dat_int F.und3 k0
  obtain ⟨x1, rfl, _⟩ := dat_int F.und3 k1
  obtain ⟨x2, rfl, _⟩ := dat_int F.und3 k2
  exact ⟨⟨x0, x1, x2⟩, by simp [Dat.cells, Dat.cellsF, DExport.c]⟩
theorem dat93 {P : Program} {f171 f175 f96 : Array Field} (F : Facts P f171 f175 f96) {n : Nat} {d : Dat} (h : Dat.ok P (n + 3) 93 d) : ∃ l : List DExport, d.av = .vs false 3 false (l.map (DExport.c false)) ∧ d.cells = [.vs false 3 false (l.map (DExport.c false))] ∧ l.length ≤ maxLen := by
  obtain ⟨xs, rfl, hm, hx⟩ := dat_sl F.und93 h
  obtain ⟨zs, e1, e2, e3⟩ := dat_listQ (DExport.c false) (fun _ => True) (fun d hd => by have := dat171 F hd; obtain ⟨x, hx⟩ := this; exact ⟨x, hx, trivial⟩) hx
  exact ⟨zs, by simp only [Dat.av, AM.sl, F.cel171, e2], by simp only [Dat.cells, AM.sl, F.cel171, e2], by omega⟩
theorem dat175 {P : Program} {f171 f175 f96 : Array Field} (F : Facts P f171 f175 f96) {n : Nat} {d : Dat} (h : Dat.ok P (n + 2) 175 d) : ∃ x : DQuestion, d.cells = x.c false := by
  obtain ⟨ds, rfl, hh⟩ := dat_struct F.und175 h
  rw [F.fls175] at hh
  obtain ⟨d0, ds, rfl, k0, hh⟩ := DatAll.cons hh
  obtain ⟨d1, ds, rfl, k1, hh⟩ := DatAll.cons hh
  obtain rfl := DatAll.nil hh
  obtain ⟨x0, rfl, _⟩ := dat_int F.und3 k0
  obtain ⟨x1, rfl, _⟩ := dat_int F.und3 k1
  exact ⟨⟨x0, x1⟩, by simp [Dat.cells, Dat.cellsF, DQuestion.c]⟩
theorem dat94 {P : Program} {f171 f175 f96 : Array Field} (F : Facts P f171 f175 f96) {n : Nat} {d : Dat} (h : Dat.ok P (n + 3) 94 d) : ∃ l : List DQuestion, d.av = .vs false 2 false (l.map (DQuestion.c false)) ∧ d.cells = [.vs false 2 false (l.map (DQuestion.c false))] ∧ l.length ≤ maxLen := by
  obtain ⟨xs, rfl, hm, hx⟩ := dat_sl F.und94 h
  obtain ⟨zs, e1, e2, e3⟩ := dat_listQ (DQuestion.c false) (fun _ => True) (fun d hd => by have := dat175 F hd; obtain ⟨x, hx⟩ := this; exact ⟨x, hx, trivial⟩) hx
  exact ⟨zs, by simp only [Dat.av, AM.sl, F.cel175, e2], by simp only [Dat.cells, AM.sl, F.cel175, e2], by omega⟩
theorem dat96 {P : Program} {f171 f175 f96 : Array Field} (F : Facts P f171 f175 f96) {n : Nat} {d : Dat} (h : Dat.ok P (n + 4) 96 d) : ∃ x : DLink, d.cells = x.c false ∧ x.ok maxLen := by
  obtain ⟨ds, rfl, hh⟩ := dat_struct F.und96 h
  rw [F.fls96] at hh
  obtain ⟨d0, ds, rfl, k0, hh⟩ := DatAll.cons hh
  obtain ⟨d1, ds, rfl, k1, hh⟩ := DatAll.cons hh
  obtain ⟨d2, ds, rfl, k2, hh⟩ := DatAll.cons hh
  obtain ⟨d3, ds, rfl, k3, hh⟩ := DatAll.cons hh
  obtain ⟨d4, ds, rfl, k4, hh⟩ := DatAll.cons hh
  obtain ⟨d5, ds, rfl, k5, hh⟩ := DatAll.cons hh
  obtain ⟨d6, ds, rfl, k6, hh⟩ := DatAll.cons hh
  obtain rfl := DatAll.nil hh
  obtain ⟨x0, rfl, _⟩ := dat_int F.und3 k0
  obtain ⟨x1, rfl⟩ := dat_bool F.und4 k1
  obtain ⟨x2, _, e2, q2⟩ := dat93 F k2
  obtain ⟨x3, rfl, _⟩ := dat_int F.und3 k3
  obtain ⟨x4, _, e4, q4⟩ := dat94 F k4
  obtain ⟨x5, rfl, _⟩ := dat_int F.und3 k5
  obtain ⟨x6, _, e6, q6⟩ := dat94 F k6
  exact ⟨⟨x0, x1, x2, x3, x4, x5, x6⟩, by simp [Dat.cells, Dat.cellsF, e2, e4, e6, DLink.c], ⟨q2, q4, q6⟩⟩
theorem facts : Facts Try.prog gfl171 gfl175 gfl96 := ⟨by kernel_rfl, by kernel_rfl, by kernel_rfl, by kernel_rfl, by kernel_rfl, by kernel_rfl, by kernel_rfl, by kernel_rfl, by kernel_rfl, by kernel_rfl, by kernel_rfl, by kernel_rfl⟩
set_option maxRecDepth 100000 in
theorem fnExactFindExport_walk (ds : List Dat) (h : DatAll Try.prog 4 Try.f13.params.toList ds) : T Try.prog (fun _ => none) 13 (ds.map Dat.av) [] fun v _ => v = .bool true := by
  have hp : Try.f13.params.toList = [96, 3] := by kernel_rfl
  obtain ⟨d0, ds, rfl, k0, h⟩ := DatAll.cons (hp ▸ h : DatAll Try.prog 4 [96, 3] ds)
  obtain ⟨d1, ds, rfl, k1, h⟩ := DatAll.cons h
  obtain rfl := DatAll.nil h
  obtain ⟨x0, c0, q0⟩ := dat96 facts (n := 0) k0
  have e0 : d0.av = .agg (x0.c false) := dat_agg facts.und96 k0 c0
  obtain ⟨x1, rfl, w1⟩ := dat_int (n := 3) facts.und3 k1
  have := law_FindExport (Γ := fun _ => none) x0 q0 x1 []
  rw [← e0] at this
  exact this.mono fun v h' hv => hv.1
set_option maxRecDepth 100000 in
theorem fnExactFindExport_lifted (os : Os) (started : os.Started) (H : Type) (enc : TypeId × Value → H) :
    ReturnsInHanded {} Try.checked os 13 .any (Rows.fnExactFindExportSpec.pre6 enc Try.prog Try.f13 Rows.fnExactFindExportRow.domain false) (Rows.fnExactFindExportSpec.post enc Try.prog Try.f13 false true false false) := by
  refine returnsInHanded_of_change (C := Try.checked) own started (by kernel_rfl) Try.func13
    (ChangeSpec.witness6 (enc := enc) (C := Try.checked) false ⟨#[], #[.agg #[.int .i64 0, .bool false, .slice none 0 0, .int .i64 0, .slice none 0 0, .int .i64 0, .slice none 0 0], .int .i64 0], []⟩ 8 (by kernel_rfl) (by kernel_rfl) (by kernel_rfl) (by kernel_rfl)) ?_
  intro W base args ds gs before hval hW hcnd _
  refine law_post (n := 4) (tb := 4) (by decide +kernel) rfl (by kernel_rfl) (by kernel_rfl) (fun xs hx => ?_) fnExactFindExport_walk hval hW
  have hp : Try.f13.params.toList.length = 2 := by kernel_rfl
  rw [hp] at hx
  match xs, hx with
  | [_, _], _ => rfl
theorem fnExactFindExport_over : Rows.fnExactFindExportRow.holds Try.pinned (OpenSpec.ofChange Rows.fnExactFindExportSpec) :=
  OpenClaim.holds_of_wide 13 Try.f13 rfl rfl rfl rfl rfl rfl rfl ⟨rfl, rfl, rfl, rfl, rfl⟩ rfl rfl rfl rfl rfl (by kernel_rfl) Try.func13 (by kernel_rfl)
    (of_decide_eq_true (by kernel_rfl)) (by unfold Func.isWrapper; first | (rw [if_pos (by decide +kernel)]; kernel_rfl) | (rw [if_neg (by decide +kernel)]; exact ⟨rfl, rfl⟩))
    (fun os started H enc _ => fnExactFindExport_lifted os started H enc)
/-- THE STATEMENT. -/
theorem fnExactFindExport_proved : Rows.FnExactFindExportSaid := fnExactFindExport_over
#print axioms fnExactFindExport_proved
end Go.Proofs.Ytjohoameeeaafaa
