/- The law FnExactSealIn returns true at every input, and its arguments read behind the call as before. Conditions: none beyond the given row's. -/
import Derived.Test.YtjohoameeeaafaaRows
import Derived.WalkKit
import Derived.ProofKit
import Derived.OpenShut
import Derived.Test.YtjohoameeeaafaaAmTop
import Derived.Test.YtjohoameeeaafaaR1LSealIn
set_option linter.unusedVariables false
set_option linter.unusedSimpArgs false
namespace Go.Proofs.Ytjohoameeeaafaa
open Go.AM
open Go.ChangeShapes Go.WideShapes Go.ChangeAt Go.RowKit
set_option linter.unusedVariables false
theorem own : ownKnob Try.prog.godebug = none := by kernel_rfl
noncomputable def gfl88 : Array Field := match Try.prog.underlying 88 with | some (.struct fs) => fs | _ => #[]
noncomputable def gfl122 : Array Field := match Try.prog.underlying 122 with | some (.struct fs) => fs | _ => #[]
structure Facts (P : Program) (f88 f122 : Array Field) : Prop where
  und3 : P.underlying 3 = some (.int .i64)
  und88 : P.underlying 88 = some (.struct f88)
  fls88 : f88.toList.map (·.type) = [3, 3]
  und122 : P.underlying 122 = some (.struct f122)
  fls122 : f122.toList.map (·.type) = [3, 3, 88]
  und32 : P.underlying 32 = some (.slice 122)
  cel122 : P.cellsOf 122 = 4
theorem dat88 {P : Program} {f88 f122 : Array Field} (F : Facts P f88 f122) {n : Nat} {d : Dat} (h : Dat.ok P (n + 2) 88 d) : ∃ x : DValue, d.cells = x.c false := by
  obtain ⟨ds, rfl, hh⟩ := dat_struct F.und88 h
  rw [F.fls88] at hh
  obtain ⟨d0, ds, rfl, k0, hh⟩ := DatAll.cons hh
  obtain ⟨d1, ds, rfl, k1, hh⟩ := DatAll.cons hh
  obtain rfl := DatAll.nil hh
  obtain ⟨x0, rfl, _⟩ := dat_int F.und3 k0
  obtain ⟨x1, rfl, _⟩ := dat_int F.und3 k1
  exact ⟨⟨x0, x1⟩, by simp [Dat.cells, Dat.cellsF, DValue.c]⟩
theorem dat122 {P : Program} {f88 f122 : Array Field} (F : Facts P f88 f122) {n : Nat} {d : Dat} (h : Dat.ok P (n + 3) 122 d) : ∃ x : DBox, d.cells = x.c false := by
  obtain ⟨ds, rfl, hh⟩ := dat_struct F.und122 h
  rw [F.fls122] at hh
  obtain ⟨d0, ds, rfl, k0, hh⟩ := DatAll.cons hh
  obtain ⟨d1, ds, rfl, k1, hh⟩ := DatAll.cons hh
  obtain ⟨d2, ds, rfl, k2, hh⟩ := DatAll.cons hh
  obtain rfl := DatAll.nil hh
  obtain ⟨x0, rfl, _⟩ := dat_int F.und3 k0
  obtain ⟨x1, rfl, _⟩ := dat_int F.und3 k1
  obtain ⟨x2, e2⟩ := dat88 F k2
  exact ⟨⟨x0, x1, x2⟩, by simp [Dat.cells, Dat.cellsF, e2, DBox.c, DValue.c]⟩
theorem dat32 {P : Program} {f88 f122 : Array Field} (F : Facts P f88 f122) {n : Nat} {d : Dat} (h : Dat.ok P (n + 4) 32 d) : ∃ l : List DBox, d.av = .vs false 4 false (l.map (DBox.c false)) ∧ d.cells = [.vs false 4 false (l.map (DBox.c false))] ∧ l.length ≤ maxLen := by
  obtain ⟨xs, rfl, hm, hx⟩ := dat_sl F.und32 h
  obtain ⟨zs, e1, e2, e3⟩ := dat_listQ (DBox.c false) (fun _ => True) (fun d hd => by have := dat122 F hd; obtain ⟨x, hx⟩ := this; exact ⟨x, hx, trivial⟩) hx
  exact ⟨zs, by simp only [Dat.av, AM.sl, F.cel122, e2], by simp only [Dat.cells, AM.sl, F.cel122, e2], by omega⟩
theorem facts : Facts Try.prog gfl88 gfl122 := ⟨by kernel_rfl, by kernel_rfl, by kernel_rfl, by kernel_rfl, by kernel_rfl, by kernel_rfl, by kernel_rfl⟩
set_option maxRecDepth 100000 in
theorem fnExactSealIn_walk (ds : List Dat) (h : DatAll Try.prog 4 Try.f12.params.toList ds) : T Try.prog (fun _ => none) 12 (ds.map Dat.av) [] fun v _ => v = .bool true := by
  have hp : Try.f12.params.toList = [32, 3, 88] := by kernel_rfl
  obtain ⟨d0, ds, rfl, k0, h⟩ := DatAll.cons (hp ▸ h : DatAll Try.prog 4 [32, 3, 88] ds)
  obtain ⟨d1, ds, rfl, k1, h⟩ := DatAll.cons h
  obtain ⟨d2, ds, rfl, k2, h⟩ := DatAll.cons h
  obtain rfl := DatAll.nil h
  obtain ⟨x0, e0, _, q0⟩ := dat32 facts (n := 0) k0
  obtain ⟨x1, rfl, w1⟩ := dat_int (n := 3) facts.und3 k1
  obtain ⟨x2, c2⟩ := dat88 facts (n := 2) k2
  have e2 : d2.av = .agg (x2.c false) := dat_agg facts.und88 k2 c2
  have := law_SealIn (Γ := fun _ => none) x0 q0 x1 x2 []
  rw [← e0, ← e2] at this
  exact this.mono fun v h' hv => hv.1
set_option maxRecDepth 100000 in
theorem fnExactSealIn_lifted (os : Os) (started : os.Started) (H : Type) (enc : TypeId × Value → H) :
    ReturnsInHanded {} Try.checked os 12 .any (Rows.fnExactSealInSpec.pre6 enc Try.prog Try.f12 Rows.fnExactSealInRow.domain false) (Rows.fnExactSealInSpec.post enc Try.prog Try.f12 false true false false) := by
  refine returnsInHanded_of_change (C := Try.checked) own started (by kernel_rfl) Try.func12
    (ChangeSpec.witness6 (enc := enc) (C := Try.checked) false ⟨#[], #[.slice none 0 0, .int .i64 0, .agg #[.int .i64 0, .int .i64 0]], []⟩ 8 (by kernel_rfl) (by kernel_rfl) (by kernel_rfl) (by kernel_rfl)) ?_
  intro W base args ds gs before hval hW hcnd _
  refine law_post (n := 4) (tb := 4) (by decide +kernel) rfl (by kernel_rfl) (by kernel_rfl) (fun xs hx => ?_) fnExactSealIn_walk hval hW
  have hp : Try.f12.params.toList.length = 3 := by kernel_rfl
  rw [hp] at hx
  match xs, hx with
  | [_, _, _], _ => rfl
theorem fnExactSealIn_over : Rows.fnExactSealInRow.holds Try.pinned (OpenSpec.ofChange Rows.fnExactSealInSpec) :=
  OpenClaim.holds_of_wide 12 Try.f12 rfl rfl rfl rfl rfl rfl rfl ⟨rfl, rfl, rfl, rfl, rfl⟩ rfl rfl rfl rfl rfl (by kernel_rfl) Try.func12 (by kernel_rfl)
    (of_decide_eq_true (by kernel_rfl)) (by unfold Func.isWrapper; first | (rw [if_pos (by decide +kernel)]; kernel_rfl) | (rw [if_neg (by decide +kernel)]; exact ⟨rfl, rfl⟩))
    (fun os started H enc _ => fnExactSealIn_lifted os started H enc)
/-- THE STATEMENT. -/
theorem fnExactSealIn_proved : Rows.FnExactSealInSaid := fnExactSealIn_over
#print axioms fnExactSealIn_proved
end Go.Proofs.Ytjohoameeeaafaa
