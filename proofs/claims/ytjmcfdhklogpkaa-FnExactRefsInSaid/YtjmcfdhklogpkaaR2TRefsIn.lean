/- The law FnExactRefsIn returns true at every input, and its arguments read behind the call as before. Conditions: none beyond the given row's. -/
import Derived.Test.YtjmcfdhklogpkaaRows
import Derived.WalkKit
import Derived.ProofKit
import Derived.OpenShut
import Derived.Test.YtjmcfdhklogpkaaAmTop
import Derived.Test.YtjmcfdhklogpkaaR2LRefsIn
set_option linter.unusedVariables false
set_option linter.unusedSimpArgs false
namespace Go.Proofs.Ytjmcfdhklogpkaa
open Go.AM
open Go.ChangeShapes Go.WideShapes Go.ChangeAt Go.RowKit
set_option linter.unusedVariables false
theorem own : ownKnob Try.prog.godebug = none := by kernel_rfl
noncomputable def gfl171 : Array Field := match Try.prog.underlying 171 with | some (.struct fs) => fs | _ => #[]
noncomputable def gfl75 : Array Field := match Try.prog.underlying 75 with | some (.struct fs) => fs | _ => #[]
noncomputable def gfl93 : Array Field := match Try.prog.underlying 93 with | some (.struct fs) => fs | _ => #[]
structure Facts (P : Program) (f171 f75 f93 : Array Field) : Prop where
  und3 : P.underlying 3 = some (.int .i64)
  und9 : P.underlying 9 = some .string
  und171 : P.underlying 171 = some (.struct f171)
  fls171 : f171.toList.map (·.type) = [3, 3]
  und91 : P.underlying 91 = some (.slice 171)
  cel171 : P.cellsOf 171 = 2
  und75 : P.underlying 75 = some (.struct f75)
  fls75 : f75.toList.map (·.type) = [3, 3, 3]
  und93 : P.underlying 93 = some (.struct f93)
  fls93 : f93.toList.map (·.type) = [3, 9, 91, 3, 75]
  und22 : P.underlying 22 = some (.slice 93)
  cel93 : P.cellsOf 93 = 7
theorem dat171 {P : Program} {f171 f75 f93 : Array Field} (F : Facts P f171 f75 f93) {n : Nat} {d : Dat} (h : Dat.ok P (n + 2) 171 d) : ∃ x : DValue, d.cells = x.c false := by
  obtain ⟨ds, rfl, hh⟩ := dat_struct F.und171 h
  rw [F.fls171] at hh
  obtain ⟨d0, ds, rfl, k0, hh⟩ := DatAll.cons hh
  obtain ⟨d1, ds, rfl, k1, hh⟩ := DatAll.cons hh
  obtain rfl := DatAll.nil hh
  obtain ⟨x0, rfl, _⟩ := dat_int F.und3 k0
  obtain ⟨x1, rfl, _⟩ := dat_int F.und3 k1
  exact ⟨⟨x0, x1⟩, by simp [Dat.cells, Dat.cellsF, DValue.c]⟩
theorem dat91 {P : Program} {f171 f75 f93 : Array Field} (F : Facts P f171 f75 f93) {n : Nat} {d : Dat} (h : Dat.ok P (n + 3) 91 d) : ∃ l : List DValue, d.av = .vs false 2 false (l.map (DValue.c false)) ∧ d.cells = [.vs false 2 false (l.map (DValue.c false))] ∧ l.length ≤ maxLen := by
  obtain ⟨xs, rfl, hm, hx⟩ := dat_sl F.und91 h
  obtain ⟨zs, e1, e2, e3⟩ := dat_listQ (DValue.c false) (fun _ => True) (fun d hd => by have := dat171 F hd; obtain ⟨x, hx⟩ := this; exact ⟨x, hx, trivial⟩) hx
  exact ⟨zs, by simp only [Dat.av, AM.sl, F.cel171, e2], by simp only [Dat.cells, AM.sl, F.cel171, e2], by omega⟩
theorem dat75 {P : Program} {f171 f75 f93 : Array Field} (F : Facts P f171 f75 f93) {n : Nat} {d : Dat} (h : Dat.ok P (n + 2) 75 d) : ∃ x : DTag, d.cells = x.c false := by
  obtain ⟨ds, rfl, hh⟩ := dat_struct F.und75 h
  rw [F.fls75] at hh
  obtain ⟨d0, ds, rfl, k0, hh⟩ := DatAll.cons hh
  obtain ⟨d1, ds, rfl, k1, hh⟩ := DatAll.cons hh
  obtain ⟨d2, ds, rfl, k2, hh⟩ := DatAll.cons hh
  obtain rfl := DatAll.nil hh
  obtain ⟨x0, rfl, _⟩ := dat_int F.und3 k0
  obtain ⟨x1, rfl, _⟩ := dat_int F.und3 k1
  obtain ⟨x2, rfl, _⟩ := dat_int F.und3 k2
  exact ⟨⟨x0, x1, x2⟩, by simp [Dat.cells, Dat.cellsF, DTag.c]⟩
theorem dat93 {P : Program} {f171 f75 f93 : Array Field} (F : Facts P f171 f75 f93) {n : Nat} {d : Dat} (h : Dat.ok P (n + 4) 93 d) : ∃ x : DSent, d.cells = x.c false ∧ x.ok maxLen := by
  obtain ⟨ds, rfl, hh⟩ := dat_struct F.und93 h
  rw [F.fls93] at hh
  obtain ⟨d0, ds, rfl, k0, hh⟩ := DatAll.cons hh
  obtain ⟨d1, ds, rfl, k1, hh⟩ := DatAll.cons hh
  obtain ⟨d2, ds, rfl, k2, hh⟩ := DatAll.cons hh
  obtain ⟨d3, ds, rfl, k3, hh⟩ := DatAll.cons hh
  obtain ⟨d4, ds, rfl, k4, hh⟩ := DatAll.cons hh
  obtain rfl := DatAll.nil hh
  obtain ⟨x0, rfl, _⟩ := dat_int F.und3 k0
  obtain ⟨x1, rfl, q1⟩ := dat_str F.und9 k1
  obtain ⟨x2, _, e2, q2⟩ := dat91 F k2
  obtain ⟨x3, rfl, _⟩ := dat_int F.und3 k3
  obtain ⟨x4, e4⟩ := dat75 F k4
  exact ⟨⟨x0, x1, x2, x3, x4⟩, by simp [Dat.cells, Dat.cellsF, e2, e4, DSent.c, DTag.c], ⟨q1, q2⟩⟩
theorem dat22 {P : Program} {f171 f75 f93 : Array Field} (F : Facts P f171 f75 f93) {n : Nat} {d : Dat} (h : Dat.ok P (n + 5) 22 d) : ∃ l : List DSent, d.av = .vs false 7 false (l.map (DSent.c false)) ∧ d.cells = [.vs false 7 false (l.map (DSent.c false))] ∧ l.length ≤ maxLen ∧ ∀ x ∈ l, x.ok maxLen := by
  obtain ⟨xs, rfl, hm, hx⟩ := dat_sl F.und22 h
  obtain ⟨zs, e1, e2, e3⟩ := dat_listQ (DSent.c false) (DSent.ok maxLen) (fun d hd => by have := dat93 F hd; exact this) hx
  exact ⟨zs, by simp only [Dat.av, AM.sl, F.cel93, e2], by simp only [Dat.cells, AM.sl, F.cel93, e2], by omega, e3⟩
theorem facts : Facts Try.prog gfl171 gfl75 gfl93 := ⟨by kernel_rfl, by kernel_rfl, by kernel_rfl, by kernel_rfl, by kernel_rfl, by kernel_rfl, by kernel_rfl, by kernel_rfl, by kernel_rfl, by kernel_rfl, by kernel_rfl, by kernel_rfl⟩
set_option maxRecDepth 100000 in
theorem fnExactRefsIn_walk (ds : List Dat) (h : DatAll Try.prog 5 Try.f3.params.toList ds) : T Try.prog (fun _ => none) 3 (ds.map Dat.av) [] fun v _ => v = .bool true := by
  have hp : Try.f3.params.toList = [22] := by kernel_rfl
  obtain ⟨d0, ds, rfl, k0, h⟩ := DatAll.cons (hp ▸ h : DatAll Try.prog 5 [22] ds)
  obtain rfl := DatAll.nil h
  obtain ⟨x0, e0, _, q0, r0⟩ := dat22 facts (n := 0) k0
  have := law_RefsIn (Γ := fun _ => none) x0 q0 r0 []
  rw [← e0] at this
  exact this.mono fun v h' hv => hv.1
set_option maxRecDepth 100000 in
theorem fnExactRefsIn_lifted (os : Os) (started : os.Started) (H : Type) (enc : TypeId × Value → H) :
    ReturnsInHanded {} Try.checked os 3 .any (Rows.fnExactRefsInSpec.pre6 enc Try.prog Try.f3 Rows.fnExactRefsInRow.domain false) (Rows.fnExactRefsInSpec.post enc Try.prog Try.f3 false true false false) := by
  refine returnsInHanded_of_change (C := Try.checked) own started (by kernel_rfl) Try.func3
    (ChangeSpec.witness6 (enc := enc) (C := Try.checked) false ⟨#[], #[.slice none 0 0], []⟩ 8 (by kernel_rfl) (by kernel_rfl) (by kernel_rfl) (by kernel_rfl)) ?_
  intro W base args ds gs before hval hW hcnd _
  refine law_post (n := 5) (tb := 4) (by decide +kernel) rfl (by kernel_rfl) (by kernel_rfl) (fun xs hx => ?_) fnExactRefsIn_walk hval hW
  have hp : Try.f3.params.toList.length = 1 := by kernel_rfl
  rw [hp] at hx
  match xs, hx with
  | [_], _ => rfl
theorem fnExactRefsIn_over : Rows.fnExactRefsInRow.holds Try.pinned (OpenSpec.ofChange Rows.fnExactRefsInSpec) :=
  OpenClaim.holds_of_wide 3 Try.f3 rfl rfl rfl rfl rfl rfl rfl ⟨rfl, rfl, rfl, rfl, rfl⟩ rfl rfl rfl rfl rfl (by kernel_rfl) Try.func3 (by kernel_rfl)
    (of_decide_eq_true (by kernel_rfl)) (by unfold Func.isWrapper; first | (rw [if_pos (by decide +kernel)]; kernel_rfl) | (rw [if_neg (by decide +kernel)]; exact ⟨rfl, rfl⟩))
    (fun os started H enc _ => fnExactRefsIn_lifted os started H enc)
/-- THE STATEMENT. -/
theorem fnExactRefsIn_proved : Rows.FnExactRefsInSaid := fnExactRefsIn_over
#print axioms fnExactRefsIn_proved
end Go.Proofs.Ytjmcfdhklogpkaa
