/- The law FnExactDropGifts returns true at every input, and its arguments read behind the call as before. Conditions: none beyond the given row's. -/
import Derived.Test.YtjohoameeeaafaaRows
import Derived.WalkKit
import Derived.ProofKit
import Derived.OpenShut
import Derived.Test.YtjohoameeeaafaaAmTop
import Derived.Test.YtjohoameeeaafaaR1LDropGifts
set_option linter.unusedVariables false
set_option linter.unusedSimpArgs false
namespace Go.Proofs.Ytjohoameeeaafaa
open Go.AM
open Go.ChangeShapes Go.WideShapes Go.ChangeAt Go.RowKit
set_option linter.unusedVariables false
theorem own : ownKnob Try.prog.godebug = none := by kernel_rfl
noncomputable def gfl82 : Array Field := match Try.prog.underlying 82 with | some (.struct fs) => fs | _ => #[]
structure Facts (P : Program) (f82 : Array Field) : Prop where
  und3 : P.underlying 3 = some (.int .i64)
  und82 : P.underlying 82 = some (.struct f82)
  fls82 : f82.toList.map (·.type) = [3, 3, 3, 3]
  und25 : P.underlying 25 = some (.slice 82)
  cel82 : P.cellsOf 82 = 4
theorem dat82 {P : Program} {f82 : Array Field} (F : Facts P f82) {n : Nat} {d : Dat} (h : Dat.ok P (n + 2) 82 d) : ∃ x : DGift, d.cells = x.c false := by
  obtain ⟨ds, rfl, hh⟩ := dat_struct F.und82 h
  rw [F.fls82] at hh
  obtain ⟨d0, ds, rfl, k0, hh⟩ := DatAll.cons hh
  obtain ⟨d1, ds, rfl, k1, hh⟩ := DatAll.cons hh
  obtain ⟨d2, ds, rfl, k2, hh⟩ := DatAll.cons hh
  obtain ⟨d3, ds, rfl, k3, hh⟩ := DatAll.cons hh
  obtain rfl := DatAll.nil hh
  obtain ⟨x0, rfl, _⟩ := dat_int F.und3 k0
  obtain ⟨x1, rfl, _⟩ := dat_int F.und3 k1
  obtain ⟨x2, rfl, _⟩ := dat_int F.und3 k2
  obtain ⟨x3, rfl, _⟩ := dat_int F.und3 k3
  exact ⟨⟨x0, x1, x2, x3⟩, by simp [Dat.cells, Dat.cellsF, DGift.c]⟩
theorem dat25 {P : Program} {f82 : Array Field} (F : Facts P f82) {n : Nat} {d : Dat} (h : Dat.ok P (n + 3) 25 d) : ∃ l : List DGift, d.av = .vs false 4 false (l.map (DGift.c false)) ∧ d.cells = [.vs false 4 false (l.map (DGift.c false))] ∧ l.length ≤ maxLen := by
  obtain ⟨xs, rfl, hm, hx⟩ := dat_sl F.und25 h
  obtain ⟨zs, e1, e2, e3⟩ := dat_listQ (DGift.c false) (fun _ => True) (fun d hd => by have := dat82 F hd; obtain ⟨x, hx⟩ := this; exact ⟨x, hx, trivial⟩) hx
  exact ⟨zs, by simp only [Dat.av, AM.sl, F.cel82, e2], by simp only [Dat.cells, AM.sl, F.cel82, e2], by omega⟩
theorem facts : Facts Try.prog gfl82 := ⟨by kernel_rfl, by kernel_rfl, by kernel_rfl, by kernel_rfl, by kernel_rfl⟩
set_option maxRecDepth 100000 in
theorem fnExactDropGifts_walk (ds : List Dat) (h : DatAll Try.prog 3 Try.f8.params.toList ds) : T Try.prog (fun _ => none) 8 (ds.map Dat.av) [] fun v _ => v = .bool true := by
  have hp : Try.f8.params.toList = [25, 3] := by kernel_rfl
  obtain ⟨d0, ds, rfl, k0, h⟩ := DatAll.cons (hp ▸ h : DatAll Try.prog 3 [25, 3] ds)
  obtain ⟨d1, ds, rfl, k1, h⟩ := DatAll.cons h
  obtain rfl := DatAll.nil h
  obtain ⟨x0, e0, _, q0⟩ := dat25 facts (n := 0) k0
  obtain ⟨x1, rfl, w1⟩ := dat_int (n := 2) facts.und3 k1
  have := law_DropGifts (Γ := fun _ => none) x0 q0 x1 []
  rw [← e0] at this
  exact this.mono fun v h' hv => hv.1
set_option maxRecDepth 100000 in
theorem fnExactDropGifts_lifted (os : Os) (started : os.Started) (H : Type) (enc : TypeId × Value → H) :
    ReturnsInHanded {} Try.checked os 8 .any (Rows.fnExactDropGiftsSpec.pre6 enc Try.prog Try.f8 Rows.fnExactDropGiftsRow.domain false) (Rows.fnExactDropGiftsSpec.post enc Try.prog Try.f8 false true false false) := by
  refine returnsInHanded_of_change (C := Try.checked) own started (by kernel_rfl) Try.func8
    (ChangeSpec.witness6 (enc := enc) (C := Try.checked) false ⟨#[], #[.slice none 0 0, .int .i64 0], []⟩ 8 (by kernel_rfl) (by kernel_rfl) (by kernel_rfl) (by kernel_rfl)) ?_
  intro W base args ds gs before hval hW hcnd _
  refine law_post (n := 3) (tb := 4) (by decide +kernel) rfl (by kernel_rfl) (by kernel_rfl) (fun xs hx => ?_) fnExactDropGifts_walk hval hW
  have hp : Try.f8.params.toList.length = 2 := by kernel_rfl
  rw [hp] at hx
  match xs, hx with
  | [_, _], _ => rfl
theorem fnExactDropGifts_over : Rows.fnExactDropGiftsRow.holds Try.pinned (OpenSpec.ofChange Rows.fnExactDropGiftsSpec) :=
  OpenClaim.holds_of_wide 8 Try.f8 rfl rfl rfl rfl rfl rfl rfl ⟨rfl, rfl, rfl, rfl, rfl⟩ rfl rfl rfl rfl rfl (by kernel_rfl) Try.func8 (by kernel_rfl)
    (of_decide_eq_true (by kernel_rfl)) (by unfold Func.isWrapper; first | (rw [if_pos (by decide +kernel)]; kernel_rfl) | (rw [if_neg (by decide +kernel)]; exact ⟨rfl, rfl⟩))
    (fun os started H enc _ => fnExactDropGifts_lifted os started H enc)
/-- THE STATEMENT. -/
theorem fnExactDropGifts_proved : Rows.FnExactDropGiftsSaid := fnExactDropGifts_over
#print axioms fnExactDropGifts_proved
end Go.Proofs.Ytjohoameeeaafaa
