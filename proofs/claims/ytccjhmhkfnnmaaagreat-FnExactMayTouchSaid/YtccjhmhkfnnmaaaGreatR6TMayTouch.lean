/- The law FnExactMayTouch returns true at every input, and its arguments read behind the call as before. Conditions: none beyond the given row's. -/
import Derived.Test.YtccjhmhkfnnmaaaGreatRows
import Derived.WalkKit
import Derived.ProofKit
import Derived.OpenShut
import Derived.Test.YtccjhmhkfnnmaaaGreatAmTop
import Derived.Test.YtccjhmhkfnnmaaaGreatR6LMayTouch
import Derived.Test.YtccjhmhkfnnmaaaGreatR6J
set_option linter.unusedVariables false
set_option linter.unusedSimpArgs false
namespace Go.Proofs.YtccjhmhkfnnmaaaGreat
open Go.AM
open Go.ChangeShapes Go.WideShapes Go.ChangeAt Go.RowKit
set_option linter.unusedVariables false
theorem own : ownKnob Tryz.prog.godebug = none := by kernel_rfl
noncomputable def gfl198 : Array Field := match Tryz.prog.underlying 198 with | some (.struct fs) => fs | _ => #[]
noncomputable def gfl203 : Array Field := match Tryz.prog.underlying 203 with | some (.struct fs) => fs | _ => #[]
noncomputable def gfl205 : Array Field := match Tryz.prog.underlying 205 with | some (.struct fs) => fs | _ => #[]
noncomputable def gfl316 : Array Field := match Tryz.prog.underlying 316 with | some (.struct fs) => fs | _ => #[]
noncomputable def gfl201 : Array Field := match Tryz.prog.underlying 201 with | some (.struct fs) => fs | _ => #[]
noncomputable def gfl318 : Array Field := match Tryz.prog.underlying 318 with | some (.struct fs) => fs | _ => #[]
noncomputable def gfl320 : Array Field := match Tryz.prog.underlying 320 with | some (.struct fs) => fs | _ => #[]
noncomputable def gfl210 : Array Field := match Tryz.prog.underlying 210 with | some (.struct fs) => fs | _ => #[]
noncomputable def gfl213 : Array Field := match Tryz.prog.underlying 213 with | some (.struct fs) => fs | _ => #[]
noncomputable def gfl215 : Array Field := match Tryz.prog.underlying 215 with | some (.struct fs) => fs | _ => #[]
noncomputable def gfl217 : Array Field := match Tryz.prog.underlying 217 with | some (.struct fs) => fs | _ => #[]
noncomputable def gfl73 : Array Field := match Tryz.prog.underlying 73 with | some (.struct fs) => fs | _ => #[]
structure Facts (P : Program) (f198 f203 f205 f316 f201 f318 f320 f210 f213 f215 f217 f73 : Array Field) : Prop where
  und3 : P.underlying 3 = some (.int .i64)
  und198 : P.underlying 198 = some (.struct f198)
  fls198 : f198.toList.map (·.type) = [3, 3]
  und197 : P.underlying 197 = some (.slice 198)
  cel198 : P.cellsOf 198 = 2
  und9 : P.underlying 9 = some .string
  und203 : P.underlying 203 = some (.struct f203)
  fls203 : f203.toList.map (·.type) = [3, 3, 3]
  und205 : P.underlying 205 = some (.struct f205)
  fls205 : f205.toList.map (·.type) = [3, 9, 197, 3, 203]
  und69 : P.underlying 69 = some (.slice 205)
  cel205 : P.cellsOf 205 = 7
  und316 : P.underlying 316 = some (.struct f316)
  fls316 : f316.toList.map (·.type) = [3, 3]
  und199 : P.underlying 199 = some (.slice 316)
  cel316 : P.cellsOf 316 = 2
  und201 : P.underlying 201 = some (.struct f201)
  fls201 : f201.toList.map (·.type) = [3, 3, 197, 3, 198, 69, 199, 3, 3, 3, 3]
  und68 : P.underlying 68 = some (.slice 201)
  cel201 : P.cellsOf 201 = 12
  und4 : P.underlying 4 = some .bool
  und318 : P.underlying 318 = some (.struct f318)
  fls318 : f318.toList.map (·.type) = [3, 3, 3]
  und207 : P.underlying 207 = some (.slice 318)
  cel318 : P.cellsOf 318 = 3
  und320 : P.underlying 320 = some (.struct f320)
  fls320 : f320.toList.map (·.type) = [3, 3]
  und208 : P.underlying 208 = some (.slice 320)
  cel320 : P.cellsOf 320 = 2
  und210 : P.underlying 210 = some (.struct f210)
  fls210 : f210.toList.map (·.type) = [3, 4, 207, 3, 208, 3, 208]
  und70 : P.underlying 70 = some (.slice 210)
  cel210 : P.cellsOf 210 = 7
  und213 : P.underlying 213 = some (.struct f213)
  fls213 : f213.toList.map (·.type) = [3, 3]
  und212 : P.underlying 212 = some (.slice 213)
  cel213 : P.cellsOf 213 = 2
  und215 : P.underlying 215 = some (.struct f215)
  fls215 : f215.toList.map (·.type) = [3, 3, 3, 3, 9, 212, 213, 3, 203]
  und217 : P.underlying 217 = some (.struct f217)
  fls217 : f217.toList.map (·.type) = [3, 215]
  und71 : P.underlying 71 = some (.slice 217)
  cel217 : P.cellsOf 217 = 13
  und73 : P.underlying 73 = some (.struct f73)
  fls73 : f73.toList.map (·.type) = [3, 68, 69, 70, 71]
theorem dat198 {P : Program} {f198 f203 f205 f316 f201 f318 f320 f210 f213 f215 f217 f73 : Array Field} (F : Facts P f198 f203 f205 f316 f201 f318 f320 f210 f213 f215 f217 f73) {n : Nat} {d : Dat} (h : Dat.ok P (n + 2) 198 d) : ∃ x : DValue, d.cells = x.c false := by
  obtain ⟨ds, rfl, hh⟩ := dat_struct F.und198 h
  rw [F.fls198] at hh
  obtain ⟨d0, ds, rfl, k0, hh⟩ := DatAll.cons hh
  obtain ⟨d1, ds, rfl, k1, hh⟩ := DatAll.cons hh
  obtain rfl := DatAll.nil hh
  obtain ⟨x0, rfl, _⟩ := dat_int F.und3 k0
  obtain ⟨x1, rfl, _⟩ := dat_int F.und3 k1
  exact ⟨⟨x0, x1⟩, by simp [Dat.cells, Dat.cellsF, DValue.c]⟩
theorem dat197 {P : Program} {f198 f203 f205 f316 f201 f318 f320 f210 f213 f215 f217 f73 : Array Field} (F : Facts P f198 f203 f205 f316 f201 f318 f320 f210 f213 f215 f217 f73) {n : Nat} {d : Dat} (h : Dat.ok P (n + 3) 197 d) : ∃ l : List DValue, d.av = .vs false 2 false (l.map (DValue.c false)) ∧ d.cells = [.vs false 2 false (l.map (DValue.c false))] ∧ l.length ≤ maxLen := by
  obtain ⟨xs, rfl, hm, hx⟩ := dat_sl F.und197 h
  obtain ⟨zs, e1, e2, e3⟩ := dat_listQ (DValue.c false) (fun _ => True) (fun d hd => by have := dat198 F hd; obtain ⟨x, hx⟩ := this; exact ⟨x, hx, trivial⟩) hx
  exact ⟨zs, by simp only [Dat.av, AM.sl, F.cel198, e2], by simp only [Dat.cells, AM.sl, F.cel198, e2], by omega⟩
theorem dat203 {P : Program} {f198 f203 f205 f316 f201 f318 f320 f210 f213 f215 f217 f73 : Array Field} (F : Facts P f198 f203 f205 f316 f201 f318 f320 f210 f213 f215 f217 f73) {n : Nat} {d : Dat} (h : Dat.ok P (n + 2) 203 d) : ∃ x : DTag, d.cells = x.c false := by
  obtain ⟨ds, rfl, hh⟩ := dat_struct F.und203 h
  rw [F.fls203] at hh
  obtain ⟨d0, ds, rfl, k0, hh⟩ := DatAll.cons hh
  obtain ⟨d1, ds, rfl, k1, hh⟩ := DatAll.cons hh
  obtain ⟨d2, ds, rfl, k2, hh⟩ := DatAll.cons hh
  obtain rfl := DatAll.nil hh
  obtain ⟨x0, rfl, _⟩ := dat_int F.und3 k0
  obtain ⟨x1, rfl, _⟩ := dat_int F.und3 k1
  obtain ⟨x2, rfl, _⟩ := dat_int F.und3 k2
  exact ⟨⟨x0, x1, x2⟩, by simp [Dat.cells, Dat.cellsF, DTag.c]⟩
theorem dat205 {P : Program} {f198 f203 f205 f316 f201 f318 f320 f210 f213 f215 f217 f73 : Array Field} (F : Facts P f198 f203 f205 f316 f201 f318 f320 f210 f213 f215 f217 f73) {n : Nat} {d : Dat} (h : Dat.ok P (n + 4) 205 d) : ∃ x : DSent, d.cells = x.c false ∧ x.ok maxLen := by
  obtain ⟨ds, rfl, hh⟩ := dat_struct F.und205 h
  rw [F.fls205] at hh
  obtain ⟨d0, ds, rfl, k0, hh⟩ := DatAll.cons hh
  obtain ⟨d1, ds, rfl, k1, hh⟩ := DatAll.cons hh
  obtain ⟨d2, ds, rfl, k2, hh⟩ := DatAll.cons hh
  obtain ⟨d3, ds, rfl, k3, hh⟩ := DatAll.cons hh
  obtain ⟨d4, ds, rfl, k4, hh⟩ := DatAll.cons hh
  obtain rfl := DatAll.nil hh
  obtain ⟨x0, rfl, _⟩ := dat_int F.und3 k0
  obtain ⟨x1, rfl, q1⟩ := dat_str F.und9 k1
  obtain ⟨x2, _, e2, q2⟩ := dat197 F k2
  obtain ⟨x3, rfl, _⟩ := dat_int F.und3 k3
  obtain ⟨x4, e4⟩ := dat203 F k4
  exact ⟨⟨x0, x1, x2, x3, x4⟩, by simp [Dat.cells, Dat.cellsF, e2, e4, DSent.c, DTag.c], ⟨q1, q2⟩⟩
theorem dat69 {P : Program} {f198 f203 f205 f316 f201 f318 f320 f210 f213 f215 f217 f73 : Array Field} (F : Facts P f198 f203 f205 f316 f201 f318 f320 f210 f213 f215 f217 f73) {n : Nat} {d : Dat} (h : Dat.ok P (n + 5) 69 d) : ∃ l : List DSent, d.av = .vs false 7 false (l.map (DSent.c false)) ∧ d.cells = [.vs false 7 false (l.map (DSent.c false))] ∧ l.length ≤ maxLen ∧ ∀ x ∈ l, x.ok maxLen := by
  obtain ⟨xs, rfl, hm, hx⟩ := dat_sl F.und69 h
  obtain ⟨zs, e1, e2, e3⟩ := dat_listQ (DSent.c false) (DSent.ok maxLen) (fun d hd => by have := dat205 F hd; exact this) hx
  exact ⟨zs, by simp only [Dat.av, AM.sl, F.cel205, e2], by simp only [Dat.cells, AM.sl, F.cel205, e2], by omega, e3⟩
theorem dat316 {P : Program} {f198 f203 f205 f316 f201 f318 f320 f210 f213 f215 f217 f73 : Array Field} (F : Facts P f198 f203 f205 f316 f201 f318 f320 f210 f213 f215 f217 f73) {n : Nat} {d : Dat} (h : Dat.ok P (n + 2) 316 d) : ∃ x : DAsker, d.cells = x.c false := by
  obtain ⟨ds, rfl, hh⟩ := dat_struct F.und316 h
  rw [F.fls316] at hh
  obtain ⟨d0, ds, rfl, k0, hh⟩ := DatAll.cons hh
  obtain ⟨d1, ds, rfl, k1, hh⟩ := DatAll.cons hh
  obtain rfl := DatAll.nil hh
  obtain ⟨x0, rfl, _⟩ := dat_int F.und3 k0
  obtain ⟨x1, rfl, _⟩ := dat_int F.und3 k1
  exact ⟨⟨x0, x1⟩, by simp [Dat.cells, Dat.cellsF, DAsker.c]⟩
theorem dat199 {P : Program} {f198 f203 f205 f316 f201 f318 f320 f210 f213 f215 f217 f73 : Array Field} (F : Facts P f198 f203 f205 f316 f201 f318 f320 f210 f213 f215 f217 f73) {n : Nat} {d : Dat} (h : Dat.ok P (n + 3) 199 d) : ∃ l : List DAsker, d.av = .vs false 2 false (l.map (DAsker.c false)) ∧ d.cells = [.vs false 2 false (l.map (DAsker.c false))] ∧ l.length ≤ maxLen := by
  obtain ⟨xs, rfl, hm, hx⟩ := dat_sl F.und199 h
  obtain ⟨zs, e1, e2, e3⟩ := dat_listQ (DAsker.c false) (fun _ => True) (fun d hd => by have := dat316 F hd; obtain ⟨x, hx⟩ := this; exact ⟨x, hx, trivial⟩) hx
  exact ⟨zs, by simp only [Dat.av, AM.sl, F.cel316, e2], by simp only [Dat.cells, AM.sl, F.cel316, e2], by omega⟩
theorem dat201 {P : Program} {f198 f203 f205 f316 f201 f318 f320 f210 f213 f215 f217 f73 : Array Field} (F : Facts P f198 f203 f205 f316 f201 f318 f320 f210 f213 f215 f217 f73) {n : Nat} {d : Dat} (h : Dat.ok P (n + 6) 201 d) : ∃ x : DEntity, d.cells = x.c false ∧ x.ok maxLen := by
  obtain ⟨ds, rfl, hh⟩ := dat_struct F.und201 h
  rw [F.fls201] at hh
  obtain ⟨d0, ds, rfl, k0, hh⟩ := DatAll.cons hh
  obtain ⟨d1, ds, rfl, k1, hh⟩ := DatAll.cons hh
  obtain ⟨d2, ds, rfl, k2, hh⟩ := DatAll.cons hh
  obtain ⟨d3, ds, rfl, k3, hh⟩ := DatAll.cons hh
  obtain ⟨d4, ds, rfl, k4, hh⟩ := DatAll.cons hh
  obtain ⟨d5, ds, rfl, k5, hh⟩ := DatAll.cons hh
  obtain ⟨d6, ds, rfl, k6, hh⟩ := DatAll.cons hh
  obtain ⟨d7, ds, rfl, k7, hh⟩ := DatAll.cons hh
  obtain ⟨d8, ds, rfl, k8, hh⟩ := DatAll.cons hh
  obtain ⟨d9, ds, rfl, k9, hh⟩ := DatAll.cons hh
  obtain ⟨d10, ds, rfl, k10, hh⟩ := DatAll.cons hh
  obtain rfl := DatAll.nil hh
  obtain ⟨x0, rfl, _⟩ := dat_int F.und3 k0
  obtain ⟨x1, rfl, _⟩ := dat_int F.und3 k1
  obtain ⟨x2, _, e2, q2⟩ := dat197 F k2
  obtain ⟨x3, rfl, _⟩ := dat_int F.und3 k3
  obtain ⟨x4, e4⟩ := dat198 F k4
  obtain ⟨x5, _, e5, q5, r5⟩ := dat69 F k5
  obtain ⟨x6, _, e6, q6⟩ := dat199 F k6
  obtain ⟨x7, rfl, _⟩ := dat_int F.und3 k7
  obtain ⟨x8, rfl, _⟩ := dat_int F.und3 k8
  obtain ⟨x9, rfl, _⟩ := dat_int F.und3 k9
  obtain ⟨x10, rfl, _⟩ := dat_int F.und3 k10
  exact ⟨⟨x0, x1, x2, x3, x4, x5, x6, x7, x8, x9, x10⟩, by simp [Dat.cells, Dat.cellsF, e2, e4, e5, e6, DEntity.c, DValue.c], ⟨q2, q5, r5, q6⟩⟩
theorem dat68 {P : Program} {f198 f203 f205 f316 f201 f318 f320 f210 f213 f215 f217 f73 : Array Field} (F : Facts P f198 f203 f205 f316 f201 f318 f320 f210 f213 f215 f217 f73) {n : Nat} {d : Dat} (h : Dat.ok P (n + 7) 68 d) : ∃ l : List DEntity, d.av = .vs false 12 false (l.map (DEntity.c false)) ∧ d.cells = [.vs false 12 false (l.map (DEntity.c false))] ∧ l.length ≤ maxLen ∧ ∀ x ∈ l, x.ok maxLen := by
  obtain ⟨xs, rfl, hm, hx⟩ := dat_sl F.und68 h
  obtain ⟨zs, e1, e2, e3⟩ := dat_listQ (DEntity.c false) (DEntity.ok maxLen) (fun d hd => by have := dat201 F hd; exact this) hx
  exact ⟨zs, by simp only [Dat.av, AM.sl, F.cel201, e2], by simp only [Dat.cells, AM.sl, F.cel201, e2], by omega, e3⟩
theorem dat318 {P : Program} {f198 f203 f205 f316 f201 f318 f320 f210 f213 f215 f217 f73 : Array Field} (F : Facts P f198 f203 f205 f316 f201 f318 f320 f210 f213 f215 f217 f73) {n : Nat} {d : Dat} (h : Dat.ok P (n + 2) 318 d) : ∃ x : DExport, d.cells = x.c false := by
  obtain ⟨ds, rfl, hh⟩ := dat_struct F.und318 h
  rw [F.fls318] at hh
  obtain ⟨d0, ds, rfl, k0, hh⟩ := DatAll.cons hh
  obtain ⟨d1, ds, rfl, k1, hh⟩ := DatAll.cons hh
  obtain ⟨d2, ds, rfl, k2, hh⟩ := DatAll.cons hh
  obtain rfl := DatAll.nil hh
  obtain ⟨x0, rfl, _⟩ := dat_int F.und3 k0
  obtain ⟨x1, rfl, _⟩ := dat_int F.und3 k1
  obtain ⟨x2, rfl, _⟩ := dat_int F.und3 k2
  exact ⟨⟨x0, x1, x2⟩, by simp [Dat.cells, Dat.cellsF, DExport.c]⟩
theorem dat207 {P : Program} {f198 f203 f205 f316 f201 f318 f320 f210 f213 f215 f217 f73 : Array Field} (F : Facts P f198 f203 f205 f316 f201 f318 f320 f210 f213 f215 f217 f73) {n : Nat} {d : Dat} (h : Dat.ok P (n + 3) 207 d) : ∃ l : List DExport, d.av = .vs false 3 false (l.map (DExport.c false)) ∧ d.cells = [.vs false 3 false (l.map (DExport.c false))] ∧ l.length ≤ maxLen := by
  obtain ⟨xs, rfl, hm, hx⟩ := dat_sl F.und207 h
  obtain ⟨zs, e1, e2, e3⟩ := dat_listQ (DExport.c false) (fun _ => True) (fun d hd => by have := dat318 F hd; obtain ⟨x, hx⟩ := this; exact ⟨x, hx, trivial⟩) hx
  exact ⟨zs, by simp only [Dat.av, AM.sl, F.cel318, e2], by simp only [Dat.cells, AM.sl, F.cel318, e2], by omega⟩
theorem dat320 {P : Program} {f198 f203 f205 f316 f201 f318 f320 f210 f213 f215 f217 f73 : Array Field} (F : Facts P f198 f203 f205 f316 f201 f318 f320 f210 f213 f215 f217 f73) {n : Nat} {d : Dat} (h : Dat.ok P (n + 2) 320 d) : ∃ x : DQuestion, d.cells = x.c false := by
  obtain ⟨ds, rfl, hh⟩ := dat_struct F.und320 h
  rw [F.fls320] at hh
  obtain ⟨d0, ds, rfl, k0, hh⟩ := DatAll.cons hh
  obtain ⟨d1, ds, rfl, k1, hh⟩ := DatAll.cons hh
  obtain rfl := DatAll.nil hh
  obtain ⟨x0, rfl, _⟩ := dat_int F.und3 k0
  obtain ⟨x1, rfl, _⟩ := dat_int F.und3 k1
  exact ⟨⟨x0, x1⟩, by simp [Dat.cells, Dat.cellsF, DQuestion.c]⟩
theorem dat208 {P : Program} {f198 f203 f205 f316 f201 f318 f320 f210 f213 f215 f217 f73 : Array Field} (F : Facts P f198 f203 f205 f316 f201 f318 f320 f210 f213 f215 f217 f73) {n : Nat} {d : Dat} (h : Dat.ok P (n + 3) 208 d) : ∃ l : List DQuestion, d.av = .vs false 2 false (l.map (DQuestion.c false)) ∧ d.cells = [.vs false 2 false (l.map (DQuestion.c false))] ∧ l.length ≤ maxLen := by
  obtain ⟨xs, rfl, hm, hx⟩ := dat_sl F.und208 h
  obtain ⟨zs, e1, e2, e3⟩ := dat_listQ (DQuestion.c false) (fun _ => True) (fun d hd => by have := dat320 F hd; obtain ⟨x, hx⟩ := this; exact ⟨x, hx, trivial⟩) hx
  exact ⟨zs, by simp only [Dat.av, AM.sl, F.cel320, e2], by simp only [Dat.cells, AM.sl, F.cel320, e2], by omega⟩
theorem dat210 {P : Program} {f198 f203 f205 f316 f201 f318 f320 f210 f213 f215 f217 f73 : Array Field} (F : Facts P f198 f203 f205 f316 f201 f318 f320 f210 f213 f215 f217 f73) {n : Nat} {d : Dat} (h : Dat.ok P (n + 4) 210 d) : ∃ x : DLink, d.cells = x.c false ∧ x.ok maxLen := by
  obtain ⟨ds, rfl, hh⟩ := dat_struct F.und210 h
  rw [F.fls210] at hh
  obtain ⟨d0, ds, rfl, k0, hh⟩ := DatAll.cons hh
  obtain ⟨d1, ds, rfl, k1, hh⟩ := DatAll.cons hh
  obtain ⟨d2, ds, rfl, k2, hh⟩ := DatAll.cons hh
  obtain ⟨d3, ds, rfl, k3, hh⟩ := DatAll.cons hh
  obtain ⟨d4, ds, rfl, k4, hh⟩ := DatAll.cons hh
  obtain ⟨d5, ds, rfl, k5, hh⟩ := DatAll.cons hh
  obtain ⟨d6, ds, rfl, k6, hh⟩ := DatAll.cons hh
  obtain rfl := DatAll.nil hh
  obtain ⟨x0, rfl, _⟩ := dat_int F.und3 k0
  obtain ⟨x1, rfl⟩ := dat_bool F.und4 k1
  obtain ⟨x2, _, e2, q2⟩ := dat207 F k2
  obtain ⟨x3, rfl, _⟩ := dat_int F.und3 k3
  obtain ⟨x4, _, e4, q4⟩ := dat208 F k4
  obtain ⟨x5, rfl, _⟩ := dat_int F.und3 k5
  obtain ⟨x6, _, e6, q6⟩ := dat208 F k6
  exact ⟨⟨x0, x1, x2, x3, x4, x5, x6⟩, by simp [Dat.cells, Dat.cellsF, e2, e4, e6, DLink.c], ⟨q2, q4, q6⟩⟩
theorem dat70 {P : Program} {f198 f203 f205 f316 f201 f318 f320 f210 f213 f215 f217 f73 : Array Field} (F : Facts P f198 f203 f205 f316 f201 f318 f320 f210 f213 f215 f217 f73) {n : Nat} {d : Dat} (h : Dat.ok P (n + 5) 70 d) : ∃ l : List DLink, d.av = .vs false 7 false (l.map (DLink.c false)) ∧ d.cells = [.vs false 7 false (l.map (DLink.c false))] ∧ l.length ≤ maxLen ∧ ∀ x ∈ l, x.ok maxLen := by
  obtain ⟨xs, rfl, hm, hx⟩ := dat_sl F.und70 h
  obtain ⟨zs, e1, e2, e3⟩ := dat_listQ (DLink.c false) (DLink.ok maxLen) (fun d hd => by have := dat210 F hd; exact this) hx
  exact ⟨zs, by simp only [Dat.av, AM.sl, F.cel210, e2], by simp only [Dat.cells, AM.sl, F.cel210, e2], by omega, e3⟩
theorem dat213 {P : Program} {f198 f203 f205 f316 f201 f318 f320 f210 f213 f215 f217 f73 : Array Field} (F : Facts P f198 f203 f205 f316 f201 f318 f320 f210 f213 f215 f217 f73) {n : Nat} {d : Dat} (h : Dat.ok P (n + 2) 213 d) : ∃ x : DWire, d.cells = x.c false := by
  obtain ⟨ds, rfl, hh⟩ := dat_struct F.und213 h
  rw [F.fls213] at hh
  obtain ⟨d0, ds, rfl, k0, hh⟩ := DatAll.cons hh
  obtain ⟨d1, ds, rfl, k1, hh⟩ := DatAll.cons hh
  obtain rfl := DatAll.nil hh
  obtain ⟨x0, rfl, _⟩ := dat_int F.und3 k0
  obtain ⟨x1, rfl, _⟩ := dat_int F.und3 k1
  exact ⟨⟨x0, x1⟩, by simp [Dat.cells, Dat.cellsF, DWire.c]⟩
theorem dat212 {P : Program} {f198 f203 f205 f316 f201 f318 f320 f210 f213 f215 f217 f73 : Array Field} (F : Facts P f198 f203 f205 f316 f201 f318 f320 f210 f213 f215 f217 f73) {n : Nat} {d : Dat} (h : Dat.ok P (n + 3) 212 d) : ∃ l : List DWire, d.av = .vs false 2 false (l.map (DWire.c false)) ∧ d.cells = [.vs false 2 false (l.map (DWire.c false))] ∧ l.length ≤ maxLen := by
  obtain ⟨xs, rfl, hm, hx⟩ := dat_sl F.und212 h
  obtain ⟨zs, e1, e2, e3⟩ := dat_listQ (DWire.c false) (fun _ => True) (fun d hd => by have := dat213 F hd; obtain ⟨x, hx⟩ := this; exact ⟨x, hx, trivial⟩) hx
  exact ⟨zs, by simp only [Dat.av, AM.sl, F.cel213, e2], by simp only [Dat.cells, AM.sl, F.cel213, e2], by omega⟩
theorem dat215 {P : Program} {f198 f203 f205 f316 f201 f318 f320 f210 f213 f215 f217 f73 : Array Field} (F : Facts P f198 f203 f205 f316 f201 f318 f320 f210 f213 f215 f217 f73) {n : Nat} {d : Dat} (h : Dat.ok P (n + 4) 215 d) : ∃ x : DMessage, d.cells = x.c false ∧ x.ok maxLen := by
  obtain ⟨ds, rfl, hh⟩ := dat_struct F.und215 h
  rw [F.fls215] at hh
  obtain ⟨d0, ds, rfl, k0, hh⟩ := DatAll.cons hh
  obtain ⟨d1, ds, rfl, k1, hh⟩ := DatAll.cons hh
  obtain ⟨d2, ds, rfl, k2, hh⟩ := DatAll.cons hh
  obtain ⟨d3, ds, rfl, k3, hh⟩ := DatAll.cons hh
  obtain ⟨d4, ds, rfl, k4, hh⟩ := DatAll.cons hh
  obtain ⟨d5, ds, rfl, k5, hh⟩ := DatAll.cons hh
  obtain ⟨d6, ds, rfl, k6, hh⟩ := DatAll.cons hh
  obtain ⟨d7, ds, rfl, k7, hh⟩ := DatAll.cons hh
  obtain ⟨d8, ds, rfl, k8, hh⟩ := DatAll.cons hh
  obtain rfl := DatAll.nil hh
  obtain ⟨x0, rfl, _⟩ := dat_int F.und3 k0
  obtain ⟨x1, rfl, _⟩ := dat_int F.und3 k1
  obtain ⟨x2, rfl, _⟩ := dat_int F.und3 k2
  obtain ⟨x3, rfl, _⟩ := dat_int F.und3 k3
  obtain ⟨x4, rfl, q4⟩ := dat_str F.und9 k4
  obtain ⟨x5, _, e5, q5⟩ := dat212 F k5
  obtain ⟨x6, e6⟩ := dat213 F k6
  obtain ⟨x7, rfl, _⟩ := dat_int F.und3 k7
  obtain ⟨x8, e8⟩ := dat203 F k8
  exact ⟨⟨x0, x1, x2, x3, x4, x5, x6, x7, x8⟩, by simp [Dat.cells, Dat.cellsF, e5, e6, e8, DMessage.c, DTag.c, DWire.c], ⟨q4, q5⟩⟩
theorem dat217 {P : Program} {f198 f203 f205 f316 f201 f318 f320 f210 f213 f215 f217 f73 : Array Field} (F : Facts P f198 f203 f205 f316 f201 f318 f320 f210 f213 f215 f217 f73) {n : Nat} {d : Dat} (h : Dat.ok P (n + 5) 217 d) : ∃ x : DOutgoing, d.cells = x.c false ∧ x.ok maxLen := by
  obtain ⟨ds, rfl, hh⟩ := dat_struct F.und217 h
  rw [F.fls217] at hh
  obtain ⟨d0, ds, rfl, k0, hh⟩ := DatAll.cons hh
  obtain ⟨d1, ds, rfl, k1, hh⟩ := DatAll.cons hh
  obtain rfl := DatAll.nil hh
  obtain ⟨x0, rfl, _⟩ := dat_int F.und3 k0
  obtain ⟨x1, e1, q1⟩ := dat215 F k1
  exact ⟨⟨x0, x1⟩, by simp [Dat.cells, Dat.cellsF, e1, DOutgoing.c, DMessage.c], q1⟩
theorem dat71 {P : Program} {f198 f203 f205 f316 f201 f318 f320 f210 f213 f215 f217 f73 : Array Field} (F : Facts P f198 f203 f205 f316 f201 f318 f320 f210 f213 f215 f217 f73) {n : Nat} {d : Dat} (h : Dat.ok P (n + 6) 71 d) : ∃ l : List DOutgoing, d.av = .vs false 13 false (l.map (DOutgoing.c false)) ∧ d.cells = [.vs false 13 false (l.map (DOutgoing.c false))] ∧ l.length ≤ maxLen ∧ ∀ x ∈ l, x.ok maxLen := by
  obtain ⟨xs, rfl, hm, hx⟩ := dat_sl F.und71 h
  obtain ⟨zs, e1, e2, e3⟩ := dat_listQ (DOutgoing.c false) (DOutgoing.ok maxLen) (fun d hd => by have := dat217 F hd; exact this) hx
  exact ⟨zs, by simp only [Dat.av, AM.sl, F.cel217, e2], by simp only [Dat.cells, AM.sl, F.cel217, e2], by omega, e3⟩
theorem dat73 {P : Program} {f198 f203 f205 f316 f201 f318 f320 f210 f213 f215 f217 f73 : Array Field} (F : Facts P f198 f203 f205 f316 f201 f318 f320 f210 f213 f215 f217 f73) {n : Nat} {d : Dat} (h : Dat.ok P (n + 8) 73 d) : ∃ x : DVat, d.cells = x.c false ∧ x.ok maxLen := by
  obtain ⟨ds, rfl, hh⟩ := dat_struct F.und73 h
  rw [F.fls73] at hh
  obtain ⟨d0, ds, rfl, k0, hh⟩ := DatAll.cons hh
  obtain ⟨d1, ds, rfl, k1, hh⟩ := DatAll.cons hh
  obtain ⟨d2, ds, rfl, k2, hh⟩ := DatAll.cons hh
  obtain ⟨d3, ds, rfl, k3, hh⟩ := DatAll.cons hh
  obtain ⟨d4, ds, rfl, k4, hh⟩ := DatAll.cons hh
  obtain rfl := DatAll.nil hh
  obtain ⟨x0, rfl, _⟩ := dat_int F.und3 k0
  obtain ⟨x1, _, e1, q1, r1⟩ := dat68 F k1
  obtain ⟨x2, _, e2, q2, r2⟩ := dat69 F k2
  obtain ⟨x3, _, e3, q3, r3⟩ := dat70 F k3
  obtain ⟨x4, _, e4, q4, r4⟩ := dat71 F k4
  exact ⟨⟨x0, x1, x2, x3, x4⟩, by simp [Dat.cells, Dat.cellsF, e1, e2, e3, e4, DVat.c], ⟨q1, r1, q2, r2, q3, r3, q4, r4⟩⟩
theorem facts : Facts Tryz.prog gfl198 gfl203 gfl205 gfl316 gfl201 gfl318 gfl320 gfl210 gfl213 gfl215 gfl217 gfl73 := ⟨by kernel_rfl, by kernel_rfl, by kernel_rfl, by kernel_rfl, by kernel_rfl, by kernel_rfl, by kernel_rfl, by kernel_rfl, by kernel_rfl, by kernel_rfl, by kernel_rfl, by kernel_rfl, by kernel_rfl, by kernel_rfl, by kernel_rfl, by kernel_rfl, by kernel_rfl, by kernel_rfl, by kernel_rfl, by kernel_rfl, by kernel_rfl, by kernel_rfl, by kernel_rfl, by kernel_rfl, by kernel_rfl, by kernel_rfl, by kernel_rfl, by kernel_rfl, by kernel_rfl, by kernel_rfl, by kernel_rfl, by kernel_rfl, by kernel_rfl, by kernel_rfl, by kernel_rfl, by kernel_rfl, by kernel_rfl, by kernel_rfl, by kernel_rfl, by kernel_rfl, by kernel_rfl, by kernel_rfl, by kernel_rfl, by kernel_rfl, by kernel_rfl⟩
set_option maxRecDepth 100000 in
theorem fnExactMayTouch_walk (ds : List Dat) (h : DatAll Tryz.prog 8 Tryz.f5.params.toList ds) : T Tryz.prog (fun _ => none) 5 (ds.map Dat.av) [] fun v _ => v = .bool true := by
  have hp : Tryz.f5.params.toList = [73, 3] := by kernel_rfl
  obtain ⟨d0, ds, rfl, k0, h⟩ := DatAll.cons (hp ▸ h : DatAll Tryz.prog 8 [73, 3] ds)
  obtain ⟨d1, ds, rfl, k1, h⟩ := DatAll.cons h
  obtain rfl := DatAll.nil h
  obtain ⟨x0, c0, q0⟩ := dat73 facts (n := 0) k0
  have e0 : d0.av = .agg (x0.c false) := dat_agg facts.und73 k0 c0
  obtain ⟨x1, rfl, w1⟩ := dat_int (n := 7) facts.und3 k1
  have := law_MayTouch (Γ := fun _ => none) x0 q0 x1 []
  rw [← e0] at this
  exact this.mono fun v h' hv => hv.1
set_option maxRecDepth 100000 in
theorem fnExactMayTouch_lifted (os : Os) (started : os.Started) (H : Type) (enc : TypeId × Value → H) :
    ReturnsInHanded {} Tryz.checked os 5 .any (Rows.fnExactMayTouchSpec.pre6 enc Tryz.prog Tryz.f5 Rows.fnExactMayTouchRow.domain false) (Rows.fnExactMayTouchSpec.post enc Tryz.prog Tryz.f5 false true false false) := by
  refine returnsInHanded_of_change (C := Tryz.checked) own started (by kernel_rfl) Tryz.func5
    (ChangeSpec.witness6 (enc := enc) (C := Tryz.checked) false ⟨#[], #[.agg #[.int .i64 0, .slice none 0 0, .slice none 0 0, .slice none 0 0, .slice none 0 0], .int .i64 0], []⟩ 11 (by kernel_rfl) (by kernel_rfl) (by kernel_rfl) (by kernel_rfl)) ?_
  intro W base args ds gs before hval hW hcnd _
  refine law_post (n := 8) (tb := 4) (by decide +kernel) rfl (by kernel_rfl) (by kernel_rfl) (fun xs hx => ?_) fnExactMayTouch_walk hval hW
  have hp : Tryz.f5.params.toList.length = 2 := by kernel_rfl
  rw [hp] at hx
  match xs, hx with
  | [_, _], _ => rfl
theorem fnExactMayTouch_over : Rows.fnExactMayTouchRow.holds Tryz.pinned (OpenSpec.ofChange Rows.fnExactMayTouchSpec) :=
  OpenClaim.holds_of_wide 5 Tryz.f5 rfl rfl rfl rfl rfl rfl rfl ⟨rfl, rfl, rfl, rfl, rfl⟩ rfl rfl rfl rfl rfl (by kernel_rfl) Tryz.func5 fnExactMayTouch_closed
    (of_decide_eq_true (by kernel_rfl)) (by unfold Func.isWrapper; first | (rw [if_pos (by decide +kernel)]; kernel_rfl) | (rw [if_neg (by decide +kernel)]; exact ⟨rfl, rfl⟩))
    (fun os started H enc _ => fnExactMayTouch_lifted os started H enc)
theorem fnExactMayTouch_proved : Rows.FnExactMayTouchSaid := fnExactMayTouch_over
#print axioms fnExactMayTouch_proved
end Go.Proofs.YtccjhmhkfnnmaaaGreat
