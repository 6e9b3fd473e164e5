/- The law FnExactAcceptGift returns true at every input, and its arguments read behind the call as before. Conditions: none beyond the given row's. -/
import Derived.Test.YtleddolmolkpfaaGreatRows
import Derived.WalkKit
import Derived.ProofKit
import Derived.OpenShut
import Derived.Test.YtleddolmolkpfaaGreatAmTop
import Derived.Test.YtleddolmolkpfaaGreatR5LAcceptGift
set_option linter.unusedVariables false
set_option linter.unusedSimpArgs false
namespace Go.Proofs.YtleddolmolkpfaaGreat
open Go.AM
open Go.ChangeShapes Go.WideShapes Go.ChangeAt Go.RowKit
set_option linter.unusedVariables false
theorem own : ownKnob Tryz.prog.godebug = none := by kernel_rfl
noncomputable def gfl166 : Array Field := match Tryz.prog.underlying 166 with | some (.struct fs) => fs | _ => #[]
noncomputable def gfl63 : Array Field := match Tryz.prog.underlying 63 with | some (.struct fs) => fs | _ => #[]
noncomputable def gfl172 : Array Field := match Tryz.prog.underlying 172 with | some (.struct fs) => fs | _ => #[]
noncomputable def gfl292 : Array Field := match Tryz.prog.underlying 292 with | some (.struct fs) => fs | _ => #[]
noncomputable def gfl169 : Array Field := match Tryz.prog.underlying 169 with | some (.struct fs) => fs | _ => #[]
noncomputable def gfl294 : Array Field := match Tryz.prog.underlying 294 with | some (.struct fs) => fs | _ => #[]
noncomputable def gfl296 : Array Field := match Tryz.prog.underlying 296 with | some (.struct fs) => fs | _ => #[]
noncomputable def gfl177 : Array Field := match Tryz.prog.underlying 177 with | some (.struct fs) => fs | _ => #[]
noncomputable def gfl61 : Array Field := match Tryz.prog.underlying 61 with | some (.struct fs) => fs | _ => #[]
noncomputable def gfl65 : Array Field := match Tryz.prog.underlying 65 with | some (.struct fs) => fs | _ => #[]
noncomputable def gfl180 : Array Field := match Tryz.prog.underlying 180 with | some (.struct fs) => fs | _ => #[]
noncomputable def gfl27 : Array Field := match Tryz.prog.underlying 27 with | some (.struct fs) => fs | _ => #[]
noncomputable def gfl107 : Array Field := match Tryz.prog.underlying 107 with | some (.struct fs) => fs | _ => #[]
structure Facts (P : Program) (f166 f63 f172 f292 f169 f294 f296 f177 f61 f65 f180 f27 f107 : Array Field) : Prop where
  und3 : P.underlying 3 = some (.int .i64)
  und166 : P.underlying 166 = some (.struct f166)
  fls166 : f166.toList.map (·.type) = [3, 3]
  und165 : P.underlying 165 = some (.slice 166)
  cel166 : P.cellsOf 166 = 2
  und9 : P.underlying 9 = some .string
  und63 : P.underlying 63 = some (.struct f63)
  fls63 : f63.toList.map (·.type) = [3, 3, 3]
  und172 : P.underlying 172 = some (.struct f172)
  fls172 : f172.toList.map (·.type) = [3, 9, 165, 3, 63]
  und23 : P.underlying 23 = some (.slice 172)
  cel172 : P.cellsOf 172 = 7
  und292 : P.underlying 292 = some (.struct f292)
  fls292 : f292.toList.map (·.type) = [3, 3]
  und167 : P.underlying 167 = some (.slice 292)
  cel292 : P.cellsOf 292 = 2
  und169 : P.underlying 169 = some (.struct f169)
  fls169 : f169.toList.map (·.type) = [3, 3, 165, 3, 166, 23, 167, 3, 3, 3, 3]
  und22 : P.underlying 22 = some (.slice 169)
  cel169 : P.cellsOf 169 = 12
  und4 : P.underlying 4 = some .bool
  und294 : P.underlying 294 = some (.struct f294)
  fls294 : f294.toList.map (·.type) = [3, 3, 3]
  und174 : P.underlying 174 = some (.slice 294)
  cel294 : P.cellsOf 294 = 3
  und296 : P.underlying 296 = some (.struct f296)
  fls296 : f296.toList.map (·.type) = [3, 3]
  und175 : P.underlying 175 = some (.slice 296)
  cel296 : P.cellsOf 296 = 2
  und177 : P.underlying 177 = some (.struct f177)
  fls177 : f177.toList.map (·.type) = [3, 4, 174, 3, 175, 3, 175]
  und24 : P.underlying 24 = some (.slice 177)
  cel177 : P.cellsOf 177 = 7
  und61 : P.underlying 61 = some (.struct f61)
  fls61 : f61.toList.map (·.type) = [3, 3]
  und59 : P.underlying 59 = some (.slice 61)
  cel61 : P.cellsOf 61 = 2
  und65 : P.underlying 65 = some (.struct f65)
  fls65 : f65.toList.map (·.type) = [3, 3, 3, 3, 9, 59, 61, 3, 63]
  und180 : P.underlying 180 = some (.struct f180)
  fls180 : f180.toList.map (·.type) = [3, 65]
  und25 : P.underlying 25 = some (.slice 180)
  cel180 : P.cellsOf 180 = 13
  und27 : P.underlying 27 = some (.struct f27)
  fls27 : f27.toList.map (·.type) = [3, 22, 23, 24, 25]
  und107 : P.underlying 107 = some (.struct f107)
  fls107 : f107.toList.map (·.type) = [3, 3, 3, 3]
  und28 : P.underlying 28 = some (.slice 107)
  cel107 : P.cellsOf 107 = 4
theorem dat166 {P : Program} {f166 f63 f172 f292 f169 f294 f296 f177 f61 f65 f180 f27 f107 : Array Field} (F : Facts P f166 f63 f172 f292 f169 f294 f296 f177 f61 f65 f180 f27 f107) {n : Nat} {d : Dat} (h : Dat.ok P (n + 2) 166 d) : ∃ x : DValue, d.cells = x.c false := by
  obtain ⟨ds, rfl, hh⟩ := dat_struct F.und166 h
  rw [F.fls166] at hh
  obtain ⟨d0, ds, rfl, k0, hh⟩ := DatAll.cons hh
  obtain ⟨d1, ds, rfl, k1, hh⟩ := DatAll.cons hh
  obtain rfl := DatAll.nil hh
  obtain ⟨x0, rfl, _⟩ := dat_int F.und3 k0
  obtain ⟨x1, rfl, _⟩ := dat_int F.und3 k1
  exact ⟨⟨x0, x1⟩, by simp [Dat.cells, Dat.cellsF, DValue.c]⟩
theorem dat165 {P : Program} {f166 f63 f172 f292 f169 f294 f296 f177 f61 f65 f180 f27 f107 : Array Field} (F : Facts P f166 f63 f172 f292 f169 f294 f296 f177 f61 f65 f180 f27 f107) {n : Nat} {d : Dat} (h : Dat.ok P (n + 3) 165 d) : ∃ l : List DValue, d.av = .vs false 2 false (l.map (DValue.c false)) ∧ d.cells = [.vs false 2 false (l.map (DValue.c false))] ∧ l.length ≤ maxLen := by
  obtain ⟨xs, rfl, hm, hx⟩ := dat_sl F.und165 h
  obtain ⟨zs, e1, e2, e3⟩ := dat_listQ (DValue.c false) (fun _ => True) (fun d hd => by have := dat166 F hd; obtain ⟨x, hx⟩ := this; exact ⟨x, hx, trivial⟩) hx
  exact ⟨zs, by simp only [Dat.av, AM.sl, F.cel166, e2], by simp only [Dat.cells, AM.sl, F.cel166, e2], by omega⟩
theorem dat63 {P : Program} {f166 f63 f172 f292 f169 f294 f296 f177 f61 f65 f180 f27 f107 : Array Field} (F : Facts P f166 f63 f172 f292 f169 f294 f296 f177 f61 f65 f180 f27 f107) {n : Nat} {d : Dat} (h : Dat.ok P (n + 2) 63 d) : ∃ x : DTag, d.cells = x.c false := by
  obtain ⟨ds, rfl, hh⟩ := dat_struct F.und63 h
  rw [F.fls63] at hh
  obtain ⟨d0, ds, rfl, k0, hh⟩ := DatAll.cons hh
  obtain ⟨d1, ds, rfl, k1, hh⟩ := DatAll.cons hh
  obtain ⟨d2, ds, rfl, k2, hh⟩ := DatAll.cons hh
  obtain rfl := DatAll.nil hh
  obtain ⟨x0, rfl, _⟩ := dat_int F.und3 k0
  obtain ⟨x1, rfl, _⟩ := dat_int F.und3 k1
  obtain ⟨x2, rfl, _⟩ := dat_int F.und3 k2
  exact ⟨⟨x0, x1, x2⟩, by simp [Dat.cells, Dat.cellsF, DTag.c]⟩
theorem dat172 {P : Program} {f166 f63 f172 f292 f169 f294 f296 f177 f61 f65 f180 f27 f107 : Array Field} (F : Facts P f166 f63 f172 f292 f169 f294 f296 f177 f61 f65 f180 f27 f107) {n : Nat} {d : Dat} (h : Dat.ok P (n + 4) 172 d) : ∃ x : DSent, d.cells = x.c false ∧ x.ok maxLen := by
  obtain ⟨ds, rfl, hh⟩ := dat_struct F.und172 h
  rw [F.fls172] at hh
  obtain ⟨d0, ds, rfl, k0, hh⟩ := DatAll.cons hh
  obtain ⟨d1, ds, rfl, k1, hh⟩ := DatAll.cons hh
  obtain ⟨d2, ds, rfl, k2, hh⟩ := DatAll.cons hh
  obtain ⟨d3, ds, rfl, k3, hh⟩ := DatAll.cons hh
  obtain ⟨d4, ds, rfl, k4, hh⟩ := DatAll.cons hh
  obtain rfl := DatAll.nil hh
  obtain ⟨x0, rfl, _⟩ := dat_int F.und3 k0
  obtain ⟨x1, rfl, q1⟩ := dat_str F.und9 k1
  obtain ⟨x2, _, e2, q2⟩ := dat165 F k2
  obtain ⟨x3, rfl, _⟩ := dat_int F.und3 k3
  obtain ⟨x4, e4⟩ := dat63 F k4
  exact ⟨⟨x0, x1, x2, x3, x4⟩, by simp [Dat.cells, Dat.cellsF, e2, e4, DSent.c, DTag.c], ⟨q1, q2⟩⟩
theorem dat23 {P : Program} {f166 f63 f172 f292 f169 f294 f296 f177 f61 f65 f180 f27 f107 : Array Field} (F : Facts P f166 f63 f172 f292 f169 f294 f296 f177 f61 f65 f180 f27 f107) {n : Nat} {d : Dat} (h : Dat.ok P (n + 5) 23 d) : ∃ l : List DSent, d.av = .vs false 7 false (l.map (DSent.c false)) ∧ d.cells = [.vs false 7 false (l.map (DSent.c false))] ∧ l.length ≤ maxLen ∧ ∀ x ∈ l, x.ok maxLen := by
  obtain ⟨xs, rfl, hm, hx⟩ := dat_sl F.und23 h
  obtain ⟨zs, e1, e2, e3⟩ := dat_listQ (DSent.c false) (DSent.ok maxLen) (fun d hd => by have := dat172 F hd; exact this) hx
  exact ⟨zs, by simp only [Dat.av, AM.sl, F.cel172, e2], by simp only [Dat.cells, AM.sl, F.cel172, e2], by omega, e3⟩
theorem dat292 {P : Program} {f166 f63 f172 f292 f169 f294 f296 f177 f61 f65 f180 f27 f107 : Array Field} (F : Facts P f166 f63 f172 f292 f169 f294 f296 f177 f61 f65 f180 f27 f107) {n : Nat} {d : Dat} (h : Dat.ok P (n + 2) 292 d) : ∃ x : DAsker, d.cells = x.c false := by
  obtain ⟨ds, rfl, hh⟩ := dat_struct F.und292 h
  rw [F.fls292] at hh
  obtain ⟨d0, ds, rfl, k0, hh⟩ := DatAll.cons hh
  obtain ⟨d1, ds, rfl, k1, hh⟩ := DatAll.cons hh
  obtain rfl := DatAll.nil hh
  obtain ⟨x0, rfl, _⟩ := dat_int F.und3 k0
  obtain ⟨x1, rfl, _⟩ := dat_int F.und3 k1
  exact ⟨⟨x0, x1⟩, by simp [Dat.cells, Dat.cellsF, DAsker.c]⟩
theorem dat167 {P : Program} {f166 f63 f172 f292 f169 f294 f296 f177 f61 f65 f180 f27 f107 : Array Field} (F : Facts P f166 f63 f172 f292 f169 f294 f296 f177 f61 f65 f180 f27 f107) {n : Nat} {d : Dat} (h : Dat.ok P (n + 3) 167 d) : ∃ l : List DAsker, d.av = .vs false 2 false (l.map (DAsker.c false)) ∧ d.cells = [.vs false 2 false (l.map (DAsker.c false))] ∧ l.length ≤ maxLen := by
  obtain ⟨xs, rfl, hm, hx⟩ := dat_sl F.und167 h
  obtain ⟨zs, e1, e2, e3⟩ := dat_listQ (DAsker.c false) (fun _ => True) (fun d hd => by have := dat292 F hd; obtain ⟨x, hx⟩ := this; exact ⟨x, hx, trivial⟩) hx
  exact ⟨zs, by simp only [Dat.av, AM.sl, F.cel292, e2], by simp only [Dat.cells, AM.sl, F.cel292, e2], by omega⟩
theorem dat169 {P : Program} {f166 f63 f172 f292 f169 f294 f296 f177 f61 f65 f180 f27 f107 : Array Field} (F : Facts P f166 f63 f172 f292 f169 f294 f296 f177 f61 f65 f180 f27 f107) {n : Nat} {d : Dat} (h : Dat.ok P (n + 6) 169 d) : ∃ x : DEntity, d.cells = x.c false ∧ x.ok maxLen := by
  obtain ⟨ds, rfl, hh⟩ := dat_struct F.und169 h
  rw [F.fls169] at hh
  obtain ⟨d0, ds, rfl, k0, hh⟩ := DatAll.cons hh
  obtain ⟨d1, ds, rfl, k1, hh⟩ := DatAll.cons hh
  obtain ⟨d2, ds, rfl, k2, hh⟩ := DatAll.cons hh
  obtain ⟨d3, ds, rfl, k3, hh⟩ := DatAll.cons hh
  obtain ⟨d4, ds, rfl, k4, hh⟩ := DatAll.cons hh
  obtain ⟨d5, ds, rfl, k5, hh⟩ := DatAll.cons hh
  obtain ⟨d6, ds, rfl, k6, hh⟩ := DatAll.cons hh
  obtain ⟨d7, ds, rfl, k7, hh⟩ := DatAll.cons hh
  obtain ⟨d8, ds, rfl, k8, hh⟩ := DatAll.cons hh
  obtain ⟨d9, ds, rfl, k9, hh⟩ := DatAll.cons hh
  obtain ⟨d10, ds, rfl, k10, hh⟩ := DatAll.cons hh
  obtain rfl := DatAll.nil hh
  obtain ⟨x0, rfl, _⟩ := dat_int F.und3 k0
  obtain ⟨x1, rfl, _⟩ := dat_int F.und3 k1
  obtain ⟨x2, _, e2, q2⟩ := dat165 F k2
  obtain ⟨x3, rfl, _⟩ := dat_int F.und3 k3
  obtain ⟨x4, e4⟩ := dat166 F k4
  obtain ⟨x5, _, e5, q5, r5⟩ := dat23 F k5
  obtain ⟨x6, _, e6, q6⟩ := dat167 F k6
  obtain ⟨x7, rfl, _⟩ := dat_int F.und3 k7
  obtain ⟨x8, rfl, _⟩ := dat_int F.und3 k8
  obtain ⟨x9, rfl, _⟩ := dat_int F.und3 k9
  obtain ⟨x10, rfl, _⟩ := dat_int F.und3 k10
  exact ⟨⟨x0, x1, x2, x3, x4, x5, x6, x7, x8, x9, x10⟩, by simp [Dat.cells, Dat.cellsF, e2, e4, e5, e6, DEntity.c, DValue.c], ⟨q2, q5, r5, q6⟩⟩
theorem dat22 {P : Program} {f166 f63 f172 f292 f169 f294 f296 f177 f61 f65 f180 f27 f107 : Array Field} (F : Facts P f166 f63 f172 f292 f169 f294 f296 f177 f61 f65 f180 f27 f107) {n : Nat} {d : Dat} (h : Dat.ok P (n + 7) 22 d) : ∃ l : List DEntity, d.av = .vs false 12 false (l.map (DEntity.c false)) ∧ d.cells = [.vs false 12 false (l.map (DEntity.c false))] ∧ l.length ≤ maxLen ∧ ∀ x ∈ l, x.ok maxLen := by
  obtain ⟨xs, rfl, hm, hx⟩ := dat_sl F.und22 h
  obtain ⟨zs, e1, e2, e3⟩ := dat_listQ (DEntity.c false) (DEntity.ok maxLen) (fun d hd => by have := dat169 F hd; exact this) hx
  exact ⟨zs, by simp only [Dat.av, AM.sl, F.cel169, e2], by simp only [Dat.cells, AM.sl, F.cel169, e2], by omega, e3⟩
theorem dat294 {P : Program} {f166 f63 f172 f292 f169 f294 f296 f177 f61 f65 f180 f27 f107 : Array Field} (F : Facts P f166 f63 f172 f292 f169 f294 f296 f177 f61 f65 f180 f27 f107) {n : Nat} {d : Dat} (h : Dat.ok P (n + 2) 294 d) : ∃ x : DExport, d.cells = x.c false := by
  obtain ⟨ds, rfl, hh⟩ := dat_struct F.und294 h
  rw [F.fls294] at hh
  obtain ⟨d0, ds, rfl, k0, hh⟩ := DatAll.cons hh
  obtain ⟨d1, ds, rfl, k1, hh⟩ := DatAll.cons hh
  obtain ⟨d2, ds, rfl, k2, hh⟩ := DatAll.cons hh
  obtain rfl := DatAll.nil hh
  obtain ⟨x0, rfl, _⟩ := dat_int F.und3 k0
  obtain ⟨x1, rfl, _⟩ := dat_int F.und3 k1
  obtain ⟨x2, rfl, _⟩ := dat_int F.und3 k2
  exact ⟨⟨x0, x1, x2⟩, by simp [Dat.cells, Dat.cellsF, DExport.c]⟩
theorem dat174 {P : Program} {f166 f63 f172 f292 f169 f294 f296 f177 f61 f65 f180 f27 f107 : Array Field} (F : Facts P f166 f63 f172 f292 f169 f294 f296 f177 f61 f65 f180 f27 f107) {n : Nat} {d : Dat} (h : Dat.ok P (n + 3) 174 d) : ∃ l : List DExport, d.av = .vs false 3 false (l.map (DExport.c false)) ∧ d.cells = [.vs false 3 false (l.map (DExport.c false))] ∧ l.length ≤ maxLen := by
  obtain ⟨xs, rfl, hm, hx⟩ := dat_sl F.und174 h
  obtain ⟨zs, e1, e2, e3⟩ := dat_listQ (DExport.c false) (fun _ => True) (fun d hd => by have := dat294 F hd; obtain ⟨x, hx⟩ := this; exact ⟨x, hx, trivial⟩) hx
  exact ⟨zs, by simp only [Dat.av, AM.sl, F.cel294, e2], by simp only [Dat.cells, AM.sl, F.cel294, e2], by omega⟩
theorem dat296 {P : Program} {f166 f63 f172 f292 f169 f294 f296 f177 f61 f65 f180 f27 f107 : Array Field} (F : Facts P f166 f63 f172 f292 f169 f294 f296 f177 f61 f65 f180 f27 f107) {n : Nat} {d : Dat} (h : Dat.ok P (n + 2) 296 d) : ∃ x : DQuestion, d.cells = x.c false := by
  obtain ⟨ds, rfl, hh⟩ := dat_struct F.und296 h
  rw [F.fls296] at hh
  obtain ⟨d0, ds, rfl, k0, hh⟩ := DatAll.cons hh
  obtain ⟨d1, ds, rfl, k1, hh⟩ := DatAll.cons hh
  obtain rfl := DatAll.nil hh
  obtain ⟨x0, rfl, _⟩ := dat_int F.und3 k0
  obtain ⟨x1, rfl, _⟩ := dat_int F.und3 k1
  exact ⟨⟨x0, x1⟩, by simp [Dat.cells, Dat.cellsF, DQuestion.c]⟩
theorem dat175 {P : Program} {f166 f63 f172 f292 f169 f294 f296 f177 f61 f65 f180 f27 f107 : Array Field} (F : Facts P f166 f63 f172 f292 f169 f294 f296 f177 f61 f65 f180 f27 f107) {n : Nat} {d : Dat} (h : Dat.ok P (n + 3) 175 d) : ∃ l : List DQuestion, d.av = .vs false 2 false (l.map (DQuestion.c false)) ∧ d.cells = [.vs false 2 false (l.map (DQuestion.c false))] ∧ l.length ≤ maxLen := by
  obtain ⟨xs, rfl, hm, hx⟩ := dat_sl F.und175 h
  obtain ⟨zs, e1, e2, e3⟩ := dat_listQ (DQuestion.c false) (fun _ => True) (fun d hd => by have := dat296 F hd; obtain ⟨x, hx⟩ := this; exact ⟨x, hx, trivial⟩) hx
  exact ⟨zs, by simp only [Dat.av, AM.sl, F.cel296, e2], by simp only [Dat.cells, AM.sl, F.cel296, e2], by omega⟩
theorem dat177 {P : Program} {f166 f63 f172 f292 f169 f294 f296 f177 f61 f65 f180 f27 f107 : Array Field} (F : Facts P f166 f63 f172 f292 f169 f294 f296 f177 f61 f65 f180 f27 f107) {n : Nat} {d : Dat} (h : Dat.ok P (n + 4) 177 d) : ∃ x : DLink, d.cells = x.c false ∧ x.ok maxLen := by
  obtain ⟨ds, rfl, hh⟩ := dat_struct F.und177 h
  rw [F.fls177] at hh
  obtain ⟨d0, ds, rfl, k0, hh⟩ := DatAll.cons hh
  obtain ⟨d1, ds, rfl, k1, hh⟩ := DatAll.cons hh
  obtain ⟨d2, ds, rfl, k2, hh⟩ := DatAll.cons hh
  obtain ⟨d3, ds, rfl, k3, hh⟩ := DatAll.cons hh
  obtain ⟨d4, ds, rfl, k4, hh⟩ := DatAll.cons hh
  obtain ⟨d5, ds, rfl, k5, hh⟩ := DatAll.cons hh
  obtain ⟨d6, ds, rfl, k6, hh⟩ := DatAll.cons hh
  obtain rfl := DatAll.nil hh
  obtain ⟨x0, rfl, _⟩ := dat_int F.und3 k0
  obtain ⟨x1, rfl⟩ := dat_bool F.und4 k1
  obtain ⟨x2, _, e2, q2⟩ := dat174 F k2
  obtain ⟨x3, rfl, _⟩ := dat_int F.und3 k3
  obtain ⟨x4, _, e4, q4⟩ := dat175 F k4
  obtain ⟨x5, rfl, _⟩ := dat_int F.und3 k5
  obtain ⟨x6, _, e6, q6⟩ := dat175 F k6
  exact ⟨⟨x0, x1, x2, x3, x4, x5, x6⟩, by simp [Dat.cells, Dat.cellsF, e2, e4, e6, DLink.c], ⟨q2, q4, q6⟩⟩
theorem dat24 {P : Program} {f166 f63 f172 f292 f169 f294 f296 f177 f61 f65 f180 f27 f107 : Array Field} (F : Facts P f166 f63 f172 f292 f169 f294 f296 f177 f61 f65 f180 f27 f107) {n : Nat} {d : Dat} (h : Dat.ok P (n + 5) 24 d) : ∃ l : List DLink, d.av = .vs false 7 false (l.map (DLink.c false)) ∧ d.cells = [.vs false 7 false (l.map (DLink.c false))] ∧ l.length ≤ maxLen ∧ ∀ x ∈ l, x.ok maxLen := by
  obtain ⟨xs, rfl, hm, hx⟩ := dat_sl F.und24 h
  obtain ⟨zs, e1, e2, e3⟩ := dat_listQ (DLink.c false) (DLink.ok maxLen) (fun d hd => by have := dat177 F hd; exact this) hx
  exact ⟨zs, by simp only [Dat.av, AM.sl, F.cel177, e2], by simp only [Dat.cells, AM.sl, F.cel177, e2], by omega, e3⟩
theorem dat61 {P : Program} {f166 f63 f172 f292 f169 f294 f296 f177 f61 f65 f180 f27 f107 : Array Field} (F : Facts P f166 f63 f172 f292 f169 f294 f296 f177 f61 f65 f180 f27 f107) {n : Nat} {d : Dat} (h : Dat.ok P (n + 2) 61 d) : ∃ x : DWire, d.cells = x.c false := by
  obtain ⟨ds, rfl, hh⟩ := dat_struct F.und61 h
  rw [F.fls61] at hh
  obtain ⟨d0, ds, rfl, k0, hh⟩ := DatAll.cons hh
  obtain ⟨d1, ds, rfl, k1, hh⟩ := DatAll.cons hh
  obtain rfl := DatAll.nil hh
  obtain ⟨x0, rfl, _⟩ := dat_int F.und3 k0
  obtain ⟨x1, rfl, _⟩ := dat_int F.und3 k1
  exact ⟨⟨x0, x1⟩, by simp [Dat.cells, Dat.cellsF, DWire.c]⟩
theorem dat59 {P : Program} {f166 f63 f172 f292 f169 f294 f296 f177 f61 f65 f180 f27 f107 : Array Field} (F : Facts P f166 f63 f172 f292 f169 f294 f296 f177 f61 f65 f180 f27 f107) {n : Nat} {d : Dat} (h : Dat.ok P (n + 3) 59 d) : ∃ l : List DWire, d.av = .vs false 2 false (l.map (DWire.c false)) ∧ d.cells = [.vs false 2 false (l.map (DWire.c false))] ∧ l.length ≤ maxLen := by
  obtain ⟨xs, rfl, hm, hx⟩ := dat_sl F.und59 h
  obtain ⟨zs, e1, e2, e3⟩ := dat_listQ (DWire.c false) (fun _ => True) (fun d hd => by have := dat61 F hd; obtain ⟨x, hx⟩ := this; exact ⟨x, hx, trivial⟩) hx
  exact ⟨zs, by simp only [Dat.av, AM.sl, F.cel61, e2], by simp only [Dat.cells, AM.sl, F.cel61, e2], by omega⟩
theorem dat65 {P : Program} {f166 f63 f172 f292 f169 f294 f296 f177 f61 f65 f180 f27 f107 : Array Field} (F : Facts P f166 f63 f172 f292 f169 f294 f296 f177 f61 f65 f180 f27 f107) {n : Nat} {d : Dat} (h : Dat.ok P (n + 4) 65 d) : ∃ x : DMessage, d.cells = x.c false ∧ x.ok maxLen := by
  obtain ⟨ds, rfl, hh⟩ := dat_struct F.und65 h
  rw [F.fls65] at hh
  obtain ⟨d0, ds, rfl, k0, hh⟩ := DatAll.cons hh
  obtain ⟨d1, ds, rfl, k1, hh⟩ := DatAll.cons hh
  obtain ⟨d2, ds, rfl, k2, hh⟩ := DatAll.cons hh
  obtain ⟨d3, ds, rfl, k3, hh⟩ := DatAll.cons hh
  obtain ⟨d4, ds, rfl, k4, hh⟩ := DatAll.cons hh
  obtain ⟨d5, ds, rfl, k5, hh⟩ := DatAll.cons hh
  obtain ⟨d6, ds, rfl, k6, hh⟩ := DatAll.cons hh
  obtain ⟨d7, ds, rfl, k7, hh⟩ := DatAll.cons hh
  obtain ⟨d8, ds, rfl, k8, hh⟩ := DatAll.cons hh
  obtain rfl := DatAll.nil hh
  obtain ⟨x0, rfl, _⟩ := dat_int F.und3 k0
  obtain ⟨x1, rfl, _⟩ := dat_int F.und3 k1
  obtain ⟨x2, rfl, _⟩ := dat_int F.und3 k2
  obtain ⟨x3, rfl, _⟩ := dat_int F.und3 k3
  obtain ⟨x4, rfl, q4⟩ := dat_str F.und9 k4
  obtain ⟨x5, _, e5, q5⟩ := dat59 F k5
  obtain ⟨x6, e6⟩ := dat61 F k6
  obtain ⟨x7, rfl, _⟩ := dat_int F.und3 k7
  obtain ⟨x8, e8⟩ := dat63 F k8
  exact ⟨⟨x0, x1, x2, x3, x4, x5, x6, x7, x8⟩, by simp [Dat.cells, Dat.cellsF, e5, e6, e8, DMessage.c, DTag.c, DWire.c], ⟨q4, q5⟩⟩
theorem dat180 {P : Program} {f166 f63 f172 f292 f169 f294 f296 f177 f61 f65 f180 f27 f107 : Array Field} (F : Facts P f166 f63 f172 f292 f169 f294 f296 f177 f61 f65 f180 f27 f107) {n : Nat} {d : Dat} (h : Dat.ok P (n + 5) 180 d) : ∃ x : DOutgoing, d.cells = x.c false ∧ x.ok maxLen := by
  obtain ⟨ds, rfl, hh⟩ := dat_struct F.und180 h
  rw [F.fls180] at hh
  obtain ⟨d0, ds, rfl, k0, hh⟩ := DatAll.cons hh
  obtain ⟨d1, ds, rfl, k1, hh⟩ := DatAll.cons hh
  obtain rfl := DatAll.nil hh
  obtain ⟨x0, rfl, _⟩ := dat_int F.und3 k0
  obtain ⟨x1, e1, q1⟩ := dat65 F k1
  exact ⟨⟨x0, x1⟩, by simp [Dat.cells, Dat.cellsF, e1, DOutgoing.c, DMessage.c], q1⟩
theorem dat25 {P : Program} {f166 f63 f172 f292 f169 f294 f296 f177 f61 f65 f180 f27 f107 : Array Field} (F : Facts P f166 f63 f172 f292 f169 f294 f296 f177 f61 f65 f180 f27 f107) {n : Nat} {d : Dat} (h : Dat.ok P (n + 6) 25 d) : ∃ l : List DOutgoing, d.av = .vs false 13 false (l.map (DOutgoing.c false)) ∧ d.cells = [.vs false 13 false (l.map (DOutgoing.c false))] ∧ l.length ≤ maxLen ∧ ∀ x ∈ l, x.ok maxLen := by
  obtain ⟨xs, rfl, hm, hx⟩ := dat_sl F.und25 h
  obtain ⟨zs, e1, e2, e3⟩ := dat_listQ (DOutgoing.c false) (DOutgoing.ok maxLen) (fun d hd => by have := dat180 F hd; exact this) hx
  exact ⟨zs, by simp only [Dat.av, AM.sl, F.cel180, e2], by simp only [Dat.cells, AM.sl, F.cel180, e2], by omega, e3⟩
theorem dat27 {P : Program} {f166 f63 f172 f292 f169 f294 f296 f177 f61 f65 f180 f27 f107 : Array Field} (F : Facts P f166 f63 f172 f292 f169 f294 f296 f177 f61 f65 f180 f27 f107) {n : Nat} {d : Dat} (h : Dat.ok P (n + 8) 27 d) : ∃ x : DVat, d.cells = x.c false ∧ x.ok maxLen := by
  obtain ⟨ds, rfl, hh⟩ := dat_struct F.und27 h
  rw [F.fls27] at hh
  obtain ⟨d0, ds, rfl, k0, hh⟩ := DatAll.cons hh
  obtain ⟨d1, ds, rfl, k1, hh⟩ := DatAll.cons hh
  obtain ⟨d2, ds, rfl, k2, hh⟩ := DatAll.cons hh
  obtain ⟨d3, ds, rfl, k3, hh⟩ := DatAll.cons hh
  obtain ⟨d4, ds, rfl, k4, hh⟩ := DatAll.cons hh
  obtain rfl := DatAll.nil hh
  obtain ⟨x0, rfl, _⟩ := dat_int F.und3 k0
  obtain ⟨x1, _, e1, q1, r1⟩ := dat22 F k1
  obtain ⟨x2, _, e2, q2, r2⟩ := dat23 F k2
  obtain ⟨x3, _, e3, q3, r3⟩ := dat24 F k3
  obtain ⟨x4, _, e4, q4, r4⟩ := dat25 F k4
  exact ⟨⟨x0, x1, x2, x3, x4⟩, by simp [Dat.cells, Dat.cellsF, e1, e2, e3, e4, DVat.c], ⟨q1, r1, q2, r2, q3, r3, q4, r4⟩⟩
theorem dat107 {P : Program} {f166 f63 f172 f292 f169 f294 f296 f177 f61 f65 f180 f27 f107 : Array Field} (F : Facts P f166 f63 f172 f292 f169 f294 f296 f177 f61 f65 f180 f27 f107) {n : Nat} {d : Dat} (h : Dat.ok P (n + 2) 107 d) : ∃ x : DGift, d.cells = x.c false := by
  obtain ⟨ds, rfl, hh⟩ := dat_struct F.und107 h
  rw [F.fls107] at hh
  obtain ⟨d0, ds, rfl, k0, hh⟩ := DatAll.cons hh
  obtain ⟨d1, ds, rfl, k1, hh⟩ := DatAll.cons hh
  obtain ⟨d2, ds, rfl, k2, hh⟩ := DatAll.cons hh
  obtain ⟨d3, ds, rfl, k3, hh⟩ := DatAll.cons hh
  obtain rfl := DatAll.nil hh
  obtain ⟨x0, rfl, _⟩ := dat_int F.und3 k0
  obtain ⟨x1, rfl, _⟩ := dat_int F.und3 k1
  obtain ⟨x2, rfl, _⟩ := dat_int F.und3 k2
  obtain ⟨x3, rfl, _⟩ := dat_int F.und3 k3
  exact ⟨⟨x0, x1, x2, x3⟩, by simp [Dat.cells, Dat.cellsF, DGift.c]⟩
theorem dat28 {P : Program} {f166 f63 f172 f292 f169 f294 f296 f177 f61 f65 f180 f27 f107 : Array Field} (F : Facts P f166 f63 f172 f292 f169 f294 f296 f177 f61 f65 f180 f27 f107) {n : Nat} {d : Dat} (h : Dat.ok P (n + 3) 28 d) : ∃ l : List DGift, d.av = .vs false 4 false (l.map (DGift.c false)) ∧ d.cells = [.vs false 4 false (l.map (DGift.c false))] ∧ l.length ≤ maxLen := by
  obtain ⟨xs, rfl, hm, hx⟩ := dat_sl F.und28 h
  obtain ⟨zs, e1, e2, e3⟩ := dat_listQ (DGift.c false) (fun _ => True) (fun d hd => by have := dat107 F hd; obtain ⟨x, hx⟩ := this; exact ⟨x, hx, trivial⟩) hx
  exact ⟨zs, by simp only [Dat.av, AM.sl, F.cel107, e2], by simp only [Dat.cells, AM.sl, F.cel107, e2], by omega⟩
theorem facts : Facts Tryz.prog gfl166 gfl63 gfl172 gfl292 gfl169 gfl294 gfl296 gfl177 gfl61 gfl65 gfl180 gfl27 gfl107 := ⟨by kernel_rfl, by kernel_rfl, by kernel_rfl, by kernel_rfl, by kernel_rfl, by kernel_rfl, by kernel_rfl, by kernel_rfl, by kernel_rfl, by kernel_rfl, by kernel_rfl, by kernel_rfl, by kernel_rfl, by kernel_rfl, by kernel_rfl, by kernel_rfl, by kernel_rfl, by kernel_rfl, by kernel_rfl, by kernel_rfl, by kernel_rfl, by kernel_rfl, by kernel_rfl, by kernel_rfl, by kernel_rfl, by kernel_rfl, by kernel_rfl, by kernel_rfl, by kernel_rfl, by kernel_rfl, by kernel_rfl, by kernel_rfl, by kernel_rfl, by kernel_rfl, by kernel_rfl, by kernel_rfl, by kernel_rfl, by kernel_rfl, by kernel_rfl, by kernel_rfl, by kernel_rfl, by kernel_rfl, by kernel_rfl, by kernel_rfl, by kernel_rfl, by kernel_rfl, by kernel_rfl, by kernel_rfl, by kernel_rfl⟩
set_option maxRecDepth 100000 in
theorem fnExactAcceptGift_walk (ds : List Dat) (h : DatAll Tryz.prog 8 Tryz.f5.params.toList ds) : T Tryz.prog (fun _ => none) 5 (ds.map Dat.av) [] fun v _ => v = .bool true := by
  have hp : Tryz.f5.params.toList = [27, 28, 3, 3, 3] := by kernel_rfl
  obtain ⟨d0, ds, rfl, k0, h⟩ := DatAll.cons (hp ▸ h : DatAll Tryz.prog 8 [27, 28, 3, 3, 3] ds)
  obtain ⟨d1, ds, rfl, k1, h⟩ := DatAll.cons h
  obtain ⟨d2, ds, rfl, k2, h⟩ := DatAll.cons h
  obtain ⟨d3, ds, rfl, k3, h⟩ := DatAll.cons h
  obtain ⟨d4, ds, rfl, k4, h⟩ := DatAll.cons h
  obtain rfl := DatAll.nil h
  obtain ⟨x0, c0, q0⟩ := dat27 facts (n := 0) k0
  have e0 : d0.av = .agg (x0.c false) := dat_agg facts.und27 k0 c0
  obtain ⟨x1, e1, _, q1⟩ := dat28 facts (n := 5) k1
  obtain ⟨x2, rfl, w2⟩ := dat_int (n := 7) facts.und3 k2
  obtain ⟨x3, rfl, w3⟩ := dat_int (n := 7) facts.und3 k3
  obtain ⟨x4, rfl, w4⟩ := dat_int (n := 7) facts.und3 k4
  have := law_AcceptGift (Γ := fun _ => none) x0 q0 x1 q1 x2 x3 x4 []
  rw [← e0, ← e1] at this
  exact this.mono fun v h' hv => hv.1
set_option maxRecDepth 100000 in
theorem fnExactAcceptGift_lifted (os : Os) (started : os.Started) (H : Type) (enc : TypeId × Value → H) :
    ReturnsInHanded {} Tryz.checked os 5 .any (Rows.fnExactAcceptGiftSpec.pre6 enc Tryz.prog Tryz.f5 Rows.fnExactAcceptGiftRow.domain false) (Rows.fnExactAcceptGiftSpec.post enc Tryz.prog Tryz.f5 false true false false) := by
  refine returnsInHanded_of_change (C := Tryz.checked) own started (by kernel_rfl) Tryz.func5
    (ChangeSpec.witness6 (enc := enc) (C := Tryz.checked) false ⟨#[], #[.agg #[.int .i64 0, .slice none 0 0, .slice none 0 0, .slice none 0 0, .slice none 0 0], .slice none 0 0, .int .i64 0, .int .i64 0, .int .i64 0], []⟩ 11 (by kernel_rfl) (by kernel_rfl) (by kernel_rfl) (by kernel_rfl)) ?_
  intro W base args ds gs before hval hW hcnd _
  refine law_post (n := 8) (tb := 4) (by decide +kernel) rfl (by kernel_rfl) (by kernel_rfl) (fun xs hx => ?_) fnExactAcceptGift_walk hval hW
  have hp : Tryz.f5.params.toList.length = 5 := by kernel_rfl
  rw [hp] at hx
  match xs, hx with
  | [_, _, _, _, _], _ => rfl
theorem fnExactAcceptGift_over : Rows.fnExactAcceptGiftRow.holds Tryz.pinned (OpenSpec.ofChange Rows.fnExactAcceptGiftSpec) :=
  OpenClaim.holds_of_wide 5 Tryz.f5 rfl rfl rfl rfl rfl rfl rfl ⟨rfl, rfl, rfl, rfl, rfl⟩ rfl rfl rfl rfl rfl (by kernel_rfl) Tryz.func5 (by kernel_rfl)
    (of_decide_eq_true (by kernel_rfl)) (by unfold Func.isWrapper; first | (rw [if_pos (by decide +kernel)]; kernel_rfl) | (rw [if_neg (by decide +kernel)]; exact ⟨rfl, rfl⟩))
    (fun os started H enc _ => fnExactAcceptGift_lifted os started H enc)
theorem fnExactAcceptGift_proved : Rows.FnExactAcceptGiftSaid := fnExactAcceptGift_over
#print axioms fnExactAcceptGift_proved
end Go.Proofs.YtleddolmolkpfaaGreat

