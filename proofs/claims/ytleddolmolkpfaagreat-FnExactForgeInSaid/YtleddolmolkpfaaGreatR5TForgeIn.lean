/- The law FnExactForgeIn returns true at every input, and its arguments read behind the call as before. Conditions: none beyond the given row's. -/
import Derived.Test.YtleddolmolkpfaaGreatRows
import Derived.WalkKit
import Derived.ProofKit
import Derived.OpenShut
import Derived.Test.YtleddolmolkpfaaGreatAmTop
import Derived.Test.YtleddolmolkpfaaGreatR5LForgeIn
import Derived.Test.YtleddolmolkpfaaGreatR5J
set_option linter.unusedVariables false
set_option linter.unusedSimpArgs false
namespace Go.Proofs.YtleddolmolkpfaaGreat
open Go.AM
open Go.ChangeShapes Go.WideShapes Go.ChangeAt Go.RowKit
set_option linter.unusedVariables false
theorem own : ownKnob Tryz.prog.godebug = none := by kernel_rfl
noncomputable def gfl315 : Array Field := match Tryz.prog.underlying 315 with | some (.struct fs) => fs | _ => #[]
noncomputable def gfl304 : Array Field := match Tryz.prog.underlying 304 with | some (.struct fs) => fs | _ => #[]
noncomputable def gfl219 : Array Field := match Tryz.prog.underlying 219 with | some (.struct fs) => fs | _ => #[]
noncomputable def gfl166 : Array Field := match Tryz.prog.underlying 166 with | some (.struct fs) => fs | _ => #[]
noncomputable def gfl63 : Array Field := match Tryz.prog.underlying 63 with | some (.struct fs) => fs | _ => #[]
noncomputable def gfl172 : Array Field := match Tryz.prog.underlying 172 with | some (.struct fs) => fs | _ => #[]
noncomputable def gfl292 : Array Field := match Tryz.prog.underlying 292 with | some (.struct fs) => fs | _ => #[]
noncomputable def gfl169 : Array Field := match Tryz.prog.underlying 169 with | some (.struct fs) => fs | _ => #[]
noncomputable def gfl294 : Array Field := match Tryz.prog.underlying 294 with | some (.struct fs) => fs | _ => #[]
noncomputable def gfl296 : Array Field := match Tryz.prog.underlying 296 with | some (.struct fs) => fs | _ => #[]
noncomputable def gfl177 : Array Field := match Tryz.prog.underlying 177 with | some (.struct fs) => fs | _ => #[]
noncomputable def gfl61 : Array Field := match Tryz.prog.underlying 61 with | some (.struct fs) => fs | _ => #[]
noncomputable def gfl65 : Array Field := match Tryz.prog.underlying 65 with | some (.struct fs) => fs | _ => #[]
noncomputable def gfl180 : Array Field := match Tryz.prog.underlying 180 with | some (.struct fs) => fs | _ => #[]
noncomputable def gfl27 : Array Field := match Tryz.prog.underlying 27 with | some (.struct fs) => fs | _ => #[]
noncomputable def gfl223 : Array Field := match Tryz.prog.underlying 223 with | some (.struct fs) => fs | _ => #[]
noncomputable def gfl239 : Array Field := match Tryz.prog.underlying 239 with | some (.struct fs) => fs | _ => #[]
noncomputable def gfl58 : Array Field := match Tryz.prog.underlying 58 with | some (.struct fs) => fs | _ => #[]
structure Facts (P : Program) (f315 f304 f219 f166 f63 f172 f292 f169 f294 f296 f177 f61 f65 f180 f27 f223 f239 f58 : Array Field) : Prop where
  und9 : P.underlying 9 = some .string
  und3 : P.underlying 3 = some (.int .i64)
  und315 : P.underlying 315 = some (.struct f315)
  fls315 : f315.toList.map (·.type) = [3, 3, 3, 3, 3, 9]
  und302 : P.underlying 302 = some (.slice 315)
  cel315 : P.cellsOf 315 = 6
  und304 : P.underlying 304 = some (.struct f304)
  fls304 : f304.toList.map (·.type) = [9, 302]
  und217 : P.underlying 217 = some (.slice 304)
  cel304 : P.cellsOf 304 = 2
  und219 : P.underlying 219 = some (.struct f219)
  fls219 : f219.toList.map (·.type) = [9, 217]
  und53 : P.underlying 53 = some (.slice 219)
  cel219 : P.cellsOf 219 = 2
  und166 : P.underlying 166 = some (.struct f166)
  fls166 : f166.toList.map (·.type) = [3, 3]
  und165 : P.underlying 165 = some (.slice 166)
  cel166 : P.cellsOf 166 = 2
  und63 : P.underlying 63 = some (.struct f63)
  fls63 : f63.toList.map (·.type) = [3, 3, 3]
  und172 : P.underlying 172 = some (.struct f172)
  fls172 : f172.toList.map (·.type) = [3, 9, 165, 3, 63]
  und23 : P.underlying 23 = some (.slice 172)
  cel172 : P.cellsOf 172 = 7
  und292 : P.underlying 292 = some (.struct f292)
  fls292 : f292.toList.map (·.type) = [3, 3]
  und167 : P.underlying 167 = some (.slice 292)
  cel292 : P.cellsOf 292 = 2
  und169 : P.underlying 169 = some (.struct f169)
  fls169 : f169.toList.map (·.type) = [3, 3, 165, 3, 166, 23, 167, 3, 3, 3, 3]
  und22 : P.underlying 22 = some (.slice 169)
  cel169 : P.cellsOf 169 = 12
  und4 : P.underlying 4 = some .bool
  und294 : P.underlying 294 = some (.struct f294)
  fls294 : f294.toList.map (·.type) = [3, 3, 3]
  und174 : P.underlying 174 = some (.slice 294)
  cel294 : P.cellsOf 294 = 3
  und296 : P.underlying 296 = some (.struct f296)
  fls296 : f296.toList.map (·.type) = [3, 3]
  und175 : P.underlying 175 = some (.slice 296)
  cel296 : P.cellsOf 296 = 2
  und177 : P.underlying 177 = some (.struct f177)
  fls177 : f177.toList.map (·.type) = [3, 4, 174, 3, 175, 3, 175]
  und24 : P.underlying 24 = some (.slice 177)
  cel177 : P.cellsOf 177 = 7
  und61 : P.underlying 61 = some (.struct f61)
  fls61 : f61.toList.map (·.type) = [3, 3]
  und59 : P.underlying 59 = some (.slice 61)
  cel61 : P.cellsOf 61 = 2
  und65 : P.underlying 65 = some (.struct f65)
  fls65 : f65.toList.map (·.type) = [3, 3, 3, 3, 9, 59, 61, 3, 63]
  und180 : P.underlying 180 = some (.struct f180)
  fls180 : f180.toList.map (·.type) = [3, 65]
  und25 : P.underlying 25 = some (.slice 180)
  cel180 : P.cellsOf 180 = 13
  und27 : P.underlying 27 = some (.struct f27)
  fls27 : f27.toList.map (·.type) = [3, 22, 23, 24, 25]
  und54 : P.underlying 54 = some (.slice 27)
  cel27 : P.cellsOf 27 = 5
  und221 : P.underlying 221 = some (.slice 65)
  cel65 : P.cellsOf 65 = 12
  und223 : P.underlying 223 = some (.struct f223)
  fls223 : f223.toList.map (·.type) = [3, 3, 221]
  und55 : P.underlying 55 = some (.slice 223)
  cel223 : P.cellsOf 223 = 3
  und239 : P.underlying 239 = some (.struct f239)
  fls239 : f239.toList.map (·.type) = [3, 3, 3, 63]
  und56 : P.underlying 56 = some (.slice 239)
  cel239 : P.cellsOf 239 = 6
  und58 : P.underlying 58 = some (.struct f58)
  fls58 : f58.toList.map (·.type) = [53, 54, 55, 56, 3]
theorem dat315 {P : Program} {f315 f304 f219 f166 f63 f172 f292 f169 f294 f296 f177 f61 f65 f180 f27 f223 f239 f58 : Array Field} (F : Facts P f315 f304 f219 f166 f63 f172 f292 f169 f294 f296 f177 f61 f65 f180 f27 f223 f239 f58) {n : Nat} {d : Dat} (h : Dat.ok P (n + 2) 315 d) : ∃ x : DInstr, d.cells = x.c false ∧ x.ok maxLen := by
  obtain ⟨ds, rfl, hh⟩ := dat_struct F.und315 h
  rw [F.fls315] at hh
  obtain ⟨d0, ds, rfl, k0, hh⟩ := DatAll.cons hh
  obtain ⟨d1, ds, rfl, k1, hh⟩ := DatAll.cons hh
  obtain ⟨d2, ds, rfl, k2, hh⟩ := DatAll.cons hh
  obtain ⟨d3, ds, rfl, k3, hh⟩ := DatAll.cons hh
  obtain ⟨d4, ds, rfl, k4, hh⟩ := DatAll.cons hh
  obtain ⟨d5, ds, rfl, k5, hh⟩ := DatAll.cons hh
  obtain rfl := DatAll.nil hh
  obtain ⟨x0, rfl, _⟩ := dat_int F.und3 k0
  obtain ⟨x1, rfl, _⟩ := dat_int F.und3 k1
  obtain ⟨x2, rfl, _⟩ := dat_int F.und3 k2
  obtain ⟨x3, rfl, _⟩ := dat_int F.und3 k3
  obtain ⟨x4, rfl, _⟩ := dat_int F.und3 k4
  obtain ⟨x5, rfl, q5⟩ := dat_str F.und9 k5
  exact ⟨⟨x0, x1, x2, x3, x4, x5⟩, by simp [Dat.cells, Dat.cellsF, DInstr.c], q5⟩
theorem dat302 {P : Program} {f315 f304 f219 f166 f63 f172 f292 f169 f294 f296 f177 f61 f65 f180 f27 f223 f239 f58 : Array Field} (F : Facts P f315 f304 f219 f166 f63 f172 f292 f169 f294 f296 f177 f61 f65 f180 f27 f223 f239 f58) {n : Nat} {d : Dat} (h : Dat.ok P (n + 3) 302 d) : ∃ l : List DInstr, d.av = .vs false 6 false (l.map (DInstr.c false)) ∧ d.cells = [.vs false 6 false (l.map (DInstr.c false))] ∧ l.length ≤ maxLen ∧ ∀ x ∈ l, x.ok maxLen := by
  obtain ⟨xs, rfl, hm, hx⟩ := dat_sl F.und302 h
  obtain ⟨zs, e1, e2, e3⟩ := dat_listQ (DInstr.c false) (DInstr.ok maxLen) (fun d hd => by have := dat315 F hd; exact this) hx
  exact ⟨zs, by simp only [Dat.av, AM.sl, F.cel315, e2], by simp only [Dat.cells, AM.sl, F.cel315, e2], by omega, e3⟩
theorem dat304 {P : Program} {f315 f304 f219 f166 f63 f172 f292 f169 f294 f296 f177 f61 f65 f180 f27 f223 f239 f58 : Array Field} (F : Facts P f315 f304 f219 f166 f63 f172 f292 f169 f294 f296 f177 f61 f65 f180 f27 f223 f239 f58) {n : Nat} {d : Dat} (h : Dat.ok P (n + 4) 304 d) : ∃ x : DMethod, d.cells = x.c false ∧ x.ok maxLen := by
  obtain ⟨ds, rfl, hh⟩ := dat_struct F.und304 h
  rw [F.fls304] at hh
  obtain ⟨d0, ds, rfl, k0, hh⟩ := DatAll.cons hh
  obtain ⟨d1, ds, rfl, k1, hh⟩ := DatAll.cons hh
  obtain rfl := DatAll.nil hh
  obtain ⟨x0, rfl, q0⟩ := dat_str F.und9 k0
  obtain ⟨x1, _, e1, q1, r1⟩ := dat302 F k1
  exact ⟨⟨x0, x1⟩, by simp [Dat.cells, Dat.cellsF, e1, DMethod.c], ⟨q0, q1, r1⟩⟩
theorem dat217 {P : Program} {f315 f304 f219 f166 f63 f172 f292 f169 f294 f296 f177 f61 f65 f180 f27 f223 f239 f58 : Array Field} (F : Facts P f315 f304 f219 f166 f63 f172 f292 f169 f294 f296 f177 f61 f65 f180 f27 f223 f239 f58) {n : Nat} {d : Dat} (h : Dat.ok P (n + 5) 217 d) : ∃ l : List DMethod, d.av = .vs false 2 false (l.map (DMethod.c false)) ∧ d.cells = [.vs false 2 false (l.map (DMethod.c false))] ∧ l.length ≤ maxLen ∧ ∀ x ∈ l, x.ok maxLen := by
  obtain ⟨xs, rfl, hm, hx⟩ := dat_sl F.und217 h
  obtain ⟨zs, e1, e2, e3⟩ := dat_listQ (DMethod.c false) (DMethod.ok maxLen) (fun d hd => by have := dat304 F hd; exact this) hx
  exact ⟨zs, by simp only [Dat.av, AM.sl, F.cel304, e2], by simp only [Dat.cells, AM.sl, F.cel304, e2], by omega, e3⟩
theorem dat219 {P : Program} {f315 f304 f219 f166 f63 f172 f292 f169 f294 f296 f177 f61 f65 f180 f27 f223 f239 f58 : Array Field} (F : Facts P f315 f304 f219 f166 f63 f172 f292 f169 f294 f296 f177 f61 f65 f180 f27 f223 f239 f58) {n : Nat} {d : Dat} (h : Dat.ok P (n + 6) 219 d) : ∃ x : DScript, d.cells = x.c false ∧ x.ok maxLen := by
  obtain ⟨ds, rfl, hh⟩ := dat_struct F.und219 h
  rw [F.fls219] at hh
  obtain ⟨d0, ds, rfl, k0, hh⟩ := DatAll.cons hh
  obtain ⟨d1, ds, rfl, k1, hh⟩ := DatAll.cons hh
  obtain rfl := DatAll.nil hh
  obtain ⟨x0, rfl, q0⟩ := dat_str F.und9 k0
  obtain ⟨x1, _, e1, q1, r1⟩ := dat217 F k1
  exact ⟨⟨x0, x1⟩, by simp [Dat.cells, Dat.cellsF, e1, DScript.c], ⟨q0, q1, r1⟩⟩
theorem dat53 {P : Program} {f315 f304 f219 f166 f63 f172 f292 f169 f294 f296 f177 f61 f65 f180 f27 f223 f239 f58 : Array Field} (F : Facts P f315 f304 f219 f166 f63 f172 f292 f169 f294 f296 f177 f61 f65 f180 f27 f223 f239 f58) {n : Nat} {d : Dat} (h : Dat.ok P (n + 7) 53 d) : ∃ l : List DScript, d.av = .vs false 2 false (l.map (DScript.c false)) ∧ d.cells = [.vs false 2 false (l.map (DScript.c false))] ∧ l.length ≤ maxLen ∧ ∀ x ∈ l, x.ok maxLen := by
  obtain ⟨xs, rfl, hm, hx⟩ := dat_sl F.und53 h
  obtain ⟨zs, e1, e2, e3⟩ := dat_listQ (DScript.c false) (DScript.ok maxLen) (fun d hd => by have := dat219 F hd; exact this) hx
  exact ⟨zs, by simp only [Dat.av, AM.sl, F.cel219, e2], by simp only [Dat.cells, AM.sl, F.cel219, e2], by omega, e3⟩
theorem dat166 {P : Program} {f315 f304 f219 f166 f63 f172 f292 f169 f294 f296 f177 f61 f65 f180 f27 f223 f239 f58 : Array Field} (F : Facts P f315 f304 f219 f166 f63 f172 f292 f169 f294 f296 f177 f61 f65 f180 f27 f223 f239 f58) {n : Nat} {d : Dat} (h : Dat.ok P (n + 2) 166 d) : ∃ x : DValue, d.cells = x.c false := by
  obtain ⟨ds, rfl, hh⟩ := dat_struct F.und166 h
  rw [F.fls166] at hh
  obtain ⟨d0, ds, rfl, k0, hh⟩ := DatAll.cons hh
  obtain ⟨d1, ds, rfl, k1, hh⟩ := DatAll.cons hh
  obtain rfl := DatAll.nil hh
  obtain ⟨x0, rfl, _⟩ := dat_int F.und3 k0
  obtain ⟨x1, rfl, _⟩ := dat_int F.und3 k1
  exact ⟨⟨x0, x1⟩, by simp [Dat.cells, Dat.cellsF, DValue.c]⟩
theorem dat165 {P : Program} {f315 f304 f219 f166 f63 f172 f292 f169 f294 f296 f177 f61 f65 f180 f27 f223 f239 f58 : Array Field} (F : Facts P f315 f304 f219 f166 f63 f172 f292 f169 f294 f296 f177 f61 f65 f180 f27 f223 f239 f58) {n : Nat} {d : Dat} (h : Dat.ok P (n + 3) 165 d) : ∃ l : List DValue, d.av = .vs false 2 false (l.map (DValue.c false)) ∧ d.cells = [.vs false 2 false (l.map (DValue.c false))] ∧ l.length ≤ maxLen := by
  obtain ⟨xs, rfl, hm, hx⟩ := dat_sl F.und165 h
  obtain ⟨zs, e1, e2, e3⟩ := dat_listQ (DValue.c false) (fun _ => True) (fun d hd => by have := dat166 F hd; obtain ⟨x, hx⟩ := this; exact ⟨x, hx, trivial⟩) hx
  exact ⟨zs, by simp only [Dat.av, AM.sl, F.cel166, e2], by simp only [Dat.cells, AM.sl, F.cel166, e2], by omega⟩
theorem dat63 {P : Program} {f315 f304 f219 f166 f63 f172 f292 f169 f294 f296 f177 f61 f65 f180 f27 f223 f239 f58 : Array Field} (F : Facts P f315 f304 f219 f166 f63 f172 f292 f169 f294 f296 f177 f61 f65 f180 f27 f223 f239 f58) {n : Nat} {d : Dat} (h : Dat.ok P (n + 2) 63 d) : ∃ x : DTag, d.cells = x.c false := by
  obtain ⟨ds, rfl, hh⟩ := dat_struct F.und63 h
  rw [F.fls63] at hh
  obtain ⟨d0, ds, rfl, k0, hh⟩ := DatAll.cons hh
  obtain ⟨d1, ds, rfl, k1, hh⟩ := DatAll.cons hh
  obtain ⟨d2, ds, rfl, k2, hh⟩ := DatAll.cons hh
  obtain rfl := DatAll.nil hh
  obtain ⟨x0, rfl, _⟩ := dat_int F.und3 k0
  obtain ⟨x1, rfl, _⟩ := dat_int F.und3 k1
  obtain ⟨x2, rfl, _⟩ := dat_int F.und3 k2
  exact ⟨⟨x0, x1, x2⟩, by simp [Dat.cells, Dat.cellsF, DTag.c]⟩
theorem dat172 {P : Program} {f315 f304 f219 f166 f63 f172 f292 f169 f294 f296 f177 f61 f65 f180 f27 f223 f239 f58 : Array Field} (F : Facts P f315 f304 f219 f166 f63 f172 f292 f169 f294 f296 f177 f61 f65 f180 f27 f223 f239 f58) {n : Nat} {d : Dat} (h : Dat.ok P (n + 4) 172 d) : ∃ x : DSent, d.cells = x.c false ∧ x.ok maxLen := by
  obtain ⟨ds, rfl, hh⟩ := dat_struct F.und172 h
  rw [F.fls172] at hh
  obtain ⟨d0, ds, rfl, k0, hh⟩ := DatAll.cons hh
  obtain ⟨d1, ds, rfl, k1, hh⟩ := DatAll.cons hh
  obtain ⟨d2, ds, rfl, k2, hh⟩ := DatAll.cons hh
  obtain ⟨d3, ds, rfl, k3, hh⟩ := DatAll.cons hh
  obtain ⟨d4, ds, rfl, k4, hh⟩ := DatAll.cons hh
  obtain rfl := DatAll.nil hh
  obtain ⟨x0, rfl, _⟩ := dat_int F.und3 k0
  obtain ⟨x1, rfl, q1⟩ := dat_str F.und9 k1
  obtain ⟨x2, _, e2, q2⟩ := dat165 F k2
  obtain ⟨x3, rfl, _⟩ := dat_int F.und3 k3
  obtain ⟨x4, e4⟩ := dat63 F k4
  exact ⟨⟨x0, x1, x2, x3, x4⟩, by simp [Dat.cells, Dat.cellsF, e2, e4, DSent.c, DTag.c], ⟨q1, q2⟩⟩
theorem dat23 {P : Program} {f315 f304 f219 f166 f63 f172 f292 f169 f294 f296 f177 f61 f65 f180 f27 f223 f239 f58 : Array Field} (F : Facts P f315 f304 f219 f166 f63 f172 f292 f169 f294 f296 f177 f61 f65 f180 f27 f223 f239 f58) {n : Nat} {d : Dat} (h : Dat.ok P (n + 5) 23 d) : ∃ l : List DSent, d.av = .vs false 7 false (l.map (DSent.c false)) ∧ d.cells = [.vs false 7 false (l.map (DSent.c false))] ∧ l.length ≤ maxLen ∧ ∀ x ∈ l, x.ok maxLen := by
  obtain ⟨xs, rfl, hm, hx⟩ := dat_sl F.und23 h
  obtain ⟨zs, e1, e2, e3⟩ := dat_listQ (DSent.c false) (DSent.ok maxLen) (fun d hd => by have := dat172 F hd; exact this) hx
  exact ⟨zs, by simp only [Dat.av, AM.sl, F.cel172, e2], by simp only [Dat.cells, AM.sl, F.cel172, e2], by omega, e3⟩
theorem dat292 {P : Program} {f315 f304 f219 f166 f63 f172 f292 f169 f294 f296 f177 f61 f65 f180 f27 f223 f239 f58 : Array Field} (F : Facts P f315 f304 f219 f166 f63 f172 f292 f169 f294 f296 f177 f61 f65 f180 f27 f223 f239 f58) {n : Nat} {d : Dat} (h : Dat.ok P (n + 2) 292 d) : ∃ x : DAsker, d.cells = x.c false := by
  obtain ⟨ds, rfl, hh⟩ := dat_struct F.und292 h
  rw [F.fls292] at hh
  obtain ⟨d0, ds, rfl, k0, hh⟩ := DatAll.cons hh
  obtain ⟨d1, ds, rfl, k1, hh⟩ := DatAll.cons hh
  obtain rfl := DatAll.nil hh
  obtain ⟨x0, rfl, _⟩ := dat_int F.und3 k0
  obtain ⟨x1, rfl, _⟩ := dat_int F.und3 k1
  exact ⟨⟨x0, x1⟩, by simp [Dat.cells, Dat.cellsF, DAsker.c]⟩
theorem dat167 {P : Program} {f315 f304 f219 f166 f63 f172 f292 f169 f294 f296 f177 f61 f65 f180 f27 f223 f239 f58 : Array Field} (F : Facts P f315 f304 f219 f166 f63 f172 f292 f169 f294 f296 f177 f61 f65 f180 f27 f223 f239 f58) {n : Nat} {d : Dat} (h : Dat.ok P (n + 3) 167 d) : ∃ l : List DAsker, d.av = .vs false 2 false (l.map (DAsker.c false)) ∧ d.cells = [.vs false 2 false (l.map (DAsker.c false))] ∧ l.length ≤ maxLen := by
  obtain ⟨xs, rfl, hm, hx⟩ := dat_sl F.und167 h
  obtain ⟨zs, e1, e2, e3⟩ := dat_listQ (DAsker.c false) (fun _ => True) (fun d hd => by have := dat292 F hd; obtain ⟨x, hx⟩ := this; exact ⟨x, hx, trivial⟩) hx
  exact ⟨zs, by simp only [Dat.av, AM.sl, F.cel292, e2], by simp only [Dat.cells, AM.sl, F.cel292, e2], by omega⟩
theorem dat169 {P : Program} {f315 f304 f219 f166 f63 f172 f292 f169 f294 f296 f177 f61 f65 f180 f27 f223 f239 f58 : Array Field} (F : Facts P f315 f304 f219 f166 f63 f172 f292 f169 f294 f296 f177 f61 f65 f180 f27 f223 f239 f58) {n : Nat} {d : Dat} (h : Dat.ok P (n + 6) 169 d) : ∃ x : DEntity, d.cells = x.c false ∧ x.ok maxLen := by
  obtain ⟨ds, rfl, hh⟩ := dat_struct F.und169 h
  rw [F.fls169] at hh
  obtain ⟨d0, ds, rfl, k0, hh⟩ := DatAll.cons hh
  obtain ⟨d1, ds, rfl, k1, hh⟩ := DatAll.cons hh
  obtain ⟨d2, ds, rfl, k2, hh⟩ := DatAll.cons hh
  obtain ⟨d3, ds, rfl, k3, hh⟩ := DatAll.cons hh
  obtain ⟨d4, ds, rfl, k4, hh⟩ := DatAll.cons hh
  obtain ⟨d5, ds, rfl, k5, hh⟩ := DatAll.cons hh
  obtain ⟨d6, ds, rfl, k6, hh⟩ := DatAll.cons hh
  obtain ⟨d7, ds, rfl, k7, hh⟩ := DatAll.cons hh
  obtain ⟨d8, ds, rfl, k8, hh⟩ := DatAll.cons hh
  obtain ⟨d9, ds, rfl, k9, hh⟩ := DatAll.cons hh
  obtain ⟨d10, ds, rfl, k10, hh⟩ := DatAll.cons hh
  obtain rfl := DatAll.nil hh
  obtain ⟨x0, rfl, _⟩ := dat_int F.und3 k0
  obtain ⟨x1, rfl, _⟩ := dat_int F.und3 k1
  obtain ⟨x2, _, e2, q2⟩ := dat165 F k2
  obtain ⟨x3, rfl, _⟩ := dat_int F.und3 k3
  obtain ⟨x4, e4⟩ := dat166 F k4
  obtain ⟨x5, _, e5, q5, r5⟩ := dat23 F k5
  obtain ⟨x6, _, e6, q6⟩ := dat167 F k6
  obtain ⟨x7, rfl, _⟩ := dat_int F.und3 k7
  obtain ⟨x8, rfl, _⟩ := dat_int F.und3 k8
  obtain ⟨x9, rfl, _⟩ := dat_int F.und3 k9
  obtain ⟨x10, rfl, _⟩ := dat_int F.und3 k10
  exact ⟨⟨x0, x1, x2, x3, x4, x5, x6, x7, x8, x9, x10⟩, by simp [Dat.cells, Dat.cellsF, e2, e4, e5, e6, DEntity.c, DValue.c], ⟨q2, q5, r5, q6⟩⟩
theorem dat22 {P : Program} {f315 f304 f219 f166 f63 f172 f292 f169 f294 f296 f177 f61 f65 f180 f27 f223 f239 f58 : Array Field} (F : Facts P f315 f304 f219 f166 f63 f172 f292 f169 f294 f296 f177 f61 f65 f180 f27 f223 f239 f58) {n : Nat} {d : Dat} (h : Dat.ok P (n + 7) 22 d) : ∃ l : List DEntity, d.av = .vs false 12 false (l.map (DEntity.c false)) ∧ d.cells = [.vs false 12 false (l.map (DEntity.c false))] ∧ l.length ≤ maxLen ∧ ∀ x ∈ l, x.ok maxLen := by
  obtain ⟨xs, rfl, hm, hx⟩ := dat_sl F.und22 h
  obtain ⟨zs, e1, e2, e3⟩ := dat_listQ (DEntity.c false) (DEntity.ok maxLen) (fun d hd => by have := dat169 F hd; exact this) hx
  exact ⟨zs, by simp only [Dat.av, AM.sl, F.cel169, e2], by simp only [Dat.cells, AM.sl, F.cel169, e2], by omega, e3⟩
theorem dat294 {P : Program} {f315 f304 f219 f166 f63 f172 f292 f169 f294 f296 f177 f61 f65 f180 f27 f223 f239 f58 : Array Field} (F : Facts P f315 f304 f219 f166 f63 f172 f292 f169 f294 f296 f177 f61 f65 f180 f27 f223 f239 f58) {n : Nat} {d : Dat} (h : Dat.ok P (n + 2) 294 d) : ∃ x : DExport, d.cells = x.c false := by
  obtain ⟨ds, rfl, hh⟩ := dat_struct F.und294 h
  rw [F.fls294] at hh
  obtain ⟨d0, ds, rfl, k0, hh⟩ := DatAll.cons hh
  obtain ⟨d1, ds, rfl, k1, hh⟩ := DatAll.cons hh
  obtain ⟨d2, ds, rfl, k2, hh⟩ := DatAll.cons hh
  obtain rfl := DatAll.nil hh
  obtain ⟨x0, rfl, _⟩ := dat_int F.und3 k0
  obtain ⟨x1, rfl, _⟩ := dat_int F.und3 k1
  obtain ⟨x2, rfl, _⟩ := dat_int F.und3 k2
  exact ⟨⟨x0, x1, x2⟩, by simp [Dat.cells, Dat.cellsF, DExport.c]⟩
theorem dat174 {P : Program} {f315 f304 f219 f166 f63 f172 f292 f169 f294 f296 f177 f61 f65 f180 f27 f223 f239 f58 : Array Field} (F : Facts P f315 f304 f219 f166 f63 f172 f292 f169 f294 f296 f177 f61 f65 f180 f27 f223 f239 f58) {n : Nat} {d : Dat} (h : Dat.ok P (n + 3) 174 d) : ∃ l : List DExport, d.av = .vs false 3 false (l.map (DExport.c false)) ∧ d.cells = [.vs false 3 false (l.map (DExport.c false))] ∧ l.length ≤ maxLen := by
  obtain ⟨xs, rfl, hm, hx⟩ := dat_sl F.und174 h
  obtain ⟨zs, e1, e2, e3⟩ := dat_listQ (DExport.c false) (fun _ => True) (fun d hd => by have := dat294 F hd; obtain ⟨x, hx⟩ := this; exact ⟨x, hx, trivial⟩) hx
  exact ⟨zs, by simp only [Dat.av, AM.sl, F.cel294, e2], by simp only [Dat.cells, AM.sl, F.cel294, e2], by omega⟩
theorem dat296 {P : Program} {f315 f304 f219 f166 f63 f172 f292 f169 f294 f296 f177 f61 f65 f180 f27 f223 f239 f58 : Array Field} (F : Facts P f315 f304 f219 f166 f63 f172 f292 f169 f294 f296 f177 f61 f65 f180 f27 f223 f239 f58) {n : Nat} {d : Dat} (h : Dat.ok P (n + 2) 296 d) : ∃ x : DQuestion, d.cells = x.c false := by
  obtain ⟨ds, rfl, hh⟩ := dat_struct F.und296 h
  rw [F.fls296] at hh
  obtain ⟨d0, ds, rfl, k0, hh⟩ := DatAll.cons hh
  obtain ⟨d1, ds, rfl, k1, hh⟩ := DatAll.cons hh
  obtain rfl := DatAll.nil hh
  obtain ⟨x0, rfl, _⟩ := dat_int F.und3 k0
  obtain ⟨x1, rfl, _⟩ := dat_int F.und3 k1
  exact ⟨⟨x0, x1⟩, by simp [Dat.cells, Dat.cellsF, DQuestion.c]⟩
theorem dat175 {P : Program} {f315 f304 f219 f166 f63 f172 f292 f169 f294 f296 f177 f61 f65 f180 f27 f223 f239 f58 : Array Field} (F : Facts P f315 f304 f219 f166 f63 f172 f292 f169 f294 f296 f177 f61 f65 f180 f27 f223 f239 f58) {n : Nat} {d : Dat} (h : Dat.ok P (n + 3) 175 d) : ∃ l : List DQuestion, d.av = .vs false 2 false (l.map (DQuestion.c false)) ∧ d.cells = [.vs false 2 false (l.map (DQuestion.c false))] ∧ l.length ≤ maxLen := by
  obtain ⟨xs, rfl, hm, hx⟩ := dat_sl F.und175 h
  obtain ⟨zs, e1, e2, e3⟩ := dat_listQ (DQuestion.c false) (fun _ => True) (fun d hd => by have := dat296 F hd; obtain ⟨x, hx⟩ := this; exact ⟨x, hx, trivial⟩) hx
  exact ⟨zs, by simp only [Dat.av, AM.sl, F.cel296, e2], by simp only [Dat.cells, AM.sl, F.cel296, e2], by omega⟩
theorem dat177 {P : Program} {f315 f304 f219 f166 f63 f172 f292 f169 f294 f296 f177 f61 f65 f180 f27 f223 f239 f58 : Array Field} (F : Facts P f315 f304 f219 f166 f63 f172 f292 f169 f294 f296 f177 f61 f65 f180 f27 f223 f239 f58) {n : Nat} {d : Dat} (h : Dat.ok P (n + 4) 177 d) : ∃ x : DLink, d.cells = x.c false ∧ x.ok maxLen := by
  obtain ⟨ds, rfl, hh⟩ := dat_struct F.und177 h
  rw [F.fls177] at hh
  obtain ⟨d0, ds, rfl, k0, hh⟩ := DatAll.cons hh
  obtain ⟨d1, ds, rfl, k1, hh⟩ := DatAll.cons hh
  obtain ⟨d2, ds, rfl, k2, hh⟩ := DatAll.cons hh
  obtain ⟨d3, ds, rfl, k3, hh⟩ := DatAll.cons hh
  obtain ⟨d4, ds, rfl, k4, hh⟩ := DatAll.cons hh
  obtain ⟨d5, ds, rfl, k5, hh⟩ := DatAll.cons hh
  obtain ⟨d6, ds, rfl, k6, hh⟩ := DatAll.cons hh
  obtain rfl := DatAll.nil hh
  obtain ⟨x0, rfl, _⟩ := dat_int F.und3 k0
  obtain ⟨x1, rfl⟩ := dat_bool F.und4 k1
  obtain ⟨x2, _, e2, q2⟩ := dat174 F k2
  obtain ⟨x3, rfl, _⟩ := dat_int F.und3 k3
  obtain ⟨x4, _, e4, q4⟩ := dat175 F k4
  obtain ⟨x5, rfl, _⟩ := dat_int F.und3 k5
  obtain ⟨x6, _, e6, q6⟩ := dat175 F k6
  exact ⟨⟨x0, x1, x2, x3, x4, x5, x6⟩, by simp [Dat.cells, Dat.cellsF, e2, e4, e6, DLink.c], ⟨q2, q4, q6⟩⟩
theorem dat24 {P : Program} {f315 f304 f219 f166 f63 f172 f292 f169 f294 f296 f177 f61 f65 f180 f27 f223 f239 f58 : Array Field} (F : Facts P f315 f304 f219 f166 f63 f172 f292 f169 f294 f296 f177 f61 f65 f180 f27 f223 f239 f58) {n : Nat} {d : Dat} (h : Dat.ok P (n + 5) 24 d) : ∃ l : List DLink, d.av = .vs false 7 false (l.map (DLink.c false)) ∧ d.cells = [.vs false 7 false (l.map (DLink.c false))] ∧ l.length ≤ maxLen ∧ ∀ x ∈ l, x.ok maxLen := by
  obtain ⟨xs, rfl, hm, hx⟩ := dat_sl F.und24 h
  obtain ⟨zs, e1, e2, e3⟩ := dat_listQ (DLink.c false) (DLink.ok maxLen) (fun d hd => by have := dat177 F hd; exact this) hx
  exact ⟨zs, by simp only [Dat.av, AM.sl, F.cel177, e2], by simp only [Dat.cells, AM.sl, F.cel177, e2], by omega, e3⟩
theorem dat61 {P : Program} {f315 f304 f219 f166 f63 f172 f292 f169 f294 f296 f177 f61 f65 f180 f27 f223 f239 f58 : Array Field} (F : Facts P f315 f304 f219 f166 f63 f172 f292 f169 f294 f296 f177 f61 f65 f180 f27 f223 f239 f58) {n : Nat} {d : Dat} (h : Dat.ok P (n + 2) 61 d) : ∃ x : DWire, d.cells = x.c false := by
  obtain ⟨ds, rfl, hh⟩ := dat_struct F.und61 h
  rw [F.fls61] at hh
  obtain ⟨d0, ds, rfl, k0, hh⟩ := DatAll.cons hh
  obtain ⟨d1, ds, rfl, k1, hh⟩ := DatAll.cons hh
  obtain rfl := DatAll.nil hh
  obtain ⟨x0, rfl, _⟩ := dat_int F.und3 k0
  obtain ⟨x1, rfl, _⟩ := dat_int F.und3 k1
  exact ⟨⟨x0, x1⟩, by simp [Dat.cells, Dat.cellsF, DWire.c]⟩
theorem dat59 {P : Program} {f315 f304 f219 f166 f63 f172 f292 f169 f294 f296 f177 f61 f65 f180 f27 f223 f239 f58 : Array Field} (F : Facts P f315 f304 f219 f166 f63 f172 f292 f169 f294 f296 f177 f61 f65 f180 f27 f223 f239 f58) {n : Nat} {d : Dat} (h : Dat.ok P (n + 3) 59 d) : ∃ l : List DWire, d.av = .vs false 2 false (l.map (DWire.c false)) ∧ d.cells = [.vs false 2 false (l.map (DWire.c false))] ∧ l.length ≤ maxLen := by
  obtain ⟨xs, rfl, hm, hx⟩ := dat_sl F.und59 h
  obtain ⟨zs, e1, e2, e3⟩ := dat_listQ (DWire.c false) (fun _ => True) (fun d hd => by have := dat61 F hd; obtain ⟨x, hx⟩ := this; exact ⟨x, hx, trivial⟩) hx
  exact ⟨zs, by simp only [Dat.av, AM.sl, F.cel61, e2], by simp only [Dat.cells, AM.sl, F.cel61, e2], by omega⟩
theorem dat65 {P : Program} {f315 f304 f219 f166 f63 f172 f292 f169 f294 f296 f177 f61 f65 f180 f27 f223 f239 f58 : Array Field} (F : Facts P f315 f304 f219 f166 f63 f172 f292 f169 f294 f296 f177 f61 f65 f180 f27 f223 f239 f58) {n : Nat} {d : Dat} (h : Dat.ok P (n + 4) 65 d) : ∃ x : DMessage, d.cells = x.c false ∧ x.ok maxLen := by
  obtain ⟨ds, rfl, hh⟩ := dat_struct F.und65 h
  rw [F.fls65] at hh
  obtain ⟨d0, ds, rfl, k0, hh⟩ := DatAll.cons hh
  obtain ⟨d1, ds, rfl, k1, hh⟩ := DatAll.cons hh
  obtain ⟨d2, ds, rfl, k2, hh⟩ := DatAll.cons hh
  obtain ⟨d3, ds, rfl, k3, hh⟩ := DatAll.cons hh
  obtain ⟨d4, ds, rfl, k4, hh⟩ := DatAll.cons hh
  obtain ⟨d5, ds, rfl, k5, hh⟩ := DatAll.cons hh
  obtain ⟨d6, ds, rfl, k6, hh⟩ := DatAll.cons hh
  obtain ⟨d7, ds, rfl, k7, hh⟩ := DatAll.cons hh
  obtain ⟨d8, ds, rfl, k8, hh⟩ := DatAll.cons hh
  obtain rfl := DatAll.nil hh
  obtain ⟨x0, rfl, _⟩ := dat_int F.und3 k0
  obtain ⟨x1, rfl, _⟩ := dat_int F.und3 k1
  obtain ⟨x2, rfl, _⟩ := dat_int F.und3 k2
  obtain ⟨x3, rfl, _⟩ := dat_int F.und3 k3
  obtain ⟨x4, rfl, q4⟩ := dat_str F.und9 k4
  obtain ⟨x5, _, e5, q5⟩ := dat59 F k5
  obtain ⟨x6, e6⟩ := dat61 F k6
  obtain ⟨x7, rfl, _⟩ := dat_int F.und3 k7
  obtain ⟨x8, e8⟩ := dat63 F k8
  exact ⟨⟨x0, x1, x2, x3, x4, x5, x6, x7, x8⟩, by simp [Dat.cells, Dat.cellsF, e5, e6, e8, DMessage.c, DTag.c, DWire.c], ⟨q4, q5⟩⟩
theorem dat180 {P : Program} {f315 f304 f219 f166 f63 f172 f292 f169 f294 f296 f177 f61 f65 f180 f27 f223 f239 f58 : Array Field} (F : Facts P f315 f304 f219 f166 f63 f172 f292 f169 f294 f296 f177 f61 f65 f180 f27 f223 f239 f58) {n : Nat} {d : Dat} (h : Dat.ok P (n + 5) 180 d) : ∃ x : DOutgoing, d.cells = x.c false ∧ x.ok maxLen := by
  obtain ⟨ds, rfl, hh⟩ := dat_struct F.und180 h
  rw [F.fls180] at hh
  obtain ⟨d0, ds, rfl, k0, hh⟩ := DatAll.cons hh
  obtain ⟨d1, ds, rfl, k1, hh⟩ := DatAll.cons hh
  obtain rfl := DatAll.nil hh
  obtain ⟨x0, rfl, _⟩ := dat_int F.und3 k0
  obtain ⟨x1, e1, q1⟩ := dat65 F k1
  exact ⟨⟨x0, x1⟩, by simp [Dat.cells, Dat.cellsF, e1, DOutgoing.c, DMessage.c], q1⟩
theorem dat25 {P : Program} {f315 f304 f219 f166 f63 f172 f292 f169 f294 f296 f177 f61 f65 f180 f27 f223 f239 f58 : Array Field} (F : Facts P f315 f304 f219 f166 f63 f172 f292 f169 f294 f296 f177 f61 f65 f180 f27 f223 f239 f58) {n : Nat} {d : Dat} (h : Dat.ok P (n + 6) 25 d) : ∃ l : List DOutgoing, d.av = .vs false 13 false (l.map (DOutgoing.c false)) ∧ d.cells = [.vs false 13 false (l.map (DOutgoing.c false))] ∧ l.length ≤ maxLen ∧ ∀ x ∈ l, x.ok maxLen := by
  obtain ⟨xs, rfl, hm, hx⟩ := dat_sl F.und25 h
  obtain ⟨zs, e1, e2, e3⟩ := dat_listQ (DOutgoing.c false) (DOutgoing.ok maxLen) (fun d hd => by have := dat180 F hd; exact this) hx
  exact ⟨zs, by simp only [Dat.av, AM.sl, F.cel180, e2], by simp only [Dat.cells, AM.sl, F.cel180, e2], by omega, e3⟩
theorem dat27 {P : Program} {f315 f304 f219 f166 f63 f172 f292 f169 f294 f296 f177 f61 f65 f180 f27 f223 f239 f58 : Array Field} (F : Facts P f315 f304 f219 f166 f63 f172 f292 f169 f294 f296 f177 f61 f65 f180 f27 f223 f239 f58) {n : Nat} {d : Dat} (h : Dat.ok P (n + 8) 27 d) : ∃ x : DVat, d.cells = x.c false ∧ x.ok maxLen := by
  obtain ⟨ds, rfl, hh⟩ := dat_struct F.und27 h
  rw [F.fls27] at hh
  obtain ⟨d0, ds, rfl, k0, hh⟩ := DatAll.cons hh
  obtain ⟨d1, ds, rfl, k1, hh⟩ := DatAll.cons hh
  obtain ⟨d2, ds, rfl, k2, hh⟩ := DatAll.cons hh
  obtain ⟨d3, ds, rfl, k3, hh⟩ := DatAll.cons hh
  obtain ⟨d4, ds, rfl, k4, hh⟩ := DatAll.cons hh
  obtain rfl := DatAll.nil hh
  obtain ⟨x0, rfl, _⟩ := dat_int F.und3 k0
  obtain ⟨x1, _, e1, q1, r1⟩ := dat22 F k1
  obtain ⟨x2, _, e2, q2, r2⟩ := dat23 F k2
  obtain ⟨x3, _, e3, q3, r3⟩ := dat24 F k3
  obtain ⟨x4, _, e4, q4, r4⟩ := dat25 F k4
  exact ⟨⟨x0, x1, x2, x3, x4⟩, by simp [Dat.cells, Dat.cellsF, e1, e2, e3, e4, DVat.c], ⟨q1, r1, q2, r2, q3, r3, q4, r4⟩⟩
theorem dat54 {P : Program} {f315 f304 f219 f166 f63 f172 f292 f169 f294 f296 f177 f61 f65 f180 f27 f223 f239 f58 : Array Field} (F : Facts P f315 f304 f219 f166 f63 f172 f292 f169 f294 f296 f177 f61 f65 f180 f27 f223 f239 f58) {n : Nat} {d : Dat} (h : Dat.ok P (n + 9) 54 d) : ∃ l : List DVat, d.av = .vs false 5 false (l.map (DVat.c false)) ∧ d.cells = [.vs false 5 false (l.map (DVat.c false))] ∧ l.length ≤ maxLen ∧ ∀ x ∈ l, x.ok maxLen := by
  obtain ⟨xs, rfl, hm, hx⟩ := dat_sl F.und54 h
  obtain ⟨zs, e1, e2, e3⟩ := dat_listQ (DVat.c false) (DVat.ok maxLen) (fun d hd => by have := dat27 F hd; exact this) hx
  exact ⟨zs, by simp only [Dat.av, AM.sl, F.cel27, e2], by simp only [Dat.cells, AM.sl, F.cel27, e2], by omega, e3⟩
theorem dat221 {P : Program} {f315 f304 f219 f166 f63 f172 f292 f169 f294 f296 f177 f61 f65 f180 f27 f223 f239 f58 : Array Field} (F : Facts P f315 f304 f219 f166 f63 f172 f292 f169 f294 f296 f177 f61 f65 f180 f27 f223 f239 f58) {n : Nat} {d : Dat} (h : Dat.ok P (n + 5) 221 d) : ∃ l : List DMessage, d.av = .vs false 12 false (l.map (DMessage.c false)) ∧ d.cells = [.vs false 12 false (l.map (DMessage.c false))] ∧ l.length ≤ maxLen ∧ ∀ x ∈ l, x.ok maxLen := by
  obtain ⟨xs, rfl, hm, hx⟩ := dat_sl F.und221 h
  obtain ⟨zs, e1, e2, e3⟩ := dat_listQ (DMessage.c false) (DMessage.ok maxLen) (fun d hd => by have := dat65 F hd; exact this) hx
  exact ⟨zs, by simp only [Dat.av, AM.sl, F.cel65, e2], by simp only [Dat.cells, AM.sl, F.cel65, e2], by omega, e3⟩
theorem dat223 {P : Program} {f315 f304 f219 f166 f63 f172 f292 f169 f294 f296 f177 f61 f65 f180 f27 f223 f239 f58 : Array Field} (F : Facts P f315 f304 f219 f166 f63 f172 f292 f169 f294 f296 f177 f61 f65 f180 f27 f223 f239 f58) {n : Nat} {d : Dat} (h : Dat.ok P (n + 6) 223 d) : ∃ x : DChannel, d.cells = x.c false ∧ x.ok maxLen := by
  obtain ⟨ds, rfl, hh⟩ := dat_struct F.und223 h
  rw [F.fls223] at hh
  obtain ⟨d0, ds, rfl, k0, hh⟩ := DatAll.cons hh
  obtain ⟨d1, ds, rfl, k1, hh⟩ := DatAll.cons hh
  obtain ⟨d2, ds, rfl, k2, hh⟩ := DatAll.cons hh
  obtain rfl := DatAll.nil hh
  obtain ⟨x0, rfl, _⟩ := dat_int F.und3 k0
  obtain ⟨x1, rfl, _⟩ := dat_int F.und3 k1
  obtain ⟨x2, _, e2, q2, r2⟩ := dat221 F k2
  exact ⟨⟨x0, x1, x2⟩, by simp [Dat.cells, Dat.cellsF, e2, DChannel.c], ⟨q2, r2⟩⟩
theorem dat55 {P : Program} {f315 f304 f219 f166 f63 f172 f292 f169 f294 f296 f177 f61 f65 f180 f27 f223 f239 f58 : Array Field} (F : Facts P f315 f304 f219 f166 f63 f172 f292 f169 f294 f296 f177 f61 f65 f180 f27 f223 f239 f58) {n : Nat} {d : Dat} (h : Dat.ok P (n + 7) 55 d) : ∃ l : List DChannel, d.av = .vs false 3 false (l.map (DChannel.c false)) ∧ d.cells = [.vs false 3 false (l.map (DChannel.c false))] ∧ l.length ≤ maxLen ∧ ∀ x ∈ l, x.ok maxLen := by
  obtain ⟨xs, rfl, hm, hx⟩ := dat_sl F.und55 h
  obtain ⟨zs, e1, e2, e3⟩ := dat_listQ (DChannel.c false) (DChannel.ok maxLen) (fun d hd => by have := dat223 F hd; exact this) hx
  exact ⟨zs, by simp only [Dat.av, AM.sl, F.cel223, e2], by simp only [Dat.cells, AM.sl, F.cel223, e2], by omega, e3⟩
theorem dat239 {P : Program} {f315 f304 f219 f166 f63 f172 f292 f169 f294 f296 f177 f61 f65 f180 f27 f223 f239 f58 : Array Field} (F : Facts P f315 f304 f219 f166 f63 f172 f292 f169 f294 f296 f177 f61 f65 f180 f27 f223 f239 f58) {n : Nat} {d : Dat} (h : Dat.ok P (n + 3) 239 d) : ∃ x : DNote, d.cells = x.c false := by
  obtain ⟨ds, rfl, hh⟩ := dat_struct F.und239 h
  rw [F.fls239] at hh
  obtain ⟨d0, ds, rfl, k0, hh⟩ := DatAll.cons hh
  obtain ⟨d1, ds, rfl, k1, hh⟩ := DatAll.cons hh
  obtain ⟨d2, ds, rfl, k2, hh⟩ := DatAll.cons hh
  obtain ⟨d3, ds, rfl, k3, hh⟩ := DatAll.cons hh
  obtain rfl := DatAll.nil hh
  obtain ⟨x0, rfl, _⟩ := dat_int F.und3 k0
  obtain ⟨x1, rfl, _⟩ := dat_int F.und3 k1
  obtain ⟨x2, rfl, _⟩ := dat_int F.und3 k2
  obtain ⟨x3, e3⟩ := dat63 F k3
  exact ⟨⟨x0, x1, x2, x3⟩, by simp [Dat.cells, Dat.cellsF, e3, DNote.c, DTag.c]⟩
theorem dat56 {P : Program} {f315 f304 f219 f166 f63 f172 f292 f169 f294 f296 f177 f61 f65 f180 f27 f223 f239 f58 : Array Field} (F : Facts P f315 f304 f219 f166 f63 f172 f292 f169 f294 f296 f177 f61 f65 f180 f27 f223 f239 f58) {n : Nat} {d : Dat} (h : Dat.ok P (n + 4) 56 d) : ∃ l : List DNote, d.av = .vs false 6 false (l.map (DNote.c false)) ∧ d.cells = [.vs false 6 false (l.map (DNote.c false))] ∧ l.length ≤ maxLen := by
  obtain ⟨xs, rfl, hm, hx⟩ := dat_sl F.und56 h
  obtain ⟨zs, e1, e2, e3⟩ := dat_listQ (DNote.c false) (fun _ => True) (fun d hd => by have := dat239 F hd; obtain ⟨x, hx⟩ := this; exact ⟨x, hx, trivial⟩) hx
  exact ⟨zs, by simp only [Dat.av, AM.sl, F.cel239, e2], by simp only [Dat.cells, AM.sl, F.cel239, e2], by omega⟩
theorem dat58 {P : Program} {f315 f304 f219 f166 f63 f172 f292 f169 f294 f296 f177 f61 f65 f180 f27 f223 f239 f58 : Array Field} (F : Facts P f315 f304 f219 f166 f63 f172 f292 f169 f294 f296 f177 f61 f65 f180 f27 f223 f239 f58) {n : Nat} {d : Dat} (h : Dat.ok P (n + 10) 58 d) : ∃ x : DWorld, d.cells = x.c false ∧ x.ok maxLen := by
  obtain ⟨ds, rfl, hh⟩ := dat_struct F.und58 h
  rw [F.fls58] at hh
  obtain ⟨d0, ds, rfl, k0, hh⟩ := DatAll.cons hh
  obtain ⟨d1, ds, rfl, k1, hh⟩ := DatAll.cons hh
  obtain ⟨d2, ds, rfl, k2, hh⟩ := DatAll.cons hh
  obtain ⟨d3, ds, rfl, k3, hh⟩ := DatAll.cons hh
  obtain ⟨d4, ds, rfl, k4, hh⟩ := DatAll.cons hh
  obtain rfl := DatAll.nil hh
  obtain ⟨x0, _, e0, q0, r0⟩ := dat53 F k0
  obtain ⟨x1, _, e1, q1, r1⟩ := dat54 F k1
  obtain ⟨x2, _, e2, q2, r2⟩ := dat55 F k2
  obtain ⟨x3, _, e3, q3⟩ := dat56 F k3
  obtain ⟨x4, rfl, _⟩ := dat_int F.und3 k4
  exact ⟨⟨x0, x1, x2, x3, x4⟩, by simp [Dat.cells, Dat.cellsF, e0, e1, e2, e3, DWorld.c], ⟨q0, r0, q1, r1, q2, r2, q3⟩⟩
theorem facts : Facts Tryz.prog gfl315 gfl304 gfl219 gfl166 gfl63 gfl172 gfl292 gfl169 gfl294 gfl296 gfl177 gfl61 gfl65 gfl180 gfl27 gfl223 gfl239 gfl58 := ⟨by kernel_rfl, by kernel_rfl, by kernel_rfl, by kernel_rfl, by kernel_rfl, by kernel_rfl, by kernel_rfl, by kernel_rfl, by kernel_rfl, by kernel_rfl, by kernel_rfl, by kernel_rfl, by kernel_rfl, by kernel_rfl, by kernel_rfl, by kernel_rfl, by kernel_rfl, by kernel_rfl, by kernel_rfl, by kernel_rfl, by kernel_rfl, by kernel_rfl, by kernel_rfl, by kernel_rfl, by kernel_rfl, by kernel_rfl, by kernel_rfl, by kernel_rfl, by kernel_rfl, by kernel_rfl, by kernel_rfl, by kernel_rfl, by kernel_rfl, by kernel_rfl, by kernel_rfl, by kernel_rfl, by kernel_rfl, by kernel_rfl, by kernel_rfl, by kernel_rfl, by kernel_rfl, by kernel_rfl, by kernel_rfl, by kernel_rfl, by kernel_rfl, by kernel_rfl, by kernel_rfl, by kernel_rfl, by kernel_rfl, by kernel_rfl, by kernel_rfl, by kernel_rfl, by kernel_rfl, by kernel_rfl, by kernel_rfl, by kernel_rfl, by kernel_rfl, by kernel_rfl, by kernel_rfl, by kernel_rfl, by kernel_rfl, by kernel_rfl, by kernel_rfl, by kernel_rfl, by kernel_rfl, by kernel_rfl, by kernel_rfl, by kernel_rfl, by kernel_rfl, by kernel_rfl, by kernel_rfl⟩
set_option maxRecDepth 100000 in
theorem fnExactForgeIn_walk (ds : List Dat) (h : DatAll Tryz.prog 10 Tryz.f6.params.toList ds) : T Tryz.prog (fun _ => none) 6 (ds.map Dat.av) [] fun v _ => v = .bool true := by
  have hp : Tryz.f6.params.toList = [58, 3, 3, 65] := by kernel_rfl
  obtain ⟨d0, ds, rfl, k0, h⟩ := DatAll.cons (hp ▸ h : DatAll Tryz.prog 10 [58, 3, 3, 65] ds)
  obtain ⟨d1, ds, rfl, k1, h⟩ := DatAll.cons h
  obtain ⟨d2, ds, rfl, k2, h⟩ := DatAll.cons h
  obtain ⟨d3, ds, rfl, k3, h⟩ := DatAll.cons h
  obtain rfl := DatAll.nil h
  obtain ⟨x0, c0, q0⟩ := dat58 facts (n := 0) k0
  have e0 : d0.av = .agg (x0.c false) := dat_agg facts.und58 k0 c0
  obtain ⟨x1, rfl, w1⟩ := dat_int (n := 9) facts.und3 k1
  obtain ⟨x2, rfl, w2⟩ := dat_int (n := 9) facts.und3 k2
  obtain ⟨x3, c3, q3⟩ := dat65 facts (n := 6) k3
  have e3 : d3.av = .agg (x3.c false) := dat_agg facts.und65 k3 c3
  have := law_ForgeIn (Γ := fun _ => none) x0 q0 x1 x2 x3 q3 []
  rw [← e0, ← e3] at this
  exact this.mono fun v h' hv => hv.1
set_option maxRecDepth 100000 in
theorem fnExactForgeIn_lifted (os : Os) (started : os.Started) (H : Type) (enc : TypeId × Value → H) :
    ReturnsInHanded {} Tryz.checked os 6 .any (Rows.fnExactForgeInSpec.pre6 enc Tryz.prog Tryz.f6 Rows.fnExactForgeInRow.domain false) (Rows.fnExactForgeInSpec.post enc Tryz.prog Tryz.f6 false true false false) := by
  refine returnsInHanded_of_change (C := Tryz.checked) own started (by kernel_rfl) Tryz.func6
    (ChangeSpec.witness6 (enc := enc) (C := Tryz.checked) false ⟨#[], #[.agg #[.slice none 0 0, .slice none 0 0, .slice none 0 0, .slice none 0 0, .int .i64 0], .int .i64 0, .int .i64 0, .agg #[.int .i64 0, .int .i64 0, .int .i64 0, .int .i64 0, .string ⟨#[]⟩, .slice none 0 0, .int .i64 0, .int .i64 0, .int .i64 0, .int .i64 0, .int .i64 0, .int .i64 0]], []⟩ 13 (by kernel_rfl) (by kernel_rfl) (by kernel_rfl) (by kernel_rfl)) ?_
  intro W base args ds gs before hval hW hcnd _
  refine law_post (n := 10) (tb := 4) (by decide +kernel) rfl (by kernel_rfl) (by kernel_rfl) (fun xs hx => ?_) fnExactForgeIn_walk hval hW
  have hp : Tryz.f6.params.toList.length = 4 := by kernel_rfl
  rw [hp] at hx
  match xs, hx with
  | [_, _, _, _], _ => rfl
theorem fnExactForgeIn_over : Rows.fnExactForgeInRow.holds Tryz.pinned (OpenSpec.ofChange Rows.fnExactForgeInSpec) :=
  OpenClaim.holds_of_wide 6 Tryz.f6 rfl rfl rfl rfl rfl rfl rfl ⟨rfl, rfl, rfl, rfl, rfl⟩ rfl rfl rfl rfl rfl (by kernel_rfl) Tryz.func6 fnExactForgeIn_closed
    (of_decide_eq_true (by kernel_rfl)) (by unfold Func.isWrapper; first | (rw [if_pos (by decide +kernel)]; kernel_rfl) | (rw [if_neg (by decide +kernel)]; exact ⟨rfl, rfl⟩))
    (fun os started H enc _ => fnExactForgeIn_lifted os started H enc)
theorem fnExactForgeIn_proved : Rows.FnExactForgeInSaid := fnExactForgeIn_over
#print axioms fnExactForgeIn_proved
end Go.Proofs.YtleddolmolkpfaaGreat
