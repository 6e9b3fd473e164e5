/- The law FnExactIsVat returns true at every input, and its arguments read behind the call as before. Conditions: none beyond the given row's. -/
import Derived.Test.YtleddolmolkpfaaRows
import Derived.WalkKit
import Derived.ProofKit
import Derived.OpenShut
import Derived.Test.YtleddolmolkpfaaAmTop
import Derived.Test.YtleddolmolkpfaaR4LIsVat
set_option linter.unusedVariables false
set_option linter.unusedSimpArgs false
namespace Go.Proofs.Ytleddolmolkpfaa
open Go.AM
open Go.ChangeShapes Go.WideShapes Go.ChangeAt Go.RowKit
set_option linter.unusedVariables false
theorem own : ownKnob Try.prog.godebug = none := by kernel_rfl
noncomputable def gfl100 : Array Field := match Try.prog.underlying 100 with | some (.struct fs) => fs | _ => #[]
noncomputable def gfl106 : Array Field := match Try.prog.underlying 106 with | some (.struct fs) => fs | _ => #[]
noncomputable def gfl108 : Array Field := match Try.prog.underlying 108 with | some (.struct fs) => fs | _ => #[]
noncomputable def gfl177 : Array Field := match Try.prog.underlying 177 with | some (.struct fs) => fs | _ => #[]
noncomputable def gfl103 : Array Field := match Try.prog.underlying 103 with | some (.struct fs) => fs | _ => #[]
noncomputable def gfl179 : Array Field := match Try.prog.underlying 179 with | some (.struct fs) => fs | _ => #[]
noncomputable def gfl181 : Array Field := match Try.prog.underlying 181 with | some (.struct fs) => fs | _ => #[]
noncomputable def gfl113 : Array Field := match Try.prog.underlying 113 with | some (.struct fs) => fs | _ => #[]
noncomputable def gfl116 : Array Field := match Try.prog.underlying 116 with | some (.struct fs) => fs | _ => #[]
noncomputable def gfl118 : Array Field := match Try.prog.underlying 118 with | some (.struct fs) => fs | _ => #[]
noncomputable def gfl120 : Array Field := match Try.prog.underlying 120 with | some (.struct fs) => fs | _ => #[]
noncomputable def gfl41 : Array Field := match Try.prog.underlying 41 with | some (.struct fs) => fs | _ => #[]
structure Facts (P : Program) (f100 f106 f108 f177 f103 f179 f181 f113 f116 f118 f120 f41 : Array Field) : Prop where
  und3 : P.underlying 3 = some (.int .i64)
  und100 : P.underlying 100 = some (.struct f100)
  fls100 : f100.toList.map (·.type) = [3, 3]
  und99 : P.underlying 99 = some (.slice 100)
  cel100 : P.cellsOf 100 = 2
  und9 : P.underlying 9 = some .string
  und106 : P.underlying 106 = some (.struct f106)
  fls106 : f106.toList.map (·.type) = [3, 3, 3]
  und108 : P.underlying 108 = some (.struct f108)
  fls108 : f108.toList.map (·.type) = [3, 9, 99, 3, 106]
  und37 : P.underlying 37 = some (.slice 108)
  cel108 : P.cellsOf 108 = 7
  und177 : P.underlying 177 = some (.struct f177)
  fls177 : f177.toList.map (·.type) = [3, 3]
  und101 : P.underlying 101 = some (.slice 177)
  cel177 : P.cellsOf 177 = 2
  und103 : P.underlying 103 = some (.struct f103)
  fls103 : f103.toList.map (·.type) = [3, 3, 99, 3, 100, 37, 101, 3, 3, 3, 3]
  und36 : P.underlying 36 = some (.slice 103)
  cel103 : P.cellsOf 103 = 12
  und4 : P.underlying 4 = some .bool
  und179 : P.underlying 179 = some (.struct f179)
  fls179 : f179.toList.map (·.type) = [3, 3, 3]
  und110 : P.underlying 110 = some (.slice 179)
  cel179 : P.cellsOf 179 = 3
  und181 : P.underlying 181 = some (.struct f181)
  fls181 : f181.toList.map (·.type) = [3, 3]
  und111 : P.underlying 111 = some (.slice 181)
  cel181 : P.cellsOf 181 = 2
  und113 : P.underlying 113 = some (.struct f113)
  fls113 : f113.toList.map (·.type) = [3, 4, 110, 3, 111, 3, 111]
  und38 : P.underlying 38 = some (.slice 113)
  cel113 : P.cellsOf 113 = 7
  und116 : P.underlying 116 = some (.struct f116)
  fls116 : f116.toList.map (·.type) = [3, 3]
  und115 : P.underlying 115 = some (.slice 116)
  cel116 : P.cellsOf 116 = 2
  und118 : P.underlying 118 = some (.struct f118)
  fls118 : f118.toList.map (·.type) = [3, 3, 3, 3, 9, 115, 116, 3, 106]
  und120 : P.underlying 120 = some (.struct f120)
  fls120 : f120.toList.map (·.type) = [3, 118]
  und39 : P.underlying 39 = some (.slice 120)
  cel120 : P.cellsOf 120 = 13
  und41 : P.underlying 41 = some (.struct f41)
  fls41 : f41.toList.map (·.type) = [3, 36, 37, 38, 39]
theorem dat100 {P : Program} {f100 f106 f108 f177 f103 f179 f181 f113 f116 f118 f120 f41 : Array Field} (F : Facts P f100 f106 f108 f177 f103 f179 f181 f113 f116 f118 f120 f41) {n : Nat} {d : Dat} (h : Dat.ok P (n + 2) 100 d) : ∃ x : DValue, d.cells = x.c false := by
  obtain ⟨ds, rfl, hh⟩ := dat_struct F.und100 h
  rw [F.fls100] at hh
  obtain ⟨d0, ds, rfl, k0, hh⟩ := DatAll.cons hh
  obtain ⟨d1, ds, rfl, k1, hh⟩ := DatAll.cons hh
  obtain rfl := DatAll.nil hh
  obtain ⟨x0, rfl, _⟩ := dat_int F.und3 k0
  obtain ⟨x1, rfl, _⟩ := dat_int F.und3 k1
  exact ⟨⟨x0, x1⟩, by simp [Dat.cells, Dat.cellsF, DValue.c]⟩
theorem dat99 {P : Program} {f100 f106 f108 f177 f103 f179 f181 f113 f116 f118 f120 f41 : Array Field} (F : Facts P f100 f106 f108 f177 f103 f179 f181 f113 f116 f118 f120 f41) {n : Nat} {d : Dat} (h : Dat.ok P (n + 3) 99 d) : ∃ l : List DValue, d.av = .vs false 2 false (l.map (DValue.c false)) ∧ d.cells = [.vs false 2 false (l.map (DValue.c false))] ∧ l.length ≤ maxLen := by
  obtain ⟨xs, rfl, hm, hx⟩ := dat_sl F.und99 h
  obtain ⟨zs, e1, e2, e3⟩ := dat_listQ (DValue.c false) (fun _ => True) (fun d hd => by have := dat100 F hd; obtain ⟨x, hx⟩ := this; exact ⟨x, hx, trivial⟩) hx
  exact ⟨zs, by simp only [Dat.av, AM.sl, F.cel100, e2], by simp only [Dat.cells, AM.sl, F.cel100, e2], by omega⟩
theorem dat106 {P : Program} {f100 f106 f108 f177 f103 f179 f181 f113 f116 f118 f120 f41 : Array Field} (F : Facts P f100 f106 f108 f177 f103 f179 f181 f113 f116 f118 f120 f41) {n : Nat} {d : Dat} (h : Dat.ok P (n + 2) 106 d) : ∃ x : DTag, d.cells = x.c false := by
  obtain ⟨ds, rfl, hh⟩ := dat_struct F.und106 h
  rw [F.fls106] at hh
  obtain ⟨d0, ds, rfl, k0, hh⟩ := DatAll.cons hh
  obtain ⟨d1, ds, rfl, k1, hh⟩ := DatAll.cons hh
  obtain ⟨d2, ds, rfl, k2, hh⟩ := DatAll.cons hh
  obtain rfl := DatAll.nil hh
  obtain ⟨x0, rfl, _⟩ := dat_int F.und3 k0
  obtain ⟨x1, rfl, _⟩ := dat_int F.und3 k1
  obtain ⟨x2, rfl, _⟩ := dat_int F.und3 k2
  exact ⟨⟨x0, x1, x2⟩, by simp [Dat.cells, Dat.cellsF, DTag.c]⟩
theorem dat108 {P : Program} {f100 f106 f108 f177 f103 f179 f181 f113 f116 f118 f120 f41 : Array Field} (F : Facts P f100 f106 f108 f177 f103 f179 f181 f113 f116 f118 f120 f41) {n : Nat} {d : Dat} (h : Dat.ok P (n + 4) 108 d) : ∃ x : DSent, d.cells = x.c false ∧ x.ok maxLen := by
  obtain ⟨ds, rfl, hh⟩ := dat_struct F.und108 h
  rw [F.fls108] at hh
  obtain ⟨d0, ds, rfl, k0, hh⟩ := DatAll.cons hh
  obtain ⟨d1, ds, rfl, k1, hh⟩ := DatAll.cons hh
  obtain ⟨d2, ds, rfl, k2, hh⟩ := DatAll.cons hh
  obtain ⟨d3, ds, rfl, k3, hh⟩ := DatAll.cons hh
  obtain ⟨d4, ds, rfl, k4, hh⟩ := DatAll.cons hh
  obtain rfl := DatAll.nil hh
  obtain ⟨x0, rfl, _⟩ := dat_int F.und3 k0
  obtain ⟨x1, rfl, q1⟩ := dat_str F.und9 k1
  obtain ⟨x2, _, e2, q2⟩ := dat99 F k2
  obtain ⟨x3, rfl, _⟩ := dat_int F.und3 k3
  obtain ⟨x4, e4⟩ := dat106 F k4
  exact ⟨⟨x0, x1, x2, x3, x4⟩, by simp [Dat.cells, Dat.cellsF, e2, e4, DSent.c, DTag.c], ⟨q1, q2⟩⟩
theorem dat37 {P : Program} {f100 f106 f108 f177 f103 f179 f181 f113 f116 f118 f120 f41 : Array Field} (F : Facts P f100 f106 f108 f177 f103 f179 f181 f113 f116 f118 f120 f41) {n : Nat} {d : Dat} (h : Dat.ok P (n + 5) 37 d) : ∃ l : List DSent, d.av = .vs false 7 false (l.map (DSent.c false)) ∧ d.cells = [.vs false 7 false (l.map (DSent.c false))] ∧ l.length ≤ maxLen ∧ ∀ x ∈ l, x.ok maxLen := by
  obtain ⟨xs, rfl, hm, hx⟩ := dat_sl F.und37 h
  obtain ⟨zs, e1, e2, e3⟩ := dat_listQ (DSent.c false) (DSent.ok maxLen) (fun d hd => by have := dat108 F hd; exact this) hx
  exact ⟨zs, by simp only [Dat.av, AM.sl, F.cel108, e2], by simp only [Dat.cells, AM.sl, F.cel108, e2], by omega, e3⟩
theorem dat177 {P : Program} {f100 f106 f108 f177 f103 f179 f181 f113 f116 f118 f120 f41 : Array Field} (F : Facts P f100 f106 f108 f177 f103 f179 f181 f113 f116 f118 f120 f41) {n : Nat} {d : Dat} (h : Dat.ok P (n + 2) 177 d) : ∃ x : DAsker, d.cells = x.c false := by
  obtain ⟨ds, rfl, hh⟩ := dat_struct F.und177 h
  rw [F.fls177] at hh
  obtain ⟨d0, ds, rfl, k0, hh⟩ := DatAll.cons hh
  obtain ⟨d1, ds, rfl, k1, hh⟩ := DatAll.cons hh
  obtain rfl := DatAll.nil hh
  obtain ⟨x0, rfl, _⟩ := dat_int F.und3 k0
  obtain ⟨x1, rfl, _⟩ := dat_int F.und3 k1
  exact ⟨⟨x0, x1⟩, by simp [Dat.cells, Dat.cellsF, DAsker.c]⟩
theorem dat101 {P : Program} {f100 f106 f108 f177 f103 f179 f181 f113 f116 f118 f120 f41 : Array Field} (F : Facts P f100 f106 f108 f177 f103 f179 f181 f113 f116 f118 f120 f41) {n : Nat} {d : Dat} (h : Dat.ok P (n + 3) 101 d) : ∃ l : List DAsker, d.av = .vs false 2 false (l.map (DAsker.c false)) ∧ d.cells = [.vs false 2 false (l.map (DAsker.c false))] ∧ l.length ≤ maxLen := by
  obtain ⟨xs, rfl, hm, hx⟩ := dat_sl F.und101 h
  obtain ⟨zs, e1, e2, e3⟩ := dat_listQ (DAsker.c false) (fun _ => True) (fun d hd => by have := dat177 F hd; obtain ⟨x, hx⟩ := this; exact ⟨x, hx, trivial⟩) hx
  exact ⟨zs, by simp only [Dat.av, AM.sl, F.cel177, e2], by simp only [Dat.cells, AM.sl, F.cel177, e2], by omega⟩
theorem dat103 {P : Program} {f100 f106 f108 f177 f103 f179 f181 f113 f116 f118 f120 f41 : Array Field} (F : Facts P f100 f106 f108 f177 f103 f179 f181 f113 f116 f118 f120 f41) {n : Nat} {d : Dat} (h : Dat.ok P (n + 6) 103 d) : ∃ x : DEntity, d.cells = x.c false ∧ x.ok maxLen := by
  obtain ⟨ds, rfl, hh⟩ := dat_struct F.und103 h
  rw [F.fls103] at hh
  obtain ⟨d0, ds, rfl, k0, hh⟩ := DatAll.cons hh
  obtain ⟨d1, ds, rfl, k1, hh⟩ := DatAll.cons hh
  obtain ⟨d2, ds, rfl, k2, hh⟩ := DatAll.cons hh
  obtain ⟨d3, ds, rfl, k3, hh⟩ := DatAll.cons hh
  obtain ⟨d4, ds, rfl, k4, hh⟩ := DatAll.cons hh
  obtain ⟨d5, ds, rfl, k5, hh⟩ := DatAll.cons hh
  obtain ⟨d6, ds, rfl, k6, hh⟩ := DatAll.cons hh
  obtain ⟨d7, ds, rfl, k7, hh⟩ := DatAll.cons hh
  obtain ⟨d8, ds, rfl, k8, hh⟩ := DatAll.cons hh
  obtain ⟨d9, ds, rfl, k9, hh⟩ := DatAll.cons hh
  obtain ⟨d10, ds, rfl, k10, hh⟩ := DatAll.cons hh
  obtain rfl := DatAll.nil hh
  obtain ⟨x0, rfl, _⟩ := dat_int F.und3 k0
  obtain ⟨x1, rfl, _⟩ := dat_int F.und3 k1
  obtain ⟨x2, _, e2, q2⟩ := dat99 F k2
  obtain ⟨x3, rfl, _⟩ := dat_int F.und3 k3
  obtain ⟨x4, e4⟩ := dat100 F k4
  obtain ⟨x5, _, e5, q5, r5⟩ := dat37 F k5
  obtain ⟨x6, _, e6, q6⟩ := dat101 F k6
  obtain ⟨x7, rfl, _⟩ := dat_int F.und3 k7
  obtain ⟨x8, rfl, _⟩ := dat_int F.und3 k8
  obtain ⟨x9, rfl, _⟩ := dat_int F.und3 k9
  obtain ⟨x10, rfl, _⟩ := dat_int F.und3 k10
  exact ⟨⟨x0, x1, x2, x3, x4, x5, x6, x7, x8, x9, x10⟩, by simp [Dat.cells, Dat.cellsF, e2, e4, e5, e6, DEntity.c, DValue.c], ⟨q2, q5, r5, q6⟩⟩
theorem dat36 {P : Program} {f100 f106 f108 f177 f103 f179 f181 f113 f116 f118 f120 f41 : Array Field} (F : Facts P f100 f106 f108 f177 f103 f179 f181 f113 f116 f118 f120 f41) {n : Nat} {d : Dat} (h : Dat.ok P (n + 7) 36 d) : ∃ l : List DEntity, d.av = .vs false 12 false (l.map (DEntity.c false)) ∧ d.cells = [.vs false 12 false (l.map (DEntity.c false))] ∧ l.length ≤ maxLen ∧ ∀ x ∈ l, x.ok maxLen := by
  obtain ⟨xs, rfl, hm, hx⟩ := dat_sl F.und36 h
  obtain ⟨zs, e1, e2, e3⟩ := dat_listQ (DEntity.c false) (DEntity.ok maxLen) (fun d hd => by have := dat103 F hd; exact this) hx
  exact ⟨zs, by simp only [Dat.av, AM.sl, F.cel103, e2], by simp only [Dat.cells, AM.sl, F.cel103, e2], by omega, e3⟩
theorem dat179 {P : Program} {f100 f106 f108 f177 f103 f179 f181 f113 f116 f118 f120 f41 : Array Field} (F : Facts P f100 f106 f108 f177 f103 f179 f181 f113 f116 f118 f120 f41) {n : Nat} {d : Dat} (h : Dat.ok P (n + 2) 179 d) : ∃ x : DExport, d.cells = x.c false := by
  obtain ⟨ds, rfl, hh⟩ := dat_struct F.und179 h
  rw [F.fls179] at hh
  obtain ⟨d0, ds, rfl, k0, hh⟩ := DatAll.cons hh
  obtain ⟨d1, ds, rfl, k1, hh⟩ := DatAll.cons hh
  obtain ⟨d2, ds, rfl, k2, hh⟩ := DatAll.cons hh
  obtain rfl := DatAll.nil hh
  obtain ⟨x0, rfl, _⟩ := dat_int F.und3 k0
  obtain ⟨x1, rfl, _⟩ := dat_int F.und3 k1
  obtain ⟨x2, rfl, _⟩ := dat_int F.und3 k2
  exact ⟨⟨x0, x1, x2⟩, by simp [Dat.cells, Dat.cellsF, DExport.c]⟩
theorem dat110 {P : Program} {f100 f106 f108 f177 f103 f179 f181 f113 f116 f118 f120 f41 : Array Field} (F : Facts P f100 f106 f108 f177 f103 f179 f181 f113 f116 f118 f120 f41) {n : Nat} {d : Dat} (h : Dat.ok P (n + 3) 110 d) : ∃ l : List DExport, d.av = .vs false 3 false (l.map (DExport.c false)) ∧ d.cells = [.vs false 3 false (l.map (DExport.c false))] ∧ l.length ≤ maxLen := by
  obtain ⟨xs, rfl, hm, hx⟩ := dat_sl F.und110 h
  obtain ⟨zs, e1, e2, e3⟩ := dat_listQ (DExport.c false) (fun _ => True) (fun d hd => by have := dat179 F hd; obtain ⟨x, hx⟩ := this; exact ⟨x, hx, trivial⟩) hx
  exact ⟨zs, by simp only [Dat.av, AM.sl, F.cel179, e2], by simp only [Dat.cells, AM.sl, F.cel179, e2], by omega⟩
theorem dat181 {P : Program} {f100 f106 f108 f177 f103 f179 f181 f113 f116 f118 f120 f41 : Array Field} (F : Facts P f100 f106 f108 f177 f103 f179 f181 f113 f116 f118 f120 f41) {n : Nat} {d : Dat} (h : Dat.ok P (n + 2) 181 d) : ∃ x : DQuestion, d.cells = x.c false := by
  obtain ⟨ds, rfl, hh⟩ := dat_struct F.und181 h
  rw [F.fls181] at hh
  obtain ⟨d0, ds, rfl, k0, hh⟩ := DatAll.cons hh
  obtain ⟨d1, ds, rfl, k1, hh⟩ := DatAll.cons hh
  obtain rfl := DatAll.nil hh
  obtain ⟨x0, rfl, _⟩ := dat_int F.und3 k0
  obtain ⟨x1, rfl, _⟩ := dat_int F.und3 k1
  exact ⟨⟨x0, x1⟩, by simp [Dat.cells, Dat.cellsF, DQuestion.c]⟩
theorem dat111 {P : Program} {f100 f106 f108 f177 f103 f179 f181 f113 f116 f118 f120 f41 : Array Field} (F : Facts P f100 f106 f108 f177 f103 f179 f181 f113 f116 f118 f120 f41) {n : Nat} {d : Dat} (h : Dat.ok P (n + 3) 111 d) : ∃ l : List DQuestion, d.av = .vs false 2 false (l.map (DQuestion.c false)) ∧ d.cells = [.vs false 2 false (l.map (DQuestion.c false))] ∧ l.length ≤ maxLen := by
  obtain ⟨xs, rfl, hm, hx⟩ := dat_sl F.und111 h
  obtain ⟨zs, e1, e2, e3⟩ := dat_listQ (DQuestion.c false) (fun _ => True) (fun d hd => by have := dat181 F hd; obtain ⟨x, hx⟩ := this; exact ⟨x, hx, trivial⟩) hx
  exact ⟨zs, by simp only [Dat.av, AM.sl, F.cel181, e2], by simp only [Dat.cells, AM.sl, F.cel181, e2], by omega⟩
theorem dat113 {P : Program} {f100 f106 f108 f177 f103 f179 f181 f113 f116 f118 f120 f41 : Array Field} (F : Facts P f100 f106 f108 f177 f103 f179 f181 f113 f116 f118 f120 f41) {n : Nat} {d : Dat} (h : Dat.ok P (n + 4) 113 d) : ∃ x : DLink, d.cells = x.c false ∧ x.ok maxLen := by
  obtain ⟨ds, rfl, hh⟩ := dat_struct F.und113 h
  rw [F.fls113] at hh
  obtain ⟨d0, ds, rfl, k0, hh⟩ := DatAll.cons hh
  obtain ⟨d1, ds, rfl, k1, hh⟩ := DatAll.cons hh
  obtain ⟨d2, ds, rfl, k2, hh⟩ := DatAll.cons hh
  obtain ⟨d3, ds, rfl, k3, hh⟩ := DatAll.cons hh
  obtain ⟨d4, ds, rfl, k4, hh⟩ := DatAll.cons hh
  obtain ⟨d5, ds, rfl, k5, hh⟩ := DatAll.cons hh
  obtain ⟨d6, ds, rfl, k6, hh⟩ := DatAll.cons hh
  obtain rfl := DatAll.nil hh
  obtain ⟨x0, rfl, _⟩ := dat_int F.und3 k0
  obtain ⟨x1, rfl⟩ := dat_bool F.und4 k1
  obtain ⟨x2, _, e2, q2⟩ := dat110 F k2
  obtain ⟨x3, rfl, _⟩ := dat_int F.und3 k3
  obtain ⟨x4, _, e4, q4⟩ := dat111 F k4
  obtain ⟨x5, rfl, _⟩ := dat_int F.und3 k5
  obtain ⟨x6, _, e6, q6⟩ := dat111 F k6
  exact ⟨⟨x0, x1, x2, x3, x4, x5, x6⟩, by simp [Dat.cells, Dat.cellsF, e2, e4, e6, DLink.c], ⟨q2, q4, q6⟩⟩
theorem dat38 {P : Program} {f100 f106 f108 f177 f103 f179 f181 f113 f116 f118 f120 f41 : Array Field} (F : Facts P f100 f106 f108 f177 f103 f179 f181 f113 f116 f118 f120 f41) {n : Nat} {d : Dat} (h : Dat.ok P (n + 5) 38 d) : ∃ l : List DLink, d.av = .vs false 7 false (l.map (DLink.c false)) ∧ d.cells = [.vs false 7 false (l.map (DLink.c false))] ∧ l.length ≤ maxLen ∧ ∀ x ∈ l, x.ok maxLen := by
  obtain ⟨xs, rfl, hm, hx⟩ := dat_sl F.und38 h
  obtain ⟨zs, e1, e2, e3⟩ := dat_listQ (DLink.c false) (DLink.ok maxLen) (fun d hd => by have := dat113 F hd; exact this) hx
  exact ⟨zs, by simp only [Dat.av, AM.sl, F.cel113, e2], by simp only [Dat.cells, AM.sl, F.cel113, e2], by omega, e3⟩
theorem dat116 {P : Program} {f100 f106 f108 f177 f103 f179 f181 f113 f116 f118 f120 f41 : Array Field} (F : Facts P f100 f106 f108 f177 f103 f179 f181 f113 f116 f118 f120 f41) {n : Nat} {d : Dat} (h : Dat.ok P (n + 2) 116 d) : ∃ x : DWire, d.cells = x.c false := by
  obtain ⟨ds, rfl, hh⟩ := dat_struct F.und116 h
  rw [F.fls116] at hh
  obtain ⟨d0, ds, rfl, k0, hh⟩ := DatAll.cons hh
  obtain ⟨d1, ds, rfl, k1, hh⟩ := DatAll.cons hh
  obtain rfl := DatAll.nil hh
  obtain ⟨x0, rfl, _⟩ := dat_int F.und3 k0
  obtain ⟨x1, rfl, _⟩ := dat_int F.und3 k1
  exact ⟨⟨x0, x1⟩, by simp [Dat.cells, Dat.cellsF, DWire.c]⟩
theorem dat115 {P : Program} {f100 f106 f108 f177 f103 f179 f181 f113 f116 f118 f120 f41 : Array Field} (F : Facts P f100 f106 f108 f177 f103 f179 f181 f113 f116 f118 f120 f41) {n : Nat} {d : Dat} (h : Dat.ok P (n + 3) 115 d) : ∃ l : List DWire, d.av = .vs false 2 false (l.map (DWire.c false)) ∧ d.cells = [.vs false 2 false (l.map (DWire.c false))] ∧ l.length ≤ maxLen := by
  obtain ⟨xs, rfl, hm, hx⟩ := dat_sl F.und115 h
  obtain ⟨zs, e1, e2, e3⟩ := dat_listQ (DWire.c false) (fun _ => True) (fun d hd => by have := dat116 F hd; obtain ⟨x, hx⟩ := this; exact ⟨x, hx, trivial⟩) hx
  exact ⟨zs, by simp only [Dat.av, AM.sl, F.cel116, e2], by simp only [Dat.cells, AM.sl, F.cel116, e2], by omega⟩
theorem dat118 {P : Program} {f100 f106 f108 f177 f103 f179 f181 f113 f116 f118 f120 f41 : Array Field} (F : Facts P f100 f106 f108 f177 f103 f179 f181 f113 f116 f118 f120 f41) {n : Nat} {d : Dat} (h : Dat.ok P (n + 4) 118 d) : ∃ x : DMessage, d.cells = x.c false ∧ x.ok maxLen := by
  obtain ⟨ds, rfl, hh⟩ := dat_struct F.und118 h
  rw [F.fls118] at hh
  obtain ⟨d0, ds, rfl, k0, hh⟩ := DatAll.cons hh
  obtain ⟨d1, ds, rfl, k1, hh⟩ := DatAll.cons hh
  obtain ⟨d2, ds, rfl, k2, hh⟩ := DatAll.cons hh
  obtain ⟨d3, ds, rfl, k3, hh⟩ := DatAll.cons hh
  obtain ⟨d4, ds, rfl, k4, hh⟩ := DatAll.cons hh
  obtain ⟨d5, ds, rfl, k5, hh⟩ := DatAll.cons hh
  obtain ⟨d6, ds, rfl, k6, hh⟩ := DatAll.cons hh
  obtain ⟨d7, ds, rfl, k7, hh⟩ := DatAll.cons hh
  obtain ⟨d8, ds, rfl, k8, hh⟩ := DatAll.cons hh
  obtain rfl := DatAll.nil hh
  obtain ⟨x0, rfl, _⟩ := dat_int F.und3 k0
  obtain ⟨x1, rfl, _⟩ := dat_int F.und3 k1
  obtain ⟨x2, rfl, _⟩ := dat_int F.und3 k2
  obtain ⟨x3, rfl, _⟩ := dat_int F.und3 k3
  obtain ⟨x4, rfl, q4⟩ := dat_str F.und9 k4
  obtain ⟨x5, _, e5, q5⟩ := dat115 F k5
  obtain ⟨x6, e6⟩ := dat116 F k6
  obtain ⟨x7, rfl, _⟩ := dat_int F.und3 k7
  obtain ⟨x8, e8⟩ := dat106 F k8
  exact ⟨⟨x0, x1, x2, x3, x4, x5, x6, x7, x8⟩, by simp [Dat.cells, Dat.cellsF, e5, e6, e8, DMessage.c, DTag.c, DWire.c], ⟨q4, q5⟩⟩
theorem dat120 {P : Program} {f100 f106 f108 f177 f103 f179 f181 f113 f116 f118 f120 f41 : Array Field} (F : Facts P f100 f106 f108 f177 f103 f179 f181 f113 f116 f118 f120 f41) {n : Nat} {d : Dat} (h : Dat.ok P (n + 5) 120 d) : ∃ x : DOutgoing, d.cells = x.c false ∧ x.ok maxLen := by
  obtain ⟨ds, rfl, hh⟩ := dat_struct F.und120 h
  rw [F.fls120] at hh
  obtain ⟨d0, ds, rfl, k0, hh⟩ := DatAll.cons hh
  obtain ⟨d1, ds, rfl, k1, hh⟩ := DatAll.cons hh
  obtain rfl := DatAll.nil hh
  obtain ⟨x0, rfl, _⟩ := dat_int F.und3 k0
  obtain ⟨x1, e1, q1⟩ := dat118 F k1
  exact ⟨⟨x0, x1⟩, by simp [Dat.cells, Dat.cellsF, e1, DOutgoing.c, DMessage.c], q1⟩
theorem dat39 {P : Program} {f100 f106 f108 f177 f103 f179 f181 f113 f116 f118 f120 f41 : Array Field} (F : Facts P f100 f106 f108 f177 f103 f179 f181 f113 f116 f118 f120 f41) {n : Nat} {d : Dat} (h : Dat.ok P (n + 6) 39 d) : ∃ l : List DOutgoing, d.av = .vs false 13 false (l.map (DOutgoing.c false)) ∧ d.cells = [.vs false 13 false (l.map (DOutgoing.c false))] ∧ l.length ≤ maxLen ∧ ∀ x ∈ l, x.ok maxLen := by
  obtain ⟨xs, rfl, hm, hx⟩ := dat_sl F.und39 h
  obtain ⟨zs, e1, e2, e3⟩ := dat_listQ (DOutgoing.c false) (DOutgoing.ok maxLen) (fun d hd => by have := dat120 F hd; exact this) hx
  exact ⟨zs, by simp only [Dat.av, AM.sl, F.cel120, e2], by simp only [Dat.cells, AM.sl, F.cel120, e2], by omega, e3⟩
theorem dat41 {P : Program} {f100 f106 f108 f177 f103 f179 f181 f113 f116 f118 f120 f41 : Array Field} (F : Facts P f100 f106 f108 f177 f103 f179 f181 f113 f116 f118 f120 f41) {n : Nat} {d : Dat} (h : Dat.ok P (n + 8) 41 d) : ∃ x : DVat, d.cells = x.c false ∧ x.ok maxLen := by
  obtain ⟨ds, rfl, hh⟩ := dat_struct F.und41 h
  rw [F.fls41] at hh
  obtain ⟨d0, ds, rfl, k0, hh⟩ := DatAll.cons hh
  obtain ⟨d1, ds, rfl, k1, hh⟩ := DatAll.cons hh
  obtain ⟨d2, ds, rfl, k2, hh⟩ := DatAll.cons hh
  obtain ⟨d3, ds, rfl, k3, hh⟩ := DatAll.cons hh
  obtain ⟨d4, ds, rfl, k4, hh⟩ := DatAll.cons hh
  obtain rfl := DatAll.nil hh
  obtain ⟨x0, rfl, _⟩ := dat_int F.und3 k0
  obtain ⟨x1, _, e1, q1, r1⟩ := dat36 F k1
  obtain ⟨x2, _, e2, q2, r2⟩ := dat37 F k2
  obtain ⟨x3, _, e3, q3, r3⟩ := dat38 F k3
  obtain ⟨x4, _, e4, q4, r4⟩ := dat39 F k4
  exact ⟨⟨x0, x1, x2, x3, x4⟩, by simp [Dat.cells, Dat.cellsF, e1, e2, e3, e4, DVat.c], ⟨q1, r1, q2, r2, q3, r3, q4, r4⟩⟩
theorem facts : Facts Try.prog gfl100 gfl106 gfl108 gfl177 gfl103 gfl179 gfl181 gfl113 gfl116 gfl118 gfl120 gfl41 := ⟨by kernel_rfl, by kernel_rfl, by kernel_rfl, by kernel_rfl, by kernel_rfl, by kernel_rfl, by kernel_rfl, by kernel_rfl, by kernel_rfl, by kernel_rfl, by kernel_rfl, by kernel_rfl, by kernel_rfl, by kernel_rfl, by kernel_rfl, by kernel_rfl, by kernel_rfl, by kernel_rfl, by kernel_rfl, by kernel_rfl, by kernel_rfl, by kernel_rfl, by kernel_rfl, by kernel_rfl, by kernel_rfl, by kernel_rfl, by kernel_rfl, by kernel_rfl, by kernel_rfl, by kernel_rfl, by kernel_rfl, by kernel_rfl, by kernel_rfl, by kernel_rfl, by kernel_rfl, by kernel_rfl, by kernel_rfl, by kernel_rfl, by kernel_rfl, by kernel_rfl, by kernel_rfl, by kernel_rfl, by kernel_rfl, by kernel_rfl, by kernel_rfl⟩
set_option maxRecDepth 100000 in
theorem fnExactIsVat_walk (ds : List Dat) (h : DatAll Try.prog 8 Try.f4.params.toList ds) : T Try.prog (fun _ => none) 4 (ds.map Dat.av) [] fun v _ => v = .bool true := by
  have hp : Try.f4.params.toList = [41] := by kernel_rfl
  obtain ⟨d0, ds, rfl, k0, h⟩ := DatAll.cons (hp ▸ h : DatAll Try.prog 8 [41] ds)
  obtain rfl := DatAll.nil h
  obtain ⟨x0, c0, q0⟩ := dat41 facts (n := 0) k0
  have e0 : d0.av = .agg (x0.c false) := dat_agg facts.und41 k0 c0
  have := law_IsVat (Γ := fun _ => none) x0 q0 []
  rw [← e0] at this
  exact this.mono fun v h' hv => hv.1
set_option maxRecDepth 100000 in
theorem fnExactIsVat_lifted (os : Os) (started : os.Started) (H : Type) (enc : TypeId × Value → H) :
    ReturnsInHanded {} Try.checked os 4 .any (Rows.fnExactIsVatSpec.pre6 enc Try.prog Try.f4 Rows.fnExactIsVatRow.domain false) (Rows.fnExactIsVatSpec.post enc Try.prog Try.f4 false true false false) := by
  refine returnsInHanded_of_change (C := Try.checked) own started (by kernel_rfl) Try.func4
    (ChangeSpec.witness6 (enc := enc) (C := Try.checked) false ⟨#[], #[.agg #[.int .i64 0, .slice none 0 0, .slice none 0 0, .slice none 0 0, .slice none 0 0]], []⟩ 11 (by kernel_rfl) (by kernel_rfl) (by kernel_rfl) (by kernel_rfl)) ?_
  intro W base args ds gs before hval hW hcnd _
  refine law_post (n := 8) (tb := 4) (by decide +kernel) rfl (by kernel_rfl) (by kernel_rfl) (fun xs hx => ?_) fnExactIsVat_walk hval hW
  have hp : Try.f4.params.toList.length = 1 := by kernel_rfl
  rw [hp] at hx
  match xs, hx with
  | [_], _ => rfl
theorem fnExactIsVat_over : Rows.fnExactIsVatRow.holds Try.pinned (OpenSpec.ofChange Rows.fnExactIsVatSpec) :=
  OpenClaim.holds_of_wide 4 Try.f4 rfl rfl rfl rfl rfl rfl rfl ⟨rfl, rfl, rfl, rfl, rfl⟩ rfl rfl rfl rfl rfl (by kernel_rfl) Try.func4 (by kernel_rfl)
    (of_decide_eq_true (by kernel_rfl)) (by unfold Func.isWrapper; first | (rw [if_pos (by decide +kernel)]; kernel_rfl) | (rw [if_neg (by decide +kernel)]; exact ⟨rfl, rfl⟩))
    (fun os started H enc _ => fnExactIsVat_lifted os started H enc)
/-- THE STATEMENT. -/
theorem fnExactIsVat_proved : Rows.FnExactIsVatSaid := fnExactIsVat_over
#print axioms fnExactIsVat_proved
end Go.Proofs.Ytleddolmolkpfaa
