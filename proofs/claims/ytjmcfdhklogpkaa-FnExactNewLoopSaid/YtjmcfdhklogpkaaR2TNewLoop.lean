/- The law FnExactNewLoop returns true at every input, and its arguments read behind the call as before. Conditions: none beyond the given row's. -/
import Derived.Test.YtjmcfdhklogpkaaRows
import Derived.WalkKit
import Derived.ProofKit
import Derived.OpenShut
import Derived.Test.YtjmcfdhklogpkaaAmTop
import Derived.Test.YtjmcfdhklogpkaaR2LNewLoop
set_option linter.unusedVariables false
set_option linter.unusedSimpArgs false
namespace Go.Proofs.Ytjmcfdhklogpkaa
open Go.AM
open Go.ChangeShapes Go.WideShapes Go.ChangeAt Go.RowKit
set_option linter.unusedVariables false
theorem own : ownKnob Try.prog.godebug = none := by kernel_rfl
noncomputable def gfl171 : Array Field := match Try.prog.underlying 171 with | some (.struct fs) => fs | _ => #[]
noncomputable def gfl75 : Array Field := match Try.prog.underlying 75 with | some (.struct fs) => fs | _ => #[]
noncomputable def gfl93 : Array Field := match Try.prog.underlying 93 with | some (.struct fs) => fs | _ => #[]
noncomputable def gfl219 : Array Field := match Try.prog.underlying 219 with | some (.struct fs) => fs | _ => #[]
noncomputable def gfl174 : Array Field := match Try.prog.underlying 174 with | some (.struct fs) => fs | _ => #[]
noncomputable def gfl221 : Array Field := match Try.prog.underlying 221 with | some (.struct fs) => fs | _ => #[]
noncomputable def gfl223 : Array Field := match Try.prog.underlying 223 with | some (.struct fs) => fs | _ => #[]
noncomputable def gfl179 : Array Field := match Try.prog.underlying 179 with | some (.struct fs) => fs | _ => #[]
noncomputable def gfl73 : Array Field := match Try.prog.underlying 73 with | some (.struct fs) => fs | _ => #[]
noncomputable def gfl77 : Array Field := match Try.prog.underlying 77 with | some (.struct fs) => fs | _ => #[]
noncomputable def gfl117 : Array Field := match Try.prog.underlying 117 with | some (.struct fs) => fs | _ => #[]
noncomputable def gfl56 : Array Field := match Try.prog.underlying 56 with | some (.struct fs) => fs | _ => #[]
structure Facts (P : Program) (f171 f75 f93 f219 f174 f221 f223 f179 f73 f77 f117 f56 : Array Field) : Prop where
  und3 : P.underlying 3 = some (.int .i64)
  und171 : P.underlying 171 = some (.struct f171)
  fls171 : f171.toList.map (·.type) = [3, 3]
  und91 : P.underlying 91 = some (.slice 171)
  cel171 : P.cellsOf 171 = 2
  und9 : P.underlying 9 = some .string
  und75 : P.underlying 75 = some (.struct f75)
  fls75 : f75.toList.map (·.type) = [3, 3, 3]
  und93 : P.underlying 93 = some (.struct f93)
  fls93 : f93.toList.map (·.type) = [3, 9, 91, 3, 75]
  und22 : P.underlying 22 = some (.slice 93)
  cel93 : P.cellsOf 93 = 7
  und219 : P.underlying 219 = some (.struct f219)
  fls219 : f219.toList.map (·.type) = [3, 3]
  und172 : P.underlying 172 = some (.slice 219)
  cel219 : P.cellsOf 219 = 2
  und174 : P.underlying 174 = some (.struct f174)
  fls174 : f174.toList.map (·.type) = [3, 3, 91, 3, 171, 22, 172, 3, 3, 3, 3]
  und53 : P.underlying 53 = some (.slice 174)
  cel174 : P.cellsOf 174 = 12
  und4 : P.underlying 4 = some .bool
  und221 : P.underlying 221 = some (.struct f221)
  fls221 : f221.toList.map (·.type) = [3, 3, 3]
  und176 : P.underlying 176 = some (.slice 221)
  cel221 : P.cellsOf 221 = 3
  und223 : P.underlying 223 = some (.struct f223)
  fls223 : f223.toList.map (·.type) = [3, 3]
  und177 : P.underlying 177 = some (.slice 223)
  cel223 : P.cellsOf 223 = 2
  und179 : P.underlying 179 = some (.struct f179)
  fls179 : f179.toList.map (·.type) = [3, 4, 176, 3, 177, 3, 177]
  und54 : P.underlying 54 = some (.slice 179)
  cel179 : P.cellsOf 179 = 7
  und73 : P.underlying 73 = some (.struct f73)
  fls73 : f73.toList.map (·.type) = [3, 3]
  und72 : P.underlying 72 = some (.slice 73)
  cel73 : P.cellsOf 73 = 2
  und77 : P.underlying 77 = some (.struct f77)
  fls77 : f77.toList.map (·.type) = [3, 3, 3, 3, 9, 72, 73, 3, 75]
  und117 : P.underlying 117 = some (.struct f117)
  fls117 : f117.toList.map (·.type) = [3, 77]
  und47 : P.underlying 47 = some (.slice 117)
  cel117 : P.cellsOf 117 = 13
  und56 : P.underlying 56 = some (.struct f56)
  fls56 : f56.toList.map (·.type) = [3, 53, 22, 54, 47]
theorem dat171 {P : Program} {f171 f75 f93 f219 f174 f221 f223 f179 f73 f77 f117 f56 : Array Field} (F : Facts P f171 f75 f93 f219 f174 f221 f223 f179 f73 f77 f117 f56) {n : Nat} {d : Dat} (h : Dat.ok P (n + 2) 171 d) : ∃ x : DValue, d.cells = x.c false := by
  obtain ⟨ds, rfl, hh⟩ := dat_struct F.und171 h
  rw [F.fls171] at hh
  obtain ⟨d0, ds, rfl, k0, hh⟩ := DatAll.cons hh
  obtain ⟨d1, ds, rfl, k1, hh⟩ := DatAll.cons hh
  obtain rfl := DatAll.nil hh
  obtain ⟨x0, rfl, _⟩ := dat_int F.und3 k0
  obtain ⟨x1, rfl, _⟩ := dat_int F.und3 k1
  exact ⟨⟨x0, x1⟩, by simp [Dat.cells, Dat.cellsF, DValue.c]⟩
theorem dat91 {P : Program} {f171 f75 f93 f219 f174 f221 f223 f179 f73 f77 f117 f56 : Array Field} (F : Facts P f171 f75 f93 f219 f174 f221 f223 f179 f73 f77 f117 f56) {n : Nat} {d : Dat} (h : Dat.ok P (n + 3) 91 d) : ∃ l : List DValue, d.av = .vs false 2 false (l.map (DValue.c false)) ∧ d.cells = [.vs false 2 false (l.map (DValue.c false))] ∧ l.length ≤ maxLen := by
  obtain ⟨xs, rfl, hm, hx⟩ := dat_sl F.und91 h
  obtain ⟨zs, e1, e2, e3⟩ := dat_listQ (DValue.c false) (fun _ => True) (fun d hd => by have := dat171 F hd; obtain ⟨x, hx⟩ := this; exact ⟨x, hx, trivial⟩) hx
  exact ⟨zs, by simp only [Dat.av, AM.sl, F.cel171, e2], by simp only [Dat.cells, AM.sl, F.cel171, e2], by omega⟩
theorem dat75 {P : Program} {f171 f75 f93 f219 f174 f221 f223 f179 f73 f77 f117 f56 : Array Field} (F : Facts P f171 f75 f93 f219 f174 f221 f223 f179 f73 f77 f117 f56) {n : Nat} {d : Dat} (h : Dat.ok P (n + 2) 75 d) : ∃ x : DTag, d.cells = x.c false := by
  obtain ⟨ds, rfl, hh⟩ := dat_struct F.und75 h
  rw [F.fls75] at hh
  obtain ⟨d0, ds, rfl, k0, hh⟩ := DatAll.cons hh
  obtain ⟨d1, ds, rfl, k1, hh⟩ := DatAll.cons hh
  obtain ⟨d2, ds, rfl, k2, hh⟩ := DatAll.cons hh
  obtain rfl := DatAll.nil hh
  obtain ⟨x0, rfl, _⟩ := dat_int F.und3 k0
  obtain ⟨x1, rfl, _⟩ := dat_int F.und3 k1
  obtain ⟨x2, rfl, _⟩ := dat_int F.und3 k2
  exact ⟨⟨x0, x1, x2⟩, by simp [Dat.cells, Dat.cellsF, DTag.c]⟩
theorem dat93 {P : Program} {f171 f75 f93 f219 f174 f221 f223 f179 f73 f77 f117 f56 : Array Field} (F : Facts P f171 f75 f93 f219 f174 f221 f223 f179 f73 f77 f117 f56) {n : Nat} {d : Dat} (h : Dat.ok P (n + 4) 93 d) : ∃ x : DSent, d.cells = x.c false ∧ x.ok maxLen := by
  obtain ⟨ds, rfl, hh⟩ := dat_struct F.und93 h
  rw [F.fls93] at hh
  obtain ⟨d0, ds, rfl, k0, hh⟩ := DatAll.cons hh
  obtain ⟨d1, ds, rfl, k1, hh⟩ := DatAll.cons hh
  obtain ⟨d2, ds, rfl, k2, hh⟩ := DatAll.cons hh
  obtain ⟨d3, ds, rfl, k3, hh⟩ := DatAll.cons hh
  obtain ⟨d4, ds, rfl, k4, hh⟩ := DatAll.cons hh
  obtain rfl := DatAll.nil hh
  obtain ⟨x0, rfl, _⟩ := dat_int F.und3 k0
  obtain ⟨x1, rfl, q1⟩ := dat_str F.und9 k1
  obtain ⟨x2, _, e2, q2⟩ := dat91 F k2
  obtain ⟨x3, rfl, _⟩ := dat_int F.und3 k3
  obtain ⟨x4, e4⟩ := dat75 F k4
  exact ⟨⟨x0, x1, x2, x3, x4⟩, by simp [Dat.cells, Dat.cellsF, e2, e4, DSent.c, DTag.c], ⟨q1, q2⟩⟩
theorem dat22 {P : Program} {f171 f75 f93 f219 f174 f221 f223 f179 f73 f77 f117 f56 : Array Field} (F : Facts P f171 f75 f93 f219 f174 f221 f223 f179 f73 f77 f117 f56) {n : Nat} {d : Dat} (h : Dat.ok P (n + 5) 22 d) : ∃ l : List DSent, d.av = .vs false 7 false (l.map (DSent.c false)) ∧ d.cells = [.vs false 7 false (l.map (DSent.c false))] ∧ l.length ≤ maxLen ∧ ∀ x ∈ l, x.ok maxLen := by
  obtain ⟨xs, rfl, hm, hx⟩ := dat_sl F.und22 h
  obtain ⟨zs, e1, e2, e3⟩ := dat_listQ (DSent.c false) (DSent.ok maxLen) (fun d hd => by have := dat93 F hd; exact this) hx
  exact ⟨zs, by simp only [Dat.av, AM.sl, F.cel93, e2], by simp only [Dat.cells, AM.sl, F.cel93, e2], by omega, e3⟩
theorem dat219 {P : Program} {f171 f75 f93 f219 f174 f221 f223 f179 f73 f77 f117 f56 : Array Field} (F : Facts P f171 f75 f93 f219 f174 f221 f223 f179 f73 f77 f117 f56) {n : Nat} {d : Dat} (h : Dat.ok P (n + 2) 219 d) : ∃ x : DAsker, d.cells = x.c false := by
  obtain ⟨ds, rfl, hh⟩ := dat_struct F.und219 h
  rw [F.fls219] at hh
  obtain ⟨d0, ds, rfl, k0, hh⟩ := DatAll.cons hh
  obtain ⟨d1, ds, rfl, k1, hh⟩ := DatAll.cons hh
  obtain rfl := DatAll.nil hh
  obtain ⟨x0, rfl, _⟩ := dat_int F.und3 k0
  obtain ⟨x1, rfl, _⟩ := dat_int F.und3 k1
  exact ⟨⟨x0, x1⟩, by simp [Dat.cells, Dat.cellsF, DAsker.c]⟩
theorem dat172 {P : Program} {f171 f75 f93 f219 f174 f221 f223 f179 f73 f77 f117 f56 : Array Field} (F : Facts P f171 f75 f93 f219 f174 f221 f223 f179 f73 f77 f117 f56) {n : Nat} {d : Dat} (h : Dat.ok P (n + 3) 172 d) : ∃ l : List DAsker, d.av = .vs false 2 false (l.map (DAsker.c false)) ∧ d.cells = [.vs false 2 false (l.map (DAsker.c false))] ∧ l.length ≤ maxLen := by
  obtain ⟨xs, rfl, hm, hx⟩ := dat_sl F.und172 h
  obtain ⟨zs, e1, e2, e3⟩ := dat_listQ (DAsker.c false) (fun _ => True) (fun d hd => by have := dat219 F hd; obtain ⟨x, hx⟩ := this; exact ⟨x, hx, trivial⟩) hx
  exact ⟨zs, by simp only [Dat.av, AM.sl, F.cel219, e2], by simp only [Dat.cells, AM.sl, F.cel219, e2], by omega⟩
theorem dat174 {P : Program} {f171 f75 f93 f219 f174 f221 f223 f179 f73 f77 f117 f56 : Array Field} (F : Facts P f171 f75 f93 f219 f174 f221 f223 f179 f73 f77 f117 f56) {n : Nat} {d : Dat} (h : Dat.ok P (n + 6) 174 d) : ∃ x : DEntity, d.cells = x.c false ∧ x.ok maxLen := by
  obtain ⟨ds, rfl, hh⟩ := dat_struct F.und174 h
  rw [F.fls174] at hh
  obtain ⟨d0, ds, rfl, k0, hh⟩ := DatAll.cons hh
  obtain ⟨d1, ds, rfl, k1, hh⟩ := DatAll.cons hh
  obtain ⟨d2, ds, rfl, k2, hh⟩ := DatAll.cons hh
  obtain ⟨d3, ds, rfl, k3, hh⟩ := DatAll.cons hh
  obtain ⟨d4, ds, rfl, k4, hh⟩ := DatAll.cons hh
  obtain ⟨d5, ds, rfl, k5, hh⟩ := DatAll.cons hh
  obtain ⟨d6, ds, rfl, k6, hh⟩ := DatAll.cons hh
  obtain ⟨d7, ds, rfl, k7, hh⟩ := DatAll.cons hh
  obtain ⟨d8, ds, rfl, k8, hh⟩ := DatAll.cons hh
  obtain ⟨d9, ds, rfl, k9, hh⟩ := DatAll.cons hh
  obtain ⟨d10, ds, rfl, k10, hh⟩ := DatAll.cons hh
  obtain rfl := DatAll.nil hh
  obtain ⟨x0, rfl, _⟩ := dat_int F.und3 k0
  obtain ⟨x1, rfl, _⟩ := dat_int F.und3 k1
  obtain ⟨x2, _, e2, q2⟩ := dat91 F k2
  obtain ⟨x3, rfl, _⟩ := dat_int F.und3 k3
  obtain ⟨x4, e4⟩ := dat171 F k4
  obtain ⟨x5, _, e5, q5, r5⟩ := dat22 F k5
  obtain ⟨x6, _, e6, q6⟩ := dat172 F k6
  obtain ⟨x7, rfl, _⟩ := dat_int F.und3 k7
  obtain ⟨x8, rfl, _⟩ := dat_int F.und3 k8
  obtain ⟨x9, rfl, _⟩ := dat_int F.und3 k9
  obtain ⟨x10, rfl, _⟩ := dat_int F.und3 k10
  exact ⟨⟨x0, x1, x2, x3, x4, x5, x6, x7, x8, x9, x10⟩, by simp [Dat.cells, Dat.cellsF, e2, e4, e5, e6, DEntity.c, DValue.c], ⟨q2, q5, r5, q6⟩⟩
theorem dat53 {P : Program} {f171 f75 f93 f219 f174 f221 f223 f179 f73 f77 f117 f56 : Array Field} (F : Facts P f171 f75 f93 f219 f174 f221 f223 f179 f73 f77 f117 f56) {n : Nat} {d : Dat} (h : Dat.ok P (n + 7) 53 d) : ∃ l : List DEntity, d.av = .vs false 12 false (l.map (DEntity.c false)) ∧ d.cells = [.vs false 12 false (l.map (DEntity.c false))] ∧ l.length ≤ maxLen ∧ ∀ x ∈ l, x.ok maxLen := by
  obtain ⟨xs, rfl, hm, hx⟩ := dat_sl F.und53 h
  obtain ⟨zs, e1, e2, e3⟩ := dat_listQ (DEntity.c false) (DEntity.ok maxLen) (fun d hd => by have := dat174 F hd; exact this) hx
  exact ⟨zs, by simp only [Dat.av, AM.sl, F.cel174, e2], by simp only [Dat.cells, AM.sl, F.cel174, e2], by omega, e3⟩
theorem dat221 {P : Program} {f171 f75 f93 f219 f174 f221 f223 f179 f73 f77 f117 f56 : Array Field} (F : Facts P f171 f75 f93 f219 f174 f221 f223 f179 f73 f77 f117 f56) {n : Nat} {d : Dat} (h : Dat.ok P (n + 2) 221 d) : ∃ x : DExport, d.cells = x.c false := by
  obtain ⟨ds, rfl, hh⟩ := dat_struct F.und221 h
  rw [F.fls221] at hh
  obtain ⟨d0, ds, rfl, k0, hh⟩ := DatAll.cons hh
  obtain ⟨d1, ds, rfl, k1, hh⟩ := DatAll.cons hh
  obtain ⟨d2, ds, rfl, k2, hh⟩ := DatAll.cons hh
  obtain rfl := DatAll.nil hh
  obtain ⟨x0, rfl, _⟩ := dat_int F.und3 k0
  obtain ⟨x1, rfl, _⟩ := dat_int F.und3 k1
  obtain ⟨x2, rfl, _⟩ := dat_int F.und3 k2
  exact ⟨⟨x0, x1, x2⟩, by simp [Dat.cells, Dat.cellsF, DExport.c]⟩
theorem dat176 {P : Program} {f171 f75 f93 f219 f174 f221 f223 f179 f73 f77 f117 f56 : Array Field} (F : Facts P f171 f75 f93 f219 f174 f221 f223 f179 f73 f77 f117 f56) {n : Nat} {d : Dat} (h : Dat.ok P (n + 3) 176 d) : ∃ l : List DExport, d.av = .vs false 3 false (l.map (DExport.c false)) ∧ d.cells = [.vs false 3 false (l.map (DExport.c false))] ∧ l.length ≤ maxLen := by
  obtain ⟨xs, rfl, hm, hx⟩ := dat_sl F.und176 h
  obtain ⟨zs, e1, e2, e3⟩ := dat_listQ (DExport.c false) (fun _ => True) (fun d hd => by have := dat221 F hd; obtain ⟨x, hx⟩ := this; exact ⟨x, hx, trivial⟩) hx
  exact ⟨zs, by simp only [Dat.av, AM.sl, F.cel221, e2], by simp only [Dat.cells, AM.sl, F.cel221, e2], by omega⟩
theorem dat223 {P : Program} {f171 f75 f93 f219 f174 f221 f223 f179 f73 f77 f117 f56 : Array Field} (F : Facts P f171 f75 f93 f219 f174 f221 f223 f179 f73 f77 f117 f56) {n : Nat} {d : Dat} (h : Dat.ok P (n + 2) 223 d) : ∃ x : DQuestion, d.cells = x.c false := by
  obtain ⟨ds, rfl, hh⟩ := dat_struct F.und223 h
  rw [F.fls223] at hh
  obtain ⟨d0, ds, rfl, k0, hh⟩ := DatAll.cons hh
  obtain ⟨d1, ds, rfl, k1, hh⟩ := DatAll.cons hh
  obtain rfl := DatAll.nil hh
  obtain ⟨x0, rfl, _⟩ := dat_int F.und3 k0
  obtain ⟨x1, rfl, _⟩ := dat_int F.und3 k1
  exact ⟨⟨x0, x1⟩, by simp [Dat.cells, Dat.cellsF, DQuestion.c]⟩
theorem dat177 {P : Program} {f171 f75 f93 f219 f174 f221 f223 f179 f73 f77 f117 f56 : Array Field} (F : Facts P f171 f75 f93 f219 f174 f221 f223 f179 f73 f77 f117 f56) {n : Nat} {d : Dat} (h : Dat.ok P (n + 3) 177 d) : ∃ l : List DQuestion, d.av = .vs false 2 false (l.map (DQuestion.c false)) ∧ d.cells = [.vs false 2 false (l.map (DQuestion.c false))] ∧ l.length ≤ maxLen := by
  obtain ⟨xs, rfl, hm, hx⟩ := dat_sl F.und177 h
  obtain ⟨zs, e1, e2, e3⟩ := dat_listQ (DQuestion.c false) (fun _ => True) (fun d hd => by have := dat223 F hd; obtain ⟨x, hx⟩ := this; exact ⟨x, hx, trivial⟩) hx
  exact ⟨zs, by simp only [Dat.av, AM.sl, F.cel223, e2], by simp only [Dat.cells, AM.sl, F.cel223, e2], by omega⟩
theorem dat179 {P : Program} {f171 f75 f93 f219 f174 f221 f223 f179 f73 f77 f117 f56 : Array Field} (F : Facts P f171 f75 f93 f219 f174 f221 f223 f179 f73 f77 f117 f56) {n : Nat} {d : Dat} (h : Dat.ok P (n + 4) 179 d) : ∃ x : DLink, d.cells = x.c false ∧ x.ok maxLen := by
  obtain ⟨ds, rfl, hh⟩ := dat_struct F.und179 h
  rw [F.fls179] at hh
  obtain ⟨d0, ds, rfl, k0, hh⟩ := DatAll.cons hh
  obtain ⟨d1, ds, rfl, k1, hh⟩ := DatAll.cons hh
  obtain ⟨d2, ds, rfl, k2, hh⟩ := DatAll.cons hh
  obtain ⟨d3, ds, rfl, k3, hh⟩ := DatAll.cons hh
  obtain ⟨d4, ds, rfl, k4, hh⟩ := DatAll.cons hh
  obtain ⟨d5, ds, rfl, k5, hh⟩ := DatAll.cons hh
  obtain ⟨d6, ds, rfl, k6, hh⟩ := DatAll.cons hh
  obtain rfl := DatAll.nil hh
  obtain ⟨x0, rfl, _⟩ := dat_int F.und3 k0
  obtain ⟨x1, rfl⟩ := dat_bool F.und4 k1
  obtain ⟨x2, _, e2, q2⟩ := dat176 F k2
  obtain ⟨x3, rfl, _⟩ := dat_int F.und3 k3
  obtain ⟨x4, _, e4, q4⟩ := dat177 F k4
  obtain ⟨x5, rfl, _⟩ := dat_int F.und3 k5
  obtain ⟨x6, _, e6, q6⟩ := dat177 F k6
  exact ⟨⟨x0, x1, x2, x3, x4, x5, x6⟩, by simp [Dat.cells, Dat.cellsF, e2, e4, e6, DLink.c], ⟨q2, q4, q6⟩⟩
theorem dat54 {P : Program} {f171 f75 f93 f219 f174 f221 f223 f179 f73 f77 f117 f56 : Array Field} (F : Facts P f171 f75 f93 f219 f174 f221 f223 f179 f73 f77 f117 f56) {n : Nat} {d : Dat} (h : Dat.ok P (n + 5) 54 d) : ∃ l : List DLink, d.av = .vs false 7 false (l.map (DLink.c false)) ∧ d.cells = [.vs false 7 false (l.map (DLink.c false))] ∧ l.length ≤ maxLen ∧ ∀ x ∈ l, x.ok maxLen := by
  obtain ⟨xs, rfl, hm, hx⟩ := dat_sl F.und54 h
  obtain ⟨zs, e1, e2, e3⟩ := dat_listQ (DLink.c false) (DLink.ok maxLen) (fun d hd => by have := dat179 F hd; exact this) hx
  exact ⟨zs, by simp only [Dat.av, AM.sl, F.cel179, e2], by simp only [Dat.cells, AM.sl, F.cel179, e2], by omega, e3⟩
theorem dat73 {P : Program} {f171 f75 f93 f219 f174 f221 f223 f179 f73 f77 f117 f56 : Array Field} (F : Facts P f171 f75 f93 f219 f174 f221 f223 f179 f73 f77 f117 f56) {n : Nat} {d : Dat} (h : Dat.ok P (n + 2) 73 d) : ∃ x : DWire, d.cells = x.c false := by
  obtain ⟨ds, rfl, hh⟩ := dat_struct F.und73 h
  rw [F.fls73] at hh
  obtain ⟨d0, ds, rfl, k0, hh⟩ := DatAll.cons hh
  obtain ⟨d1, ds, rfl, k1, hh⟩ := DatAll.cons hh
  obtain rfl := DatAll.nil hh
  obtain ⟨x0, rfl, _⟩ := dat_int F.und3 k0
  obtain ⟨x1, rfl, _⟩ := dat_int F.und3 k1
  exact ⟨⟨x0, x1⟩, by simp [Dat.cells, Dat.cellsF, DWire.c]⟩
theorem dat72 {P : Program} {f171 f75 f93 f219 f174 f221 f223 f179 f73 f77 f117 f56 : Array Field} (F : Facts P f171 f75 f93 f219 f174 f221 f223 f179 f73 f77 f117 f56) {n : Nat} {d : Dat} (h : Dat.ok P (n + 3) 72 d) : ∃ l : List DWire, d.av = .vs false 2 false (l.map (DWire.c false)) ∧ d.cells = [.vs false 2 false (l.map (DWire.c false))] ∧ l.length ≤ maxLen := by
  obtain ⟨xs, rfl, hm, hx⟩ := dat_sl F.und72 h
  obtain ⟨zs, e1, e2, e3⟩ := dat_listQ (DWire.c false) (fun _ => True) (fun d hd => by have := dat73 F hd; obtain ⟨x, hx⟩ := this; exact ⟨x, hx, trivial⟩) hx
  exact ⟨zs, by simp only [Dat.av, AM.sl, F.cel73, e2], by simp only [Dat.cells, AM.sl, F.cel73, e2], by omega⟩
theorem dat77 {P : Program} {f171 f75 f93 f219 f174 f221 f223 f179 f73 f77 f117 f56 : Array Field} (F : Facts P f171 f75 f93 f219 f174 f221 f223 f179 f73 f77 f117 f56) {n : Nat} {d : Dat} (h : Dat.ok P (n + 4) 77 d) : ∃ x : DMessage, d.cells = x.c false ∧ x.ok maxLen := by
  obtain ⟨ds, rfl, hh⟩ := dat_struct F.und77 h
  rw [F.fls77] at hh
  obtain ⟨d0, ds, rfl, k0, hh⟩ := DatAll.cons hh
  obtain ⟨d1, ds, rfl, k1, hh⟩ := DatAll.cons hh
  obtain ⟨d2, ds, rfl, k2, hh⟩ := DatAll.cons hh
  obtain ⟨d3, ds, rfl, k3, hh⟩ := DatAll.cons hh
  obtain ⟨d4, ds, rfl, k4, hh⟩ := DatAll.cons hh
  obtain ⟨d5, ds, rfl, k5, hh⟩ := DatAll.cons hh
  obtain ⟨d6, ds, rfl, k6, hh⟩ := DatAll.cons hh
  obtain ⟨d7, ds, rfl, k7, hh⟩ := DatAll.cons hh
  obtain ⟨d8, ds, rfl, k8, hh⟩ := DatAll.cons hh
  obtain rfl := DatAll.nil hh
  obtain ⟨x0, rfl, _⟩ := dat_int F.und3 k0
  obtain ⟨x1, rfl, _⟩ := dat_int F.und3 k1
  obtain ⟨x2, rfl, _⟩ := dat_int F.und3 k2
  obtain ⟨x3, rfl, _⟩ := dat_int F.und3 k3
  obtain ⟨x4, rfl, q4⟩ := dat_str F.und9 k4
  obtain ⟨x5, _, e5, q5⟩ := dat72 F k5
  obtain ⟨x6, e6⟩ := dat73 F k6
  obtain ⟨x7, rfl, _⟩ := dat_int F.und3 k7
  obtain ⟨x8, e8⟩ := dat75 F k8
  exact ⟨⟨x0, x1, x2, x3, x4, x5, x6, x7, x8⟩, by simp [Dat.cells, Dat.cellsF, e5, e6, e8, DMessage.c, DTag.c, DWire.c], ⟨q4, q5⟩⟩
theorem dat117 {P : Program} {f171 f75 f93 f219 f174 f221 f223 f179 f73 f77 f117 f56 : Array Field} (F : Facts P f171 f75 f93 f219 f174 f221 f223 f179 f73 f77 f117 f56) {n : Nat} {d : Dat} (h : Dat.ok P (n + 5) 117 d) : ∃ x : DOutgoing, d.cells = x.c false ∧ x.ok maxLen := by
  obtain ⟨ds, rfl, hh⟩ := dat_struct F.und117 h
  rw [F.fls117] at hh
  obtain ⟨d0, ds, rfl, k0, hh⟩ := DatAll.cons hh
  obtain ⟨d1, ds, rfl, k1, hh⟩ := DatAll.cons hh
  obtain rfl := DatAll.nil hh
  obtain ⟨x0, rfl, _⟩ := dat_int F.und3 k0
  obtain ⟨x1, e1, q1⟩ := dat77 F k1
  exact ⟨⟨x0, x1⟩, by simp [Dat.cells, Dat.cellsF, e1, DOutgoing.c, DMessage.c], q1⟩
theorem dat47 {P : Program} {f171 f75 f93 f219 f174 f221 f223 f179 f73 f77 f117 f56 : Array Field} (F : Facts P f171 f75 f93 f219 f174 f221 f223 f179 f73 f77 f117 f56) {n : Nat} {d : Dat} (h : Dat.ok P (n + 6) 47 d) : ∃ l : List DOutgoing, d.av = .vs false 13 false (l.map (DOutgoing.c false)) ∧ d.cells = [.vs false 13 false (l.map (DOutgoing.c false))] ∧ l.length ≤ maxLen ∧ ∀ x ∈ l, x.ok maxLen := by
  obtain ⟨xs, rfl, hm, hx⟩ := dat_sl F.und47 h
  obtain ⟨zs, e1, e2, e3⟩ := dat_listQ (DOutgoing.c false) (DOutgoing.ok maxLen) (fun d hd => by have := dat117 F hd; exact this) hx
  exact ⟨zs, by simp only [Dat.av, AM.sl, F.cel117, e2], by simp only [Dat.cells, AM.sl, F.cel117, e2], by omega, e3⟩
theorem dat56 {P : Program} {f171 f75 f93 f219 f174 f221 f223 f179 f73 f77 f117 f56 : Array Field} (F : Facts P f171 f75 f93 f219 f174 f221 f223 f179 f73 f77 f117 f56) {n : Nat} {d : Dat} (h : Dat.ok P (n + 8) 56 d) : ∃ x : DVat, d.cells = x.c false ∧ x.ok maxLen := by
  obtain ⟨ds, rfl, hh⟩ := dat_struct F.und56 h
  rw [F.fls56] at hh
  obtain ⟨d0, ds, rfl, k0, hh⟩ := DatAll.cons hh
  obtain ⟨d1, ds, rfl, k1, hh⟩ := DatAll.cons hh
  obtain ⟨d2, ds, rfl, k2, hh⟩ := DatAll.cons hh
  obtain ⟨d3, ds, rfl, k3, hh⟩ := DatAll.cons hh
  obtain ⟨d4, ds, rfl, k4, hh⟩ := DatAll.cons hh
  obtain rfl := DatAll.nil hh
  obtain ⟨x0, rfl, _⟩ := dat_int F.und3 k0
  obtain ⟨x1, _, e1, q1, r1⟩ := dat53 F k1
  obtain ⟨x2, _, e2, q2, r2⟩ := dat22 F k2
  obtain ⟨x3, _, e3, q3, r3⟩ := dat54 F k3
  obtain ⟨x4, _, e4, q4, r4⟩ := dat47 F k4
  exact ⟨⟨x0, x1, x2, x3, x4⟩, by simp [Dat.cells, Dat.cellsF, e1, e2, e3, e4, DVat.c], ⟨q1, r1, q2, r2, q3, r3, q4, r4⟩⟩
theorem facts : Facts Try.prog gfl171 gfl75 gfl93 gfl219 gfl174 gfl221 gfl223 gfl179 gfl73 gfl77 gfl117 gfl56 := ⟨by kernel_rfl, by kernel_rfl, by kernel_rfl, by kernel_rfl, by kernel_rfl, by kernel_rfl, by kernel_rfl, by kernel_rfl, by kernel_rfl, by kernel_rfl, by kernel_rfl, by kernel_rfl, by kernel_rfl, by kernel_rfl, by kernel_rfl, by kernel_rfl, by kernel_rfl, by kernel_rfl, by kernel_rfl, by kernel_rfl, by kernel_rfl, by kernel_rfl, by kernel_rfl, by kernel_rfl, by kernel_rfl, by kernel_rfl, by kernel_rfl, by kernel_rfl, by kernel_rfl, by kernel_rfl, by kernel_rfl, by kernel_rfl, by kernel_rfl, by kernel_rfl, by kernel_rfl, by kernel_rfl, by kernel_rfl, by kernel_rfl, by kernel_rfl, by kernel_rfl, by kernel_rfl, by kernel_rfl, by kernel_rfl, by kernel_rfl, by kernel_rfl⟩
set_option maxRecDepth 100000 in
theorem fnExactNewLoop_walk (ds : List Dat) (h : DatAll Try.prog 8 Try.f11.params.toList ds) : T Try.prog (fun _ => none) 11 (ds.map Dat.av) [] fun v _ => v = .bool true := by
  have hp : Try.f11.params.toList = [56, 56] := by kernel_rfl
  obtain ⟨d0, ds, rfl, k0, h⟩ := DatAll.cons (hp ▸ h : DatAll Try.prog 8 [56, 56] ds)
  obtain ⟨d1, ds, rfl, k1, h⟩ := DatAll.cons h
  obtain rfl := DatAll.nil h
  obtain ⟨x0, c0, q0⟩ := dat56 facts (n := 0) k0
  have e0 : d0.av = .agg (x0.c false) := dat_agg facts.und56 k0 c0
  obtain ⟨x1, c1, q1⟩ := dat56 facts (n := 0) k1
  have e1 : d1.av = .agg (x1.c false) := dat_agg facts.und56 k1 c1
  have := law_NewLoop (Γ := fun _ => none) x0 q0 x1 q1 []
  rw [← e0, ← e1] at this
  exact this.mono fun v h' hv => hv.1
set_option maxRecDepth 100000 in
theorem fnExactNewLoop_lifted (os : Os) (started : os.Started) (H : Type) (enc : TypeId × Value → H) :
    ReturnsInHanded {} Try.checked os 11 .any (Rows.fnExactNewLoopSpec.pre6 enc Try.prog Try.f11 Rows.fnExactNewLoopRow.domain false) (Rows.fnExactNewLoopSpec.post enc Try.prog Try.f11 false true false false) := by
  refine returnsInHanded_of_change (C := Try.checked) own started (by kernel_rfl) Try.func11
    (ChangeSpec.witness6 (enc := enc) (C := Try.checked) false ⟨#[], #[.agg #[.int .i64 0, .slice none 0 0, .slice none 0 0, .slice none 0 0, .slice none 0 0], .agg #[.int .i64 0, .slice none 0 0, .slice none 0 0, .slice none 0 0, .slice none 0 0]], []⟩ 11 (by kernel_rfl) (by kernel_rfl) (by kernel_rfl) (by kernel_rfl)) ?_
  intro W base args ds gs before hval hW hcnd _
  refine law_post (n := 8) (tb := 4) (by decide +kernel) rfl (by kernel_rfl) (by kernel_rfl) (fun xs hx => ?_) fnExactNewLoop_walk hval hW
  have hp : Try.f11.params.toList.length = 2 := by kernel_rfl
  rw [hp] at hx
  match xs, hx with
  | [_, _], _ => rfl
theorem fnExactNewLoop_over : Rows.fnExactNewLoopRow.holds Try.pinned (OpenSpec.ofChange Rows.fnExactNewLoopSpec) :=
  OpenClaim.holds_of_wide 11 Try.f11 rfl rfl rfl rfl rfl rfl rfl ⟨rfl, rfl, rfl, rfl, rfl⟩ rfl rfl rfl rfl rfl (by kernel_rfl) Try.func11 (by kernel_rfl)
    (of_decide_eq_true (by kernel_rfl)) (by unfold Func.isWrapper; first | (rw [if_pos (by decide +kernel)]; kernel_rfl) | (rw [if_neg (by decide +kernel)]; exact ⟨rfl, rfl⟩))
    (fun os started H enc _ => fnExactNewLoop_lifted os started H enc)
/-- THE STATEMENT. -/
theorem fnExactNewLoop_proved : Rows.FnExactNewLoopSaid := fnExactNewLoop_over
#print axioms fnExactNewLoop_proved
end Go.Proofs.Ytjmcfdhklogpkaa
