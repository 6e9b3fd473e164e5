import Derived.Test.YtleddolmolkpfaaAmOwn
set_option linter.unusedVariables false
set_option linter.unusedSimpArgs false
namespace Go.AM
set_option linter.unusedVariables false
structure DExport where
  pos : Int
  entity : Int
  count : Int
  deriving DecidableEq, Inhabited
def DExport.cd (x : DExport) : List CD := [.i .i64 x.pos, .i .i64 x.entity, .i .i64 x.count]
def DExport.c (β : Bool) (x : DExport) : List AV := [.int .i64 x.pos, .int .i64 x.entity, .int .i64 x.count]
theorem DExport.c_eq (β : Bool) (x : DExport) : x.cd.map (CD.av β) = x.c β := by simp [DExport.cd, DExport.c, CD.av_i, CD.av_b, CD.av_s, CD.av_sl, Function.comp_def]
theorem DExport.c_len (β : Bool) (x : DExport) : (x.c β).length = 3 := rfl
theorem DExport.c_noLp (β : Bool) (x : DExport) : (x.c β).all noLp = true := rfl
theorem DExport.dec (x y : DExport) : (x.pos = y.pos ∧ x.entity = y.entity ∧ x.count = y.count) = (x = y) := by cases x; cases y; simp
structure DQuestion where
  id : Int
  promise : Int
  deriving DecidableEq, Inhabited
def DQuestion.cd (x : DQuestion) : List CD := [.i .i64 x.id, .i .i64 x.promise]
def DQuestion.c (β : Bool) (x : DQuestion) : List AV := [.int .i64 x.id, .int .i64 x.promise]
theorem DQuestion.c_eq (β : Bool) (x : DQuestion) : x.cd.map (CD.av β) = x.c β := by simp [DQuestion.cd, DQuestion.c, CD.av_i, CD.av_b, CD.av_s, CD.av_sl, Function.comp_def]
theorem DQuestion.c_len (β : Bool) (x : DQuestion) : (x.c β).length = 2 := rfl
theorem DQuestion.c_noLp (β : Bool) (x : DQuestion) : (x.c β).all noLp = true := rfl
theorem DQuestion.dec (x y : DQuestion) : (x.id = y.id ∧ x.promise = y.promise) = (x = y) := by cases x; cases y; simp
structure DLink where
  peer : Int
  up : Bool
  exports : List DExport
  next : Int
  questions : List DQuestion
  asked : Int
  answers : List DQuestion
  deriving DecidableEq, Inhabited
def DLink.cd (x : DLink) : List CD := [.i .i64 x.peer, .b x.up, .sl 3 (x.exports.map DExport.cd), .i .i64 x.next, .sl 2 (x.questions.map DQuestion.cd), .i .i64 x.asked, .sl 2 (x.answers.map DQuestion.cd)]
def DLink.c (β : Bool) (x : DLink) : List AV := [.int .i64 x.peer, .bool x.up, .vs β 3 false (x.exports.map (DExport.c β)), .int .i64 x.next, .vs β 2 false (x.questions.map (DQuestion.c β)), .int .i64 x.asked, .vs β 2 false (x.answers.map (DQuestion.c β))]
theorem DLink.c_eq (β : Bool) (x : DLink) : x.cd.map (CD.av β) = x.c β := by simp [DLink.cd, DLink.c, CD.av_i, CD.av_b, CD.av_s, CD.av_sl, Function.comp_def, DExport.c_eq, DQuestion.c_eq]
theorem DLink.c_len (β : Bool) (x : DLink) : (x.c β).length = 7 := rfl
theorem DLink.c_noLp (β : Bool) (x : DLink) : (x.c β).all noLp = true := rfl
def DLink.ok (N : Nat) (x : DLink) : Prop := (x.exports.length ≤ N) ∧ (x.questions.length ≤ N) ∧ (x.answers.length ≤ N)
theorem DLink.ok.mono {N M : Nat} (hN : N ≤ M) {x : DLink} (h : x.ok N) : x.ok M := ⟨Nat.le_trans h.1 hN, Nat.le_trans h.2.1 hN, Nat.le_trans h.2.2 hN⟩
end Go.AM

