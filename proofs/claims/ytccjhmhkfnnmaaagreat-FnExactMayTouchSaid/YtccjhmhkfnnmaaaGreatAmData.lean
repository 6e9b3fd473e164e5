import Derived.Test.YtccjhmhkfnnmaaaGreatAmOwn
set_option linter.unusedVariables false
set_option linter.unusedSimpArgs false
namespace Go.AM
set_option linter.unusedVariables false
structure DValue where
  kind : Int
  n : Int
  deriving DecidableEq, Inhabited
def DValue.cd (x : DValue) : List CD := [.i .i64 x.kind, .i .i64 x.n]
def DValue.c (β : Bool) (x : DValue) : List AV := [.int .i64 x.kind, .int .i64 x.n]
theorem DValue.c_eq (β : Bool) (x : DValue) : x.cd.map (CD.av β) = x.c β := by simp [DValue.cd, DValue.c, CD.av_i, CD.av_b, CD.av_s, CD.av_sl, Function.comp_def]
theorem DValue.c_len (β : Bool) (x : DValue) : (x.c β).length = 2 := rfl
theorem DValue.c_noLp (β : Bool) (x : DValue) : (x.c β).all noLp = true := rfl
structure DTag where
  vat : Int
  entity : Int
  seq : Int
  deriving DecidableEq, Inhabited
def DTag.cd (x : DTag) : List CD := [.i .i64 x.vat, .i .i64 x.entity, .i .i64 x.seq]
def DTag.c (β : Bool) (x : DTag) : List AV := [.int .i64 x.vat, .int .i64 x.entity, .int .i64 x.seq]
theorem DTag.c_eq (β : Bool) (x : DTag) : x.cd.map (CD.av β) = x.c β := by simp [DTag.cd, DTag.c, CD.av_i, CD.av_b, CD.av_s, CD.av_sl, Function.comp_def]
theorem DTag.c_len (β : Bool) (x : DTag) : (x.c β).length = 3 := rfl
theorem DTag.c_noLp (β : Bool) (x : DTag) : (x.c β).all noLp = true := rfl
structure DSent where
  target : Int
  name : ByteArray
  args : List DValue
  result : Int
  tag : DTag
  deriving DecidableEq, Inhabited
def DSent.cd (x : DSent) : List CD := [.i .i64 x.target, .s x.name, .sl 2 (x.args.map DValue.cd), .i .i64 x.result, .i .i64 x.tag.vat, .i .i64 x.tag.entity, .i .i64 x.tag.seq]
def DSent.c (β : Bool) (x : DSent) : List AV := [.int .i64 x.target, .str x.name, .vs β 2 false (x.args.map (DValue.c β)), .int .i64 x.result, .int .i64 x.tag.vat, .int .i64 x.tag.entity, .int .i64 x.tag.seq]
theorem DSent.c_eq (β : Bool) (x : DSent) : x.cd.map (CD.av β) = x.c β := by simp [DSent.cd, DSent.c, CD.av_i, CD.av_b, CD.av_s, CD.av_sl, Function.comp_def, DValue.c_eq]
theorem DSent.c_len (β : Bool) (x : DSent) : (x.c β).length = 7 := rfl
theorem DSent.c_noLp (β : Bool) (x : DSent) : (x.c β).all noLp = true := rfl
def DSent.ok (N : Nat) (x : DSent) : Prop := (x.name.size ≤ N) ∧ (x.args.length ≤ N)
theorem DSent.ok.mono {N M : Nat} (hN : N ≤ M) {x : DSent} (h : x.ok N) : x.ok M := ⟨Nat.le_trans h.1 hN, Nat.le_trans h.2 hN⟩
structure DAsker where
  peer : Int
  question : Int
  deriving DecidableEq, Inhabited
def DAsker.cd (x : DAsker) : List CD := [.i .i64 x.peer, .i .i64 x.question]
def DAsker.c (β : Bool) (x : DAsker) : List AV := [.int .i64 x.peer, .int .i64 x.question]
theorem DAsker.c_eq (β : Bool) (x : DAsker) : x.cd.map (CD.av β) = x.c β := by simp [DAsker.cd, DAsker.c, CD.av_i, CD.av_b, CD.av_s, CD.av_sl, Function.comp_def]
theorem DAsker.c_len (β : Bool) (x : DAsker) : (x.c β).length = 2 := rfl
theorem DAsker.c_noLp (β : Bool) (x : DAsker) : (x.c β).all noLp = true := rfl
structure DEntity where
  kind : Int
  script : Int
  slots : List DValue
  state : Int
  value : DValue
  queue : List DSent
  askers : List DAsker
  peer : Int
  pos : Int
  count : Int
  sent : Int
  deriving DecidableEq, Inhabited
def DEntity.cd (x : DEntity) : List CD := [.i .i64 x.kind, .i .i64 x.script, .sl 2 (x.slots.map DValue.cd), .i .i64 x.state, .i .i64 x.value.kind, .i .i64 x.value.n, .sl 7 (x.queue.map DSent.cd), .sl 2 (x.askers.map DAsker.cd), .i .i64 x.peer, .i .i64 x.pos, .i .i64 x.count, .i .i64 x.sent]
def DEntity.c (β : Bool) (x : DEntity) : List AV := [.int .i64 x.kind, .int .i64 x.script, .vs β 2 false (x.slots.map (DValue.c β)), .int .i64 x.state, .int .i64 x.value.kind, .int .i64 x.value.n, .vs β 7 false (x.queue.map (DSent.c β)), .vs β 2 false (x.askers.map (DAsker.c β)), .int .i64 x.peer, .int .i64 x.pos, .int .i64 x.count, .int .i64 x.sent]
theorem DEntity.c_eq (β : Bool) (x : DEntity) : x.cd.map (CD.av β) = x.c β := by simp [DEntity.cd, DEntity.c, CD.av_i, CD.av_b, CD.av_s, CD.av_sl, Function.comp_def, DAsker.c_eq, DSent.c_eq, DValue.c_eq]
theorem DEntity.c_len (β : Bool) (x : DEntity) : (x.c β).length = 12 := rfl
theorem DEntity.c_noLp (β : Bool) (x : DEntity) : (x.c β).all noLp = true := rfl
def DEntity.ok (N : Nat) (x : DEntity) : Prop := (x.slots.length ≤ N) ∧ (x.queue.length ≤ N) ∧ (∀ y ∈ x.queue, y.ok N) ∧ (x.askers.length ≤ N)
theorem DEntity.ok.mono {N M : Nat} (hN : N ≤ M) {x : DEntity} (h : x.ok N) : x.ok M := ⟨Nat.le_trans h.1 hN, Nat.le_trans h.2.1 hN, fun y hy => (h.2.2.1 y hy).mono hN, Nat.le_trans h.2.2.2 hN⟩
structure DExport where
  pos : Int
  entity : Int
  count : Int
  deriving DecidableEq, Inhabited
def DExport.cd (x : DExport) : List CD := [.i .i64 x.pos, .i .i64 x.entity, .i .i64 x.count]
def DExport.c (β : Bool) (x : DExport) : List AV := [.int .i64 x.pos, .int .i64 x.entity, .int .i64 x.count]
theorem DExport.c_eq (β : Bool) (x : DExport) : x.cd.map (CD.av β) = x.c β := by simp [DExport.cd, DExport.c, CD.av_i, CD.av_b, CD.av_s, CD.av_sl, Function.comp_def]
theorem DExport.c_len (β : Bool) (x : DExport) : (x.c β).length = 3 := rfl
theorem DExport.c_noLp (β : Bool) (x : DExport) : (x.c β).all noLp = true := rfl
structure DQuestion where
  id : Int
  promise : Int
  deriving DecidableEq, Inhabited
def DQuestion.cd (x : DQuestion) : List CD := [.i .i64 x.id, .i .i64 x.promise]
def DQuestion.c (β : Bool) (x : DQuestion) : List AV := [.int .i64 x.id, .int .i64 x.promise]
theorem DQuestion.c_eq (β : Bool) (x : DQuestion) : x.cd.map (CD.av β) = x.c β := by simp [DQuestion.cd, DQuestion.c, CD.av_i, CD.av_b, CD.av_s, CD.av_sl, Function.comp_def]
theorem DQuestion.c_len (β : Bool) (x : DQuestion) : (x.c β).length = 2 := rfl
theorem DQuestion.c_noLp (β : Bool) (x : DQuestion) : (x.c β).all noLp = true := rfl
structure DLink where
  peer : Int
  up : Bool
  exports : List DExport
  next : Int
  questions : List DQuestion
  asked : Int
  answers : List DQuestion
  deriving DecidableEq, Inhabited
def DLink.cd (x : DLink) : List CD := [.i .i64 x.peer, .b x.up, .sl 3 (x.exports.map DExport.cd), .i .i64 x.next, .sl 2 (x.questions.map DQuestion.cd), .i .i64 x.asked, .sl 2 (x.answers.map DQuestion.cd)]
def DLink.c (β : Bool) (x : DLink) : List AV := [.int .i64 x.peer, .bool x.up, .vs β 3 false (x.exports.map (DExport.c β)), .int .i64 x.next, .vs β 2 false (x.questions.map (DQuestion.c β)), .int .i64 x.asked, .vs β 2 false (x.answers.map (DQuestion.c β))]
theorem DLink.c_eq (β : Bool) (x : DLink) : x.cd.map (CD.av β) = x.c β := by simp [DLink.cd, DLink.c, CD.av_i, CD.av_b, CD.av_s, CD.av_sl, Function.comp_def, DExport.c_eq, DQuestion.c_eq]
theorem DLink.c_len (β : Bool) (x : DLink) : (x.c β).length = 7 := rfl
theorem DLink.c_noLp (β : Bool) (x : DLink) : (x.c β).all noLp = true := rfl
def DLink.ok (N : Nat) (x : DLink) : Prop := (x.exports.length ≤ N) ∧ (x.questions.length ≤ N) ∧ (x.answers.length ≤ N)
theorem DLink.ok.mono {N M : Nat} (hN : N ≤ M) {x : DLink} (h : x.ok N) : x.ok M := ⟨Nat.le_trans h.1 hN, Nat.le_trans h.2.1 hN, Nat.le_trans h.2.2 hN⟩
structure DWire where
  kind : Int
  n : Int
  deriving DecidableEq, Inhabited
def DWire.cd (x : DWire) : List CD := [.i .i64 x.kind, .i .i64 x.n]
def DWire.c (β : Bool) (x : DWire) : List AV := [.int .i64 x.kind, .int .i64 x.n]
theorem DWire.c_eq (β : Bool) (x : DWire) : x.cd.map (CD.av β) = x.c β := by simp [DWire.cd, DWire.c, CD.av_i, CD.av_b, CD.av_s, CD.av_sl, Function.comp_def]
theorem DWire.c_len (β : Bool) (x : DWire) : (x.c β).length = 2 := rfl
theorem DWire.c_noLp (β : Bool) (x : DWire) : (x.c β).all noLp = true := rfl
structure DMessage where
  kind : Int
  pos : Int
  answer : Int
  question : Int
  name : ByteArray
  args : List DWire
  value : DWire
  count : Int
  tag : DTag
  deriving DecidableEq, Inhabited
def DMessage.cd (x : DMessage) : List CD := [.i .i64 x.kind, .i .i64 x.pos, .i .i64 x.answer, .i .i64 x.question, .s x.name, .sl 2 (x.args.map DWire.cd), .i .i64 x.value.kind, .i .i64 x.value.n, .i .i64 x.count, .i .i64 x.tag.vat, .i .i64 x.tag.entity, .i .i64 x.tag.seq]
def DMessage.c (β : Bool) (x : DMessage) : List AV := [.int .i64 x.kind, .int .i64 x.pos, .int .i64 x.answer, .int .i64 x.question, .str x.name, .vs β 2 false (x.args.map (DWire.c β)), .int .i64 x.value.kind, .int .i64 x.value.n, .int .i64 x.count, .int .i64 x.tag.vat, .int .i64 x.tag.entity, .int .i64 x.tag.seq]
theorem DMessage.c_eq (β : Bool) (x : DMessage) : x.cd.map (CD.av β) = x.c β := by simp [DMessage.cd, DMessage.c, CD.av_i, CD.av_b, CD.av_s, CD.av_sl, Function.comp_def, DWire.c_eq]
theorem DMessage.c_len (β : Bool) (x : DMessage) : (x.c β).length = 12 := rfl
theorem DMessage.c_noLp (β : Bool) (x : DMessage) : (x.c β).all noLp = true := rfl
def DMessage.ok (N : Nat) (x : DMessage) : Prop := (x.name.size ≤ N) ∧ (x.args.length ≤ N)
theorem DMessage.ok.mono {N M : Nat} (hN : N ≤ M) {x : DMessage} (h : x.ok N) : x.ok M := ⟨Nat.le_trans h.1 hN, Nat.le_trans h.2 hN⟩
structure DOutgoing where
  to_ : Int
  message : DMessage
  deriving DecidableEq, Inhabited
def DOutgoing.cd (x : DOutgoing) : List CD := [.i .i64 x.to_, .i .i64 x.message.kind, .i .i64 x.message.pos, .i .i64 x.message.answer, .i .i64 x.message.question, .s x.message.name, .sl 2 (x.message.args.map DWire.cd), .i .i64 x.message.value.kind, .i .i64 x.message.value.n, .i .i64 x.message.count, .i .i64 x.message.tag.vat, .i .i64 x.message.tag.entity, .i .i64 x.message.tag.seq]
def DOutgoing.c (β : Bool) (x : DOutgoing) : List AV := [.int .i64 x.to_, .int .i64 x.message.kind, .int .i64 x.message.pos, .int .i64 x.message.answer, .int .i64 x.message.question, .str x.message.name, .vs β 2 false (x.message.args.map (DWire.c β)), .int .i64 x.message.value.kind, .int .i64 x.message.value.n, .int .i64 x.message.count, .int .i64 x.message.tag.vat, .int .i64 x.message.tag.entity, .int .i64 x.message.tag.seq]
theorem DOutgoing.c_eq (β : Bool) (x : DOutgoing) : x.cd.map (CD.av β) = x.c β := by simp [DOutgoing.cd, DOutgoing.c, CD.av_i, CD.av_b, CD.av_s, CD.av_sl, Function.comp_def, DWire.c_eq]
theorem DOutgoing.c_len (β : Bool) (x : DOutgoing) : (x.c β).length = 13 := rfl
theorem DOutgoing.c_noLp (β : Bool) (x : DOutgoing) : (x.c β).all noLp = true := rfl
def DOutgoing.ok (N : Nat) (x : DOutgoing) : Prop := (x.message.ok N)
theorem DOutgoing.ok.mono {N M : Nat} (hN : N ≤ M) {x : DOutgoing} (h : x.ok N) : x.ok M := DMessage.ok.mono hN h
structure DVat where
  id : Int
  entities : List DEntity
  loop : List DSent
  links : List DLink
  out : List DOutgoing
  deriving DecidableEq, Inhabited
def DVat.cd (x : DVat) : List CD := [.i .i64 x.id, .sl 12 (x.entities.map DEntity.cd), .sl 7 (x.loop.map DSent.cd), .sl 7 (x.links.map DLink.cd), .sl 13 (x.out.map DOutgoing.cd)]
def DVat.c (β : Bool) (x : DVat) : List AV := [.int .i64 x.id, .vs β 12 false (x.entities.map (DEntity.c β)), .vs β 7 false (x.loop.map (DSent.c β)), .vs β 7 false (x.links.map (DLink.c β)), .vs β 13 false (x.out.map (DOutgoing.c β))]
theorem DVat.c_eq (β : Bool) (x : DVat) : x.cd.map (CD.av β) = x.c β := by simp [DVat.cd, DVat.c, CD.av_i, CD.av_b, CD.av_s, CD.av_sl, Function.comp_def, DEntity.c_eq, DLink.c_eq, DOutgoing.c_eq, DSent.c_eq]
theorem DVat.c_len (β : Bool) (x : DVat) : (x.c β).length = 5 := rfl
theorem DVat.c_noLp (β : Bool) (x : DVat) : (x.c β).all noLp = true := rfl
def DVat.ok (N : Nat) (x : DVat) : Prop := (x.entities.length ≤ N) ∧ (∀ y ∈ x.entities, y.ok N) ∧ (x.loop.length ≤ N) ∧ (∀ y ∈ x.loop, y.ok N) ∧ (x.links.length ≤ N) ∧ (∀ y ∈ x.links, y.ok N) ∧ (x.out.length ≤ N) ∧ (∀ y ∈ x.out, y.ok N)
theorem DVat.ok.mono {N M : Nat} (hN : N ≤ M) {x : DVat} (h : x.ok N) : x.ok M := ⟨Nat.le_trans h.1 hN, fun y hy => (h.2.1 y hy).mono hN, Nat.le_trans h.2.2.1 hN, fun y hy => (h.2.2.2.1 y hy).mono hN, Nat.le_trans h.2.2.2.2.1 hN, fun y hy => (h.2.2.2.2.2.1 y hy).mono hN, Nat.le_trans h.2.2.2.2.2.2.1 hN, fun y hy => (h.2.2.2.2.2.2.2 y hy).mono hN⟩
end Go.AM
