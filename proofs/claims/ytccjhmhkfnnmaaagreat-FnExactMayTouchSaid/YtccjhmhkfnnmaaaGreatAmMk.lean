import Derived.Test.YtccjhmhkfnnmaaaGreatAmMark
set_option linter.unusedVariables false
set_option linter.unusedSimpArgs false
namespace Go.AM
set_option linter.unusedVariables false
def digN (n : Nat) (out : ByteArray) : ByteArray := if h : n = 0 then out else digN (n / 10) (⟨#[UInt8.ofNat (48 + n % 10)]⟩ ++ out)
termination_by n
decreasing_by omega
def markT (k : Int) : ByteArray := if k ≤ 0 then ⟨#[109, 48]⟩ else ⟨#[109]⟩ ++ digN k.toNat ⟨#[]⟩
def DValue.cnt (x : DValue) : Int := 2
def DValue.mk_ (x : DValue) (k : Int) : DValue := ⟨k, k + 1⟩
theorem DValue.cnt_nn (x : DValue) : 0 ≤ x.cnt := by unfold DValue.cnt; omega
theorem DValue.cnt_le (x : DValue) : x.cnt ≤ 2 := by unfold DValue.cnt; omega
def DTag.cnt (x : DTag) : Int := 3
def DTag.mk_ (x : DTag) (k : Int) : DTag := ⟨k, k + 1, k + 2⟩
theorem DTag.cnt_nn (x : DTag) : 0 ≤ x.cnt := by unfold DTag.cnt; omega
theorem DTag.cnt_le (x : DTag) : x.cnt ≤ 3 := by unfold DTag.cnt; omega
def DSent.cnt (x : DSent) : Int := 6 + cntL DValue.cnt x.args
def DSent.mk_ (x : DSent) (k : Int) : DSent := ⟨k, markT (k + 1), mkL DValue.mk_ DValue.cnt x.args (k + 2), k + 2 + cntL DValue.cnt x.args, ⟨k + 3 + cntL DValue.cnt x.args, k + 4 + cntL DValue.cnt x.args, k + 5 + cntL DValue.cnt x.args⟩⟩
theorem DSent.cnt_nn (x : DSent) : 0 ≤ x.cnt := by unfold DSent.cnt; have := cntL_nn (c := DValue.cnt) (DValue.cnt_nn) x.args; omega
theorem DSent.cnt_le (x : DSent) (h : x.ok 1048576) : x.cnt ≤ 2097158 := by
  have b0 := cntL_len (c := DValue.cnt) (C := 2) (l := x.args) (fun y hy => DValue.cnt_le y)
  have l0 : x.args.length ≤ 1048576 := h.2
  unfold DSent.cnt; omega
def DSent.mkA (x : DSent) (k : Int) : DSent := ⟨x.target, x.name, mkL DValue.mk_ DValue.cnt x.args (k), x.result, x.tag⟩
def DSent.cntA (x : DSent) : Int := 0 + cntL DValue.cnt x.args
def DAsker.cnt (x : DAsker) : Int := 2
def DAsker.mk_ (x : DAsker) (k : Int) : DAsker := ⟨k, k + 1⟩
theorem DAsker.cnt_nn (x : DAsker) : 0 ≤ x.cnt := by unfold DAsker.cnt; omega
theorem DAsker.cnt_le (x : DAsker) : x.cnt ≤ 2 := by unfold DAsker.cnt; omega
def DEntity.cnt (x : DEntity) : Int := 9 + cntL DValue.cnt x.slots + cntL DSent.cnt x.queue + cntL DAsker.cnt x.askers
def DEntity.mk_ (x : DEntity) (k : Int) : DEntity := ⟨k, k + 1, mkL DValue.mk_ DValue.cnt x.slots (k + 2), k + 2 + cntL DValue.cnt x.slots, ⟨k + 3 + cntL DValue.cnt x.slots, k + 4 + cntL DValue.cnt x.slots⟩, mkL DSent.mk_ DSent.cnt x.queue (k + 5 + cntL DValue.cnt x.slots), mkL DAsker.mk_ DAsker.cnt x.askers (k + 5 + cntL DValue.cnt x.slots + cntL DSent.cnt x.queue), k + 5 + cntL DValue.cnt x.slots + cntL DSent.cnt x.queue + cntL DAsker.cnt x.askers, k + 6 + cntL DValue.cnt x.slots + cntL DSent.cnt x.queue + cntL DAsker.cnt x.askers, k + 7 + cntL DValue.cnt x.slots + cntL DSent.cnt x.queue + cntL DAsker.cnt x.askers, k + 8 + cntL DValue.cnt x.slots + cntL DSent.cnt x.queue + cntL DAsker.cnt x.askers⟩
theorem DEntity.cnt_nn (x : DEntity) : 0 ≤ x.cnt := by unfold DEntity.cnt; have := cntL_nn (c := DValue.cnt) (DValue.cnt_nn) x.slots; have := cntL_nn (c := DSent.cnt) (DSent.cnt_nn) x.queue; have := cntL_nn (c := DAsker.cnt) (DAsker.cnt_nn) x.askers; omega
theorem DEntity.cnt_le (x : DEntity) (h : x.ok 1048576) : x.cnt ≤ 2199033741321 := by
  have b0 := cntL_len (c := DValue.cnt) (C := 2) (l := x.slots) (fun y hy => DValue.cnt_le y)
  have l0 : x.slots.length ≤ 1048576 := h.1
  have b1 := cntL_len (c := DSent.cnt) (C := 2097158) (l := x.queue) (fun y hy => DSent.cnt_le y (h.2.2.1 y hy))
  have l1 : x.queue.length ≤ 1048576 := h.2.1
  have b2 := cntL_len (c := DAsker.cnt) (C := 2) (l := x.askers) (fun y hy => DAsker.cnt_le y)
  have l2 : x.askers.length ≤ 1048576 := h.2.2.2
  unfold DEntity.cnt; omega
def DEntity.mkA (x : DEntity) (k : Int) : DEntity := ⟨x.kind, x.script, mkL DValue.mk_ DValue.cnt x.slots (k), x.state, x.value, mkL DSent.mk_ DSent.cnt x.queue (k + cntL DValue.cnt x.slots), mkL DAsker.mk_ DAsker.cnt x.askers (k + cntL DValue.cnt x.slots + cntL DSent.cnt x.queue), x.peer, x.pos, x.count, x.sent⟩
def DEntity.cntA (x : DEntity) : Int := 0 + cntL DValue.cnt x.slots + cntL DSent.cnt x.queue + cntL DAsker.cnt x.askers
def DExport.cnt (x : DExport) : Int := 3
def DExport.mk_ (x : DExport) (k : Int) : DExport := ⟨k, k + 1, k + 2⟩
theorem DExport.cnt_nn (x : DExport) : 0 ≤ x.cnt := by unfold DExport.cnt; omega
theorem DExport.cnt_le (x : DExport) : x.cnt ≤ 3 := by unfold DExport.cnt; omega
def DQuestion.cnt (x : DQuestion) : Int := 2
def DQuestion.mk_ (x : DQuestion) (k : Int) : DQuestion := ⟨k, k + 1⟩
theorem DQuestion.cnt_nn (x : DQuestion) : 0 ≤ x.cnt := by unfold DQuestion.cnt; omega
theorem DQuestion.cnt_le (x : DQuestion) : x.cnt ≤ 2 := by unfold DQuestion.cnt; omega
def DLink.cnt (x : DLink) : Int := 4 + cntL DExport.cnt x.exports + cntL DQuestion.cnt x.questions + cntL DQuestion.cnt x.answers
def DLink.mk_ (x : DLink) (k : Int) : DLink := ⟨k, decide ((k + 1) % 3 = 0), mkL DExport.mk_ DExport.cnt x.exports (k + 2), k + 2 + cntL DExport.cnt x.exports, mkL DQuestion.mk_ DQuestion.cnt x.questions (k + 3 + cntL DExport.cnt x.exports), k + 3 + cntL DExport.cnt x.exports + cntL DQuestion.cnt x.questions, mkL DQuestion.mk_ DQuestion.cnt x.answers (k + 4 + cntL DExport.cnt x.exports + cntL DQuestion.cnt x.questions)⟩
theorem DLink.cnt_nn (x : DLink) : 0 ≤ x.cnt := by unfold DLink.cnt; have := cntL_nn (c := DExport.cnt) (DExport.cnt_nn) x.exports; have := cntL_nn (c := DQuestion.cnt) (DQuestion.cnt_nn) x.questions; have := cntL_nn (c := DQuestion.cnt) (DQuestion.cnt_nn) x.answers; omega
theorem DLink.cnt_le (x : DLink) (h : x.ok 1048576) : x.cnt ≤ 7340036 := by
  have b0 := cntL_len (c := DExport.cnt) (C := 3) (l := x.exports) (fun y hy => DExport.cnt_le y)
  have l0 : x.exports.length ≤ 1048576 := h.1
  have b1 := cntL_len (c := DQuestion.cnt) (C := 2) (l := x.questions) (fun y hy => DQuestion.cnt_le y)
  have l1 : x.questions.length ≤ 1048576 := h.2.1
  have b2 := cntL_len (c := DQuestion.cnt) (C := 2) (l := x.answers) (fun y hy => DQuestion.cnt_le y)
  have l2 : x.answers.length ≤ 1048576 := h.2.2
  unfold DLink.cnt; omega
def DLink.mkA (x : DLink) (k : Int) : DLink := ⟨x.peer, x.up, mkL DExport.mk_ DExport.cnt x.exports (k), x.next, mkL DQuestion.mk_ DQuestion.cnt x.questions (k + cntL DExport.cnt x.exports), x.asked, mkL DQuestion.mk_ DQuestion.cnt x.answers (k + cntL DExport.cnt x.exports + cntL DQuestion.cnt x.questions)⟩
def DLink.cntA (x : DLink) : Int := 0 + cntL DExport.cnt x.exports + cntL DQuestion.cnt x.questions + cntL DQuestion.cnt x.answers
def DWire.cnt (x : DWire) : Int := 2
def DWire.mk_ (x : DWire) (k : Int) : DWire := ⟨k, k + 1⟩
theorem DWire.cnt_nn (x : DWire) : 0 ≤ x.cnt := by unfold DWire.cnt; omega
theorem DWire.cnt_le (x : DWire) : x.cnt ≤ 2 := by unfold DWire.cnt; omega
def DMessage.cnt (x : DMessage) : Int := 11 + cntL DWire.cnt x.args
def DMessage.mk_ (x : DMessage) (k : Int) : DMessage := ⟨k, k + 1, k + 2, k + 3, markT (k + 4), mkL DWire.mk_ DWire.cnt x.args (k + 5), ⟨k + 5 + cntL DWire.cnt x.args, k + 6 + cntL DWire.cnt x.args⟩, k + 7 + cntL DWire.cnt x.args, ⟨k + 8 + cntL DWire.cnt x.args, k + 9 + cntL DWire.cnt x.args, k + 10 + cntL DWire.cnt x.args⟩⟩
theorem DMessage.cnt_nn (x : DMessage) : 0 ≤ x.cnt := by unfold DMessage.cnt; have := cntL_nn (c := DWire.cnt) (DWire.cnt_nn) x.args; omega
theorem DMessage.cnt_le (x : DMessage) (h : x.ok 1048576) : x.cnt ≤ 2097163 := by
  have b0 := cntL_len (c := DWire.cnt) (C := 2) (l := x.args) (fun y hy => DWire.cnt_le y)
  have l0 : x.args.length ≤ 1048576 := h.2
  unfold DMessage.cnt; omega
def DMessage.mkA (x : DMessage) (k : Int) : DMessage := ⟨x.kind, x.pos, x.answer, x.question, x.name, mkL DWire.mk_ DWire.cnt x.args (k), x.value, x.count, x.tag⟩
def DMessage.cntA (x : DMessage) : Int := 0 + cntL DWire.cnt x.args
def DOutgoing.cnt (x : DOutgoing) : Int := 12 + cntL DWire.cnt x.message.args
def DOutgoing.mk_ (x : DOutgoing) (k : Int) : DOutgoing := ⟨k, ⟨k + 1, k + 2, k + 3, k + 4, markT (k + 5), mkL DWire.mk_ DWire.cnt x.message.args (k + 6), ⟨k + 6 + cntL DWire.cnt x.message.args, k + 7 + cntL DWire.cnt x.message.args⟩, k + 8 + cntL DWire.cnt x.message.args, ⟨k + 9 + cntL DWire.cnt x.message.args, k + 10 + cntL DWire.cnt x.message.args, k + 11 + cntL DWire.cnt x.message.args⟩⟩⟩
theorem DOutgoing.cnt_nn (x : DOutgoing) : 0 ≤ x.cnt := by unfold DOutgoing.cnt; have := cntL_nn (c := DWire.cnt) (DWire.cnt_nn) x.message.args; omega
theorem DOutgoing.cnt_le (x : DOutgoing) (h : x.ok 1048576) : x.cnt ≤ 2097164 := by
  have b0 := cntL_len (c := DWire.cnt) (C := 2) (l := x.message.args) (fun y hy => DWire.cnt_le y)
  have l0 : x.message.args.length ≤ 1048576 := h.2
  unfold DOutgoing.cnt; omega
def DOutgoing.mkA (x : DOutgoing) (k : Int) : DOutgoing := ⟨x.to_, x.message.mkA (k)⟩
def DOutgoing.cntA (x : DOutgoing) : Int := 0 + x.message.cntA
def DVat.cnt (x : DVat) : Int := 1 + cntL DEntity.cnt x.entities + cntL DSent.cnt x.loop + cntL DLink.cnt x.links + cntL DOutgoing.cnt x.out
def DVat.mk_ (x : DVat) (k : Int) : DVat := ⟨k, mkL DEntity.mk_ DEntity.cnt x.entities (k + 1), mkL DSent.mk_ DSent.cnt x.loop (k + 1 + cntL DEntity.cnt x.entities), mkL DLink.mk_ DLink.cnt x.links (k + 1 + cntL DEntity.cnt x.entities + cntL DSent.cnt x.loop), mkL DOutgoing.mk_ DOutgoing.cnt x.out (k + 1 + cntL DEntity.cnt x.entities + cntL DSent.cnt x.loop + cntL DLink.cnt x.links)⟩
theorem DVat.cnt_nn (x : DVat) : 0 ≤ x.cnt := by unfold DVat.cnt; have := cntL_nn (c := DEntity.cnt) (DEntity.cnt_nn) x.entities; have := cntL_nn (c := DSent.cnt) (DSent.cnt_nn) x.loop; have := cntL_nn (c := DLink.cnt) (DLink.cnt_nn) x.links; have := cntL_nn (c := DOutgoing.cnt) (DOutgoing.cnt_nn) x.out; omega
theorem DVat.cnt_le (x : DVat) (h : x.ok 1048576) : x.cnt ≤ 2305866098990383105 := by
  have b0 := cntL_len (c := DEntity.cnt) (C := 2199033741321) (l := x.entities) (fun y hy => DEntity.cnt_le y (h.2.1 y hy))
  have l0 : x.entities.length ≤ 1048576 := h.1
  have b1 := cntL_len (c := DSent.cnt) (C := 2097158) (l := x.loop) (fun y hy => DSent.cnt_le y (h.2.2.2.1 y hy))
  have l1 : x.loop.length ≤ 1048576 := h.2.2.1
  have b2 := cntL_len (c := DLink.cnt) (C := 7340036) (l := x.links) (fun y hy => DLink.cnt_le y (h.2.2.2.2.2.1 y hy))
  have l2 : x.links.length ≤ 1048576 := h.2.2.2.2.1
  have b3 := cntL_len (c := DOutgoing.cnt) (C := 2097164) (l := x.out) (fun y hy => DOutgoing.cnt_le y (h.2.2.2.2.2.2.2 y hy))
  have l3 : x.out.length ≤ 1048576 := h.2.2.2.2.2.2.1
  unfold DVat.cnt; omega
def DVat.mkA (x : DVat) (k : Int) : DVat := ⟨x.id, mkL DEntity.mk_ DEntity.cnt x.entities (k), mkL DSent.mk_ DSent.cnt x.loop (k + cntL DEntity.cnt x.entities), mkL DLink.mk_ DLink.cnt x.links (k + cntL DEntity.cnt x.entities + cntL DSent.cnt x.loop), mkL DOutgoing.mk_ DOutgoing.cnt x.out (k + cntL DEntity.cnt x.entities + cntL DSent.cnt x.loop + cntL DLink.cnt x.links)⟩
def DVat.cntA (x : DVat) : Int := 0 + cntL DEntity.cnt x.entities + cntL DSent.cnt x.loop + cntL DLink.cnt x.links + cntL DOutgoing.cnt x.out
theorem DSent.cntA_le (x : DSent) (h : x.ok 1048576) : x.cntA ≤ 2097152 := by
  have b0 := cntL_len (c := DValue.cnt) (C := 2) (l := x.args) (fun y hy => DValue.cnt_le y)
  have l0 : x.args.length ≤ 1048576 := h.2
  simp only [DSent.cntA]; omega
theorem DSent.cntA_nn (x : DSent) : 0 ≤ x.cntA := by
  have b0 := cntL_nn (c := DValue.cnt) DValue.cnt_nn x.args
  simp only [DSent.cntA]; omega
theorem DEntity.cntA_le (x : DEntity) (h : x.ok 1048576) : x.cntA ≤ 2199033741312 := by
  have b0 := cntL_len (c := DValue.cnt) (C := 2) (l := x.slots) (fun y hy => DValue.cnt_le y)
  have l0 : x.slots.length ≤ 1048576 := h.1
  have b1 := cntL_len (c := DSent.cnt) (C := 2097158) (l := x.queue) (fun y hy => DSent.cnt_le y (h.2.2.1 y hy))
  have l1 : x.queue.length ≤ 1048576 := h.2.1
  have b2 := cntL_len (c := DAsker.cnt) (C := 2) (l := x.askers) (fun y hy => DAsker.cnt_le y)
  have l2 : x.askers.length ≤ 1048576 := h.2.2.2
  simp only [DEntity.cntA]; omega
theorem DEntity.cntA_nn (x : DEntity) : 0 ≤ x.cntA := by
  have b0 := cntL_nn (c := DValue.cnt) DValue.cnt_nn x.slots
  have b1 := cntL_nn (c := DSent.cnt) DSent.cnt_nn x.queue
  have b2 := cntL_nn (c := DAsker.cnt) DAsker.cnt_nn x.askers
  simp only [DEntity.cntA]; omega
theorem DLink.cntA_le (x : DLink) (h : x.ok 1048576) : x.cntA ≤ 7340032 := by
  have b0 := cntL_len (c := DExport.cnt) (C := 3) (l := x.exports) (fun y hy => DExport.cnt_le y)
  have l0 : x.exports.length ≤ 1048576 := h.1
  have b1 := cntL_len (c := DQuestion.cnt) (C := 2) (l := x.questions) (fun y hy => DQuestion.cnt_le y)
  have l1 : x.questions.length ≤ 1048576 := h.2.1
  have b2 := cntL_len (c := DQuestion.cnt) (C := 2) (l := x.answers) (fun y hy => DQuestion.cnt_le y)
  have l2 : x.answers.length ≤ 1048576 := h.2.2
  simp only [DLink.cntA]; omega
theorem DLink.cntA_nn (x : DLink) : 0 ≤ x.cntA := by
  have b0 := cntL_nn (c := DExport.cnt) DExport.cnt_nn x.exports
  have b1 := cntL_nn (c := DQuestion.cnt) DQuestion.cnt_nn x.questions
  have b2 := cntL_nn (c := DQuestion.cnt) DQuestion.cnt_nn x.answers
  simp only [DLink.cntA]; omega
theorem DMessage.cntA_le (x : DMessage) (h : x.ok 1048576) : x.cntA ≤ 2097152 := by
  have b0 := cntL_len (c := DWire.cnt) (C := 2) (l := x.args) (fun y hy => DWire.cnt_le y)
  have l0 : x.args.length ≤ 1048576 := h.2
  simp only [DMessage.cntA]; omega
theorem DMessage.cntA_nn (x : DMessage) : 0 ≤ x.cntA := by
  have b0 := cntL_nn (c := DWire.cnt) DWire.cnt_nn x.args
  simp only [DMessage.cntA]; omega
theorem DOutgoing.cntA_le (x : DOutgoing) (h : x.ok 1048576) : x.cntA ≤ 2097152 := by
  have b0 := cntL_len (c := DWire.cnt) (C := 2) (l := x.message.args) (fun y hy => DWire.cnt_le y)
  have l0 : x.message.args.length ≤ 1048576 := h.2
  simp only [DOutgoing.cntA, DMessage.cntA]; omega
theorem DOutgoing.cntA_nn (x : DOutgoing) : 0 ≤ x.cntA := by
  have b0 := cntL_nn (c := DWire.cnt) DWire.cnt_nn x.message.args
  simp only [DOutgoing.cntA, DMessage.cntA]; omega
theorem DVat.cntA_le (x : DVat) (h : x.ok 1048576) : x.cntA ≤ 2305866098990383104 := by
  have b0 := cntL_len (c := DEntity.cnt) (C := 2199033741321) (l := x.entities) (fun y hy => DEntity.cnt_le y (h.2.1 y hy))
  have l0 : x.entities.length ≤ 1048576 := h.1
  have b1 := cntL_len (c := DSent.cnt) (C := 2097158) (l := x.loop) (fun y hy => DSent.cnt_le y (h.2.2.2.1 y hy))
  have l1 : x.loop.length ≤ 1048576 := h.2.2.1
  have b2 := cntL_len (c := DLink.cnt) (C := 7340036) (l := x.links) (fun y hy => DLink.cnt_le y (h.2.2.2.2.2.1 y hy))
  have l2 : x.links.length ≤ 1048576 := h.2.2.2.2.1
  have b3 := cntL_len (c := DOutgoing.cnt) (C := 2097164) (l := x.out) (fun y hy => DOutgoing.cnt_le y (h.2.2.2.2.2.2.2 y hy))
  have l3 : x.out.length ≤ 1048576 := h.2.2.2.2.2.2.1
  simp only [DVat.cntA]; omega
theorem DVat.cntA_nn (x : DVat) : 0 ≤ x.cntA := by
  have b0 := cntL_nn (c := DEntity.cnt) DEntity.cnt_nn x.entities
  have b1 := cntL_nn (c := DSent.cnt) DSent.cnt_nn x.loop
  have b2 := cntL_nn (c := DLink.cnt) DLink.cnt_nn x.links
  have b3 := cntL_nn (c := DOutgoing.cnt) DOutgoing.cnt_nn x.out
  simp only [DVat.cntA]; omega
end Go.AM
