import Derived.Test.YtleddolmolkpfaaGreatAmSz
import Derived.Test.YtleddolmolkpfaaGreatAmMk
set_option linter.unusedVariables false
set_option linter.unusedSimpArgs false
namespace Go.AM
set_option linter.unusedVariables false
theorem szN_cnt {α : Type} {c : α → Int} (hc : ∀ x, c x ≤ 16) {l : List α} {left : Int} (h : 0 ≤ szN l left) : cntL c l ≤ 16 * (left - szN l left) := by
  have := cntL_len (c := c) (C := 16) (l := l) (fun x _ => hc x)
  unfold szN at h ⊢; split at h
  · omega
  · rename_i hn; rw [if_neg hn]; omega
theorem szGo_cnt {α : Type} {f : α → Int → Int} {c : α → Int} {B : Int} (hf : ∀ x left, 0 ≤ left → left ≤ B → 0 ≤ f x left → c x ≤ 16 + 16 * (left - f x left) ∧ f x left ≤ left) : ∀ {l : List α} {left : Int}, 0 ≤ left → left ≤ B → 0 ≤ szGo f l left → cntL c l ≤ 16 * l.length + 16 * (left - szGo f l left)
  | [], left, _, _, _ => by simp [szGo, cntL]
  | x :: r, left, h0, h1, h2 => by
    simp only [szGo] at h2 ⊢
    split at h2
    · omega
    · rename_i hn
      rw [if_neg hn]
      obtain ⟨h3, h4⟩ := hf x left h0 h1 (Int.not_lt.1 hn)
      have := szGo_cnt hf (l := r) (Int.not_lt.1 hn) (by omega) h2
      simp only [cntL, List.length_cons]
      omega
theorem szL_cnt {α : Type} {f : α → Int → Int} {c : α → Int} {B : Int} (hf : ∀ x left, 0 ≤ left → left ≤ B → 0 ≤ f x left → c x ≤ 16 + 16 * (left - f x left) ∧ f x left ≤ left) {l : List α} {left : Int} (h0 : 0 ≤ left) (h1 : left ≤ B) (h2 : 0 ≤ szL f l left) : cntL c l ≤ 16 * (left - szL f l left) := by
  unfold szL at h2 ⊢
  split at h2
  · omega
  · rename_i hn
    rw [if_neg hn]
    have := szGo_cnt hf (l := l) (Int.not_lt.1 hn) (by omega) h2
    omega
theorem DSent.szf_cnt (x : DSent) (l0 : Int) (h0 : 0 ≤ l0) (h1 : l0 ≤ 1048576) (h : 0 ≤ x.szf l0) : x.cnt ≤ 16 + 16 * (l0 - x.szf l0) := by
  simp only [DSent.szf] at h ⊢
  split at h; · omega
  rename_i n1; rw [if_neg n1]
  split at h; · omega
  rename_i n2; rw [if_neg n2]
  have q2 := szN_ok (Int.not_lt.1 n2)
  have r2 := szN_cnt (c := DValue.cnt) (fun x => by have := DValue.cnt_le x; omega) (Int.not_lt.1 n2)
  unfold DSent.cnt; omega
theorem DEntity.szf_cnt (x : DEntity) (l0 : Int) (h0 : 0 ≤ l0) (h1 : l0 ≤ 1048576) (h : 0 ≤ x.szf l0) : x.cnt ≤ 16 + 16 * (l0 - x.szf l0) := by
  simp only [DEntity.szf] at h ⊢
  split at h; · omega
  rename_i n1; rw [if_neg n1]
  split at h; · omega
  rename_i n2; rw [if_neg n2]
  split at h; · omega
  rename_i n3; rw [if_neg n3]
  have q1 := szN_ok (Int.not_lt.1 n1)
  have r1 := szN_cnt (c := DValue.cnt) (fun x => by have := DValue.cnt_le x; omega) (Int.not_lt.1 n1)
  have q2 := szL_ok (Q := DSent.ok 1048576) (B := 1048576) (fun x left a b c => DSent.szf_ok x left a b c) (by omega) (by omega) (Int.not_lt.1 n2)
  have r2 := szL_cnt (c := DSent.cnt) (B := 1048576) (fun x left a b c => ⟨DSent.szf_cnt x left a b c, (DSent.szf_ok x left a b c).2⟩) (by omega) (by omega) (Int.not_lt.1 n2)
  have q3 := szN_ok (Int.not_lt.1 n3)
  have r3 := szN_cnt (c := DAsker.cnt) (fun x => by have := DAsker.cnt_le x; omega) (Int.not_lt.1 n3)
  unfold DEntity.cnt; omega
theorem DLink.szf_cnt (x : DLink) (l0 : Int) (h0 : 0 ≤ l0) (h1 : l0 ≤ 1048576) (h : 0 ≤ x.szf l0) : x.cnt ≤ 16 + 16 * (l0 - x.szf l0) := by
  simp only [DLink.szf] at h ⊢
  split at h; · omega
  rename_i n1; rw [if_neg n1]
  split at h; · omega
  rename_i n2; rw [if_neg n2]
  split at h; · omega
  rename_i n3; rw [if_neg n3]
  have q1 := szN_ok (Int.not_lt.1 n1)
  have r1 := szN_cnt (c := DExport.cnt) (fun x => by have := DExport.cnt_le x; omega) (Int.not_lt.1 n1)
  have q2 := szN_ok (Int.not_lt.1 n2)
  have r2 := szN_cnt (c := DQuestion.cnt) (fun x => by have := DQuestion.cnt_le x; omega) (Int.not_lt.1 n2)
  have q3 := szN_ok (Int.not_lt.1 n3)
  have r3 := szN_cnt (c := DQuestion.cnt) (fun x => by have := DQuestion.cnt_le x; omega) (Int.not_lt.1 n3)
  unfold DLink.cnt; omega
theorem DMessage.szf_cnt (x : DMessage) (l0 : Int) (h0 : 0 ≤ l0) (h1 : l0 ≤ 1048576) (h : 0 ≤ x.szf l0) : x.cnt ≤ 16 + 16 * (l0 - x.szf l0) := by
  simp only [DMessage.szf] at h ⊢
  split at h; · omega
  rename_i n1; rw [if_neg n1]
  split at h; · omega
  rename_i n2; rw [if_neg n2]
  have q2 := szN_ok (Int.not_lt.1 n2)
  have r2 := szN_cnt (c := DWire.cnt) (fun x => by have := DWire.cnt_le x; omega) (Int.not_lt.1 n2)
  unfold DMessage.cnt; omega
theorem DMessage.szf_cntA (x : DMessage) (l0 : Int) (h0 : 0 ≤ l0) (h1 : l0 ≤ 1048576) (h : 0 ≤ x.szf l0) : x.cntA ≤ 16 + 16 * (l0 - x.szf l0) := by
  simp only [DMessage.szf] at h ⊢
  split at h; · omega
  rename_i n1; rw [if_neg n1]
  split at h; · omega
  rename_i n2; rw [if_neg n2]
  have q2 := szN_ok (Int.not_lt.1 n2)
  have r2 := szN_cnt (c := DWire.cnt) (fun x => by have := DWire.cnt_le x; omega) (Int.not_lt.1 n2)
  unfold DMessage.cntA; omega
theorem DMessage.szf_args (x : DMessage) (l0 : Int) (h0 : 0 ≤ l0) (h1 : l0 ≤ 1048576) (h : 0 ≤ x.szf l0) : cntL DWire.cnt x.args ≤ 16 * (l0 - x.szf l0) := by
  simp only [DMessage.szf] at h ⊢
  split at h; · omega
  rename_i n1; rw [if_neg n1]
  split at h; · omega
  rename_i n2; rw [if_neg n2]
  have r2 := szN_cnt (c := DWire.cnt) (fun x => by have := DWire.cnt_le x; omega) (Int.not_lt.1 n2)
  omega
theorem DOutgoing.szf_cnt (x : DOutgoing) (l0 : Int) (h0 : 0 ≤ l0) (h1 : l0 ≤ 1048576) (h : 0 ≤ x.szf l0) : x.cnt ≤ 16 + 16 * (l0 - x.szf l0) := by
  simp only [DOutgoing.szf] at h ⊢
  split at h; · omega
  rename_i n1; rw [if_neg n1]
  have q1 := DMessage.szf_ok _ _ (by omega) (by omega) (Int.not_lt.1 n1)
  have r1 := DMessage.szf_args _ _ (by omega) (by omega) (Int.not_lt.1 n1)
  unfold DOutgoing.cnt; omega
theorem DVat.szf_cnt (x : DVat) (l0 : Int) (h0 : 0 ≤ l0) (h1 : l0 ≤ 1048576) (h : 0 ≤ x.szf l0) : x.cnt ≤ 16 + 16 * (l0 - x.szf l0) := by
  simp only [DVat.szf] at h ⊢
  split at h; · omega
  rename_i n1; rw [if_neg n1]
  split at h; · omega
  rename_i n2; rw [if_neg n2]
  split at h; · omega
  rename_i n3; rw [if_neg n3]
  split at h; · omega
  rename_i n4; rw [if_neg n4]
  have q1 := szL_ok (Q := DEntity.ok 1048576) (B := 1048576) (fun x left a b c => DEntity.szf_ok x left a b c) (by omega) (by omega) (Int.not_lt.1 n1)
  have r1 := szL_cnt (c := DEntity.cnt) (B := 1048576) (fun x left a b c => ⟨DEntity.szf_cnt x left a b c, (DEntity.szf_ok x left a b c).2⟩) (by omega) (by omega) (Int.not_lt.1 n1)
  have q2 := szL_ok (Q := DSent.ok 1048576) (B := 1048576) (fun x left a b c => DSent.szf_ok x left a b c) (by omega) (by omega) (Int.not_lt.1 n2)
  have r2 := szL_cnt (c := DSent.cnt) (B := 1048576) (fun x left a b c => ⟨DSent.szf_cnt x left a b c, (DSent.szf_ok x left a b c).2⟩) (by omega) (by omega) (Int.not_lt.1 n2)
  have q3 := szL_ok (Q := DLink.ok 1048576) (B := 1048576) (fun x left a b c => DLink.szf_ok x left a b c) (by omega) (by omega) (Int.not_lt.1 n3)
  have r3 := szL_cnt (c := DLink.cnt) (B := 1048576) (fun x left a b c => ⟨DLink.szf_cnt x left a b c, (DLink.szf_ok x left a b c).2⟩) (by omega) (by omega) (Int.not_lt.1 n3)
  have q4 := szL_ok (Q := DOutgoing.ok 1048576) (B := 1048576) (fun x left a b c => DOutgoing.szf_ok x left a b c) (by omega) (by omega) (Int.not_lt.1 n4)
  have r4 := szL_cnt (c := DOutgoing.cnt) (B := 1048576) (fun x left a b c => ⟨DOutgoing.szf_cnt x left a b c, (DOutgoing.szf_ok x left a b c).2⟩) (by omega) (by omega) (Int.not_lt.1 n4)
  unfold DVat.cnt; omega
theorem DVat.szf_cntA (x : DVat) (l0 : Int) (h0 : 0 ≤ l0) (h1 : l0 ≤ 1048576) (h : 0 ≤ x.szf l0) : x.cntA ≤ 16 + 16 * (l0 - x.szf l0) := by
  simp only [DVat.szf] at h ⊢
  split at h; · omega
  rename_i n1; rw [if_neg n1]
  split at h; · omega
  rename_i n2; rw [if_neg n2]
  split at h; · omega
  rename_i n3; rw [if_neg n3]
  split at h; · omega
  rename_i n4; rw [if_neg n4]
  have q1 := szL_ok (Q := DEntity.ok 1048576) (B := 1048576) (fun x left a b c => DEntity.szf_ok x left a b c) (by omega) (by omega) (Int.not_lt.1 n1)
  have r1 := szL_cnt (c := DEntity.cnt) (B := 1048576) (fun x left a b c => ⟨DEntity.szf_cnt x left a b c, (DEntity.szf_ok x left a b c).2⟩) (by omega) (by omega) (Int.not_lt.1 n1)
  have q2 := szL_ok (Q := DSent.ok 1048576) (B := 1048576) (fun x left a b c => DSent.szf_ok x left a b c) (by omega) (by omega) (Int.not_lt.1 n2)
  have r2 := szL_cnt (c := DSent.cnt) (B := 1048576) (fun x left a b c => ⟨DSent.szf_cnt x left a b c, (DSent.szf_ok x left a b c).2⟩) (by omega) (by omega) (Int.not_lt.1 n2)
  have q3 := szL_ok (Q := DLink.ok 1048576) (B := 1048576) (fun x left a b c => DLink.szf_ok x left a b c) (by omega) (by omega) (Int.not_lt.1 n3)
  have r3 := szL_cnt (c := DLink.cnt) (B := 1048576) (fun x left a b c => ⟨DLink.szf_cnt x left a b c, (DLink.szf_ok x left a b c).2⟩) (by omega) (by omega) (Int.not_lt.1 n3)
  have q4 := szL_ok (Q := DOutgoing.ok 1048576) (B := 1048576) (fun x left a b c => DOutgoing.szf_ok x left a b c) (by omega) (by omega) (Int.not_lt.1 n4)
  have r4 := szL_cnt (c := DOutgoing.cnt) (B := 1048576) (fun x left a b c => ⟨DOutgoing.szf_cnt x left a b c, (DOutgoing.szf_ok x left a b c).2⟩) (by omega) (by omega) (Int.not_lt.1 n4)
  unfold DVat.cntA; omega
theorem DInstr.szf_cnt (x : DInstr) (l0 : Int) (h0 : 0 ≤ l0) (h1 : l0 ≤ 1048576) (h : 0 ≤ x.szf l0) : x.cnt ≤ 16 + 16 * (l0 - x.szf l0) := by
  simp only [DInstr.szf] at h ⊢
  split at h; · omega
  rename_i n1; rw [if_neg n1]
  unfold DInstr.cnt; omega
theorem DMethod.szf_cnt (x : DMethod) (l0 : Int) (h0 : 0 ≤ l0) (h1 : l0 ≤ 1048576) (h : 0 ≤ x.szf l0) : x.cnt ≤ 16 + 16 * (l0 - x.szf l0) := by
  simp only [DMethod.szf] at h ⊢
  split at h; · omega
  rename_i n1; rw [if_neg n1]
  split at h; · omega
  rename_i n2; rw [if_neg n2]
  have q2 := szL_ok (Q := DInstr.ok 1048576) (B := 1048576) (fun x left a b c => DInstr.szf_ok x left a b c) (by omega) (by omega) (Int.not_lt.1 n2)
  have r2 := szL_cnt (c := DInstr.cnt) (B := 1048576) (fun x left a b c => ⟨DInstr.szf_cnt x left a b c, (DInstr.szf_ok x left a b c).2⟩) (by omega) (by omega) (Int.not_lt.1 n2)
  unfold DMethod.cnt; omega
theorem DScript.szf_cnt (x : DScript) (l0 : Int) (h0 : 0 ≤ l0) (h1 : l0 ≤ 1048576) (h : 0 ≤ x.szf l0) : x.cnt ≤ 16 + 16 * (l0 - x.szf l0) := by
  simp only [DScript.szf] at h ⊢
  split at h; · omega
  rename_i n1; rw [if_neg n1]
  split at h; · omega
  rename_i n2; rw [if_neg n2]
  have q2 := szL_ok (Q := DMethod.ok 1048576) (B := 1048576) (fun x left a b c => DMethod.szf_ok x left a b c) (by omega) (by omega) (Int.not_lt.1 n2)
  have r2 := szL_cnt (c := DMethod.cnt) (B := 1048576) (fun x left a b c => ⟨DMethod.szf_cnt x left a b c, (DMethod.szf_ok x left a b c).2⟩) (by omega) (by omega) (Int.not_lt.1 n2)
  unfold DScript.cnt; omega
theorem DChannel.szf_cnt (x : DChannel) (l0 : Int) (h0 : 0 ≤ l0) (h1 : l0 ≤ 1048576) (h : 0 ≤ x.szf l0) : x.cnt ≤ 16 + 16 * (l0 - x.szf l0) := by
  simp only [DChannel.szf] at h ⊢
  split at h; · omega
  rename_i n1; rw [if_neg n1]
  have q1 := szL_ok (Q := DMessage.ok 1048576) (B := 1048576) (fun x left a b c => DMessage.szf_ok x left a b c) (by omega) (by omega) (Int.not_lt.1 n1)
  have r1 := szL_cnt (c := DMessage.cnt) (B := 1048576) (fun x left a b c => ⟨DMessage.szf_cnt x left a b c, (DMessage.szf_ok x left a b c).2⟩) (by omega) (by omega) (Int.not_lt.1 n1)
  unfold DChannel.cnt; omega
theorem DWorld.szf_cnt (x : DWorld) (l0 : Int) (h0 : 0 ≤ l0) (h1 : l0 ≤ 1048576) (h : 0 ≤ x.szf l0) : x.cnt ≤ 16 + 16 * (l0 - x.szf l0) := by
  simp only [DWorld.szf] at h ⊢
  split at h; · omega
  rename_i n1; rw [if_neg n1]
  split at h; · omega
  rename_i n2; rw [if_neg n2]
  split at h; · omega
  rename_i n3; rw [if_neg n3]
  split at h; · omega
  rename_i n4; rw [if_neg n4]
  have q1 := szL_ok (Q := DScript.ok 1048576) (B := 1048576) (fun x left a b c => DScript.szf_ok x left a b c) (by omega) (by omega) (Int.not_lt.1 n1)
  have r1 := szL_cnt (c := DScript.cnt) (B := 1048576) (fun x left a b c => ⟨DScript.szf_cnt x left a b c, (DScript.szf_ok x left a b c).2⟩) (by omega) (by omega) (Int.not_lt.1 n1)
  have q2 := szL_ok (Q := DVat.ok 1048576) (B := 1048576) (fun x left a b c => DVat.szf_ok x left a b c) (by omega) (by omega) (Int.not_lt.1 n2)
  have r2 := szL_cnt (c := DVat.cnt) (B := 1048576) (fun x left a b c => ⟨DVat.szf_cnt x left a b c, (DVat.szf_ok x left a b c).2⟩) (by omega) (by omega) (Int.not_lt.1 n2)
  have q3 := szL_ok (Q := DChannel.ok 1048576) (B := 1048576) (fun x left a b c => DChannel.szf_ok x left a b c) (by omega) (by omega) (Int.not_lt.1 n3)
  have r3 := szL_cnt (c := DChannel.cnt) (B := 1048576) (fun x left a b c => ⟨DChannel.szf_cnt x left a b c, (DChannel.szf_ok x left a b c).2⟩) (by omega) (by omega) (Int.not_lt.1 n3)
  have q4 := szN_ok (Int.not_lt.1 n4)
  have r4 := szN_cnt (c := DNote.cnt) (fun x => by have := DNote.cnt_le x; omega) (Int.not_lt.1 n4)
  unfold DWorld.cnt; omega
theorem DWorld.szf_cntA (x : DWorld) (l0 : Int) (h0 : 0 ≤ l0) (h1 : l0 ≤ 1048576) (h : 0 ≤ x.szf l0) : x.cntA ≤ 16 + 16 * (l0 - x.szf l0) := by
  simp only [DWorld.szf] at h ⊢
  split at h; · omega
  rename_i n1; rw [if_neg n1]
  split at h; · omega
  rename_i n2; rw [if_neg n2]
  split at h; · omega
  rename_i n3; rw [if_neg n3]
  split at h; · omega
  rename_i n4; rw [if_neg n4]
  have q1 := szL_ok (Q := DScript.ok 1048576) (B := 1048576) (fun x left a b c => DScript.szf_ok x left a b c) (by omega) (by omega) (Int.not_lt.1 n1)
  have r1 := szL_cnt (c := DScript.cnt) (B := 1048576) (fun x left a b c => ⟨DScript.szf_cnt x left a b c, (DScript.szf_ok x left a b c).2⟩) (by omega) (by omega) (Int.not_lt.1 n1)
  have q2 := szL_ok (Q := DVat.ok 1048576) (B := 1048576) (fun x left a b c => DVat.szf_ok x left a b c) (by omega) (by omega) (Int.not_lt.1 n2)
  have r2 := szL_cnt (c := DVat.cnt) (B := 1048576) (fun x left a b c => ⟨DVat.szf_cnt x left a b c, (DVat.szf_ok x left a b c).2⟩) (by omega) (by omega) (Int.not_lt.1 n2)
  have q3 := szL_ok (Q := DChannel.ok 1048576) (B := 1048576) (fun x left a b c => DChannel.szf_ok x left a b c) (by omega) (by omega) (Int.not_lt.1 n3)
  have r3 := szL_cnt (c := DChannel.cnt) (B := 1048576) (fun x left a b c => ⟨DChannel.szf_cnt x left a b c, (DChannel.szf_ok x left a b c).2⟩) (by omega) (by omega) (Int.not_lt.1 n3)
  have q4 := szN_ok (Int.not_lt.1 n4)
  have r4 := szN_cnt (c := DNote.cnt) (fun x => by have := DNote.cnt_le x; omega) (Int.not_lt.1 n4)
  unfold DWorld.cntA; omega
end Go.AM
