import Derived.Test.YtccjhmhkfnnmaaaGreatAmLaws2
set_option linter.unusedVariables false
set_option linter.unusedSimpArgs false
namespace Go.AM
set_option linter.unusedVariables false
def DSent.szf (x : DSent) (l0 : Int) : Int :=
  let l1 := (l0 - x.name.size); if l1 < 0 then -1 else
  let l2 := szN x.args l1; if l2 < 0 then -1 else
  l2
theorem DSent.szf_ok (x : DSent) (l0 : Int) (h0 : 0 ≤ l0) (h1 : l0 ≤ 1048576) (h : 0 ≤ x.szf l0) : x.ok 1048576 ∧ x.szf l0 ≤ l0 := by
  simp only [DSent.szf] at h ⊢
  split at h; · omega
  rename_i n1; rw [if_neg n1]
  split at h; · omega
  rename_i n2; rw [if_neg n2]
  have q2 := szN_ok (Int.not_lt.1 n2)
  exact ⟨⟨by omega, by omega⟩, by omega⟩
def DEntity.szf (x : DEntity) (l0 : Int) : Int :=
  let l1 := szN x.slots l0; if l1 < 0 then -1 else
  let l2 := szL DSent.szf x.queue l1; if l2 < 0 then -1 else
  let l3 := szN x.askers l2; if l3 < 0 then -1 else
  l3
theorem DEntity.szf_ok (x : DEntity) (l0 : Int) (h0 : 0 ≤ l0) (h1 : l0 ≤ 1048576) (h : 0 ≤ x.szf l0) : x.ok 1048576 ∧ x.szf l0 ≤ l0 := by
  simp only [DEntity.szf] at h ⊢
  split at h; · omega
  rename_i n1; rw [if_neg n1]
  split at h; · omega
  rename_i n2; rw [if_neg n2]
  split at h; · omega
  rename_i n3; rw [if_neg n3]
  have q1 := szN_ok (Int.not_lt.1 n1)
  have q2 := szL_ok (Q := DSent.ok 1048576) (B := 1048576) (fun x left a b c => DSent.szf_ok x left a b c) (by omega) (by omega) (Int.not_lt.1 n2)
  have q3 := szN_ok (Int.not_lt.1 n3)
  exact ⟨⟨by omega, by omega, q2.1.2, by omega⟩, by omega⟩
def DLink.szf (x : DLink) (l0 : Int) : Int :=
  let l1 := szN x.exports l0; if l1 < 0 then -1 else
  let l2 := szN x.questions l1; if l2 < 0 then -1 else
  let l3 := szN x.answers l2; if l3 < 0 then -1 else
  l3
theorem DLink.szf_ok (x : DLink) (l0 : Int) (h0 : 0 ≤ l0) (h1 : l0 ≤ 1048576) (h : 0 ≤ x.szf l0) : x.ok 1048576 ∧ x.szf l0 ≤ l0 := by
  simp only [DLink.szf] at h ⊢
  split at h; · omega
  rename_i n1; rw [if_neg n1]
  split at h; · omega
  rename_i n2; rw [if_neg n2]
  split at h; · omega
  rename_i n3; rw [if_neg n3]
  have q1 := szN_ok (Int.not_lt.1 n1)
  have q2 := szN_ok (Int.not_lt.1 n2)
  have q3 := szN_ok (Int.not_lt.1 n3)
  exact ⟨⟨by omega, by omega, by omega⟩, by omega⟩
def DMessage.szf (x : DMessage) (l0 : Int) : Int :=
  let l1 := (l0 - x.name.size); if l1 < 0 then -1 else
  let l2 := szN x.args l1; if l2 < 0 then -1 else
  l2
theorem DMessage.szf_ok (x : DMessage) (l0 : Int) (h0 : 0 ≤ l0) (h1 : l0 ≤ 1048576) (h : 0 ≤ x.szf l0) : x.ok 1048576 ∧ x.szf l0 ≤ l0 := by
  simp only [DMessage.szf] at h ⊢
  split at h; · omega
  rename_i n1; rw [if_neg n1]
  split at h; · omega
  rename_i n2; rw [if_neg n2]
  have q2 := szN_ok (Int.not_lt.1 n2)
  exact ⟨⟨by omega, by omega⟩, by omega⟩
def DOutgoing.szf (x : DOutgoing) (l0 : Int) : Int :=
  let l1 := x.message.szf l0; if l1 < 0 then -1 else
  l1
theorem DOutgoing.szf_ok (x : DOutgoing) (l0 : Int) (h0 : 0 ≤ l0) (h1 : l0 ≤ 1048576) (h : 0 ≤ x.szf l0) : x.ok 1048576 ∧ x.szf l0 ≤ l0 := by
  simp only [DOutgoing.szf] at h ⊢
  split at h; · omega
  rename_i n1; rw [if_neg n1]
  have q1 := DMessage.szf_ok _ _ (by omega) (by omega) (Int.not_lt.1 n1)
  exact ⟨q1.1, by omega⟩
def DVat.szf (x : DVat) (l0 : Int) : Int :=
  let l1 := szL DEntity.szf x.entities l0; if l1 < 0 then -1 else
  let l2 := szL DSent.szf x.loop l1; if l2 < 0 then -1 else
  let l3 := szL DLink.szf x.links l2; if l3 < 0 then -1 else
  let l4 := szL DOutgoing.szf x.out l3; if l4 < 0 then -1 else
  l4
theorem DVat.szf_ok (x : DVat) (l0 : Int) (h0 : 0 ≤ l0) (h1 : l0 ≤ 1048576) (h : 0 ≤ x.szf l0) : x.ok 1048576 ∧ x.szf l0 ≤ l0 := by
  simp only [DVat.szf] at h ⊢
  split at h; · omega
  rename_i n1; rw [if_neg n1]
  split at h; · omega
  rename_i n2; rw [if_neg n2]
  split at h; · omega
  rename_i n3; rw [if_neg n3]
  split at h; · omega
  rename_i n4; rw [if_neg n4]
  have q1 := szL_ok (Q := DEntity.ok 1048576) (B := 1048576) (fun x left a b c => DEntity.szf_ok x left a b c) (by omega) (by omega) (Int.not_lt.1 n1)
  have q2 := szL_ok (Q := DSent.ok 1048576) (B := 1048576) (fun x left a b c => DSent.szf_ok x left a b c) (by omega) (by omega) (Int.not_lt.1 n2)
  have q3 := szL_ok (Q := DLink.ok 1048576) (B := 1048576) (fun x left a b c => DLink.szf_ok x left a b c) (by omega) (by omega) (Int.not_lt.1 n3)
  have q4 := szL_ok (Q := DOutgoing.ok 1048576) (B := 1048576) (fun x left a b c => DOutgoing.szf_ok x left a b c) (by omega) (by omega) (Int.not_lt.1 n4)
  exact ⟨⟨by omega, q1.1.2, by omega, q2.1.2, by omega, q3.1.2, by omega, q4.1.2⟩, by omega⟩
theorem EY : type_of% (And.intro EV (And.intro EL (And.intro EB (@Bool.false_eq_true)))) := And.intro EV (And.intro EL (And.intro EB (@Bool.false_eq_true)))
end Go.AM
