import Derived.Test.YtleddolmolkpfaaGreatR5LK
import Derived.Test.YtleddolmolkpfaaGreatR5VC
set_option linter.unusedVariables false
set_option linter.unusedSimpArgs false
namespace Go.Proofs.YtleddolmolkpfaaGreat
open Go.AM
set_option linter.unusedVariables false
set_option linter.unusedSimpArgs false
variable {Γ : Glob}
theorem impl_Mod_T (h : AH) : T Tryz.prog Γ Fn.impl_Mod [.int .i64 0, .int .i64 1000000] h fun v h' => v = .int .i64 0 ∧ h' = h := by
  refine impl_Mod_e (aw_sound tabOK mixed [] _ _ _ ?_)
  unfold impl_Mod_c
  simp only [EV, EL, EB, EF, q_bx, if_true, if_false, Bool.false_eq_true, Nat.reduceAdd, Option.bind_some, Bool.not_true, Bool.not_false, Nat.reduceBEq, impl_Mod_r]
  refine TCall.val (by simp only [EO]) (impl_in_T _ _ _ _) ?_
  simp only [EV, EL, EB, EF, q_bx, if_true, if_false, Bool.false_eq_true, Nat.reduceAdd, Option.bind_some, Bool.not_true, Bool.not_false, Nat.reduceBEq, impl_Mod_r, show inR 1000000 1 1000000000000 = true from rfl, show aBin .rem .num (.int .i64 0) (.int .i64 1000000) = some (.int .i64 0) from rfl, show aBin .rem .num (.int .i64 1000000) (.int .i64 1000000) = some (.int .i64 0) from rfl, show IntKind.i64.wrap (0 + 1000000) = 1000000 from rfl]
  first | exact ⟨rfl, rfl⟩ | exact rfl
theorem impl_IntValue_T0 (h : AH) : T Tryz.prog Γ Fn.impl_IntValue [.int .i64 0] h fun v h' => v = .agg ((DValue.mk 0 0).c false) ∧ h' = h := by
  refine impl_IntValue_e (aw_sound tabOK mixed [] _ _ _ ?_)
  unfold impl_IntValue_c
  simp only [EV, EL, EB, EF, q_bx, if_true, if_false, Bool.false_eq_true, Nat.reduceAdd, Option.bind_some, Bool.not_true, Bool.not_false, Nat.reduceBEq, impl_IntValue_r]
  refine TCall.val (by simp only [EO]) (impl_Mod_T _) ?_
  simp only [EV, EL, EB, EF, q_bx, if_true, if_false, Bool.false_eq_true, Nat.reduceAdd, Option.bind_some, Bool.not_true, Bool.not_false, Nat.reduceBEq, impl_IntValue_r]
  first | exact ⟨rfl, rfl⟩ | exact rfl
theorem inR_pos (n : Int) {m : Nat} (hm : (m : Int) < 9223372036854775807) : inR n 0 (IntKind.i64.wrap ((m : Int) - 1)) = true ↔ ∃ k : Nat, n = (k : Int) ∧ k < m := by
  rw [wrap_nat (by omega) (by omega)]
  simp only [inR, Bool.and_eq_true, decide_eq_true_eq]
  constructor
  · intro ⟨h1, h2⟩; exact ⟨n.toNat, by omega, by omega⟩
  · rintro ⟨k, rfl, hk⟩; omega
def slotAt (e : DEntity) (i : Nat) : DValue := match e.slots[i]? with | some x => x | none => ⟨0, 0⟩
theorem slot_in {e : DEntity} (he : e.slots.length ≤ 1048576) (i : Nat) : (inR (i : Int) 0 (IntKind.i64.wrap ((e.slots.length : Int) - 1)) = true ∧ ∃ h : i < e.slots.length, slotAt e i = e.slots[i]) ∨ (inR (i : Int) 0 (IntKind.i64.wrap ((e.slots.length : Int) - 1)) = false ∧ slotAt e i = ⟨0, 0⟩) := by
  have hp := inR_pos (i : Int) (m := e.slots.length) (by omega)
  by_cases h : i < e.slots.length
  · exact .inl ⟨hp.2 ⟨i, rfl, h⟩, h, by unfold slotAt; rw [List.getElem?_eq_getElem h]⟩
  · refine .inr ⟨?_, by unfold slotAt; rw [List.getElem?_eq_none (by omega)]⟩
    cases hh : inR (i : Int) 0 (IntKind.i64.wrap ((e.slots.length : Int) - 1))
    · rfl
    · obtain ⟨k, e1, e2⟩ := hp.1 hh; omega
theorem impl_SlotOf_at (β : Bool) (e : DEntity) (he : e.slots.length ≤ 1048576) (i : Nat) (h : AH) : T Tryz.prog Γ Fn.impl_SlotOf [.agg (e.c β), .int .i64 i] h fun v h' => v = .agg ((slotAt e i).c false) ∧ h' = h := by
  have L0 := len_vm β 2 false e.slots (DValue.c β)
  refine impl_SlotOf_e (aw_sound tabOK mixed [] _ _ _ ?_)
  unfold impl_SlotOf_c
  simp only [EV, EL, EB, EF, q_bx, if_true, if_false, Bool.false_eq_true, Nat.reduceAdd, Option.bind_some, Bool.not_true, Bool.not_false, Nat.reduceBEq, impl_SlotOf_r, DEntity.c, L0]
  refine TCall.val (by simp only [EO]) (impl_in_T _ _ _ _) ?_
  rcases slot_in he i with ⟨e1, h0, e2⟩ | ⟨e1, e2⟩
  · have i0 := idx_vm (β := β) (sz := 2) (ex := false) (ce := DValue.c β) h0
    simp only [EV, EL, EB, EF, q_bx, if_true, if_false, Bool.false_eq_true, Nat.reduceAdd, Option.bind_some, Bool.not_true, Bool.not_false, Nat.reduceBEq, impl_SlotOf_r, e1, i0, DValue.c]
    exact ⟨rfl, by rw [e2]⟩
  · simp only [EV, EL, EB, EF, q_bx, if_true, if_false, Bool.false_eq_true, Nat.reduceAdd, Option.bind_some, Bool.not_true, Bool.not_false, Nat.reduceBEq, impl_SlotOf_r, e1]
    refine TCall.val (by simp only [EO]) (impl_IntValue_T0 _) ?_
    simp only [EV, EL, EB, EF, q_bx, if_true, if_false, Bool.false_eq_true, Nat.reduceAdd, Option.bind_some, Bool.not_true, Bool.not_false, Nat.reduceBEq, impl_SlotOf_r, DValue.c]
    exact ⟨rfl, by rw [e2]⟩
theorem spec_SlotOf_at (β : Bool) (e : DEntity) (he : e.slots.length ≤ 1048576) (i : Nat) (h : AH) : T Tryz.prog Γ Fn.spec_SlotOf [.agg (e.c β), .int .i64 i] h fun v h' => v = .agg ((slotAt e i).c false) ∧ h' = h := by
  have L0 := len_vm β 2 false e.slots (DValue.c β)
  refine spec_SlotOf_e (aw_sound tabOK mixed [] _ _ _ ?_)
  unfold spec_SlotOf_c
  simp only [EV, EL, EB, EF, q_bx, if_true, if_false, Bool.false_eq_true, Nat.reduceAdd, Option.bind_some, Bool.not_true, Bool.not_false, Nat.reduceBEq, spec_SlotOf_r, DEntity.c, L0]
  refine TCall.val (by simp only [EO]) (spec_l1In_T _ _ _ _) ?_
  rcases slot_in he i with ⟨e1, h0, e2⟩ | ⟨e1, e2⟩
  · have i0 := idx_vm (β := β) (sz := 2) (ex := false) (ce := DValue.c β) h0
    simp only [EV, EL, EB, EF, q_bx, if_true, if_false, Bool.false_eq_true, Nat.reduceAdd, Option.bind_some, Bool.not_true, Bool.not_false, Nat.reduceBEq, spec_SlotOf_r, e1, i0, DValue.c]
    exact ⟨rfl, by rw [e2]⟩
  · simp only [EV, EL, EB, EF, q_bx, if_true, if_false, Bool.false_eq_true, Nat.reduceAdd, Option.bind_some, Bool.not_true, Bool.not_false, Nat.reduceBEq, spec_SlotOf_r, e1, DValue.c]
    exact ⟨rfl, by rw [e2]⟩
def upOne (frm to_ : Int) (n : Nat) (e : DEntity) : DEntity := if e.kind = 1 ∧ e.script = frm then { e with script := to_, slots := (List.range n).map (slotAt e) } else e
def upCur (es : List DEntity) (frm to_ : Int) (n k : Nat) : List DEntity := (es.take k).map (upOne frm to_ n) ++ es.drop k
def upCnt (es : List DEntity) (frm : Int) (k : Nat) : Int := (((es.take k).filter fun e => e.kind = 1 ∧ e.script = frm).length : Nat)
theorem upCur_len (es : List DEntity) (frm to_ : Int) (n k : Nat) : (upCur es frm to_ n k).length = es.length := by
  unfold upCur; simp; omega
theorem upCur_at {es : List DEntity} {frm to_ : Int} {n k : Nat} (hk : k < es.length) : (upCur es frm to_ n k)[k]'(by rw [upCur_len]; exact hk) = es[k] := by
  unfold upCur
  rw [List.getElem_append_right (by simp; omega)]
  simp [Nat.min_eq_left (Nat.le_of_lt hk)]
theorem upCur_s {es : List DEntity} {frm to_ : Int} {n k : Nat} (hk : k < es.length) : upCur es frm to_ n (k + 1) = (upCur es frm to_ n k).set k (upOne frm to_ n es[k]) := by
  unfold upCur
  rw [List.set_append_right _ _ (by simp; omega)]
  simp only [List.length_map, List.length_take, Nat.min_eq_left (Nat.le_of_lt hk), Nat.sub_self]
  rw [List.drop_eq_getElem_cons hk, List.set_cons_zero, List.take_succ_eq_append_getElem hk, List.map_append, List.append_assoc]
  rfl
theorem upCnt_s {es : List DEntity} {frm : Int} {k : Nat} (hk : k < es.length) : upCnt es frm (k + 1) = upCnt es frm k + (if es[k].kind = 1 ∧ es[k].script = frm then 1 else 0) := by
  unfold upCnt
  rw [List.take_succ_eq_append_getElem hk, List.filter_append, List.length_append]
  by_cases h1 : es[k].kind = 1
  · by_cases h2 : es[k].script = frm
    · simp [h1, h2]
    · simp [h1, h2]
  · simp [h1]
theorem up_same {es : List DEntity} {frm to_ : Int} {n k : Nat} (hk : k < es.length) (h : ¬ (es[k].kind = 1 ∧ es[k].script = frm)) : upCur es frm to_ n (k + 1) = upCur es frm to_ n k ∧ upCnt es frm (k + 1) = upCnt es frm k := by
  refine ⟨?_, by rw [upCnt_s hk, if_neg h, Int.add_zero]⟩
  rw [upCur_s hk]
  have : upOne frm to_ n es[k] = (upCur es frm to_ n k)[k]'(by rw [upCur_len]; exact hk) := by rw [upCur_at hk]; unfold upOne; rw [if_neg h]
  rw [this, List.set_getElem_self]
theorem upCnt_le (es : List DEntity) (frm : Int) (k : Nat) : 0 ≤ upCnt es frm k ∧ upCnt es frm k ≤ es.length := by
  unfold upCnt
  have h1 := List.length_filter_le (fun e : DEntity => decide (e.kind = 1 ∧ e.script = frm)) (es.take k)
  rw [List.length_take] at h1
  constructor
  · omega
  · omega

end Go.Proofs.YtleddolmolkpfaaGreat

