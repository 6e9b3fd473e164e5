import Derived.Test.YtleddolmolkpfaaR4BA
set_option linter.unusedVariables false
set_option linter.unusedSimpArgs false
namespace Go.Proofs.Ytleddolmolkpfaa
open Go.AM
set_option linter.unusedVariables false
set_option linter.unusedSimpArgs false
variable {Γ : Glob}
/-! When a vat is right: values, entities. -/
def entI (x : Int) (n : Nat) : Bool := decide (0 ≤ x) && decide (x < n)
theorem inR_ent (x : Int) {n : Nat} (hn : n ≤ 1048576) : inR x 0 (IntKind.i64.wrap ((n : Int) - 1)) = entI x n := by
  have hw : IntKind.i64.wrap ((n : Int) - 1) = (n : Int) - 1 := wrap_nat (by omega) (by omega)
  rw [hw, inR, entI]
  congr 1
  rw [decide_eq_decide]; omega
def valueF (x : DValue) (n : Nat) : Bool := if x.kind = 0 then inR x.n 0 999999 else if x.kind = 1 then entI x.n n else decide (x.kind = 2) && decide (x.n = 0)
def valuesF (l : List DValue) (n : Nat) : Bool := l.all fun x => valueF x n
def sentsF (l : List DSent) (n : Nat) : Bool := l.all fun s => entI s.target n && entI s.result n
def plainF (e : DEntity) : Bool := decide (e.state = 0) && (decide (e.value = ⟨0, 0⟩) && (decide (e.queue.length = 0) && decide (e.askers.length = 0)))
def noPeerF (e : DEntity) : Bool := decide (e.peer = 0) && (decide (e.pos = 0) && decide (e.count = 0))
def promise0F (e : DEntity) (n : Nat) : Bool :=
  (if e.state = 2 ∨ e.state = 4 then valueF e.value n else decide (e.value = ⟨0, 0⟩)) &&
  ((if e.state = 3 ∨ e.state = 4 then inR e.peer 1 4 && (inR e.pos 1 999999 && inR e.count 0 999999) else noPeerF e) &&
  (decide (e.queue.length ≤ 40) && ((decide (e.queue.length = 0) || (decide (e.state = 1) || decide (e.state = 4))) &&
  (!decide (e.state = 2) || decide (e.askers.length = 0)))))
def promiseF (e : DEntity) (n : Nat) : Bool := inR e.state 1 4 && (promise0F e n && (decide (e.script = 0) && decide (e.slots.length = 0)))
def isEntityF (e : DEntity) (n : Nat) : Bool :=
  inR e.sent 0 999999 && (
    if e.kind = 1 then plainF e && (inR e.script 0 5 && (decide ((e.slots.length : Int) ≤ 3) && (valuesF e.slots n && noPeerF e)))
    else if e.kind = 3 then decide (e.script = 0) && (decide (e.slots.length = 0) && (plainF e && (inR e.peer 1 4 && (inR e.pos 1 999999 && inR e.count 1 999999))))
    else if e.kind = 2 then promiseF e n else false)
theorem impl_named_T (n : Int) (h : AH) : T Try.prog Γ Fn.impl_named [.int .i64 n] h fun v h' => v = .bool (inR n 1 999999) ∧ h' = h := by
  refine impl_named_e (aw_sound tabOK mixed [] _ _ _ ?_)
  unfold impl_named_c
  simp only [EV, EL, EB, EF, q_bx, if_true, if_false, Bool.false_eq_true, Nat.reduceAdd, Option.bind_some, Bool.not_true, Bool.not_false, Nat.reduceBEq, impl_named_r]
  refine TCall.val (by simp only [EO]) (impl_in_T _ _ _ _) ?_
  simp only [EV, EL, EB, EF, q_bx, if_true, if_false, Bool.false_eq_true, Nat.reduceAdd, Option.bind_some, Bool.not_true, Bool.not_false, Nat.reduceBEq, impl_named_r]
  first | exact ⟨rfl, rfl⟩ | exact rfl
theorem impl_IsValue_T (β : Bool) (x : DValue) (n : Nat) (hn : n ≤ 1048576) (h : AH) : T Try.prog Γ Fn.impl_IsValue [.agg (x.c β), .int .i64 n] h fun v h' => v = .bool (valueF x n) ∧ h' = h := by
  refine impl_IsValue_e (aw_sound tabOK mixed [] _ _ _ ?_)
  unfold impl_IsValue_c
  simp only [EV, EL, EB, EF, q_bx, if_true, if_false, Bool.false_eq_true, Nat.reduceAdd, Option.bind_some, Bool.not_true, Bool.not_false, Nat.reduceBEq, impl_IsValue_r, DValue.c, EB2, beq_dec, ne_int]
  repeat' (first
    | (guard_target =~ TCall _ _ Fn.impl_in _ _ _; refine TCall.val (by simp only [EO]) (impl_in_T _ _ _ _) ?_; simp only [EV, EL, EB, EF, q_bx, if_true, if_false, Bool.false_eq_true, Nat.reduceAdd, Option.bind_some, Bool.not_true, Bool.not_false, Nat.reduceBEq, impl_IsValue_r, DValue.c, EB2, beq_dec, ne_int])
    | (refine k_splitn (fun hh => ?_) (fun hh => ?_) <;> simp only [EV, EL, EB, EF, q_bx, if_true, if_false, Bool.false_eq_true, Nat.reduceAdd, Option.bind_some, Bool.not_true, Bool.not_false, Nat.reduceBEq, impl_IsValue_r, hh, DValue.c, EB2, beq_dec, ne_int])
    | (refine k_split (fun hh => ?_) (fun hh => ?_) <;> simp only [EV, EL, EB, EF, q_bx, if_true, if_false, Bool.false_eq_true, Nat.reduceAdd, Option.bind_some, Bool.not_true, Bool.not_false, Nat.reduceBEq, impl_IsValue_r, hh, DValue.c, EB2, beq_dec, ne_int])
    | (refine c_split (fun hh => ?_) (fun hh => ?_) <;> simp only [EV, EL, EB, EF, q_bx, if_true, if_false, Bool.false_eq_true, Nat.reduceAdd, Option.bind_some, Bool.not_true, Bool.not_false, Nat.reduceBEq, impl_IsValue_r, hh, DValue.c, EB2, beq_dec, ne_int])
    | (first | (simp_all [valueF, inR_ent, oob]; done) | (simp_all [valueF, inR_ent, oob]; omega)))
theorem spec_IsValue_T (β : Bool) (x : DValue) (n : Nat) (hn : n ≤ 1048576) (h : AH) : T Try.prog Γ Fn.spec_IsValue [.agg (x.c β), .int .i64 n] h fun v h' => v = .bool (valueF x n) ∧ h' = h := by
  refine spec_IsValue_e (aw_sound tabOK mixed [] _ _ _ ?_)
  unfold spec_IsValue_c
  simp only [EV, EL, EB, EF, q_bx, if_true, if_false, Bool.false_eq_true, Nat.reduceAdd, Option.bind_some, Bool.not_true, Bool.not_false, Nat.reduceBEq, spec_IsValue_r, DValue.c, EB2, beq_dec, ne_int]
  repeat' (first
    | (guard_target =~ TCall _ _ Fn.spec_l1In _ _ _; refine TCall.val (by simp only [EO]) (spec_l1In_T _ _ _ _) ?_; simp only [EV, EL, EB, EF, q_bx, if_true, if_false, Bool.false_eq_true, Nat.reduceAdd, Option.bind_some, Bool.not_true, Bool.not_false, Nat.reduceBEq, spec_IsValue_r, DValue.c, EB2, beq_dec, ne_int])
    | (refine k_splitn (fun hh => ?_) (fun hh => ?_) <;> simp only [EV, EL, EB, EF, q_bx, if_true, if_false, Bool.false_eq_true, Nat.reduceAdd, Option.bind_some, Bool.not_true, Bool.not_false, Nat.reduceBEq, spec_IsValue_r, hh, DValue.c, EB2, beq_dec, ne_int])
    | (refine k_split (fun hh => ?_) (fun hh => ?_) <;> simp only [EV, EL, EB, EF, q_bx, if_true, if_false, Bool.false_eq_true, Nat.reduceAdd, Option.bind_some, Bool.not_true, Bool.not_false, Nat.reduceBEq, spec_IsValue_r, hh, DValue.c, EB2, beq_dec, ne_int])
    | (refine c_split (fun hh => ?_) (fun hh => ?_) <;> simp only [EV, EL, EB, EF, q_bx, if_true, if_false, Bool.false_eq_true, Nat.reduceAdd, Option.bind_some, Bool.not_true, Bool.not_false, Nat.reduceBEq, spec_IsValue_r, hh, DValue.c, EB2, beq_dec, ne_int])
    | (first | (simp_all [valueF, entI, oob]; done) | (simp_all [valueF, entI, oob]; omega)))
theorem impl_rest_obj_T (β : Bool) (e : DEntity) (he : e.ok 1048576) (H : AH) {p : AV} (hp : Ptr H p (e.c β)) : T Try.prog Γ Fn.impl_Entity_rest [p, .bool true, .bool true, .bool false, .bool false] H fun v h' => v = .bool (plainF e && noPeerF e) ∧ h' = H := by
  have L0 := len_vm β 2 false e.slots (DValue.c β)
  have L1 := len_vm β 7 false e.queue (DSent.c β)
  have L2 := len_vm β 2 false e.askers (DAsker.c β)
  have hv : aBin .eql (.agg [.int .i64, .int .i64]) (.agg [.int .i64 e.value.kind, .int .i64 e.value.n]) (.agg [.int .i64 0, .int .i64 0]) = some (.bool (decide (e.value = ⟨0, 0⟩))) := by
    rw [eq_agg2]; congr 2; rw [decide_eq_decide]; cases e.value; simp
  refine impl_Entity_rest_e (aw_sound tabOK mixed [] _ _ _ ?_)
  unfold impl_Entity_rest_c
  simp only [EV, EL, EB, EF, q_bx, if_true, if_false, Bool.false_eq_true, Nat.reduceAdd, Option.bind_some, Bool.not_true, Bool.not_false, Nat.reduceBEq, impl_Entity_rest_r, hp.nil, hp.fld, hp.rd, DEntity.c_len, Nat.reduceLeDiff, DEntity.c, L0, L1, L2, EB2, hv, beq_dec, ne_int, p_build, fl_n, bm_n, om_s]
  repeat' (first
    | (refine k_splitn (fun hh => ?_) (fun hh => ?_) <;> simp only [EV, EL, EB, EF, q_bx, if_true, if_false, Bool.false_eq_true, Nat.reduceAdd, Option.bind_some, Bool.not_true, Bool.not_false, Nat.reduceBEq, impl_Entity_rest_r, hh, hp.nil, hp.fld, hp.rd, DEntity.c_len, Nat.reduceLeDiff, DEntity.c, L0, L1, L2, EB2, hv, beq_dec, ne_int, p_build, fl_n, bm_n, om_s])
    | (refine k_split (fun hh => ?_) (fun hh => ?_) <;> simp only [EV, EL, EB, EF, q_bx, if_true, if_false, Bool.false_eq_true, Nat.reduceAdd, Option.bind_some, Bool.not_true, Bool.not_false, Nat.reduceBEq, impl_Entity_rest_r, hh, hp.nil, hp.fld, hp.rd, DEntity.c_len, Nat.reduceLeDiff, DEntity.c, L0, L1, L2, EB2, hv, beq_dec, ne_int, p_build, fl_n, bm_n, om_s])
    | (refine c_split (fun hh => ?_) (fun hh => ?_) <;> simp only [EV, EL, EB, EF, q_bx, if_true, if_false, Bool.false_eq_true, Nat.reduceAdd, Option.bind_some, Bool.not_true, Bool.not_false, Nat.reduceBEq, impl_Entity_rest_r, hh, hp.nil, hp.fld, hp.rd, DEntity.c_len, Nat.reduceLeDiff, DEntity.c, L0, L1, L2, EB2, hv, beq_dec, ne_int, p_build, fl_n, bm_n, om_s])
    | (first | (simp_all [plainF, noPeerF, oob]; done) | (simp_all [plainF, noPeerF, oob]; omega)))
theorem impl_rest_prox_T (β : Bool) (e : DEntity) (he : e.ok 1048576) (H : AH) {p : AV} (hp : Ptr H p (e.c β)) : T Try.prog Γ Fn.impl_Entity_rest [p, .bool false, .bool false, .bool false, .bool true] H fun v h' => v = .bool (decide (e.script = 0) && (decide (e.slots.length = 0) && plainF e)) ∧ h' = H := by
  have L0 := len_vm β 2 false e.slots (DValue.c β)
  have L1 := len_vm β 7 false e.queue (DSent.c β)
  have L2 := len_vm β 2 false e.askers (DAsker.c β)
  have hv : aBin .eql (.agg [.int .i64, .int .i64]) (.agg [.int .i64 e.value.kind, .int .i64 e.value.n]) (.agg [.int .i64 0, .int .i64 0]) = some (.bool (decide (e.value = ⟨0, 0⟩))) := by
    rw [eq_agg2]; congr 2; rw [decide_eq_decide]; cases e.value; simp
  refine impl_Entity_rest_e (aw_sound tabOK mixed [] _ _ _ ?_)
  unfold impl_Entity_rest_c
  simp only [EV, EL, EB, EF, q_bx, if_true, if_false, Bool.false_eq_true, Nat.reduceAdd, Option.bind_some, Bool.not_true, Bool.not_false, Nat.reduceBEq, impl_Entity_rest_r, hp.nil, hp.fld, hp.rd, DEntity.c_len, Nat.reduceLeDiff, DEntity.c, L0, L1, L2, EB2, hv, beq_dec, ne_int, p_build, fl_n, bm_n, om_s]
  repeat' (first
    | (refine k_splitn (fun hh => ?_) (fun hh => ?_) <;> simp only [EV, EL, EB, EF, q_bx, if_true, if_false, Bool.false_eq_true, Nat.reduceAdd, Option.bind_some, Bool.not_true, Bool.not_false, Nat.reduceBEq, impl_Entity_rest_r, hh, hp.nil, hp.fld, hp.rd, DEntity.c_len, Nat.reduceLeDiff, DEntity.c, L0, L1, L2, EB2, hv, beq_dec, ne_int, p_build, fl_n, bm_n, om_s])
    | (refine k_split (fun hh => ?_) (fun hh => ?_) <;> simp only [EV, EL, EB, EF, q_bx, if_true, if_false, Bool.false_eq_true, Nat.reduceAdd, Option.bind_some, Bool.not_true, Bool.not_false, Nat.reduceBEq, impl_Entity_rest_r, hh, hp.nil, hp.fld, hp.rd, DEntity.c_len, Nat.reduceLeDiff, DEntity.c, L0, L1, L2, EB2, hv, beq_dec, ne_int, p_build, fl_n, bm_n, om_s])
    | (refine c_split (fun hh => ?_) (fun hh => ?_) <;> simp only [EV, EL, EB, EF, q_bx, if_true, if_false, Bool.false_eq_true, Nat.reduceAdd, Option.bind_some, Bool.not_true, Bool.not_false, Nat.reduceBEq, impl_Entity_rest_r, hh, hp.nil, hp.fld, hp.rd, DEntity.c_len, Nat.reduceLeDiff, DEntity.c, L0, L1, L2, EB2, hv, beq_dec, ne_int, p_build, fl_n, bm_n, om_s])
    | (first | (simp_all [plainF, noPeerF, oob]; done) | (simp_all [plainF, noPeerF, oob]; omega)))
theorem impl_rest_prom_T (β : Bool) (e : DEntity) (he : e.ok 1048576) (H : AH) {p : AV} (hp : Ptr H p (e.c β)) : T Try.prog Γ Fn.impl_Entity_rest [p, .bool false, .bool false, .bool true, .bool true] H fun v h' => v = .bool (decide (e.script = 0) && decide (e.slots.length = 0)) ∧ h' = H := by
  have L0 := len_vm β 2 false e.slots (DValue.c β)
  have L1 := len_vm β 7 false e.queue (DSent.c β)
  have L2 := len_vm β 2 false e.askers (DAsker.c β)
  have hv : aBin .eql (.agg [.int .i64, .int .i64]) (.agg [.int .i64 e.value.kind, .int .i64 e.value.n]) (.agg [.int .i64 0, .int .i64 0]) = some (.bool (decide (e.value = ⟨0, 0⟩))) := by
    rw [eq_agg2]; congr 2; rw [decide_eq_decide]; cases e.value; simp
  refine impl_Entity_rest_e (aw_sound tabOK mixed [] _ _ _ ?_)
  unfold impl_Entity_rest_c
  simp only [EV, EL, EB, EF, q_bx, if_true, if_false, Bool.false_eq_true, Nat.reduceAdd, Option.bind_some, Bool.not_true, Bool.not_false, Nat.reduceBEq, impl_Entity_rest_r, hp.nil, hp.fld, hp.rd, DEntity.c_len, Nat.reduceLeDiff, DEntity.c, L0, L1, L2, EB2, hv, beq_dec, ne_int, p_build, fl_n, bm_n, om_s]
  repeat' (first
    | (refine k_splitn (fun hh => ?_) (fun hh => ?_) <;> simp only [EV, EL, EB, EF, q_bx, if_true, if_false, Bool.false_eq_true, Nat.reduceAdd, Option.bind_some, Bool.not_true, Bool.not_false, Nat.reduceBEq, impl_Entity_rest_r, hh, hp.nil, hp.fld, hp.rd, DEntity.c_len, Nat.reduceLeDiff, DEntity.c, L0, L1, L2, EB2, hv, beq_dec, ne_int, p_build, fl_n, bm_n, om_s])
    | (refine k_split (fun hh => ?_) (fun hh => ?_) <;> simp only [EV, EL, EB, EF, q_bx, if_true, if_false, Bool.false_eq_true, Nat.reduceAdd, Option.bind_some, Bool.not_true, Bool.not_false, Nat.reduceBEq, impl_Entity_rest_r, hh, hp.nil, hp.fld, hp.rd, DEntity.c_len, Nat.reduceLeDiff, DEntity.c, L0, L1, L2, EB2, hv, beq_dec, ne_int, p_build, fl_n, bm_n, om_s])
    | (refine c_split (fun hh => ?_) (fun hh => ?_) <;> simp only [EV, EL, EB, EF, q_bx, if_true, if_false, Bool.false_eq_true, Nat.reduceAdd, Option.bind_some, Bool.not_true, Bool.not_false, Nat.reduceBEq, impl_Entity_rest_r, hh, hp.nil, hp.fld, hp.rd, DEntity.c_len, Nat.reduceLeDiff, DEntity.c, L0, L1, L2, EB2, hv, beq_dec, ne_int, p_build, fl_n, bm_n, om_s])
    | (first | (simp_all [plainF, noPeerF, oob]; done) | (simp_all [plainF, noPeerF, oob]; omega)))
set_option maxHeartbeats 4000000 in
set_option maxRecDepth 10000 in
theorem impl_promiseOk_T (β : Bool) (e : DEntity) (he : e.ok 1048576) (n : Nat) (hn : n ≤ 1048576) (H : AH) {p : AV} (hp : Ptr H p (e.c β)) : T Try.prog Γ Fn.impl_Entity_promiseOk [p, .int .i64 n] H fun v h' => v = .bool (promise0F e n) ∧ h' = H := by
  have L0 := len_vm β 2 false e.slots (DValue.c β)
  have L1 := len_vm β 7 false e.queue (DSent.c β)
  have L2 := len_vm β 2 false e.askers (DAsker.c β)
  have hv : aBin .eql (.agg [.int .i64, .int .i64]) (.agg [.int .i64 e.value.kind, .int .i64 e.value.n]) (.agg [.int .i64 0, .int .i64 0]) = some (.bool (decide (e.value = ⟨0, 0⟩))) := by
    rw [eq_agg2]; congr 2; rw [decide_eq_decide]; cases e.value; simp
  have hw : aBin .neq (.agg [.int .i64, .int .i64]) (.agg [.int .i64 e.value.kind, .int .i64 e.value.n]) (.agg [.int .i64 0, .int .i64 0]) = some (.bool !decide (e.value = ⟨0, 0⟩)) := by
    rw [ne_agg2]; congr 3; rw [decide_eq_decide]; cases e.value; simp
  refine impl_Entity_promiseOk_e (aw_sound tabOK mixed [] _ _ _ ?_)
  unfold impl_Entity_promiseOk_c
  by_cases s1 : e.state = 1
  · simp only [EV, EL, EB, EF, q_bx, if_true, if_false, Bool.false_eq_true, Nat.reduceAdd, Option.bind_some, Bool.not_true, Bool.not_false, Nat.reduceBEq, impl_Entity_promiseOk_r, hp.nil, hp.fld, hp.rd, DEntity.c_len, Nat.reduceLeDiff, DEntity.c, L0, L1, L2, EB2, hv, hw, beq_dec, ne_int, p_build, fl_n, bm_n, om_s, s1, Int.reduceEq, decide_true, decide_false]
    repeat' (first
      | (guard_target =~ TCall _ _ Fn.impl_IsValue _ _ _; refine TCall.val (by simp only [EO]) (impl_IsValue_T β e.value n hn _) ?_; simp only [EV, EL, EB, EF, q_bx, if_true, if_false, Bool.false_eq_true, Nat.reduceAdd, Option.bind_some, Bool.not_true, Bool.not_false, Nat.reduceBEq, impl_Entity_promiseOk_r, hp.nil, hp.fld, hp.rd, DEntity.c_len, Nat.reduceLeDiff, DEntity.c, L0, L1, L2, EB2, hv, hw, beq_dec, ne_int, p_build, fl_n, bm_n, om_s, s1, Int.reduceEq, decide_true, decide_false])
      | (guard_target =~ TCall _ _ Fn.impl_in _ _ _; refine TCall.val (by simp only [EO]) (impl_in_T _ _ _ _) ?_; simp only [EV, EL, EB, EF, q_bx, if_true, if_false, Bool.false_eq_true, Nat.reduceAdd, Option.bind_some, Bool.not_true, Bool.not_false, Nat.reduceBEq, impl_Entity_promiseOk_r, hp.nil, hp.fld, hp.rd, DEntity.c_len, Nat.reduceLeDiff, DEntity.c, L0, L1, L2, EB2, hv, hw, beq_dec, ne_int, p_build, fl_n, bm_n, om_s, s1, Int.reduceEq, decide_true, decide_false])
      | (refine k_splitn (fun hh => ?_) (fun hh => ?_) <;> simp only [EV, EL, EB, EF, q_bx, if_true, if_false, Bool.false_eq_true, Nat.reduceAdd, Option.bind_some, Bool.not_true, Bool.not_false, Nat.reduceBEq, impl_Entity_promiseOk_r, hh, hp.nil, hp.fld, hp.rd, DEntity.c_len, Nat.reduceLeDiff, DEntity.c, L0, L1, L2, EB2, hv, hw, beq_dec, ne_int, p_build, fl_n, bm_n, om_s, s1, Int.reduceEq, decide_true, decide_false])
      | (refine k_split (fun hh => ?_) (fun hh => ?_) <;> simp only [EV, EL, EB, EF, q_bx, if_true, if_false, Bool.false_eq_true, Nat.reduceAdd, Option.bind_some, Bool.not_true, Bool.not_false, Nat.reduceBEq, impl_Entity_promiseOk_r, hh, hp.nil, hp.fld, hp.rd, DEntity.c_len, Nat.reduceLeDiff, DEntity.c, L0, L1, L2, EB2, hv, hw, beq_dec, ne_int, p_build, fl_n, bm_n, om_s, s1, Int.reduceEq, decide_true, decide_false])
      | (refine c_split (fun hh => ?_) (fun hh => ?_) <;> simp only [EV, EL, EB, EF, q_bx, if_true, if_false, Bool.false_eq_true, Nat.reduceAdd, Option.bind_some, Bool.not_true, Bool.not_false, Nat.reduceBEq, impl_Entity_promiseOk_r, hh, hp.nil, hp.fld, hp.rd, DEntity.c_len, Nat.reduceLeDiff, DEntity.c, L0, L1, L2, EB2, hv, hw, beq_dec, ne_int, p_build, fl_n, bm_n, om_s, s1, Int.reduceEq, decide_true, decide_false])
      | (first | (simp_all [promise0F, noPeerF, oob]; done) | (simp_all [promise0F, noPeerF, oob]; omega)))
  by_cases s2 : e.state = 2
  · simp only [EV, EL, EB, EF, q_bx, if_true, if_false, Bool.false_eq_true, Nat.reduceAdd, Option.bind_some, Bool.not_true, Bool.not_false, Nat.reduceBEq, impl_Entity_promiseOk_r, hp.nil, hp.fld, hp.rd, DEntity.c_len, Nat.reduceLeDiff, DEntity.c, L0, L1, L2, EB2, hv, hw, beq_dec, ne_int, p_build, fl_n, bm_n, om_s, s2, Int.reduceEq, decide_true, decide_false]
    repeat' (first
      | (guard_target =~ TCall _ _ Fn.impl_IsValue _ _ _; refine TCall.val (by simp only [EO]) (impl_IsValue_T β e.value n hn _) ?_; simp only [EV, EL, EB, EF, q_bx, if_true, if_false, Bool.false_eq_true, Nat.reduceAdd, Option.bind_some, Bool.not_true, Bool.not_false, Nat.reduceBEq, impl_Entity_promiseOk_r, hp.nil, hp.fld, hp.rd, DEntity.c_len, Nat.reduceLeDiff, DEntity.c, L0, L1, L2, EB2, hv, hw, beq_dec, ne_int, p_build, fl_n, bm_n, om_s, s2, Int.reduceEq, decide_true, decide_false])
      | (guard_target =~ TCall _ _ Fn.impl_in _ _ _; refine TCall.val (by simp only [EO]) (impl_in_T _ _ _ _) ?_; simp only [EV, EL, EB, EF, q_bx, if_true, if_false, Bool.false_eq_true, Nat.reduceAdd, Option.bind_some, Bool.not_true, Bool.not_false, Nat.reduceBEq, impl_Entity_promiseOk_r, hp.nil, hp.fld, hp.rd, DEntity.c_len, Nat.reduceLeDiff, DEntity.c, L0, L1, L2, EB2, hv, hw, beq_dec, ne_int, p_build, fl_n, bm_n, om_s, s2, Int.reduceEq, decide_true, decide_false])
      | (refine k_splitn (fun hh => ?_) (fun hh => ?_) <;> simp only [EV, EL, EB, EF, q_bx, if_true, if_false, Bool.false_eq_true, Nat.reduceAdd, Option.bind_some, Bool.not_true, Bool.not_false, Nat.reduceBEq, impl_Entity_promiseOk_r, hh, hp.nil, hp.fld, hp.rd, DEntity.c_len, Nat.reduceLeDiff, DEntity.c, L0, L1, L2, EB2, hv, hw, beq_dec, ne_int, p_build, fl_n, bm_n, om_s, s2, Int.reduceEq, decide_true, decide_false])
      | (refine k_split (fun hh => ?_) (fun hh => ?_) <;> simp only [EV, EL, EB, EF, q_bx, if_true, if_false, Bool.false_eq_true, Nat.reduceAdd, Option.bind_some, Bool.not_true, Bool.not_false, Nat.reduceBEq, impl_Entity_promiseOk_r, hh, hp.nil, hp.fld, hp.rd, DEntity.c_len, Nat.reduceLeDiff, DEntity.c, L0, L1, L2, EB2, hv, hw, beq_dec, ne_int, p_build, fl_n, bm_n, om_s, s2, Int.reduceEq, decide_true, decide_false])
      | (refine c_split (fun hh => ?_) (fun hh => ?_) <;> simp only [EV, EL, EB, EF, q_bx, if_true, if_false, Bool.false_eq_true, Nat.reduceAdd, Option.bind_some, Bool.not_true, Bool.not_false, Nat.reduceBEq, impl_Entity_promiseOk_r, hh, hp.nil, hp.fld, hp.rd, DEntity.c_len, Nat.reduceLeDiff, DEntity.c, L0, L1, L2, EB2, hv, hw, beq_dec, ne_int, p_build, fl_n, bm_n, om_s, s2, Int.reduceEq, decide_true, decide_false])
      | (first | (simp_all [promise0F, noPeerF, oob]; done) | (simp_all [promise0F, noPeerF, oob]; omega)))
  by_cases s3 : e.state = 3
  · simp only [EV, EL, EB, EF, q_bx, if_true, if_false, Bool.false_eq_true, Nat.reduceAdd, Option.bind_some, Bool.not_true, Bool.not_false, Nat.reduceBEq, impl_Entity_promiseOk_r, hp.nil, hp.fld, hp.rd, DEntity.c_len, Nat.reduceLeDiff, DEntity.c, L0, L1, L2, EB2, hv, hw, beq_dec, ne_int, p_build, fl_n, bm_n, om_s, s3, Int.reduceEq, decide_true, decide_false]
    repeat' (first
      | (guard_target =~ TCall _ _ Fn.impl_IsValue _ _ _; refine TCall.val (by simp only [EO]) (impl_IsValue_T β e.value n hn _) ?_; simp only [EV, EL, EB, EF, q_bx, if_true, if_false, Bool.false_eq_true, Nat.reduceAdd, Option.bind_some, Bool.not_true, Bool.not_false, Nat.reduceBEq, impl_Entity_promiseOk_r, hp.nil, hp.fld, hp.rd, DEntity.c_len, Nat.reduceLeDiff, DEntity.c, L0, L1, L2, EB2, hv, hw, beq_dec, ne_int, p_build, fl_n, bm_n, om_s, s3, Int.reduceEq, decide_true, decide_false])
      | (guard_target =~ TCall _ _ Fn.impl_in _ _ _; refine TCall.val (by simp only [EO]) (impl_in_T _ _ _ _) ?_; simp only [EV, EL, EB, EF, q_bx, if_true, if_false, Bool.false_eq_true, Nat.reduceAdd, Option.bind_some, Bool.not_true, Bool.not_false, Nat.reduceBEq, impl_Entity_promiseOk_r, hp.nil, hp.fld, hp.rd, DEntity.c_len, Nat.reduceLeDiff, DEntity.c, L0, L1, L2, EB2, hv, hw, beq_dec, ne_int, p_build, fl_n, bm_n, om_s, s3, Int.reduceEq, decide_true, decide_false])
      | (refine k_splitn (fun hh => ?_) (fun hh => ?_) <;> simp only [EV, EL, EB, EF, q_bx, if_true, if_false, Bool.false_eq_true, Nat.reduceAdd, Option.bind_some, Bool.not_true, Bool.not_false, Nat.reduceBEq, impl_Entity_promiseOk_r, hh, hp.nil, hp.fld, hp.rd, DEntity.c_len, Nat.reduceLeDiff, DEntity.c, L0, L1, L2, EB2, hv, hw, beq_dec, ne_int, p_build, fl_n, bm_n, om_s, s3, Int.reduceEq, decide_true, decide_false])
      | (refine k_split (fun hh => ?_) (fun hh => ?_) <;> simp only [EV, EL, EB, EF, q_bx, if_true, if_false, Bool.false_eq_true, Nat.reduceAdd, Option.bind_some, Bool.not_true, Bool.not_false, Nat.reduceBEq, impl_Entity_promiseOk_r, hh, hp.nil, hp.fld, hp.rd, DEntity.c_len, Nat.reduceLeDiff, DEntity.c, L0, L1, L2, EB2, hv, hw, beq_dec, ne_int, p_build, fl_n, bm_n, om_s, s3, Int.reduceEq, decide_true, decide_false])
      | (refine c_split (fun hh => ?_) (fun hh => ?_) <;> simp only [EV, EL, EB, EF, q_bx, if_true, if_false, Bool.false_eq_true, Nat.reduceAdd, Option.bind_some, Bool.not_true, Bool.not_false, Nat.reduceBEq, impl_Entity_promiseOk_r, hh, hp.nil, hp.fld, hp.rd, DEntity.c_len, Nat.reduceLeDiff, DEntity.c, L0, L1, L2, EB2, hv, hw, beq_dec, ne_int, p_build, fl_n, bm_n, om_s, s3, Int.reduceEq, decide_true, decide_false])
      | (first | (simp_all [promise0F, noPeerF, oob]; done) | (simp_all [promise0F, noPeerF, oob]; omega)))
  by_cases s4 : e.state = 4
  · simp only [EV, EL, EB, EF, q_bx, if_true, if_false, Bool.false_eq_true, Nat.reduceAdd, Option.bind_some, Bool.not_true, Bool.not_false, Nat.reduceBEq, impl_Entity_promiseOk_r, hp.nil, hp.fld, hp.rd, DEntity.c_len, Nat.reduceLeDiff, DEntity.c, L0, L1, L2, EB2, hv, hw, beq_dec, ne_int, p_build, fl_n, bm_n, om_s, s4, Int.reduceEq, decide_true, decide_false]
    repeat' (first
      | (guard_target =~ TCall _ _ Fn.impl_IsValue _ _ _; refine TCall.val (by simp only [EO]) (impl_IsValue_T β e.value n hn _) ?_; simp only [EV, EL, EB, EF, q_bx, if_true, if_false, Bool.false_eq_true, Nat.reduceAdd, Option.bind_some, Bool.not_true, Bool.not_false, Nat.reduceBEq, impl_Entity_promiseOk_r, hp.nil, hp.fld, hp.rd, DEntity.c_len, Nat.reduceLeDiff, DEntity.c, L0, L1, L2, EB2, hv, hw, beq_dec, ne_int, p_build, fl_n, bm_n, om_s, s4, Int.reduceEq, decide_true, decide_false])
      | (guard_target =~ TCall _ _ Fn.impl_in _ _ _; refine TCall.val (by simp only [EO]) (impl_in_T _ _ _ _) ?_; simp only [EV, EL, EB, EF, q_bx, if_true, if_false, Bool.false_eq_true, Nat.reduceAdd, Option.bind_some, Bool.not_true, Bool.not_false, Nat.reduceBEq, impl_Entity_promiseOk_r, hp.nil, hp.fld, hp.rd, DEntity.c_len, Nat.reduceLeDiff, DEntity.c, L0, L1, L2, EB2, hv, hw, beq_dec, ne_int, p_build, fl_n, bm_n, om_s, s4, Int.reduceEq, decide_true, decide_false])
      | (refine k_splitn (fun hh => ?_) (fun hh => ?_) <;> simp only [EV, EL, EB, EF, q_bx, if_true, if_false, Bool.false_eq_true, Nat.reduceAdd, Option.bind_some, Bool.not_true, Bool.not_false, Nat.reduceBEq, impl_Entity_promiseOk_r, hh, hp.nil, hp.fld, hp.rd, DEntity.c_len, Nat.reduceLeDiff, DEntity.c, L0, L1, L2, EB2, hv, hw, beq_dec, ne_int, p_build, fl_n, bm_n, om_s, s4, Int.reduceEq, decide_true, decide_false])
      | (refine k_split (fun hh => ?_) (fun hh => ?_) <;> simp only [EV, EL, EB, EF, q_bx, if_true, if_false, Bool.false_eq_true, Nat.reduceAdd, Option.bind_some, Bool.not_true, Bool.not_false, Nat.reduceBEq, impl_Entity_promiseOk_r, hh, hp.nil, hp.fld, hp.rd, DEntity.c_len, Nat.reduceLeDiff, DEntity.c, L0, L1, L2, EB2, hv, hw, beq_dec, ne_int, p_build, fl_n, bm_n, om_s, s4, Int.reduceEq, decide_true, decide_false])
      | (refine c_split (fun hh => ?_) (fun hh => ?_) <;> simp only [EV, EL, EB, EF, q_bx, if_true, if_false, Bool.false_eq_true, Nat.reduceAdd, Option.bind_some, Bool.not_true, Bool.not_false, Nat.reduceBEq, impl_Entity_promiseOk_r, hh, hp.nil, hp.fld, hp.rd, DEntity.c_len, Nat.reduceLeDiff, DEntity.c, L0, L1, L2, EB2, hv, hw, beq_dec, ne_int, p_build, fl_n, bm_n, om_s, s4, Int.reduceEq, decide_true, decide_false])
      | (first | (simp_all [promise0F, noPeerF, oob]; done) | (simp_all [promise0F, noPeerF, oob]; omega)))
  · simp only [EV, EL, EB, EF, q_bx, if_true, if_false, Bool.false_eq_true, Nat.reduceAdd, Option.bind_some, Bool.not_true, Bool.not_false, Nat.reduceBEq, impl_Entity_promiseOk_r, hp.nil, hp.fld, hp.rd, DEntity.c_len, Nat.reduceLeDiff, DEntity.c, L0, L1, L2, EB2, hv, hw, beq_dec, ne_int, p_build, fl_n, bm_n, om_s, decide_eq_false s1, decide_eq_false s2, decide_eq_false s3, decide_eq_false s4]
    repeat' (first
      | (guard_target =~ TCall _ _ Fn.impl_IsValue _ _ _; refine TCall.val (by simp only [EO]) (impl_IsValue_T β e.value n hn _) ?_; simp only [EV, EL, EB, EF, q_bx, if_true, if_false, Bool.false_eq_true, Nat.reduceAdd, Option.bind_some, Bool.not_true, Bool.not_false, Nat.reduceBEq, impl_Entity_promiseOk_r, hp.nil, hp.fld, hp.rd, DEntity.c_len, Nat.reduceLeDiff, DEntity.c, L0, L1, L2, EB2, hv, hw, beq_dec, ne_int, p_build, fl_n, bm_n, om_s, decide_eq_false s1, decide_eq_false s2, decide_eq_false s3, decide_eq_false s4])
      | (guard_target =~ TCall _ _ Fn.impl_in _ _ _; refine TCall.val (by simp only [EO]) (impl_in_T _ _ _ _) ?_; simp only [EV, EL, EB, EF, q_bx, if_true, if_false, Bool.false_eq_true, Nat.reduceAdd, Option.bind_some, Bool.not_true, Bool.not_false, Nat.reduceBEq, impl_Entity_promiseOk_r, hp.nil, hp.fld, hp.rd, DEntity.c_len, Nat.reduceLeDiff, DEntity.c, L0, L1, L2, EB2, hv, hw, beq_dec, ne_int, p_build, fl_n, bm_n, om_s, decide_eq_false s1, decide_eq_false s2, decide_eq_false s3, decide_eq_false s4])
      | (refine k_splitn (fun hh => ?_) (fun hh => ?_) <;> simp only [EV, EL, EB, EF, q_bx, if_true, if_false, Bool.false_eq_true, Nat.reduceAdd, Option.bind_some, Bool.not_true, Bool.not_false, Nat.reduceBEq, impl_Entity_promiseOk_r, hh, hp.nil, hp.fld, hp.rd, DEntity.c_len, Nat.reduceLeDiff, DEntity.c, L0, L1, L2, EB2, hv, hw, beq_dec, ne_int, p_build, fl_n, bm_n, om_s, decide_eq_false s1, decide_eq_false s2, decide_eq_false s3, decide_eq_false s4])
      | (refine k_split (fun hh => ?_) (fun hh => ?_) <;> simp only [EV, EL, EB, EF, q_bx, if_true, if_false, Bool.false_eq_true, Nat.reduceAdd, Option.bind_some, Bool.not_true, Bool.not_false, Nat.reduceBEq, impl_Entity_promiseOk_r, hh, hp.nil, hp.fld, hp.rd, DEntity.c_len, Nat.reduceLeDiff, DEntity.c, L0, L1, L2, EB2, hv, hw, beq_dec, ne_int, p_build, fl_n, bm_n, om_s, decide_eq_false s1, decide_eq_false s2, decide_eq_false s3, decide_eq_false s4])
      | (refine c_split (fun hh => ?_) (fun hh => ?_) <;> simp only [EV, EL, EB, EF, q_bx, if_true, if_false, Bool.false_eq_true, Nat.reduceAdd, Option.bind_some, Bool.not_true, Bool.not_false, Nat.reduceBEq, impl_Entity_promiseOk_r, hh, hp.nil, hp.fld, hp.rd, DEntity.c_len, Nat.reduceLeDiff, DEntity.c, L0, L1, L2, EB2, hv, hw, beq_dec, ne_int, p_build, fl_n, bm_n, om_s, decide_eq_false s1, decide_eq_false s2, decide_eq_false s3, decide_eq_false s4])
      | (first | (simp_all [promise0F, noPeerF, oob]; done) | (simp_all [promise0F, noPeerF, oob]; omega)))
set_option maxHeartbeats 4000000 in
set_option maxRecDepth 10000 in
theorem spec_l9Promise_T (β : Bool) (e : DEntity) (he : e.ok 1048576) (n : Nat) (hn : n ≤ 1048576) (H : AH) : T Try.prog Γ Fn.spec_l9Promise [.agg (e.c β), .int .i64 n] H fun v h' => v = .bool (promiseF e n) ∧ h' = H := by
  have L0 := len_vm β 2 false e.slots (DValue.c β)
  have L1 := len_vm β 7 false e.queue (DSent.c β)
  have L2 := len_vm β 2 false e.askers (DAsker.c β)
  have hv : aBin .eql (.agg [.int .i64, .int .i64]) (.agg [.int .i64 e.value.kind, .int .i64 e.value.n]) (.agg [.int .i64 0, .int .i64 0]) = some (.bool (decide (e.value = ⟨0, 0⟩))) := by
    rw [eq_agg2]; congr 2; rw [decide_eq_decide]; cases e.value; simp
  have hw : aBin .neq (.agg [.int .i64, .int .i64]) (.agg [.int .i64 e.value.kind, .int .i64 e.value.n]) (.agg [.int .i64 0, .int .i64 0]) = some (.bool !decide (e.value = ⟨0, 0⟩)) := by
    rw [ne_agg2]; congr 3; rw [decide_eq_decide]; cases e.value; simp
  refine spec_l9Promise_e (aw_sound tabOK mixed [] _ _ _ ?_)
  unfold spec_l9Promise_c
  by_cases s1 : e.state = 1
  · simp only [EV, EL, EB, EF, q_bx, if_true, if_false, Bool.false_eq_true, Nat.reduceAdd, Option.bind_some, Bool.not_true, Bool.not_false, Nat.reduceBEq, spec_l9Promise_r, DEntity.c, L0, L1, L2, EB2, hv, hw, beq_dec, ne_int, p_build, fl_n, bm_n, om_s, s1, Int.reduceEq, decide_true, decide_false]
    repeat' (first
      | (guard_target =~ TCall _ _ Fn.spec_IsValue _ _ _; refine TCall.val (by simp only [EO]) (spec_IsValue_T β e.value n hn _) ?_; simp only [EV, EL, EB, EF, q_bx, if_true, if_false, Bool.false_eq_true, Nat.reduceAdd, Option.bind_some, Bool.not_true, Bool.not_false, Nat.reduceBEq, spec_l9Promise_r, DEntity.c, L0, L1, L2, EB2, hv, hw, beq_dec, ne_int, p_build, fl_n, bm_n, om_s, s1, Int.reduceEq, decide_true, decide_false])
      | (guard_target =~ TCall _ _ Fn.spec_l1In _ _ _; refine TCall.val (by simp only [EO]) (spec_l1In_T _ _ _ _) ?_; simp only [EV, EL, EB, EF, q_bx, if_true, if_false, Bool.false_eq_true, Nat.reduceAdd, Option.bind_some, Bool.not_true, Bool.not_false, Nat.reduceBEq, spec_l9Promise_r, DEntity.c, L0, L1, L2, EB2, hv, hw, beq_dec, ne_int, p_build, fl_n, bm_n, om_s, s1, Int.reduceEq, decide_true, decide_false])
      | (refine k_splitn (fun hh => ?_) (fun hh => ?_) <;> simp only [EV, EL, EB, EF, q_bx, if_true, if_false, Bool.false_eq_true, Nat.reduceAdd, Option.bind_some, Bool.not_true, Bool.not_false, Nat.reduceBEq, spec_l9Promise_r, hh, DEntity.c, L0, L1, L2, EB2, hv, hw, beq_dec, ne_int, p_build, fl_n, bm_n, om_s, s1, Int.reduceEq, decide_true, decide_false])
      | (refine k_split (fun hh => ?_) (fun hh => ?_) <;> simp only [EV, EL, EB, EF, q_bx, if_true, if_false, Bool.false_eq_true, Nat.reduceAdd, Option.bind_some, Bool.not_true, Bool.not_false, Nat.reduceBEq, spec_l9Promise_r, hh, DEntity.c, L0, L1, L2, EB2, hv, hw, beq_dec, ne_int, p_build, fl_n, bm_n, om_s, s1, Int.reduceEq, decide_true, decide_false])
      | (refine c_split (fun hh => ?_) (fun hh => ?_) <;> simp only [EV, EL, EB, EF, q_bx, if_true, if_false, Bool.false_eq_true, Nat.reduceAdd, Option.bind_some, Bool.not_true, Bool.not_false, Nat.reduceBEq, spec_l9Promise_r, hh, DEntity.c, L0, L1, L2, EB2, hv, hw, beq_dec, ne_int, p_build, fl_n, bm_n, om_s, s1, Int.reduceEq, decide_true, decide_false])
      | (first | (simp_all [promiseF, promise0F, noPeerF, oob]; done) | (simp_all [promiseF, promise0F, noPeerF, oob]; omega) | (simp_all [promiseF, promise0F, noPeerF, oob]; intros; simp_all; done) | (simp_all [promiseF, promise0F, noPeerF, oob]; intros; simp_all; omega)))
  by_cases s2 : e.state = 2
  · simp only [EV, EL, EB, EF, q_bx, if_true, if_false, Bool.false_eq_true, Nat.reduceAdd, Option.bind_some, Bool.not_true, Bool.not_false, Nat.reduceBEq, spec_l9Promise_r, DEntity.c, L0, L1, L2, EB2, hv, hw, beq_dec, ne_int, p_build, fl_n, bm_n, om_s, s2, Int.reduceEq, decide_true, decide_false]
    repeat' (first
      | (guard_target =~ TCall _ _ Fn.spec_IsValue _ _ _; refine TCall.val (by simp only [EO]) (spec_IsValue_T β e.value n hn _) ?_; simp only [EV, EL, EB, EF, q_bx, if_true, if_false, Bool.false_eq_true, Nat.reduceAdd, Option.bind_some, Bool.not_true, Bool.not_false, Nat.reduceBEq, spec_l9Promise_r, DEntity.c, L0, L1, L2, EB2, hv, hw, beq_dec, ne_int, p_build, fl_n, bm_n, om_s, s2, Int.reduceEq, decide_true, decide_false])
      | (guard_target =~ TCall _ _ Fn.spec_l1In _ _ _; refine TCall.val (by simp only [EO]) (spec_l1In_T _ _ _ _) ?_; simp only [EV, EL, EB, EF, q_bx, if_true, if_false, Bool.false_eq_true, Nat.reduceAdd, Option.bind_some, Bool.not_true, Bool.not_false, Nat.reduceBEq, spec_l9Promise_r, DEntity.c, L0, L1, L2, EB2, hv, hw, beq_dec, ne_int, p_build, fl_n, bm_n, om_s, s2, Int.reduceEq, decide_true, decide_false])
      | (refine k_splitn (fun hh => ?_) (fun hh => ?_) <;> simp only [EV, EL, EB, EF, q_bx, if_true, if_false, Bool.false_eq_true, Nat.reduceAdd, Option.bind_some, Bool.not_true, Bool.not_false, Nat.reduceBEq, spec_l9Promise_r, hh, DEntity.c, L0, L1, L2, EB2, hv, hw, beq_dec, ne_int, p_build, fl_n, bm_n, om_s, s2, Int.reduceEq, decide_true, decide_false])
      | (refine k_split (fun hh => ?_) (fun hh => ?_) <;> simp only [EV, EL, EB, EF, q_bx, if_true, if_false, Bool.false_eq_true, Nat.reduceAdd, Option.bind_some, Bool.not_true, Bool.not_false, Nat.reduceBEq, spec_l9Promise_r, hh, DEntity.c, L0, L1, L2, EB2, hv, hw, beq_dec, ne_int, p_build, fl_n, bm_n, om_s, s2, Int.reduceEq, decide_true, decide_false])
      | (refine c_split (fun hh => ?_) (fun hh => ?_) <;> simp only [EV, EL, EB, EF, q_bx, if_true, if_false, Bool.false_eq_true, Nat.reduceAdd, Option.bind_some, Bool.not_true, Bool.not_false, Nat.reduceBEq, spec_l9Promise_r, hh, DEntity.c, L0, L1, L2, EB2, hv, hw, beq_dec, ne_int, p_build, fl_n, bm_n, om_s, s2, Int.reduceEq, decide_true, decide_false])
      | (first | (simp_all [promiseF, promise0F, noPeerF, oob]; done) | (simp_all [promiseF, promise0F, noPeerF, oob]; omega) | (simp_all [promiseF, promise0F, noPeerF, oob]; intros; simp_all; done) | (simp_all [promiseF, promise0F, noPeerF, oob]; intros; simp_all; omega)))
  by_cases s3 : e.state = 3
  · simp only [EV, EL, EB, EF, q_bx, if_true, if_false, Bool.false_eq_true, Nat.reduceAdd, Option.bind_some, Bool.not_true, Bool.not_false, Nat.reduceBEq, spec_l9Promise_r, DEntity.c, L0, L1, L2, EB2, hv, hw, beq_dec, ne_int, p_build, fl_n, bm_n, om_s, s3, Int.reduceEq, decide_true, decide_false]
    repeat' (first
      | (guard_target =~ TCall _ _ Fn.spec_IsValue _ _ _; refine TCall.val (by simp only [EO]) (spec_IsValue_T β e.value n hn _) ?_; simp only [EV, EL, EB, EF, q_bx, if_true, if_false, Bool.false_eq_true, Nat.reduceAdd, Option.bind_some, Bool.not_true, Bool.not_false, Nat.reduceBEq, spec_l9Promise_r, DEntity.c, L0, L1, L2, EB2, hv, hw, beq_dec, ne_int, p_build, fl_n, bm_n, om_s, s3, Int.reduceEq, decide_true, decide_false])
      | (guard_target =~ TCall _ _ Fn.spec_l1In _ _ _; refine TCall.val (by simp only [EO]) (spec_l1In_T _ _ _ _) ?_; simp only [EV, EL, EB, EF, q_bx, if_true, if_false, Bool.false_eq_true, Nat.reduceAdd, Option.bind_some, Bool.not_true, Bool.not_false, Nat.reduceBEq, spec_l9Promise_r, DEntity.c, L0, L1, L2, EB2, hv, hw, beq_dec, ne_int, p_build, fl_n, bm_n, om_s, s3, Int.reduceEq, decide_true, decide_false])
      | (refine k_splitn (fun hh => ?_) (fun hh => ?_) <;> simp only [EV, EL, EB, EF, q_bx, if_true, if_false, Bool.false_eq_true, Nat.reduceAdd, Option.bind_some, Bool.not_true, Bool.not_false, Nat.reduceBEq, spec_l9Promise_r, hh, DEntity.c, L0, L1, L2, EB2, hv, hw, beq_dec, ne_int, p_build, fl_n, bm_n, om_s, s3, Int.reduceEq, decide_true, decide_false])
      | (refine k_split (fun hh => ?_) (fun hh => ?_) <;> simp only [EV, EL, EB, EF, q_bx, if_true, if_false, Bool.false_eq_true, Nat.reduceAdd, Option.bind_some, Bool.not_true, Bool.not_false, Nat.reduceBEq, spec_l9Promise_r, hh, DEntity.c, L0, L1, L2, EB2, hv, hw, beq_dec, ne_int, p_build, fl_n, bm_n, om_s, s3, Int.reduceEq, decide_true, decide_false])
      | (refine c_split (fun hh => ?_) (fun hh => ?_) <;> simp only [EV, EL, EB, EF, q_bx, if_true, if_false, Bool.false_eq_true, Nat.reduceAdd, Option.bind_some, Bool.not_true, Bool.not_false, Nat.reduceBEq, spec_l9Promise_r, hh, DEntity.c, L0, L1, L2, EB2, hv, hw, beq_dec, ne_int, p_build, fl_n, bm_n, om_s, s3, Int.reduceEq, decide_true, decide_false])
      | (first | (simp_all [promiseF, promise0F, noPeerF, oob]; done) | (simp_all [promiseF, promise0F, noPeerF, oob]; omega) | (simp_all [promiseF, promise0F, noPeerF, oob]; intros; simp_all; done) | (simp_all [promiseF, promise0F, noPeerF, oob]; intros; simp_all; omega)))
  by_cases s4 : e.state = 4
  · simp only [EV, EL, EB, EF, q_bx, if_true, if_false, Bool.false_eq_true, Nat.reduceAdd, Option.bind_some, Bool.not_true, Bool.not_false, Nat.reduceBEq, spec_l9Promise_r, DEntity.c, L0, L1, L2, EB2, hv, hw, beq_dec, ne_int, p_build, fl_n, bm_n, om_s, s4, Int.reduceEq, decide_true, decide_false]
    repeat' (first
      | (guard_target =~ TCall _ _ Fn.spec_IsValue _ _ _; refine TCall.val (by simp only [EO]) (spec_IsValue_T β e.value n hn _) ?_; simp only [EV, EL, EB, EF, q_bx, if_true, if_false, Bool.false_eq_true, Nat.reduceAdd, Option.bind_some, Bool.not_true, Bool.not_false, Nat.reduceBEq, spec_l9Promise_r, DEntity.c, L0, L1, L2, EB2, hv, hw, beq_dec, ne_int, p_build, fl_n, bm_n, om_s, s4, Int.reduceEq, decide_true, decide_false])
      | (guard_target =~ TCall _ _ Fn.spec_l1In _ _ _; refine TCall.val (by simp only [EO]) (spec_l1In_T _ _ _ _) ?_; simp only [EV, EL, EB, EF, q_bx, if_true, if_false, Bool.false_eq_true, Nat.reduceAdd, Option.bind_some, Bool.not_true, Bool.not_false, Nat.reduceBEq, spec_l9Promise_r, DEntity.c, L0, L1, L2, EB2, hv, hw, beq_dec, ne_int, p_build, fl_n, bm_n, om_s, s4, Int.reduceEq, decide_true, decide_false])
      | (refine k_splitn (fun hh => ?_) (fun hh => ?_) <;> simp only [EV, EL, EB, EF, q_bx, if_true, if_false, Bool.false_eq_true, Nat.reduceAdd, Option.bind_some, Bool.not_true, Bool.not_false, Nat.reduceBEq, spec_l9Promise_r, hh, DEntity.c, L0, L1, L2, EB2, hv, hw, beq_dec, ne_int, p_build, fl_n, bm_n, om_s, s4, Int.reduceEq, decide_true, decide_false])
      | (refine k_split (fun hh => ?_) (fun hh => ?_) <;> simp only [EV, EL, EB, EF, q_bx, if_true, if_false, Bool.false_eq_true, Nat.reduceAdd, Option.bind_some, Bool.not_true, Bool.not_false, Nat.reduceBEq, spec_l9Promise_r, hh, DEntity.c, L0, L1, L2, EB2, hv, hw, beq_dec, ne_int, p_build, fl_n, bm_n, om_s, s4, Int.reduceEq, decide_true, decide_false])
      | (refine c_split (fun hh => ?_) (fun hh => ?_) <;> simp only [EV, EL, EB, EF, q_bx, if_true, if_false, Bool.false_eq_true, Nat.reduceAdd, Option.bind_some, Bool.not_true, Bool.not_false, Nat.reduceBEq, spec_l9Promise_r, hh, DEntity.c, L0, L1, L2, EB2, hv, hw, beq_dec, ne_int, p_build, fl_n, bm_n, om_s, s4, Int.reduceEq, decide_true, decide_false])
      | (first | (simp_all [promiseF, promise0F, noPeerF, oob]; done) | (simp_all [promiseF, promise0F, noPeerF, oob]; omega) | (simp_all [promiseF, promise0F, noPeerF, oob]; intros; simp_all; done) | (simp_all [promiseF, promise0F, noPeerF, oob]; intros; simp_all; omega)))
  · simp only [EV, EL, EB, EF, q_bx, if_true, if_false, Bool.false_eq_true, Nat.reduceAdd, Option.bind_some, Bool.not_true, Bool.not_false, Nat.reduceBEq, spec_l9Promise_r, DEntity.c, L0, L1, L2, EB2, hv, hw, beq_dec, ne_int, p_build, fl_n, bm_n, om_s, decide_eq_false s1, decide_eq_false s2, decide_eq_false s3, decide_eq_false s4]
    repeat' (first
      | (guard_target =~ TCall _ _ Fn.spec_IsValue _ _ _; refine TCall.val (by simp only [EO]) (spec_IsValue_T β e.value n hn _) ?_; simp only [EV, EL, EB, EF, q_bx, if_true, if_false, Bool.false_eq_true, Nat.reduceAdd, Option.bind_some, Bool.not_true, Bool.not_false, Nat.reduceBEq, spec_l9Promise_r, DEntity.c, L0, L1, L2, EB2, hv, hw, beq_dec, ne_int, p_build, fl_n, bm_n, om_s, decide_eq_false s1, decide_eq_false s2, decide_eq_false s3, decide_eq_false s4])
      | (guard_target =~ TCall _ _ Fn.spec_l1In _ _ _; refine TCall.val (by simp only [EO]) (spec_l1In_T _ _ _ _) ?_; simp only [EV, EL, EB, EF, q_bx, if_true, if_false, Bool.false_eq_true, Nat.reduceAdd, Option.bind_some, Bool.not_true, Bool.not_false, Nat.reduceBEq, spec_l9Promise_r, DEntity.c, L0, L1, L2, EB2, hv, hw, beq_dec, ne_int, p_build, fl_n, bm_n, om_s, decide_eq_false s1, decide_eq_false s2, decide_eq_false s3, decide_eq_false s4])
      | (refine k_splitn (fun hh => ?_) (fun hh => ?_) <;> simp only [EV, EL, EB, EF, q_bx, if_true, if_false, Bool.false_eq_true, Nat.reduceAdd, Option.bind_some, Bool.not_true, Bool.not_false, Nat.reduceBEq, spec_l9Promise_r, hh, DEntity.c, L0, L1, L2, EB2, hv, hw, beq_dec, ne_int, p_build, fl_n, bm_n, om_s, decide_eq_false s1, decide_eq_false s2, decide_eq_false s3, decide_eq_false s4])
      | (refine k_split (fun hh => ?_) (fun hh => ?_) <;> simp only [EV, EL, EB, EF, q_bx, if_true, if_false, Bool.false_eq_true, Nat.reduceAdd, Option.bind_some, Bool.not_true, Bool.not_false, Nat.reduceBEq, spec_l9Promise_r, hh, DEntity.c, L0, L1, L2, EB2, hv, hw, beq_dec, ne_int, p_build, fl_n, bm_n, om_s, decide_eq_false s1, decide_eq_false s2, decide_eq_false s3, decide_eq_false s4])
      | (refine c_split (fun hh => ?_) (fun hh => ?_) <;> simp only [EV, EL, EB, EF, q_bx, if_true, if_false, Bool.false_eq_true, Nat.reduceAdd, Option.bind_some, Bool.not_true, Bool.not_false, Nat.reduceBEq, spec_l9Promise_r, hh, DEntity.c, L0, L1, L2, EB2, hv, hw, beq_dec, ne_int, p_build, fl_n, bm_n, om_s, decide_eq_false s1, decide_eq_false s2, decide_eq_false s3, decide_eq_false s4])
      | (first | (simp_all [promiseF, promise0F, noPeerF, oob]; done) | (simp_all [promiseF, promise0F, noPeerF, oob]; omega) | (simp_all [promiseF, promise0F, noPeerF, oob]; intros; simp_all; done) | (simp_all [promiseF, promise0F, noPeerF, oob]; intros; simp_all; omega)))

end Go.Proofs.Ytleddolmolkpfaa
