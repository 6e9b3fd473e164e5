import Derived.Test.YtjmcfdhklogpkaaR2V5
set_option linter.unusedVariables false
set_option linter.unusedSimpArgs false
namespace Go.Proofs.Ytjmcfdhklogpkaa
open Go.AM
set_option linter.unusedVariables false
set_option linter.unusedSimpArgs false
variable {Γ : Glob}
theorem law_TargetAt (v : DVat) (hv : v.ok maxLen) (p : Int)  (m : DMessage) (hm : m.ok maxLen) (h : AH) : T Try.prog Γ Fn.laws_FnExactTargetAt [.agg (v.c false), .int .i64 p, .agg (m.c false)] h fun v h' => v = .bool true ∧ h' = h := by
  refine laws_FnExactTargetAt_e (aw_sound tabOK mixed [] _ _ _ ?_)
  unfold laws_FnExactTargetAt_c
  simp only [EV, EL, EB, EF, if_true, if_false, Bool.false_eq_true, Nat.reduceAdd, Option.bind_some, Bool.not_true, Bool.not_false, Nat.reduceBEq, laws_FnExactTargetAt_r, laws_FnExactTargetAt_d0_q, laws_FnExactTargetAt_d1_q, laws_FnExactTargetAt_d2_q, EB2, bne_self_eq_false, beq_self_eq_true, decide_true, DMessage.c, DVat.c]
  refine TCall.val (by simp only [EO, DVat.c_noLp, DMessage.c_noLp]) (laws_szVat_T false v hv 1048576 (by omega) (by omega) _) ?_
  simp only [EV, EL, EB, EF, if_true, if_false, Bool.false_eq_true, Nat.reduceAdd, Option.bind_some, Bool.not_true, Bool.not_false, Nat.reduceBEq, laws_FnExactTargetAt_r, laws_FnExactTargetAt_d0_q, laws_FnExactTargetAt_d1_q, laws_FnExactTargetAt_d2_q, EB2, bne_self_eq_false, beq_self_eq_true, decide_true, DMessage.c, DVat.c]
  by_cases nv : (v.szf 1048576) < 0
  · simp only [EV, EL, EB, EF, if_true, if_false, Bool.false_eq_true, Nat.reduceAdd, Option.bind_some, Bool.not_true, Bool.not_false, Nat.reduceBEq, laws_FnExactTargetAt_r, laws_FnExactTargetAt_d0_q, laws_FnExactTargetAt_d1_q, laws_FnExactTargetAt_d2_q, EB2, bne_self_eq_false, beq_self_eq_true, decide_true, DMessage.c, DVat.c, decide_eq_true nv]
    first | exact ⟨rfl, rfl⟩ | exact rfl
  have qv := DVat.szf_ok v 1048576 (by omega) (by omega) (Int.not_lt.1 nv)
  simp only [EV, EL, EB, EF, if_true, if_false, Bool.false_eq_true, Nat.reduceAdd, Option.bind_some, Bool.not_true, Bool.not_false, Nat.reduceBEq, laws_FnExactTargetAt_r, laws_FnExactTargetAt_d0_q, laws_FnExactTargetAt_d1_q, laws_FnExactTargetAt_d2_q, EB2, bne_self_eq_false, beq_self_eq_true, decide_true, DMessage.c, DVat.c, decide_eq_false nv]
  have ov := qv.1
  refine TCall.val (by simp only [EO, DVat.c_noLp, DMessage.c_noLp]) (laws_szMessage_T false m hm (v.szf 1048576) (by omega) (by omega) _) ?_
  simp only [EV, EL, EB, EF, if_true, if_false, Bool.false_eq_true, Nat.reduceAdd, Option.bind_some, Bool.not_true, Bool.not_false, Nat.reduceBEq, laws_FnExactTargetAt_r, laws_FnExactTargetAt_d0_q, laws_FnExactTargetAt_d1_q, laws_FnExactTargetAt_d2_q, EB2, bne_self_eq_false, beq_self_eq_true, decide_true, DMessage.c, DVat.c]
  by_cases nm : (m.szf (v.szf 1048576)) < 0
  · simp only [EV, EL, EB, EF, if_true, if_false, Bool.false_eq_true, Nat.reduceAdd, Option.bind_some, Bool.not_true, Bool.not_false, Nat.reduceBEq, laws_FnExactTargetAt_r, laws_FnExactTargetAt_d0_q, laws_FnExactTargetAt_d1_q, laws_FnExactTargetAt_d2_q, EB2, bne_self_eq_false, beq_self_eq_true, decide_true, DMessage.c, DVat.c, decide_eq_true nm]
    first | exact ⟨rfl, rfl⟩ | exact rfl
  have qm := DMessage.szf_ok m (v.szf 1048576) (by omega) (by omega) (Int.not_lt.1 nm)
  simp only [EV, EL, EB, EF, if_true, if_false, Bool.false_eq_true, Nat.reduceAdd, Option.bind_some, Bool.not_true, Bool.not_false, Nat.reduceBEq, laws_FnExactTargetAt_r, laws_FnExactTargetAt_d0_q, laws_FnExactTargetAt_d1_q, laws_FnExactTargetAt_d2_q, EB2, bne_self_eq_false, beq_self_eq_true, decide_true, DMessage.c, DVat.c, decide_eq_false nm]
  have om := qm.1
  refine TCall.val (by simp only [EO, DVat.c_noLp, DMessage.c_noLp]) (laws_toVat_V false v ov _) ?_
  simp only [EV, EL, EB, EF, if_true, if_false, Bool.false_eq_true, Nat.reduceAdd, Option.bind_some, Bool.not_true, Bool.not_false, Nat.reduceBEq, laws_FnExactTargetAt_r, laws_FnExactTargetAt_d0_q, laws_FnExactTargetAt_d1_q, laws_FnExactTargetAt_d2_q, EB2, bne_self_eq_false, beq_self_eq_true, decide_true, DMessage.c, DVat.c]
  refine TCall.val (by simp only [EO, DVat.c_noLp, DMessage.c_noLp]) (laws_toMessage_V false m om _) ?_
  simp only [EV, EL, EB, EF, if_true, if_false, Bool.false_eq_true, Nat.reduceAdd, Option.bind_some, Bool.not_true, Bool.not_false, Nat.reduceBEq, laws_FnExactTargetAt_r, laws_FnExactTargetAt_d0_q, laws_FnExactTargetAt_d1_q, laws_FnExactTargetAt_d2_q, EB2, bne_self_eq_false, beq_self_eq_true, decide_true, DMessage.c, DVat.c]
  refine TCall.val (by simp only [EO, DVat.c_noLp, DMessage.c_noLp]) (spec_TargetAt_T false false v ov p m _) ?_
  simp only [EV, EL, EB, EF, if_true, if_false, Bool.false_eq_true, Nat.reduceAdd, Option.bind_some, Bool.not_true, Bool.not_false, Nat.reduceBEq, laws_FnExactTargetAt_r, laws_FnExactTargetAt_d0_q, laws_FnExactTargetAt_d1_q, laws_FnExactTargetAt_d2_q, EB2, bne_self_eq_false, beq_self_eq_true, decide_true, DMessage.c, DVat.c]
  refine TCall.val (by simp only [EO, DVat.c_noLp, DMessage.c_noLp]) (laws_toVat_V false v ov _) ?_
  simp only [EV, EL, EB, EF, if_true, if_false, Bool.false_eq_true, Nat.reduceAdd, Option.bind_some, Bool.not_true, Bool.not_false, Nat.reduceBEq, laws_FnExactTargetAt_r, laws_FnExactTargetAt_d0_q, laws_FnExactTargetAt_d1_q, laws_FnExactTargetAt_d2_q, EB2, bne_self_eq_false, beq_self_eq_true, decide_true, DMessage.c, DVat.c]
  refine TCall.val (by simp only [EO, DVat.c_noLp, DMessage.c_noLp]) (laws_toMessage_V false m om _) ?_
  simp only [EV, EL, EB, EF, if_true, if_false, Bool.false_eq_true, Nat.reduceAdd, Option.bind_some, Bool.not_true, Bool.not_false, Nat.reduceBEq, laws_FnExactTargetAt_r, laws_FnExactTargetAt_d0_q, laws_FnExactTargetAt_d1_q, laws_FnExactTargetAt_d2_q, EB2, bne_self_eq_false, beq_self_eq_true, decide_true, DMessage.c, DVat.c]
  refine TCall.val (by simp only [EO, DVat.c_noLp, DMessage.c_noLp]) (impl_TargetAt_T false false v ov p m _) ?_
  simp only [EV, EL, EB, EF, if_true, if_false, Bool.false_eq_true, Nat.reduceAdd, Option.bind_some, Bool.not_true, Bool.not_false, Nat.reduceBEq, laws_FnExactTargetAt_r, laws_FnExactTargetAt_d0_q, laws_FnExactTargetAt_d1_q, laws_FnExactTargetAt_d2_q, EB2, bne_self_eq_false, beq_self_eq_true, decide_true, DMessage.c, DVat.c]
  refine TCall.val (by simp only [EO, DVat.c_noLp, DMessage.c_noLp]) (laws_toVat_V false v ov _) ?_
  simp only [EV, EL, EB, EF, if_true, if_false, Bool.false_eq_true, Nat.reduceAdd, Option.bind_some, Bool.not_true, Bool.not_false, Nat.reduceBEq, laws_FnExactTargetAt_r, laws_FnExactTargetAt_d0_q, laws_FnExactTargetAt_d1_q, laws_FnExactTargetAt_d2_q, EB2, bne_self_eq_false, beq_self_eq_true, decide_true, DMessage.c, DVat.c]
  refine TCall.val (by simp only [EO, DVat.c_noLp, DMessage.c_noLp]) (laws_eqVat_T false false v v (ov.mono (by omega)) _) ?_
  simp only [EV, EL, EB, EF, if_true, if_false, Bool.false_eq_true, Nat.reduceAdd, Option.bind_some, Bool.not_true, Bool.not_false, Nat.reduceBEq, laws_FnExactTargetAt_r, laws_FnExactTargetAt_d0_q, laws_FnExactTargetAt_d1_q, laws_FnExactTargetAt_d2_q, EB2, bne_self_eq_false, beq_self_eq_true, decide_true, DMessage.c, DVat.c]
  refine TCall.val (by simp only [EO, DVat.c_noLp, DMessage.c_noLp]) (laws_toMessage_V false m om _) ?_
  simp only [EV, EL, EB, EF, if_true, if_false, Bool.false_eq_true, Nat.reduceAdd, Option.bind_some, Bool.not_true, Bool.not_false, Nat.reduceBEq, laws_FnExactTargetAt_r, laws_FnExactTargetAt_d0_q, laws_FnExactTargetAt_d1_q, laws_FnExactTargetAt_d2_q, EB2, bne_self_eq_false, beq_self_eq_true, decide_true, DMessage.c, DVat.c]
  refine TCall.val (by simp only [EO, DVat.c_noLp, DMessage.c_noLp]) (laws_eqMessage_T false false m m (om.mono (by omega)) _) ?_
  simp only [EV, EL, EB, EF, if_true, if_false, Bool.false_eq_true, Nat.reduceAdd, Option.bind_some, Bool.not_true, Bool.not_false, Nat.reduceBEq, laws_FnExactTargetAt_r, laws_FnExactTargetAt_d0_q, laws_FnExactTargetAt_d1_q, laws_FnExactTargetAt_d2_q, EB2, bne_self_eq_false, beq_self_eq_true, decide_true, DMessage.c, DVat.c]
  first | exact ⟨rfl, rfl⟩ | exact rfl
end Go.Proofs.Ytjmcfdhklogpkaa
