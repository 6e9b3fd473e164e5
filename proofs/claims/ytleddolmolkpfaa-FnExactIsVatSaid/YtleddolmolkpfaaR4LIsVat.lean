import Derived.Test.YtleddolmolkpfaaR4I5
set_option linter.unusedVariables false
set_option linter.unusedSimpArgs false
namespace Go.Proofs.Ytleddolmolkpfaa
open Go.AM
set_option linter.unusedVariables false
set_option linter.unusedSimpArgs false
variable {Γ : Glob}
theorem law_IsVat (v : DVat) (hv : v.ok maxLen) (h : AH) : T Try.prog Γ Fn.laws_FnExactIsVat [.agg (v.c false)] h fun v h' => v = .bool true ∧ h' = h := by
  refine laws_FnExactIsVat_e (aw_sound tabOK mixed [] _ _ _ ?_)
  unfold laws_FnExactIsVat_c
  simp only [EV, EL, EB, EF, q_bx, if_true, if_false, Bool.false_eq_true, Nat.reduceAdd, Option.bind_some, Bool.not_true, Bool.not_false, Nat.reduceBEq, laws_FnExactIsVat_r, laws_FnExactIsVat_d0_q, EB2, ER, bne_self_eq_false, beq_self_eq_true, decide_true, DVat.c]
  refine TCall.val (by simp only [EO, DVat.c_noLp]) (laws_szVat_T false v hv 1048576 (by omega) (by omega) _) ?_
  simp only [EV, EL, EB, EF, q_bx, if_true, if_false, Bool.false_eq_true, Nat.reduceAdd, Option.bind_some, Bool.not_true, Bool.not_false, Nat.reduceBEq, laws_FnExactIsVat_r, laws_FnExactIsVat_d0_q, EB2, ER, bne_self_eq_false, beq_self_eq_true, decide_true, DVat.c]
  by_cases nv : (v.szf 1048576) < 0
  · simp only [EV, EL, EB, EF, q_bx, if_true, if_false, Bool.false_eq_true, Nat.reduceAdd, Option.bind_some, Bool.not_true, Bool.not_false, Nat.reduceBEq, laws_FnExactIsVat_r, laws_FnExactIsVat_d0_q, EB2, ER, bne_self_eq_false, beq_self_eq_true, decide_true, DVat.c, decide_eq_true nv]
    first | exact ⟨rfl, rfl⟩ | exact rfl
  have qv := DVat.szf_ok v 1048576 (by omega) (by omega) (Int.not_lt.1 nv)
  simp only [EV, EL, EB, EF, q_bx, if_true, if_false, Bool.false_eq_true, Nat.reduceAdd, Option.bind_some, Bool.not_true, Bool.not_false, Nat.reduceBEq, laws_FnExactIsVat_r, laws_FnExactIsVat_d0_q, EB2, ER, bne_self_eq_false, beq_self_eq_true, decide_true, DVat.c, decide_eq_false nv]
  have ov := qv.1
  refine TCall.val (by simp only [EO, DVat.c_noLp]) (laws_toVat_V false v ov _) ?_
  simp only [EV, EL, EB, EF, q_bx, if_true, if_false, Bool.false_eq_true, Nat.reduceAdd, Option.bind_some, Bool.not_true, Bool.not_false, Nat.reduceBEq, laws_FnExactIsVat_r, laws_FnExactIsVat_d0_q, EB2, ER, bne_self_eq_false, beq_self_eq_true, decide_true, DVat.c]
  refine TCall.val (by simp only [EO, DVat.c_noLp]) (spec_IsVat_T false v ov _) ?_
  simp only [EV, EL, EB, EF, q_bx, if_true, if_false, Bool.false_eq_true, Nat.reduceAdd, Option.bind_some, Bool.not_true, Bool.not_false, Nat.reduceBEq, laws_FnExactIsVat_r, laws_FnExactIsVat_d0_q, EB2, ER, bne_self_eq_false, beq_self_eq_true, decide_true, DVat.c]
  refine TCall.val (by simp only [EO, DVat.c_noLp]) (laws_toVat_V false v ov _) ?_
  simp only [EV, EL, EB, EF, q_bx, if_true, if_false, Bool.false_eq_true, Nat.reduceAdd, Option.bind_some, Bool.not_true, Bool.not_false, Nat.reduceBEq, laws_FnExactIsVat_r, laws_FnExactIsVat_d0_q, EB2, ER, bne_self_eq_false, beq_self_eq_true, decide_true, DVat.c]
  refine TCall.val (by simp only [EO, DVat.c_noLp]) (impl_IsVat_T false v ov _) ?_
  simp only [EV, EL, EB, EF, q_bx, if_true, if_false, Bool.false_eq_true, Nat.reduceAdd, Option.bind_some, Bool.not_true, Bool.not_false, Nat.reduceBEq, laws_FnExactIsVat_r, laws_FnExactIsVat_d0_q, EB2, ER, bne_self_eq_false, beq_self_eq_true, decide_true, DVat.c]
  refine TCall.val (by simp only [EO, DVat.c_noLp]) (laws_toVat_V false v ov _) ?_
  simp only [EV, EL, EB, EF, q_bx, if_true, if_false, Bool.false_eq_true, Nat.reduceAdd, Option.bind_some, Bool.not_true, Bool.not_false, Nat.reduceBEq, laws_FnExactIsVat_r, laws_FnExactIsVat_d0_q, EB2, ER, bne_self_eq_false, beq_self_eq_true, decide_true, DVat.c]
  refine TCall.val (by simp only [EO, DVat.c_noLp]) (laws_eqVat_T false false v v (ov.mono (by omega)) _) ?_
  simp only [EV, EL, EB, EF, q_bx, if_true, if_false, Bool.false_eq_true, Nat.reduceAdd, Option.bind_some, Bool.not_true, Bool.not_false, Nat.reduceBEq, laws_FnExactIsVat_r, laws_FnExactIsVat_d0_q, EB2, ER, bne_self_eq_false, beq_self_eq_true, decide_true, DVat.c]
  first | exact ⟨rfl, rfl⟩ | exact rfl

end Go.Proofs.Ytleddolmolkpfaa
