import Derived.Test.YtjmcfdhklogpkaaR2V4
set_option linter.unusedVariables false
set_option linter.unusedSimpArgs false
namespace Go.Proofs.Ytjmcfdhklogpkaa
open Go.AM
set_option linter.unusedVariables false
set_option linter.unusedSimpArgs false
variable {Γ : Glob}
theorem law_SameShape (a : DVat) (ha : a.ok maxLen) (b : DVat) (hb : b.ok maxLen) (h : AH) : T Try.prog Γ Fn.laws_FnExactSameShape [.agg (a.c false), .agg (b.c false)] h fun v h' => v = .bool true ∧ h' = h := by
  refine laws_FnExactSameShape_e (aw_sound tabOK mixed [] _ _ _ ?_)
  unfold laws_FnExactSameShape_c
  simp only [EV, EL, EB, EF, if_true, if_false, Bool.false_eq_true, Nat.reduceAdd, Option.bind_some, Bool.not_true, Bool.not_false, Nat.reduceBEq, laws_FnExactSameShape_r, laws_FnExactSameShape_d0_q, laws_FnExactSameShape_d1_q, laws_FnExactSameShape_d2_q, EB2, bne_self_eq_false, beq_self_eq_true, decide_true, DVat.c]
  refine TCall.val (by simp only [EO, DVat.c_noLp, DVat.c_noLp]) (laws_szVat_T false a ha 1048576 (by omega) (by omega) _) ?_
  simp only [EV, EL, EB, EF, if_true, if_false, Bool.false_eq_true, Nat.reduceAdd, Option.bind_some, Bool.not_true, Bool.not_false, Nat.reduceBEq, laws_FnExactSameShape_r, laws_FnExactSameShape_d0_q, laws_FnExactSameShape_d1_q, laws_FnExactSameShape_d2_q, EB2, bne_self_eq_false, beq_self_eq_true, decide_true, DVat.c]
  by_cases na : (a.szf 1048576) < 0
  · simp only [EV, EL, EB, EF, if_true, if_false, Bool.false_eq_true, Nat.reduceAdd, Option.bind_some, Bool.not_true, Bool.not_false, Nat.reduceBEq, laws_FnExactSameShape_r, laws_FnExactSameShape_d0_q, laws_FnExactSameShape_d1_q, laws_FnExactSameShape_d2_q, EB2, bne_self_eq_false, beq_self_eq_true, decide_true, DVat.c, decide_eq_true na]
    first | exact ⟨rfl, rfl⟩ | exact rfl
  have qa := DVat.szf_ok a 1048576 (by omega) (by omega) (Int.not_lt.1 na)
  simp only [EV, EL, EB, EF, if_true, if_false, Bool.false_eq_true, Nat.reduceAdd, Option.bind_some, Bool.not_true, Bool.not_false, Nat.reduceBEq, laws_FnExactSameShape_r, laws_FnExactSameShape_d0_q, laws_FnExactSameShape_d1_q, laws_FnExactSameShape_d2_q, EB2, bne_self_eq_false, beq_self_eq_true, decide_true, DVat.c, decide_eq_false na]
  have oa := qa.1
  refine TCall.val (by simp only [EO, DVat.c_noLp, DVat.c_noLp]) (laws_szVat_T false b hb (a.szf 1048576) (by omega) (by omega) _) ?_
  simp only [EV, EL, EB, EF, if_true, if_false, Bool.false_eq_true, Nat.reduceAdd, Option.bind_some, Bool.not_true, Bool.not_false, Nat.reduceBEq, laws_FnExactSameShape_r, laws_FnExactSameShape_d0_q, laws_FnExactSameShape_d1_q, laws_FnExactSameShape_d2_q, EB2, bne_self_eq_false, beq_self_eq_true, decide_true, DVat.c]
  by_cases nb : (b.szf (a.szf 1048576)) < 0
  · simp only [EV, EL, EB, EF, if_true, if_false, Bool.false_eq_true, Nat.reduceAdd, Option.bind_some, Bool.not_true, Bool.not_false, Nat.reduceBEq, laws_FnExactSameShape_r, laws_FnExactSameShape_d0_q, laws_FnExactSameShape_d1_q, laws_FnExactSameShape_d2_q, EB2, bne_self_eq_false, beq_self_eq_true, decide_true, DVat.c, decide_eq_true nb]
    first | exact ⟨rfl, rfl⟩ | exact rfl
  have qb := DVat.szf_ok b (a.szf 1048576) (by omega) (by omega) (Int.not_lt.1 nb)
  simp only [EV, EL, EB, EF, if_true, if_false, Bool.false_eq_true, Nat.reduceAdd, Option.bind_some, Bool.not_true, Bool.not_false, Nat.reduceBEq, laws_FnExactSameShape_r, laws_FnExactSameShape_d0_q, laws_FnExactSameShape_d1_q, laws_FnExactSameShape_d2_q, EB2, bne_self_eq_false, beq_self_eq_true, decide_true, DVat.c, decide_eq_false nb]
  have ob := qb.1
  refine TCall.val (by simp only [EO, DVat.c_noLp, DVat.c_noLp]) (laws_toVat_V false a oa _) ?_
  simp only [EV, EL, EB, EF, if_true, if_false, Bool.false_eq_true, Nat.reduceAdd, Option.bind_some, Bool.not_true, Bool.not_false, Nat.reduceBEq, laws_FnExactSameShape_r, laws_FnExactSameShape_d0_q, laws_FnExactSameShape_d1_q, laws_FnExactSameShape_d2_q, EB2, bne_self_eq_false, beq_self_eq_true, decide_true, DVat.c]
  refine TCall.val (by simp only [EO, DVat.c_noLp, DVat.c_noLp]) (laws_toVat_V false b ob _) ?_
  simp only [EV, EL, EB, EF, if_true, if_false, Bool.false_eq_true, Nat.reduceAdd, Option.bind_some, Bool.not_true, Bool.not_false, Nat.reduceBEq, laws_FnExactSameShape_r, laws_FnExactSameShape_d0_q, laws_FnExactSameShape_d1_q, laws_FnExactSameShape_d2_q, EB2, bne_self_eq_false, beq_self_eq_true, decide_true, DVat.c]
  refine TCall.val (by simp only [EO, DVat.c_noLp, DVat.c_noLp]) (spec_SameShape_T false false a b (oa.mono (by omega)) _) ?_
  simp only [EV, EL, EB, EF, if_true, if_false, Bool.false_eq_true, Nat.reduceAdd, Option.bind_some, Bool.not_true, Bool.not_false, Nat.reduceBEq, laws_FnExactSameShape_r, laws_FnExactSameShape_d0_q, laws_FnExactSameShape_d1_q, laws_FnExactSameShape_d2_q, EB2, bne_self_eq_false, beq_self_eq_true, decide_true, DVat.c]
  refine TCall.val (by simp only [EO, DVat.c_noLp, DVat.c_noLp]) (laws_toVat_V false a oa _) ?_
  simp only [EV, EL, EB, EF, if_true, if_false, Bool.false_eq_true, Nat.reduceAdd, Option.bind_some, Bool.not_true, Bool.not_false, Nat.reduceBEq, laws_FnExactSameShape_r, laws_FnExactSameShape_d0_q, laws_FnExactSameShape_d1_q, laws_FnExactSameShape_d2_q, EB2, bne_self_eq_false, beq_self_eq_true, decide_true, DVat.c]
  refine TCall.val (by simp only [EO, DVat.c_noLp, DVat.c_noLp]) (laws_toVat_V false b ob _) ?_
  simp only [EV, EL, EB, EF, if_true, if_false, Bool.false_eq_true, Nat.reduceAdd, Option.bind_some, Bool.not_true, Bool.not_false, Nat.reduceBEq, laws_FnExactSameShape_r, laws_FnExactSameShape_d0_q, laws_FnExactSameShape_d1_q, laws_FnExactSameShape_d2_q, EB2, bne_self_eq_false, beq_self_eq_true, decide_true, DVat.c]
  refine TCall.val (by simp only [EO, DVat.c_noLp, DVat.c_noLp]) (impl_SameShape_T false false a b (oa.mono (by omega)) _) ?_
  simp only [EV, EL, EB, EF, if_true, if_false, Bool.false_eq_true, Nat.reduceAdd, Option.bind_some, Bool.not_true, Bool.not_false, Nat.reduceBEq, laws_FnExactSameShape_r, laws_FnExactSameShape_d0_q, laws_FnExactSameShape_d1_q, laws_FnExactSameShape_d2_q, EB2, bne_self_eq_false, beq_self_eq_true, decide_true, DVat.c]
  refine TCall.val (by simp only [EO, DVat.c_noLp, DVat.c_noLp]) (laws_toVat_V false a oa _) ?_
  simp only [EV, EL, EB, EF, if_true, if_false, Bool.false_eq_true, Nat.reduceAdd, Option.bind_some, Bool.not_true, Bool.not_false, Nat.reduceBEq, laws_FnExactSameShape_r, laws_FnExactSameShape_d0_q, laws_FnExactSameShape_d1_q, laws_FnExactSameShape_d2_q, EB2, bne_self_eq_false, beq_self_eq_true, decide_true, DVat.c]
  refine TCall.val (by simp only [EO, DVat.c_noLp, DVat.c_noLp]) (laws_eqVat_T false false a a (oa.mono (by omega)) _) ?_
  simp only [EV, EL, EB, EF, if_true, if_false, Bool.false_eq_true, Nat.reduceAdd, Option.bind_some, Bool.not_true, Bool.not_false, Nat.reduceBEq, laws_FnExactSameShape_r, laws_FnExactSameShape_d0_q, laws_FnExactSameShape_d1_q, laws_FnExactSameShape_d2_q, EB2, bne_self_eq_false, beq_self_eq_true, decide_true, DVat.c]
  refine TCall.val (by simp only [EO, DVat.c_noLp, DVat.c_noLp]) (laws_toVat_V false b ob _) ?_
  simp only [EV, EL, EB, EF, if_true, if_false, Bool.false_eq_true, Nat.reduceAdd, Option.bind_some, Bool.not_true, Bool.not_false, Nat.reduceBEq, laws_FnExactSameShape_r, laws_FnExactSameShape_d0_q, laws_FnExactSameShape_d1_q, laws_FnExactSameShape_d2_q, EB2, bne_self_eq_false, beq_self_eq_true, decide_true, DVat.c]
  refine TCall.val (by simp only [EO, DVat.c_noLp, DVat.c_noLp]) (laws_eqVat_T false false b b (ob.mono (by omega)) _) ?_
  simp only [EV, EL, EB, EF, if_true, if_false, Bool.false_eq_true, Nat.reduceAdd, Option.bind_some, Bool.not_true, Bool.not_false, Nat.reduceBEq, laws_FnExactSameShape_r, laws_FnExactSameShape_d0_q, laws_FnExactSameShape_d1_q, laws_FnExactSameShape_d2_q, EB2, bne_self_eq_false, beq_self_eq_true, decide_true, DVat.c]
  first | exact ⟨rfl, rfl⟩ | exact rfl
end Go.Proofs.Ytjmcfdhklogpkaa
