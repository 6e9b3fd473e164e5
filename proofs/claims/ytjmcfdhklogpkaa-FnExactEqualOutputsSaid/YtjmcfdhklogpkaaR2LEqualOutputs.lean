import Derived.Test.YtjmcfdhklogpkaaR2V3
set_option linter.unusedVariables false
set_option linter.unusedSimpArgs false
namespace Go.Proofs.Ytjmcfdhklogpkaa
open Go.AM
set_option linter.unusedVariables false
set_option linter.unusedSimpArgs false
variable {Γ : Glob}
theorem law_EqualOutputs (a : List DOutgoing) (ha : a.length ≤ maxLen) (ka : ∀ x ∈ a, x.ok maxLen) (b : List DOutgoing) (hb : b.length ≤ maxLen) (kb : ∀ x ∈ b, x.ok maxLen) (h : AH) : T Try.prog Γ Fn.laws_FnExactEqualOutputs [.vs false 13 false (a.map (DOutgoing.c false)), .vs false 13 false (b.map (DOutgoing.c false))] h fun v h' => v = .bool true ∧ h' = h := by
  refine laws_FnExactEqualOutputs_e (aw_sound tabOK mixed [] _ _ _ ?_)
  unfold laws_FnExactEqualOutputs_c
  simp only [EV, EL, EB, EF, if_true, if_false, Bool.false_eq_true, Nat.reduceAdd, Option.bind_some, Bool.not_true, Bool.not_false, Nat.reduceBEq, laws_FnExactEqualOutputs_r, EB2, bne_self_eq_false, beq_self_eq_true, decide_true]
  refine TCall.val (by simp only [EO]) (laws_szOutgoingS_T false a ha ka 1048576 (by omega) (by omega) _) ?_
  simp only [EV, EL, EB, EF, if_true, if_false, Bool.false_eq_true, Nat.reduceAdd, Option.bind_some, Bool.not_true, Bool.not_false, Nat.reduceBEq, laws_FnExactEqualOutputs_r, EB2, bne_self_eq_false, beq_self_eq_true, decide_true]
  by_cases na : (szL DOutgoing.szf a 1048576) < 0
  · simp only [EV, EL, EB, EF, if_true, if_false, Bool.false_eq_true, Nat.reduceAdd, Option.bind_some, Bool.not_true, Bool.not_false, Nat.reduceBEq, laws_FnExactEqualOutputs_r, EB2, bne_self_eq_false, beq_self_eq_true, decide_true, decide_eq_true na]
    first | exact ⟨rfl, rfl⟩ | exact rfl
  have qa := szL_ok (Q := DOutgoing.ok 1048576) (B := 1048576) (fun x left a b c => DOutgoing.szf_ok x left a b c) (by omega) (by omega) (Int.not_lt.1 na)
  simp only [EV, EL, EB, EF, if_true, if_false, Bool.false_eq_true, Nat.reduceAdd, Option.bind_some, Bool.not_true, Bool.not_false, Nat.reduceBEq, laws_FnExactEqualOutputs_r, EB2, bne_self_eq_false, beq_self_eq_true, decide_true, decide_eq_false na]
  have oa : a.length ≤ 1048576 := by omega
  have ua := qa.1.2
  refine TCall.val (by simp only [EO]) (laws_szOutgoingS_T false b hb kb (szL DOutgoing.szf a 1048576) (by omega) (by omega) _) ?_
  simp only [EV, EL, EB, EF, if_true, if_false, Bool.false_eq_true, Nat.reduceAdd, Option.bind_some, Bool.not_true, Bool.not_false, Nat.reduceBEq, laws_FnExactEqualOutputs_r, EB2, bne_self_eq_false, beq_self_eq_true, decide_true]
  by_cases nb : (szL DOutgoing.szf b (szL DOutgoing.szf a 1048576)) < 0
  · simp only [EV, EL, EB, EF, if_true, if_false, Bool.false_eq_true, Nat.reduceAdd, Option.bind_some, Bool.not_true, Bool.not_false, Nat.reduceBEq, laws_FnExactEqualOutputs_r, EB2, bne_self_eq_false, beq_self_eq_true, decide_true, decide_eq_true nb]
    first | exact ⟨rfl, rfl⟩ | exact rfl
  have qb := szL_ok (Q := DOutgoing.ok 1048576) (B := 1048576) (fun x left a b c => DOutgoing.szf_ok x left a b c) (by omega) (by omega) (Int.not_lt.1 nb)
  simp only [EV, EL, EB, EF, if_true, if_false, Bool.false_eq_true, Nat.reduceAdd, Option.bind_some, Bool.not_true, Bool.not_false, Nat.reduceBEq, laws_FnExactEqualOutputs_r, EB2, bne_self_eq_false, beq_self_eq_true, decide_true, decide_eq_false nb]
  have ob : b.length ≤ 1048576 := by omega
  have ub := qb.1.2
  refine TCall.val (by simp only [EO]) (laws_toOutgoingS_V false a oa ua _) ?_
  simp only [EV, EL, EB, EF, if_true, if_false, Bool.false_eq_true, Nat.reduceAdd, Option.bind_some, Bool.not_true, Bool.not_false, Nat.reduceBEq, laws_FnExactEqualOutputs_r, EB2, bne_self_eq_false, beq_self_eq_true, decide_true]
  refine TCall.val (by simp only [EO]) (laws_toOutgoingS_V false b ob ub _) ?_
  simp only [EV, EL, EB, EF, if_true, if_false, Bool.false_eq_true, Nat.reduceAdd, Option.bind_some, Bool.not_true, Bool.not_false, Nat.reduceBEq, laws_FnExactEqualOutputs_r, EB2, bne_self_eq_false, beq_self_eq_true, decide_true]
  refine TCall.val (by simp only [EO]) (spec_EqualOutputs_T false false a b (by omega) (fun x hx => (ua x hx).mono (by omega)) _) ?_
  simp only [EV, EL, EB, EF, if_true, if_false, Bool.false_eq_true, Nat.reduceAdd, Option.bind_some, Bool.not_true, Bool.not_false, Nat.reduceBEq, laws_FnExactEqualOutputs_r, EB2, bne_self_eq_false, beq_self_eq_true, decide_true]
  refine TCall.val (by simp only [EO]) (laws_toOutgoingS_V false a oa ua _) ?_
  simp only [EV, EL, EB, EF, if_true, if_false, Bool.false_eq_true, Nat.reduceAdd, Option.bind_some, Bool.not_true, Bool.not_false, Nat.reduceBEq, laws_FnExactEqualOutputs_r, EB2, bne_self_eq_false, beq_self_eq_true, decide_true]
  refine TCall.val (by simp only [EO]) (laws_toOutgoingS_V false b ob ub _) ?_
  simp only [EV, EL, EB, EF, if_true, if_false, Bool.false_eq_true, Nat.reduceAdd, Option.bind_some, Bool.not_true, Bool.not_false, Nat.reduceBEq, laws_FnExactEqualOutputs_r, EB2, bne_self_eq_false, beq_self_eq_true, decide_true]
  refine TCall.val (by simp only [EO]) (impl_EqualOutputs_T false false a b (by omega) (fun x hx => (ua x hx).mono (by omega)) _) ?_
  simp only [EV, EL, EB, EF, if_true, if_false, Bool.false_eq_true, Nat.reduceAdd, Option.bind_some, Bool.not_true, Bool.not_false, Nat.reduceBEq, laws_FnExactEqualOutputs_r, EB2, bne_self_eq_false, beq_self_eq_true, decide_true]
  refine TCall.val (by simp only [EO]) (laws_toOutgoingS_V false a oa ua _) ?_
  simp only [EV, EL, EB, EF, if_true, if_false, Bool.false_eq_true, Nat.reduceAdd, Option.bind_some, Bool.not_true, Bool.not_false, Nat.reduceBEq, laws_FnExactEqualOutputs_r, EB2, bne_self_eq_false, beq_self_eq_true, decide_true]
  refine TCall.val (by simp only [EO]) (laws_eqOutgoingS_T false false a a (by omega) (fun x hx => (ua x hx).mono (by omega)) _) ?_
  simp only [EV, EL, EB, EF, if_true, if_false, Bool.false_eq_true, Nat.reduceAdd, Option.bind_some, Bool.not_true, Bool.not_false, Nat.reduceBEq, laws_FnExactEqualOutputs_r, EB2, bne_self_eq_false, beq_self_eq_true, decide_true]
  refine TCall.val (by simp only [EO]) (laws_toOutgoingS_V false b ob ub _) ?_
  simp only [EV, EL, EB, EF, if_true, if_false, Bool.false_eq_true, Nat.reduceAdd, Option.bind_some, Bool.not_true, Bool.not_false, Nat.reduceBEq, laws_FnExactEqualOutputs_r, EB2, bne_self_eq_false, beq_self_eq_true, decide_true]
  refine TCall.val (by simp only [EO]) (laws_eqOutgoingS_T false false b b (by omega) (fun x hx => (ub x hx).mono (by omega)) _) ?_
  simp only [EV, EL, EB, EF, if_true, if_false, Bool.false_eq_true, Nat.reduceAdd, Option.bind_some, Bool.not_true, Bool.not_false, Nat.reduceBEq, laws_FnExactEqualOutputs_r, EB2, bne_self_eq_false, beq_self_eq_true, decide_true]
  first | exact ⟨rfl, rfl⟩ | exact rfl
end Go.Proofs.Ytjmcfdhklogpkaa
