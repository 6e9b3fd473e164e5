import Derived.Test.YtjohoameeeaafaaR1U
set_option linter.unusedVariables false
set_option linter.unusedSimpArgs false
namespace Go.Proofs.Ytjohoameeeaafaa
open Go.AM
set_option linter.unusedVariables false
set_option linter.unusedSimpArgs false
variable {Γ : Glob}
theorem law_Unseal (l : List DBox) (hl : l.length ≤ maxLen) (b : Int)  (i : Int)  (h : AH) : T Try.prog Γ Fn.laws_FnExactUnseal [.vs false 4 false (l.map (DBox.c false)), .int .i64 b, .int .i64 i] h fun v h' => v = .bool true ∧ h' = h := by
  refine laws_FnExactUnseal_e (aw_sound tabOK mixed [] _ _ _ ?_)
  unfold laws_FnExactUnseal_c
  simp only [EV, EL, EB, EF, if_true, if_false, Bool.false_eq_true, Nat.reduceAdd, Option.bind_some, Bool.not_true, Bool.not_false, Nat.reduceBEq, laws_FnExactUnseal_r, EB2, ER, bne_self_eq_false, beq_self_eq_true, decide_true, DValue.c]
  refine TCall.val (by simp only [EO, DValue.c_noLp]) (laws_szBoxS_T false l hl 1048576 (by omega) (by omega) _) ?_
  simp only [EV, EL, EB, EF, if_true, if_false, Bool.false_eq_true, Nat.reduceAdd, Option.bind_some, Bool.not_true, Bool.not_false, Nat.reduceBEq, laws_FnExactUnseal_r, EB2, ER, bne_self_eq_false, beq_self_eq_true, decide_true, DValue.c]
  by_cases nl : (szN l 1048576) < 0
  · simp only [EV, EL, EB, EF, if_true, if_false, Bool.false_eq_true, Nat.reduceAdd, Option.bind_some, Bool.not_true, Bool.not_false, Nat.reduceBEq, laws_FnExactUnseal_r, EB2, ER, bne_self_eq_false, beq_self_eq_true, decide_true, DValue.c, decide_eq_true nl]
    first | exact ⟨rfl, rfl⟩ | exact rfl
  have ql := szN_ok (Int.not_lt.1 nl)
  simp only [EV, EL, EB, EF, if_true, if_false, Bool.false_eq_true, Nat.reduceAdd, Option.bind_some, Bool.not_true, Bool.not_false, Nat.reduceBEq, laws_FnExactUnseal_r, EB2, ER, bne_self_eq_false, beq_self_eq_true, decide_true, DValue.c, decide_eq_false nl]
  have ol : l.length ≤ 1048576 := by omega
  refine TCall.val (by simp only [EO, DValue.c_noLp]) (laws_toBoxS_V false l ol _) ?_
  simp only [EV, EL, EB, EF, if_true, if_false, Bool.false_eq_true, Nat.reduceAdd, Option.bind_some, Bool.not_true, Bool.not_false, Nat.reduceBEq, laws_FnExactUnseal_r, EB2, ER, bne_self_eq_false, beq_self_eq_true, decide_true, DValue.c]
  refine TCall.val (by simp only [EO, DValue.c_noLp]) (spec_Unseal_T false l (by omega) b i _) ?_
  simp only [EV, EL, EB, EF, if_true, if_false, Bool.false_eq_true, Nat.reduceAdd, Option.bind_some, Bool.not_true, Bool.not_false, Nat.reduceBEq, laws_FnExactUnseal_r, EB2, ER, bne_self_eq_false, beq_self_eq_true, decide_true, DValue.c]
  refine TCall.val (by simp only [EO, DValue.c_noLp]) (laws_toBoxS_V false l ol _) ?_
  simp only [EV, EL, EB, EF, if_true, if_false, Bool.false_eq_true, Nat.reduceAdd, Option.bind_some, Bool.not_true, Bool.not_false, Nat.reduceBEq, laws_FnExactUnseal_r, EB2, ER, bne_self_eq_false, beq_self_eq_true, decide_true, DValue.c]
  refine TCall.val (by simp only [EO, DValue.c_noLp]) (impl_Unseal_T false l (by omega) b i _) ?_
  simp only [EV, EL, EB, EF, if_true, if_false, Bool.false_eq_true, Nat.reduceAdd, Option.bind_some, Bool.not_true, Bool.not_false, Nat.reduceBEq, laws_FnExactUnseal_r, EB2, ER, bne_self_eq_false, beq_self_eq_true, decide_true, DValue.c]
  refine TCall.val (by simp only [EO, DValue.c_noLp]) (laws_eqValue_T false false _ _ _) ?_
  simp only [EV, EL, EB, EF, if_true, if_false, Bool.false_eq_true, Nat.reduceAdd, Option.bind_some, Bool.not_true, Bool.not_false, Nat.reduceBEq, laws_FnExactUnseal_r, EB2, ER, bne_self_eq_false, beq_self_eq_true, decide_true, DValue.c]
  refine TCall.val (by simp only [EO, DValue.c_noLp]) (laws_toBoxS_V false l ol _) ?_
  simp only [EV, EL, EB, EF, if_true, if_false, Bool.false_eq_true, Nat.reduceAdd, Option.bind_some, Bool.not_true, Bool.not_false, Nat.reduceBEq, laws_FnExactUnseal_r, EB2, ER, bne_self_eq_false, beq_self_eq_true, decide_true, DValue.c]
  refine TCall.val (by simp only [EO, DValue.c_noLp]) (laws_eqBoxS_T false false l l (by omega) _) ?_
  simp only [EV, EL, EB, EF, if_true, if_false, Bool.false_eq_true, Nat.reduceAdd, Option.bind_some, Bool.not_true, Bool.not_false, Nat.reduceBEq, laws_FnExactUnseal_r, EB2, ER, bne_self_eq_false, beq_self_eq_true, decide_true, DValue.c]
  first | exact ⟨rfl, rfl⟩ | exact rfl
end Go.Proofs.Ytjohoameeeaafaa
