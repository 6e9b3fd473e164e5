import Derived.Test.YtjmcfdhklogpkaaR2V1
set_option linter.unusedVariables false
set_option linter.unusedSimpArgs false
namespace Go.Proofs.Ytjmcfdhklogpkaa
open Go.AM
set_option linter.unusedVariables false
set_option linter.unusedSimpArgs false
variable {Γ : Glob}
theorem law_CellValue (v : DVat) (hv : v.ok maxLen) (i : Int)  (h : AH) : T Try.prog Γ Fn.laws_FnExactCellValue [.agg (v.c false), .int .i64 i] h fun v h' => v = .bool true ∧ h' = h := by
  refine laws_FnExactCellValue_e (aw_sound tabOK mixed [] _ _ _ ?_)
  unfold laws_FnExactCellValue_c
  simp only [EV, EL, EB, EF, if_true, if_false, Bool.false_eq_true, Nat.reduceAdd, Option.bind_some, Bool.not_true, Bool.not_false, Nat.reduceBEq, laws_FnExactCellValue_r, laws_FnExactCellValue_d0_q, EB2, bne_self_eq_false, beq_self_eq_true, decide_true, DValue.c, DVat.c]
  refine TCall.val (by simp only [EO, DVat.c_noLp, DValue.c_noLp]) (laws_szVat_T false v hv 1048576 (by omega) (by omega) _) ?_
  simp only [EV, EL, EB, EF, if_true, if_false, Bool.false_eq_true, Nat.reduceAdd, Option.bind_some, Bool.not_true, Bool.not_false, Nat.reduceBEq, laws_FnExactCellValue_r, laws_FnExactCellValue_d0_q, EB2, bne_self_eq_false, beq_self_eq_true, decide_true, DValue.c, DVat.c]
  by_cases nv : (v.szf 1048576) < 0
  · simp only [EV, EL, EB, EF, if_true, if_false, Bool.false_eq_true, Nat.reduceAdd, Option.bind_some, Bool.not_true, Bool.not_false, Nat.reduceBEq, laws_FnExactCellValue_r, laws_FnExactCellValue_d0_q, EB2, bne_self_eq_false, beq_self_eq_true, decide_true, DValue.c, DVat.c, decide_eq_true nv]
    first | exact ⟨rfl, rfl⟩ | exact rfl
  have qv := DVat.szf_ok v 1048576 (by omega) (by omega) (Int.not_lt.1 nv)
  simp only [EV, EL, EB, EF, if_true, if_false, Bool.false_eq_true, Nat.reduceAdd, Option.bind_some, Bool.not_true, Bool.not_false, Nat.reduceBEq, laws_FnExactCellValue_r, laws_FnExactCellValue_d0_q, EB2, bne_self_eq_false, beq_self_eq_true, decide_true, DValue.c, DVat.c, decide_eq_false nv]
  have ov := qv.1
  refine TCall.val (by simp only [EO, DVat.c_noLp, DValue.c_noLp]) (laws_toVat_V false v ov _) ?_
  simp only [EV, EL, EB, EF, if_true, if_false, Bool.false_eq_true, Nat.reduceAdd, Option.bind_some, Bool.not_true, Bool.not_false, Nat.reduceBEq, laws_FnExactCellValue_r, laws_FnExactCellValue_d0_q, EB2, bne_self_eq_false, beq_self_eq_true, decide_true, DValue.c, DVat.c]
  refine TCall.val (by simp only [EO, DVat.c_noLp, DValue.c_noLp]) (spec_CellValue_T false v ov i _) ?_
  simp only [EV, EL, EB, EF, if_true, if_false, Bool.false_eq_true, Nat.reduceAdd, Option.bind_some, Bool.not_true, Bool.not_false, Nat.reduceBEq, laws_FnExactCellValue_r, laws_FnExactCellValue_d0_q, EB2, bne_self_eq_false, beq_self_eq_true, decide_true, DValue.c, DVat.c]
  refine TCall.val (by simp only [EO, DVat.c_noLp, DValue.c_noLp]) (laws_toVat_V false v ov _) ?_
  simp only [EV, EL, EB, EF, if_true, if_false, Bool.false_eq_true, Nat.reduceAdd, Option.bind_some, Bool.not_true, Bool.not_false, Nat.reduceBEq, laws_FnExactCellValue_r, laws_FnExactCellValue_d0_q, EB2, bne_self_eq_false, beq_self_eq_true, decide_true, DValue.c, DVat.c]
  refine TCall.val (by simp only [EO, DVat.c_noLp, DValue.c_noLp]) (impl_CellValue_T false v ov i _) ?_
  simp only [EV, EL, EB, EF, if_true, if_false, Bool.false_eq_true, Nat.reduceAdd, Option.bind_some, Bool.not_true, Bool.not_false, Nat.reduceBEq, laws_FnExactCellValue_r, laws_FnExactCellValue_d0_q, EB2, bne_self_eq_false, beq_self_eq_true, decide_true, DValue.c, DVat.c]
  refine TCall.val (by simp only [EO, DVat.c_noLp, DValue.c_noLp]) (laws_eqValue_T false false _ _ _) ?_
  simp only [EV, EL, EB, EF, if_true, if_false, Bool.false_eq_true, Nat.reduceAdd, Option.bind_some, Bool.not_true, Bool.not_false, Nat.reduceBEq, laws_FnExactCellValue_r, laws_FnExactCellValue_d0_q, EB2, bne_self_eq_false, beq_self_eq_true, decide_true, DValue.c, DVat.c]
  refine TCall.val (by simp only [EO, DVat.c_noLp, DValue.c_noLp]) (laws_toVat_V false v ov _) ?_
  simp only [EV, EL, EB, EF, if_true, if_false, Bool.false_eq_true, Nat.reduceAdd, Option.bind_some, Bool.not_true, Bool.not_false, Nat.reduceBEq, laws_FnExactCellValue_r, laws_FnExactCellValue_d0_q, EB2, bne_self_eq_false, beq_self_eq_true, decide_true, DValue.c, DVat.c]
  refine TCall.val (by simp only [EO, DVat.c_noLp, DValue.c_noLp]) (laws_eqVat_T false false v v (ov.mono (by omega)) _) ?_
  simp only [EV, EL, EB, EF, if_true, if_false, Bool.false_eq_true, Nat.reduceAdd, Option.bind_some, Bool.not_true, Bool.not_false, Nat.reduceBEq, laws_FnExactCellValue_r, laws_FnExactCellValue_d0_q, EB2, bne_self_eq_false, beq_self_eq_true, decide_true, DValue.c, DVat.c]
  first | exact ⟨rfl, rfl⟩ | exact rfl
end Go.Proofs.Ytjmcfdhklogpkaa
