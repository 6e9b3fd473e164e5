import Derived.Test.YtjohoameeeaafaaR1FE
set_option linter.unusedVariables false
set_option linter.unusedSimpArgs false
namespace Go.Proofs.Ytjohoameeeaafaa
open Go.AM
set_option linter.unusedVariables false
set_option linter.unusedSimpArgs false
variable {Γ : Glob}
theorem law_FindExport (l : DLink) (hl : l.ok maxLen) (p : Int)  (h : AH) : T Try.prog Γ Fn.laws_FnExactFindExport [.agg (l.c false), .int .i64 p] h fun v h' => v = .bool true ∧ h' = h := by
  refine laws_FnExactFindExport_e (aw_sound tabOK mixed [] _ _ _ ?_)
  unfold laws_FnExactFindExport_c
  simp only [EV, EL, EB, EF, if_true, if_false, Bool.false_eq_true, Nat.reduceAdd, Option.bind_some, Bool.not_true, Bool.not_false, Nat.reduceBEq, laws_FnExactFindExport_r, laws_FnExactFindExport_d0_q, EB2, bne_self_eq_false, beq_self_eq_true, decide_true, DLink.c]
  refine TCall.val (by simp only [EO, DLink.c_noLp]) (laws_szLink_T false l hl 1048576 (by omega) (by omega) _) ?_
  simp only [EV, EL, EB, EF, if_true, if_false, Bool.false_eq_true, Nat.reduceAdd, Option.bind_some, Bool.not_true, Bool.not_false, Nat.reduceBEq, laws_FnExactFindExport_r, laws_FnExactFindExport_d0_q, EB2, bne_self_eq_false, beq_self_eq_true, decide_true, DLink.c]
  by_cases nl : (l.szf 1048576) < 0
  · simp only [EV, EL, EB, EF, if_true, if_false, Bool.false_eq_true, Nat.reduceAdd, Option.bind_some, Bool.not_true, Bool.not_false, Nat.reduceBEq, laws_FnExactFindExport_r, laws_FnExactFindExport_d0_q, EB2, bne_self_eq_false, beq_self_eq_true, decide_true, DLink.c, decide_eq_true nl]
    first | exact ⟨rfl, rfl⟩ | exact rfl
  have ql := DLink.szf_ok l 1048576 (by omega) (by omega) (Int.not_lt.1 nl)
  simp only [EV, EL, EB, EF, if_true, if_false, Bool.false_eq_true, Nat.reduceAdd, Option.bind_some, Bool.not_true, Bool.not_false, Nat.reduceBEq, laws_FnExactFindExport_r, laws_FnExactFindExport_d0_q, EB2, bne_self_eq_false, beq_self_eq_true, decide_true, DLink.c, decide_eq_false nl]
  have ol := ql.1
  refine TCall.val (by simp only [EO, DLink.c_noLp]) (laws_toLink_V false l ol _) ?_
  simp only [EV, EL, EB, EF, if_true, if_false, Bool.false_eq_true, Nat.reduceAdd, Option.bind_some, Bool.not_true, Bool.not_false, Nat.reduceBEq, laws_FnExactFindExport_r, laws_FnExactFindExport_d0_q, EB2, bne_self_eq_false, beq_self_eq_true, decide_true, DLink.c]
  refine TCall.val (by simp only [EO, DLink.c_noLp]) (spec_FindExport_T false l ol.1 p _) ?_
  simp only [EV, EL, EB, EF, if_true, if_false, Bool.false_eq_true, Nat.reduceAdd, Option.bind_some, Bool.not_true, Bool.not_false, Nat.reduceBEq, laws_FnExactFindExport_r, laws_FnExactFindExport_d0_q, EB2, bne_self_eq_false, beq_self_eq_true, decide_true, DLink.c]
  refine TCall.val (by simp only [EO, DLink.c_noLp]) (laws_toLink_V false l ol _) ?_
  simp only [EV, EL, EB, EF, if_true, if_false, Bool.false_eq_true, Nat.reduceAdd, Option.bind_some, Bool.not_true, Bool.not_false, Nat.reduceBEq, laws_FnExactFindExport_r, laws_FnExactFindExport_d0_q, EB2, bne_self_eq_false, beq_self_eq_true, decide_true, DLink.c]
  refine TCall.val (by simp only [EO, DLink.c_noLp]) (impl_FindExport_T false l ol.1 p _) ?_
  simp only [EV, EL, EB, EF, if_true, if_false, Bool.false_eq_true, Nat.reduceAdd, Option.bind_some, Bool.not_true, Bool.not_false, Nat.reduceBEq, laws_FnExactFindExport_r, laws_FnExactFindExport_d0_q, EB2, bne_self_eq_false, beq_self_eq_true, decide_true, DLink.c]
  refine TCall.val (by simp only [EO, DLink.c_noLp]) (laws_toLink_V false l ol _) ?_
  simp only [EV, EL, EB, EF, if_true, if_false, Bool.false_eq_true, Nat.reduceAdd, Option.bind_some, Bool.not_true, Bool.not_false, Nat.reduceBEq, laws_FnExactFindExport_r, laws_FnExactFindExport_d0_q, EB2, bne_self_eq_false, beq_self_eq_true, decide_true, DLink.c]
  refine TCall.val (by simp only [EO, DLink.c_noLp]) (laws_eqLink_T false false l l (ol.mono (by omega)) _) ?_
  simp only [EV, EL, EB, EF, if_true, if_false, Bool.false_eq_true, Nat.reduceAdd, Option.bind_some, Bool.not_true, Bool.not_false, Nat.reduceBEq, laws_FnExactFindExport_r, laws_FnExactFindExport_d0_q, EB2, bne_self_eq_false, beq_self_eq_true, decide_true, DLink.c]
  first | exact ⟨rfl, rfl⟩ | exact rfl
end Go.Proofs.Ytjohoameeeaafaa
