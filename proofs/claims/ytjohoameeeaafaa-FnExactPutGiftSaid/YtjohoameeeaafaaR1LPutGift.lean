import Derived.Test.YtjohoameeeaafaaR1PG
set_option linter.unusedVariables false
set_option linter.unusedSimpArgs false
namespace Go.Proofs.Ytjohoameeeaafaa
open Go.AM
set_option linter.unusedVariables false
set_option linter.unusedSimpArgs false
variable {Γ : Glob}
theorem spec_PutGift_V (l : List DGift) (ol : l.length ≤ 1048576) (x : DGift)  (h : AH) : T Try.prog Γ Fn.spec_PutGift [.vs false 4 false (l.map (DGift.c false)), .agg (x.c false)] h fun v h' => v = .tup [.vs false 4 false (((putF l x).1).map (DGift.c false)), .bool ((putF l x).2)] ∧ h' = h := by
  have := (spec_PutGift_T (Γ := Γ) false false l ol x h).frozen
  simpa only [List.map_cons, List.map_nil, resOf_1, resOf_2, rd_c, rd_a, CD.av_sl, CD.av_i, CD.av_b, CD.av_s, List.map_map, Function.comp_def, DGift.c_eq] using this
theorem impl_PutGift_V (l : List DGift) (ol : l.length ≤ 1048576) (x : DGift)  (h : AH) : T Try.prog Γ Fn.impl_PutGift [.vs false 4 false (l.map (DGift.c false)), .agg (x.c false)] h fun v h' => v = .tup [.vs false 4 false (((putF l x).1).map (DGift.c false)), .bool ((putF l x).2)] ∧ h' = h := by
  have := (impl_PutGift_T (Γ := Γ) false false l ol x h).frozen
  simpa only [List.map_cons, List.map_nil, resOf_1, resOf_2, rd_c, rd_a, CD.av_sl, CD.av_i, CD.av_b, CD.av_s, List.map_map, Function.comp_def, DGift.c_eq] using this
theorem law_PutGift (l : List DGift) (hl : l.length ≤ maxLen) (x : DGift)  (h : AH) : T Try.prog Γ Fn.laws_FnExactPutGift [.vs false 4 false (l.map (DGift.c false)), .agg (x.c false)] h fun v h' => v = .bool true ∧ h' = h := by
  refine (?_ : T Try.prog Γ Fn.laws_FnExactPutGift _ h fun v h' => v = .bool true ∧ ∃ N, h' = h ++ N).drop (by rintro v h' ⟨rfl, N, rfl⟩; exact ⟨N, rfl, .bool _, rfl, rfl⟩)
  refine laws_FnExactPutGift_e (aw_sound tabOK mixed [] _ _ _ ?_)
  unfold laws_FnExactPutGift_c
  simp only [EV, EL, EB, EF, q_bx, if_true, if_false, Bool.false_eq_true, Nat.reduceAdd, Option.bind_some, Bool.not_true, Bool.not_false, Nat.reduceBEq, laws_FnExactPutGift_r, laws_FnExactPutGift_d0_q, laws_FnExactPutGift_d1_q, EB2, ER, bne_self_eq_false, beq_self_eq_true, decide_true, DGift.c]
  refine TCall.val (by simp only [EO, DGift.c_noLp]) (laws_szGiftS_T false l hl 1048576 (by omega) (by omega) _) ?_
  simp only [EV, EL, EB, EF, q_bx, if_true, if_false, Bool.false_eq_true, Nat.reduceAdd, Option.bind_some, Bool.not_true, Bool.not_false, Nat.reduceBEq, laws_FnExactPutGift_r, laws_FnExactPutGift_d0_q, laws_FnExactPutGift_d1_q, EB2, ER, bne_self_eq_false, beq_self_eq_true, decide_true, DGift.c]
  by_cases nl : (szN l 1048576) < 0
  · simp only [EV, EL, EB, EF, q_bx, if_true, if_false, Bool.false_eq_true, Nat.reduceAdd, Option.bind_some, Bool.not_true, Bool.not_false, Nat.reduceBEq, laws_FnExactPutGift_r, laws_FnExactPutGift_d0_q, laws_FnExactPutGift_d1_q, EB2, ER, bne_self_eq_false, beq_self_eq_true, decide_true, DGift.c, decide_eq_true nl]
    first | exact ⟨rfl, rfl, [], by simp⟩ | exact ⟨rfl, [], by simp⟩ | exact ⟨[], by simp⟩
  have ql := szN_ok (Int.not_lt.1 nl)
  simp only [EV, EL, EB, EF, q_bx, if_true, if_false, Bool.false_eq_true, Nat.reduceAdd, Option.bind_some, Bool.not_true, Bool.not_false, Nat.reduceBEq, laws_FnExactPutGift_r, laws_FnExactPutGift_d0_q, laws_FnExactPutGift_d1_q, EB2, ER, bne_self_eq_false, beq_self_eq_true, decide_true, DGift.c, decide_eq_false nl]
  have ol : l.length ≤ 1048576 := by omega
  refine TCall.val (by simp only [EO, DGift.c_noLp]) (laws_toGiftS_V false l ol _) ?_
  simp only [EV, EL, EB, EF, q_bx, if_true, if_false, Bool.false_eq_true, Nat.reduceAdd, Option.bind_some, Bool.not_true, Bool.not_false, Nat.reduceBEq, laws_FnExactPutGift_r, laws_FnExactPutGift_d0_q, laws_FnExactPutGift_d1_q, EB2, ER, bne_self_eq_false, beq_self_eq_true, decide_true, DGift.c]
  refine TCall.val (by simp only [EO, DGift.c_noLp]) (laws_toGift_T false x _) ?_
  simp only [EV, EL, EB, EF, q_bx, if_true, if_false, Bool.false_eq_true, Nat.reduceAdd, Option.bind_some, Bool.not_true, Bool.not_false, Nat.reduceBEq, laws_FnExactPutGift_r, laws_FnExactPutGift_d0_q, laws_FnExactPutGift_d1_q, EB2, ER, bne_self_eq_false, beq_self_eq_true, decide_true, DGift.c]
  refine TCall.val (by simp only [EO, DGift.c_noLp]) (spec_PutGift_V l ol x _) ?_
  simp only [EV, EL, EB, EF, q_bx, if_true, if_false, Bool.false_eq_true, Nat.reduceAdd, Option.bind_some, Bool.not_true, Bool.not_false, Nat.reduceBEq, laws_FnExactPutGift_r, laws_FnExactPutGift_d0_q, laws_FnExactPutGift_d1_q, EB2, ER, bne_self_eq_false, beq_self_eq_true, decide_true, DGift.c]
  have rl := putF_len l x
  have xh : HExt h h := HExt.refl h
  refine TCall.ref (by simp only [EO, DGift.c_noLp]) (laws_toGiftS_T false l ol _) ?_
  have xh0 := xh
  rintro v_xl H1 fr
  replace fr : Fresh h _ _ _ := fr
  obtain ⟨f_xl, o_xl, n_xl, b_xl, e_xl⟩ := fr.c1
  have xh := xh.trans e_xl
  have g_xl : ∀ c ∈ f_xl, h.length ≤ c := fun c hc => by have := b_xl c hc; have := xh0.len; omega
  obtain ⟨cxla, cxlb, cxlc, cxld⟩ := o_xl.cell
  simp only [EV, EL, EB, EF, q_bx, if_true, if_false, Bool.false_eq_true, Nat.reduceAdd, Option.bind_some, Bool.not_true, Bool.not_false, Nat.reduceBEq, laws_FnExactPutGift_r, laws_FnExactPutGift_d0_q, laws_FnExactPutGift_d1_q, EB2, ER, bne_self_eq_false, beq_self_eq_true, decide_true, DGift.c, cxla, cxlb, cxlc]
  refine TCall.val (by simp only [EO, DGift.c_noLp, cxld]) (laws_toGift_T false x _) ?_
  simp only [EV, EL, EB, EF, q_bx, if_true, if_false, Bool.false_eq_true, Nat.reduceAdd, Option.bind_some, Bool.not_true, Bool.not_false, Nat.reduceBEq, laws_FnExactPutGift_r, laws_FnExactPutGift_d0_q, laws_FnExactPutGift_d1_q, EB2, ER, bne_self_eq_false, beq_self_eq_true, decide_true, DGift.c, cxla, cxlb, cxlc]
  refine TCall.own (by simp only [EO, DGift.c_noLp, cxld]) (snap_c (Own.see (DGift.c_eq true) o_xl) (snap_c (.same _) snap_n)) (impl_PutGift_T true false l ol x) ?_
  have xh0 := xh
  rintro _ H2 fr
  replace fr : Fresh H1 _ _ _ := fr
  obtain ⟨v_g, f_g, rfl, o_g, n_g, b_g, e_g⟩ := (fr.c2 rfl)
  have xh := xh.trans e_g
  have d_xl_g : ∀ c, c ∈ f_xl → c ∉ f_g := fun c h1 h2 => by have := o_xl.lt c h1; have := b_g c h2; omega
  replace o_xl := o_xl.ext e_g
  have g_g : ∀ c ∈ f_g, h.length ≤ c := fun c hc => by have := b_g c hc; have := xh0.len; omega
  obtain ⟨cga, cgb, cgc, cgd⟩ := o_g.cell
  simp only [EV, EL, EB, EF, q_bx, if_true, if_false, Bool.false_eq_true, Nat.reduceAdd, Option.bind_some, Bool.not_true, Bool.not_false, Nat.reduceBEq, laws_FnExactPutGift_r, laws_FnExactPutGift_d0_q, laws_FnExactPutGift_d1_q, EB2, ER, bne_self_eq_false, beq_self_eq_true, decide_true, DGift.c, cxla, cxlb, cxlc, CD.av_b, cga, cgb, cgc]
  refine TCall.see (by simp only [EO, DGift.c_noLp, cxld, cgd]) (snap_c (Own.see (DGift.c_eq true) o_g) (snap_c (.same _) snap_n)) (fun h => laws_eqGiftS_T true false ((putF l x).1) ((putF l x).1) (by omega) h) (.bool _) ?_
  simp only [EV, EL, EB, EF, q_bx, if_true, if_false, Bool.false_eq_true, Nat.reduceAdd, Option.bind_some, Bool.not_true, Bool.not_false, Nat.reduceBEq, laws_FnExactPutGift_r, laws_FnExactPutGift_d0_q, laws_FnExactPutGift_d1_q, EB2, ER, bne_self_eq_false, beq_self_eq_true, decide_true, DGift.c, cxla, cxlb, cxlc, CD.av_b, cga, cgb, cgc]
  refine TCall.val (by simp only [EO, DGift.c_noLp, cxld, cgd]) (laws_toGiftS_V false l ol _) ?_
  simp only [EV, EL, EB, EF, q_bx, if_true, if_false, Bool.false_eq_true, Nat.reduceAdd, Option.bind_some, Bool.not_true, Bool.not_false, Nat.reduceBEq, laws_FnExactPutGift_r, laws_FnExactPutGift_d0_q, laws_FnExactPutGift_d1_q, EB2, ER, bne_self_eq_false, beq_self_eq_true, decide_true, DGift.c, cxla, cxlb, cxlc, CD.av_b, cga, cgb, cgc]
  refine TCall.see (by simp only [EO, DGift.c_noLp, cxld, cgd]) (snap_c (Own.see (DGift.c_eq true) o_xl) (snap_c (.same _) snap_n)) (fun h => laws_eqGiftS_T true false (l) (l) (by omega) h) (.bool _) ?_
  simp only [EV, EL, EB, EF, q_bx, if_true, if_false, Bool.false_eq_true, Nat.reduceAdd, Option.bind_some, Bool.not_true, Bool.not_false, Nat.reduceBEq, laws_FnExactPutGift_r, laws_FnExactPutGift_d0_q, laws_FnExactPutGift_d1_q, EB2, ER, bne_self_eq_false, beq_self_eq_true, decide_true, DGift.c, cxla, cxlb, cxlc, CD.av_b, cga, cgb, cgc]
  have cl_xl := cntL_len (c := DGift.cnt) (C := 4) (l := l) (fun y hy => DGift.cnt_le y)
  have cn_xl := cntL_nn (c := DGift.cnt) DGift.cnt_nn (l)
  refine TCall.ref (by simp only [EO, DGift.c_noLp, cxld, cgd]) (laws_markGiftS_T (l) (1) (by omega) (by omega) (by omega) _ o_xl n_xl) ?_
  rintro _ H3 ⟨rfl, hl, hf, o_xl⟩
  replace hl : H3.length = H2.length := hl
  replace hf : ∀ c, c ∉ f_xl → H3[c]? = H2[c]? := hf
  replace o_g := o_g.frame fun c hc => hf c (fun h2 => d_xl_g c h2 hc)
  replace xh := xh.mark hl hf g_xl
  simp only [EV, EL, EB, EF, q_bx, if_true, if_false, Bool.false_eq_true, Nat.reduceAdd, Option.bind_some, Bool.not_true, Bool.not_false, Nat.reduceBEq, laws_FnExactPutGift_r, laws_FnExactPutGift_d0_q, laws_FnExactPutGift_d1_q, EB2, ER, bne_self_eq_false, beq_self_eq_true, decide_true, DGift.c, cxla, cxlb, cxlc, CD.av_b, cga, cgb, cgc]
  have yk : decide (1 + cntL DGift.cnt (l) < 0) = false := decide_eq_false (by omega)
  simp only [EV, EL, EB, EF, q_bx, if_true, if_false, Bool.false_eq_true, Nat.reduceAdd, Option.bind_some, Bool.not_true, Bool.not_false, Nat.reduceBEq, laws_FnExactPutGift_r, laws_FnExactPutGift_d0_q, laws_FnExactPutGift_d1_q, EB2, ER, bne_self_eq_false, beq_self_eq_true, decide_true, DGift.c, cxla, cxlb, cxlc, CD.av_b, cga, cgb, cgc, yk]
  refine TCall.see (by simp only [EO, DGift.c_noLp, cxld, cgd]) (snap_c (Own.see (DGift.c_eq true) o_g) (snap_c (.same _) snap_n)) (fun h => laws_eqGiftS_T true false ((putF l x).1) ((putF l x).1) (by omega) h) (.bool _) ?_
  simp only [EV, EL, EB, EF, q_bx, if_true, if_false, Bool.false_eq_true, Nat.reduceAdd, Option.bind_some, Bool.not_true, Bool.not_false, Nat.reduceBEq, laws_FnExactPutGift_r, laws_FnExactPutGift_d0_q, laws_FnExactPutGift_d1_q, EB2, ER, bne_self_eq_false, beq_self_eq_true, decide_true, DGift.c, cxla, cxlb, cxlc, CD.av_b, cga, cgb, cgc, yk]
  have cl_g := cntL_len (c := DGift.cnt) (C := 4) (l := (putF l x).1) (fun y hy => DGift.cnt_le y)
  have cn_g := cntL_nn (c := DGift.cnt) DGift.cnt_nn ((putF l x).1)
  refine TCall.ref (by simp only [EO, DGift.c_noLp, cxld, cgd]) (laws_markGiftS_T ((putF l x).1) (1) (by omega) (by omega) (by omega) _ o_g n_g) ?_
  rintro _ H4 ⟨rfl, hl, hf, o_g⟩
  replace hl : H4.length = H3.length := hl
  replace hf : ∀ c, c ∉ f_g → H4[c]? = H3[c]? := hf
  replace o_xl := o_xl.frame fun c hc => hf c (d_xl_g c hc)
  replace xh := xh.mark hl hf g_g
  simp only [EV, EL, EB, EF, q_bx, if_true, if_false, Bool.false_eq_true, Nat.reduceAdd, Option.bind_some, Bool.not_true, Bool.not_false, Nat.reduceBEq, laws_FnExactPutGift_r, laws_FnExactPutGift_d0_q, laws_FnExactPutGift_d1_q, EB2, ER, bne_self_eq_false, beq_self_eq_true, decide_true, DGift.c, cxla, cxlb, cxlc, CD.av_b, cga, cgb, cgc, yk]
  have ym : decide (1 + cntL DGift.cnt ((putF l x).1) < 0) = false := decide_eq_false (by omega)
  refine TCall.see (by simp only [EO, DGift.c_noLp, cxld, cgd]) (snap_c (Own.see (DGift.c_eq true) o_g) (snap_c (.same _) snap_n)) (fun h => laws_heldGiftS_T true ((putF l x).1) 1 (by omega) (by omega) (by omega) h) (.int _ _) ?_
  simp only [EV, EL, EB, EF, q_bx, if_true, if_false, Bool.false_eq_true, Nat.reduceAdd, Option.bind_some, Bool.not_true, Bool.not_false, Nat.reduceBEq, laws_FnExactPutGift_r, laws_FnExactPutGift_d0_q, laws_FnExactPutGift_d1_q, EB2, ER, bne_self_eq_false, beq_self_eq_true, decide_true, DGift.c, cxla, cxlb, cxlc, CD.av_b, cga, cgb, cgc, yk, ym]
  refine TCall.val (by simp only [EO, DGift.c_noLp, cxld, cgd]) (laws_toGiftS_V false l ol _) ?_
  simp only [EV, EL, EB, EF, q_bx, if_true, if_false, Bool.false_eq_true, Nat.reduceAdd, Option.bind_some, Bool.not_true, Bool.not_false, Nat.reduceBEq, laws_FnExactPutGift_r, laws_FnExactPutGift_d0_q, laws_FnExactPutGift_d1_q, EB2, ER, bne_self_eq_false, beq_self_eq_true, decide_true, DGift.c, cxla, cxlb, cxlc, CD.av_b, cga, cgb, cgc, yk, ym]
  refine TCall.val (by simp only [EO, DGift.c_noLp, cxld, cgd]) (laws_toGift_T false x _) ?_
  simp only [EV, EL, EB, EF, q_bx, if_true, if_false, Bool.false_eq_true, Nat.reduceAdd, Option.bind_some, Bool.not_true, Bool.not_false, Nat.reduceBEq, laws_FnExactPutGift_r, laws_FnExactPutGift_d0_q, laws_FnExactPutGift_d1_q, EB2, ER, bne_self_eq_false, beq_self_eq_true, decide_true, DGift.c, cxla, cxlb, cxlc, CD.av_b, cga, cgb, cgc, yk, ym]
  refine TCall.val (by simp only [EO, DGift.c_noLp, cxld, cgd]) (impl_PutGift_V l ol x _) ?_
  simp only [EV, EL, EB, EF, q_bx, if_true, if_false, Bool.false_eq_true, Nat.reduceAdd, Option.bind_some, Bool.not_true, Bool.not_false, Nat.reduceBEq, laws_FnExactPutGift_r, laws_FnExactPutGift_d0_q, laws_FnExactPutGift_d1_q, EB2, ER, bne_self_eq_false, beq_self_eq_true, decide_true, DGift.c, cxla, cxlb, cxlc, CD.av_b, cga, cgb, cgc, yk, ym]
  refine TCall.val (by simp only [EO, DGift.c_noLp, cxld, cgd]) (laws_eqGiftS_T false false ((putF l x).1) ((putF l x).1) (by omega) _) ?_
  simp only [EV, EL, EB, EF, q_bx, if_true, if_false, Bool.false_eq_true, Nat.reduceAdd, Option.bind_some, Bool.not_true, Bool.not_false, Nat.reduceBEq, laws_FnExactPutGift_r, laws_FnExactPutGift_d0_q, laws_FnExactPutGift_d1_q, EB2, ER, bne_self_eq_false, beq_self_eq_true, decide_true, DGift.c, cxla, cxlb, cxlc, CD.av_b, cga, cgb, cgc, yk, ym]
  refine TCall.see (by simp only [EO, DGift.c_noLp, cxld, cgd]) (snap_c (Own.see (DGift.c_eq true) o_g) (snap_c (.same _) snap_n)) (fun h => laws_heldGiftS_T true ((putF l x).1) 1 (by omega) (by omega) (by omega) h) (.int _ _) ?_
  simp only [EV, EL, EB, EF, q_bx, if_true, if_false, Bool.false_eq_true, Nat.reduceAdd, Option.bind_some, Bool.not_true, Bool.not_false, Nat.reduceBEq, laws_FnExactPutGift_r, laws_FnExactPutGift_d0_q, laws_FnExactPutGift_d1_q, EB2, ER, bne_self_eq_false, beq_self_eq_true, decide_true, DGift.c, cxla, cxlb, cxlc, CD.av_b, cga, cgb, cgc, yk, ym]
  first | exact ⟨rfl, xh.out⟩ | exact xh.out | exact ⟨rfl, rfl, xh.out⟩

end Go.Proofs.Ytjohoameeeaafaa
