import Derived.Test.YtjohoameeeaafaaR1DG
set_option linter.unusedVariables false
set_option linter.unusedSimpArgs false
namespace Go.Proofs.Ytjohoameeeaafaa
open Go.AM
set_option linter.unusedVariables false
set_option linter.unusedSimpArgs false
variable {Γ : Glob}
theorem spec_DropGifts_V (l : List DGift) (ol : l.length ≤ 1048576) (vt : Int)  (h : AH) : T Try.prog Γ Fn.spec_DropGifts [.vs false 4 false (l.map (DGift.c false)), .int .i64 vt] h fun v h' => v = .vs false 4 false ((dropF l vt).map (DGift.c false)) ∧ h' = h := by
  have := (spec_DropGifts_T (Γ := Γ) false l ol vt h).frozen
  simpa only [List.map_cons, List.map_nil, resOf_1, resOf_2, rd_c, rd_a, CD.av_sl, CD.av_i, CD.av_b, CD.av_s, List.map_map, Function.comp_def, DGift.c_eq] using this
theorem impl_DropGifts_V (l : List DGift) (ol : l.length ≤ 1048576) (vt : Int)  (h : AH) : T Try.prog Γ Fn.impl_DropGifts [.vs false 4 false (l.map (DGift.c false)), .int .i64 vt] h fun v h' => v = .vs false 4 false ((dropF l vt).map (DGift.c false)) ∧ h' = h := by
  have := (impl_DropGifts_T (Γ := Γ) false l ol vt h).frozen
  simpa only [List.map_cons, List.map_nil, resOf_1, resOf_2, rd_c, rd_a, CD.av_sl, CD.av_i, CD.av_b, CD.av_s, List.map_map, Function.comp_def, DGift.c_eq] using this
theorem law_DropGifts (l : List DGift) (hl : l.length ≤ maxLen) (vt : Int)  (h : AH) : T Try.prog Γ Fn.laws_FnExactDropGifts [.vs false 4 false (l.map (DGift.c false)), .int .i64 vt] h fun v h' => v = .bool true ∧ h' = h := by
  refine (?_ : T Try.prog Γ Fn.laws_FnExactDropGifts _ h fun v h' => v = .bool true ∧ ∃ N, h' = h ++ N).drop (by rintro v h' ⟨rfl, N, rfl⟩; exact ⟨N, rfl, .bool _, rfl, rfl⟩)
  refine laws_FnExactDropGifts_e (aw_sound tabOK mixed [] _ _ _ ?_)
  unfold laws_FnExactDropGifts_c
  simp only [EV, EL, EB, EF, q_bx, if_true, if_false, Bool.false_eq_true, Nat.reduceAdd, Option.bind_some, Bool.not_true, Bool.not_false, Nat.reduceBEq, laws_FnExactDropGifts_r, EB2, ER, bne_self_eq_false, beq_self_eq_true, decide_true]
  refine TCall.val (by simp only [EO]) (laws_szGiftS_T false l hl 1048576 (by omega) (by omega) _) ?_
  simp only [EV, EL, EB, EF, q_bx, if_true, if_false, Bool.false_eq_true, Nat.reduceAdd, Option.bind_some, Bool.not_true, Bool.not_false, Nat.reduceBEq, laws_FnExactDropGifts_r, EB2, ER, bne_self_eq_false, beq_self_eq_true, decide_true]
  by_cases nl : (szN l 1048576) < 0
  · simp only [EV, EL, EB, EF, q_bx, if_true, if_false, Bool.false_eq_true, Nat.reduceAdd, Option.bind_some, Bool.not_true, Bool.not_false, Nat.reduceBEq, laws_FnExactDropGifts_r, EB2, ER, bne_self_eq_false, beq_self_eq_true, decide_true, decide_eq_true nl]
    first | exact ⟨rfl, rfl, [], by simp⟩ | exact ⟨rfl, [], by simp⟩ | exact ⟨[], by simp⟩
  have ql := szN_ok (Int.not_lt.1 nl)
  simp only [EV, EL, EB, EF, q_bx, if_true, if_false, Bool.false_eq_true, Nat.reduceAdd, Option.bind_some, Bool.not_true, Bool.not_false, Nat.reduceBEq, laws_FnExactDropGifts_r, EB2, ER, bne_self_eq_false, beq_self_eq_true, decide_true, decide_eq_false nl]
  have ol : l.length ≤ 1048576 := by omega
  refine TCall.val (by simp only [EO]) (laws_toGiftS_V false l ol _) ?_
  simp only [EV, EL, EB, EF, q_bx, if_true, if_false, Bool.false_eq_true, Nat.reduceAdd, Option.bind_some, Bool.not_true, Bool.not_false, Nat.reduceBEq, laws_FnExactDropGifts_r, EB2, ER, bne_self_eq_false, beq_self_eq_true, decide_true]
  refine TCall.val (by simp only [EO]) (spec_DropGifts_V l ol vt _) ?_
  simp only [EV, EL, EB, EF, q_bx, if_true, if_false, Bool.false_eq_true, Nat.reduceAdd, Option.bind_some, Bool.not_true, Bool.not_false, Nat.reduceBEq, laws_FnExactDropGifts_r, EB2, ER, bne_self_eq_false, beq_self_eq_true, decide_true]
  have rl := dropF_len l vt
  have xh : HExt h h := HExt.refl h
  refine TCall.ref (by simp only [EO]) (laws_toGiftS_T false l ol _) ?_
  have xh0 := xh
  rintro v_xl H1 fr
  replace fr : Fresh h _ _ _ := fr
  obtain ⟨f_xl, o_xl, n_xl, b_xl, e_xl⟩ := fr.c1
  have xh := xh.trans e_xl
  have g_xl : ∀ c ∈ f_xl, h.length ≤ c := fun c hc => by have := b_xl c hc; have := xh0.len; omega
  obtain ⟨cxla, cxlb, cxlc, cxld⟩ := o_xl.cell
  simp only [EV, EL, EB, EF, q_bx, if_true, if_false, Bool.false_eq_true, Nat.reduceAdd, Option.bind_some, Bool.not_true, Bool.not_false, Nat.reduceBEq, laws_FnExactDropGifts_r, EB2, ER, bne_self_eq_false, beq_self_eq_true, decide_true, cxla, cxlb, cxlc]
  refine TCall.own (by simp only [EO, cxld]) (snap_c (Own.see (DGift.c_eq true) o_xl) (snap_c (.same _) snap_n)) (impl_DropGifts_T true l ol vt) ?_
  have xh0 := xh
  rintro _ H2 fr
  replace fr : Fresh H1 _ _ _ := fr
  obtain ⟨f_g, o_g, n_g, b_g, e_g⟩ := fr.c1
  have xh := xh.trans e_g
  have d_xl_g : ∀ c, c ∈ f_xl → c ∉ f_g := fun c h1 h2 => by have := o_xl.lt c h1; have := b_g c h2; omega
  replace o_xl := o_xl.ext e_g
  have g_g : ∀ c ∈ f_g, h.length ≤ c := fun c hc => by have := b_g c hc; have := xh0.len; omega
  obtain ⟨cga, cgb, cgc, cgd⟩ := o_g.cell
  simp only [EV, EL, EB, EF, q_bx, if_true, if_false, Bool.false_eq_true, Nat.reduceAdd, Option.bind_some, Bool.not_true, Bool.not_false, Nat.reduceBEq, laws_FnExactDropGifts_r, EB2, ER, bne_self_eq_false, beq_self_eq_true, decide_true, cxla, cxlb, cxlc, cga, cgb, cgc]
  refine TCall.see (by simp only [EO, cxld, cgd]) (snap_c (Own.see (DGift.c_eq true) o_g) (snap_c (.same _) snap_n)) (fun h => laws_eqGiftS_T true false (dropF l vt) (dropF l vt) (by omega) h) (.bool _) ?_
  simp only [EV, EL, EB, EF, q_bx, if_true, if_false, Bool.false_eq_true, Nat.reduceAdd, Option.bind_some, Bool.not_true, Bool.not_false, Nat.reduceBEq, laws_FnExactDropGifts_r, EB2, ER, bne_self_eq_false, beq_self_eq_true, decide_true, cxla, cxlb, cxlc, cga, cgb, cgc]
  refine TCall.val (by simp only [EO, cxld, cgd]) (laws_toGiftS_V false l ol _) ?_
  simp only [EV, EL, EB, EF, q_bx, if_true, if_false, Bool.false_eq_true, Nat.reduceAdd, Option.bind_some, Bool.not_true, Bool.not_false, Nat.reduceBEq, laws_FnExactDropGifts_r, EB2, ER, bne_self_eq_false, beq_self_eq_true, decide_true, cxla, cxlb, cxlc, cga, cgb, cgc]
  refine TCall.see (by simp only [EO, cxld, cgd]) (snap_c (Own.see (DGift.c_eq true) o_xl) (snap_c (.same _) snap_n)) (fun h => laws_eqGiftS_T true false (l) (l) (by omega) h) (.bool _) ?_
  simp only [EV, EL, EB, EF, q_bx, if_true, if_false, Bool.false_eq_true, Nat.reduceAdd, Option.bind_some, Bool.not_true, Bool.not_false, Nat.reduceBEq, laws_FnExactDropGifts_r, EB2, ER, bne_self_eq_false, beq_self_eq_true, decide_true, cxla, cxlb, cxlc, cga, cgb, cgc]
  have cl_xl := cntL_len (c := DGift.cnt) (C := 4) (l := l) (fun y hy => DGift.cnt_le y)
  have cn_xl := cntL_nn (c := DGift.cnt) DGift.cnt_nn (l)
  refine TCall.ref (by simp only [EO, cxld, cgd]) (laws_markGiftS_T (l) (1) (by omega) (by omega) (by omega) _ o_xl n_xl) ?_
  rintro _ H3 ⟨rfl, hl, hf, o_xl⟩
  replace hl : H3.length = H2.length := hl
  replace hf : ∀ c, c ∉ f_xl → H3[c]? = H2[c]? := hf
  replace o_g := o_g.frame fun c hc => hf c (fun h2 => d_xl_g c h2 hc)
  replace xh := xh.mark hl hf g_xl
  simp only [EV, EL, EB, EF, q_bx, if_true, if_false, Bool.false_eq_true, Nat.reduceAdd, Option.bind_some, Bool.not_true, Bool.not_false, Nat.reduceBEq, laws_FnExactDropGifts_r, EB2, ER, bne_self_eq_false, beq_self_eq_true, decide_true, cxla, cxlb, cxlc, cga, cgb, cgc]
  have yk : decide (1 + cntL DGift.cnt (l) < 0) = false := decide_eq_false (by omega)
  simp only [EV, EL, EB, EF, q_bx, if_true, if_false, Bool.false_eq_true, Nat.reduceAdd, Option.bind_some, Bool.not_true, Bool.not_false, Nat.reduceBEq, laws_FnExactDropGifts_r, EB2, ER, bne_self_eq_false, beq_self_eq_true, decide_true, cxla, cxlb, cxlc, cga, cgb, cgc, yk]
  refine TCall.see (by simp only [EO, cxld, cgd]) (snap_c (Own.see (DGift.c_eq true) o_g) (snap_c (.same _) snap_n)) (fun h => laws_eqGiftS_T true false (dropF l vt) (dropF l vt) (by omega) h) (.bool _) ?_
  simp only [EV, EL, EB, EF, q_bx, if_true, if_false, Bool.false_eq_true, Nat.reduceAdd, Option.bind_some, Bool.not_true, Bool.not_false, Nat.reduceBEq, laws_FnExactDropGifts_r, EB2, ER, bne_self_eq_false, beq_self_eq_true, decide_true, cxla, cxlb, cxlc, cga, cgb, cgc, yk]
  have cl_g := cntL_len (c := DGift.cnt) (C := 4) (l := dropF l vt) (fun y hy => DGift.cnt_le y)
  have cn_g := cntL_nn (c := DGift.cnt) DGift.cnt_nn (dropF l vt)
  refine TCall.ref (by simp only [EO, cxld, cgd]) (laws_markGiftS_T (dropF l vt) (1) (by omega) (by omega) (by omega) _ o_g n_g) ?_
  rintro _ H4 ⟨rfl, hl, hf, o_g⟩
  replace hl : H4.length = H3.length := hl
  replace hf : ∀ c, c ∉ f_g → H4[c]? = H3[c]? := hf
  replace o_xl := o_xl.frame fun c hc => hf c (d_xl_g c hc)
  replace xh := xh.mark hl hf g_g
  simp only [EV, EL, EB, EF, q_bx, if_true, if_false, Bool.false_eq_true, Nat.reduceAdd, Option.bind_some, Bool.not_true, Bool.not_false, Nat.reduceBEq, laws_FnExactDropGifts_r, EB2, ER, bne_self_eq_false, beq_self_eq_true, decide_true, cxla, cxlb, cxlc, cga, cgb, cgc, yk]
  have ym : decide (1 + cntL DGift.cnt (dropF l vt) < 0) = false := decide_eq_false (by omega)
  refine TCall.see (by simp only [EO, cxld, cgd]) (snap_c (Own.see (DGift.c_eq true) o_g) (snap_c (.same _) snap_n)) (fun h => laws_heldGiftS_T true (dropF l vt) 1 (by omega) (by omega) (by omega) h) (.int _ _) ?_
  simp only [EV, EL, EB, EF, q_bx, if_true, if_false, Bool.false_eq_true, Nat.reduceAdd, Option.bind_some, Bool.not_true, Bool.not_false, Nat.reduceBEq, laws_FnExactDropGifts_r, EB2, ER, bne_self_eq_false, beq_self_eq_true, decide_true, cxla, cxlb, cxlc, cga, cgb, cgc, yk, ym]
  refine TCall.val (by simp only [EO, cxld, cgd]) (laws_toGiftS_V false l ol _) ?_
  simp only [EV, EL, EB, EF, q_bx, if_true, if_false, Bool.false_eq_true, Nat.reduceAdd, Option.bind_some, Bool.not_true, Bool.not_false, Nat.reduceBEq, laws_FnExactDropGifts_r, EB2, ER, bne_self_eq_false, beq_self_eq_true, decide_true, cxla, cxlb, cxlc, cga, cgb, cgc, yk, ym]
  refine TCall.val (by simp only [EO, cxld, cgd]) (impl_DropGifts_V l ol vt _) ?_
  simp only [EV, EL, EB, EF, q_bx, if_true, if_false, Bool.false_eq_true, Nat.reduceAdd, Option.bind_some, Bool.not_true, Bool.not_false, Nat.reduceBEq, laws_FnExactDropGifts_r, EB2, ER, bne_self_eq_false, beq_self_eq_true, decide_true, cxla, cxlb, cxlc, cga, cgb, cgc, yk, ym]
  refine TCall.val (by simp only [EO, cxld, cgd]) (laws_eqGiftS_T false false (dropF l vt) (dropF l vt) (by omega) _) ?_
  simp only [EV, EL, EB, EF, q_bx, if_true, if_false, Bool.false_eq_true, Nat.reduceAdd, Option.bind_some, Bool.not_true, Bool.not_false, Nat.reduceBEq, laws_FnExactDropGifts_r, EB2, ER, bne_self_eq_false, beq_self_eq_true, decide_true, cxla, cxlb, cxlc, cga, cgb, cgc, yk, ym]
  refine TCall.see (by simp only [EO, cxld, cgd]) (snap_c (Own.see (DGift.c_eq true) o_g) (snap_c (.same _) snap_n)) (fun h => laws_heldGiftS_T true (dropF l vt) 1 (by omega) (by omega) (by omega) h) (.int _ _) ?_
  simp only [EV, EL, EB, EF, q_bx, if_true, if_false, Bool.false_eq_true, Nat.reduceAdd, Option.bind_some, Bool.not_true, Bool.not_false, Nat.reduceBEq, laws_FnExactDropGifts_r, EB2, ER, bne_self_eq_false, beq_self_eq_true, decide_true, cxla, cxlb, cxlc, cga, cgb, cgc, yk, ym]
  first | exact ⟨rfl, xh.out⟩ | exact xh.out | exact ⟨rfl, rfl, xh.out⟩

end Go.Proofs.Ytjohoameeeaafaa
