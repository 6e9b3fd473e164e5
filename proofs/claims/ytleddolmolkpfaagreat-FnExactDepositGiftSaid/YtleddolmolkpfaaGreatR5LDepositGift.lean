import Derived.Test.YtleddolmolkpfaaGreatR5M
import Derived.Test.YtleddolmolkpfaaGreatR5DE
set_option linter.unusedVariables false
set_option linter.unusedSimpArgs false
namespace Go.Proofs.YtleddolmolkpfaaGreat
open Go.AM
set_option linter.unusedVariables false
set_option linter.unusedSimpArgs false
variable {Γ : Glob}
theorem spec_DepositGift_V (a : DVat) (oa : a.ok 1048576) (l : List DGift) (ol : l.length ≤ 1048576) (gi : Int)  (po : Int)  (ta : Int)  (no : Int)  (h : AH) : T Tryz.prog Γ Fn.spec_DepositGift [.agg (a.c false), .vs false 4 false (l.map (DGift.c false)), .int .i64 gi, .int .i64 po, .int .i64 ta, .int .i64 no] h fun v h' => v = .tup [.vs false 4 false (((depF a l gi po ta no).1).map (DGift.c false)), .bool ((depF a l gi po ta no).2)] ∧ h' = h := by
  have := (spec_DepositGift_T (Γ := Γ) false a l oa ol gi po ta no h).frozen
  simpa only [List.map_cons, List.map_nil, resOf_1, resOf_2, rd_c, rd_a, CD.av_sl, CD.av_i, CD.av_b, CD.av_s, List.map_map, Function.comp_def, DGift.c_eq] using this
theorem impl_DepositGift_V (a : DVat) (oa : a.ok 1048576) (l : List DGift) (ol : l.length ≤ 1048576) (gi : Int)  (po : Int)  (ta : Int)  (no : Int)  (h : AH) : T Tryz.prog Γ Fn.impl_DepositGift [.agg (a.c false), .vs false 4 false (l.map (DGift.c false)), .int .i64 gi, .int .i64 po, .int .i64 ta, .int .i64 no] h fun v h' => v = .tup [.vs false 4 false (((depF a l gi po ta no).1).map (DGift.c false)), .bool ((depF a l gi po ta no).2)] ∧ h' = h := by
  have := (impl_DepositGift_T (Γ := Γ) false a l oa ol gi po ta no h).frozen
  simpa only [List.map_cons, List.map_nil, resOf_1, resOf_2, rd_c, rd_a, CD.av_sl, CD.av_i, CD.av_b, CD.av_s, List.map_map, Function.comp_def, DGift.c_eq] using this
theorem law_DepositGift (a : DVat) (ha : a.ok maxLen) (l : List DGift) (hl : l.length ≤ maxLen) (gi : Int)  (po : Int)  (ta : Int)  (no : Int)  (h : AH) : T Tryz.prog Γ Fn.laws_FnExactDepositGift [.agg (a.c false), .vs false 4 false (l.map (DGift.c false)), .int .i64 gi, .int .i64 po, .int .i64 ta, .int .i64 no] h fun v h' => v = .bool true ∧ h' = h := by
  refine (?_ : T Tryz.prog Γ Fn.laws_FnExactDepositGift _ h fun v h' => v = .bool true ∧ ∃ N, h' = h ++ N).drop (by rintro v h' ⟨rfl, N, rfl⟩; exact ⟨N, rfl, .bool _, rfl, rfl⟩)
  refine laws_FnExactDepositGift_e (aw_sound tabOK mixed [] _ _ _ ?_)
  unfold laws_FnExactDepositGift_c
  simp only [EV, EL, EB, EF, q_bx, if_true, if_false, Bool.false_eq_true, Nat.reduceAdd, Option.bind_some, Bool.not_true, Bool.not_false, Nat.reduceBEq, laws_FnExactDepositGift_r, laws_FnExactDepositGift_d0_q, EB2, ER, bne_self_eq_false, beq_self_eq_true, decide_true, DVat.c]
  refine TCall.val (by simp only [EO, DVat.c_noLp]) (laws_szVat_T false a ha 1048576 (by omega) (by omega) _) ?_
  simp only [EV, EL, EB, EF, q_bx, if_true, if_false, Bool.false_eq_true, Nat.reduceAdd, Option.bind_some, Bool.not_true, Bool.not_false, Nat.reduceBEq, laws_FnExactDepositGift_r, laws_FnExactDepositGift_d0_q, EB2, ER, bne_self_eq_false, beq_self_eq_true, decide_true, DVat.c]
  by_cases na : (a.szf 1048576) < 0
  · simp only [EV, EL, EB, EF, q_bx, if_true, if_false, Bool.false_eq_true, Nat.reduceAdd, Option.bind_some, Bool.not_true, Bool.not_false, Nat.reduceBEq, laws_FnExactDepositGift_r, laws_FnExactDepositGift_d0_q, EB2, ER, bne_self_eq_false, beq_self_eq_true, decide_true, DVat.c, decide_eq_true na]
    first | exact ⟨rfl, rfl, [], by simp⟩ | exact ⟨rfl, [], by simp⟩ | exact ⟨[], by simp⟩
  have qa := DVat.szf_ok a 1048576 (by omega) (by omega) (Int.not_lt.1 na)
  simp only [EV, EL, EB, EF, q_bx, if_true, if_false, Bool.false_eq_true, Nat.reduceAdd, Option.bind_some, Bool.not_true, Bool.not_false, Nat.reduceBEq, laws_FnExactDepositGift_r, laws_FnExactDepositGift_d0_q, EB2, ER, bne_self_eq_false, beq_self_eq_true, decide_true, DVat.c, decide_eq_false na]
  have oa := qa.1
  refine TCall.val (by simp only [EO, DVat.c_noLp]) (laws_szGiftS_T false l hl (a.szf 1048576) (by omega) (by omega) _) ?_
  simp only [EV, EL, EB, EF, q_bx, if_true, if_false, Bool.false_eq_true, Nat.reduceAdd, Option.bind_some, Bool.not_true, Bool.not_false, Nat.reduceBEq, laws_FnExactDepositGift_r, laws_FnExactDepositGift_d0_q, EB2, ER, bne_self_eq_false, beq_self_eq_true, decide_true, DVat.c]
  by_cases nl : (szN l (a.szf 1048576)) < 0
  · simp only [EV, EL, EB, EF, q_bx, if_true, if_false, Bool.false_eq_true, Nat.reduceAdd, Option.bind_some, Bool.not_true, Bool.not_false, Nat.reduceBEq, laws_FnExactDepositGift_r, laws_FnExactDepositGift_d0_q, EB2, ER, bne_self_eq_false, beq_self_eq_true, decide_true, DVat.c, decide_eq_true nl]
    first | exact ⟨rfl, rfl, [], by simp⟩ | exact ⟨rfl, [], by simp⟩ | exact ⟨[], by simp⟩
  have ql := szN_ok (Int.not_lt.1 nl)
  simp only [EV, EL, EB, EF, q_bx, if_true, if_false, Bool.false_eq_true, Nat.reduceAdd, Option.bind_some, Bool.not_true, Bool.not_false, Nat.reduceBEq, laws_FnExactDepositGift_r, laws_FnExactDepositGift_d0_q, EB2, ER, bne_self_eq_false, beq_self_eq_true, decide_true, DVat.c, decide_eq_false nl]
  have ol : l.length ≤ 1048576 := by omega
  refine TCall.val (by simp only [EO, DVat.c_noLp]) (laws_toVat_V false a oa _) ?_
  simp only [EV, EL, EB, EF, q_bx, if_true, if_false, Bool.false_eq_true, Nat.reduceAdd, Option.bind_some, Bool.not_true, Bool.not_false, Nat.reduceBEq, laws_FnExactDepositGift_r, laws_FnExactDepositGift_d0_q, EB2, ER, bne_self_eq_false, beq_self_eq_true, decide_true, DVat.c]
  refine TCall.val (by simp only [EO, DVat.c_noLp]) (laws_toGiftS_V false l ol _) ?_
  simp only [EV, EL, EB, EF, q_bx, if_true, if_false, Bool.false_eq_true, Nat.reduceAdd, Option.bind_some, Bool.not_true, Bool.not_false, Nat.reduceBEq, laws_FnExactDepositGift_r, laws_FnExactDepositGift_d0_q, EB2, ER, bne_self_eq_false, beq_self_eq_true, decide_true, DVat.c]
  refine TCall.val (by simp only [EO, DVat.c_noLp]) (spec_DepositGift_V a oa l ol gi po ta no _) ?_
  simp only [EV, EL, EB, EF, q_bx, if_true, if_false, Bool.false_eq_true, Nat.reduceAdd, Option.bind_some, Bool.not_true, Bool.not_false, Nat.reduceBEq, laws_FnExactDepositGift_r, laws_FnExactDepositGift_d0_q, EB2, ER, bne_self_eq_false, beq_self_eq_true, decide_true, DVat.c]
  have rl := depF_len a l gi po ta no
  have xh : HExt h h := HExt.refl h
  refine TCall.ref (by simp only [EO, DVat.c_noLp]) (laws_toVat_T false a oa _) ?_
  have xh0 := xh
  rintro _ H1 fr
  replace fr : Fresh h _ _ _ := fr
  obtain ⟨as_xa, f_xa, rfl, o_xa, n_xa, b_xa, e_xa⟩ := fr.a1
  have ooxa := o_xa
  simp only [DVat.cd, ownL_c, ownL_n, own_i, own_b, own_s] at ooxa
  obtain ⟨_, _, _, _, rfl, _, ⟨rfl, rfl⟩, ⟨axa1, _, _, _, rfl, _, uxa1, ⟨axa2, _, _, _, rfl, _, uxa2, ⟨axa3, _, _, _, rfl, _, uxa3, ⟨axa4, _, _, _, rfl, _, uxa4, ⟨rfl, _⟩⟩⟩⟩⟩⟩ := ooxa
  obtain ⟨cxa1a, cxa1b, cxa1c, cxa1d⟩ := uxa1.cell
  obtain ⟨cxa2a, cxa2b, cxa2c, cxa2d⟩ := uxa2.cell
  obtain ⟨cxa3a, cxa3b, cxa3c, cxa3d⟩ := uxa3.cell
  obtain ⟨cxa4a, cxa4b, cxa4c, cxa4d⟩ := uxa4.cell
  have xh := xh.trans e_xa
  have g_xa : ∀ c ∈ f_xa, h.length ≤ c := fun c hc => by have := b_xa c hc; have := xh0.len; omega
  simp only [EV, EL, EB, EF, q_bx, if_true, if_false, Bool.false_eq_true, Nat.reduceAdd, Option.bind_some, Bool.not_true, Bool.not_false, Nat.reduceBEq, laws_FnExactDepositGift_r, laws_FnExactDepositGift_d0_q, EB2, ER, bne_self_eq_false, beq_self_eq_true, decide_true, DVat.c, cxa1a, cxa1b, cxa1c, cxa2a, cxa2b, cxa2c, cxa3a, cxa3b, cxa3c, cxa4a, cxa4b, cxa4c]
  refine TCall.ref (by simp only [EO, DVat.c_noLp, cxa1d, cxa1c, cxa2d, cxa2c, cxa3d, cxa3c, cxa4d, cxa4c]) (laws_toGiftS_T false l ol _) ?_
  have xh0 := xh
  rintro v_xl H2 fr
  replace fr : Fresh H1 _ _ _ := fr
  obtain ⟨f_xl, o_xl, n_xl, b_xl, e_xl⟩ := fr.c1
  have xh := xh.trans e_xl
  have d_xa_xl : ∀ c, c ∈ f_xa → c ∉ f_xl := fun c h1 h2 => by have := o_xa.lt c h1; have := b_xl c h2; omega
  replace o_xa := o_xa.ext e_xl
  have g_xl : ∀ c ∈ f_xl, h.length ≤ c := fun c hc => by have := b_xl c hc; have := xh0.len; omega
  obtain ⟨cxla, cxlb, cxlc, cxld⟩ := o_xl.cell
  simp only [EV, EL, EB, EF, q_bx, if_true, if_false, Bool.false_eq_true, Nat.reduceAdd, Option.bind_some, Bool.not_true, Bool.not_false, Nat.reduceBEq, laws_FnExactDepositGift_r, laws_FnExactDepositGift_d0_q, EB2, ER, bne_self_eq_false, beq_self_eq_true, decide_true, DVat.c, cxa1a, cxa1b, cxa1c, cxa2a, cxa2b, cxa2c, cxa3a, cxa3b, cxa3c, cxa4a, cxa4b, cxa4c, cxla, cxlb, cxlc]
  refine TCall.own (by simp only [EO, DVat.c_noLp, cxa1d, cxa1c, cxa2d, cxa2c, cxa3d, cxa3c, cxa4d, cxa4c, cxld]) (snap_c (OwnL.see (DVat.c_eq true _) o_xa) (snap_c (Own.see (DGift.c_eq true) o_xl) (snap_c (.same _) (snap_c (.same _) (snap_c (.same _) (snap_c (.same _) snap_n)))))) (impl_DepositGift_T true a l oa ol gi po ta no) ?_
  have xh0 := xh
  rintro _ H3 fr
  replace fr : Fresh H2 _ _ _ := fr
  obtain ⟨v_g, f_g, rfl, o_g, n_g, b_g, e_g⟩ := (fr.c2 rfl)
  have xh := xh.trans e_g
  have d_xa_g : ∀ c, c ∈ f_xa → c ∉ f_g := fun c h1 h2 => by have := o_xa.lt c h1; have := b_g c h2; omega
  have d_xl_g : ∀ c, c ∈ f_xl → c ∉ f_g := fun c h1 h2 => by have := o_xl.lt c h1; have := b_g c h2; omega
  replace o_xa := o_xa.ext e_g
  replace o_xl := o_xl.ext e_g
  have g_g : ∀ c ∈ f_g, h.length ≤ c := fun c hc => by have := b_g c hc; have := xh0.len; omega
  obtain ⟨cga, cgb, cgc, cgd⟩ := o_g.cell
  simp only [EV, EL, EB, EF, q_bx, if_true, if_false, Bool.false_eq_true, Nat.reduceAdd, Option.bind_some, Bool.not_true, Bool.not_false, Nat.reduceBEq, laws_FnExactDepositGift_r, laws_FnExactDepositGift_d0_q, EB2, ER, bne_self_eq_false, beq_self_eq_true, decide_true, DVat.c, cxa1a, cxa1b, cxa1c, cxa2a, cxa2b, cxa2c, cxa3a, cxa3b, cxa3c, cxa4a, cxa4b, cxa4c, cxla, cxlb, cxlc, CD.av_b, cga, cgb, cgc]
  refine TCall.see (by simp only [EO, DVat.c_noLp, cxa1d, cxa1c, cxa2d, cxa2c, cxa3d, cxa3c, cxa4d, cxa4c, cxld, cgd]) (snap_c (Own.see (DGift.c_eq true) o_g) (snap_c (.same _) snap_n)) (fun h => laws_eqGiftS_T true false ((depF a l gi po ta no).1) ((depF a l gi po ta no).1) (by omega) h) (.bool _) ?_
  simp only [EV, EL, EB, EF, q_bx, if_true, if_false, Bool.false_eq_true, Nat.reduceAdd, Option.bind_some, Bool.not_true, Bool.not_false, Nat.reduceBEq, laws_FnExactDepositGift_r, laws_FnExactDepositGift_d0_q, EB2, ER, bne_self_eq_false, beq_self_eq_true, decide_true, DVat.c, cxa1a, cxa1b, cxa1c, cxa2a, cxa2b, cxa2c, cxa3a, cxa3b, cxa3c, cxa4a, cxa4b, cxa4c, cxla, cxlb, cxlc, CD.av_b, cga, cgb, cgc]
  refine TCall.val (by simp only [EO, DVat.c_noLp, cxa1d, cxa1c, cxa2d, cxa2c, cxa3d, cxa3c, cxa4d, cxa4c, cxld, cgd]) (laws_toVat_V false a oa _) ?_
  simp only [EV, EL, EB, EF, q_bx, if_true, if_false, Bool.false_eq_true, Nat.reduceAdd, Option.bind_some, Bool.not_true, Bool.not_false, Nat.reduceBEq, laws_FnExactDepositGift_r, laws_FnExactDepositGift_d0_q, EB2, ER, bne_self_eq_false, beq_self_eq_true, decide_true, DVat.c, cxa1a, cxa1b, cxa1c, cxa2a, cxa2b, cxa2c, cxa3a, cxa3b, cxa3c, cxa4a, cxa4b, cxa4c, cxla, cxlb, cxlc, CD.av_b, cga, cgb, cgc]
  refine TCall.see (by simp only [EO, DVat.c_noLp, cxa1d, cxa1c, cxa2d, cxa2c, cxa3d, cxa3c, cxa4d, cxa4c, cxld, cgd]) (snap_c (OwnL.see (DVat.c_eq true _) o_xa) (snap_c (.same _) snap_n)) (fun h => laws_eqVat_T true false (a) (a) (oa.mono (by omega)) h) (.bool _) ?_
  simp only [EV, EL, EB, EF, q_bx, if_true, if_false, Bool.false_eq_true, Nat.reduceAdd, Option.bind_some, Bool.not_true, Bool.not_false, Nat.reduceBEq, laws_FnExactDepositGift_r, laws_FnExactDepositGift_d0_q, EB2, ER, bne_self_eq_false, beq_self_eq_true, decide_true, DVat.c, cxa1a, cxa1b, cxa1c, cxa2a, cxa2b, cxa2c, cxa3a, cxa3b, cxa3c, cxa4a, cxa4b, cxa4c, cxla, cxlb, cxlc, CD.av_b, cga, cgb, cgc]
  refine TCall.val (by simp only [EO, DVat.c_noLp, cxa1d, cxa1c, cxa2d, cxa2c, cxa3d, cxa3c, cxa4d, cxa4c, cxld, cgd]) (laws_toGiftS_V false l ol _) ?_
  simp only [EV, EL, EB, EF, q_bx, if_true, if_false, Bool.false_eq_true, Nat.reduceAdd, Option.bind_some, Bool.not_true, Bool.not_false, Nat.reduceBEq, laws_FnExactDepositGift_r, laws_FnExactDepositGift_d0_q, EB2, ER, bne_self_eq_false, beq_self_eq_true, decide_true, DVat.c, cxa1a, cxa1b, cxa1c, cxa2a, cxa2b, cxa2c, cxa3a, cxa3b, cxa3c, cxa4a, cxa4b, cxa4c, cxla, cxlb, cxlc, CD.av_b, cga, cgb, cgc]
  refine TCall.see (by simp only [EO, DVat.c_noLp, cxa1d, cxa1c, cxa2d, cxa2c, cxa3d, cxa3c, cxa4d, cxa4c, cxld, cgd]) (snap_c (Own.see (DGift.c_eq true) o_xl) (snap_c (.same _) snap_n)) (fun h => laws_eqGiftS_T true false (l) (l) (by omega) h) (.bool _) ?_
  simp only [EV, EL, EB, EF, q_bx, if_true, if_false, Bool.false_eq_true, Nat.reduceAdd, Option.bind_some, Bool.not_true, Bool.not_false, Nat.reduceBEq, laws_FnExactDepositGift_r, laws_FnExactDepositGift_d0_q, EB2, ER, bne_self_eq_false, beq_self_eq_true, decide_true, DVat.c, cxa1a, cxa1b, cxa1c, cxa2a, cxa2b, cxa2c, cxa3a, cxa3b, cxa3c, cxa4a, cxa4b, cxa4c, cxla, cxlb, cxlc, CD.av_b, cga, cgb, cgc]
  have cl_xa := DVat.cntA_le (a) oa
  have cn_xa := DVat.cntA_nn (a)
  have cl_xl := cntL_len (c := DGift.cnt) (C := 4) (l := l) (fun y hy => DGift.cnt_le y)
  have cn_xl := cntL_nn (c := DGift.cnt) DGift.cnt_nn (l)
  refine TCall.ref (by simp only [EO, DVat.c_noLp, cxa1d, cxa1c, cxa2d, cxa2c, cxa3d, cxa3c, cxa4d, cxa4c, cxld, cgd]) (laws_markVat_T (a) (1) (by omega) (by omega) (oa.mono (by omega)) _ o_xa n_xa) ?_
  rintro _ H4 ⟨rfl, hl, hf, o_xa⟩
  replace hl : H4.length = H3.length := hl
  replace hf : ∀ c, c ∉ f_xa → H4[c]? = H3[c]? := hf
  replace o_xl := o_xl.frame fun c hc => hf c (fun h2 => d_xa_xl c h2 hc)
  replace o_g := o_g.frame fun c hc => hf c (fun h2 => d_xa_g c h2 hc)
  replace xh := xh.mark hl hf g_xa
  simp only [EV, EL, EB, EF, q_bx, if_true, if_false, Bool.false_eq_true, Nat.reduceAdd, Option.bind_some, Bool.not_true, Bool.not_false, Nat.reduceBEq, laws_FnExactDepositGift_r, laws_FnExactDepositGift_d0_q, EB2, ER, bne_self_eq_false, beq_self_eq_true, decide_true, DVat.c, cxa1a, cxa1b, cxa1c, cxa2a, cxa2b, cxa2c, cxa3a, cxa3b, cxa3c, cxa4a, cxa4b, cxa4c, cxla, cxlb, cxlc, CD.av_b, cga, cgb, cgc]
  refine TCall.ref (by simp only [EO, DVat.c_noLp, cxa1d, cxa1c, cxa2d, cxa2c, cxa3d, cxa3c, cxa4d, cxa4c, cxld, cgd]) (laws_markGiftS_T (l) (1 + DVat.cntA (a)) (by omega) (by omega) (by omega) _ o_xl n_xl) ?_
  rintro _ H5 ⟨rfl, hl, hf, o_xl⟩
  replace hl : H5.length = H4.length := hl
  replace hf : ∀ c, c ∉ f_xl → H5[c]? = H4[c]? := hf
  replace o_xa := o_xa.frame fun c hc => hf c (d_xa_xl c hc)
  replace o_g := o_g.frame fun c hc => hf c (fun h2 => d_xl_g c h2 hc)
  replace xh := xh.mark hl hf g_xl
  simp only [EV, EL, EB, EF, q_bx, if_true, if_false, Bool.false_eq_true, Nat.reduceAdd, Option.bind_some, Bool.not_true, Bool.not_false, Nat.reduceBEq, laws_FnExactDepositGift_r, laws_FnExactDepositGift_d0_q, EB2, ER, bne_self_eq_false, beq_self_eq_true, decide_true, DVat.c, cxa1a, cxa1b, cxa1c, cxa2a, cxa2b, cxa2c, cxa3a, cxa3b, cxa3c, cxa4a, cxa4b, cxa4c, cxla, cxlb, cxlc, CD.av_b, cga, cgb, cgc]
  have yk : decide (1 + DVat.cntA (a) + cntL DGift.cnt (l) < 0) = false := decide_eq_false (by omega)
  simp only [EV, EL, EB, EF, q_bx, if_true, if_false, Bool.false_eq_true, Nat.reduceAdd, Option.bind_some, Bool.not_true, Bool.not_false, Nat.reduceBEq, laws_FnExactDepositGift_r, laws_FnExactDepositGift_d0_q, EB2, ER, bne_self_eq_false, beq_self_eq_true, decide_true, DVat.c, cxa1a, cxa1b, cxa1c, cxa2a, cxa2b, cxa2c, cxa3a, cxa3b, cxa3c, cxa4a, cxa4b, cxa4c, cxla, cxlb, cxlc, CD.av_b, cga, cgb, cgc, yk]
  refine TCall.see (by simp only [EO, DVat.c_noLp, cxa1d, cxa1c, cxa2d, cxa2c, cxa3d, cxa3c, cxa4d, cxa4c, cxld, cgd]) (snap_c (Own.see (DGift.c_eq true) o_g) (snap_c (.same _) snap_n)) (fun h => laws_eqGiftS_T true false ((depF a l gi po ta no).1) ((depF a l gi po ta no).1) (by omega) h) (.bool _) ?_
  simp only [EV, EL, EB, EF, q_bx, if_true, if_false, Bool.false_eq_true, Nat.reduceAdd, Option.bind_some, Bool.not_true, Bool.not_false, Nat.reduceBEq, laws_FnExactDepositGift_r, laws_FnExactDepositGift_d0_q, EB2, ER, bne_self_eq_false, beq_self_eq_true, decide_true, DVat.c, cxa1a, cxa1b, cxa1c, cxa2a, cxa2b, cxa2c, cxa3a, cxa3b, cxa3c, cxa4a, cxa4b, cxa4c, cxla, cxlb, cxlc, CD.av_b, cga, cgb, cgc, yk]
  have cl_g := cntL_len (c := DGift.cnt) (C := 4) (l := (depF a l gi po ta no).1) (fun y hy => DGift.cnt_le y)
  have cn_g := cntL_nn (c := DGift.cnt) DGift.cnt_nn ((depF a l gi po ta no).1)
  refine TCall.ref (by simp only [EO, DVat.c_noLp, cxa1d, cxa1c, cxa2d, cxa2c, cxa3d, cxa3c, cxa4d, cxa4c, cxld, cgd]) (laws_markGiftS_T ((depF a l gi po ta no).1) (1) (by omega) (by omega) (by omega) _ o_g n_g) ?_
  rintro _ H6 ⟨rfl, hl, hf, o_g⟩
  replace hl : H6.length = H5.length := hl
  replace hf : ∀ c, c ∉ f_g → H6[c]? = H5[c]? := hf
  replace o_xa := o_xa.frame fun c hc => hf c (d_xa_g c hc)
  replace o_xl := o_xl.frame fun c hc => hf c (d_xl_g c hc)
  replace xh := xh.mark hl hf g_g
  simp only [EV, EL, EB, EF, q_bx, if_true, if_false, Bool.false_eq_true, Nat.reduceAdd, Option.bind_some, Bool.not_true, Bool.not_false, Nat.reduceBEq, laws_FnExactDepositGift_r, laws_FnExactDepositGift_d0_q, EB2, ER, bne_self_eq_false, beq_self_eq_true, decide_true, DVat.c, cxa1a, cxa1b, cxa1c, cxa2a, cxa2b, cxa2c, cxa3a, cxa3b, cxa3c, cxa4a, cxa4b, cxa4c, cxla, cxlb, cxlc, CD.av_b, cga, cgb, cgc, yk]
  have ym : decide (1 + cntL DGift.cnt ((depF a l gi po ta no).1) < 0) = false := decide_eq_false (by omega)
  refine TCall.see (by simp only [EO, DVat.c_noLp, cxa1d, cxa1c, cxa2d, cxa2c, cxa3d, cxa3c, cxa4d, cxa4c, cxld, cgd]) (snap_c (Own.see (DGift.c_eq true) o_g) (snap_c (.same _) snap_n)) (fun h => laws_heldGiftS_T true ((depF a l gi po ta no).1) 1 (by omega) (by omega) (by omega) h) (.int _ _) ?_
  simp only [EV, EL, EB, EF, q_bx, if_true, if_false, Bool.false_eq_true, Nat.reduceAdd, Option.bind_some, Bool.not_true, Bool.not_false, Nat.reduceBEq, laws_FnExactDepositGift_r, laws_FnExactDepositGift_d0_q, EB2, ER, bne_self_eq_false, beq_self_eq_true, decide_true, DVat.c, cxa1a, cxa1b, cxa1c, cxa2a, cxa2b, cxa2c, cxa3a, cxa3b, cxa3c, cxa4a, cxa4b, cxa4c, cxla, cxlb, cxlc, CD.av_b, cga, cgb, cgc, yk, ym]
  refine TCall.val (by simp only [EO, DVat.c_noLp, cxa1d, cxa1c, cxa2d, cxa2c, cxa3d, cxa3c, cxa4d, cxa4c, cxld, cgd]) (laws_toVat_V false a oa _) ?_
  simp only [EV, EL, EB, EF, q_bx, if_true, if_false, Bool.false_eq_true, Nat.reduceAdd, Option.bind_some, Bool.not_true, Bool.not_false, Nat.reduceBEq, laws_FnExactDepositGift_r, laws_FnExactDepositGift_d0_q, EB2, ER, bne_self_eq_false, beq_self_eq_true, decide_true, DVat.c, cxa1a, cxa1b, cxa1c, cxa2a, cxa2b, cxa2c, cxa3a, cxa3b, cxa3c, cxa4a, cxa4b, cxa4c, cxla, cxlb, cxlc, CD.av_b, cga, cgb, cgc, yk, ym]
  refine TCall.val (by simp only [EO, DVat.c_noLp, cxa1d, cxa1c, cxa2d, cxa2c, cxa3d, cxa3c, cxa4d, cxa4c, cxld, cgd]) (laws_toGiftS_V false l ol _) ?_
  simp only [EV, EL, EB, EF, q_bx, if_true, if_false, Bool.false_eq_true, Nat.reduceAdd, Option.bind_some, Bool.not_true, Bool.not_false, Nat.reduceBEq, laws_FnExactDepositGift_r, laws_FnExactDepositGift_d0_q, EB2, ER, bne_self_eq_false, beq_self_eq_true, decide_true, DVat.c, cxa1a, cxa1b, cxa1c, cxa2a, cxa2b, cxa2c, cxa3a, cxa3b, cxa3c, cxa4a, cxa4b, cxa4c, cxla, cxlb, cxlc, CD.av_b, cga, cgb, cgc, yk, ym]
  refine TCall.val (by simp only [EO, DVat.c_noLp, cxa1d, cxa1c, cxa2d, cxa2c, cxa3d, cxa3c, cxa4d, cxa4c, cxld, cgd]) (impl_DepositGift_V a oa l ol gi po ta no _) ?_
  simp only [EV, EL, EB, EF, q_bx, if_true, if_false, Bool.false_eq_true, Nat.reduceAdd, Option.bind_some, Bool.not_true, Bool.not_false, Nat.reduceBEq, laws_FnExactDepositGift_r, laws_FnExactDepositGift_d0_q, EB2, ER, bne_self_eq_false, beq_self_eq_true, decide_true, DVat.c, cxa1a, cxa1b, cxa1c, cxa2a, cxa2b, cxa2c, cxa3a, cxa3b, cxa3c, cxa4a, cxa4b, cxa4c, cxla, cxlb, cxlc, CD.av_b, cga, cgb, cgc, yk, ym]
  refine TCall.val (by simp only [EO, DVat.c_noLp, cxa1d, cxa1c, cxa2d, cxa2c, cxa3d, cxa3c, cxa4d, cxa4c, cxld, cgd]) (laws_eqGiftS_T false false ((depF a l gi po ta no).1) ((depF a l gi po ta no).1) (by omega) _) ?_
  simp only [EV, EL, EB, EF, q_bx, if_true, if_false, Bool.false_eq_true, Nat.reduceAdd, Option.bind_some, Bool.not_true, Bool.not_false, Nat.reduceBEq, laws_FnExactDepositGift_r, laws_FnExactDepositGift_d0_q, EB2, ER, bne_self_eq_false, beq_self_eq_true, decide_true, DVat.c, cxa1a, cxa1b, cxa1c, cxa2a, cxa2b, cxa2c, cxa3a, cxa3b, cxa3c, cxa4a, cxa4b, cxa4c, cxla, cxlb, cxlc, CD.av_b, cga, cgb, cgc, yk, ym]
  refine TCall.see (by simp only [EO, DVat.c_noLp, cxa1d, cxa1c, cxa2d, cxa2c, cxa3d, cxa3c, cxa4d, cxa4c, cxld, cgd]) (snap_c (Own.see (DGift.c_eq true) o_g) (snap_c (.same _) snap_n)) (fun h => laws_heldGiftS_T true ((depF a l gi po ta no).1) 1 (by omega) (by omega) (by omega) h) (.int _ _) ?_
  simp only [EV, EL, EB, EF, q_bx, if_true, if_false, Bool.false_eq_true, Nat.reduceAdd, Option.bind_some, Bool.not_true, Bool.not_false, Nat.reduceBEq, laws_FnExactDepositGift_r, laws_FnExactDepositGift_d0_q, EB2, ER, bne_self_eq_false, beq_self_eq_true, decide_true, DVat.c, cxa1a, cxa1b, cxa1c, cxa2a, cxa2b, cxa2c, cxa3a, cxa3b, cxa3c, cxa4a, cxa4b, cxa4c, cxla, cxlb, cxlc, CD.av_b, cga, cgb, cgc, yk, ym]
  first | exact ⟨rfl, xh.out⟩ | exact xh.out | exact ⟨rfl, rfl, xh.out⟩

end Go.Proofs.YtleddolmolkpfaaGreat
