import Derived.Test.YtjmcfdhklogpkaaR2NL
set_option linter.unusedVariables false
set_option linter.unusedSimpArgs false
namespace Go.Proofs.Ytjmcfdhklogpkaa
open Go.AM
set_option linter.unusedVariables false
set_option linter.unusedSimpArgs false
variable {Γ : Glob}
theorem spec_NewLoop_V (a : DVat) (oa : a.ok 1048576) (b : DVat) (ob : b.ok 1048576) (h : AH) : T Try.prog Γ Fn.spec_NewLoop [.agg (a.c false), .agg (b.c false)] h fun v h' => v = .vs false 7 false ((newLoopF a b).map (DSent.c false)) ∧ h' = h := by
  have := (spec_NewLoop_T (Γ := Γ) false a b oa ob h).frozen
  simpa only [List.map_cons, List.map_nil, resOf_1, resOf_2, rd_c, rd_a, CD.av_sl, CD.av_i, CD.av_b, CD.av_s, List.map_map, Function.comp_def, DSent.c_eq] using this
theorem impl_NewLoop_V (a : DVat) (oa : a.ok 1048576) (b : DVat) (ob : b.ok 1048576) (h : AH) : T Try.prog Γ Fn.impl_NewLoop [.agg (a.c false), .agg (b.c false)] h fun v h' => v = .vs false 7 false ((newLoopF a b).map (DSent.c false)) ∧ h' = h := by
  have := (impl_NewLoop_T (Γ := Γ) false a b oa ob h).frozen
  simpa only [List.map_cons, List.map_nil, resOf_1, resOf_2, rd_c, rd_a, CD.av_sl, CD.av_i, CD.av_b, CD.av_s, List.map_map, Function.comp_def, DSent.c_eq] using this
theorem law_NewLoop (a : DVat) (ha : a.ok maxLen) (b : DVat) (hb : b.ok maxLen) (h : AH) : T Try.prog Γ Fn.laws_FnExactNewLoop [.agg (a.c false), .agg (b.c false)] h fun v h' => v = .bool true ∧ h' = h := by
  refine (?_ : T Try.prog Γ Fn.laws_FnExactNewLoop _ h fun v h' => v = .bool true ∧ ∃ N, h' = h ++ N).drop (by rintro v h' ⟨rfl, N, rfl⟩; exact ⟨N, rfl, .bool _, rfl, rfl⟩)
  refine laws_FnExactNewLoop_e (aw_sound tabOK mixed [] _ _ _ ?_)
  unfold laws_FnExactNewLoop_c
  simp only [EV, EL, EB, EF, q_bx, if_true, if_false, Bool.false_eq_true, Nat.reduceAdd, Option.bind_some, Bool.not_true, Bool.not_false, Nat.reduceBEq, laws_FnExactNewLoop_r, laws_FnExactNewLoop_d0_q, laws_FnExactNewLoop_d1_q, laws_FnExactNewLoop_d2_q, laws_FnExactNewLoop_d3_q, EB2, ER, bne_self_eq_false, beq_self_eq_true, decide_true, DVat.c]
  refine TCall.val (by simp only [EO, DVat.c_noLp]) (laws_szVat_T false a ha 1048576 (by omega) (by omega) _) ?_
  simp only [EV, EL, EB, EF, q_bx, if_true, if_false, Bool.false_eq_true, Nat.reduceAdd, Option.bind_some, Bool.not_true, Bool.not_false, Nat.reduceBEq, laws_FnExactNewLoop_r, laws_FnExactNewLoop_d0_q, laws_FnExactNewLoop_d1_q, laws_FnExactNewLoop_d2_q, laws_FnExactNewLoop_d3_q, EB2, ER, bne_self_eq_false, beq_self_eq_true, decide_true, DVat.c]
  by_cases na : (a.szf 1048576) < 0
  · simp only [EV, EL, EB, EF, q_bx, if_true, if_false, Bool.false_eq_true, Nat.reduceAdd, Option.bind_some, Bool.not_true, Bool.not_false, Nat.reduceBEq, laws_FnExactNewLoop_r, laws_FnExactNewLoop_d0_q, laws_FnExactNewLoop_d1_q, laws_FnExactNewLoop_d2_q, laws_FnExactNewLoop_d3_q, EB2, ER, bne_self_eq_false, beq_self_eq_true, decide_true, DVat.c, decide_eq_true na]
    first | exact ⟨rfl, rfl, [], by simp⟩ | exact ⟨rfl, [], by simp⟩ | exact ⟨[], by simp⟩
  have qa := DVat.szf_ok a 1048576 (by omega) (by omega) (Int.not_lt.1 na)
  simp only [EV, EL, EB, EF, q_bx, if_true, if_false, Bool.false_eq_true, Nat.reduceAdd, Option.bind_some, Bool.not_true, Bool.not_false, Nat.reduceBEq, laws_FnExactNewLoop_r, laws_FnExactNewLoop_d0_q, laws_FnExactNewLoop_d1_q, laws_FnExactNewLoop_d2_q, laws_FnExactNewLoop_d3_q, EB2, ER, bne_self_eq_false, beq_self_eq_true, decide_true, DVat.c, decide_eq_false na]
  have oa := qa.1
  refine TCall.val (by simp only [EO, DVat.c_noLp]) (laws_szVat_T false b hb (a.szf 1048576) (by omega) (by omega) _) ?_
  simp only [EV, EL, EB, EF, q_bx, if_true, if_false, Bool.false_eq_true, Nat.reduceAdd, Option.bind_some, Bool.not_true, Bool.not_false, Nat.reduceBEq, laws_FnExactNewLoop_r, laws_FnExactNewLoop_d0_q, laws_FnExactNewLoop_d1_q, laws_FnExactNewLoop_d2_q, laws_FnExactNewLoop_d3_q, EB2, ER, bne_self_eq_false, beq_self_eq_true, decide_true, DVat.c]
  by_cases nb : (b.szf (a.szf 1048576)) < 0
  · simp only [EV, EL, EB, EF, q_bx, if_true, if_false, Bool.false_eq_true, Nat.reduceAdd, Option.bind_some, Bool.not_true, Bool.not_false, Nat.reduceBEq, laws_FnExactNewLoop_r, laws_FnExactNewLoop_d0_q, laws_FnExactNewLoop_d1_q, laws_FnExactNewLoop_d2_q, laws_FnExactNewLoop_d3_q, EB2, ER, bne_self_eq_false, beq_self_eq_true, decide_true, DVat.c, decide_eq_true nb]
    first | exact ⟨rfl, rfl, [], by simp⟩ | exact ⟨rfl, [], by simp⟩ | exact ⟨[], by simp⟩
  have qb := DVat.szf_ok b (a.szf 1048576) (by omega) (by omega) (Int.not_lt.1 nb)
  simp only [EV, EL, EB, EF, q_bx, if_true, if_false, Bool.false_eq_true, Nat.reduceAdd, Option.bind_some, Bool.not_true, Bool.not_false, Nat.reduceBEq, laws_FnExactNewLoop_r, laws_FnExactNewLoop_d0_q, laws_FnExactNewLoop_d1_q, laws_FnExactNewLoop_d2_q, laws_FnExactNewLoop_d3_q, EB2, ER, bne_self_eq_false, beq_self_eq_true, decide_true, DVat.c, decide_eq_false nb]
  have ob := qb.1
  refine TCall.val (by simp only [EO, DVat.c_noLp]) (laws_toVat_V false a oa _) ?_
  simp only [EV, EL, EB, EF, q_bx, if_true, if_false, Bool.false_eq_true, Nat.reduceAdd, Option.bind_some, Bool.not_true, Bool.not_false, Nat.reduceBEq, laws_FnExactNewLoop_r, laws_FnExactNewLoop_d0_q, laws_FnExactNewLoop_d1_q, laws_FnExactNewLoop_d2_q, laws_FnExactNewLoop_d3_q, EB2, ER, bne_self_eq_false, beq_self_eq_true, decide_true, DVat.c]
  refine TCall.val (by simp only [EO, DVat.c_noLp]) (laws_toVat_V false b ob _) ?_
  simp only [EV, EL, EB, EF, q_bx, if_true, if_false, Bool.false_eq_true, Nat.reduceAdd, Option.bind_some, Bool.not_true, Bool.not_false, Nat.reduceBEq, laws_FnExactNewLoop_r, laws_FnExactNewLoop_d0_q, laws_FnExactNewLoop_d1_q, laws_FnExactNewLoop_d2_q, laws_FnExactNewLoop_d3_q, EB2, ER, bne_self_eq_false, beq_self_eq_true, decide_true, DVat.c]
  refine TCall.val (by simp only [EO, DVat.c_noLp]) (spec_NewLoop_V a oa b ob _) ?_
  simp only [EV, EL, EB, EF, q_bx, if_true, if_false, Bool.false_eq_true, Nat.reduceAdd, Option.bind_some, Bool.not_true, Bool.not_false, Nat.reduceBEq, laws_FnExactNewLoop_r, laws_FnExactNewLoop_d0_q, laws_FnExactNewLoop_d1_q, laws_FnExactNewLoop_d2_q, laws_FnExactNewLoop_d3_q, EB2, ER, bne_self_eq_false, beq_self_eq_true, decide_true, DVat.c]
  have rl := newLoop_len a b
  have rl2 : b.loop.length ≤ 1048576 := ob.2.2.1
  have rok : ∀ y ∈ newLoopF a b, y.ok 1048576 := fun y hy => ob.2.2.2.1 y (newLoop_mem hy)
  have xh : HExt h h := HExt.refl h
  refine TCall.ref (by simp only [EO, DVat.c_noLp]) (laws_toVat_T false a oa _) ?_
  have xh0 := xh
  rintro _ H1 fr
  replace fr : Fresh h _ _ _ := fr
  obtain ⟨as_xa, f_xa, rfl, o_xa, n_xa, b_xa, e_xa⟩ := fr.a1
  have ooxa := o_xa
  simp only [DVat.cd, ownL_c, ownL_n, own_i, own_b, own_s] at ooxa
  obtain ⟨_, _, _, _, rfl, _, ⟨rfl, rfl⟩, ⟨axa1, _, _, _, rfl, _, uxa1, ⟨axa2, _, _, _, rfl, _, uxa2, ⟨axa3, _, _, _, rfl, _, uxa3, ⟨axa4, _, _, _, rfl, _, uxa4, ⟨rfl, _⟩⟩⟩⟩⟩⟩ := ooxa
  obtain ⟨cxa1a, cxa1b, cxa1c, cxa1d⟩ := uxa1.cell
  obtain ⟨cxa2a, cxa2b, cxa2c, cxa2d⟩ := uxa2.cell
  obtain ⟨cxa3a, cxa3b, cxa3c, cxa3d⟩ := uxa3.cell
  obtain ⟨cxa4a, cxa4b, cxa4c, cxa4d⟩ := uxa4.cell
  have xh := xh.trans e_xa
  have g_xa : ∀ c ∈ f_xa, h.length ≤ c := fun c hc => by have := b_xa c hc; have := xh0.len; omega
  simp only [EV, EL, EB, EF, q_bx, if_true, if_false, Bool.false_eq_true, Nat.reduceAdd, Option.bind_some, Bool.not_true, Bool.not_false, Nat.reduceBEq, laws_FnExactNewLoop_r, laws_FnExactNewLoop_d0_q, laws_FnExactNewLoop_d1_q, laws_FnExactNewLoop_d2_q, laws_FnExactNewLoop_d3_q, EB2, ER, bne_self_eq_false, beq_self_eq_true, decide_true, DVat.c, cxa1a, cxa1b, cxa1c, cxa2a, cxa2b, cxa2c, cxa3a, cxa3b, cxa3c, cxa4a, cxa4b, cxa4c]
  refine TCall.ref (by simp only [EO, DVat.c_noLp, cxa1d, cxa1c, cxa2d, cxa2c, cxa3d, cxa3c, cxa4d, cxa4c]) (laws_toVat_T false b ob _) ?_
  have xh0 := xh
  rintro _ H2 fr
  replace fr : Fresh H1 _ _ _ := fr
  obtain ⟨as_xb, f_xb, rfl, o_xb, n_xb, b_xb, e_xb⟩ := fr.a1
  have ooxb := o_xb
  simp only [DVat.cd, ownL_c, ownL_n, own_i, own_b, own_s] at ooxb
  obtain ⟨_, _, _, _, rfl, _, ⟨rfl, rfl⟩, ⟨axb1, _, _, _, rfl, _, uxb1, ⟨axb2, _, _, _, rfl, _, uxb2, ⟨axb3, _, _, _, rfl, _, uxb3, ⟨axb4, _, _, _, rfl, _, uxb4, ⟨rfl, _⟩⟩⟩⟩⟩⟩ := ooxb
  obtain ⟨cxb1a, cxb1b, cxb1c, cxb1d⟩ := uxb1.cell
  obtain ⟨cxb2a, cxb2b, cxb2c, cxb2d⟩ := uxb2.cell
  obtain ⟨cxb3a, cxb3b, cxb3c, cxb3d⟩ := uxb3.cell
  obtain ⟨cxb4a, cxb4b, cxb4c, cxb4d⟩ := uxb4.cell
  have xh := xh.trans e_xb
  have d_xa_xb : ∀ c, c ∈ f_xa → c ∉ f_xb := fun c h1 h2 => by have := o_xa.lt c h1; have := b_xb c h2; omega
  replace o_xa := o_xa.ext e_xb
  have g_xb : ∀ c ∈ f_xb, h.length ≤ c := fun c hc => by have := b_xb c hc; have := xh0.len; omega
  simp only [EV, EL, EB, EF, q_bx, if_true, if_false, Bool.false_eq_true, Nat.reduceAdd, Option.bind_some, Bool.not_true, Bool.not_false, Nat.reduceBEq, laws_FnExactNewLoop_r, laws_FnExactNewLoop_d0_q, laws_FnExactNewLoop_d1_q, laws_FnExactNewLoop_d2_q, laws_FnExactNewLoop_d3_q, EB2, ER, bne_self_eq_false, beq_self_eq_true, decide_true, DVat.c, cxa1a, cxa1b, cxa1c, cxa2a, cxa2b, cxa2c, cxa3a, cxa3b, cxa3c, cxa4a, cxa4b, cxa4c, cxb1a, cxb1b, cxb1c, cxb2a, cxb2b, cxb2c, cxb3a, cxb3b, cxb3c, cxb4a, cxb4b, cxb4c]
  refine TCall.own (by simp only [EO, DVat.c_noLp, cxa1d, cxa1c, cxa2d, cxa2c, cxa3d, cxa3c, cxa4d, cxa4c, cxb1d, cxb1c, cxb2d, cxb2c, cxb3d, cxb3c, cxb4d, cxb4c]) (snap_c (OwnL.see (DVat.c_eq true _) o_xa) (snap_c (OwnL.see (DVat.c_eq true _) o_xb) snap_n)) (impl_NewLoop_T true a b oa ob) ?_
  have xh0 := xh
  rintro _ H3 fr
  replace fr : Fresh H2 _ _ _ := fr
  obtain ⟨f_g, o_g, n_g, b_g, e_g⟩ := fr.c1
  have xh := xh.trans e_g
  have d_xa_g : ∀ c, c ∈ f_xa → c ∉ f_g := fun c h1 h2 => by have := o_xa.lt c h1; have := b_g c h2; omega
  have d_xb_g : ∀ c, c ∈ f_xb → c ∉ f_g := fun c h1 h2 => by have := o_xb.lt c h1; have := b_g c h2; omega
  replace o_xa := o_xa.ext e_g
  replace o_xb := o_xb.ext e_g
  have g_g : ∀ c ∈ f_g, h.length ≤ c := fun c hc => by have := b_g c hc; have := xh0.len; omega
  obtain ⟨cga, cgb, cgc, cgd⟩ := o_g.cell
  simp only [EV, EL, EB, EF, q_bx, if_true, if_false, Bool.false_eq_true, Nat.reduceAdd, Option.bind_some, Bool.not_true, Bool.not_false, Nat.reduceBEq, laws_FnExactNewLoop_r, laws_FnExactNewLoop_d0_q, laws_FnExactNewLoop_d1_q, laws_FnExactNewLoop_d2_q, laws_FnExactNewLoop_d3_q, EB2, ER, bne_self_eq_false, beq_self_eq_true, decide_true, DVat.c, cxa1a, cxa1b, cxa1c, cxa2a, cxa2b, cxa2c, cxa3a, cxa3b, cxa3c, cxa4a, cxa4b, cxa4c, cxb1a, cxb1b, cxb1c, cxb2a, cxb2b, cxb2c, cxb3a, cxb3b, cxb3c, cxb4a, cxb4b, cxb4c, cga, cgb, cgc]
  refine TCall.see (by simp only [EO, DVat.c_noLp, cxa1d, cxa1c, cxa2d, cxa2c, cxa3d, cxa3c, cxa4d, cxa4c, cxb1d, cxb1c, cxb2d, cxb2c, cxb3d, cxb3c, cxb4d, cxb4c, cgd]) (snap_c (Own.see (DSent.c_eq true) o_g) (snap_c (.same _) snap_n)) (fun h => laws_eqSentS_T true false (newLoopF a b) (newLoopF a b) (by omega) (fun y hy => (rok y hy).mono (by omega)) h) (.bool _) ?_
  simp only [EV, EL, EB, EF, q_bx, if_true, if_false, Bool.false_eq_true, Nat.reduceAdd, Option.bind_some, Bool.not_true, Bool.not_false, Nat.reduceBEq, laws_FnExactNewLoop_r, laws_FnExactNewLoop_d0_q, laws_FnExactNewLoop_d1_q, laws_FnExactNewLoop_d2_q, laws_FnExactNewLoop_d3_q, EB2, ER, bne_self_eq_false, beq_self_eq_true, decide_true, DVat.c, cxa1a, cxa1b, cxa1c, cxa2a, cxa2b, cxa2c, cxa3a, cxa3b, cxa3c, cxa4a, cxa4b, cxa4c, cxb1a, cxb1b, cxb1c, cxb2a, cxb2b, cxb2c, cxb3a, cxb3b, cxb3c, cxb4a, cxb4b, cxb4c, cga, cgb, cgc]
  refine TCall.val (by simp only [EO, DVat.c_noLp, cxa1d, cxa1c, cxa2d, cxa2c, cxa3d, cxa3c, cxa4d, cxa4c, cxb1d, cxb1c, cxb2d, cxb2c, cxb3d, cxb3c, cxb4d, cxb4c, cgd]) (laws_toVat_V false a oa _) ?_
  simp only [EV, EL, EB, EF, q_bx, if_true, if_false, Bool.false_eq_true, Nat.reduceAdd, Option.bind_some, Bool.not_true, Bool.not_false, Nat.reduceBEq, laws_FnExactNewLoop_r, laws_FnExactNewLoop_d0_q, laws_FnExactNewLoop_d1_q, laws_FnExactNewLoop_d2_q, laws_FnExactNewLoop_d3_q, EB2, ER, bne_self_eq_false, beq_self_eq_true, decide_true, DVat.c, cxa1a, cxa1b, cxa1c, cxa2a, cxa2b, cxa2c, cxa3a, cxa3b, cxa3c, cxa4a, cxa4b, cxa4c, cxb1a, cxb1b, cxb1c, cxb2a, cxb2b, cxb2c, cxb3a, cxb3b, cxb3c, cxb4a, cxb4b, cxb4c, cga, cgb, cgc]
  refine TCall.see (by simp only [EO, DVat.c_noLp, cxa1d, cxa1c, cxa2d, cxa2c, cxa3d, cxa3c, cxa4d, cxa4c, cxb1d, cxb1c, cxb2d, cxb2c, cxb3d, cxb3c, cxb4d, cxb4c, cgd]) (snap_c (OwnL.see (DVat.c_eq true _) o_xa) (snap_c (.same _) snap_n)) (fun h => laws_eqVat_T true false (a) (a) (oa.mono (by omega)) h) (.bool _) ?_
  simp only [EV, EL, EB, EF, q_bx, if_true, if_false, Bool.false_eq_true, Nat.reduceAdd, Option.bind_some, Bool.not_true, Bool.not_false, Nat.reduceBEq, laws_FnExactNewLoop_r, laws_FnExactNewLoop_d0_q, laws_FnExactNewLoop_d1_q, laws_FnExactNewLoop_d2_q, laws_FnExactNewLoop_d3_q, EB2, ER, bne_self_eq_false, beq_self_eq_true, decide_true, DVat.c, cxa1a, cxa1b, cxa1c, cxa2a, cxa2b, cxa2c, cxa3a, cxa3b, cxa3c, cxa4a, cxa4b, cxa4c, cxb1a, cxb1b, cxb1c, cxb2a, cxb2b, cxb2c, cxb3a, cxb3b, cxb3c, cxb4a, cxb4b, cxb4c, cga, cgb, cgc]
  refine TCall.val (by simp only [EO, DVat.c_noLp, cxa1d, cxa1c, cxa2d, cxa2c, cxa3d, cxa3c, cxa4d, cxa4c, cxb1d, cxb1c, cxb2d, cxb2c, cxb3d, cxb3c, cxb4d, cxb4c, cgd]) (laws_toVat_V false b ob _) ?_
  simp only [EV, EL, EB, EF, q_bx, if_true, if_false, Bool.false_eq_true, Nat.reduceAdd, Option.bind_some, Bool.not_true, Bool.not_false, Nat.reduceBEq, laws_FnExactNewLoop_r, laws_FnExactNewLoop_d0_q, laws_FnExactNewLoop_d1_q, laws_FnExactNewLoop_d2_q, laws_FnExactNewLoop_d3_q, EB2, ER, bne_self_eq_false, beq_self_eq_true, decide_true, DVat.c, cxa1a, cxa1b, cxa1c, cxa2a, cxa2b, cxa2c, cxa3a, cxa3b, cxa3c, cxa4a, cxa4b, cxa4c, cxb1a, cxb1b, cxb1c, cxb2a, cxb2b, cxb2c, cxb3a, cxb3b, cxb3c, cxb4a, cxb4b, cxb4c, cga, cgb, cgc]
  refine TCall.see (by simp only [EO, DVat.c_noLp, cxa1d, cxa1c, cxa2d, cxa2c, cxa3d, cxa3c, cxa4d, cxa4c, cxb1d, cxb1c, cxb2d, cxb2c, cxb3d, cxb3c, cxb4d, cxb4c, cgd]) (snap_c (OwnL.see (DVat.c_eq true _) o_xb) (snap_c (.same _) snap_n)) (fun h => laws_eqVat_T true false (b) (b) (ob.mono (by omega)) h) (.bool _) ?_
  simp only [EV, EL, EB, EF, q_bx, if_true, if_false, Bool.false_eq_true, Nat.reduceAdd, Option.bind_some, Bool.not_true, Bool.not_false, Nat.reduceBEq, laws_FnExactNewLoop_r, laws_FnExactNewLoop_d0_q, laws_FnExactNewLoop_d1_q, laws_FnExactNewLoop_d2_q, laws_FnExactNewLoop_d3_q, EB2, ER, bne_self_eq_false, beq_self_eq_true, decide_true, DVat.c, cxa1a, cxa1b, cxa1c, cxa2a, cxa2b, cxa2c, cxa3a, cxa3b, cxa3c, cxa4a, cxa4b, cxa4c, cxb1a, cxb1b, cxb1c, cxb2a, cxb2b, cxb2c, cxb3a, cxb3b, cxb3c, cxb4a, cxb4b, cxb4c, cga, cgb, cgc]
  have cl_xa := DVat.cntA_le (a) oa
  have cn_xa := DVat.cntA_nn (a)
  have cl_xb := DVat.cntA_le (b) ob
  have cn_xb := DVat.cntA_nn (b)
  refine TCall.ref (by simp only [EO, DVat.c_noLp, cxa1d, cxa1c, cxa2d, cxa2c, cxa3d, cxa3c, cxa4d, cxa4c, cxb1d, cxb1c, cxb2d, cxb2c, cxb3d, cxb3c, cxb4d, cxb4c, cgd]) (laws_markVat_T (a) (1) (by omega) (by omega) (oa.mono (by omega)) _ o_xa n_xa) ?_
  rintro _ H4 ⟨rfl, hl, hf, o_xa⟩
  replace hl : H4.length = H3.length := hl
  replace hf : ∀ c, c ∉ f_xa → H4[c]? = H3[c]? := hf
  replace o_xb := o_xb.frame fun c hc => hf c (fun h2 => d_xa_xb c h2 hc)
  replace o_g := o_g.frame fun c hc => hf c (fun h2 => d_xa_g c h2 hc)
  replace xh := xh.mark hl hf g_xa
  simp only [EV, EL, EB, EF, q_bx, if_true, if_false, Bool.false_eq_true, Nat.reduceAdd, Option.bind_some, Bool.not_true, Bool.not_false, Nat.reduceBEq, laws_FnExactNewLoop_r, laws_FnExactNewLoop_d0_q, laws_FnExactNewLoop_d1_q, laws_FnExactNewLoop_d2_q, laws_FnExactNewLoop_d3_q, EB2, ER, bne_self_eq_false, beq_self_eq_true, decide_true, DVat.c, cxa1a, cxa1b, cxa1c, cxa2a, cxa2b, cxa2c, cxa3a, cxa3b, cxa3c, cxa4a, cxa4b, cxa4c, cxb1a, cxb1b, cxb1c, cxb2a, cxb2b, cxb2c, cxb3a, cxb3b, cxb3c, cxb4a, cxb4b, cxb4c, cga, cgb, cgc]
  refine TCall.ref (by simp only [EO, DVat.c_noLp, cxa1d, cxa1c, cxa2d, cxa2c, cxa3d, cxa3c, cxa4d, cxa4c, cxb1d, cxb1c, cxb2d, cxb2c, cxb3d, cxb3c, cxb4d, cxb4c, cgd]) (laws_markVat_T (b) (1 + DVat.cntA (a)) (by omega) (by omega) (ob.mono (by omega)) _ o_xb n_xb) ?_
  rintro _ H5 ⟨rfl, hl, hf, o_xb⟩
  replace hl : H5.length = H4.length := hl
  replace hf : ∀ c, c ∉ f_xb → H5[c]? = H4[c]? := hf
  replace o_xa := o_xa.frame fun c hc => hf c (d_xa_xb c hc)
  replace o_g := o_g.frame fun c hc => hf c (fun h2 => d_xb_g c h2 hc)
  replace xh := xh.mark hl hf g_xb
  simp only [EV, EL, EB, EF, q_bx, if_true, if_false, Bool.false_eq_true, Nat.reduceAdd, Option.bind_some, Bool.not_true, Bool.not_false, Nat.reduceBEq, laws_FnExactNewLoop_r, laws_FnExactNewLoop_d0_q, laws_FnExactNewLoop_d1_q, laws_FnExactNewLoop_d2_q, laws_FnExactNewLoop_d3_q, EB2, ER, bne_self_eq_false, beq_self_eq_true, decide_true, DVat.c, cxa1a, cxa1b, cxa1c, cxa2a, cxa2b, cxa2c, cxa3a, cxa3b, cxa3c, cxa4a, cxa4b, cxa4c, cxb1a, cxb1b, cxb1c, cxb2a, cxb2b, cxb2c, cxb3a, cxb3b, cxb3c, cxb4a, cxb4b, cxb4c, cga, cgb, cgc]
  have yk : decide (1 + DVat.cntA (a) + DVat.cntA (b) < 0) = false := decide_eq_false (by omega)
  simp only [EV, EL, EB, EF, q_bx, if_true, if_false, Bool.false_eq_true, Nat.reduceAdd, Option.bind_some, Bool.not_true, Bool.not_false, Nat.reduceBEq, laws_FnExactNewLoop_r, laws_FnExactNewLoop_d0_q, laws_FnExactNewLoop_d1_q, laws_FnExactNewLoop_d2_q, laws_FnExactNewLoop_d3_q, EB2, ER, bne_self_eq_false, beq_self_eq_true, decide_true, DVat.c, cxa1a, cxa1b, cxa1c, cxa2a, cxa2b, cxa2c, cxa3a, cxa3b, cxa3c, cxa4a, cxa4b, cxa4c, cxb1a, cxb1b, cxb1c, cxb2a, cxb2b, cxb2c, cxb3a, cxb3b, cxb3c, cxb4a, cxb4b, cxb4c, cga, cgb, cgc, yk]
  refine TCall.see (by simp only [EO, DVat.c_noLp, cxa1d, cxa1c, cxa2d, cxa2c, cxa3d, cxa3c, cxa4d, cxa4c, cxb1d, cxb1c, cxb2d, cxb2c, cxb3d, cxb3c, cxb4d, cxb4c, cgd]) (snap_c (Own.see (DSent.c_eq true) o_g) (snap_c (.same _) snap_n)) (fun h => laws_eqSentS_T true false (newLoopF a b) (newLoopF a b) (by omega) (fun y hy => (rok y hy).mono (by omega)) h) (.bool _) ?_
  simp only [EV, EL, EB, EF, q_bx, if_true, if_false, Bool.false_eq_true, Nat.reduceAdd, Option.bind_some, Bool.not_true, Bool.not_false, Nat.reduceBEq, laws_FnExactNewLoop_r, laws_FnExactNewLoop_d0_q, laws_FnExactNewLoop_d1_q, laws_FnExactNewLoop_d2_q, laws_FnExactNewLoop_d3_q, EB2, ER, bne_self_eq_false, beq_self_eq_true, decide_true, DVat.c, cxa1a, cxa1b, cxa1c, cxa2a, cxa2b, cxa2c, cxa3a, cxa3b, cxa3c, cxa4a, cxa4b, cxa4c, cxb1a, cxb1b, cxb1c, cxb2a, cxb2b, cxb2c, cxb3a, cxb3b, cxb3c, cxb4a, cxb4b, cxb4c, cga, cgb, cgc, yk]
  have cl_g := cntL_len (c := DSent.cnt) (C := 2097158) (l := newLoopF a b) (fun y hy => DSent.cnt_le y ((fun y hy => rok y hy) y hy))
  have cn_g := cntL_nn (c := DSent.cnt) DSent.cnt_nn (newLoopF a b)
  refine TCall.ref (by simp only [EO, DVat.c_noLp, cxa1d, cxa1c, cxa2d, cxa2c, cxa3d, cxa3c, cxa4d, cxa4c, cxb1d, cxb1c, cxb2d, cxb2c, cxb3d, cxb3c, cxb4d, cxb4c, cgd]) (laws_markSentS_T (newLoopF a b) (1) (by omega) (by omega) (by omega) (fun y hy => (rok y hy).mono (by omega)) _ o_g n_g) ?_
  rintro _ H6 ⟨rfl, hl, hf, o_g⟩
  replace hl : H6.length = H5.length := hl
  replace hf : ∀ c, c ∉ f_g → H6[c]? = H5[c]? := hf
  replace o_xa := o_xa.frame fun c hc => hf c (d_xa_g c hc)
  replace o_xb := o_xb.frame fun c hc => hf c (d_xb_g c hc)
  replace xh := xh.mark hl hf g_g
  simp only [EV, EL, EB, EF, q_bx, if_true, if_false, Bool.false_eq_true, Nat.reduceAdd, Option.bind_some, Bool.not_true, Bool.not_false, Nat.reduceBEq, laws_FnExactNewLoop_r, laws_FnExactNewLoop_d0_q, laws_FnExactNewLoop_d1_q, laws_FnExactNewLoop_d2_q, laws_FnExactNewLoop_d3_q, EB2, ER, bne_self_eq_false, beq_self_eq_true, decide_true, DVat.c, cxa1a, cxa1b, cxa1c, cxa2a, cxa2b, cxa2c, cxa3a, cxa3b, cxa3c, cxa4a, cxa4b, cxa4c, cxb1a, cxb1b, cxb1c, cxb2a, cxb2b, cxb2c, cxb3a, cxb3b, cxb3c, cxb4a, cxb4b, cxb4c, cga, cgb, cgc, yk]
  have ym : decide (1 + cntL DSent.cnt (newLoopF a b) < 0) = false := decide_eq_false (by omega)
  refine TCall.see (by simp only [EO, DVat.c_noLp, cxa1d, cxa1c, cxa2d, cxa2c, cxa3d, cxa3c, cxa4d, cxa4c, cxb1d, cxb1c, cxb2d, cxb2c, cxb3d, cxb3c, cxb4d, cxb4c, cgd]) (snap_c (Own.see (DSent.c_eq true) o_g) (snap_c (.same _) snap_n)) (fun h => laws_heldSentS_T true (newLoopF a b) 1 (by omega) (by omega) (by omega) (fun y hy => (rok y hy).mono (by omega)) h) (.int _ _) ?_
  simp only [EV, EL, EB, EF, q_bx, if_true, if_false, Bool.false_eq_true, Nat.reduceAdd, Option.bind_some, Bool.not_true, Bool.not_false, Nat.reduceBEq, laws_FnExactNewLoop_r, laws_FnExactNewLoop_d0_q, laws_FnExactNewLoop_d1_q, laws_FnExactNewLoop_d2_q, laws_FnExactNewLoop_d3_q, EB2, ER, bne_self_eq_false, beq_self_eq_true, decide_true, DVat.c, cxa1a, cxa1b, cxa1c, cxa2a, cxa2b, cxa2c, cxa3a, cxa3b, cxa3c, cxa4a, cxa4b, cxa4c, cxb1a, cxb1b, cxb1c, cxb2a, cxb2b, cxb2c, cxb3a, cxb3b, cxb3c, cxb4a, cxb4b, cxb4c, cga, cgb, cgc, yk, ym]
  refine TCall.val (by simp only [EO, DVat.c_noLp, cxa1d, cxa1c, cxa2d, cxa2c, cxa3d, cxa3c, cxa4d, cxa4c, cxb1d, cxb1c, cxb2d, cxb2c, cxb3d, cxb3c, cxb4d, cxb4c, cgd]) (laws_toVat_V false a oa _) ?_
  simp only [EV, EL, EB, EF, q_bx, if_true, if_false, Bool.false_eq_true, Nat.reduceAdd, Option.bind_some, Bool.not_true, Bool.not_false, Nat.reduceBEq, laws_FnExactNewLoop_r, laws_FnExactNewLoop_d0_q, laws_FnExactNewLoop_d1_q, laws_FnExactNewLoop_d2_q, laws_FnExactNewLoop_d3_q, EB2, ER, bne_self_eq_false, beq_self_eq_true, decide_true, DVat.c, cxa1a, cxa1b, cxa1c, cxa2a, cxa2b, cxa2c, cxa3a, cxa3b, cxa3c, cxa4a, cxa4b, cxa4c, cxb1a, cxb1b, cxb1c, cxb2a, cxb2b, cxb2c, cxb3a, cxb3b, cxb3c, cxb4a, cxb4b, cxb4c, cga, cgb, cgc, yk, ym]
  refine TCall.val (by simp only [EO, DVat.c_noLp, cxa1d, cxa1c, cxa2d, cxa2c, cxa3d, cxa3c, cxa4d, cxa4c, cxb1d, cxb1c, cxb2d, cxb2c, cxb3d, cxb3c, cxb4d, cxb4c, cgd]) (laws_toVat_V false b ob _) ?_
  simp only [EV, EL, EB, EF, q_bx, if_true, if_false, Bool.false_eq_true, Nat.reduceAdd, Option.bind_some, Bool.not_true, Bool.not_false, Nat.reduceBEq, laws_FnExactNewLoop_r, laws_FnExactNewLoop_d0_q, laws_FnExactNewLoop_d1_q, laws_FnExactNewLoop_d2_q, laws_FnExactNewLoop_d3_q, EB2, ER, bne_self_eq_false, beq_self_eq_true, decide_true, DVat.c, cxa1a, cxa1b, cxa1c, cxa2a, cxa2b, cxa2c, cxa3a, cxa3b, cxa3c, cxa4a, cxa4b, cxa4c, cxb1a, cxb1b, cxb1c, cxb2a, cxb2b, cxb2c, cxb3a, cxb3b, cxb3c, cxb4a, cxb4b, cxb4c, cga, cgb, cgc, yk, ym]
  refine TCall.val (by simp only [EO, DVat.c_noLp, cxa1d, cxa1c, cxa2d, cxa2c, cxa3d, cxa3c, cxa4d, cxa4c, cxb1d, cxb1c, cxb2d, cxb2c, cxb3d, cxb3c, cxb4d, cxb4c, cgd]) (impl_NewLoop_V a oa b ob _) ?_
  simp only [EV, EL, EB, EF, q_bx, if_true, if_false, Bool.false_eq_true, Nat.reduceAdd, Option.bind_some, Bool.not_true, Bool.not_false, Nat.reduceBEq, laws_FnExactNewLoop_r, laws_FnExactNewLoop_d0_q, laws_FnExactNewLoop_d1_q, laws_FnExactNewLoop_d2_q, laws_FnExactNewLoop_d3_q, EB2, ER, bne_self_eq_false, beq_self_eq_true, decide_true, DVat.c, cxa1a, cxa1b, cxa1c, cxa2a, cxa2b, cxa2c, cxa3a, cxa3b, cxa3c, cxa4a, cxa4b, cxa4c, cxb1a, cxb1b, cxb1c, cxb2a, cxb2b, cxb2c, cxb3a, cxb3b, cxb3c, cxb4a, cxb4b, cxb4c, cga, cgb, cgc, yk, ym]
  refine TCall.val (by simp only [EO, DVat.c_noLp, cxa1d, cxa1c, cxa2d, cxa2c, cxa3d, cxa3c, cxa4d, cxa4c, cxb1d, cxb1c, cxb2d, cxb2c, cxb3d, cxb3c, cxb4d, cxb4c, cgd]) (laws_eqSentS_T false false (newLoopF a b) (newLoopF a b) (by omega) (fun y hy => (rok y hy).mono (by omega)) _) ?_
  simp only [EV, EL, EB, EF, q_bx, if_true, if_false, Bool.false_eq_true, Nat.reduceAdd, Option.bind_some, Bool.not_true, Bool.not_false, Nat.reduceBEq, laws_FnExactNewLoop_r, laws_FnExactNewLoop_d0_q, laws_FnExactNewLoop_d1_q, laws_FnExactNewLoop_d2_q, laws_FnExactNewLoop_d3_q, EB2, ER, bne_self_eq_false, beq_self_eq_true, decide_true, DVat.c, cxa1a, cxa1b, cxa1c, cxa2a, cxa2b, cxa2c, cxa3a, cxa3b, cxa3c, cxa4a, cxa4b, cxa4c, cxb1a, cxb1b, cxb1c, cxb2a, cxb2b, cxb2c, cxb3a, cxb3b, cxb3c, cxb4a, cxb4b, cxb4c, cga, cgb, cgc, yk, ym]
  refine TCall.see (by simp only [EO, DVat.c_noLp, cxa1d, cxa1c, cxa2d, cxa2c, cxa3d, cxa3c, cxa4d, cxa4c, cxb1d, cxb1c, cxb2d, cxb2c, cxb3d, cxb3c, cxb4d, cxb4c, cgd]) (snap_c (Own.see (DSent.c_eq true) o_g) (snap_c (.same _) snap_n)) (fun h => laws_heldSentS_T true (newLoopF a b) 1 (by omega) (by omega) (by omega) (fun y hy => (rok y hy).mono (by omega)) h) (.int _ _) ?_
  simp only [EV, EL, EB, EF, q_bx, if_true, if_false, Bool.false_eq_true, Nat.reduceAdd, Option.bind_some, Bool.not_true, Bool.not_false, Nat.reduceBEq, laws_FnExactNewLoop_r, laws_FnExactNewLoop_d0_q, laws_FnExactNewLoop_d1_q, laws_FnExactNewLoop_d2_q, laws_FnExactNewLoop_d3_q, EB2, ER, bne_self_eq_false, beq_self_eq_true, decide_true, DVat.c, cxa1a, cxa1b, cxa1c, cxa2a, cxa2b, cxa2c, cxa3a, cxa3b, cxa3c, cxa4a, cxa4b, cxa4c, cxb1a, cxb1b, cxb1c, cxb2a, cxb2b, cxb2c, cxb3a, cxb3b, cxb3c, cxb4a, cxb4b, cxb4c, cga, cgb, cgc, yk, ym]
  first | exact ⟨rfl, xh.out⟩ | exact xh.out | exact ⟨rfl, rfl, xh.out⟩

end Go.Proofs.Ytjmcfdhklogpkaa
