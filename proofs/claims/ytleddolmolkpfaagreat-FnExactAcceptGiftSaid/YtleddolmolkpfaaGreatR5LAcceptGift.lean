import Derived.Test.YtleddolmolkpfaaGreatAmBox4
import Derived.Test.YtleddolmolkpfaaGreatR5M
import Derived.Test.YtleddolmolkpfaaGreatR5AC
set_option linter.unusedVariables false
set_option linter.unusedSimpArgs false
namespace Go.Proofs.YtleddolmolkpfaaGreat
open Go.AM
set_option linter.unusedVariables false
set_option linter.unusedSimpArgs false
variable {Γ : Glob}
theorem accF_len (v : DVat) (l : List DGift) (ta gi no : Int) : (accF v l ta gi no).2.1.length ≤ l.length := by
  unfold accF
  split
  · split <;> exact claimF_len _ _ _ _
  · exact Nat.le_refl _
theorem putE_len (l : DLink) (e : Int) : (putE l e).1.exports.length ≤ l.exports.length + 1 ∧ (putE l e).1.questions = l.questions ∧ (putE l e).1.answers = l.answers := by
  unfold putE; split <;> simp
theorem accF_ok (v : DVat) (hv : v.ok 1048576) (l : List DGift) (hl : l.length ≤ 1048576) (ta gi no : Int) : (accF v l ta gi no).1.ok 1048577 := by
  have hv' := hv.mono (M := 1048577) (by omega)
  unfold accF
  split
  · rename_i hu
    split
    · obtain ⟨k, hk, ek, _⟩ := up_idx hu
      have hlk := hv.2.2.2.2.2.1 _ (List.getElem_mem hk)
      refine ⟨hv'.1, hv'.2.1, hv'.2.2.1, hv'.2.2.2.1, by simpa using hv'.2.2.2.2.1, fun y hy => ?_, hv'.2.2.2.2.2.2.1, hv'.2.2.2.2.2.2.2⟩
      rcases List.mem_or_eq_of_mem_set hy with g | g
      · exact hv'.2.2.2.2.2.1 y g
      · subst g
        rw [ek]
        simp only [Int.toNat_natCast, List.getD_eq_getElem?_getD, List.getElem?_eq_getElem hk, Option.getD_some]
        obtain ⟨q1, q2, q3⟩ := putE_len v.links[k] (claimF l ta gi no).2.1
        obtain ⟨p1, p2, p3⟩ := hlk
        exact ⟨by omega, by rw [q2]; omega, by rw [q3]; omega⟩
    · exact hv'
  · exact hv'
theorem accF_parts (v : DVat) (l : List DGift) (ta gi no : Int) : (accF v l ta gi no).1.entities = v.entities ∧ (accF v l ta gi no).1.loop = v.loop ∧ (accF v l ta gi no).1.out = v.out ∧ (accF v l ta gi no).1.links.length = v.links.length := by
  unfold accF; split
  · split <;> simp
  · simp
theorem link_cnt (x : DLink) (h : x.ok 1048577) : x.cnt ≤ 7340100 := by
  have b0 := cntL_len (c := DExport.cnt) (C := 3) (l := x.exports) (fun y hy => DExport.cnt_le y)
  have l0 : x.exports.length ≤ 1048577 := h.1
  have b1 := cntL_len (c := DQuestion.cnt) (C := 2) (l := x.questions) (fun y hy => DQuestion.cnt_le y)
  have l1 : x.questions.length ≤ 1048577 := h.2.1
  have b2 := cntL_len (c := DQuestion.cnt) (C := 2) (l := x.answers) (fun y hy => DQuestion.cnt_le y)
  have l2 : x.answers.length ≤ 1048577 := h.2.2
  unfold DLink.cnt; omega
theorem accF_cnt (v : DVat) (hv : v.ok 1048576) (l : List DGift) (hl : l.length ≤ 1048576) (ta gi no : Int) : (accF v l ta gi no).1.cntA ≤ 2305966098990383104 := by
  have ok := accF_ok v hv l hl ta gi no
  obtain ⟨e1, e2, e3, e4⟩ := accF_parts v l ta gi no
  have b0 := cntL_len (c := DEntity.cnt) (C := 2199033741321) (l := v.entities) (fun y hy => DEntity.cnt_le y (hv.2.1 y hy))
  have l0 : v.entities.length ≤ 1048576 := hv.1
  have b1 := cntL_len (c := DSent.cnt) (C := 2097158) (l := v.loop) (fun y hy => DSent.cnt_le y (hv.2.2.2.1 y hy))
  have l1 : v.loop.length ≤ 1048576 := hv.2.2.1
  have b2 := cntL_len (c := DLink.cnt) (C := 7340100) (l := (accF v l ta gi no).1.links) (fun y hy => link_cnt y (ok.2.2.2.2.2.1 y hy))
  have l2 : v.links.length ≤ 1048576 := hv.2.2.2.2.1
  have b3 := cntL_len (c := DOutgoing.cnt) (C := 2097164) (l := v.out) (fun y hy => DOutgoing.cnt_le y (hv.2.2.2.2.2.2.2 y hy))
  have l3 : v.out.length ≤ 1048576 := hv.2.2.2.2.2.2.1
  simp only [DVat.cntA, e1, e2, e3]; rw [e4] at b2; omega
theorem spec_AcceptGift_V (a : DVat) (oa : a.ok 1048576) (l : List DGift) (ol : l.length ≤ 1048576) (ta : Int)  (gi : Int)  (no : Int)  (h : AH) : T Tryz.prog Γ Fn.spec_AcceptGift [.agg (a.c false), .vs false 4 false (l.map (DGift.c false)), .int .i64 ta, .int .i64 gi, .int .i64 no] h fun v h' => v = .tup [.agg (((accF a l ta gi no).1).c false), .vs false 4 false (((accF a l ta gi no).2.1).map (DGift.c false)), .int .i64 ((accF a l ta gi no).2.2)] ∧ h' = h := by
  have := (spec_AcceptGift_T (Γ := Γ) false a l oa ol ta gi no h).frozen
  simpa only [List.map_cons, List.map_nil, resOf_1, resOf_2, resOf_3, rd_c, rd_a, CD.av_sl, CD.av_i, CD.av_b, CD.av_s, List.map_map, Function.comp_def, DGift.c_eq, DVat.c_eq] using this
theorem impl_AcceptGift_V (a : DVat) (oa : a.ok 1048576) (l : List DGift) (ol : l.length ≤ 1048576) (ta : Int)  (gi : Int)  (no : Int)  (h : AH) : T Tryz.prog Γ Fn.impl_AcceptGift [.agg (a.c false), .vs false 4 false (l.map (DGift.c false)), .int .i64 ta, .int .i64 gi, .int .i64 no] h fun v h' => v = .tup [.agg (((accF a l ta gi no).1).c false), .vs false 4 false (((accF a l ta gi no).2.1).map (DGift.c false)), .int .i64 ((accF a l ta gi no).2.2)] ∧ h' = h := by
  have := (impl_AcceptGift_T (Γ := Γ) false a l oa ol ta gi no h).frozen
  simpa only [List.map_cons, List.map_nil, resOf_1, resOf_2, resOf_3, rd_c, rd_a, CD.av_sl, CD.av_i, CD.av_b, CD.av_s, List.map_map, Function.comp_def, DGift.c_eq, DVat.c_eq] using this
theorem law_AcceptGift (a : DVat) (ha : a.ok maxLen) (l : List DGift) (hl : l.length ≤ maxLen) (ta : Int)  (gi : Int)  (no : Int)  (h : AH) : T Tryz.prog Γ Fn.laws_FnExactAcceptGift [.agg (a.c false), .vs false 4 false (l.map (DGift.c false)), .int .i64 ta, .int .i64 gi, .int .i64 no] h fun v h' => v = .bool true ∧ h' = h := by
  refine (?_ : T Tryz.prog Γ Fn.laws_FnExactAcceptGift _ h fun v h' => v = .bool true ∧ ∃ N, h' = h ++ N).drop (by rintro v h' ⟨rfl, N, rfl⟩; exact ⟨N, rfl, .bool _, rfl, rfl⟩)
  refine laws_FnExactAcceptGift_e (aw_sound tabOK mixed [] _ _ _ ?_)
  unfold laws_FnExactAcceptGift_c
  simp only [EV, EL, EB, EF, q_bx, if_true, if_false, Bool.false_eq_true, Nat.reduceAdd, Option.bind_some, Bool.not_true, Bool.not_false, Nat.reduceBEq, laws_FnExactAcceptGift_r, laws_FnExactAcceptGift_d0_q, EB2, EB4, ER, bne_self_eq_false, beq_self_eq_true, decide_true, DVat.c]
  refine TCall.val (by simp only [EO, DVat.c_noLp]) (laws_szVat_T false a ha 1048576 (by omega) (by omega) _) ?_
  simp only [EV, EL, EB, EF, q_bx, if_true, if_false, Bool.false_eq_true, Nat.reduceAdd, Option.bind_some, Bool.not_true, Bool.not_false, Nat.reduceBEq, laws_FnExactAcceptGift_r, laws_FnExactAcceptGift_d0_q, EB2, EB4, ER, bne_self_eq_false, beq_self_eq_true, decide_true, DVat.c]
  by_cases na : (a.szf 1048576) < 0
  · simp only [EV, EL, EB, EF, q_bx, if_true, if_false, Bool.false_eq_true, Nat.reduceAdd, Option.bind_some, Bool.not_true, Bool.not_false, Nat.reduceBEq, laws_FnExactAcceptGift_r, laws_FnExactAcceptGift_d0_q, EB2, EB4, ER, bne_self_eq_false, beq_self_eq_true, decide_true, DVat.c, decide_eq_true na]
    first | exact ⟨rfl, rfl, [], by simp⟩ | exact ⟨rfl, [], by simp⟩ | exact ⟨[], by simp⟩
  have qa := DVat.szf_ok a 1048576 (by omega) (by omega) (Int.not_lt.1 na)
  simp only [EV, EL, EB, EF, q_bx, if_true, if_false, Bool.false_eq_true, Nat.reduceAdd, Option.bind_some, Bool.not_true, Bool.not_false, Nat.reduceBEq, laws_FnExactAcceptGift_r, laws_FnExactAcceptGift_d0_q, EB2, EB4, ER, bne_self_eq_false, beq_self_eq_true, decide_true, DVat.c, decide_eq_false na]
  have oa := qa.1
  refine TCall.val (by simp only [EO, DVat.c_noLp]) (laws_szGiftS_T false l hl (a.szf 1048576) (by omega) (by omega) _) ?_
  simp only [EV, EL, EB, EF, q_bx, if_true, if_false, Bool.false_eq_true, Nat.reduceAdd, Option.bind_some, Bool.not_true, Bool.not_false, Nat.reduceBEq, laws_FnExactAcceptGift_r, laws_FnExactAcceptGift_d0_q, EB2, EB4, ER, bne_self_eq_false, beq_self_eq_true, decide_true, DVat.c]
  by_cases nl : (szN l (a.szf 1048576)) < 0
  · simp only [EV, EL, EB, EF, q_bx, if_true, if_false, Bool.false_eq_true, Nat.reduceAdd, Option.bind_some, Bool.not_true, Bool.not_false, Nat.reduceBEq, laws_FnExactAcceptGift_r, laws_FnExactAcceptGift_d0_q, EB2, EB4, ER, bne_self_eq_false, beq_self_eq_true, decide_true, DVat.c, decide_eq_true nl]
    first | exact ⟨rfl, rfl, [], by simp⟩ | exact ⟨rfl, [], by simp⟩ | exact ⟨[], by simp⟩
  have ql := szN_ok (Int.not_lt.1 nl)
  simp only [EV, EL, EB, EF, q_bx, if_true, if_false, Bool.false_eq_true, Nat.reduceAdd, Option.bind_some, Bool.not_true, Bool.not_false, Nat.reduceBEq, laws_FnExactAcceptGift_r, laws_FnExactAcceptGift_d0_q, EB2, EB4, ER, bne_self_eq_false, beq_self_eq_true, decide_true, DVat.c, decide_eq_false nl]
  have ol : l.length ≤ 1048576 := by omega
  refine TCall.val (by simp only [EO, DVat.c_noLp]) (laws_toVat_V false a oa _) ?_
  simp only [EV, EL, EB, EF, q_bx, if_true, if_false, Bool.false_eq_true, Nat.reduceAdd, Option.bind_some, Bool.not_true, Bool.not_false, Nat.reduceBEq, laws_FnExactAcceptGift_r, laws_FnExactAcceptGift_d0_q, EB2, EB4, ER, bne_self_eq_false, beq_self_eq_true, decide_true, DVat.c]
  refine TCall.val (by simp only [EO, DVat.c_noLp]) (laws_toGiftS_V false l ol _) ?_
  simp only [EV, EL, EB, EF, q_bx, if_true, if_false, Bool.false_eq_true, Nat.reduceAdd, Option.bind_some, Bool.not_true, Bool.not_false, Nat.reduceBEq, laws_FnExactAcceptGift_r, laws_FnExactAcceptGift_d0_q, EB2, EB4, ER, bne_self_eq_false, beq_self_eq_true, decide_true, DVat.c]
  refine TCall.val (by simp only [EO, DVat.c_noLp]) (spec_AcceptGift_V a oa l ol ta gi no _) ?_
  simp only [EV, EL, EB, EF, q_bx, if_true, if_false, Bool.false_eq_true, Nat.reduceAdd, Option.bind_some, Bool.not_true, Bool.not_false, Nat.reduceBEq, laws_FnExactAcceptGift_r, laws_FnExactAcceptGift_d0_q, EB2, EB4, ER, bne_self_eq_false, beq_self_eq_true, decide_true, DVat.c]
  have rok := accF_ok a oa l ol ta gi no
  have rl := accF_len a l ta gi no
  have xh : HExt h h := HExt.refl h
  refine TCall.ref (by simp only [EO, DVat.c_noLp]) (laws_toVat_T false a oa _) ?_
  have xh0 := xh
  rintro _ H1 fr
  replace fr : Fresh h _ _ _ := fr
  obtain ⟨as_xa, f_xa, rfl, o_xa, n_xa, b_xa, e_xa⟩ := fr.a1
  have ooxa := o_xa
  simp only [DVat.cd, ownL_c, ownL_n, own_i, own_b, own_s] at ooxa
  obtain ⟨_, _, _, _, rfl, _, ⟨rfl, rfl⟩, ⟨axa1, _, _, _, rfl, _, uxa1, ⟨axa2, _, _, _, rfl, _, uxa2, ⟨axa3, _, _, _, rfl, _, uxa3, ⟨axa4, _, _, _, rfl, _, uxa4, ⟨rfl, _⟩⟩⟩⟩⟩⟩ := ooxa
  obtain ⟨cxa1a, cxa1b, cxa1c, cxa1d⟩ := uxa1.cell
  obtain ⟨cxa2a, cxa2b, cxa2c, cxa2d⟩ := uxa2.cell
  obtain ⟨cxa3a, cxa3b, cxa3c, cxa3d⟩ := uxa3.cell
  obtain ⟨cxa4a, cxa4b, cxa4c, cxa4d⟩ := uxa4.cell
  have xh := xh.trans e_xa
  have g_xa : ∀ c ∈ f_xa, h.length ≤ c := fun c hc => by have := b_xa c hc; have := xh0.len; omega
  simp only [EV, EL, EB, EF, q_bx, if_true, if_false, Bool.false_eq_true, Nat.reduceAdd, Option.bind_some, Bool.not_true, Bool.not_false, Nat.reduceBEq, laws_FnExactAcceptGift_r, laws_FnExactAcceptGift_d0_q, EB2, EB4, ER, bne_self_eq_false, beq_self_eq_true, decide_true, DVat.c, cxa1a, cxa1b, cxa1c, cxa2a, cxa2b, cxa2c, cxa3a, cxa3b, cxa3c, cxa4a, cxa4b, cxa4c]
  refine TCall.ref (by simp only [EO, DVat.c_noLp, cxa1d, cxa1c, cxa2d, cxa2c, cxa3d, cxa3c, cxa4d, cxa4c]) (laws_toGiftS_T false l ol _) ?_
  have xh0 := xh
  rintro v_xl H2 fr
  replace fr : Fresh H1 _ _ _ := fr
  obtain ⟨f_xl, o_xl, n_xl, b_xl, e_xl⟩ := fr.c1
  have xh := xh.trans e_xl
  have d_xa_xl : ∀ c, c ∈ f_xa → c ∉ f_xl := fun c h1 h2 => by have := o_xa.lt c h1; have := b_xl c h2; omega
  replace o_xa := o_xa.ext e_xl
  have g_xl : ∀ c ∈ f_xl, h.length ≤ c := fun c hc => by have := b_xl c hc; have := xh0.len; omega
  obtain ⟨cxla, cxlb, cxlc, cxld⟩ := o_xl.cell
  simp only [EV, EL, EB, EF, q_bx, if_true, if_false, Bool.false_eq_true, Nat.reduceAdd, Option.bind_some, Bool.not_true, Bool.not_false, Nat.reduceBEq, laws_FnExactAcceptGift_r, laws_FnExactAcceptGift_d0_q, EB2, EB4, ER, bne_self_eq_false, beq_self_eq_true, decide_true, DVat.c, cxa1a, cxa1b, cxa1c, cxa2a, cxa2b, cxa2c, cxa3a, cxa3b, cxa3c, cxa4a, cxa4b, cxa4c, cxla, cxlb, cxlc]
  refine TCall.own (by simp only [EO, DVat.c_noLp, cxa1d, cxa1c, cxa2d, cxa2c, cxa3d, cxa3c, cxa4d, cxa4c, cxld]) (snap_c (OwnL.see (DVat.c_eq true _) o_xa) (snap_c (Own.see (DGift.c_eq true) o_xl) (snap_c (.same _) (snap_c (.same _) (snap_c (.same _) snap_n))))) (impl_AcceptGift_T true a l oa ol ta gi no) ?_
  have xh0 := xh
  rintro _ H3 fr
  replace fr : Fresh H2 _ _ _ := fr
  obtain ⟨as_g0, v_g1, f_g0, f_g1, rfl, o_g0, o_g1, n_gg, b_gg, e_g0⟩ := fr.ac rfl
  obtain ⟨n_g0, n_g1, d_gg⟩ := List.nodup_append.1 n_gg
  have d_g0_g1 : ∀ c, c ∈ f_g0 → c ∉ f_g1 := fun c h1 h2 => d_gg c h1 c h2 rfl
  have b_g0 : ∀ b ∈ f_g0, H2.length ≤ b := fun b hb => b_gg b (List.mem_append_left _ hb)
  have b_g1 : ∀ b ∈ f_g1, H2.length ≤ b := fun b hb => b_gg b (List.mem_append_right _ hb)
  have oog0 := o_g0
  simp only [DVat.cd, ownL_c, ownL_n, own_i, own_b, own_s] at oog0
  obtain ⟨_, _, _, _, rfl, _, ⟨rfl, rfl⟩, ⟨ag01, _, _, _, rfl, _, ug01, ⟨ag02, _, _, _, rfl, _, ug02, ⟨ag03, _, _, _, rfl, _, ug03, ⟨ag04, _, _, _, rfl, _, ug04, ⟨rfl, _⟩⟩⟩⟩⟩⟩ := oog0
  obtain ⟨cg01a, cg01b, cg01c, cg01d⟩ := ug01.cell
  obtain ⟨cg02a, cg02b, cg02c, cg02d⟩ := ug02.cell
  obtain ⟨cg03a, cg03b, cg03c, cg03d⟩ := ug03.cell
  obtain ⟨cg04a, cg04b, cg04c, cg04d⟩ := ug04.cell
  have d_xa_g1 : ∀ c, c ∈ f_xa → c ∉ f_g1 := fun c h1 h2 => by have := o_xa.lt c h1; have := b_g1 c h2; omega
  have d_xl_g1 : ∀ c, c ∈ f_xl → c ∉ f_g1 := fun c h1 h2 => by have := o_xl.lt c h1; have := b_g1 c h2; omega
  have xh := xh.trans e_g0
  have d_xa_g0 : ∀ c, c ∈ f_xa → c ∉ f_g0 := fun c h1 h2 => by have := o_xa.lt c h1; have := b_g0 c h2; omega
  have d_xl_g0 : ∀ c, c ∈ f_xl → c ∉ f_g0 := fun c h1 h2 => by have := o_xl.lt c h1; have := b_g0 c h2; omega
  replace o_xa := o_xa.ext e_g0
  replace o_xl := o_xl.ext e_g0
  have g_g0 : ∀ c ∈ f_g0, h.length ≤ c := fun c hc => by have := b_g0 c hc; have := xh0.len; omega
  have g_g1 : ∀ c ∈ f_g1, h.length ≤ c := fun c hc => by have := b_g1 c hc; have := xh0.len; omega
  obtain ⟨cgg1a, cgg1b, cgg1c, cgg1d⟩ := o_g1.cell
  simp only [EV, EL, EB, EF, q_bx, if_true, if_false, Bool.false_eq_true, Nat.reduceAdd, Option.bind_some, Bool.not_true, Bool.not_false, Nat.reduceBEq, laws_FnExactAcceptGift_r, laws_FnExactAcceptGift_d0_q, EB2, EB4, ER, bne_self_eq_false, beq_self_eq_true, decide_true, DVat.c, cxa1a, cxa1b, cxa1c, cxa2a, cxa2b, cxa2c, cxa3a, cxa3b, cxa3c, cxa4a, cxa4b, cxa4c, cxla, cxlb, cxlc, cg01a, cg01b, cg01c, cg02a, cg02b, cg02c, cg03a, cg03b, cg03c, cg04a, cg04b, cg04c, cgg1a, cgg1b, cgg1c, CD.av_i]
  refine TCall.see (by simp only [EO, DVat.c_noLp, cxa1d, cxa1c, cxa2d, cxa2c, cxa3d, cxa3c, cxa4d, cxa4c, cxld, cg01d, cg01c, cg02d, cg02c, cg03d, cg03c, cg04d, cg04c, cgg1d]) (snap_c (OwnL.see (DVat.c_eq true _) o_g0) (snap_c (.same _) snap_n)) (fun h => laws_eqVat_T true false ((accF a l ta gi no).1) ((accF a l ta gi no).1) (rok.mono (by omega)) h) (.bool _) ?_
  simp only [EV, EL, EB, EF, q_bx, if_true, if_false, Bool.false_eq_true, Nat.reduceAdd, Option.bind_some, Bool.not_true, Bool.not_false, Nat.reduceBEq, laws_FnExactAcceptGift_r, laws_FnExactAcceptGift_d0_q, EB2, EB4, ER, bne_self_eq_false, beq_self_eq_true, decide_true, DVat.c, cxa1a, cxa1b, cxa1c, cxa2a, cxa2b, cxa2c, cxa3a, cxa3b, cxa3c, cxa4a, cxa4b, cxa4c, cxla, cxlb, cxlc, cg01a, cg01b, cg01c, cg02a, cg02b, cg02c, cg03a, cg03b, cg03c, cg04a, cg04b, cg04c, cgg1a, cgg1b, cgg1c, CD.av_i]
  refine TCall.see (by simp only [EO, DVat.c_noLp, cxa1d, cxa1c, cxa2d, cxa2c, cxa3d, cxa3c, cxa4d, cxa4c, cxld, cg01d, cg01c, cg02d, cg02c, cg03d, cg03c, cg04d, cg04c, cgg1d]) (snap_c (Own.see (DGift.c_eq true) o_g1) (snap_c (.same _) snap_n)) (fun h => laws_eqGiftS_T true false ((accF a l ta gi no).2.1) ((accF a l ta gi no).2.1) (by omega) h) (.bool _) ?_
  simp only [EV, EL, EB, EF, q_bx, if_true, if_false, Bool.false_eq_true, Nat.reduceAdd, Option.bind_some, Bool.not_true, Bool.not_false, Nat.reduceBEq, laws_FnExactAcceptGift_r, laws_FnExactAcceptGift_d0_q, EB2, EB4, ER, bne_self_eq_false, beq_self_eq_true, decide_true, DVat.c, cxa1a, cxa1b, cxa1c, cxa2a, cxa2b, cxa2c, cxa3a, cxa3b, cxa3c, cxa4a, cxa4b, cxa4c, cxla, cxlb, cxlc, cg01a, cg01b, cg01c, cg02a, cg02b, cg02c, cg03a, cg03b, cg03c, cg04a, cg04b, cg04c, cgg1a, cgg1b, cgg1c, CD.av_i]
  refine TCall.val (by simp only [EO, DVat.c_noLp, cxa1d, cxa1c, cxa2d, cxa2c, cxa3d, cxa3c, cxa4d, cxa4c, cxld, cg01d, cg01c, cg02d, cg02c, cg03d, cg03c, cg04d, cg04c, cgg1d]) (laws_toVat_V false a oa _) ?_
  simp only [EV, EL, EB, EF, q_bx, if_true, if_false, Bool.false_eq_true, Nat.reduceAdd, Option.bind_some, Bool.not_true, Bool.not_false, Nat.reduceBEq, laws_FnExactAcceptGift_r, laws_FnExactAcceptGift_d0_q, EB2, EB4, ER, bne_self_eq_false, beq_self_eq_true, decide_true, DVat.c, cxa1a, cxa1b, cxa1c, cxa2a, cxa2b, cxa2c, cxa3a, cxa3b, cxa3c, cxa4a, cxa4b, cxa4c, cxla, cxlb, cxlc, cg01a, cg01b, cg01c, cg02a, cg02b, cg02c, cg03a, cg03b, cg03c, cg04a, cg04b, cg04c, cgg1a, cgg1b, cgg1c, CD.av_i]
  refine TCall.see (by simp only [EO, DVat.c_noLp, cxa1d, cxa1c, cxa2d, cxa2c, cxa3d, cxa3c, cxa4d, cxa4c, cxld, cg01d, cg01c, cg02d, cg02c, cg03d, cg03c, cg04d, cg04c, cgg1d]) (snap_c (OwnL.see (DVat.c_eq true _) o_xa) (snap_c (.same _) snap_n)) (fun h => laws_eqVat_T true false (a) (a) (oa.mono (by omega)) h) (.bool _) ?_
  simp only [EV, EL, EB, EF, q_bx, if_true, if_false, Bool.false_eq_true, Nat.reduceAdd, Option.bind_some, Bool.not_true, Bool.not_false, Nat.reduceBEq, laws_FnExactAcceptGift_r, laws_FnExactAcceptGift_d0_q, EB2, EB4, ER, bne_self_eq_false, beq_self_eq_true, decide_true, DVat.c, cxa1a, cxa1b, cxa1c, cxa2a, cxa2b, cxa2c, cxa3a, cxa3b, cxa3c, cxa4a, cxa4b, cxa4c, cxla, cxlb, cxlc, cg01a, cg01b, cg01c, cg02a, cg02b, cg02c, cg03a, cg03b, cg03c, cg04a, cg04b, cg04c, cgg1a, cgg1b, cgg1c, CD.av_i]
  refine TCall.val (by simp only [EO, DVat.c_noLp, cxa1d, cxa1c, cxa2d, cxa2c, cxa3d, cxa3c, cxa4d, cxa4c, cxld, cg01d, cg01c, cg02d, cg02c, cg03d, cg03c, cg04d, cg04c, cgg1d]) (laws_toGiftS_V false l ol _) ?_
  simp only [EV, EL, EB, EF, q_bx, if_true, if_false, Bool.false_eq_true, Nat.reduceAdd, Option.bind_some, Bool.not_true, Bool.not_false, Nat.reduceBEq, laws_FnExactAcceptGift_r, laws_FnExactAcceptGift_d0_q, EB2, EB4, ER, bne_self_eq_false, beq_self_eq_true, decide_true, DVat.c, cxa1a, cxa1b, cxa1c, cxa2a, cxa2b, cxa2c, cxa3a, cxa3b, cxa3c, cxa4a, cxa4b, cxa4c, cxla, cxlb, cxlc, cg01a, cg01b, cg01c, cg02a, cg02b, cg02c, cg03a, cg03b, cg03c, cg04a, cg04b, cg04c, cgg1a, cgg1b, cgg1c, CD.av_i]
  refine TCall.see (by simp only [EO, DVat.c_noLp, cxa1d, cxa1c, cxa2d, cxa2c, cxa3d, cxa3c, cxa4d, cxa4c, cxld, cg01d, cg01c, cg02d, cg02c, cg03d, cg03c, cg04d, cg04c, cgg1d]) (snap_c (Own.see (DGift.c_eq true) o_xl) (snap_c (.same _) snap_n)) (fun h => laws_eqGiftS_T true false (l) (l) (by omega) h) (.bool _) ?_
  simp only [EV, EL, EB, EF, q_bx, if_true, if_false, Bool.false_eq_true, Nat.reduceAdd, Option.bind_some, Bool.not_true, Bool.not_false, Nat.reduceBEq, laws_FnExactAcceptGift_r, laws_FnExactAcceptGift_d0_q, EB2, EB4, ER, bne_self_eq_false, beq_self_eq_true, decide_true, DVat.c, cxa1a, cxa1b, cxa1c, cxa2a, cxa2b, cxa2c, cxa3a, cxa3b, cxa3c, cxa4a, cxa4b, cxa4c, cxla, cxlb, cxlc, cg01a, cg01b, cg01c, cg02a, cg02b, cg02c, cg03a, cg03b, cg03c, cg04a, cg04b, cg04c, cgg1a, cgg1b, cgg1c, CD.av_i]
  have cl_xa := DVat.cntA_le (a) oa
  have cn_xa := DVat.cntA_nn (a)
  have cl_xl := cntL_len (c := DGift.cnt) (C := 4) (l := l) (fun y hy => DGift.cnt_le y)
  have cn_xl := cntL_nn (c := DGift.cnt) DGift.cnt_nn (l)
  refine TCall.ref (by simp only [EO, DVat.c_noLp, cxa1d, cxa1c, cxa2d, cxa2c, cxa3d, cxa3c, cxa4d, cxa4c, cxld, cg01d, cg01c, cg02d, cg02c, cg03d, cg03c, cg04d, cg04c, cgg1d]) (laws_markVat_T (a) (1) (by omega) (by omega) (oa.mono (by omega)) _ o_xa n_xa) ?_
  rintro _ H4 ⟨rfl, hl, hf, o_xa⟩
  replace hl : H4.length = H3.length := hl
  replace hf : ∀ c, c ∉ f_xa → H4[c]? = H3[c]? := hf
  replace o_xl := o_xl.frame fun c hc => hf c (fun h2 => d_xa_xl c h2 hc)
  replace o_g0 := o_g0.frame fun c hc => hf c (fun h2 => d_xa_g0 c h2 hc)
  replace o_g1 := o_g1.frame fun c hc => hf c (fun h2 => d_xa_g1 c h2 hc)
  replace xh := xh.mark hl hf g_xa
  simp only [EV, EL, EB, EF, q_bx, if_true, if_false, Bool.false_eq_true, Nat.reduceAdd, Option.bind_some, Bool.not_true, Bool.not_false, Nat.reduceBEq, laws_FnExactAcceptGift_r, laws_FnExactAcceptGift_d0_q, EB2, EB4, ER, bne_self_eq_false, beq_self_eq_true, decide_true, DVat.c, cxa1a, cxa1b, cxa1c, cxa2a, cxa2b, cxa2c, cxa3a, cxa3b, cxa3c, cxa4a, cxa4b, cxa4c, cxla, cxlb, cxlc, cg01a, cg01b, cg01c, cg02a, cg02b, cg02c, cg03a, cg03b, cg03c, cg04a, cg04b, cg04c, cgg1a, cgg1b, cgg1c, CD.av_i]
  refine TCall.ref (by simp only [EO, DVat.c_noLp, cxa1d, cxa1c, cxa2d, cxa2c, cxa3d, cxa3c, cxa4d, cxa4c, cxld, cg01d, cg01c, cg02d, cg02c, cg03d, cg03c, cg04d, cg04c, cgg1d]) (laws_markGiftS_T (l) (1 + DVat.cntA (a)) (by omega) (by omega) (by omega) _ o_xl n_xl) ?_
  rintro _ H5 ⟨rfl, hl, hf, o_xl⟩
  replace hl : H5.length = H4.length := hl
  replace hf : ∀ c, c ∉ f_xl → H5[c]? = H4[c]? := hf
  replace o_xa := o_xa.frame fun c hc => hf c (d_xa_xl c hc)
  replace o_g0 := o_g0.frame fun c hc => hf c (fun h2 => d_xl_g0 c h2 hc)
  replace o_g1 := o_g1.frame fun c hc => hf c (fun h2 => d_xl_g1 c h2 hc)
  replace xh := xh.mark hl hf g_xl
  simp only [EV, EL, EB, EF, q_bx, if_true, if_false, Bool.false_eq_true, Nat.reduceAdd, Option.bind_some, Bool.not_true, Bool.not_false, Nat.reduceBEq, laws_FnExactAcceptGift_r, laws_FnExactAcceptGift_d0_q, EB2, EB4, ER, bne_self_eq_false, beq_self_eq_true, decide_true, DVat.c, cxa1a, cxa1b, cxa1c, cxa2a, cxa2b, cxa2c, cxa3a, cxa3b, cxa3c, cxa4a, cxa4b, cxa4c, cxla, cxlb, cxlc, cg01a, cg01b, cg01c, cg02a, cg02b, cg02c, cg03a, cg03b, cg03c, cg04a, cg04b, cg04c, cgg1a, cgg1b, cgg1c, CD.av_i]
  have yk : decide (1 + DVat.cntA (a) + cntL DGift.cnt (l) < 0) = false := decide_eq_false (by omega)
  simp only [EV, EL, EB, EF, q_bx, if_true, if_false, Bool.false_eq_true, Nat.reduceAdd, Option.bind_some, Bool.not_true, Bool.not_false, Nat.reduceBEq, laws_FnExactAcceptGift_r, laws_FnExactAcceptGift_d0_q, EB2, EB4, ER, bne_self_eq_false, beq_self_eq_true, decide_true, DVat.c, cxa1a, cxa1b, cxa1c, cxa2a, cxa2b, cxa2c, cxa3a, cxa3b, cxa3c, cxa4a, cxa4b, cxa4c, cxla, cxlb, cxlc, cg01a, cg01b, cg01c, cg02a, cg02b, cg02c, cg03a, cg03b, cg03c, cg04a, cg04b, cg04c, cgg1a, cgg1b, cgg1c, CD.av_i, yk]
  refine TCall.see (by simp only [EO, DVat.c_noLp, cxa1d, cxa1c, cxa2d, cxa2c, cxa3d, cxa3c, cxa4d, cxa4c, cxld, cg01d, cg01c, cg02d, cg02c, cg03d, cg03c, cg04d, cg04c, cgg1d]) (snap_c (OwnL.see (DVat.c_eq true _) o_g0) (snap_c (.same _) snap_n)) (fun h => laws_eqVat_T true false ((accF a l ta gi no).1) ((accF a l ta gi no).1) (rok.mono (by omega)) h) (.bool _) ?_
  simp only [EV, EL, EB, EF, q_bx, if_true, if_false, Bool.false_eq_true, Nat.reduceAdd, Option.bind_some, Bool.not_true, Bool.not_false, Nat.reduceBEq, laws_FnExactAcceptGift_r, laws_FnExactAcceptGift_d0_q, EB2, EB4, ER, bne_self_eq_false, beq_self_eq_true, decide_true, DVat.c, cxa1a, cxa1b, cxa1c, cxa2a, cxa2b, cxa2c, cxa3a, cxa3b, cxa3c, cxa4a, cxa4b, cxa4c, cxla, cxlb, cxlc, cg01a, cg01b, cg01c, cg02a, cg02b, cg02c, cg03a, cg03b, cg03c, cg04a, cg04b, cg04c, cgg1a, cgg1b, cgg1c, CD.av_i, yk]
  refine TCall.see (by simp only [EO, DVat.c_noLp, cxa1d, cxa1c, cxa2d, cxa2c, cxa3d, cxa3c, cxa4d, cxa4c, cxld, cg01d, cg01c, cg02d, cg02c, cg03d, cg03c, cg04d, cg04c, cgg1d]) (snap_c (Own.see (DGift.c_eq true) o_g1) (snap_c (.same _) snap_n)) (fun h => laws_eqGiftS_T true false ((accF a l ta gi no).2.1) ((accF a l ta gi no).2.1) (by omega) h) (.bool _) ?_
  simp only [EV, EL, EB, EF, q_bx, if_true, if_false, Bool.false_eq_true, Nat.reduceAdd, Option.bind_some, Bool.not_true, Bool.not_false, Nat.reduceBEq, laws_FnExactAcceptGift_r, laws_FnExactAcceptGift_d0_q, EB2, EB4, ER, bne_self_eq_false, beq_self_eq_true, decide_true, DVat.c, cxa1a, cxa1b, cxa1c, cxa2a, cxa2b, cxa2c, cxa3a, cxa3b, cxa3c, cxa4a, cxa4b, cxa4c, cxla, cxlb, cxlc, cg01a, cg01b, cg01c, cg02a, cg02b, cg02c, cg03a, cg03b, cg03c, cg04a, cg04b, cg04c, cgg1a, cgg1b, cgg1c, CD.av_i, yk]
  have cl_g0 := accF_cnt a oa l ol ta gi no
  have cn_g0 := DVat.cntA_nn ((accF a l ta gi no).1)
  refine TCall.ref (by simp only [EO, DVat.c_noLp, cxa1d, cxa1c, cxa2d, cxa2c, cxa3d, cxa3c, cxa4d, cxa4c, cxld, cg01d, cg01c, cg02d, cg02c, cg03d, cg03c, cg04d, cg04c, cgg1d]) (laws_markVat_T ((accF a l ta gi no).1) (1) (by omega) (by omega) (rok.mono (by omega)) _ o_g0 n_g0) ?_
  rintro _ H6 ⟨rfl, hl, hf, o_g0⟩
  replace hl : H6.length = H5.length := hl
  replace hf : ∀ c, c ∉ f_g0 → H6[c]? = H5[c]? := hf
  replace o_xa := o_xa.frame fun c hc => hf c (d_xa_g0 c hc)
  replace o_xl := o_xl.frame fun c hc => hf c (d_xl_g0 c hc)
  replace o_g1 := o_g1.frame fun c hc => hf c (fun h2 => d_g0_g1 c h2 hc)
  replace xh := xh.mark hl hf g_g0
  simp only [EV, EL, EB, EF, q_bx, if_true, if_false, Bool.false_eq_true, Nat.reduceAdd, Option.bind_some, Bool.not_true, Bool.not_false, Nat.reduceBEq, laws_FnExactAcceptGift_r, laws_FnExactAcceptGift_d0_q, EB2, EB4, ER, bne_self_eq_false, beq_self_eq_true, decide_true, DVat.c, cxa1a, cxa1b, cxa1c, cxa2a, cxa2b, cxa2c, cxa3a, cxa3b, cxa3c, cxa4a, cxa4b, cxa4c, cxla, cxlb, cxlc, cg01a, cg01b, cg01c, cg02a, cg02b, cg02c, cg03a, cg03b, cg03c, cg04a, cg04b, cg04c, cgg1a, cgg1b, cgg1c, CD.av_i, yk]
  have ym0 : decide (1 + DVat.cntA ((accF a l ta gi no).1) < 0) = false := decide_eq_false (by omega)
  have cl_g1 := cntL_len (c := DGift.cnt) (C := 4) (l := (accF a l ta gi no).2.1) (fun y hy => DGift.cnt_le y)
  have cn_g1 := cntL_nn (c := DGift.cnt) DGift.cnt_nn ((accF a l ta gi no).2.1)
  refine TCall.ref (by simp only [EO, DVat.c_noLp, cxa1d, cxa1c, cxa2d, cxa2c, cxa3d, cxa3c, cxa4d, cxa4c, cxld, cg01d, cg01c, cg02d, cg02c, cg03d, cg03c, cg04d, cg04c, cgg1d]) (laws_markGiftS_T ((accF a l ta gi no).2.1) (1 + DVat.cntA ((accF a l ta gi no).1)) (by omega) (by omega) (by omega) _ o_g1 n_g1) ?_
  rintro _ H7 ⟨rfl, hl, hf, o_g1⟩
  replace hl : H7.length = H6.length := hl
  replace hf : ∀ c, c ∉ f_g1 → H7[c]? = H6[c]? := hf
  replace o_xa := o_xa.frame fun c hc => hf c (d_xa_g1 c hc)
  replace o_xl := o_xl.frame fun c hc => hf c (d_xl_g1 c hc)
  replace o_g0 := o_g0.frame fun c hc => hf c (d_g0_g1 c hc)
  replace xh := xh.mark hl hf g_g1
  simp only [EV, EL, EB, EF, q_bx, if_true, if_false, Bool.false_eq_true, Nat.reduceAdd, Option.bind_some, Bool.not_true, Bool.not_false, Nat.reduceBEq, laws_FnExactAcceptGift_r, laws_FnExactAcceptGift_d0_q, EB2, EB4, ER, bne_self_eq_false, beq_self_eq_true, decide_true, DVat.c, cxa1a, cxa1b, cxa1c, cxa2a, cxa2b, cxa2c, cxa3a, cxa3b, cxa3c, cxa4a, cxa4b, cxa4c, cxla, cxlb, cxlc, cg01a, cg01b, cg01c, cg02a, cg02b, cg02c, cg03a, cg03b, cg03c, cg04a, cg04b, cg04c, cgg1a, cgg1b, cgg1c, CD.av_i, yk, ym0]
  have ym1 : decide (1 + DVat.cntA ((accF a l ta gi no).1) + cntL DGift.cnt ((accF a l ta gi no).2.1) < 0) = false := decide_eq_false (by omega)
  refine TCall.see (by simp only [EO, DVat.c_noLp, cxa1d, cxa1c, cxa2d, cxa2c, cxa3d, cxa3c, cxa4d, cxa4c, cxld, cg01d, cg01c, cg02d, cg02c, cg03d, cg03c, cg04d, cg04c, cgg1d]) (snap_c (OwnL.see (DVat.c_eq true _) o_g0) (snap_c (.same _) snap_n)) (fun h => laws_heldVat_T true ((accF a l ta gi no).1) 1 (by omega) (by omega) (rok.mono (by omega)) h) (.int _ _) ?_
  simp only [EV, EL, EB, EF, q_bx, if_true, if_false, Bool.false_eq_true, Nat.reduceAdd, Option.bind_some, Bool.not_true, Bool.not_false, Nat.reduceBEq, laws_FnExactAcceptGift_r, laws_FnExactAcceptGift_d0_q, EB2, EB4, ER, bne_self_eq_false, beq_self_eq_true, decide_true, DVat.c, cxa1a, cxa1b, cxa1c, cxa2a, cxa2b, cxa2c, cxa3a, cxa3b, cxa3c, cxa4a, cxa4b, cxa4c, cxla, cxlb, cxlc, cg01a, cg01b, cg01c, cg02a, cg02b, cg02c, cg03a, cg03b, cg03c, cg04a, cg04b, cg04c, cgg1a, cgg1b, cgg1c, CD.av_i, yk, ym0, ym1]
  refine TCall.see (by simp only [EO, DVat.c_noLp, cxa1d, cxa1c, cxa2d, cxa2c, cxa3d, cxa3c, cxa4d, cxa4c, cxld, cg01d, cg01c, cg02d, cg02c, cg03d, cg03c, cg04d, cg04c, cgg1d]) (snap_c (Own.see (DGift.c_eq true) o_g1) (snap_c (.same _) snap_n)) (fun h => laws_heldGiftS_T true ((accF a l ta gi no).2.1) (1 + DVat.cntA ((accF a l ta gi no).1)) (by omega) (by omega) (by omega) h) (.int _ _) ?_
  simp only [EV, EL, EB, EF, q_bx, if_true, if_false, Bool.false_eq_true, Nat.reduceAdd, Option.bind_some, Bool.not_true, Bool.not_false, Nat.reduceBEq, laws_FnExactAcceptGift_r, laws_FnExactAcceptGift_d0_q, EB2, EB4, ER, bne_self_eq_false, beq_self_eq_true, decide_true, DVat.c, cxa1a, cxa1b, cxa1c, cxa2a, cxa2b, cxa2c, cxa3a, cxa3b, cxa3c, cxa4a, cxa4b, cxa4c, cxla, cxlb, cxlc, cg01a, cg01b, cg01c, cg02a, cg02b, cg02c, cg03a, cg03b, cg03c, cg04a, cg04b, cg04c, cgg1a, cgg1b, cgg1c, CD.av_i, yk, ym0, ym1]
  refine TCall.val (by simp only [EO, DVat.c_noLp, cxa1d, cxa1c, cxa2d, cxa2c, cxa3d, cxa3c, cxa4d, cxa4c, cxld, cg01d, cg01c, cg02d, cg02c, cg03d, cg03c, cg04d, cg04c, cgg1d]) (laws_toVat_V false a oa _) ?_
  simp only [EV, EL, EB, EF, q_bx, if_true, if_false, Bool.false_eq_true, Nat.reduceAdd, Option.bind_some, Bool.not_true, Bool.not_false, Nat.reduceBEq, laws_FnExactAcceptGift_r, laws_FnExactAcceptGift_d0_q, EB2, EB4, ER, bne_self_eq_false, beq_self_eq_true, decide_true, DVat.c, cxa1a, cxa1b, cxa1c, cxa2a, cxa2b, cxa2c, cxa3a, cxa3b, cxa3c, cxa4a, cxa4b, cxa4c, cxla, cxlb, cxlc, cg01a, cg01b, cg01c, cg02a, cg02b, cg02c, cg03a, cg03b, cg03c, cg04a, cg04b, cg04c, cgg1a, cgg1b, cgg1c, CD.av_i, yk, ym0, ym1]
  refine TCall.val (by simp only [EO, DVat.c_noLp, cxa1d, cxa1c, cxa2d, cxa2c, cxa3d, cxa3c, cxa4d, cxa4c, cxld, cg01d, cg01c, cg02d, cg02c, cg03d, cg03c, cg04d, cg04c, cgg1d]) (laws_toGiftS_V false l ol _) ?_
  simp only [EV, EL, EB, EF, q_bx, if_true, if_false, Bool.false_eq_true, Nat.reduceAdd, Option.bind_some, Bool.not_true, Bool.not_false, Nat.reduceBEq, laws_FnExactAcceptGift_r, laws_FnExactAcceptGift_d0_q, EB2, EB4, ER, bne_self_eq_false, beq_self_eq_true, decide_true, DVat.c, cxa1a, cxa1b, cxa1c, cxa2a, cxa2b, cxa2c, cxa3a, cxa3b, cxa3c, cxa4a, cxa4b, cxa4c, cxla, cxlb, cxlc, cg01a, cg01b, cg01c, cg02a, cg02b, cg02c, cg03a, cg03b, cg03c, cg04a, cg04b, cg04c, cgg1a, cgg1b, cgg1c, CD.av_i, yk, ym0, ym1]
  refine TCall.val (by simp only [EO, DVat.c_noLp, cxa1d, cxa1c, cxa2d, cxa2c, cxa3d, cxa3c, cxa4d, cxa4c, cxld, cg01d, cg01c, cg02d, cg02c, cg03d, cg03c, cg04d, cg04c, cgg1d]) (impl_AcceptGift_V a oa l ol ta gi no _) ?_
  simp only [EV, EL, EB, EF, q_bx, if_true, if_false, Bool.false_eq_true, Nat.reduceAdd, Option.bind_some, Bool.not_true, Bool.not_false, Nat.reduceBEq, laws_FnExactAcceptGift_r, laws_FnExactAcceptGift_d0_q, EB2, EB4, ER, bne_self_eq_false, beq_self_eq_true, decide_true, DVat.c, cxa1a, cxa1b, cxa1c, cxa2a, cxa2b, cxa2c, cxa3a, cxa3b, cxa3c, cxa4a, cxa4b, cxa4c, cxla, cxlb, cxlc, cg01a, cg01b, cg01c, cg02a, cg02b, cg02c, cg03a, cg03b, cg03c, cg04a, cg04b, cg04c, cgg1a, cgg1b, cgg1c, CD.av_i, yk, ym0, ym1]
  refine TCall.val (by simp only [EO, DVat.c_noLp, cxa1d, cxa1c, cxa2d, cxa2c, cxa3d, cxa3c, cxa4d, cxa4c, cxld, cg01d, cg01c, cg02d, cg02c, cg03d, cg03c, cg04d, cg04c, cgg1d]) (laws_eqVat_T false false ((accF a l ta gi no).1) ((accF a l ta gi no).1) (rok.mono (by omega)) _) ?_
  simp only [EV, EL, EB, EF, q_bx, if_true, if_false, Bool.false_eq_true, Nat.reduceAdd, Option.bind_some, Bool.not_true, Bool.not_false, Nat.reduceBEq, laws_FnExactAcceptGift_r, laws_FnExactAcceptGift_d0_q, EB2, EB4, ER, bne_self_eq_false, beq_self_eq_true, decide_true, DVat.c, cxa1a, cxa1b, cxa1c, cxa2a, cxa2b, cxa2c, cxa3a, cxa3b, cxa3c, cxa4a, cxa4b, cxa4c, cxla, cxlb, cxlc, cg01a, cg01b, cg01c, cg02a, cg02b, cg02c, cg03a, cg03b, cg03c, cg04a, cg04b, cg04c, cgg1a, cgg1b, cgg1c, CD.av_i, yk, ym0, ym1]
  refine TCall.val (by simp only [EO, DVat.c_noLp, cxa1d, cxa1c, cxa2d, cxa2c, cxa3d, cxa3c, cxa4d, cxa4c, cxld, cg01d, cg01c, cg02d, cg02c, cg03d, cg03c, cg04d, cg04c, cgg1d]) (laws_eqGiftS_T false false ((accF a l ta gi no).2.1) ((accF a l ta gi no).2.1) (by omega) _) ?_
  simp only [EV, EL, EB, EF, q_bx, if_true, if_false, Bool.false_eq_true, Nat.reduceAdd, Option.bind_some, Bool.not_true, Bool.not_false, Nat.reduceBEq, laws_FnExactAcceptGift_r, laws_FnExactAcceptGift_d0_q, EB2, EB4, ER, bne_self_eq_false, beq_self_eq_true, decide_true, DVat.c, cxa1a, cxa1b, cxa1c, cxa2a, cxa2b, cxa2c, cxa3a, cxa3b, cxa3c, cxa4a, cxa4b, cxa4c, cxla, cxlb, cxlc, cg01a, cg01b, cg01c, cg02a, cg02b, cg02c, cg03a, cg03b, cg03c, cg04a, cg04b, cg04c, cgg1a, cgg1b, cgg1c, CD.av_i, yk, ym0, ym1]
  refine TCall.see (by simp only [EO, DVat.c_noLp, cxa1d, cxa1c, cxa2d, cxa2c, cxa3d, cxa3c, cxa4d, cxa4c, cxld, cg01d, cg01c, cg02d, cg02c, cg03d, cg03c, cg04d, cg04c, cgg1d]) (snap_c (OwnL.see (DVat.c_eq true _) o_g0) (snap_c (.same _) snap_n)) (fun h => laws_heldVat_T true ((accF a l ta gi no).1) 1 (by omega) (by omega) (rok.mono (by omega)) h) (.int _ _) ?_
  simp only [EV, EL, EB, EF, q_bx, if_true, if_false, Bool.false_eq_true, Nat.reduceAdd, Option.bind_some, Bool.not_true, Bool.not_false, Nat.reduceBEq, laws_FnExactAcceptGift_r, laws_FnExactAcceptGift_d0_q, EB2, EB4, ER, bne_self_eq_false, beq_self_eq_true, decide_true, DVat.c, cxa1a, cxa1b, cxa1c, cxa2a, cxa2b, cxa2c, cxa3a, cxa3b, cxa3c, cxa4a, cxa4b, cxa4c, cxla, cxlb, cxlc, cg01a, cg01b, cg01c, cg02a, cg02b, cg02c, cg03a, cg03b, cg03c, cg04a, cg04b, cg04c, cgg1a, cgg1b, cgg1c, CD.av_i, yk, ym0, ym1]
  refine TCall.see (by simp only [EO, DVat.c_noLp, cxa1d, cxa1c, cxa2d, cxa2c, cxa3d, cxa3c, cxa4d, cxa4c, cxld, cg01d, cg01c, cg02d, cg02c, cg03d, cg03c, cg04d, cg04c, cgg1d]) (snap_c (Own.see (DGift.c_eq true) o_g1) (snap_c (.same _) snap_n)) (fun h => laws_heldGiftS_T true ((accF a l ta gi no).2.1) (1 + DVat.cntA ((accF a l ta gi no).1)) (by omega) (by omega) (by omega) h) (.int _ _) ?_
  simp only [EV, EL, EB, EF, q_bx, if_true, if_false, Bool.false_eq_true, Nat.reduceAdd, Option.bind_some, Bool.not_true, Bool.not_false, Nat.reduceBEq, laws_FnExactAcceptGift_r, laws_FnExactAcceptGift_d0_q, EB2, EB4, ER, bne_self_eq_false, beq_self_eq_true, decide_true, DVat.c, cxa1a, cxa1b, cxa1c, cxa2a, cxa2b, cxa2c, cxa3a, cxa3b, cxa3c, cxa4a, cxa4b, cxa4c, cxla, cxlb, cxlc, cg01a, cg01b, cg01c, cg02a, cg02b, cg02c, cg03a, cg03b, cg03c, cg04a, cg04b, cg04c, cgg1a, cgg1b, cgg1c, CD.av_i, yk, ym0, ym1]
  first | exact ⟨rfl, xh.out⟩ | exact xh.out | exact ⟨rfl, rfl, xh.out⟩

end Go.Proofs.YtleddolmolkpfaaGreat

