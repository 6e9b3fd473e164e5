import Derived.Test.YtleddolmolkpfaaGreatAmBox4
import Derived.Test.YtleddolmolkpfaaGreatR5M
import Derived.Test.YtleddolmolkpfaaGreatR5UO
set_option linter.unusedVariables false
set_option linter.unusedSimpArgs false
namespace Go.Proofs.YtleddolmolkpfaaGreat
open Go.AM
set_option linter.unusedVariables false
set_option linter.unusedSimpArgs false
variable {Γ : Glob}
theorem upV_ok (v : DVat) (hv : v.ok 1048576) (f t n : Int) : (upV v f t n).ok 1048576 := by
  have key : (upG v.entities f t n).1.length ≤ 1048576 ∧ ∀ y ∈ (upG v.entities f t n).1, y.ok 1048576 := by
    unfold upG
    split
    · rename_i hg
      have hn : n ≤ 3 := by
        rw [Bool.and_eq_true] at hg
        have := hg.2; simp [inR] at this; omega
      refine ⟨by simp only; rw [upCur_len]; exact hv.1, fun y hy => ?_⟩
      simp only [upCur, List.take_length, List.drop_length, List.append_nil, List.mem_map] at hy
      obtain ⟨e, he, rfl⟩ := hy
      have oe := hv.2.1 e he
      unfold upOne
      split
      · refine ⟨?_, oe.2⟩
        simp only [List.length_map, List.length_range]; omega
      · exact oe
    · exact ⟨hv.1, hv.2.1⟩
  exact ⟨key.1, key.2, hv.2.2⟩
theorem spec_UpgradeObjects_V (a : DVat) (oa : a.ok 1048576) (fm : Int)  (tt : Int)  (n : Int)  (h : AH) : T Tryz.prog Γ Fn.spec_UpgradeObjects [.agg (a.c false), .int .i64 fm, .int .i64 tt, .int .i64 n] h fun v h' => v = .tup [.agg ((upV a fm tt n).c false), .int .i64 ((upG a.entities fm tt n).2)] ∧ h' = h := by
  have := (spec_UpgradeObjects_T (Γ := Γ) false a oa fm tt n h).frozen
  simpa only [List.map_cons, List.map_nil, resOf_1, resOf_2, rd_c, rd_a, CD.av_sl, CD.av_i, CD.av_b, CD.av_s, List.map_map, Function.comp_def, DVat.c_eq] using this
theorem impl_UpgradeObjects_V (a : DVat) (oa : a.ok 1048576) (fm : Int)  (tt : Int)  (n : Int)  (h : AH) : T Tryz.prog Γ Fn.impl_UpgradeObjects [.agg (a.c false), .int .i64 fm, .int .i64 tt, .int .i64 n] h fun v h' => v = .tup [.agg ((upV a fm tt n).c false), .int .i64 ((upG a.entities fm tt n).2)] ∧ h' = h := by
  have := (impl_UpgradeObjects_T (Γ := Γ) false a oa fm tt n h).frozen
  simpa only [List.map_cons, List.map_nil, resOf_1, resOf_2, rd_c, rd_a, CD.av_sl, CD.av_i, CD.av_b, CD.av_s, List.map_map, Function.comp_def, DVat.c_eq] using this
theorem law_UpgradeObjects (a : DVat) (ha : a.ok maxLen) (fm : Int)  (tt : Int)  (n : Int)  (h : AH) : T Tryz.prog Γ Fn.laws_FnExactUpgradeObjects [.agg (a.c false), .int .i64 fm, .int .i64 tt, .int .i64 n] h fun v h' => v = .bool true ∧ h' = h := by
  refine (?_ : T Tryz.prog Γ Fn.laws_FnExactUpgradeObjects _ h fun v h' => v = .bool true ∧ ∃ N, h' = h ++ N).drop (by rintro v h' ⟨rfl, N, rfl⟩; exact ⟨N, rfl, .bool _, rfl, rfl⟩)
  refine laws_FnExactUpgradeObjects_e (aw_sound tabOK mixed [] _ _ _ ?_)
  unfold laws_FnExactUpgradeObjects_c
  simp only [EV, EL, EB, EF, q_bx, if_true, if_false, Bool.false_eq_true, Nat.reduceAdd, Option.bind_some, Bool.not_true, Bool.not_false, Nat.reduceBEq, laws_FnExactUpgradeObjects_r, laws_FnExactUpgradeObjects_d0_q, EB2, EB4, ER, bne_self_eq_false, beq_self_eq_true, decide_true, DVat.c]
  refine TCall.val (by simp only [EO, DVat.c_noLp]) (laws_szVat_T false a ha 1048576 (by omega) (by omega) _) ?_
  simp only [EV, EL, EB, EF, q_bx, if_true, if_false, Bool.false_eq_true, Nat.reduceAdd, Option.bind_some, Bool.not_true, Bool.not_false, Nat.reduceBEq, laws_FnExactUpgradeObjects_r, laws_FnExactUpgradeObjects_d0_q, EB2, EB4, ER, bne_self_eq_false, beq_self_eq_true, decide_true, DVat.c]
  by_cases na : (a.szf 1048576) < 0
  · simp only [EV, EL, EB, EF, q_bx, if_true, if_false, Bool.false_eq_true, Nat.reduceAdd, Option.bind_some, Bool.not_true, Bool.not_false, Nat.reduceBEq, laws_FnExactUpgradeObjects_r, laws_FnExactUpgradeObjects_d0_q, EB2, EB4, ER, bne_self_eq_false, beq_self_eq_true, decide_true, DVat.c, decide_eq_true na]
    first | exact ⟨rfl, rfl, [], by simp⟩ | exact ⟨rfl, [], by simp⟩ | exact ⟨[], by simp⟩
  have qa := DVat.szf_ok a 1048576 (by omega) (by omega) (Int.not_lt.1 na)
  simp only [EV, EL, EB, EF, q_bx, if_true, if_false, Bool.false_eq_true, Nat.reduceAdd, Option.bind_some, Bool.not_true, Bool.not_false, Nat.reduceBEq, laws_FnExactUpgradeObjects_r, laws_FnExactUpgradeObjects_d0_q, EB2, EB4, ER, bne_self_eq_false, beq_self_eq_true, decide_true, DVat.c, decide_eq_false na]
  have oa := qa.1
  refine TCall.val (by simp only [EO, DVat.c_noLp]) (laws_toVat_V false a oa _) ?_
  simp only [EV, EL, EB, EF, q_bx, if_true, if_false, Bool.false_eq_true, Nat.reduceAdd, Option.bind_some, Bool.not_true, Bool.not_false, Nat.reduceBEq, laws_FnExactUpgradeObjects_r, laws_FnExactUpgradeObjects_d0_q, EB2, EB4, ER, bne_self_eq_false, beq_self_eq_true, decide_true, DVat.c]
  refine TCall.val (by simp only [EO, DVat.c_noLp]) (spec_UpgradeObjects_V a oa fm tt n _) ?_
  simp only [EV, EL, EB, EF, q_bx, if_true, if_false, Bool.false_eq_true, Nat.reduceAdd, Option.bind_some, Bool.not_true, Bool.not_false, Nat.reduceBEq, laws_FnExactUpgradeObjects_r, laws_FnExactUpgradeObjects_d0_q, EB2, EB4, ER, bne_self_eq_false, beq_self_eq_true, decide_true, DVat.c]
  have rok := upV_ok a oa fm tt n
  have xh : HExt h h := HExt.refl h
  refine TCall.ref (by simp only [EO, DVat.c_noLp]) (laws_toVat_T false a oa _) ?_
  have xh0 := xh
  rintro _ H1 fr
  replace fr : Fresh h _ _ _ := fr
  obtain ⟨as_xa, f_xa, rfl, o_xa, n_xa, b_xa, e_xa⟩ := fr.a1
  have ooxa := o_xa
  simp only [DVat.cd, ownL_c, ownL_n, own_i, own_b, own_s] at ooxa
  obtain ⟨_, _, _, _, rfl, _, ⟨rfl, rfl⟩, ⟨axa1, _, _, _, rfl, _, uxa1, ⟨axa2, _, _, _, rfl, _, uxa2, ⟨axa3, _, _, _, rfl, _, uxa3, ⟨axa4, _, _, _, rfl, _, uxa4, ⟨rfl, _⟩⟩⟩⟩⟩⟩ := ooxa
  obtain ⟨cxa1a, cxa1b, cxa1c, cxa1d⟩ := uxa1.cell
  obtain ⟨cxa2a, cxa2b, cxa2c, cxa2d⟩ := uxa2.cell
  obtain ⟨cxa3a, cxa3b, cxa3c, cxa3d⟩ := uxa3.cell
  obtain ⟨cxa4a, cxa4b, cxa4c, cxa4d⟩ := uxa4.cell
  have xh := xh.trans e_xa
  have g_xa : ∀ c ∈ f_xa, h.length ≤ c := fun c hc => by have := b_xa c hc; have := xh0.len; omega
  simp only [EV, EL, EB, EF, q_bx, if_true, if_false, Bool.false_eq_true, Nat.reduceAdd, Option.bind_some, Bool.not_true, Bool.not_false, Nat.reduceBEq, laws_FnExactUpgradeObjects_r, laws_FnExactUpgradeObjects_d0_q, EB2, EB4, ER, bne_self_eq_false, beq_self_eq_true, decide_true, DVat.c, cxa1a, cxa1b, cxa1c, cxa2a, cxa2b, cxa2c, cxa3a, cxa3b, cxa3c, cxa4a, cxa4b, cxa4c]
  refine TCall.own (by simp only [EO, DVat.c_noLp, cxa1d, cxa1c, cxa2d, cxa2c, cxa3d, cxa3c, cxa4d, cxa4c]) (snap_c (OwnL.see (DVat.c_eq true _) o_xa) (snap_c (.same _) (snap_c (.same _) (snap_c (.same _) snap_n)))) (impl_UpgradeObjects_T true a oa fm tt n) ?_
  have xh0 := xh
  rintro _ H2 fr
  replace fr : Fresh H1 _ _ _ := fr
  obtain ⟨as_g, f_g, rfl, o_g, n_g, b_g, e_g⟩ := (fr.a2 rfl)
  have oog := o_g
  simp only [DVat.cd, ownL_c, ownL_n, own_i, own_b, own_s] at oog
  obtain ⟨_, _, _, _, rfl, _, ⟨rfl, rfl⟩, ⟨ag1, _, _, _, rfl, _, ug1, ⟨ag2, _, _, _, rfl, _, ug2, ⟨ag3, _, _, _, rfl, _, ug3, ⟨ag4, _, _, _, rfl, _, ug4, ⟨rfl, _⟩⟩⟩⟩⟩⟩ := oog
  obtain ⟨cg1a, cg1b, cg1c, cg1d⟩ := ug1.cell
  obtain ⟨cg2a, cg2b, cg2c, cg2d⟩ := ug2.cell
  obtain ⟨cg3a, cg3b, cg3c, cg3d⟩ := ug3.cell
  obtain ⟨cg4a, cg4b, cg4c, cg4d⟩ := ug4.cell
  have xh := xh.trans e_g
  have d_xa_g : ∀ c, c ∈ f_xa → c ∉ f_g := fun c h1 h2 => by have := o_xa.lt c h1; have := b_g c h2; omega
  replace o_xa := o_xa.ext e_g
  have g_g : ∀ c ∈ f_g, h.length ≤ c := fun c hc => by have := b_g c hc; have := xh0.len; omega
  simp only [EV, EL, EB, EF, q_bx, if_true, if_false, Bool.false_eq_true, Nat.reduceAdd, Option.bind_some, Bool.not_true, Bool.not_false, Nat.reduceBEq, laws_FnExactUpgradeObjects_r, laws_FnExactUpgradeObjects_d0_q, EB2, EB4, ER, bne_self_eq_false, beq_self_eq_true, decide_true, DVat.c, cxa1a, cxa1b, cxa1c, cxa2a, cxa2b, cxa2c, cxa3a, cxa3b, cxa3c, cxa4a, cxa4b, cxa4c, cg1a, cg1b, cg1c, cg2a, cg2b, cg2c, cg3a, cg3b, cg3c, cg4a, cg4b, cg4c, CD.av_i]
  refine TCall.see (by simp only [EO, DVat.c_noLp, cxa1d, cxa1c, cxa2d, cxa2c, cxa3d, cxa3c, cxa4d, cxa4c, cg1d, cg1c, cg2d, cg2c, cg3d, cg3c, cg4d, cg4c]) (snap_c (OwnL.see (DVat.c_eq true _) o_g) (snap_c (.same _) snap_n)) (fun h => laws_eqVat_T true false (upV a fm tt n) (upV a fm tt n) (rok.mono (by omega)) h) (.bool _) ?_
  simp only [EV, EL, EB, EF, q_bx, if_true, if_false, Bool.false_eq_true, Nat.reduceAdd, Option.bind_some, Bool.not_true, Bool.not_false, Nat.reduceBEq, laws_FnExactUpgradeObjects_r, laws_FnExactUpgradeObjects_d0_q, EB2, EB4, ER, bne_self_eq_false, beq_self_eq_true, decide_true, DVat.c, cxa1a, cxa1b, cxa1c, cxa2a, cxa2b, cxa2c, cxa3a, cxa3b, cxa3c, cxa4a, cxa4b, cxa4c, cg1a, cg1b, cg1c, cg2a, cg2b, cg2c, cg3a, cg3b, cg3c, cg4a, cg4b, cg4c, CD.av_i]
  refine TCall.val (by simp only [EO, DVat.c_noLp, cxa1d, cxa1c, cxa2d, cxa2c, cxa3d, cxa3c, cxa4d, cxa4c, cg1d, cg1c, cg2d, cg2c, cg3d, cg3c, cg4d, cg4c]) (laws_toVat_V false a oa _) ?_
  simp only [EV, EL, EB, EF, q_bx, if_true, if_false, Bool.false_eq_true, Nat.reduceAdd, Option.bind_some, Bool.not_true, Bool.not_false, Nat.reduceBEq, laws_FnExactUpgradeObjects_r, laws_FnExactUpgradeObjects_d0_q, EB2, EB4, ER, bne_self_eq_false, beq_self_eq_true, decide_true, DVat.c, cxa1a, cxa1b, cxa1c, cxa2a, cxa2b, cxa2c, cxa3a, cxa3b, cxa3c, cxa4a, cxa4b, cxa4c, cg1a, cg1b, cg1c, cg2a, cg2b, cg2c, cg3a, cg3b, cg3c, cg4a, cg4b, cg4c, CD.av_i]
  refine TCall.see (by simp only [EO, DVat.c_noLp, cxa1d, cxa1c, cxa2d, cxa2c, cxa3d, cxa3c, cxa4d, cxa4c, cg1d, cg1c, cg2d, cg2c, cg3d, cg3c, cg4d, cg4c]) (snap_c (OwnL.see (DVat.c_eq true _) o_xa) (snap_c (.same _) snap_n)) (fun h => laws_eqVat_T true false (a) (a) (oa.mono (by omega)) h) (.bool _) ?_
  simp only [EV, EL, EB, EF, q_bx, if_true, if_false, Bool.false_eq_true, Nat.reduceAdd, Option.bind_some, Bool.not_true, Bool.not_false, Nat.reduceBEq, laws_FnExactUpgradeObjects_r, laws_FnExactUpgradeObjects_d0_q, EB2, EB4, ER, bne_self_eq_false, beq_self_eq_true, decide_true, DVat.c, cxa1a, cxa1b, cxa1c, cxa2a, cxa2b, cxa2c, cxa3a, cxa3b, cxa3c, cxa4a, cxa4b, cxa4c, cg1a, cg1b, cg1c, cg2a, cg2b, cg2c, cg3a, cg3b, cg3c, cg4a, cg4b, cg4c, CD.av_i]
  have cl_xa := DVat.cntA_le (a) oa
  have cn_xa := DVat.cntA_nn (a)
  refine TCall.ref (by simp only [EO, DVat.c_noLp, cxa1d, cxa1c, cxa2d, cxa2c, cxa3d, cxa3c, cxa4d, cxa4c, cg1d, cg1c, cg2d, cg2c, cg3d, cg3c, cg4d, cg4c]) (laws_markVat_T (a) (1) (by omega) (by omega) (oa.mono (by omega)) _ o_xa n_xa) ?_
  rintro _ H3 ⟨rfl, hl, hf, o_xa⟩
  replace hl : H3.length = H2.length := hl
  replace hf : ∀ c, c ∉ f_xa → H3[c]? = H2[c]? := hf
  replace o_g := o_g.frame fun c hc => hf c (fun h2 => d_xa_g c h2 hc)
  replace xh := xh.mark hl hf g_xa
  simp only [EV, EL, EB, EF, q_bx, if_true, if_false, Bool.false_eq_true, Nat.reduceAdd, Option.bind_some, Bool.not_true, Bool.not_false, Nat.reduceBEq, laws_FnExactUpgradeObjects_r, laws_FnExactUpgradeObjects_d0_q, EB2, EB4, ER, bne_self_eq_false, beq_self_eq_true, decide_true, DVat.c, cxa1a, cxa1b, cxa1c, cxa2a, cxa2b, cxa2c, cxa3a, cxa3b, cxa3c, cxa4a, cxa4b, cxa4c, cg1a, cg1b, cg1c, cg2a, cg2b, cg2c, cg3a, cg3b, cg3c, cg4a, cg4b, cg4c, CD.av_i]
  have yk : decide (1 + DVat.cntA (a) < 0) = false := decide_eq_false (by omega)
  simp only [EV, EL, EB, EF, q_bx, if_true, if_false, Bool.false_eq_true, Nat.reduceAdd, Option.bind_some, Bool.not_true, Bool.not_false, Nat.reduceBEq, laws_FnExactUpgradeObjects_r, laws_FnExactUpgradeObjects_d0_q, EB2, EB4, ER, bne_self_eq_false, beq_self_eq_true, decide_true, DVat.c, cxa1a, cxa1b, cxa1c, cxa2a, cxa2b, cxa2c, cxa3a, cxa3b, cxa3c, cxa4a, cxa4b, cxa4c, cg1a, cg1b, cg1c, cg2a, cg2b, cg2c, cg3a, cg3b, cg3c, cg4a, cg4b, cg4c, CD.av_i, yk]
  refine TCall.see (by simp only [EO, DVat.c_noLp, cxa1d, cxa1c, cxa2d, cxa2c, cxa3d, cxa3c, cxa4d, cxa4c, cg1d, cg1c, cg2d, cg2c, cg3d, cg3c, cg4d, cg4c]) (snap_c (OwnL.see (DVat.c_eq true _) o_g) (snap_c (.same _) snap_n)) (fun h => laws_eqVat_T true false (upV a fm tt n) (upV a fm tt n) (rok.mono (by omega)) h) (.bool _) ?_
  simp only [EV, EL, EB, EF, q_bx, if_true, if_false, Bool.false_eq_true, Nat.reduceAdd, Option.bind_some, Bool.not_true, Bool.not_false, Nat.reduceBEq, laws_FnExactUpgradeObjects_r, laws_FnExactUpgradeObjects_d0_q, EB2, EB4, ER, bne_self_eq_false, beq_self_eq_true, decide_true, DVat.c, cxa1a, cxa1b, cxa1c, cxa2a, cxa2b, cxa2c, cxa3a, cxa3b, cxa3c, cxa4a, cxa4b, cxa4c, cg1a, cg1b, cg1c, cg2a, cg2b, cg2c, cg3a, cg3b, cg3c, cg4a, cg4b, cg4c, CD.av_i, yk]
  have cl_g := DVat.cntA_le (upV a fm tt n) rok
  have cn_g := DVat.cntA_nn (upV a fm tt n)
  refine TCall.ref (by simp only [EO, DVat.c_noLp, cxa1d, cxa1c, cxa2d, cxa2c, cxa3d, cxa3c, cxa4d, cxa4c, cg1d, cg1c, cg2d, cg2c, cg3d, cg3c, cg4d, cg4c]) (laws_markVat_T (upV a fm tt n) (1) (by omega) (by omega) (rok.mono (by omega)) _ o_g n_g) ?_
  rintro _ H4 ⟨rfl, hl, hf, o_g⟩
  replace hl : H4.length = H3.length := hl
  replace hf : ∀ c, c ∉ f_g → H4[c]? = H3[c]? := hf
  replace o_xa := o_xa.frame fun c hc => hf c (d_xa_g c hc)
  replace xh := xh.mark hl hf g_g
  simp only [EV, EL, EB, EF, q_bx, if_true, if_false, Bool.false_eq_true, Nat.reduceAdd, Option.bind_some, Bool.not_true, Bool.not_false, Nat.reduceBEq, laws_FnExactUpgradeObjects_r, laws_FnExactUpgradeObjects_d0_q, EB2, EB4, ER, bne_self_eq_false, beq_self_eq_true, decide_true, DVat.c, cxa1a, cxa1b, cxa1c, cxa2a, cxa2b, cxa2c, cxa3a, cxa3b, cxa3c, cxa4a, cxa4b, cxa4c, cg1a, cg1b, cg1c, cg2a, cg2b, cg2c, cg3a, cg3b, cg3c, cg4a, cg4b, cg4c, CD.av_i, yk]
  have ym : decide (1 + DVat.cntA (upV a fm tt n) < 0) = false := decide_eq_false (by omega)
  refine TCall.see (by simp only [EO, DVat.c_noLp, cxa1d, cxa1c, cxa2d, cxa2c, cxa3d, cxa3c, cxa4d, cxa4c, cg1d, cg1c, cg2d, cg2c, cg3d, cg3c, cg4d, cg4c]) (snap_c (OwnL.see (DVat.c_eq true _) o_g) (snap_c (.same _) snap_n)) (fun h => laws_heldVat_T true (upV a fm tt n) 1 (by omega) (by omega) (rok.mono (by omega)) h) (.int _ _) ?_
  simp only [EV, EL, EB, EF, q_bx, if_true, if_false, Bool.false_eq_true, Nat.reduceAdd, Option.bind_some, Bool.not_true, Bool.not_false, Nat.reduceBEq, laws_FnExactUpgradeObjects_r, laws_FnExactUpgradeObjects_d0_q, EB2, EB4, ER, bne_self_eq_false, beq_self_eq_true, decide_true, DVat.c, cxa1a, cxa1b, cxa1c, cxa2a, cxa2b, cxa2c, cxa3a, cxa3b, cxa3c, cxa4a, cxa4b, cxa4c, cg1a, cg1b, cg1c, cg2a, cg2b, cg2c, cg3a, cg3b, cg3c, cg4a, cg4b, cg4c, CD.av_i, yk, ym]
  refine TCall.val (by simp only [EO, DVat.c_noLp, cxa1d, cxa1c, cxa2d, cxa2c, cxa3d, cxa3c, cxa4d, cxa4c, cg1d, cg1c, cg2d, cg2c, cg3d, cg3c, cg4d, cg4c]) (laws_toVat_V false a oa _) ?_
  simp only [EV, EL, EB, EF, q_bx, if_true, if_false, Bool.false_eq_true, Nat.reduceAdd, Option.bind_some, Bool.not_true, Bool.not_false, Nat.reduceBEq, laws_FnExactUpgradeObjects_r, laws_FnExactUpgradeObjects_d0_q, EB2, EB4, ER, bne_self_eq_false, beq_self_eq_true, decide_true, DVat.c, cxa1a, cxa1b, cxa1c, cxa2a, cxa2b, cxa2c, cxa3a, cxa3b, cxa3c, cxa4a, cxa4b, cxa4c, cg1a, cg1b, cg1c, cg2a, cg2b, cg2c, cg3a, cg3b, cg3c, cg4a, cg4b, cg4c, CD.av_i, yk, ym]
  refine TCall.val (by simp only [EO, DVat.c_noLp, cxa1d, cxa1c, cxa2d, cxa2c, cxa3d, cxa3c, cxa4d, cxa4c, cg1d, cg1c, cg2d, cg2c, cg3d, cg3c, cg4d, cg4c]) (impl_UpgradeObjects_V a oa fm tt n _) ?_
  simp only [EV, EL, EB, EF, q_bx, if_true, if_false, Bool.false_eq_true, Nat.reduceAdd, Option.bind_some, Bool.not_true, Bool.not_false, Nat.reduceBEq, laws_FnExactUpgradeObjects_r, laws_FnExactUpgradeObjects_d0_q, EB2, EB4, ER, bne_self_eq_false, beq_self_eq_true, decide_true, DVat.c, cxa1a, cxa1b, cxa1c, cxa2a, cxa2b, cxa2c, cxa3a, cxa3b, cxa3c, cxa4a, cxa4b, cxa4c, cg1a, cg1b, cg1c, cg2a, cg2b, cg2c, cg3a, cg3b, cg3c, cg4a, cg4b, cg4c, CD.av_i, yk, ym]
  refine TCall.val (by simp only [EO, DVat.c_noLp, cxa1d, cxa1c, cxa2d, cxa2c, cxa3d, cxa3c, cxa4d, cxa4c, cg1d, cg1c, cg2d, cg2c, cg3d, cg3c, cg4d, cg4c]) (laws_eqVat_T false false (upV a fm tt n) (upV a fm tt n) (rok.mono (by omega)) _) ?_
  simp only [EV, EL, EB, EF, q_bx, if_true, if_false, Bool.false_eq_true, Nat.reduceAdd, Option.bind_some, Bool.not_true, Bool.not_false, Nat.reduceBEq, laws_FnExactUpgradeObjects_r, laws_FnExactUpgradeObjects_d0_q, EB2, EB4, ER, bne_self_eq_false, beq_self_eq_true, decide_true, DVat.c, cxa1a, cxa1b, cxa1c, cxa2a, cxa2b, cxa2c, cxa3a, cxa3b, cxa3c, cxa4a, cxa4b, cxa4c, cg1a, cg1b, cg1c, cg2a, cg2b, cg2c, cg3a, cg3b, cg3c, cg4a, cg4b, cg4c, CD.av_i, yk, ym]
  refine TCall.see (by simp only [EO, DVat.c_noLp, cxa1d, cxa1c, cxa2d, cxa2c, cxa3d, cxa3c, cxa4d, cxa4c, cg1d, cg1c, cg2d, cg2c, cg3d, cg3c, cg4d, cg4c]) (snap_c (OwnL.see (DVat.c_eq true _) o_g) (snap_c (.same _) snap_n)) (fun h => laws_heldVat_T true (upV a fm tt n) 1 (by omega) (by omega) (rok.mono (by omega)) h) (.int _ _) ?_
  simp only [EV, EL, EB, EF, q_bx, if_true, if_false, Bool.false_eq_true, Nat.reduceAdd, Option.bind_some, Bool.not_true, Bool.not_false, Nat.reduceBEq, laws_FnExactUpgradeObjects_r, laws_FnExactUpgradeObjects_d0_q, EB2, EB4, ER, bne_self_eq_false, beq_self_eq_true, decide_true, DVat.c, cxa1a, cxa1b, cxa1c, cxa2a, cxa2b, cxa2c, cxa3a, cxa3b, cxa3c, cxa4a, cxa4b, cxa4c, cg1a, cg1b, cg1c, cg2a, cg2b, cg2c, cg3a, cg3b, cg3c, cg4a, cg4b, cg4c, CD.av_i, yk, ym]
  first | exact ⟨rfl, xh.out⟩ | exact xh.out | exact ⟨rfl, rfl, xh.out⟩

end Go.Proofs.YtleddolmolkpfaaGreat

