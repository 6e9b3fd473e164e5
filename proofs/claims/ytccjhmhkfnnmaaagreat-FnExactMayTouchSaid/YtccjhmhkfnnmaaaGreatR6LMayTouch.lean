import Derived.Test.YtccjhmhkfnnmaaaGreatR6MX
import Derived.Test.YtccjhmhkfnnmaaaGreatR6M6
set_option linter.unusedVariables false
set_option linter.unusedSimpArgs false
namespace Go.Proofs.YtccjhmhkfnnmaaaGreat
open Go.AM
set_option linter.unusedVariables false
set_option linter.unusedSimpArgs false
variable {Γ : Glob}
theorem link_ok2 {v : DVat} (hv : v.ok 1048576) : ∀ l ∈ v.links, l.exports.length ≤ 1048576 ∧ l.answers.length ≤ 1048576 := fun l hl => by
  have := hv.2.2.2.2.2.1 l hl
  exact ⟨this.1, this.2.2⟩
theorem kbE_T (β : Bool) (v : DVat) (hv : v.ok 1048576) (p : Int) (h : AH) : T Tryz.prog Γ Fn.kbE [.agg (v.c β), .int .i64 p] h (Fresh h [.c (.sl 1 ((mayF v p).map fun n => [.i .i64 n]))]) :=
  kbE_T0 β v hv.1 hv.2.2.2.2.1 (link_ok2 hv) p h
theorem kae_T (β : Bool) (v : DVat) (hv : v.ok 1048576) (p : Int) (h : AH) : T Tryz.prog Γ Fn.kae [.agg (v.c β), .int .i64 p] h (Fresh h [.c (.sl 1 ((mayF v p).map fun n => [.i .i64 n]))]) :=
  kae_T0 β v hv.1 hv.2.2.2.2.1 (link_ok2 hv) p h
theorem mayF_len (v : DVat) (hv : v.ok 1048576) (p : Int) : (mayF v p).length ≤ 1048576 := Nat.le_trans (marksF_len _ _) hv.1
theorem kbE_V (a : DVat) (oa : a.ok 1048576) (m : Int)  (h : AH) : T Tryz.prog Γ Fn.kbE [.agg (a.c false), .int .i64 m] h fun v h' => v = .vs false 1 false ((mayF a m).map fun n => [.int .i64 n]) ∧ h' = h := by
  have := (kbE_T (Γ := Γ) false a oa m h).frozen
  simpa only [List.map_cons, List.map_nil, resOf_1, resOf_2, rd_c, rd_a, CD.av_sl, CD.av_i, CD.av_b, CD.av_s, List.map_map, Function.comp_def] using this
theorem kae_V (a : DVat) (oa : a.ok 1048576) (m : Int)  (h : AH) : T Tryz.prog Γ Fn.kae [.agg (a.c false), .int .i64 m] h fun v h' => v = .vs false 1 false ((mayF a m).map fun n => [.int .i64 n]) ∧ h' = h := by
  have := (kae_T (Γ := Γ) false a oa m h).frozen
  simpa only [List.map_cons, List.map_nil, resOf_1, resOf_2, rd_c, rd_a, CD.av_sl, CD.av_i, CD.av_b, CD.av_s, List.map_map, Function.comp_def] using this
theorem law_MayTouch (a : DVat) (ha : a.ok maxLen) (m : Int)  (h : AH) : T Tryz.prog Γ Fn.kan [.agg (a.c false), .int .i64 m] h fun v h' => v = .bool true ∧ h' = h := by
  refine (?_ : T Tryz.prog Γ Fn.kan _ h fun v h' => v = .bool true ∧ ∃ N, h' = h ++ N).drop (by rintro v h' ⟨rfl, N, rfl⟩; exact ⟨N, rfl, .bool _, rfl, rfl⟩)
  refine kan_e (aw_sound tabOK mixed [] _ _ _ ?_)
  unfold kan_c
  simp only [EZ, q_bx, if_true, if_false, Nat.reduceAdd, Option.bind_some, Nat.reduceBEq, kan_r, kan_d0_q, EB2, ER, bne_self_eq_false, beq_self_eq_true, decide_true, DVat.c]
  refine TCall.val (by simp only [EO, DVat.c_noLp]) (kba_T false a ha 1048576 (by omega) (by omega) _) ?_
  simp only [EZ, q_bx, if_true, if_false, Nat.reduceAdd, Option.bind_some, Nat.reduceBEq, kan_r, kan_d0_q, EB2, ER, bne_self_eq_false, beq_self_eq_true, decide_true, DVat.c]
  by_cases na : (a.szf 1048576) < 0
  · simp only [EZ, q_bx, if_true, if_false, Nat.reduceAdd, Option.bind_some, Nat.reduceBEq, kan_r, kan_d0_q, EB2, ER, bne_self_eq_false, beq_self_eq_true, decide_true, DVat.c, decide_eq_true na]
    first | exact ⟨rfl, rfl, [], by simp⟩ | exact ⟨rfl, [], by simp⟩ | exact ⟨[], by simp⟩
  have qa := DVat.szf_ok a 1048576 (by omega) (by omega) (Int.not_lt.1 na)
  simp only [EZ, q_bx, if_true, if_false, Nat.reduceAdd, Option.bind_some, Nat.reduceBEq, kan_r, kan_d0_q, EB2, ER, bne_self_eq_false, beq_self_eq_true, decide_true, DVat.c, decide_eq_false na]
  have oa := qa.1
  refine TCall.val (by simp only [EO, DVat.c_noLp]) (kbu_V false a oa _) ?_
  simp only [EZ, q_bx, if_true, if_false, Nat.reduceAdd, Option.bind_some, Nat.reduceBEq, kan_r, kan_d0_q, EB2, ER, bne_self_eq_false, beq_self_eq_true, decide_true, DVat.c]
  refine TCall.val (by simp only [EO, DVat.c_noLp]) (kbE_V a oa m _) ?_
  simp only [EZ, q_bx, if_true, if_false, Nat.reduceAdd, Option.bind_some, Nat.reduceBEq, kan_r, kan_d0_q, EB2, ER, bne_self_eq_false, beq_self_eq_true, decide_true, DVat.c]
  have rl := mayF_len a oa m
  have xh : HExt h h := HExt.refl h
  refine TCall.ref (by simp only [EO, DVat.c_noLp]) (kbu_T false a oa _) ?_
  have xh0 := xh
  rintro _ H1 fr
  replace fr : Fresh h _ _ _ := fr
  obtain ⟨as_xa, f_xa, rfl, o_xa, n_xa, b_xa, e_xa⟩ := fr.a1
  have ooxa := o_xa
  simp only [DVat.cd, ownL_c, ownL_n, own_i, own_b, own_s] at ooxa
  obtain ⟨_, _, _, _, rfl, _, ⟨rfl, rfl⟩, ⟨axa1, _, _, _, rfl, _, uxa1, ⟨axa2, _, _, _, rfl, _, uxa2, ⟨axa3, _, _, _, rfl, _, uxa3, ⟨axa4, _, _, _, rfl, _, uxa4, ⟨rfl, _⟩⟩⟩⟩⟩⟩ := ooxa
  obtain ⟨cxa1a, cxa1b, cxa1c, cxa1d⟩ := uxa1.cell
  obtain ⟨cxa2a, cxa2b, cxa2c, cxa2d⟩ := uxa2.cell
  obtain ⟨cxa3a, cxa3b, cxa3c, cxa3d⟩ := uxa3.cell
  obtain ⟨cxa4a, cxa4b, cxa4c, cxa4d⟩ := uxa4.cell
  have xh := xh.trans e_xa
  have g_xa : ∀ c ∈ f_xa, h.length ≤ c := fun c hc => by have := b_xa c hc; have := xh0.len; omega
  simp only [EZ, q_bx, if_true, if_false, Nat.reduceAdd, Option.bind_some, Nat.reduceBEq, kan_r, kan_d0_q, EB2, ER, bne_self_eq_false, beq_self_eq_true, decide_true, DVat.c, cxa1a, cxa1b, cxa1c, cxa2a, cxa2b, cxa2c, cxa3a, cxa3b, cxa3c, cxa4a, cxa4b, cxa4c]
  refine TCall.own (by simp only [EO, DVat.c_noLp, cxa1d, cxa1c, cxa2d, cxa2c, cxa3d, cxa3c, cxa4d, cxa4c]) (snap_c (OwnL.see (DVat.c_eq true _) o_xa) (snap_c (.same _) snap_n)) (kae_T true a oa m) ?_
  have xh0 := xh
  rintro _ H2 fr
  replace fr : Fresh H1 _ _ _ := fr
  obtain ⟨f_g, o_g, n_g, b_g, e_g⟩ := fr.c1
  have xh := xh.trans e_g
  have d_xa_g : ∀ c, c ∈ f_xa → c ∉ f_g := fun c h1 h2 => by have := o_xa.lt c h1; have := b_g c h2; omega
  replace o_xa := o_xa.ext e_g
  have g_g : ∀ c ∈ f_g, h.length ≤ c := fun c hc => by have := b_g c hc; have := xh0.len; omega
  obtain ⟨cga, cgb, cgc, cgd⟩ := o_g.cell
  simp only [EZ, q_bx, if_true, if_false, Nat.reduceAdd, Option.bind_some, Nat.reduceBEq, kan_r, kan_d0_q, EB2, ER, bne_self_eq_false, beq_self_eq_true, decide_true, DVat.c, cxa1a, cxa1b, cxa1c, cxa2a, cxa2b, cxa2c, cxa3a, cxa3b, cxa3c, cxa4a, cxa4b, cxa4c, cga, cgb, cgc]
  refine TCall.see (by simp only [EO, DVat.c_noLp, cxa1d, cxa1c, cxa2d, cxa2c, cxa3d, cxa3c, cxa4d, cxa4c, cgd]) (snap_c (Own.see ints_see o_g) (snap_c (.same _) snap_n)) (fun h => kau_T true false (mayF a m) (mayF a m) (by omega) h) (.bool _) ?_
  simp only [EZ, q_bx, if_true, if_false, Nat.reduceAdd, Option.bind_some, Nat.reduceBEq, kan_r, kan_d0_q, EB2, ER, bne_self_eq_false, beq_self_eq_true, decide_true, DVat.c, cxa1a, cxa1b, cxa1c, cxa2a, cxa2b, cxa2c, cxa3a, cxa3b, cxa3c, cxa4a, cxa4b, cxa4c, cga, cgb, cgc]
  refine TCall.val (by simp only [EO, DVat.c_noLp, cxa1d, cxa1c, cxa2d, cxa2c, cxa3d, cxa3c, cxa4d, cxa4c, cgd]) (kbu_V false a oa _) ?_
  simp only [EZ, q_bx, if_true, if_false, Nat.reduceAdd, Option.bind_some, Nat.reduceBEq, kan_r, kan_d0_q, EB2, ER, bne_self_eq_false, beq_self_eq_true, decide_true, DVat.c, cxa1a, cxa1b, cxa1c, cxa2a, cxa2b, cxa2c, cxa3a, cxa3b, cxa3c, cxa4a, cxa4b, cxa4c, cga, cgb, cgc]
  refine TCall.see (by simp only [EO, DVat.c_noLp, cxa1d, cxa1c, cxa2d, cxa2c, cxa3d, cxa3c, cxa4d, cxa4c, cgd]) (snap_c (OwnL.see (DVat.c_eq true _) o_xa) (snap_c (.same _) snap_n)) (fun h => kaH_T true false (a) (a) (oa.mono (by omega)) h) (.bool _) ?_
  simp only [EZ, q_bx, if_true, if_false, Nat.reduceAdd, Option.bind_some, Nat.reduceBEq, kan_r, kan_d0_q, EB2, ER, bne_self_eq_false, beq_self_eq_true, decide_true, DVat.c, cxa1a, cxa1b, cxa1c, cxa2a, cxa2b, cxa2c, cxa3a, cxa3b, cxa3c, cxa4a, cxa4b, cxa4c, cga, cgb, cgc]
  have cl_xa := DVat.cntA_le (a) oa
  have cn_xa := DVat.cntA_nn (a)
  refine TCall.ref (by simp only [EO, DVat.c_noLp, cxa1d, cxa1c, cxa2d, cxa2c, cxa3d, cxa3c, cxa4d, cxa4c, cgd]) (kaV_T (a) (1) (by omega) (by omega) (oa.mono (by omega)) _ o_xa n_xa) ?_
  rintro _ H3 ⟨rfl, hl, hf, o_xa⟩
  replace hl : H3.length = H2.length := hl
  replace hf : ∀ c, c ∉ f_xa → H3[c]? = H2[c]? := hf
  replace o_g := o_g.frame fun c hc => hf c (fun h2 => d_xa_g c h2 hc)
  replace xh := xh.mark hl hf g_xa
  simp only [EZ, q_bx, if_true, if_false, Nat.reduceAdd, Option.bind_some, Nat.reduceBEq, kan_r, kan_d0_q, EB2, ER, bne_self_eq_false, beq_self_eq_true, decide_true, DVat.c, cxa1a, cxa1b, cxa1c, cxa2a, cxa2b, cxa2c, cxa3a, cxa3b, cxa3c, cxa4a, cxa4b, cxa4c, cga, cgb, cgc]
  have yk : decide (1 + DVat.cntA (a) < 0) = false := decide_eq_false (by omega)
  simp only [EZ, q_bx, if_true, if_false, Nat.reduceAdd, Option.bind_some, Nat.reduceBEq, kan_r, kan_d0_q, EB2, ER, bne_self_eq_false, beq_self_eq_true, decide_true, DVat.c, cxa1a, cxa1b, cxa1c, cxa2a, cxa2b, cxa2c, cxa3a, cxa3b, cxa3c, cxa4a, cxa4b, cxa4c, cga, cgb, cgc, yk]
  refine TCall.see (by simp only [EO, DVat.c_noLp, cxa1d, cxa1c, cxa2d, cxa2c, cxa3d, cxa3c, cxa4d, cxa4c, cgd]) (snap_c (Own.see ints_see o_g) (snap_c (.same _) snap_n)) (fun h => kau_T true false (mayF a m) (mayF a m) (by omega) h) (.bool _) ?_
  simp only [EZ, q_bx, if_true, if_false, Nat.reduceAdd, Option.bind_some, Nat.reduceBEq, kan_r, kan_d0_q, EB2, ER, bne_self_eq_false, beq_self_eq_true, decide_true, DVat.c, cxa1a, cxa1b, cxa1c, cxa2a, cxa2b, cxa2c, cxa3a, cxa3b, cxa3c, cxa4a, cxa4b, cxa4c, cga, cgb, cgc, yk]
  have cl_g := cntL_len (c := fun _ : Int => (1 : Int)) (C := 1) (l := mayF a m) (fun _ _ => by omega)
  have cn_g := cntL_nn (c := fun _ : Int => (1 : Int)) (fun _ => by omega) (mayF a m)
  refine TCall.ref (by simp only [EO, DVat.c_noLp, cxa1d, cxa1c, cxa2d, cxa2c, cxa3d, cxa3c, cxa4d, cxa4c, cgd]) (kaO_T (mayF a m) (1) (by omega) (by omega) (by omega) _ o_g n_g) ?_
  rintro _ H4 ⟨rfl, hl, hf, o_g⟩
  replace hl : H4.length = H3.length := hl
  replace hf : ∀ c, c ∉ f_g → H4[c]? = H3[c]? := hf
  replace o_xa := o_xa.frame fun c hc => hf c (d_xa_g c hc)
  replace xh := xh.mark hl hf g_g
  simp only [EZ, q_bx, if_true, if_false, Nat.reduceAdd, Option.bind_some, Nat.reduceBEq, kan_r, kan_d0_q, EB2, ER, bne_self_eq_false, beq_self_eq_true, decide_true, DVat.c, cxa1a, cxa1b, cxa1c, cxa2a, cxa2b, cxa2c, cxa3a, cxa3b, cxa3c, cxa4a, cxa4b, cxa4c, cga, cgb, cgc, yk]
  have ym : decide (1 + cntL (fun _ : Int => (1 : Int)) (mayF a m) < 0) = false := decide_eq_false (by omega)
  refine TCall.see (by simp only [EO, DVat.c_noLp, cxa1d, cxa1c, cxa2d, cxa2c, cxa3d, cxa3c, cxa4d, cxa4c, cgd]) (snap_c (Own.see ints_see o_g) (snap_c (.same _) snap_n)) (fun h => kaK_T true (mayF a m) 1 (by omega) (by omega) (by omega) h) (.int _ _) ?_
  simp only [EZ, q_bx, if_true, if_false, Nat.reduceAdd, Option.bind_some, Nat.reduceBEq, kan_r, kan_d0_q, EB2, ER, bne_self_eq_false, beq_self_eq_true, decide_true, DVat.c, cxa1a, cxa1b, cxa1c, cxa2a, cxa2b, cxa2c, cxa3a, cxa3b, cxa3c, cxa4a, cxa4b, cxa4c, cga, cgb, cgc, yk, ym]
  refine TCall.val (by simp only [EO, DVat.c_noLp, cxa1d, cxa1c, cxa2d, cxa2c, cxa3d, cxa3c, cxa4d, cxa4c, cgd]) (kbu_V false a oa _) ?_
  simp only [EZ, q_bx, if_true, if_false, Nat.reduceAdd, Option.bind_some, Nat.reduceBEq, kan_r, kan_d0_q, EB2, ER, bne_self_eq_false, beq_self_eq_true, decide_true, DVat.c, cxa1a, cxa1b, cxa1c, cxa2a, cxa2b, cxa2c, cxa3a, cxa3b, cxa3c, cxa4a, cxa4b, cxa4c, cga, cgb, cgc, yk, ym]
  refine TCall.val (by simp only [EO, DVat.c_noLp, cxa1d, cxa1c, cxa2d, cxa2c, cxa3d, cxa3c, cxa4d, cxa4c, cgd]) (kae_V a oa m _) ?_
  simp only [EZ, q_bx, if_true, if_false, Nat.reduceAdd, Option.bind_some, Nat.reduceBEq, kan_r, kan_d0_q, EB2, ER, bne_self_eq_false, beq_self_eq_true, decide_true, DVat.c, cxa1a, cxa1b, cxa1c, cxa2a, cxa2b, cxa2c, cxa3a, cxa3b, cxa3c, cxa4a, cxa4b, cxa4c, cga, cgb, cgc, yk, ym]
  refine TCall.val (by simp only [EO, DVat.c_noLp, cxa1d, cxa1c, cxa2d, cxa2c, cxa3d, cxa3c, cxa4d, cxa4c, cgd]) (kau_T false false (mayF a m) (mayF a m) (by omega) _) ?_
  simp only [EZ, q_bx, if_true, if_false, Nat.reduceAdd, Option.bind_some, Nat.reduceBEq, kan_r, kan_d0_q, EB2, ER, bne_self_eq_false, beq_self_eq_true, decide_true, DVat.c, cxa1a, cxa1b, cxa1c, cxa2a, cxa2b, cxa2c, cxa3a, cxa3b, cxa3c, cxa4a, cxa4b, cxa4c, cga, cgb, cgc, yk, ym]
  refine TCall.see (by simp only [EO, DVat.c_noLp, cxa1d, cxa1c, cxa2d, cxa2c, cxa3d, cxa3c, cxa4d, cxa4c, cgd]) (snap_c (Own.see ints_see o_g) (snap_c (.same _) snap_n)) (fun h => kaK_T true (mayF a m) 1 (by omega) (by omega) (by omega) h) (.int _ _) ?_
  simp only [EZ, q_bx, if_true, if_false, Nat.reduceAdd, Option.bind_some, Nat.reduceBEq, kan_r, kan_d0_q, EB2, ER, bne_self_eq_false, beq_self_eq_true, decide_true, DVat.c, cxa1a, cxa1b, cxa1c, cxa2a, cxa2b, cxa2c, cxa3a, cxa3b, cxa3c, cxa4a, cxa4b, cxa4c, cga, cgb, cgc, yk, ym]
  first | exact ⟨rfl, xh.out⟩ | exact xh.out | exact ⟨rfl, rfl, xh.out⟩
end Go.Proofs.YtccjhmhkfnnmaaaGreat
