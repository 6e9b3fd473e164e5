import Derived.Test.YtjohoameeeaafaaR1GC
set_option linter.unusedVariables false
set_option linter.unusedSimpArgs false
namespace Go.Proofs.Ytjohoameeeaafaa
open Go.AM
set_option linter.unusedVariables false
set_option linter.unusedSimpArgs false
variable {Γ : Glob}
theorem spec_GuessCall_V (a : Int)  (p : Int)  (q : Int)  (s : ByteArray) (os : s.size ≤ 1048576) (h : AH) : T Try.prog Γ Fn.spec_GuessCall [.int .i64 a, .int .i64 p, .int .i64 q, .str s] h fun v h' => v = .agg ((guessF a p q s).c false) ∧ h' = h := by
  have := (spec_GuessCall_T (Γ := Γ) a p q s h).frozen
  simpa only [List.map_cons, List.map_nil, resOf_1, resOf_2, rd_c, rd_a, CD.av_sl, CD.av_i, CD.av_b, CD.av_s, List.map_map, Function.comp_def, DMessage.c_eq] using this
theorem impl_GuessCall_V (a : Int)  (p : Int)  (q : Int)  (s : ByteArray) (os : s.size ≤ 1048576) (h : AH) : T Try.prog Γ Fn.impl_GuessCall [.int .i64 a, .int .i64 p, .int .i64 q, .str s] h fun v h' => v = .agg ((guessF a p q s).c false) ∧ h' = h := by
  have := (impl_GuessCall_T (Γ := Γ) a p q s h).frozen
  simpa only [List.map_cons, List.map_nil, resOf_1, resOf_2, rd_c, rd_a, CD.av_sl, CD.av_i, CD.av_b, CD.av_s, List.map_map, Function.comp_def, DMessage.c_eq] using this
theorem law_GuessCall (a : Int)  (p : Int)  (q : Int)  (s : ByteArray) (hs : s.size ≤ maxLen) (h : AH) : T Try.prog Γ Fn.laws_FnExactGuessCall [.int .i64 a, .int .i64 p, .int .i64 q, .str s] h fun v h' => v = .bool true ∧ h' = h := by
  refine (?_ : T Try.prog Γ Fn.laws_FnExactGuessCall _ h fun v h' => v = .bool true ∧ ∃ N, h' = h ++ N).drop (by rintro v h' ⟨rfl, N, rfl⟩; exact ⟨N, rfl, .bool _, rfl, rfl⟩)
  refine laws_FnExactGuessCall_e (aw_sound tabOK mixed [] _ _ _ ?_)
  unfold laws_FnExactGuessCall_c
  simp only [EV, EL, EB, EF, q_bx, if_true, if_false, Bool.false_eq_true, Nat.reduceAdd, Option.bind_some, Bool.not_true, Bool.not_false, Nat.reduceBEq, laws_FnExactGuessCall_r, EB2, ER, bne_self_eq_false, beq_self_eq_true, decide_true, DMessage.c]
  by_cases ns : (s.size : Int) > 1048576
  · simp only [EV, EL, EB, EF, q_bx, if_true, if_false, Bool.false_eq_true, Nat.reduceAdd, Option.bind_some, Bool.not_true, Bool.not_false, Nat.reduceBEq, laws_FnExactGuessCall_r, EB2, ER, bne_self_eq_false, beq_self_eq_true, decide_true, DMessage.c, len_str, decide_eq_true ns]
    first | exact ⟨rfl, rfl, [], by simp⟩ | exact ⟨rfl, [], by simp⟩ | exact ⟨[], by simp⟩
  simp only [EV, EL, EB, EF, q_bx, if_true, if_false, Bool.false_eq_true, Nat.reduceAdd, Option.bind_some, Bool.not_true, Bool.not_false, Nat.reduceBEq, laws_FnExactGuessCall_r, EB2, ER, bne_self_eq_false, beq_self_eq_true, decide_true, DMessage.c, len_str, decide_eq_false ns]
  have os : s.size ≤ 1048576 := by omega
  refine TCall.val (by simp only [EO, DMessage.c_noLp]) (spec_GuessCall_V a p q s os _) ?_
  simp only [EV, EL, EB, EF, q_bx, if_true, if_false, Bool.false_eq_true, Nat.reduceAdd, Option.bind_some, Bool.not_true, Bool.not_false, Nat.reduceBEq, laws_FnExactGuessCall_r, EB2, ER, bne_self_eq_false, beq_self_eq_true, decide_true, DMessage.c, len_str, decide_eq_false ns]
  have xh : HExt h h := HExt.refl h
  refine TCall.own (by simp only [EO, DMessage.c_noLp]) (snap_c (.same _) (snap_c (.same _) (snap_c (.same _) (snap_c (.same _) snap_n)))) (impl_GuessCall_T a p q s) ?_
  have xh0 := xh
  rintro _ H1 fr
  replace fr : Fresh h _ _ _ := fr
  obtain ⟨as_g, f_g, rfl, o_g, n_g, b_g, e_g⟩ := fr.a1
  have oog := o_g
  simp only [DMessage.cd, ownL_c, ownL_n, own_i, own_b, own_s] at oog
  obtain ⟨_, _, _, _, rfl, _, ⟨rfl, rfl⟩, ⟨_, _, _, _, rfl, _, ⟨rfl, rfl⟩, ⟨_, _, _, _, rfl, _, ⟨rfl, rfl⟩, ⟨_, _, _, _, rfl, _, ⟨rfl, rfl⟩, ⟨_, _, _, _, rfl, _, ⟨rfl, rfl⟩, ⟨ag5, _, _, _, rfl, _, ug5, ⟨_, _, _, _, rfl, _, ⟨rfl, rfl⟩, ⟨_, _, _, _, rfl, _, ⟨rfl, rfl⟩, ⟨_, _, _, _, rfl, _, ⟨rfl, rfl⟩, ⟨_, _, _, _, rfl, _, ⟨rfl, rfl⟩, ⟨_, _, _, _, rfl, _, ⟨rfl, rfl⟩, ⟨_, _, _, _, rfl, _, ⟨rfl, rfl⟩, ⟨rfl, _⟩⟩⟩⟩⟩⟩⟩⟩⟩⟩⟩⟩⟩ := oog
  obtain ⟨cg5a, cg5b, cg5c, cg5d⟩ := ug5.cell
  have xh := xh.trans e_g
  have g_g : ∀ c ∈ f_g, h.length ≤ c := fun c hc => by have := b_g c hc; have := xh0.len; omega
  simp only [EV, EL, EB, EF, q_bx, if_true, if_false, Bool.false_eq_true, Nat.reduceAdd, Option.bind_some, Bool.not_true, Bool.not_false, Nat.reduceBEq, laws_FnExactGuessCall_r, EB2, ER, bne_self_eq_false, beq_self_eq_true, decide_true, DMessage.c, len_str, decide_eq_false ns, cg5a, cg5b, cg5c]
  refine TCall.see (by simp only [EO, DMessage.c_noLp, cg5d, cg5c]) (snap_c (OwnL.see (DMessage.c_eq true _) o_g) (snap_c (.same _) snap_n)) (fun h => laws_eqMessage_T true false (guessF a p q s) (guessF a p q s) (guess_ok a p q (by omega)) h) (.bool _) ?_
  simp only [EV, EL, EB, EF, q_bx, if_true, if_false, Bool.false_eq_true, Nat.reduceAdd, Option.bind_some, Bool.not_true, Bool.not_false, Nat.reduceBEq, laws_FnExactGuessCall_r, EB2, ER, bne_self_eq_false, beq_self_eq_true, decide_true, DMessage.c, len_str, decide_eq_false ns, cg5a, cg5b, cg5c]
  have cl_g := DMessage.cntA_le (guessF a p q s) (guess_ok a p q os)
  have cn_g := DMessage.cntA_nn (guessF a p q s)
  refine TCall.ref (by simp only [EO, DMessage.c_noLp, cg5d, cg5c]) (laws_markMessage_T (guessF a p q s) (1) (by omega) (by omega) (guess_ok a p q (by omega)) _ o_g n_g) ?_
  rintro _ H2 ⟨rfl, hl, hf, o_g⟩
  replace hl : H2.length = H1.length := hl
  replace hf : ∀ c, c ∉ f_g → H2[c]? = H1[c]? := hf
  replace xh := xh.mark hl hf g_g
  simp only [EV, EL, EB, EF, q_bx, if_true, if_false, Bool.false_eq_true, Nat.reduceAdd, Option.bind_some, Bool.not_true, Bool.not_false, Nat.reduceBEq, laws_FnExactGuessCall_r, EB2, ER, bne_self_eq_false, beq_self_eq_true, decide_true, DMessage.c, len_str, decide_eq_false ns, cg5a, cg5b, cg5c]
  have ym : decide (1 + DMessage.cntA (guessF a p q s) < 0) = false := decide_eq_false (by omega)
  refine TCall.see (by simp only [EO, DMessage.c_noLp, cg5d, cg5c]) (snap_c (OwnL.see (DMessage.c_eq true _) o_g) (snap_c (.same _) snap_n)) (fun h => laws_heldMessage_T true (guessF a p q s) 1 (by omega) (by omega) (guess_ok a p q (by omega)) h) (.int _ _) ?_
  simp only [EV, EL, EB, EF, q_bx, if_true, if_false, Bool.false_eq_true, Nat.reduceAdd, Option.bind_some, Bool.not_true, Bool.not_false, Nat.reduceBEq, laws_FnExactGuessCall_r, EB2, ER, bne_self_eq_false, beq_self_eq_true, decide_true, DMessage.c, len_str, decide_eq_false ns, cg5a, cg5b, cg5c, ym]
  refine TCall.val (by simp only [EO, DMessage.c_noLp, cg5d, cg5c]) (impl_GuessCall_V a p q s os _) ?_
  simp only [EV, EL, EB, EF, q_bx, if_true, if_false, Bool.false_eq_true, Nat.reduceAdd, Option.bind_some, Bool.not_true, Bool.not_false, Nat.reduceBEq, laws_FnExactGuessCall_r, EB2, ER, bne_self_eq_false, beq_self_eq_true, decide_true, DMessage.c, len_str, decide_eq_false ns, cg5a, cg5b, cg5c, ym]
  refine TCall.val (by simp only [EO, DMessage.c_noLp, cg5d, cg5c]) (laws_eqMessage_T false false (guessF a p q s) (guessF a p q s) (guess_ok a p q (by omega)) _) ?_
  simp only [EV, EL, EB, EF, q_bx, if_true, if_false, Bool.false_eq_true, Nat.reduceAdd, Option.bind_some, Bool.not_true, Bool.not_false, Nat.reduceBEq, laws_FnExactGuessCall_r, EB2, ER, bne_self_eq_false, beq_self_eq_true, decide_true, DMessage.c, len_str, decide_eq_false ns, cg5a, cg5b, cg5c, ym]
  refine TCall.see (by simp only [EO, DMessage.c_noLp, cg5d, cg5c]) (snap_c (OwnL.see (DMessage.c_eq true _) o_g) (snap_c (.same _) snap_n)) (fun h => laws_heldMessage_T true (guessF a p q s) 1 (by omega) (by omega) (guess_ok a p q (by omega)) h) (.int _ _) ?_
  simp only [EV, EL, EB, EF, q_bx, if_true, if_false, Bool.false_eq_true, Nat.reduceAdd, Option.bind_some, Bool.not_true, Bool.not_false, Nat.reduceBEq, laws_FnExactGuessCall_r, EB2, ER, bne_self_eq_false, beq_self_eq_true, decide_true, DMessage.c, len_str, decide_eq_false ns, cg5a, cg5b, cg5c, ym]
  first | exact ⟨rfl, xh.out⟩ | exact xh.out | exact ⟨rfl, rfl, xh.out⟩

end Go.Proofs.Ytjohoameeeaafaa
