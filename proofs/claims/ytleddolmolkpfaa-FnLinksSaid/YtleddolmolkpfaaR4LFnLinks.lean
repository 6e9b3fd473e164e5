import Derived.Test.YtleddolmolkpfaaR4LD
import Derived.Test.YtleddolmolkpfaaAmBox4
set_option linter.unusedVariables false
set_option linter.unusedSimpArgs false
namespace Go.Proofs.Ytleddolmolkpfaa
open Go.AM
set_option linter.unusedVariables false
set_option linter.unusedSimpArgs false
variable {Γ : Glob}
theorem laws_big_T (bs : List Int) (h : AH) : T Try.prog Γ Fn.laws_big [.vs false 1 false (bs.map fun n => [.int .u8 n])] h fun v h' => v = .bool (decide (1048576 < (bs.length : Int))) ∧ h' = h := by
  have L0 := len_vm false 1 false bs (fun n => [AV.int .u8 n])
  refine laws_big_e (aw_sound tabOK mixed [] _ _ _ ?_)
  unfold laws_big_c
  simp only [EV, EL, EB, EF, q_bx, if_true, if_false, Bool.false_eq_true, Nat.reduceAdd, Option.bind_some, Bool.not_true, Bool.not_false, Nat.reduceBEq, laws_big_r, L0]
  first | exact ⟨rfl, rfl⟩ | exact rfl
theorem putV (l : DLink) (hl : l.ok 1048576) (e : Int) (h : AH) : T Try.prog Γ Fn.impl_PutExport [.agg (l.c false), .int .i64 e] h fun v h' => v = .tup [.agg ((putE l e).1.c false), .int .i64 (putE l e).2] ∧ h' = h := by
  have := (impl_PutExport_T (Γ := Γ) false l hl e h).frozen
  simpa only [List.map_cons, List.map_nil, resOf_1, resOf_2, rd_c, rd_a, CD.av_i, DLink.c_eq] using this
theorem askV (l : DLink) (hl : l.ok 1048576) (e : Int) (h : AH) : T Try.prog Γ Fn.impl_PutQuestion [.agg (l.c false), .int .i64 e] h fun v h' => v = .tup [.agg ((askE l e).1.c false), .int .i64 (askE l e).2] ∧ h' = h := by
  have := (impl_PutQuestion_T (Γ := Γ) false l hl e h).frozen
  simpa only [List.map_cons, List.map_nil, resOf_1, resOf_2, rd_c, rd_a, CD.av_i, DLink.c_eq] using this
theorem relV (l : DLink) (hl : l.ok 1048576) (pos c : Int) (h : AH) : T Try.prog Γ Fn.impl_ReleaseExport [.agg (l.c false), .int .i64 pos, .int .i64 c] h fun v h' => v = .agg ((relE l pos c).c false) ∧ h' = h := by
  have := (impl_ReleaseExport_T (Γ := Γ) false l hl pos c h).frozen
  simpa only [List.map_cons, List.map_nil, resOf_1, resOf_2, rd_c, rd_a, CD.av_i, DLink.c_eq] using this
theorem dropV (l : List DQuestion) (hl : l.length ≤ 1048576) (i : Int) (h : AH) : T Try.prog Γ Fn.impl_DropEntry [.vs false 2 false (l.map (DQuestion.c false)), .int .i64 i] h fun v h' => v = .vs false 2 false ((dropQ l i).map (DQuestion.c false)) ∧ h' = h := by
  have := (impl_DropEntry_T (Γ := Γ) false l hl i h).frozen
  simpa only [List.map_cons, List.map_nil, resOf_1, resOf_2, rd_c, rd_a, CD.av_sl, List.map_map, Function.comp_def, DQuestion.c_eq] using this
set_option maxHeartbeats 1000000 in
theorem law_FnLinks (bs : List Int) (hb : bs.length ≤ maxLen) (hr : ∀ x ∈ bs, 0 ≤ x ∧ x < 256) (h : AH) : T Try.prog Γ Fn.laws_FnLinks [.vs false 1 false (bs.map fun n => [.int .u8 n])] h fun v h' => v = .bool true ∧ h' = h := by
  refine (?_ : T Try.prog Γ Fn.laws_FnLinks _ h fun v h' => v = .bool true ∧ ∃ N, h' = h ++ N).drop (by rintro v h' ⟨rfl, N, rfl⟩; exact ⟨N, rfl, .bool _, rfl, rfl⟩)
  refine laws_FnLinks_e (aw_sound tabOK mixed [] _ _ _ ?_)
  unfold laws_FnLinks_c
  simp only [EV, EL, EB, EF, q_bx, if_true, if_false, Bool.false_eq_true, Nat.reduceAdd, Option.bind_some, Bool.not_true, Bool.not_false, Nat.reduceBEq, laws_FnLinks_r]
  refine TCall.val (by simp only [EO]) (laws_big_T bs _) ?_
  by_cases nb : 1048576 < (bs.length : Int)
  · simp only [EV, EL, EB, EF, q_bx, if_true, if_false, Bool.false_eq_true, Nat.reduceAdd, Option.bind_some, Bool.not_true, Bool.not_false, Nat.reduceBEq, laws_FnLinks_r, decide_eq_true nb]
    first | exact ⟨rfl, rfl, [], by simp⟩ | exact ⟨rfl, [], by simp⟩
  simp only [EV, EL, EB, EF, q_bx, if_true, if_false, Bool.false_eq_true, Nat.reduceAdd, Option.bind_some, Bool.not_true, Bool.not_false, Nat.reduceBEq, laws_FnLinks_r, decide_eq_false nb]
  refine TCall.ref (by simp only [EO]) (drawLink_V bs (by omega) _) ?_
  rintro _ H ⟨⟨l, e, rfl, inv⟩, he⟩
  replace he : H = h := he
  subst he
  obtain ⟨K, hK, k1, k2, k3, k4⟩ := put_K inv (by omega) e
  obtain ⟨x, hx⟩ : ∃ x, x = (putE l e).1 := ⟨_, rfl⟩
  obtain ⟨p, hp⟩ : ∃ p, p = (putE l e).2 := ⟨_, rfl⟩
  have ix : LInv 31 x := by rw [hx]; exact inv.put (by omega) e
  rw [← hx] at hK k1
  simp only [← hx, ← hp] at k2 k3 k4
  have ox := ix.ok (by omega)
  have ol := inv.ok (by omega)
  have A1 : exportF x.exports p = e := by rw [← k2]; exact (export_K ix hK).trans k3
  have A2 : posF x e = p := by rw [← k2]; exact pos_K hK k1 k3
  obtain ⟨B1, B2⟩ := rel_put ix (by omega) hK k1
  rw [k2] at B1 B2
  have iy : LInv 32 (putE x e).1 := ix.put (by omega) e
  have C : posF l e = 0 → exportF (relE x p 1).exports p = -1 := fun h0 => by rw [← k2]; exact rel_one ix (by omega) hK (k4 h0)
  have ir : LInv 31 (relE x p 1) := ix.rel (by omega) _ _ (by omega)
  obtain ⟨D1, D2, D3, D4⟩ := ask_q inv (by omega) e
  have iq : LInv 31 (askE l e).1 := inv.ask (by omega) e
  have oq := iq.ok (by omega)
  have Ld := len_vm false 2 false l.questions (DQuestion.c false)
  have Lq := len_vm false 2 false (dropQ (askE l e).1.questions (askE l e).2) (DQuestion.c false)
  rw [D2] at Lq
  simp only [EV, EL, EB, EF, q_bx, if_true, if_false, Bool.false_eq_true, Nat.reduceAdd, Option.bind_some, Bool.not_true, Bool.not_false, Nat.reduceBEq, laws_FnLinks_r, ER, EB2, EB4, DLink.c]
  refine TCall.val (by simp only [EO]) (putV l ol e _) ?_
  rw [← hx, ← hp]
  simp only [EV, EL, EB, EF, q_bx, if_true, if_false, Bool.false_eq_true, Nat.reduceAdd, Option.bind_some, Bool.not_true, Bool.not_false, Nat.reduceBEq, laws_FnLinks_r, ER, EB2, EB4, DLink.c]
  refine TCall.val (by simp only [EO]) (impl_FindExport_T false x ox.1 p _) ?_
  simp only [EV, EL, EB, EF, q_bx, if_true, if_false, Bool.false_eq_true, Nat.reduceAdd, Option.bind_some, Bool.not_true, Bool.not_false, Nat.reduceBEq, laws_FnLinks_r, ER, EB2, EB4, DLink.c, A1, bne_self_eq_false]
  refine TCall.val (by simp only [EO]) (impl_PosOf_T false x ox.1 e _) ?_
  simp only [EV, EL, EB, EF, q_bx, if_true, if_false, Bool.false_eq_true, Nat.reduceAdd, Option.bind_some, Bool.not_true, Bool.not_false, Nat.reduceBEq, laws_FnLinks_r, ER, EB2, EB4, DLink.c, A2, bne_self_eq_false]
  refine TCall.val (by simp only [EO]) (putV x ox e _) ?_
  simp only [EV, EL, EB, EF, q_bx, if_true, if_false, Bool.false_eq_true, Nat.reduceAdd, Option.bind_some, Bool.not_true, Bool.not_false, Nat.reduceBEq, laws_FnLinks_r, ER, EB2, EB4, DLink.c]
  refine TCall.val (by simp only [EO]) (relV (putE x e).1 (iy.ok (by omega)) p 1 _) ?_
  rw [B2, B1]
  simp only [EV, EL, EB, EF, q_bx, if_true, if_false, Bool.false_eq_true, Nat.reduceAdd, Option.bind_some, Bool.not_true, Bool.not_false, Nat.reduceBEq, laws_FnLinks_r, ER, EB2, EB4, DLink.c, bne_self_eq_false]
  refine TCall.val (by simp only [EO]) (impl_EqualLinks_T false false x (ox.mono (by omega)) _) ?_
  simp only [EV, EL, EB, EF, q_bx, if_true, if_false, Bool.false_eq_true, Nat.reduceAdd, Option.bind_some, Bool.not_true, Bool.not_false, Nat.reduceBEq, laws_FnLinks_r, ER, EB2, EB4, DLink.c]
  refine TCall.val (by simp only [EO]) (spec_PosOf_T false l ol.1 e _) ?_
  have tail : True := trivial
  by_cases h0 : posF l e = 0
  · have h0' : (posF l e == 0) = true := by simpa using h0
    simp only [EV, EL, EB, EF, q_bx, if_true, if_false, Bool.false_eq_true, Nat.reduceAdd, Option.bind_some, Bool.not_true, Bool.not_false, Nat.reduceBEq, laws_FnLinks_r, ER, EB2, EB4, DLink.c, h0']
    refine TCall.val (by simp only [EO]) (relV x ox p 1 _) ?_
    simp only [EV, EL, EB, EF, q_bx, if_true, if_false, Bool.false_eq_true, Nat.reduceAdd, Option.bind_some, Bool.not_true, Bool.not_false, Nat.reduceBEq, laws_FnLinks_r, ER, EB2, EB4, DLink.c]
    refine TCall.val (by simp only [EO]) (impl_FindExport_T false (relE x p 1) (ir.ok (by omega)).1 p _) ?_
    rw [C h0]
    simp only [EV, EL, EB, EF, q_bx, if_true, if_false, Bool.false_eq_true, Nat.reduceAdd, Option.bind_some, Bool.not_true, Bool.not_false, Nat.reduceBEq, laws_FnLinks_r, ER, EB2, EB4, DLink.c, bne_self_eq_false]
    refine TCall.val (by simp only [EO]) (askV l ol e _) ?_
    simp only [EV, EL, EB, EF, q_bx, if_true, if_false, Bool.false_eq_true, Nat.reduceAdd, Option.bind_some, Bool.not_true, Bool.not_false, Nat.reduceBEq, laws_FnLinks_r, ER, EB2, EB4, DLink.c]
    refine TCall.val (by simp only [EO]) (dropV (askE l e).1.questions oq.2.1 (askE l e).2 _) ?_
    rw [D2]
    simp only [EV, EL, EB, EF, q_bx, if_true, if_false, Bool.false_eq_true, Nat.reduceAdd, Option.bind_some, Bool.not_true, Bool.not_false, Nat.reduceBEq, laws_FnLinks_r, ER, EB2, EB4, DLink.c]
    refine TCall.val (by simp only [EO]) (impl_FindEntry_T false (askE l e).1.questions oq.2.1 (askE l e).2 _) ?_
    rw [D1]
    simp only [EV, EL, EB, EF, q_bx, if_true, if_false, Bool.false_eq_true, Nat.reduceAdd, Option.bind_some, Bool.not_true, Bool.not_false, Nat.reduceBEq, laws_FnLinks_r, ER, EB2, EB4, DLink.c, beq_self_eq_true]
    refine TCall.val (by simp only [EO]) (impl_FindEntry_T false l.questions ol.2.1 (askE l e).2 _) ?_
    rw [D3]
    simp only [EV, EL, EB, EF, q_bx, if_true, if_false, Bool.false_eq_true, Nat.reduceAdd, Option.bind_some, Bool.not_true, Bool.not_false, Nat.reduceBEq, laws_FnLinks_r, ER, EB2, EB4, DLink.c, beq_self_eq_true, Ld, D4]
    first | exact ⟨rfl, rfl, [], by simp⟩ | exact ⟨rfl, [], by simp⟩ | exact ⟨[], by simp⟩
  · have h0' : (posF l e == 0) = false := by simpa using h0
    simp only [EV, EL, EB, EF, q_bx, if_true, if_false, Bool.false_eq_true, Nat.reduceAdd, Option.bind_some, Bool.not_true, Bool.not_false, Nat.reduceBEq, laws_FnLinks_r, ER, EB2, EB4, DLink.c, h0']
    refine TCall.val (by simp only [EO]) (askV l ol e _) ?_
    simp only [EV, EL, EB, EF, q_bx, if_true, if_false, Bool.false_eq_true, Nat.reduceAdd, Option.bind_some, Bool.not_true, Bool.not_false, Nat.reduceBEq, laws_FnLinks_r, ER, EB2, EB4, DLink.c]
    refine TCall.val (by simp only [EO]) (dropV (askE l e).1.questions oq.2.1 (askE l e).2 _) ?_
    rw [D2]
    simp only [EV, EL, EB, EF, q_bx, if_true, if_false, Bool.false_eq_true, Nat.reduceAdd, Option.bind_some, Bool.not_true, Bool.not_false, Nat.reduceBEq, laws_FnLinks_r, ER, EB2, EB4, DLink.c]
    refine TCall.val (by simp only [EO]) (impl_FindEntry_T false (askE l e).1.questions oq.2.1 (askE l e).2 _) ?_
    rw [D1]
    simp only [EV, EL, EB, EF, q_bx, if_true, if_false, Bool.false_eq_true, Nat.reduceAdd, Option.bind_some, Bool.not_true, Bool.not_false, Nat.reduceBEq, laws_FnLinks_r, ER, EB2, EB4, DLink.c, beq_self_eq_true]
    refine TCall.val (by simp only [EO]) (impl_FindEntry_T false l.questions ol.2.1 (askE l e).2 _) ?_
    rw [D3]
    simp only [EV, EL, EB, EF, q_bx, if_true, if_false, Bool.false_eq_true, Nat.reduceAdd, Option.bind_some, Bool.not_true, Bool.not_false, Nat.reduceBEq, laws_FnLinks_r, ER, EB2, EB4, DLink.c, beq_self_eq_true, Ld, D4]
    first | exact ⟨rfl, rfl, [], by simp⟩ | exact ⟨rfl, [], by simp⟩ | exact ⟨[], by simp⟩

end Go.Proofs.Ytleddolmolkpfaa

