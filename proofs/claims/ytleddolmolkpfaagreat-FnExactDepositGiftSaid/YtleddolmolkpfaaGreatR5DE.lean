import Derived.Test.YtleddolmolkpfaaGreatR5GI
set_option linter.unusedVariables false
set_option linter.unusedSimpArgs false
namespace Go.Proofs.YtleddolmolkpfaaGreat
open Go.AM
set_option linter.unusedVariables false
set_option linter.unusedSimpArgs false
variable {Γ : Glob}
/-! A gift is deposited. -/
def depF (v : DVat) (l : List DGift) (gi po ta no : Int) : List DGift × Bool :=
  if (upF v.links gi && upF v.links ta) = true then (match v.links.find? (fun x => x.peer == gi) with
    | some lk => if exportF lk.exports po < 0 then (l, false) else putF l ⟨no, gi, ta, exportF lk.exports po⟩
    | none => (l, false)) else (l, false)
theorem depF_len (v : DVat) (l : List DGift) (gi po ta no : Int) : (depF v l gi po ta no).1.length ≤ l.length + 1 := by
  unfold depF
  split
  · split
    · split
      · simp
      · exact putF_len _ _
    · simp
  · simp
theorem areGa_bad : ∀ (l pre : List Gift) (x : Gift), x.e < 0 → areGa pre (l ++ [x]) = false
  | [], pre, x, h => by simp [areGa, Gift.good, h]
  | y :: l, pre, x, h => by simp only [List.cons_append, areGa, areGa_bad l _ x h, Bool.and_false]
theorem put_neg (l : List DGift) (x : DGift) (h : x.entity < 0) : putF l x = (l, false) := by
  have : areD (l ++ [x]) = false := by
    simp only [areD, areG, List.map_append, List.map_cons, List.map_nil]
    rw [areGa_bad _ _ (toG x) h]; rfl
  unfold putF; rw [this]; rfl
theorem dep_up {v : DVat} {l : List DGift} {gi po ta no : Int} (h : upF v.links gi = false ∨ upF v.links ta = false) : depF v l gi po ta no = (l, false) := by
  unfold depF; rw [if_neg]; rcases h with h | h <;> simp [h]
theorem dep_at {v : DVat} {l : List DGift} {gi po ta no : Int} (h1 : upF v.links gi = true) (h2 : upF v.links ta = true) {k : Nat} (hk : k < v.links.length) (h3 : v.links.find? (fun x => x.peer == gi) = some v.links[k]) :
    depF v l gi po ta no = if exportF v.links[k].exports po < 0 then (l, false) else putF l ⟨no, gi, ta, exportF v.links[k].exports po⟩ := by
  unfold depF; rw [if_pos (by simp [h1, h2]), h3]
theorem impl_DepositGift_T (β : Bool) (v : DVat) (l : List DGift) (hv : v.ok 1048576) (hl : l.length ≤ 1048576) (gi po ta no : Int) (h : AH) : T Tryz.prog Γ Fn.impl_DepositGift [.agg (v.c β), .vs β 4 false (l.map (DGift.c β)), .int .i64 gi, .int .i64 po, .int .i64 ta, .int .i64 no] h (Fresh h [.c (.sl 4 ((depF v l gi po ta no).1.map DGift.cd)), .c (.b (depF v l gi po ta no).2)]) := by
  have hll : v.links.length ≤ 1048576 := hv.2.2.2.2.1
  have hp : Ptr (h ++ [some (0, v.c β)]) (.gp h.length 0 0) (v.c β) := Ptr.gp0 (hget_last _ _)
  refine T.freshC2 rfl ?_
  -- the list alone
  have fin : ∀ (w : AV) (H1 : AH), Fresh (h ++ [some (0, v.c β)]) [.c (.sl 4 (l.map DGift.cd))] w H1 → depF v l gi po ta no = (l, false) →
      cellsOf w = some [w] ∧ isCell w = true ∧ noLp w = true ∧ out1 w = true ∧ ∃ new fp, H1 = h ++ new ∧ Own H1 w (.sl 4 ((depF v l gi po ta no).1.map DGift.cd)) fp ∧ fp.Nodup ∧ ∀ b ∈ fp, h.length ≤ b := by
    intro w H1 fr e
    obtain ⟨fw, ow, nw, bw, ew⟩ := fr.c1
    obtain ⟨c1, c2, c3, c4⟩ := ow.cell
    obtain ⟨N, hN⟩ := ((HExt.app h _).trans ew).out
    exact ⟨c1, c2, c3, c4, N, fw, hN, by rw [e]; exact ow, nw, fun b hb => by have := bw b hb; simp at this; omega⟩
  refine impl_DepositGift_e (aw_sound tabOK mixed [6] _ _ _ ?_)
  unfold impl_DepositGift_c
  simp only [EV, EL, EB, EF, q_bx, if_true, if_false, Bool.false_eq_true, Nat.reduceAdd, Option.bind_some, Bool.not_true, Bool.not_false, Nat.reduceBEq, impl_DepositGift_r, box_g _ _ (show List.all (DVat.c β v) noLp = true from rfl), push_s]
  refine TCall.ref (by simp only [EO]) (impl_Vat_link_T β v hll gi _ hp) ?_
  rintro r H0 ⟨⟨hu, k, hk, e1, rfl⟩ | ⟨hu, rfl⟩, e⟩
  rotate_left
  · replace e : H0 = h ++ [some (0, v.c β)] := e
    subst e
    simp only [EV, EL, EB, EF, q_bx, if_true, if_false, Bool.false_eq_true, Nat.reduceAdd, Option.bind_some, Bool.not_true, Bool.not_false, Nat.reduceBEq, impl_DepositGift_r]
    refine TCall.ref (by simp only [EO]) (clone_Gift β l (by omega) _) ?_
    rintro w H1 fr
    replace fr : Fresh (h ++ [some (0, v.c β)]) _ _ _ := fr
    have ed := dep_up (v := v) (l := l) (gi := gi) (po := po) (ta := ta) (no := no) (.inl hu)
    obtain ⟨c1, c2, c3, c4, N, fw, g1, g2, g3, g4⟩ := fin w H1 fr ed
    simp only [EV, EL, EB, EF, q_bx, if_true, if_false, Bool.false_eq_true, Nat.reduceAdd, Option.bind_some, Bool.not_true, Bool.not_false, Nat.reduceBEq, impl_DepositGift_r, ER, c1, c2, c3]
    exact ⟨by simp only [List.all_cons, List.all_nil, c4]; rfl, w, N, fw, by rw [ed, CD.av_b], g1, g2, g3, g4⟩
  replace e : H0 = h ++ [some (0, v.c β)] := e
  subst e
  simp only [EV, EL, EB, EF, q_bx, if_true, if_false, Bool.false_eq_true, Nat.reduceAdd, Option.bind_some, Bool.not_true, Bool.not_false, Nat.reduceBEq, impl_DepositGift_r]
  refine TCall.ref (by simp only [EO]) (impl_Vat_link_T β v hll ta _ hp) ?_
  rintro r H0 ⟨⟨hu2, k2, hk2, e2, rfl⟩ | ⟨hu2, rfl⟩, e⟩
  rotate_left
  · replace e : H0 = h ++ [some (0, v.c β)] := e
    subst e
    simp only [EV, EL, EB, EF, q_bx, if_true, if_false, Bool.false_eq_true, Nat.reduceAdd, Option.bind_some, Bool.not_true, Bool.not_false, Nat.reduceBEq, impl_DepositGift_r]
    refine TCall.ref (by simp only [EO]) (clone_Gift β l (by omega) _) ?_
    rintro w H1 fr
    replace fr : Fresh (h ++ [some (0, v.c β)]) _ _ _ := fr
    have ed := dep_up (v := v) (l := l) (gi := gi) (po := po) (ta := ta) (no := no) (.inr hu2)
    obtain ⟨c1, c2, c3, c4, N, fw, g1, g2, g3, g4⟩ := fin w H1 fr ed
    simp only [EV, EL, EB, EF, q_bx, if_true, if_false, Bool.false_eq_true, Nat.reduceAdd, Option.bind_some, Bool.not_true, Bool.not_false, Nat.reduceBEq, impl_DepositGift_r, ER, c1, c2, c3]
    exact ⟨by simp only [List.all_cons, List.all_nil, c4]; rfl, w, N, fw, by rw [ed, CD.av_b], g1, g2, g3, g4⟩
  replace e : H0 = h ++ [some (0, v.c β)] := e
  subst e
  obtain ⟨k', hk', e1', e3⟩ := up_idx hu
  have ekk : k' = k := by rw [e1] at e1'; omega
  subst ekk
  have hlk := (hv.2.2.2.2.2.1 _ (List.getElem_mem hk)).1
  have ed := dep_at (l := l) (po := po) (no := no) hu hu2 hk e3
  simp only [EV, EL, EB, EF, q_bx, if_true, if_false, Bool.false_eq_true, Nat.reduceAdd, Option.bind_some, Bool.not_true, Bool.not_false, Nat.reduceBEq, impl_DepositGift_r]
  refine TCall.val (by simp only [EO]) (impl_Link_at_T β v.links[k'] hlk po _ (Ptr.ip _ _ _)) ?_
  rcases idxI_cases (fun x : DExport => x.pos == po) v.links[k'].exports with ⟨j, hj, f1, f2, f3⟩ | ⟨f1, f2, f3⟩
  rotate_left
  · have ex : exportF v.links[k'].exports po = -1 := by unfold exportF; rw [f2]
    rw [if_pos (by rw [ex]; omega)] at ed
    simp only [EV, EL, EB, EF, q_bx, if_true, if_false, Bool.false_eq_true, Nat.reduceAdd, Option.bind_some, Bool.not_true, Bool.not_false, Nat.reduceBEq, impl_DepositGift_r, f1, show decide ((-1 : Int) < 0) = true from rfl]
    refine TCall.ref (by simp only [EO]) (clone_Gift β l (by omega) _) ?_
    rintro w H1 fr
    replace fr : Fresh (h ++ [some (0, v.c β)]) _ _ _ := fr
    obtain ⟨c1, c2, c3, c4, N, fw, g1, g2, g3, g4⟩ := fin w H1 fr ed
    simp only [EV, EL, EB, EF, q_bx, if_true, if_false, Bool.false_eq_true, Nat.reduceAdd, Option.bind_some, Bool.not_true, Bool.not_false, Nat.reduceBEq, impl_DepositGift_r, ER, c1, c2, c3]
    exact ⟨by simp only [List.all_cons, List.all_nil, c4]; rfl, w, N, fw, by rw [ed, CD.av_b], g1, g2, g3, g4⟩
  have ed2 : depF v l gi po ta no = putF l ⟨no, gi, ta, exportF v.links[k'].exports po⟩ := by
    rw [ed]
    split
    · rename_i hneg
      exact (put_neg l _ hneg).symm
    · rfl
  simp only [EV, EL, EB, EF, q_bx, if_true, if_false, Bool.false_eq_true, Nat.reduceAdd, Option.bind_some, Bool.not_true, Bool.not_false, Nat.reduceBEq, impl_DepositGift_r, f1, decide_eq_false (show ¬ (j : Int) < 0 by omega), DLink.c]
  refine TCall.val (by simp only [EO]) (impl_FindExport_T β v.links[k'] hlk po _) ?_
  simp only [EV, EL, EB, EF, q_bx, if_true, if_false, Bool.false_eq_true, Nat.reduceAdd, Option.bind_some, Bool.not_true, Bool.not_false, Nat.reduceBEq, impl_DepositGift_r]
  refine TCall.ref (by simp only [EO]) (impl_PutGift_T β false l hl ⟨no, gi, ta, exportF v.links[k'].exports po⟩ _) ?_
  rintro _ H1 fr
  replace fr : Fresh (h ++ [some (0, v.c β)]) _ _ _ := fr
  rw [← ed2] at fr
  obtain ⟨w, fw, rfl, ow, nw, bw, ew⟩ := fr.c2 rfl
  obtain ⟨c1, c2, c3, c4⟩ := ow.cell
  simp only [EV, EL, EB, EF, q_bx, if_true, if_false, Bool.false_eq_true, Nat.reduceAdd, Option.bind_some, Bool.not_true, Bool.not_false, Nat.reduceBEq, impl_DepositGift_r, ER, c1, c2, c3]
  obtain ⟨N, hN⟩ := ((HExt.app h _).trans ew).out
  exact ⟨by simp only [List.all_cons, List.all_nil, c4, CD.av_b]; rfl, w, N, fw, rfl, hN, ow, nw, fun b hb => by have := bw b hb; simp at this; omega⟩
theorem spec_DepositGift_T (β : Bool) (v : DVat) (l : List DGift) (hv : v.ok 1048576) (hl : l.length ≤ 1048576) (gi po ta no : Int) (h : AH) : T Tryz.prog Γ Fn.spec_DepositGift [.agg (v.c β), .vs β 4 false (l.map (DGift.c β)), .int .i64 gi, .int .i64 po, .int .i64 ta, .int .i64 no] h (Fresh h [.c (.sl 4 ((depF v l gi po ta no).1.map DGift.cd)), .c (.b (depF v l gi po ta no).2)]) := by
  have hll : v.links.length ≤ 1048576 := hv.2.2.2.2.1
  refine T.freshC2 rfl ?_
  have fin : ∀ (w : AV) (H1 : AH), Fresh h [.c (.sl 4 (l.map DGift.cd))] w H1 → depF v l gi po ta no = (l, false) →
      cellsOf w = some [w] ∧ isCell w = true ∧ noLp w = true ∧ out1 w = true ∧ ∃ new fp, H1 = h ++ new ∧ Own H1 w (.sl 4 ((depF v l gi po ta no).1.map DGift.cd)) fp ∧ fp.Nodup ∧ ∀ b ∈ fp, h.length ≤ b := by
    intro w H1 fr e
    obtain ⟨fw, ow, nw, bw, ew⟩ := fr.c1
    obtain ⟨c1, c2, c3, c4⟩ := ow.cell
    obtain ⟨N, hN⟩ := ew.out
    exact ⟨c1, c2, c3, c4, N, fw, hN, by rw [e]; exact ow, nw, bw⟩
  refine spec_DepositGift_e (aw_sound tabOK mixed [] _ _ _ ?_)
  unfold spec_DepositGift_c
  simp only [EV, EL, EB, EF, q_bx, if_true, if_false, Bool.false_eq_true, Nat.reduceAdd, Option.bind_some, Bool.not_true, Bool.not_false, Nat.reduceBEq, spec_DepositGift_r, spec_DepositGift_d0_q, DVat.c]
  refine TCall.val (by simp only [EO]) (spec_IsUp_T β v hll gi _) ?_
  cases hu : upF v.links gi
  · simp only [EV, EL, EB, EF, q_bx, if_true, if_false, Bool.false_eq_true, Nat.reduceAdd, Option.bind_some, Bool.not_true, Bool.not_false, Nat.reduceBEq, spec_DepositGift_r, spec_DepositGift_d0_q]
    refine TCall.ref (by simp only [EO]) (spec_l31Copy_T β l (by omega) _) ?_
    rintro w H1 fr
    replace fr : Fresh h _ _ _ := fr
    have ed := dep_up (v := v) (l := l) (gi := gi) (po := po) (ta := ta) (no := no) (.inl hu)
    obtain ⟨c1, c2, c3, c4, N, fw, g1, g2, g3, g4⟩ := fin w H1 fr ed
    simp only [EV, EL, EB, EF, q_bx, if_true, if_false, Bool.false_eq_true, Nat.reduceAdd, Option.bind_some, Bool.not_true, Bool.not_false, Nat.reduceBEq, spec_DepositGift_r, spec_DepositGift_d0_q, ER, c1, c2, c3]
    exact ⟨by simp only [List.all_cons, List.all_nil, c4]; rfl, w, N, fw, by rw [ed, CD.av_b], g1, g2, g3, g4⟩
  simp only [EV, EL, EB, EF, q_bx, if_true, if_false, Bool.false_eq_true, Nat.reduceAdd, Option.bind_some, Bool.not_true, Bool.not_false, Nat.reduceBEq, spec_DepositGift_r, spec_DepositGift_d0_q, DVat.c]
  refine TCall.val (by simp only [EO]) (spec_IsUp_T β v hll ta _) ?_
  cases hu2 : upF v.links ta
  · simp only [EV, EL, EB, EF, q_bx, if_true, if_false, Bool.false_eq_true, Nat.reduceAdd, Option.bind_some, Bool.not_true, Bool.not_false, Nat.reduceBEq, spec_DepositGift_r, spec_DepositGift_d0_q]
    refine TCall.ref (by simp only [EO]) (spec_l31Copy_T β l (by omega) _) ?_
    rintro w H1 fr
    replace fr : Fresh h _ _ _ := fr
    have ed := dep_up (v := v) (l := l) (gi := gi) (po := po) (ta := ta) (no := no) (.inr hu2)
    obtain ⟨c1, c2, c3, c4, N, fw, g1, g2, g3, g4⟩ := fin w H1 fr ed
    simp only [EV, EL, EB, EF, q_bx, if_true, if_false, Bool.false_eq_true, Nat.reduceAdd, Option.bind_some, Bool.not_true, Bool.not_false, Nat.reduceBEq, spec_DepositGift_r, spec_DepositGift_d0_q, ER, c1, c2, c3]
    exact ⟨by simp only [List.all_cons, List.all_nil, c4]; rfl, w, N, fw, by rw [ed, CD.av_b], g1, g2, g3, g4⟩
  obtain ⟨k, hk, e1, e3⟩ := up_idx hu
  have hlk := (hv.2.2.2.2.2.1 _ (List.getElem_mem hk)).1
  have ed := dep_at (l := l) (po := po) (no := no) hu hu2 hk e3
  have i0 := idx_vm (β := β) (sz := 7) (ex := false) (ce := DLink.c β) hk
  simp only [EV, EL, EB, EF, q_bx, if_true, if_false, Bool.false_eq_true, Nat.reduceAdd, Option.bind_some, Bool.not_true, Bool.not_false, Nat.reduceBEq, spec_DepositGift_r, spec_DepositGift_d0_q, DVat.c]
  refine TCall.val (by simp only [EO]) (spec_LinkTo_T β v hll gi _) ?_
  rw [e1]
  simp only [EV, EL, EB, EF, q_bx, if_true, if_false, Bool.false_eq_true, Nat.reduceAdd, Option.bind_some, Bool.not_true, Bool.not_false, Nat.reduceBEq, spec_DepositGift_r, spec_DepositGift_d0_q, i0, DLink.c]
  refine TCall.val (by simp only [EO]) (spec_FindExport_T β v.links[k] hlk po _) ?_
  by_cases hn : exportF v.links[k].exports po < 0
  · rw [if_pos hn] at ed
    simp only [EV, EL, EB, EF, q_bx, if_true, if_false, Bool.false_eq_true, Nat.reduceAdd, Option.bind_some, Bool.not_true, Bool.not_false, Nat.reduceBEq, spec_DepositGift_r, spec_DepositGift_d0_q, decide_eq_true hn]
    refine TCall.ref (by simp only [EO]) (spec_l31Copy_T β l (by omega) _) ?_
    rintro w H1 fr
    replace fr : Fresh h _ _ _ := fr
    obtain ⟨c1, c2, c3, c4, N, fw, g1, g2, g3, g4⟩ := fin w H1 fr ed
    simp only [EV, EL, EB, EF, q_bx, if_true, if_false, Bool.false_eq_true, Nat.reduceAdd, Option.bind_some, Bool.not_true, Bool.not_false, Nat.reduceBEq, spec_DepositGift_r, spec_DepositGift_d0_q, ER, c1, c2, c3]
    exact ⟨by simp only [List.all_cons, List.all_nil, c4]; rfl, w, N, fw, by rw [ed, CD.av_b], g1, g2, g3, g4⟩
  rw [if_neg hn] at ed
  simp only [EV, EL, EB, EF, q_bx, if_true, if_false, Bool.false_eq_true, Nat.reduceAdd, Option.bind_some, Bool.not_true, Bool.not_false, Nat.reduceBEq, spec_DepositGift_r, spec_DepositGift_d0_q, decide_eq_false hn]
  refine TCall.ref (by simp only [EO]) (spec_PutGift_T β false l hl ⟨no, gi, ta, exportF v.links[k].exports po⟩ _) ?_
  rintro _ H1 fr
  replace fr : Fresh h _ _ _ := fr
  rw [← ed] at fr
  obtain ⟨w, fw, rfl, ow, nw, bw, ew⟩ := fr.c2 rfl
  obtain ⟨c1, c2, c3, c4⟩ := ow.cell
  simp only [EV, EL, EB, EF, q_bx, if_true, if_false, Bool.false_eq_true, Nat.reduceAdd, Option.bind_some, Bool.not_true, Bool.not_false, Nat.reduceBEq, spec_DepositGift_r, spec_DepositGift_d0_q, ER, c1, c2, c3]
  obtain ⟨N, hN⟩ := ew.out
  exact ⟨by simp only [List.all_cons, List.all_nil, c4, CD.av_b]; rfl, w, N, fw, rfl, hN, ow, nw, bw⟩

end Go.Proofs.YtleddolmolkpfaaGreat
