import Derived.Test.YtjohoameeeaafaaR1S3
import Derived.Test.YtjohoameeeaafaaR1BO
import Derived.Test.YtjohoameeeaafaaAmVal
set_option linter.unusedVariables false
set_option linter.unusedSimpArgs false
namespace Go.Proofs.Ytjohoameeeaafaa
open Go.AM
set_option linter.unusedVariables false
set_option linter.unusedSimpArgs false
variable {Γ : Glob}
/-! The law of seals. -/
theorem drawSealIn_V (bs : List Int) (hb : bs.length ≤ 1073741824) (h : AH) : T Try.prog Γ Fn.spec_DrawSealIn [.vs false 1 false (bs.map fun n => [.int .u8 n])] h fun v h' => (∃ (l : List DBox) (n : Int) (y : DValue), v = .tup [.vs false 4 false (l.map (DBox.c false)), .int .i64 n, .agg (y.c false)] ∧ l.length ≤ 20) ∧ h' = h := by
  refine (T.froz (R := fun rs => ∃ (l : List DBox) (n : Int) (y : DValue), rs = [.c (.sl 4 (l.map DBox.cd)), .c (.i .i64 n), .a [.i .i64 y.kind, .i .i64 y.n]] ∧ l.length ≤ 20) ((spec_DrawSealIn_T (Γ := Γ) bs hb h).mono ?_)).mono ?_
  · rintro v h' ⟨l, w, fp, n, y, rfl, o, nd, hfp, hl, e⟩
    exact ⟨[w, .int .i64 n, .agg (y.c false)], [.c (.sl 4 (l.map DBox.cd)), .c (.i .i64 n), .a [.i .i64 y.kind, .i .i64 y.n]], fp, rfl, ⟨fp, [], by simp, o, [], [], rfl, .i _ _, [], [], rfl, ⟨_, rfl, OwnL.i (OwnL.i (show OwnL h' [] [] [] from rfl))⟩, rfl⟩, hfp, e, l, n, y, rfl, hl⟩
  · rintro v h' ⟨⟨rs, ⟨l, n, y, rfl, hl⟩, rfl⟩, rfl⟩
    refine ⟨⟨l, n, y, ?_, hl⟩, rfl⟩
    simp only [List.map_cons, List.map_nil, resOf_1, resOf_2, resOf, rd_c, rd_a, CD.av_sl, CD.av_i, CD.av_b, CD.av_s, List.map_map, Function.comp_def, DBox.c_eq, DValue.c]
theorem drawRebrand_V (bs : List Int) (hb : bs.length ≤ 1073741824) (h : AH) : T Try.prog Γ Fn.spec_DrawRebrand [.vs false 1 false (bs.map fun n => [.int .u8 n])] h fun v h' => (∃ (l : List DBox) (n m q : Int), v = .tup [.vs false 4 false (l.map (DBox.c false)), .int .i64 n, .int .i64 m, .int .i64 q] ∧ l.length ≤ 20) ∧ h' = h := by
  refine (T.froz (R := fun rs => ∃ (l : List DBox) (n m q : Int), rs = [.c (.sl 4 (l.map DBox.cd)), .c (.i .i64 n), .c (.i .i64 m), .c (.i .i64 q)] ∧ l.length ≤ 20) ((spec_DrawRebrand_T (Γ := Γ) bs hb h).mono ?_)).mono ?_
  · rintro v h' ⟨l, w, fp, n, m, q, rfl, o, nd, hfp, hl, e⟩
    exact ⟨[w, .int .i64 n, .int .i64 m, .int .i64 q], [.c (.sl 4 (l.map DBox.cd)), .c (.i .i64 n), .c (.i .i64 m), .c (.i .i64 q)], fp, rfl, ⟨fp, [], by simp, o, [], [], rfl, .i _ _, [], [], rfl, .i _ _, [], [], rfl, .i _ _, rfl⟩, hfp, e, l, n, m, q, rfl, hl⟩
  · rintro v h' ⟨⟨rs, ⟨l, n, m, q, rfl, hl⟩, rfl⟩, rfl⟩
    refine ⟨⟨l, n, m, q, ?_, hl⟩, rfl⟩
    simp only [List.map_cons, List.map_nil, resOf_1, resOf_2, resOf, rd_c, rd_a, CD.av_sl, CD.av_i, CD.av_b, CD.av_s, List.map_map, Function.comp_def, DBox.c_eq, DValue.c]
theorem sealV (l : List DBox) (hl : l.length ≤ 1048576) (brand : Int) (x : DValue) (h : AH) : T Try.prog Γ Fn.impl_SealIn [.vs false 4 false (l.map (DBox.c false)), .int .i64 brand, .agg (x.c false)] h fun v h' => v = .tup [.vs false 4 false ((sealF l brand x).1.map (DBox.c false)), .int .i64 (sealF l brand x).2] ∧ h' = h := by
  have := (impl_SealIn_T (Γ := Γ) false false l hl brand x h).frozen
  simpa only [List.map_cons, List.map_nil, resOf_1, resOf_2, rd_c, rd_a, CD.av_sl, CD.av_i, CD.av_b, CD.av_s, List.map_map, Function.comp_def, DBox.c_eq] using this
theorem sealSV (l : List DBox) (hl : l.length ≤ 1048576) (brand : Int) (x : DValue) (h : AH) : T Try.prog Γ Fn.spec_SealIn [.vs false 4 false (l.map (DBox.c false)), .int .i64 brand, .agg (x.c false)] h fun v h' => v = .tup [.vs false 4 false ((sealF l brand x).1.map (DBox.c false)), .int .i64 (sealF l brand x).2] ∧ h' = h := by
  have := (spec_SealIn_T (Γ := Γ) false false l hl brand x h).frozen
  simpa only [List.map_cons, List.map_nil, resOf_1, resOf_2, rd_c, rd_a, CD.av_sl, CD.av_i, CD.av_b, CD.av_s, List.map_map, Function.comp_def, DBox.c_eq] using this
theorem rebrandV (l : List DBox) (hl : l.length ≤ 1048576) (frm to_ id : Int) (h : AH) : T Try.prog Γ Fn.impl_Rebrand [.vs false 4 false (l.map (DBox.c false)), .int .i64 frm, .int .i64 to_, .int .i64 id] h fun v h' => v = .tup [.vs false 4 false ((rebrandF l frm to_ id).1.map (DBox.c false)), .bool (rebrandF l frm to_ id).2] ∧ h' = h := by
  have := (impl_Rebrand_T (Γ := Γ) false l hl frm to_ id h).frozen
  simpa only [List.map_cons, List.map_nil, resOf_1, resOf_2, rd_c, rd_a, CD.av_sl, CD.av_i, CD.av_b, CD.av_s, List.map_map, Function.comp_def, DBox.c_eq] using this
theorem rebrandSV (l : List DBox) (hl : l.length ≤ 1048576) (frm to_ id : Int) (h : AH) : T Try.prog Γ Fn.spec_Rebrand [.vs false 4 false (l.map (DBox.c false)), .int .i64 frm, .int .i64 to_, .int .i64 id] h fun v h' => v = .tup [.vs false 4 false ((rebrandF l frm to_ id).1.map (DBox.c false)), .bool (rebrandF l frm to_ id).2] ∧ h' = h := by
  have := (spec_Rebrand_T (Γ := Γ) false l hl frm to_ id h).frozen
  simpa only [List.map_cons, List.map_nil, resOf_1, resOf_2, rd_c, rd_a, CD.av_sl, CD.av_i, CD.av_b, CD.av_s, List.map_map, Function.comp_def, DBox.c_eq] using this
theorem boxesV (l : List DBox) (hl : l.length ≤ 1048576) (brand : Int) (h : AH) : T Try.prog Γ Fn.impl_BoxesOf [.vs false 4 false (l.map (DBox.c false)), .int .i64 brand] h fun v h' => v = .vs false 1 false ((boxesOfF brand l).map fun n => [.int .i64 n]) ∧ h' = h := by
  have := (impl_BoxesOf_T (Γ := Γ) false l hl brand h).frozen
  simpa only [List.map_cons, List.map_nil, resOf_1, resOf_2, rd_c, rd_a, CD.av_sl, CD.av_i, CD.av_b, CD.av_s, List.map_map, Function.comp_def, DBox.c_eq] using this
theorem boxesSV (l : List DBox) (hl : l.length ≤ 1048576) (brand : Int) (h : AH) : T Try.prog Γ Fn.spec_BoxesOf [.vs false 4 false (l.map (DBox.c false)), .int .i64 brand] h fun v h' => v = .vs false 1 false ((boxesOfF brand l).map fun n => [.int .i64 n]) ∧ h' = h := by
  have := (spec_BoxesOf_T (Γ := Γ) false l hl brand h).frozen
  simpa only [List.map_cons, List.map_nil, resOf_1, resOf_2, rd_c, rd_a, CD.av_sl, CD.av_i, CD.av_b, CD.av_s, List.map_map, Function.comp_def, DBox.c_eq] using this
theorem laws_big_T (bs : List Int) (h : AH) : T Try.prog Γ Fn.laws_big [.vs false 1 false (bs.map fun n => [.int .u8 n])] h fun v h' => v = .bool (decide (1048576 < (bs.length : Int))) ∧ h' = h := by
  have L0 := len_vm false 1 false bs (fun n => [AV.int .u8 n])
  refine laws_big_e (aw_sound tabOK mixed [] _ _ _ ?_)
  unfold laws_big_c
  simp only [EV, EL, EB, EF, q_bx, if_true, if_false, Bool.false_eq_true, Nat.reduceAdd, Option.bind_some, Bool.not_true, Bool.not_false, Nat.reduceBEq, laws_big_r, L0]
  first | exact ⟨rfl, rfl⟩ | exact rfl
theorem laws_sameInts_T (l : List Int) (hl : l.length ≤ 1099511627776) (h : AH) : T Try.prog Γ Fn.laws_sameInts [.vs false 1 false (l.map fun n => [.int .i64 n]), .vs false 1 false (l.map fun n => [.int .i64 n])] h fun v h' => v = .bool true ∧ h' = h := by
  have L0 := len_vm false 1 false l (fun n => [AV.int .i64 n])
  refine laws_sameInts_e (aw_sound tabOK mixed [] _ _ _ ?_)
  unfold laws_sameInts_c
  simp only [EV, EL, EB, EF, q_bx, if_true, if_false, Bool.false_eq_true, Nat.reduceAdd, Option.bind_some, Bool.not_true, Bool.not_false, Nat.reduceBEq, laws_sameInts_r, laws_sameInts_d0_q, L0, ne_int, decide_true]
  refine loopI tabOK mixed [] (fun k : Nat => k ≤ l.length) (fun k => l.length - k)
    (fun k => laws_sameInts_s0 (.vs false 1 false (l.map fun n => [.int .i64 n])) (.vs false 1 false (l.map fun n => [.int .i64 n])) (.int .i64 k) [] h) 0 (by omega) ⟨by simp [laws_sameInts_s0, LeL, LeV], rfl, rfl⟩ ?_
  rintro k hk
  simp only [EV, EL, EB, EF, q_bx, if_true, if_false, Bool.false_eq_true, Nat.reduceAdd, Option.bind_some, Bool.not_true, Bool.not_false, Nat.reduceBEq, laws_sameInts_r, laws_sameInts_d0_q, laws_sameInts_s0, L0]
  refine c_split (fun hlt => ?_) (fun hge => ?_)
  · have hlt : k < l.length := by simpa using hlt
    have i0 := idx_vm (β := false) (sz := 1) (ex := false) (ce := fun n => [AV.int .i64 n]) hlt
    simp only [EV, EL, EB, EF, q_bx, if_true, if_false, Bool.false_eq_true, Nat.reduceAdd, Option.bind_some, Bool.not_true, Bool.not_false, Nat.reduceBEq, laws_sameInts_r, laws_sameInts_d0_q, i0, ne_int, decide_true]
    exact ⟨k + 1, hlt, by omega, ⟨by rw [wN (by omega)]; simp [laws_sameInts_s0, LeL, LeV], rfl, rfl⟩⟩
  · simp only [EV, EL, EB, EF, q_bx, if_true, if_false, Bool.false_eq_true, Nat.reduceAdd, Option.bind_some, Bool.not_true, Bool.not_false, Nat.reduceBEq, laws_sameInts_r, laws_sameInts_d0_q]
    first | exact ⟨rfl, rfl⟩ | exact rfl
theorem seal_pos {l : List DBox} {n : Int} {y : DValue} (h : areBoxesF (l ++ [DBox.mk (sealId l) n y]) = true) : 0 < sealId l ∧ 1 ≤ n ∧ n ≤ 999999 := by
  have h' := h
  simp only [areBoxesF, Bool.and_eq_true] at h
  have := go_gt h.1 ⟨sealId l, n, y⟩ (by simp)
  simp only [goodB, inR, Bool.and_eq_true, decide_eq_true_eq] at this
  omega
theorem wrap_small {n : Int} (h0 : 0 ≤ n) (h1 : n ≤ 1000000) : IntKind.i64.wrap (n + 1) = n + 1 := by
  obtain ⟨m, rfl⟩ := Int.eq_ofNat_of_zero_le h0
  exact wN (by omega)
theorem agg2_self (a b : Int) : aBin .neq (.agg [.int .i64, .int .i64]) (.agg [.int .i64 a, .int .i64 b]) (.agg [.int .i64 a, .int .i64 b]) = some (.bool false) := by rw [ne_agg2]; simp
theorem eq_self_b (b : Bool) : aBin .eql .bool (.bool b) (.bool b) = some (.bool true) := by cases b <;> rfl
theorem impl_AreBoxes_T (β : Bool) (l : List DBox) (hl : l.length ≤ 1048577) (h : AH) : T Try.prog Γ Fn.impl_AreBoxes [.vs β 4 false (l.map (DBox.c β))] h fun v h' => v = .bool (areBoxesF l) ∧ h' = h := by
  refine impl_AreBoxes_e (aw_sound tabOK mixed [] _ _ _ ?_)
  unfold impl_AreBoxes_c
  simp only [EV, EL, EB, EF, q_bx, if_true, if_false, Bool.false_eq_true, Nat.reduceAdd, Option.bind_some, Bool.not_true, Bool.not_false, Nat.reduceBEq, impl_AreBoxes_r]
  refine TCall.val (by simp only [EO]) (impl_areBoxes_T β l (by omega) _) ?_
  simp only [EV, EL, EB, EF, q_bx, if_true, if_false, Bool.false_eq_true, Nat.reduceAdd, Option.bind_some, Bool.not_true, Bool.not_false, Nat.reduceBEq, impl_AreBoxes_r]
  first | exact ⟨rfl, rfl⟩ | exact rfl
theorem rebrand_len (l : List DBox) (f t id : Int) : (rebrandF l f t id).1.length = l.length := by
  unfold rebrandF
  split
  · rfl
  · split <;> simp
theorem rebrand_ok {l : List DBox} {f t id : Int} (h : (rebrandF l f t id).2 = true) : (unsealF (rebrandF l f t id).1 t id).2 = true := by
  by_cases hn : boxAtF l f id < 0
  · rw [rebrand_neg hn] at h; cases h
  obtain ⟨k, ek, hk⟩ := boxAt_lt hn
  rw [rebrand_pos ek hk] at h ⊢
  split at h
  · rename_i hA
    rw [if_pos hA]
    have hkl : k < (l.set k ⟨l[k].id, t, l[k].value⟩).length := by simpa using hk
    have hg : (l.set k ⟨l[k].id, t, l[k].value⟩)[k] = ⟨l[k].id, t, l[k].value⟩ := by simp
    have hid : l[k].id = id := by
      unfold boxAtF at ek
      split at ek
      · rename_i x hx
        split at ek
        · rcases idxI_cases (fun b : DBox => b.id == id) l with ⟨j, hj, e1, e2, e3⟩ | ⟨e1, e2, e3⟩
          · rw [e1] at ek
            have : j = k := by omega
            subst this
            rw [e3] at hx
            have := List.find?_some e3
            simpa using this
          · omega
        · omega
      · omega
    have := unseal_at hA hkl
    rw [hg] at this
    simp only at this
    rw [hid] at this
    rw [hid, this]
  · cases h
set_option maxRecDepth 100000 in
theorem law_FnSeals (bs : List Int) (hb : bs.length ≤ maxLen) (hr : ∀ x ∈ bs, 0 ≤ x ∧ x < 256) (h : AH) : T Try.prog Γ Fn.laws_FnSeals [.vs false 1 false (bs.map fun n => [.int .u8 n])] h fun v h' => v = .bool true ∧ h' = h := by
  refine laws_FnSeals_e (aw_sound tabOK mixed [] _ _ _ ?_)
  unfold laws_FnSeals_c
  simp only [EV, EL, EB, EF, q_bx, if_true, if_false, Bool.false_eq_true, Nat.reduceAdd, Option.bind_some, Bool.not_true, Bool.not_false, Nat.reduceBEq, laws_FnSeals_r, laws_FnSeals_d0_q, laws_FnSeals_d1_q]
  refine TCall.val (by simp only [EO]) (laws_big_T bs _) ?_
  by_cases nb : 1048576 < (bs.length : Int)
  · simp only [EV, EL, EB, EF, q_bx, if_true, if_false, Bool.false_eq_true, Nat.reduceAdd, Option.bind_some, Bool.not_true, Bool.not_false, Nat.reduceBEq, laws_FnSeals_r, laws_FnSeals_d0_q, laws_FnSeals_d1_q, decide_eq_true nb]
    first | exact ⟨rfl, rfl⟩ | exact rfl
  simp only [EV, EL, EB, EF, q_bx, if_true, if_false, Bool.false_eq_true, Nat.reduceAdd, Option.bind_some, Bool.not_true, Bool.not_false, Nat.reduceBEq, laws_FnSeals_r, laws_FnSeals_d0_q, laws_FnSeals_d1_q, decide_eq_false nb]
  refine TCall.ref (by simp only [EO]) (drawSealIn_V bs (by omega) _) ?_
  rintro _ H ⟨⟨l, n, y, rfl, hl⟩, rfl⟩
  simp only [EV, EL, EB, EF, q_bx, if_true, if_false, Bool.false_eq_true, Nat.reduceAdd, Option.bind_some, Bool.not_true, Bool.not_false, Nat.reduceBEq, laws_FnSeals_r, laws_FnSeals_d0_q, laws_FnSeals_d1_q, ER, DValue.c, EB2]
  refine TCall.val (by simp only [EO]) (sealV l (by omega) n y _) ?_
  simp only [EV, EL, EB, EF, q_bx, if_true, if_false, Bool.false_eq_true, Nat.reduceAdd, Option.bind_some, Bool.not_true, Bool.not_false, Nat.reduceBEq, laws_FnSeals_r, laws_FnSeals_d0_q, laws_FnSeals_d1_q, ER, DValue.c, EB2]
  refine TCall.val (by simp only [EO]) (sealSV l (by omega) n y _) ?_
  by_cases hA : areBoxesF (l ++ [DBox.mk (sealId l) n y]) = true
  · have eA : sealF l n y = (l ++ [DBox.mk (sealId l) n y], sealId l) := if_pos hA
    obtain ⟨p0, p1, p2⟩ := seal_pos hA
    generalize hid : sealId l = id at *
    generalize hxs : l ++ [DBox.mk id n y] = xs at *
    have hxl : xs.length = l.length + 1 := by rw [← hxs]; simp
    have hge : ∀ (i : Nat) (hi : i < l.length), xs[i]'(by omega) = l[i] := fun i hi => by subst hxs; simp [hi]
    have hgl : xs[l.length]'(by omega) = ⟨id, n, y⟩ := by subst hxs; simp
    have u1 : unsealF xs n id = (y, true) := by have := unseal_at hA (i := l.length) (by omega); rwa [hgl] at this
    have u2 : (unsealF xs (n + 1) id).2 = false := by have := unseal_other hA (i := l.length) (by omega) (br := n + 1) (by rw [hgl]; simp only; omega); rwa [hgl] at this
    simp only [EV, EL, EB, EF, q_bx, if_true, if_false, Bool.false_eq_true, Nat.reduceAdd, Option.bind_some, Bool.not_true, Bool.not_false, Nat.reduceBEq, laws_FnSeals_r, laws_FnSeals_d0_q, laws_FnSeals_d1_q, ER, DValue.c, EB2, eA, ne_int, decide_true, decide_eq_false (show ¬ id < 0 by omega), decide_eq_true (show id > 0 by omega)]
    refine TCall.val (by simp only [EO]) (impl_Unseal_T false xs (by omega) n id _) ?_
    rw [u1]
    simp only [EV, EL, EB, EF, q_bx, if_true, if_false, Bool.false_eq_true, Nat.reduceAdd, Option.bind_some, Bool.not_true, Bool.not_false, Nat.reduceBEq, laws_FnSeals_r, laws_FnSeals_d0_q, laws_FnSeals_d1_q, ER, DValue.c, EB2, wrap_small (show 0 ≤ n by omega) (by omega)]
    refine TCall.val (by simp only [EO]) (impl_Unseal_T false xs (by omega) (n + 1) id _) ?_
    simp only [EV, EL, EB, EF, q_bx, if_true, if_false, Bool.false_eq_true, Nat.reduceAdd, Option.bind_some, Bool.not_true, Bool.not_false, Nat.reduceBEq, laws_FnSeals_r, laws_FnSeals_d0_q, laws_FnSeals_d1_q, ER, DValue.c, EB2, u2, agg2_self]
    refine loopI tabOK mixed [] (fun x : Nat × List (List AV) => x.1 ≤ l.length) (fun x => l.length - x.1)
      (fun x => laws_FnSeals_s0 (.vs false 1 false (bs.map fun n => [.int .u8 n])) (.vs false 4 false (l.map (DBox.c false))) (.vs false 4 false (xs.map (DBox.c false))) (.int .i64 x.1) x.2 H) (0, _) (by simp) ⟨by simp [laws_FnSeals_s0, LeL, LeV], rfl, rfl⟩ ?_
    rintro ⟨k, L⟩ hk
    simp only at hk
    have L0 := len_vm false 4 false l (DBox.c false)
    simp only [EV, EL, EB, EF, q_bx, if_true, if_false, Bool.false_eq_true, Nat.reduceAdd, Option.bind_some, Bool.not_true, Bool.not_false, Nat.reduceBEq, laws_FnSeals_r, laws_FnSeals_d0_q, laws_FnSeals_d1_q, laws_FnSeals_s0, L0]
    refine c_split (fun hlt => ?_) (fun hge2 => ?_)
    rotate_left
    · simp only [EV, EL, EB, EF, q_bx, if_true, if_false, Bool.false_eq_true, Nat.reduceAdd, Option.bind_some, Bool.not_true, Bool.not_false, Nat.reduceBEq, laws_FnSeals_r, laws_FnSeals_d0_q, laws_FnSeals_d1_q]
      refine TCall.ref (by simp only [EO]) (drawRebrand_V bs (by omega) _) ?_
      rintro _ H2 ⟨⟨b, n1, n2, n3, rfl, hl2⟩, rfl⟩
      simp only [EV, EL, EB, EF, q_bx, if_true, if_false, Bool.false_eq_true, Nat.reduceAdd, Option.bind_some, Bool.not_true, Bool.not_false, Nat.reduceBEq, laws_FnSeals_r, laws_FnSeals_d0_q, laws_FnSeals_d1_q, ER, EB2, beq_self_eq_true, ex_t3]
      refine TCall.val (by simp only [EO]) (rebrandV b (by omega) n1 n2 n3 _) ?_
      simp only [EV, EL, EB, EF, q_bx, if_true, if_false, Bool.false_eq_true, Nat.reduceAdd, Option.bind_some, Bool.not_true, Bool.not_false, Nat.reduceBEq, laws_FnSeals_r, laws_FnSeals_d0_q, laws_FnSeals_d1_q, ER, EB2, beq_self_eq_true]
      refine TCall.val (by simp only [EO]) (rebrandSV b (by omega) n1 n2 n3 _) ?_
      cases hr : (rebrandF b n1 n2 n3).2
      · simp only [EV, EL, EB, EF, q_bx, if_true, if_false, Bool.false_eq_true, Nat.reduceAdd, Option.bind_some, Bool.not_true, Bool.not_false, Nat.reduceBEq, laws_FnSeals_r, laws_FnSeals_d0_q, laws_FnSeals_d1_q, ER, EB2, beq_self_eq_true]
        refine TCall.val (by simp only [EO]) (impl_AreBoxes_T false b (by omega) _) ?_
        simp only [EV, EL, EB, EF, q_bx, if_true, if_false, Bool.false_eq_true, Nat.reduceAdd, Option.bind_some, Bool.not_true, Bool.not_false, Nat.reduceBEq, laws_FnSeals_r, laws_FnSeals_d0_q, laws_FnSeals_d1_q, ER, EB2, beq_self_eq_true]
        refine TCall.val (by simp only [EO]) (spec_AreBoxes_T false b (by omega) _) ?_
        simp only [EV, EL, EB, EF, q_bx, if_true, if_false, Bool.false_eq_true, Nat.reduceAdd, Option.bind_some, Bool.not_true, Bool.not_false, Nat.reduceBEq, laws_FnSeals_r, laws_FnSeals_d0_q, laws_FnSeals_d1_q, ER, EB2, beq_self_eq_true]
        refine TCall.val (by simp only [EO]) (boxesV b (by omega) n1 _) ?_
        simp only [EV, EL, EB, EF, q_bx, if_true, if_false, Bool.false_eq_true, Nat.reduceAdd, Option.bind_some, Bool.not_true, Bool.not_false, Nat.reduceBEq, laws_FnSeals_r, laws_FnSeals_d0_q, laws_FnSeals_d1_q, ER, EB2, beq_self_eq_true]
        refine TCall.val (by simp only [EO]) (boxesSV b (by omega) n1 _) ?_
        simp only [EV, EL, EB, EF, q_bx, if_true, if_false, Bool.false_eq_true, Nat.reduceAdd, Option.bind_some, Bool.not_true, Bool.not_false, Nat.reduceBEq, laws_FnSeals_r, laws_FnSeals_d0_q, laws_FnSeals_d1_q, ER, EB2, beq_self_eq_true]
        refine TCall.val (by simp only [EO]) (laws_sameInts_T _ (by have := boxesOfF_len n1 b; omega) _) ?_
        simp only [EV, EL, EB, EF, q_bx, if_true, if_false, Bool.false_eq_true, Nat.reduceAdd, Option.bind_some, Bool.not_true, Bool.not_false, Nat.reduceBEq, laws_FnSeals_r, laws_FnSeals_d0_q, laws_FnSeals_d1_q, ER, EB2, beq_self_eq_true]
        first | exact ⟨rfl, rfl⟩ | exact rfl
      · have u4 := rebrand_ok hr
        simp only [EV, EL, EB, EF, q_bx, if_true, if_false, Bool.false_eq_true, Nat.reduceAdd, Option.bind_some, Bool.not_true, Bool.not_false, Nat.reduceBEq, laws_FnSeals_r, laws_FnSeals_d0_q, laws_FnSeals_d1_q, ER, EB2, beq_self_eq_true]
        refine TCall.val (by simp only [EO]) (impl_Unseal_T false _ (by have := rebrand_len b n1 n2 n3; omega) n2 n3 _) ?_
        simp only [EV, EL, EB, EF, q_bx, if_true, if_false, Bool.false_eq_true, Nat.reduceAdd, Option.bind_some, Bool.not_true, Bool.not_false, Nat.reduceBEq, laws_FnSeals_r, laws_FnSeals_d0_q, laws_FnSeals_d1_q, ER, EB2, beq_self_eq_true, DValue.c, u4]
        refine TCall.val (by simp only [EO]) (impl_AreBoxes_T false b (by omega) _) ?_
        simp only [EV, EL, EB, EF, q_bx, if_true, if_false, Bool.false_eq_true, Nat.reduceAdd, Option.bind_some, Bool.not_true, Bool.not_false, Nat.reduceBEq, laws_FnSeals_r, laws_FnSeals_d0_q, laws_FnSeals_d1_q, ER, EB2, beq_self_eq_true]
        refine TCall.val (by simp only [EO]) (spec_AreBoxes_T false b (by omega) _) ?_
        simp only [EV, EL, EB, EF, q_bx, if_true, if_false, Bool.false_eq_true, Nat.reduceAdd, Option.bind_some, Bool.not_true, Bool.not_false, Nat.reduceBEq, laws_FnSeals_r, laws_FnSeals_d0_q, laws_FnSeals_d1_q, ER, EB2, beq_self_eq_true]
        refine TCall.val (by simp only [EO]) (boxesV b (by omega) n1 _) ?_
        simp only [EV, EL, EB, EF, q_bx, if_true, if_false, Bool.false_eq_true, Nat.reduceAdd, Option.bind_some, Bool.not_true, Bool.not_false, Nat.reduceBEq, laws_FnSeals_r, laws_FnSeals_d0_q, laws_FnSeals_d1_q, ER, EB2, beq_self_eq_true]
        refine TCall.val (by simp only [EO]) (boxesSV b (by omega) n1 _) ?_
        simp only [EV, EL, EB, EF, q_bx, if_true, if_false, Bool.false_eq_true, Nat.reduceAdd, Option.bind_some, Bool.not_true, Bool.not_false, Nat.reduceBEq, laws_FnSeals_r, laws_FnSeals_d0_q, laws_FnSeals_d1_q, ER, EB2, beq_self_eq_true]
        refine TCall.val (by simp only [EO]) (laws_sameInts_T _ (by have := boxesOfF_len n1 b; omega) _) ?_
        simp only [EV, EL, EB, EF, q_bx, if_true, if_false, Bool.false_eq_true, Nat.reduceAdd, Option.bind_some, Bool.not_true, Bool.not_false, Nat.reduceBEq, laws_FnSeals_r, laws_FnSeals_d0_q, laws_FnSeals_d1_q, ER, EB2, beq_self_eq_true]
        first | exact ⟨rfl, rfl⟩ | exact rfl
    have hlt : k < l.length := by simpa using hlt
    have i0 := idx_vm (β := false) (sz := 4) (ex := false) (ce := DBox.c false) hlt
    have u3 : unsealF xs l[k].brand l[k].id = (l[k].value, true) := by have := unseal_at hA (i := k) (by omega); rwa [hge k hlt] at this
    simp only [EV, EL, EB, EF, q_bx, if_true, if_false, Bool.false_eq_true, Nat.reduceAdd, Option.bind_some, Bool.not_true, Bool.not_false, Nat.reduceBEq, laws_FnSeals_r, laws_FnSeals_d0_q, laws_FnSeals_d1_q, i0, DBox.c, DValue.c]
    refine ⟨?_, ?_⟩
    · refine TCall.val (by simp only [EO]) (impl_Unseal_T false xs (by omega) l[k].brand l[k].id _) ?_
      rw [u3]
      simp only [EV, EL, EB, EF, q_bx, if_true, if_false, Bool.false_eq_true, Nat.reduceAdd, Option.bind_some, Bool.not_true, Bool.not_false, Nat.reduceBEq, laws_FnSeals_r, laws_FnSeals_d0_q, laws_FnSeals_d1_q, ER, DValue.c, EB2, i0, DBox.c, agg2_self]
      exact ⟨(k + 1, _), hlt, by simp only; omega, ⟨by rw [wN (by omega)]; simp [laws_FnSeals_s0, LeL, LeV], rfl, rfl⟩⟩
    · refine TCall.val (by simp only [EO]) (impl_Unseal_T false xs (by omega) l[k].brand l[k].id _) ?_
      rw [u3]
      simp only [EV, EL, EB, EF, q_bx, if_true, if_false, Bool.false_eq_true, Nat.reduceAdd, Option.bind_some, Bool.not_true, Bool.not_false, Nat.reduceBEq, laws_FnSeals_r, laws_FnSeals_d0_q, laws_FnSeals_d1_q, ER, DValue.c, EB2, i0, DBox.c, agg2_self]
      exact ⟨(k + 1, _), hlt, by simp only; omega, ⟨by rw [wN (by omega)]; simp [laws_FnSeals_s0, LeL, LeV], rfl, rfl⟩⟩
  · have eA : sealF l n y = (l, -1) := if_neg hA
    have L0 := len_vm false 4 false l (DBox.c false)
    simp only [EV, EL, EB, EF, q_bx, if_true, if_false, Bool.false_eq_true, Nat.reduceAdd, Option.bind_some, Bool.not_true, Bool.not_false, Nat.reduceBEq, laws_FnSeals_r, laws_FnSeals_d0_q, laws_FnSeals_d1_q, ER, DValue.c, EB2, eA, ne_int, decide_true, L0, show decide ((-1 : Int) < 0) = true from rfl, show decide ((-1 : Int) > 0) = false from rfl]
    refine TCall.ref (by simp only [EO]) (drawRebrand_V bs (by omega) _) ?_
    rintro _ H2 ⟨⟨b, n1, n2, n3, rfl, hl2⟩, rfl⟩
    simp only [EV, EL, EB, EF, q_bx, if_true, if_false, Bool.false_eq_true, Nat.reduceAdd, Option.bind_some, Bool.not_true, Bool.not_false, Nat.reduceBEq, laws_FnSeals_r, laws_FnSeals_d0_q, laws_FnSeals_d1_q, ER, EB2, beq_self_eq_true, ex_t3]
    refine TCall.val (by simp only [EO]) (rebrandV b (by omega) n1 n2 n3 _) ?_
    simp only [EV, EL, EB, EF, q_bx, if_true, if_false, Bool.false_eq_true, Nat.reduceAdd, Option.bind_some, Bool.not_true, Bool.not_false, Nat.reduceBEq, laws_FnSeals_r, laws_FnSeals_d0_q, laws_FnSeals_d1_q, ER, EB2, beq_self_eq_true]
    refine TCall.val (by simp only [EO]) (rebrandSV b (by omega) n1 n2 n3 _) ?_
    cases hr : (rebrandF b n1 n2 n3).2
    · simp only [EV, EL, EB, EF, q_bx, if_true, if_false, Bool.false_eq_true, Nat.reduceAdd, Option.bind_some, Bool.not_true, Bool.not_false, Nat.reduceBEq, laws_FnSeals_r, laws_FnSeals_d0_q, laws_FnSeals_d1_q, ER, EB2, beq_self_eq_true]
      refine TCall.val (by simp only [EO]) (impl_AreBoxes_T false b (by omega) _) ?_
      simp only [EV, EL, EB, EF, q_bx, if_true, if_false, Bool.false_eq_true, Nat.reduceAdd, Option.bind_some, Bool.not_true, Bool.not_false, Nat.reduceBEq, laws_FnSeals_r, laws_FnSeals_d0_q, laws_FnSeals_d1_q, ER, EB2, beq_self_eq_true]
      refine TCall.val (by simp only [EO]) (spec_AreBoxes_T false b (by omega) _) ?_
      simp only [EV, EL, EB, EF, q_bx, if_true, if_false, Bool.false_eq_true, Nat.reduceAdd, Option.bind_some, Bool.not_true, Bool.not_false, Nat.reduceBEq, laws_FnSeals_r, laws_FnSeals_d0_q, laws_FnSeals_d1_q, ER, EB2, beq_self_eq_true]
      refine TCall.val (by simp only [EO]) (boxesV b (by omega) n1 _) ?_
      simp only [EV, EL, EB, EF, q_bx, if_true, if_false, Bool.false_eq_true, Nat.reduceAdd, Option.bind_some, Bool.not_true, Bool.not_false, Nat.reduceBEq, laws_FnSeals_r, laws_FnSeals_d0_q, laws_FnSeals_d1_q, ER, EB2, beq_self_eq_true]
      refine TCall.val (by simp only [EO]) (boxesSV b (by omega) n1 _) ?_
      simp only [EV, EL, EB, EF, q_bx, if_true, if_false, Bool.false_eq_true, Nat.reduceAdd, Option.bind_some, Bool.not_true, Bool.not_false, Nat.reduceBEq, laws_FnSeals_r, laws_FnSeals_d0_q, laws_FnSeals_d1_q, ER, EB2, beq_self_eq_true]
      refine TCall.val (by simp only [EO]) (laws_sameInts_T _ (by have := boxesOfF_len n1 b; omega) _) ?_
      simp only [EV, EL, EB, EF, q_bx, if_true, if_false, Bool.false_eq_true, Nat.reduceAdd, Option.bind_some, Bool.not_true, Bool.not_false, Nat.reduceBEq, laws_FnSeals_r, laws_FnSeals_d0_q, laws_FnSeals_d1_q, ER, EB2, beq_self_eq_true]
      first | exact ⟨rfl, rfl⟩ | exact rfl
    · have u4 := rebrand_ok hr
      simp only [EV, EL, EB, EF, q_bx, if_true, if_false, Bool.false_eq_true, Nat.reduceAdd, Option.bind_some, Bool.not_true, Bool.not_false, Nat.reduceBEq, laws_FnSeals_r, laws_FnSeals_d0_q, laws_FnSeals_d1_q, ER, EB2, beq_self_eq_true]
      refine TCall.val (by simp only [EO]) (impl_Unseal_T false _ (by have := rebrand_len b n1 n2 n3; omega) n2 n3 _) ?_
      simp only [EV, EL, EB, EF, q_bx, if_true, if_false, Bool.false_eq_true, Nat.reduceAdd, Option.bind_some, Bool.not_true, Bool.not_false, Nat.reduceBEq, laws_FnSeals_r, laws_FnSeals_d0_q, laws_FnSeals_d1_q, ER, EB2, beq_self_eq_true, DValue.c, u4]
      refine TCall.val (by simp only [EO]) (impl_AreBoxes_T false b (by omega) _) ?_
      simp only [EV, EL, EB, EF, q_bx, if_true, if_false, Bool.false_eq_true, Nat.reduceAdd, Option.bind_some, Bool.not_true, Bool.not_false, Nat.reduceBEq, laws_FnSeals_r, laws_FnSeals_d0_q, laws_FnSeals_d1_q, ER, EB2, beq_self_eq_true]
      refine TCall.val (by simp only [EO]) (spec_AreBoxes_T false b (by omega) _) ?_
      simp only [EV, EL, EB, EF, q_bx, if_true, if_false, Bool.false_eq_true, Nat.reduceAdd, Option.bind_some, Bool.not_true, Bool.not_false, Nat.reduceBEq, laws_FnSeals_r, laws_FnSeals_d0_q, laws_FnSeals_d1_q, ER, EB2, beq_self_eq_true]
      refine TCall.val (by simp only [EO]) (boxesV b (by omega) n1 _) ?_
      simp only [EV, EL, EB, EF, q_bx, if_true, if_false, Bool.false_eq_true, Nat.reduceAdd, Option.bind_some, Bool.not_true, Bool.not_false, Nat.reduceBEq, laws_FnSeals_r, laws_FnSeals_d0_q, laws_FnSeals_d1_q, ER, EB2, beq_self_eq_true]
      refine TCall.val (by simp only [EO]) (boxesSV b (by omega) n1 _) ?_
      simp only [EV, EL, EB, EF, q_bx, if_true, if_false, Bool.false_eq_true, Nat.reduceAdd, Option.bind_some, Bool.not_true, Bool.not_false, Nat.reduceBEq, laws_FnSeals_r, laws_FnSeals_d0_q, laws_FnSeals_d1_q, ER, EB2, beq_self_eq_true]
      refine TCall.val (by simp only [EO]) (laws_sameInts_T _ (by have := boxesOfF_len n1 b; omega) _) ?_
      simp only [EV, EL, EB, EF, q_bx, if_true, if_false, Bool.false_eq_true, Nat.reduceAdd, Option.bind_some, Bool.not_true, Bool.not_false, Nat.reduceBEq, laws_FnSeals_r, laws_FnSeals_d0_q, laws_FnSeals_d1_q, ER, EB2, beq_self_eq_true]
      first | exact ⟨rfl, rfl⟩ | exact rfl

end Go.Proofs.Ytjohoameeeaafaa
