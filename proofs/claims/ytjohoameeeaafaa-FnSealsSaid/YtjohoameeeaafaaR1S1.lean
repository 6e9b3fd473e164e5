import Derived.Test.YtjohoameeeaafaaR1SI
import Derived.Test.YtjohoameeeaafaaR1DR
set_option linter.unusedVariables false
set_option linter.unusedSimpArgs false
namespace Go.Proofs.Ytjohoameeeaafaa
open Go.AM
set_option linter.unusedVariables false
set_option linter.unusedSimpArgs false
variable {Γ : Glob}
/-! Lists of boxes that are drawn. -/
theorem spec_l32List_T (H : AH) {b : Nat} {bs : List Int} (hb : bs.length ≤ 1073741824) (hc : Cur H b bs) : T Try.prog Γ Fn.spec_l32List [.gp b 0 0] H fun v h' => ∃ (l : List DBox) (fp : List Nat), Own h' v (.sl 4 (l.map DBox.cd)) fp ∧ fp.Nodup ∧ b ∉ fp ∧ (∀ c ∈ fp, H.length ≤ c) ∧ l.length ≤ 6 ∧ DrewX H h' b bs := by
  obtain ⟨i9, h9, p9, hg9⟩ := hc
  have hbl : b < H.length := hget_lt hg9
  have hc : Cur H b bs := ⟨i9, h9, p9, hg9⟩
  have e0 : DrewX H (H ++ [some (0, [])]) b bs := .ofExt hc (HExt.app _ _)
  refine spec_l32List_e (aw_sound tabOK mixed [] _ _ _ ?_)
  unfold spec_l32List_c
  simp only [EV, EL, EB, EF, q_bx, if_true, if_false, Bool.false_eq_true, Nat.reduceAdd, Option.bind_some, Bool.not_true, Bool.not_false, Nat.reduceBEq, spec_l32List_r, EA]
  refine TCall.ref (by simp only [EO]) (l1Below_X _ hb e0.cur _) ?_
  rintro _ H1 ⟨x, rfl, x0, x1, d1⟩
  have d1o : DrewX (H ++ [some (0, [])]) H1 b bs := d1
  replace d1 : DrewX H H1 b bs := e0.trans d1o
  simp only [EV, EL, EB, EF, q_bx, if_true, if_false, Bool.false_eq_true, Nat.reduceAdd, Option.bind_some, Bool.not_true, Bool.not_false, Nat.reduceBEq, spec_l32List_r]
  have o0 := d1o.own (bsl0_own H 4) (show b ∉ [H.length] by simp; omega)
  obtain ⟨n, rfl⟩ : ∃ n : Nat, x = n := ⟨x.toNat, by omega⟩
  have hn : (n : Int) < 6 := x1 (by omega)
  refine loopI tabOK mixed [] (fun y : Nat × AV × AH × List Nat × List DBox => y.2.2.2.2.length + y.1 ≤ 6 ∧ Own y.2.2.1 y.2.1 (.sl 4 (y.2.2.2.2.map DBox.cd)) y.2.2.2.1 ∧ y.2.2.2.1.Nodup ∧ b ∉ y.2.2.2.1 ∧ (∀ c ∈ y.2.2.2.1, H.length ≤ c) ∧ DrewX H y.2.2.1 b bs) (fun y => y.1)
    (fun y => spec_l32List_s0 (.gp b 0 0) y.2.1 (.int .i64 y.1) [] y.2.2.1) (n, .gs H.length 0 0 0 0 4 true, H1, [H.length], []) ⟨by simp only [List.length_nil]; omega, o0, by simp, by simp; omega, by simp, d1⟩ ⟨by simp [spec_l32List_s0, LeL, LeV], rfl, rfl⟩ ?_
  rintro ⟨j, v, H2, fp, l⟩ ⟨hl, ho, nd, hbf, hfp, d2⟩
  simp only at hl ho nd hbf hfp d2
  by_cases hj : (j : Int) > 0
  rotate_left
  · simp only [EV, EL, EB, EF, q_bx, if_true, if_false, Bool.false_eq_true, Nat.reduceAdd, Option.bind_some, Bool.not_true, Bool.not_false, Nat.reduceBEq, spec_l32List_r, spec_l32List_s0, decide_eq_false hj]
    exact ⟨ho.outOK, l, fp, ho, nd, hbf, hfp, by omega, d2⟩
  simp only [EV, EL, EB, EF, q_bx, if_true, if_false, Bool.false_eq_true, Nat.reduceAdd, Option.bind_some, Bool.not_true, Bool.not_false, Nat.reduceBEq, spec_l32List_r, spec_l32List_s0, decide_eq_true hj]
  refine TCall.ref (by simp only [EO]) (l1Below_X _ hb d2.cur _) ?_
  rintro _ H3 ⟨x2, rfl, x20, x21, d3⟩
  replace d3 : DrewX H2 H3 b bs := d3
  simp only [EV, EL, EB, EF, q_bx, if_true, if_false, Bool.false_eq_true, Nat.reduceAdd, Option.bind_some, Bool.not_true, Bool.not_false, Nat.reduceBEq, spec_l32List_r]
  refine TCall.ref (by simp only [EO]) (l1Below_X _ hb d3.cur _) ?_
  rintro _ H4 ⟨x3, rfl, x30, x31, d4⟩
  replace d4 : DrewX H3 H4 b bs := d4
  simp only [EV, EL, EB, EF, q_bx, if_true, if_false, Bool.false_eq_true, Nat.reduceAdd, Option.bind_some, Bool.not_true, Bool.not_false, Nat.reduceBEq, spec_l32List_r]
  refine TCall.ref (by simp only [EO]) (spec_IntValue_T _ _) ?_
  rintro _ H5 ⟨⟨z, rfl⟩, e⟩
  replace e : H5 = H4 := e
  subst e
  have ho4 := (d3.trans d4).own ho hbf
  have d24 := (d2.trans d3).trans d4
  obtain ⟨c1, c2, c3, c4⟩ := ho4.cell
  simp only [EV, EL, EB, EF, q_bx, if_true, if_false, Bool.false_eq_true, Nat.reduceAdd, Option.bind_some, Bool.not_true, Bool.not_false, Nat.reduceBEq, spec_l32List_r, DValue.c]
  refine TCall.own (by simp only [EO, c4]) (snap_c (Own.see (DBox.c_eq true) ho4) (snap_c (.same _) (snap_c (.same _) snap_n))) (spec_SealIn_T true false l (by omega) _ z) ?_
  rintro _ H6 fr
  replace fr : Fresh H5 _ _ _ := fr
  obtain ⟨w, fw, rfl, ow, nw, bw, ew⟩ := fr.c2 rfl
  obtain ⟨k1, k2, k3, k4⟩ := ow.cell
  simp only [EV, EL, EB, EF, q_bx, if_true, if_false, Bool.false_eq_true, Nat.reduceAdd, Option.bind_some, Bool.not_true, Bool.not_false, Nat.reduceBEq, spec_l32List_r, ER, k1, k2, k3, CD.av_i]
  have hsl := sealF_len l (IntKind.i64.wrap (1 + x2)) z
  have d56 : DrewX H5 H6 b bs := .ofExt d24.cur ew
  have hw : IntKind.i64.wrap ((j : Int) - 1) = ((j - 1 : Nat) : Int) := by rw [show (j : Int) - 1 = ((j - 1 : Nat) : Int) by omega]; exact wrap_nat (by omega) (by omega)
  have := d24.len
  refine ⟨(j - 1, w, H6, fw, (sealF l (IntKind.i64.wrap (1 + x2)) z).1), ⟨by simp only; omega, ow, nw, fun hm => by have := bw b hm; omega, fun c hc => by have := bw c hc; omega, d24.trans d56⟩, by simp only; omega, ⟨by rw [hw]; simp [spec_l32List_s0, LeL, LeV], rfl, rfl⟩⟩

theorem spec_l32Any_T (H : AH) {b : Nat} {bs : List Int} (hb : bs.length ≤ 1073741824) (hc : Cur H b bs) : T Try.prog Γ Fn.spec_l32Any [.gp b 0 0] H fun v h' => ∃ (l : List DBox) (fp : List Nat), Own h' v (.sl 4 (l.map DBox.cd)) fp ∧ fp.Nodup ∧ b ∉ fp ∧ (∀ c ∈ fp, H.length ≤ c) ∧ l.length ≤ 20 ∧ DrewX H h' b bs := by
  obtain ⟨i9, h9, p9, hg9⟩ := hc
  have hbl : b < H.length := hget_lt hg9
  have hc : Cur H b bs := ⟨i9, h9, p9, hg9⟩
  refine spec_l32Any_e (aw_sound tabOK mixed [] _ _ _ ?_)
  unfold spec_l32Any_c
  simp only [EV, EL, EB, EF, q_bx, if_true, if_false, Bool.false_eq_true, Nat.reduceAdd, Option.bind_some, Bool.not_true, Bool.not_false, Nat.reduceBEq, spec_l32Any_r]
  refine TCall.ref (by simp only [EO]) (spec_l32List_T _ hb hc) ?_
  rintro v H1 ⟨l, fp, ho, nd, hbf, hfp, hl, d1⟩
  replace d1 : DrewX H H1 b bs := d1
  replace hfp : ∀ c ∈ fp, H.length ≤ c := hfp
  obtain ⟨a1, a2, a3, a4⟩ := ho.cell
  simp only [EV, EL, EB, EF, q_bx, if_true, if_false, Bool.false_eq_true, Nat.reduceAdd, Option.bind_some, Bool.not_true, Bool.not_false, Nat.reduceBEq, spec_l32Any_r]
  refine TCall.ref (by simp only [EO]) (l1Below_X _ hb d1.cur _) ?_
  rintro _ H2 ⟨x, rfl, x0, x1, d2⟩
  replace d2 : DrewX H1 H2 b bs := d2
  have ho2 := d2.own ho hbf
  have d12 := d1.trans d2
  by_cases k0 : x = 0
  · simp only [EV, EL, EB, EF, q_bx, if_true, if_false, Bool.false_eq_true, Nat.reduceAdd, Option.bind_some, Bool.not_true, Bool.not_false, Nat.reduceBEq, spec_l32Any_r, EA, rp_4, beq_dec, decide_eq_true k0]
    have oi := ints_own H2 [0, 1, 9, 9223372036854775807] (n := 4) rfl
    have d3 : DrewX H2 (H2 ++ [some (0, ([0, 1, 9, 9223372036854775807].map fun n => [AV.int .i64 n]).flatten)]) b bs := .ofExt d12.cur (HExt.app _ _)
    have hne : b ∉ [H2.length] := by simp; have := d12.len; omega
    refine TCall.ref (by simp only [EO]) (spec_l1Int_T _ hb d3.cur oi hne (by simp)) ?_
    rintro _ H4 ⟨y, rfl, d4⟩
    replace d4 : DrewX H2 H4 b bs := d3.trans d4
    simp only [EV, EL, EB, EF, q_bx, if_true, if_false, Bool.false_eq_true, Nat.reduceAdd, Option.bind_some, Bool.not_true, Bool.not_false, Nat.reduceBEq, spec_l32Any_r]
    refine TCall.ref (by simp only [EO]) (l1Below_X _ hb d4.cur _) ?_
    rintro _ H5 ⟨z, rfl, z0, z1, d5⟩
    replace d5 : DrewX H4 H5 b bs := d5
    simp only [EV, EL, EB, EF, q_bx, if_true, if_false, Bool.false_eq_true, Nat.reduceAdd, Option.bind_some, Bool.not_true, Bool.not_false, Nat.reduceBEq, spec_l32Any_r]
    refine TCall.ref (by simp only [EO]) (spec_l4Any_T _ hb d5.cur) ?_
    rintro _ H6 ⟨u, rfl, d6⟩
    replace d6 : DrewX H5 H6 b bs := d6
    have d26 := (d4.trans d5).trans d6
    have ho6 := d26.own ho2 hbf
    obtain ⟨v', H', fp', ea, o', nd', hf', hl', hm'⟩ := app_ext (bytes := 32) ho6 (ys := [.int .i64 y, .int .i64 z, .int .i64 u.kind, .int .i64 u.n]) (row := DBox.cd ⟨y, z, u⟩) (f2 := []) (by simpa using nd) (by omega) rfl (.i (.i (.i (.i .nil)))) (by simp only [List.length_map, maxMade]; omega)
    simp only [EV, EL, EB, EF, q_bx, if_true, if_false, Bool.false_eq_true, Nat.reduceAdd, Option.bind_some, Bool.not_true, Bool.not_false, Nat.reduceBEq, spec_l32Any_r, EA, DValue.c, ea]
    have d16 := d12.trans d26
    have dl := d16.len
    refine ⟨o'.outOK, l ++ [⟨y, z, u⟩], fp', by rw [List.map_append]; exact o', nd', fun hm => ?_, fun c hc => ?_, by simp; omega, ⟨?_, Nat.le_trans dl hl', fun c hc hcb => ?_⟩⟩
    · rcases hm' b hm with g | g | g
      · exact hbf g
      · simp at g
      · omega
    · rcases hm' c hc with g | g | g
      · exact hfp c g
      · simp at g
      · omega
    · obtain ⟨i, h, hi, hg⟩ := d26.cur
      exact ⟨i, h, hi, frame_hget hg (hf' b hbf (by omega))⟩
    · rw [hf' c (fun hm => by have := hfp c hm; omega) (by omega)]; exact d16.fr c hc hcb
  by_cases k1 : x = 1
  · have La := (len_own ho2).2
    rw [List.length_map] at La
    simp only [EV, EL, EB, EF, q_bx, if_true, if_false, Bool.false_eq_true, Nat.reduceAdd, Option.bind_some, Bool.not_true, Bool.not_false, Nat.reduceBEq, spec_l32Any_r, EA, beq_dec, decide_eq_false k0, decide_eq_true k1, La]
    refine loopI tabOK mixed [] (fun y : Nat × AV × AH × List Nat × List DBox => y.2.2.2.2.length ≤ y.1 ∧ y.1 ≤ 12 ∧ Own y.2.2.1 y.2.1 (.sl 4 (y.2.2.2.2.map DBox.cd)) y.2.2.2.1 ∧ y.2.2.2.1.Nodup ∧ b ∉ y.2.2.2.1 ∧ (∀ c ∈ y.2.2.2.1, H.length ≤ c) ∧ DrewX H y.2.2.1 b bs) (fun y => 12 - y.1)
      (fun y => spec_l32Any_s0 y.2.1 (.int .i64 y.1) [] y.2.2.1) (l.length, v, H2, fp, l) ⟨by simp, by simp only; omega, ho2, nd, hbf, hfp, d12⟩ ⟨by simp [spec_l32Any_s0, LeL, LeV], rfl, rfl⟩ ?_
    rintro ⟨j, v, H3, fp, l⟩ ⟨hl, hj12, ho, nd, hbf, hfp, d3⟩
    simp only at hl hj12 ho nd hbf hfp d3
    by_cases hj : (j : Int) < 12
    rotate_left
    · simp only [EV, EL, EB, EF, q_bx, if_true, if_false, Bool.false_eq_true, Nat.reduceAdd, Option.bind_some, Bool.not_true, Bool.not_false, Nat.reduceBEq, spec_l32Any_r, spec_l32Any_s0, decide_eq_false hj]
      exact ⟨ho.outOK, l, fp, ho, nd, hbf, hfp, by omega, d3⟩
    simp only [EV, EL, EB, EF, q_bx, if_true, if_false, Bool.false_eq_true, Nat.reduceAdd, Option.bind_some, Bool.not_true, Bool.not_false, Nat.reduceBEq, spec_l32Any_r, spec_l32Any_s0, decide_eq_true hj]
    refine TCall.ref (by simp only [EO]) (spec_IntValue_T _ _) ?_
    rintro _ H5 ⟨⟨z, rfl⟩, e⟩
    replace e : H5 = H3 := e
    subst e
    obtain ⟨c1, c2, c3, c4⟩ := ho.cell
    simp only [EV, EL, EB, EF, q_bx, if_true, if_false, Bool.false_eq_true, Nat.reduceAdd, Option.bind_some, Bool.not_true, Bool.not_false, Nat.reduceBEq, spec_l32Any_r, DValue.c]
    refine TCall.own (by simp only [EO, c4]) (snap_c (Own.see (DBox.c_eq true) ho) (snap_c (.same _) (snap_c (.same _) snap_n))) (spec_SealIn_T true false l (by omega) _ z) ?_
    rintro _ H6 fr
    replace fr : Fresh H5 _ _ _ := fr
    obtain ⟨w, fw, rfl, ow, nw, bw, ew⟩ := fr.c2 rfl
    obtain ⟨k1, k2, k3, k4⟩ := ow.cell
    simp only [EV, EL, EB, EF, q_bx, if_true, if_false, Bool.false_eq_true, Nat.reduceAdd, Option.bind_some, Bool.not_true, Bool.not_false, Nat.reduceBEq, spec_l32Any_r, ER, k1, k2, k3, CD.av_i]
    have hsl := sealF_len l 1 z
    have d56 : DrewX H5 H6 b bs := .ofExt d3.cur ew
    have := d3.len
    refine ⟨(j + 1, w, H6, fw, (sealF l 1 z).1), ⟨by simp only; omega, by simp only; omega, ow, nw, fun hm => by have := bw b hm; omega, fun c hc => by have := bw c hc; omega, d3.trans d56⟩, by simp only; omega, ⟨by rw [wN (by omega)]; simp [spec_l32Any_s0, LeL, LeV], rfl, rfl⟩⟩
  simp only [EV, EL, EB, EF, q_bx, if_true, if_false, Bool.false_eq_true, Nat.reduceAdd, Option.bind_some, Bool.not_true, Bool.not_false, Nat.reduceBEq, spec_l32Any_r, EA, beq_dec, decide_eq_false k0, decide_eq_false k1]
  exact ⟨ho2.outOK, l, fp, ho2, nd, hbf, hfp, by omega, d12⟩

/-- What FnSeals draws. -/
theorem spec_DrawSealIn_T (bs : List Int) (hb : bs.length ≤ 1073741824) (h : AH) : T Try.prog Γ Fn.spec_DrawSealIn [.vs false 1 false (bs.map fun n => [.int .u8 n])] h fun v h' => ∃ (l : List DBox) (w : AV) (fp : List Nat) (n : Int) (y : DValue), v = .tup [w, .int .i64 n, .agg (y.c false)] ∧ Own h' w (.sl 4 (l.map DBox.cd)) fp ∧ fp.Nodup ∧ (∀ c ∈ fp, h.length ≤ c) ∧ l.length ≤ 20 ∧ HExt h h' := by
  refine spec_DrawSealIn_e (aw_sound tabOK mixed [] _ _ _ ?_)
  unfold spec_DrawSealIn_c
  simp only [EV, EL, EB, EF, q_bx, if_true, if_false, Bool.false_eq_true, Nat.reduceAdd, Option.bind_some, Bool.not_true, Bool.not_false, Nat.reduceBEq, spec_DrawSealIn_r]
  refine TCall.ref (by simp only [EO]) (spec_l1New_T bs hb _) ?_
  rintro _ H1 ⟨b, rfl, c1, e1, hbh⟩
  replace e1 : HExt h H1 := e1
  replace hbh : h.length ≤ b := hbh
  simp only [EV, EL, EB, EF, q_bx, if_true, if_false, Bool.false_eq_true, Nat.reduceAdd, Option.bind_some, Bool.not_true, Bool.not_false, Nat.reduceBEq, spec_DrawSealIn_r]
  refine TCall.ref (by simp only [EO]) (spec_l32Any_T _ hb c1) ?_
  rintro w H2 ⟨l, fp, ho, nd, hbf, hfp, hl, d2⟩
  replace d2 : DrewX H1 H2 b bs := d2
  replace hfp : ∀ c ∈ fp, H1.length ≤ c := hfp
  obtain ⟨a1, a2, a3, a4⟩ := ho.cell
  simp only [EV, EL, EB, EF, q_bx, if_true, if_false, Bool.false_eq_true, Nat.reduceAdd, Option.bind_some, Bool.not_true, Bool.not_false, Nat.reduceBEq, spec_DrawSealIn_r]
  refine TCall.ref (by simp only [EO]) (l1Below_X _ hb d2.cur _) ?_
  rintro _ H3 ⟨n, rfl, n0, n1, d3⟩
  replace d3 : DrewX H2 H3 b bs := d3
  simp only [EV, EL, EB, EF, q_bx, if_true, if_false, Bool.false_eq_true, Nat.reduceAdd, Option.bind_some, Bool.not_true, Bool.not_false, Nat.reduceBEq, spec_DrawSealIn_r]
  refine TCall.ref (by simp only [EO]) (spec_l4Any_T _ hb d3.cur) ?_
  rintro _ H4 ⟨y, rfl, d4⟩
  replace d4 : DrewX H3 H4 b bs := d4
  have d := (d2.trans d3).trans d4
  have ho4 := (d3.trans d4).own ho hbf
  have dl := d.len
  have el := e1.len
  simp only [EV, EL, EB, EF, q_bx, if_true, if_false, Bool.false_eq_true, Nat.reduceAdd, Option.bind_some, Bool.not_true, Bool.not_false, Nat.reduceBEq, spec_DrawSealIn_r, ER, DValue.c, a1, a2, a3, a4]
  exact ⟨by simp only [List.all_cons, List.all_nil, a4]; rfl, l, w, fp, n, y, rfl, ho4, nd, fun c hc => by have := hfp c hc; omega, hl, ⟨by omega, fun c hc => (d.fr c (by omega) (by omega)).trans (e1.fr c hc)⟩⟩

end Go.Proofs.Ytjohoameeeaafaa
