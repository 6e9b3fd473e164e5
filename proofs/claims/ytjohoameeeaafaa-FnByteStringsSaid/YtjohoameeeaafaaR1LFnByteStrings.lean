import Derived.Test.YtjohoameeeaafaaR1B2
set_option linter.unusedVariables false
set_option linter.unusedSimpArgs false
namespace Go.Proofs.Ytjohoameeeaafaa
open Go.AM
set_option linter.unusedVariables false
set_option linter.unusedSimpArgs false
variable {Γ : Glob}
/-! The law of byte strings. -/
theorem laws_big_T (bs : List Int) (h : AH) : T Try.prog Γ Fn.laws_big [.vs false 1 false (bs.map fun n => [.int .u8 n])] h fun v h' => v = .bool (decide (1048576 < (bs.length : Int))) ∧ h' = h := by
  have L0 := len_vm false 1 false bs (fun n => [AV.int .u8 n])
  refine laws_big_e (aw_sound tabOK mixed [] _ _ _ ?_)
  unfold laws_big_c
  simp only [EV, EL, EB, EF, q_bx, if_true, if_false, Bool.false_eq_true, Nat.reduceAdd, Option.bind_some, Bool.not_true, Bool.not_false, Nat.reduceBEq, laws_big_r, L0]
  first | exact ⟨rfl, rfl⟩ | exact rfl
theorem wrapI {z : Int} (h0 : 0 ≤ z) (h1 : z < 9000000000000000000) : IntKind.i64.wrap z = z := by
  obtain ⟨m, rfl⟩ := Int.eq_ofNat_of_zero_le h0
  exact wrap_nat (by omega) (by omega)
theorem laws_at_T (bs : List Int) (hb : bs.length ≤ 1048576) (hr : ∀ x ∈ bs, 0 ≤ x ∧ x < 256) (i : Nat) (hi : i ≤ 1048576) (h : AH) : T Try.prog Γ Fn.laws_at [.vs false 1 false (bs.map fun n => [.int .u8 n]), .int .i64 i] h fun v h' => (∃ x : Int, v = .int .i64 x ∧ 0 ≤ x ∧ x ≤ 255) ∧ h' = h := by
  have L0 := len_vm false 1 false bs (fun n => [AV.int .u8 n])
  refine laws_at_e (aw_sound tabOK mixed [] _ _ _ ?_)
  unfold laws_at_c
  by_cases hlt : i < bs.length
  · have i0 := idx_vm (β := false) (sz := 1) (ex := false) (ce := fun n => [AV.int .u8 n]) hlt
    have hx := hr bs[i] (List.getElem_mem hlt)
    simp only [EV, EL, EB, EF, q_bx, if_true, if_false, Bool.false_eq_true, Nat.reduceAdd, Option.bind_some, Bool.not_true, Bool.not_false, Nat.reduceBEq, laws_at_r, L0, i0, decide_eq_true (show (i : Int) < (bs.length : Int) by omega), p_cvi, wrapI hx.1 (by omega)]
    first | exact ⟨rfl, ⟨_, rfl, hx.1, by omega⟩, rfl⟩ | exact ⟨rfl, _, rfl, hx.1, by omega⟩ | exact ⟨⟨_, rfl, hx.1, by omega⟩, rfl⟩ | exact ⟨_, rfl, hx.1, by omega⟩
  · have w1 : IntKind.i64.wrap ((i : Int) * 31) = (i : Int) * 31 := wrapI (by omega) (by omega)
    have w2 : IntKind.i64.wrap ((bs.length : Int) * 7) = (bs.length : Int) * 7 := wrapI (by omega) (by omega)
    have w3 : IntKind.i64.wrap ((i : Int) * 31 + (bs.length : Int) * 7) = (i : Int) * 31 + (bs.length : Int) * 7 := wrapI (by omega) (by omega)
    simp only [EV, EL, EB, EF, q_bx, if_true, if_false, Bool.false_eq_true, Nat.reduceAdd, Option.bind_some, Bool.not_true, Bool.not_false, Nat.reduceBEq, laws_at_r, L0, decide_eq_false (show ¬ (i : Int) < (bs.length : Int) by omega), w1, w2, w3, rem_i _ _ _ (show (256 : Int) ≠ 0 by omega)]
    have h1 := Int.tmod_lt_of_pos ((i : Int) * 31 + (bs.length : Int) * 7) (show (0 : Int) < 256 by omega)
    have h2 := Int.tmod_nonneg (b := 256) (show 0 ≤ (i : Int) * 31 + (bs.length : Int) * 7 by omega)
    first | exact ⟨rfl, ⟨_, rfl, h2, by omega⟩, rfl⟩ | exact ⟨rfl, _, rfl, h2, by omega⟩ | exact ⟨⟨_, rfl, h2, by omega⟩, rfl⟩ | exact ⟨_, rfl, h2, by omega⟩
theorem laws_sameInts_T (β β' : Bool) (l : List Int) (hl : l.length ≤ 1099511627776) (h : AH) : T Try.prog Γ Fn.laws_sameInts [.vs β 1 false (ints l), .vs β' 1 false (ints l)] h fun v h' => v = .bool true ∧ h' = h := by
  have L0 := len_vm β 1 false l (fun n => [AV.int .i64 n])
  have L1 := len_vm β' 1 false l (fun n => [AV.int .i64 n])
  refine laws_sameInts_e (aw_sound tabOK mixed [] _ _ _ ?_)
  unfold laws_sameInts_c
  simp only [EV, EL, EB, EF, q_bx, if_true, if_false, Bool.false_eq_true, Nat.reduceAdd, Option.bind_some, Bool.not_true, Bool.not_false, Nat.reduceBEq, laws_sameInts_r, laws_sameInts_d0_q, L0, L1, ne_int, decide_true]
  refine loopI tabOK mixed [] (fun k : Nat => k ≤ l.length) (fun k => l.length - k)
    (fun k => laws_sameInts_s0 (.vs β 1 false (ints l)) (.vs β' 1 false (ints l)) (.int .i64 k) [] h) 0 (by omega) ⟨by simp [laws_sameInts_s0, LeL, LeV], rfl, rfl⟩ ?_
  rintro k hk
  simp only [EV, EL, EB, EF, q_bx, if_true, if_false, Bool.false_eq_true, Nat.reduceAdd, Option.bind_some, Bool.not_true, Bool.not_false, Nat.reduceBEq, laws_sameInts_r, laws_sameInts_d0_q, laws_sameInts_s0, L0]
  refine c_split (fun hlt => ?_) (fun hge => ?_)
  · have hlt : k < l.length := by simpa using hlt
    have i1 := idx_vm (β := β') (sz := 1) (ex := false) (ce := fun n => [AV.int .i64 n]) hlt
    have i0 := idx_vm (β := β) (sz := 1) (ex := false) (ce := fun n => [AV.int .i64 n]) hlt
    simp only [EV, EL, EB, EF, q_bx, if_true, if_false, Bool.false_eq_true, Nat.reduceAdd, Option.bind_some, Bool.not_true, Bool.not_false, Nat.reduceBEq, laws_sameInts_r, laws_sameInts_d0_q, i0, i1, ne_int, decide_true]
    exact ⟨k + 1, hlt, by omega, ⟨by rw [wN (by omega)]; simp [laws_sameInts_s0, LeL, LeV], rfl, rfl⟩⟩
  · simp only [EV, EL, EB, EF, q_bx, if_true, if_false, Bool.false_eq_true, Nat.reduceAdd, Option.bind_some, Bool.not_true, Bool.not_false, Nat.reduceBEq, laws_sameInts_r, laws_sameInts_d0_q]
    first | exact ⟨rfl, rfl⟩ | exact rfl
theorem laws_sameBytes_T (β β' : Bool) (l : List Int) (hl : l.length ≤ 1099511627776) (h : AH) : T Try.prog Γ Fn.laws_sameBytes [.vs β 1 false (byts l), .vs β' 1 false (byts l)] h fun v h' => v = .bool true ∧ h' = h := by
  have L0 := len_vm β 1 false l (fun n => [AV.int .u8 n])
  have L1 := len_vm β' 1 false l (fun n => [AV.int .u8 n])
  refine laws_sameBytes_e (aw_sound tabOK mixed [] _ _ _ ?_)
  unfold laws_sameBytes_c
  simp only [EV, EL, EB, EF, q_bx, if_true, if_false, Bool.false_eq_true, Nat.reduceAdd, Option.bind_some, Bool.not_true, Bool.not_false, Nat.reduceBEq, laws_sameBytes_r, laws_sameBytes_d0_q, L0, L1, ne_int, decide_true]
  refine loopI tabOK mixed [] (fun k : Nat => k ≤ l.length) (fun k => l.length - k)
    (fun k => laws_sameBytes_s0 (.vs β 1 false (byts l)) (.vs β' 1 false (byts l)) (.int .i64 k) [] h) 0 (by omega) ⟨by simp [laws_sameBytes_s0, LeL, LeV], rfl, rfl⟩ ?_
  rintro k hk
  simp only [EV, EL, EB, EF, q_bx, if_true, if_false, Bool.false_eq_true, Nat.reduceAdd, Option.bind_some, Bool.not_true, Bool.not_false, Nat.reduceBEq, laws_sameBytes_r, laws_sameBytes_d0_q, laws_sameBytes_s0, L0]
  refine c_split (fun hlt => ?_) (fun hge => ?_)
  · have hlt : k < l.length := by simpa using hlt
    have i1 := idx_vm (β := β') (sz := 1) (ex := false) (ce := fun n => [AV.int .u8 n]) hlt
    have i0 := idx_vm (β := β) (sz := 1) (ex := false) (ce := fun n => [AV.int .u8 n]) hlt
    simp only [EV, EL, EB, EF, q_bx, if_true, if_false, Bool.false_eq_true, Nat.reduceAdd, Option.bind_some, Bool.not_true, Bool.not_false, Nat.reduceBEq, laws_sameBytes_r, laws_sameBytes_d0_q, i0, i1, ne_int, decide_true]
    exact ⟨k + 1, hlt, by omega, ⟨by rw [wN (by omega)]; simp [laws_sameBytes_s0, LeL, LeV], rfl, rfl⟩⟩
  · simp only [EV, EL, EB, EF, q_bx, if_true, if_false, Bool.false_eq_true, Nat.reduceAdd, Option.bind_some, Bool.not_true, Bool.not_false, Nat.reduceBEq, laws_sameBytes_r, laws_sameBytes_d0_q]
    first | exact ⟨rfl, rfl⟩ | exact rfl
theorem spec_l1Bytes_T (H : AH) {b : Nat} {bs : List Int} (hb : bs.length ≤ 1073741824) (hc : Cur H b bs) (n : Nat) (hn : n ≤ 100) : T Try.prog Γ Fn.spec_l1Bytes [.gp b 0 0, .int .i64 n] H fun v h' => ∃ (l : List Int) (fp : List Nat), Own h' v (.sl 1 (bcd l)) fp ∧ fp.Nodup ∧ b ∉ fp ∧ (∀ c ∈ fp, H.length ≤ c) ∧ l.length ≤ 100 ∧ DrewX H h' b bs := by
  obtain ⟨i9, h9, p9, hg9⟩ := hc
  have hbl : b < H.length := hget_lt hg9
  have hc : Cur H b bs := ⟨i9, h9, p9, hg9⟩
  have e0 : DrewX H (H ++ [some (0, [])]) b bs := .ofExt hc (HExt.app _ _)
  refine spec_l1Bytes_e (aw_sound tabOK mixed [] _ _ _ ?_)
  unfold spec_l1Bytes_c
  simp only [EV, EL, EB, EF, q_bx, if_true, if_false, Bool.false_eq_true, Nat.reduceAdd, Option.bind_some, Bool.not_true, Bool.not_false, Nat.reduceBEq, spec_l1Bytes_r, EA]
  refine loopI tabOK mixed [] (fun y : Nat × AV × AH × List Nat × List Int => y.1 ≤ n ∧ y.2.2.2.2.length = y.1 ∧ Own y.2.2.1 y.2.1 (.sl 1 (bcd y.2.2.2.2)) y.2.2.2.1 ∧ y.2.2.2.1.Nodup ∧ b ∉ y.2.2.2.1 ∧ (∀ c ∈ y.2.2.2.1, H.length ≤ c) ∧ DrewX H y.2.2.1 b bs) (fun y => n - y.1)
    (fun y => spec_l1Bytes_s0 (.gp b 0 0) (.int .i64 n) y.2.1 (.int .i64 y.1) [] y.2.2.1) (0, _, _, [H.length], []) ⟨by simp, rfl, bsl0_own H 1, by simp, by simp; omega, by simp, e0⟩ ⟨by simp [spec_l1Bytes_s0, LeL, LeV], rfl, rfl⟩ ?_
  rintro ⟨j, v, H2, fp, l⟩ ⟨hj, hl, ho, nd, hbf, hfp, d2⟩
  simp only at hj hl ho nd hbf hfp d2
  by_cases hlt : (j : Int) < (n : Int)
  rotate_left
  · simp only [EV, EL, EB, EF, q_bx, if_true, if_false, Bool.false_eq_true, Nat.reduceAdd, Option.bind_some, Bool.not_true, Bool.not_false, Nat.reduceBEq, spec_l1Bytes_r, spec_l1Bytes_s0, decide_eq_false hlt]
    exact ⟨ho.outOK, l, fp, ho, nd, hbf, hfp, by omega, d2⟩
  simp only [EV, EL, EB, EF, q_bx, if_true, if_false, Bool.false_eq_true, Nat.reduceAdd, Option.bind_some, Bool.not_true, Bool.not_false, Nat.reduceBEq, spec_l1Bytes_r, spec_l1Bytes_s0, decide_eq_true hlt]
  refine TCall.ref (by simp only [EO]) (l1Byte_D _ hb d2.cur) ?_
  rintro _ H3 ⟨x2, rfl, hx0, hx1, d3⟩
  replace d3 : Drew H2 H3 b bs := d3
  have d3x : DrewX H2 H3 b bs := ⟨d3.cur, Nat.le_of_eq d3.len.symm, fun c _ hcb => d3.fr c hcb⟩
  have o3 := d3x.own ho hbf
  have d23 := d2.trans d3x
  have dl := d23.len
  obtain ⟨v', H', fp', ea, o', nd', hf', hl', hm'⟩ := app_ext (bytes := 1) o3 (f2 := []) (by simpa using nd) (by omega) (ys := [.int .u8 (IntKind.u8.wrap x2)]) rfl (row := [.i .u8 (IntKind.u8.wrap x2)]) (OwnL.i (show OwnL H3 [] [] [] from rfl)) (by simp only [bcd, List.length_map, maxMade]; omega)
  have d34 : DrewX H H' b bs := ⟨by
      obtain ⟨i, h, hi, hg⟩ := d23.cur
      exact ⟨i, h, hi, frame_hget hg (hf' b hbf (by omega))⟩, by omega, fun c hc hcb => by
      rw [hf' c (fun hm => by have := hfp c hm; omega) (by omega)]; exact d23.fr c hc hcb⟩
  simp only [EV, EL, EB, EF, q_bx, if_true, if_false, Bool.false_eq_true, Nat.reduceAdd, Option.bind_some, Bool.not_true, Bool.not_false, Nat.reduceBEq, spec_l1Bytes_r, p_cvi, EA, ea]
  refine ⟨(j + 1, v', H', fp', l ++ [IntKind.u8.wrap x2]), ⟨by simp only; omega, by simp [hl], by rw [bcd, List.map_append]; exact o', nd', fun hm => ?_, fun c hc => ?_, d34⟩, by simp only; omega, ⟨by rw [wN (by omega)]; simp [spec_l1Bytes_s0, LeL, LeV], rfl, rfl⟩⟩
  · rcases hm' b hm with g | g | g
    · exact hbf g
    · simp at g
    · omega
  · rcases hm' c hc with g | g | g
    · exact hfp c g
    · simp at g
    · omega
theorem drawAppend_V (bs : List Int) (hb : bs.length ≤ 1073741824) (h : AH) : T Try.prog Γ Fn.spec_DrawAppendBytes [.vs false 1 false (bs.map fun n => [.int .u8 n])] h fun v h' => (∃ (l d : List Int), v = .tup [.vs false 1 false (byts l), .vs false 1 false (byts d)] ∧ l.length ≤ 100 ∧ d.length ≤ 100) ∧ h' = h := by
  refine (T.froz (R := fun rs => ∃ (l d : List Int), rs = [.c (.sl 1 (bcd l)), .c (.sl 1 (bcd d))] ∧ l.length ≤ 100 ∧ d.length ≤ 100) ?_).mono ?_
  rotate_left
  · rintro v h' ⟨⟨rs, ⟨k, l, rfl, hl, hw⟩, rfl⟩, rfl⟩
    refine ⟨⟨k, l, ?_, hl, hw⟩, rfl⟩
    simp only [List.map_cons, List.map_nil, resOf_1, resOf_2, resOf, rd_c, rd_a, CD.av_sl, CD.av_i, CD.av_b, CD.av_s, List.map_map, Function.comp_def]
  refine spec_DrawAppendBytes_e (aw_sound tabOK mixed [] _ _ _ ?_)
  unfold spec_DrawAppendBytes_c
  simp only [EV, EL, EB, EF, q_bx, if_true, if_false, Bool.false_eq_true, Nat.reduceAdd, Option.bind_some, Bool.not_true, Bool.not_false, Nat.reduceBEq, spec_DrawAppendBytes_r]
  refine TCall.ref (by simp only [EO]) (spec_l1New_T bs hb _) ?_
  rintro _ H1 ⟨b, rfl, c1, e1, hbh⟩
  replace e1 : HExt h H1 := e1
  replace hbh : h.length ≤ b := hbh
  simp only [EV, EL, EB, EF, q_bx, if_true, if_false, Bool.false_eq_true, Nat.reduceAdd, Option.bind_some, Bool.not_true, Bool.not_false, Nat.reduceBEq, spec_DrawAppendBytes_r]
  refine TCall.ref (by simp only [EO]) (l1Below_X _ hb c1 _) ?_
  rintro _ H2 ⟨x, rfl, x0, x1, d2⟩
  replace d2 : DrewX H1 H2 b bs := d2
  obtain ⟨n, rfl⟩ : ∃ n : Nat, x = n := ⟨x.toNat, by omega⟩
  have hn : (n : Int) < 3 := x1 (by omega)
  simp only [EV, EL, EB, EF, q_bx, if_true, if_false, Bool.false_eq_true, Nat.reduceAdd, Option.bind_some, Bool.not_true, Bool.not_false, Nat.reduceBEq, spec_DrawAppendBytes_r]
  refine TCall.ref (by simp only [EO]) (spec_l1Bytes_T _ hb d2.cur n (by omega)) ?_
  rintro w H3 ⟨l, fp, ho, nd, hbf, hfp, hl, d3⟩
  replace d3 : DrewX H2 H3 b bs := d3
  replace hfp : ∀ c ∈ fp, H2.length ≤ c := hfp
  obtain ⟨a1, a2, a3, a4⟩ := ho.cell
  simp only [EV, EL, EB, EF, q_bx, if_true, if_false, Bool.false_eq_true, Nat.reduceAdd, Option.bind_some, Bool.not_true, Bool.not_false, Nat.reduceBEq, spec_DrawAppendBytes_r]
  refine TCall.ref (by simp only [EO]) (l1Below_X _ hb d3.cur _) ?_
  rintro _ H4 ⟨y, rfl, y0, y1, d4⟩
  replace d4 : DrewX H3 H4 b bs := d4
  obtain ⟨m, rfl⟩ : ∃ m : Nat, y = m := ⟨y.toNat, by omega⟩
  have hm : (m : Int) < 6 := y1 (by omega)
  simp only [EV, EL, EB, EF, q_bx, if_true, if_false, Bool.false_eq_true, Nat.reduceAdd, Option.bind_some, Bool.not_true, Bool.not_false, Nat.reduceBEq, spec_DrawAppendBytes_r]
  refine TCall.ref (by simp only [EO]) (spec_l1Bytes_T _ hb d4.cur m (by omega)) ?_
  rintro w2 H5 ⟨d, fp2, ho2, nd2, hbf2, hfp2, hd, d5⟩
  replace d5 : DrewX H4 H5 b bs := d5
  replace hfp2 : ∀ c ∈ fp2, H4.length ≤ c := hfp2
  obtain ⟨g1, g2, g3, g4⟩ := ho2.cell
  have oo := (d4.trans d5).own ho hbf
  have dd := ((d2.trans d3).trans d4).trans d5
  have dl := dd.len
  have dl2 := d2.len
  have dl4 := ((d2.trans d3).trans d4).len
  have el := e1.len
  simp only [EV, EL, EB, EF, q_bx, if_true, if_false, Bool.false_eq_true, Nat.reduceAdd, Option.bind_some, Bool.not_true, Bool.not_false, Nat.reduceBEq, spec_DrawAppendBytes_r, ER, a1, a2, a3, a4, g1, g2, g3, g4]
  exact ⟨by simp only [List.all_cons, List.all_nil, a4, g4]; rfl, [w, w2], [.c (.sl 1 (bcd l)), .c (.sl 1 (bcd d))], fp ++ fp2, rfl, ⟨fp, fp2, rfl, oo, fp2, [], by simp, ho2, rfl⟩, fun c hc => by
    rcases List.mem_append.1 hc with g | g
    · have := hfp c g; omega
    · have := hfp2 c g; omega, ⟨by omega, fun c hc => (dd.fr c (by omega) (by omega)).trans (e1.fr c hc)⟩, l, d, rfl, hl, hd⟩
theorem tup_ite (b : Bool) (x y : AV) : (if b = true then x else y) = bif b then x else y := by cases b <;> rfl
set_option maxRecDepth 100000 in
theorem law_FnByteStrings (bs : List Int) (hb : bs.length ≤ maxLen) (hr : ∀ x ∈ bs, 0 ≤ x ∧ x < 256) (h : AH) : T Try.prog Γ Fn.laws_FnByteStrings [.vs false 1 false (bs.map fun n => [.int .u8 n])] h fun v h' => v = .bool true ∧ h' = h := by
  refine (?_ : T Try.prog Γ Fn.laws_FnByteStrings _ h fun v h' => v = .bool true ∧ ∃ N, h' = h ++ N).drop (by rintro v h' ⟨rfl, N, rfl⟩; exact ⟨N, rfl, .bool _, rfl, rfl⟩)
  refine laws_FnByteStrings_e (aw_sound tabOK mixed [] _ _ _ ?_)
  unfold laws_FnByteStrings_c
  simp only [EV, EL, EB, EF, q_bx, if_true, if_false, Bool.false_eq_true, Nat.reduceAdd, Option.bind_some, Bool.not_true, Bool.not_false, Nat.reduceBEq, laws_FnByteStrings_r]
  refine TCall.val (by simp only [EO]) (laws_big_T bs _) ?_
  by_cases nb : 1048576 < (bs.length : Int)
  · simp only [EV, EL, EB, EF, q_bx, if_true, if_false, Bool.false_eq_true, Nat.reduceAdd, Option.bind_some, Bool.not_true, Bool.not_false, Nat.reduceBEq, laws_FnByteStrings_r, decide_eq_true nb]
    first | exact ⟨rfl, rfl, [], by simp⟩ | exact ⟨rfl, [], by simp⟩
  simp only [EV, EL, EB, EF, q_bx, if_true, if_false, Bool.false_eq_true, Nat.reduceAdd, Option.bind_some, Bool.not_true, Bool.not_false, Nat.reduceBEq, laws_FnByteStrings_r, decide_eq_false nb]
  refine TCall.ref (by simp only [EO]) (drawAppend_V bs (by omega) _) ?_
  rintro _ H ⟨⟨b, d, rfl, hbl, hdl⟩, e⟩
  replace e : H = h := e
  subst e
  have Lb := len_vm false 1 false b (fun n => [AV.int .u8 n])
  have Ld := len_vm false 1 false d (fun n => [AV.int .u8 n])
  have Lx := len_vm false 1 false (b ++ enc 5 d.length ++ d) (fun n => [AV.int .u8 n])
  have hwm : ∃ z, IntKind.i64.wrap ((d.length : Int) - 1) = z ∧ z < d.length := by
    rcases Nat.eq_zero_or_pos d.length with g | g
    · rw [g]; exact ⟨-1, rfl, by omega⟩
    · exact ⟨((d.length - 1 : Nat) : Int), by rw [show (d.length : Int) - 1 = ((d.length - 1 : Nat) : Int) by omega]; exact wrap_nat (by omega) (by omega), by omega⟩
  obtain ⟨z, hz, hzl⟩ := hwm
  simp only [EV, EL, EB, EF, q_bx, if_true, if_false, Bool.false_eq_true, Nat.reduceAdd, Option.bind_some, Bool.not_true, Bool.not_false, Nat.reduceBEq, laws_FnByteStrings_r, ER]
  refine TCall.val (by simp only [EO]) (appendV b d (by omega) (by omega) _) ?_
  simp only [EV, EL, EB, EF, q_bx, if_true, if_false, Bool.false_eq_true, Nat.reduceAdd, Option.bind_some, Bool.not_true, Bool.not_false, Nat.reduceBEq, laws_FnByteStrings_r, Lb, Ld]
  refine TCall.val (by simp only [EO]) (impl_ReadBytes_T b d (by omega) (by omega) _) ?_
  simp only [EV, EL, EB, EF, q_bx, if_true, if_false, Bool.false_eq_true, Nat.reduceAdd, Option.bind_some, Bool.not_true, Bool.not_false, Nat.reduceBEq, laws_FnByteStrings_r, ER, Lb, Ld, hz]
  refine TCall.val (by simp only [EO]) (impl_ReadBytes_no b d (by omega) (by omega) z hzl _) ?_
  simp only [EV, EL, EB, EF, q_bx, if_true, if_false, Bool.false_eq_true, Nat.reduceAdd, Option.bind_some, Bool.not_true, Bool.not_false, Nat.reduceBEq, laws_FnByteStrings_r, ER]
  refine TCall.val (by simp only [EO]) (laws_sameBytes_T false false d (by omega) _) ?_
  simp only [EV, EL, EB, EF, q_bx, if_true, if_false, Bool.false_eq_true, Nat.reduceAdd, Option.bind_some, Bool.not_true, Bool.not_false, Nat.reduceBEq, laws_FnByteStrings_r, Lx, ne_int, decide_true, EA]
  refine loopI tabOK mixed [] (fun y : Nat × AV × AH × List Nat × List Int => y.1 ≤ 6 ∧ y.2.2.2.2.length = y.1 ∧ smallI y.2.2.2.2 ∧ Own y.2.2.1 y.2.1 (.sl 1 (icd y.2.2.2.2)) y.2.2.2.1 ∧ y.2.2.2.1.Nodup ∧ (∀ c ∈ y.2.2.2.1, H.length ≤ c) ∧ HExt H y.2.2.1) (fun y => 6 - y.1)
    (fun y => laws_FnByteStrings_s0 (.vs false 1 false (bs.map fun n => [.int .u8 n])) y.2.1 (.int .i64 y.1) [] y.2.2.1) (0, _, _, [H.length], []) ⟨by simp, rfl, by simp [smallI], bsl0_own H 1, by simp, by simp, HExt.app _ _⟩ ⟨by simp [laws_FnByteStrings_s0, LeL, LeV], rfl, rfl⟩ ?_
  rintro ⟨k, v, H2, fp, l⟩ ⟨hk, hl, hs, ho, nd, hfp, e2⟩
  simp only at hk hl hs ho nd hfp e2
  simp only [EV, EL, EB, EF, q_bx, if_true, if_false, Bool.false_eq_true, Nat.reduceAdd, Option.bind_some, Bool.not_true, Bool.not_false, Nat.reduceBEq, laws_FnByteStrings_r, laws_FnByteStrings_s0]
  refine TCall.ref (by simp only [EO]) (laws_at_T bs (by omega) hr 0 (by omega) _) ?_
  rintro _ H3 ⟨⟨x, rfl, x0, xm⟩, e3⟩
  replace e3 : H3 = H2 := e3
  subst e3
  obtain ⟨r, er, r0, r1⟩ := rem_ex x0 (show (0 : Int) < 6 by omega)
  by_cases hlt : (k : Int) < r
  · have hk5 : k ≤ 5 := by omega
    simp only [EV, EL, EB, EF, q_bx, if_true, if_false, Bool.false_eq_true, Nat.reduceAdd, Option.bind_some, Bool.not_true, Bool.not_false, Nat.reduceBEq, laws_FnByteStrings_r, er, decide_eq_true hlt, wN (show k < 9223372036854775807 by omega), show IntKind.i64.wrap ((k : Int) + 2) = ((k + 2 : Nat) : Int) from by rw [show (k : Int) + 2 = ((k + 2 : Nat) : Int) by omega]; exact wrap_nat (by omega) (by omega), show IntKind.i64.wrap ((k : Int) + 3) = ((k + 3 : Nat) : Int) from by rw [show (k : Int) + 3 = ((k + 3 : Nat) : Int) by omega]; exact wrap_nat (by omega) (by omega)]
    refine TCall.ref (by simp only [EO]) (laws_at_T bs (by omega) hr (k + 1) (by omega) _) ?_
    rintro _ H4 ⟨⟨a, rfl, a0, am⟩, e4⟩
    replace e4 : H4 = H3 := e4
    subst e4
    simp only [EV, EL, EB, EF, q_bx, if_true, if_false, Bool.false_eq_true, Nat.reduceAdd, Option.bind_some, Bool.not_true, Bool.not_false, Nat.reduceBEq, laws_FnByteStrings_r, show IntKind.i64.wrap ((k : Int) + 2) = ((k + 2 : Nat) : Int) from by rw [show (k : Int) + 2 = ((k + 2 : Nat) : Int) by omega]; exact wrap_nat (by omega) (by omega)]
    refine TCall.ref (by simp only [EO]) (laws_at_T bs (by omega) hr (k + 2) (by omega) _) ?_
    rintro _ H5 ⟨⟨c, rfl, c0, cm⟩, e5⟩
    replace e5 : H5 = H4 := e5
    subst e5
    have p0 : 0 ≤ a * c := Int.mul_nonneg a0 c0
    have p1 : a * c ≤ 255 * 255 := by
      have q1 : a * c ≤ 255 * c := Int.mul_le_mul_of_nonneg_right am c0
      omega
    simp only [EV, EL, EB, EF, q_bx, if_true, if_false, Bool.false_eq_true, Nat.reduceAdd, Option.bind_some, Bool.not_true, Bool.not_false, Nat.reduceBEq, laws_FnByteStrings_r, wrapI p0 (by omega), show IntKind.i64.wrap ((k : Int) + 3) = ((k + 3 : Nat) : Int) from by rw [show (k : Int) + 3 = ((k + 3 : Nat) : Int) by omega]; exact wrap_nat (by omega) (by omega)]
    refine TCall.ref (by simp only [EO]) (laws_at_T bs (by omega) hr (k + 3) (by omega) _) ?_
    rintro _ H6 ⟨⟨g, rfl, g0, gm⟩, e6⟩
    replace e6 : H6 = H5 := e6
    subst e6
    generalize a * c = ac at *
    have s0 : 0 ≤ ac * g := Int.mul_nonneg p0 g0
    have s1 : ac * g ≤ 255 * 255 * 255 := by
      have q1 : ac * g ≤ 255 * 255 * g := Int.mul_le_mul_of_nonneg_right p1 g0
      omega
    obtain ⟨w, hww⟩ : ∃ w, ac * g = w := ⟨_, rfl⟩
    rw [hww] at s0 s1
    have ww : IntKind.i64.wrap (ac * g) = w := by rw [hww]; exact wrapI s0 (by omega)
    obtain ⟨v', H', fp', ea, o', nd', hf', hl', hm'⟩ := app_ext (bytes := 8) ho (f2 := []) (by simpa using nd) (by omega) (ys := [.int .i64 w]) rfl (row := [.i .i64 w]) (OwnL.i (show OwnL H6 [] [] [] from rfl)) (by simp only [icd, List.length_map, maxMade]; omega)
    have eh := e2.upd hl' hf' hfp
    have hel := e2.len
    have hb' : ∀ c ∈ fp', H.length ≤ c := fun c hc => by
      rcases hm' c hc with g | g | g
      · exact hfp c g
      · simp at g
      · omega
    have hs' : smallI (l ++ [w]) := fun x hx => by
      rcases List.mem_append.1 hx with g | g
      · exact hs x g
      · simp at g; subst g; omega
    simp only [EV, EL, EB, EF, q_bx, if_true, if_false, Bool.false_eq_true, Nat.reduceAdd, Option.bind_some, Bool.not_true, Bool.not_false, Nat.reduceBEq, laws_FnByteStrings_r, ww, EA, ea]
    exact ⟨(k + 1, v', H', fp', l ++ [w]), ⟨by simp only; omega, by simp [hl], hs', by rw [icd, List.map_append]; exact o', nd', hb', eh⟩, by simp only; omega, ⟨by rw [wN (by omega)]; simp [laws_FnByteStrings_s0, LeL, LeV], rfl, rfl⟩⟩
  have Lv := (len_own ho).2
  rw [List.length_map] at Lv
  obtain ⟨q1, q2, q3, q4⟩ := ho.cell
  simp only [EV, EL, EB, EF, q_bx, if_true, if_false, Bool.false_eq_true, Nat.reduceAdd, Option.bind_some, Bool.not_true, Bool.not_false, Nat.reduceBEq, laws_FnByteStrings_r, er, decide_eq_false hlt]
  refine TCall.see (by simp only [EO, q4]) (snap_c (Own.see (c := fun n => [AV.int .i64 n]) (fun x => by simp [CD.av_i]) ho) snap_n) (fun h => encodeV true l (by omega) hs h) (byt_NB _ _) ?_
  have Le := len_vm false 1 false (encs l) (fun n => [AV.int .u8 n])
  have D0 := fun h => impl_DecodeInts_T (Γ := Γ) l (by omega) hs false h
  have D1 := fun h => impl_DecodeInts_T (Γ := Γ) l (by omega) hs true h
  simp only [Bool.toNat_false, Nat.add_zero, Bool.false_eq_true, if_false] at D0
  simp only [Bool.toNat_true, if_true] at D1
  simp only [EV, EL, EB, EF, q_bx, if_true, if_false, Bool.false_eq_true, Nat.reduceAdd, Option.bind_some, Bool.not_true, Bool.not_false, Nat.reduceBEq, laws_FnByteStrings_r, Lv]
  refine TCall.val (by simp only [EO]) (D0 _) ?_
  simp only [EV, EL, EB, EF, q_bx, if_true, if_false, Bool.false_eq_true, Nat.reduceAdd, Option.bind_some, Bool.not_true, Bool.not_false, Nat.reduceBEq, laws_FnByteStrings_r, ER, Lv, wN (show l.length < 9223372036854775807 by omega)]
  refine TCall.val (by simp only [EO]) (D1 _) ?_
  simp only [EV, EL, EB, EF, q_bx, if_true, if_false, Bool.false_eq_true, Nat.reduceAdd, Option.bind_some, Bool.not_true, Bool.not_false, Nat.reduceBEq, laws_FnByteStrings_r, ER]
  refine TCall.see (by simp only [EO, q4]) (snap_c (.same _) (snap_c (Own.see (c := fun n => [AV.int .i64 n]) (fun x => by simp [CD.av_i]) ho) snap_n)) (fun h => laws_sameInts_T false true l (by omega) h) (.bool _) ?_
  simp only [EV, EL, EB, EF, q_bx, if_true, if_false, Bool.false_eq_true, Nat.reduceAdd, Option.bind_some, Bool.not_true, Bool.not_false, Nat.reduceBEq, laws_FnByteStrings_r, Le, beq_dec, decide_true]
  first | exact ⟨rfl, rfl, e2.out⟩ | exact ⟨rfl, e2.out⟩ | exact e2.out

end Go.Proofs.Ytjohoameeeaafaa
