import Derived.Test.YtjohoameeeaafaaR1KH
set_option linter.unusedVariables false
set_option linter.unusedSimpArgs false
namespace Go.Proofs.Ytjohoameeeaafaa
open Go.AM
set_option linter.unusedVariables false
set_option linter.unusedSimpArgs false
variable {Γ : Glob}
/-! What FnKeyedHash draws, and its other calls. -/
theorem spec_l1Once_T (H : AH) {b : Nat} {bs : List Int} (hb : bs.length ≤ 1073741824) (hc : Cur H b bs) (n : Int) : T Try.prog Γ Fn.spec_l1Once [.gp b 0 0, .int .i64 n] H fun v h' => ∃ x : Bool, v = .bool x ∧ DrewX H h' b bs := by
  refine spec_l1Once_e (aw_sound tabOK mixed [] _ _ _ ?_)
  unfold spec_l1Once_c
  simp only [EV, EL, EB, EF, q_bx, if_true, if_false, Bool.false_eq_true, Nat.reduceAdd, Option.bind_some, Bool.not_true, Bool.not_false, Nat.reduceBEq, spec_l1Once_r]
  refine TCall.ref (by simp only [EO]) (l1Below_X _ hb hc _) ?_
  rintro _ H1 ⟨x, rfl, x0, x1, d1⟩
  replace d1 : DrewX H H1 b bs := d1
  simp only [EV, EL, EB, EF, q_bx, if_true, if_false, Bool.false_eq_true, Nat.reduceAdd, Option.bind_some, Bool.not_true, Bool.not_false, Nat.reduceBEq, spec_l1Once_r]
  first | exact ⟨rfl, _, rfl, d1⟩ | exact ⟨_, rfl, d1⟩
theorem spec_l1Int_B (H : AH) {b : Nat} {bs : List Int} (hb : bs.length ≤ 1073741824) (hc : Cur H b bs) {w : AV} {fp : List Nat} {l : List Int} (o : Own H w (.sl 1 (l.map fun n => [.i .i64 n])) fp) (hbf : b ∉ fp) (h0 : 0 < l.length) :
    T Try.prog Γ Fn.spec_l1Int [.gp b 0 0, w] H fun v h' => ∃ x : Int, v = .int .i64 x ∧ x ∈ l ∧ DrewX H h' b bs := by
  obtain ⟨c1, c2, c3, c4⟩ := o.cell
  have La := (len_own o).2
  rw [List.length_map] at La
  refine spec_l1Int_e (aw_sound tabOK mixed [] _ _ _ ?_)
  unfold spec_l1Int_c
  simp only [EV, EL, EB, EF, q_bx, if_true, if_false, Bool.false_eq_true, Nat.reduceAdd, Option.bind_some, Bool.not_true, Bool.not_false, Nat.reduceBEq, spec_l1Int_r, La]
  refine TCall.ref (by simp only [EO]) (l1Below_X _ hb hc _) ?_
  rintro _ H1 ⟨x, rfl, x0, x1, d1⟩
  replace d1 : DrewX H H1 b bs := d1
  obtain ⟨k, rfl⟩ : ∃ k : Nat, x = k := ⟨x.toNat, by omega⟩
  have hk : k < l.length := by have := x1 (by omega); omega
  obtain ⟨p, e1, e2⟩ := own_int (d1.own o hbf) hk
  simp only [EV, EL, EB, EF, q_bx, if_true, if_false, Bool.false_eq_true, Nat.reduceAdd, Option.bind_some, Bool.not_true, Bool.not_false, Nat.reduceBEq, spec_l1Int_r, e1, e2]
  first | exact ⟨rfl, _, rfl, List.getElem_mem hk, d1⟩ | exact ⟨_, rfl, List.getElem_mem hk, d1⟩
def wordOK (x : Int) : Prop := -1 ≤ x ∧ x ≤ 2147483648
theorem spec_l3Word_T (H : AH) {b : Nat} {bs : List Int} (hb : bs.length ≤ 1073741824) (hc : Cur H b bs) : T Try.prog Γ Fn.spec_l3Word [.gp b 0 0] H fun v h' => ∃ x : Int, v = .int .i64 x ∧ wordOK x ∧ DrewX H h' b bs := by
  refine spec_l3Word_e (aw_sound tabOK mixed [] _ _ _ ?_)
  unfold spec_l3Word_c
  simp only [EV, EL, EB, EF, q_bx, if_true, if_false, Bool.false_eq_true, Nat.reduceAdd, Option.bind_some, Bool.not_true, Bool.not_false, Nat.reduceBEq, spec_l3Word_r]
  refine TCall.ref (by simp only [EO]) (spec_l1Once_T _ hb hc _) ?_
  rintro _ H1 ⟨t, rfl, d1⟩
  replace d1 : DrewX H H1 b bs := d1
  obtain ⟨i9, h9, p9, hg9⟩ := d1.cur
  have hbl : b < H1.length := hget_lt hg9
  cases t
  rotate_left
  · simp only [EV, EL, EB, EF, q_bx, if_true, if_false, Bool.false_eq_true, Nat.reduceAdd, Option.bind_some, Bool.not_true, Bool.not_false, Nat.reduceBEq, spec_l3Word_r, EA, rp_3]
    have o := ints_own H1 [-1, 2147483647, 2147483648] (n := 3) rfl
    have e2 : DrewX H1 (H1 ++ [some (0, [AV.int .i64 (-1), .int .i64 2147483647, .int .i64 2147483648])]) b bs := .ofExt d1.cur (HExt.app _ _)
    refine TCall.ref (by simp only [EO]) (spec_l1Int_B _ hb e2.cur o (by simp; omega) (by simp)) ?_
    rintro _ H2 ⟨x, rfl, hx, d2⟩
    replace d2 : DrewX _ H2 b bs := d2
    simp only [EV, EL, EB, EF, q_bx, if_true, if_false, Bool.false_eq_true, Nat.reduceAdd, Option.bind_some, Bool.not_true, Bool.not_false, Nat.reduceBEq, spec_l3Word_r]
    have hw : wordOK x := by simp at hx; unfold wordOK; omega
    have := (d1.trans e2).trans d2
    first | exact ⟨rfl, _, rfl, hw, this⟩ | exact ⟨_, rfl, hw, this⟩
  simp only [EV, EL, EB, EF, q_bx, if_true, if_false, Bool.false_eq_true, Nat.reduceAdd, Option.bind_some, Bool.not_true, Bool.not_false, Nat.reduceBEq, spec_l3Word_r]
  refine TCall.ref (by simp only [EO]) (spec_l1Once_T _ hb d1.cur _) ?_
  rintro _ H2 ⟨t, rfl, d2⟩
  replace d2 : DrewX H1 H2 b bs := d2
  obtain ⟨i8, h8, p8, hg8⟩ := d2.cur
  have hbl2 : b < H2.length := hget_lt hg8
  cases t
  rotate_left
  · simp only [EV, EL, EB, EF, q_bx, if_true, if_false, Bool.false_eq_true, Nat.reduceAdd, Option.bind_some, Bool.not_true, Bool.not_false, Nat.reduceBEq, spec_l3Word_r, EA, rp_3]
    have o := ints_own H2 [0, 1, 2147483646] (n := 3) rfl
    have e2 : DrewX H2 (H2 ++ [some (0, [AV.int .i64 0, .int .i64 1, .int .i64 2147483646])]) b bs := .ofExt d2.cur (HExt.app _ _)
    refine TCall.ref (by simp only [EO]) (spec_l1Int_B _ hb e2.cur o (by simp; omega) (by simp)) ?_
    rintro _ H3 ⟨x, rfl, hx, d3⟩
    replace d3 : DrewX _ H3 b bs := d3
    simp only [EV, EL, EB, EF, q_bx, if_true, if_false, Bool.false_eq_true, Nat.reduceAdd, Option.bind_some, Bool.not_true, Bool.not_false, Nat.reduceBEq, spec_l3Word_r]
    have hw : wordOK x := by simp at hx; unfold wordOK; omega
    have := ((d1.trans d2).trans e2).trans d3
    first | exact ⟨rfl, _, rfl, hw, this⟩ | exact ⟨_, rfl, hw, this⟩
  simp only [EV, EL, EB, EF, q_bx, if_true, if_false, Bool.false_eq_true, Nat.reduceAdd, Option.bind_some, Bool.not_true, Bool.not_false, Nat.reduceBEq, spec_l3Word_r]
  refine TCall.ref (by simp only [EO]) (l1Below_X _ hb d2.cur _) ?_
  rintro _ H3 ⟨x, rfl, x0, x1, d3⟩
  replace d3 : DrewX H2 H3 b bs := d3
  simp only [EV, EL, EB, EF, q_bx, if_true, if_false, Bool.false_eq_true, Nat.reduceAdd, Option.bind_some, Bool.not_true, Bool.not_false, Nat.reduceBEq, spec_l3Word_r]
  refine TCall.ref (by simp only [EO]) (l1Below_X _ hb d3.cur _) ?_
  rintro _ H4 ⟨y, rfl, y0, y1, d4⟩
  replace d4 : DrewX H3 H4 b bs := d4
  have hx : x ≤ 999999 := by have := x1 (by omega); omega
  have hy : y ≤ 1999 := by have := y1 (by omega); omega
  have h1 : 0 ≤ x * y := Int.mul_nonneg x0 y0
  have h2 : x * y ≤ 999999 * 1999 := by
    have a1 : x * y ≤ 999999 * y := Int.mul_le_mul_of_nonneg_right hx y0
    have a2 : 999999 * y ≤ 999999 * 1999 := Int.mul_le_mul_of_nonneg_left hy (by omega)
    omega
  have w : IntKind.i64.wrap (x * y) = x * y := by
    obtain ⟨m, hm⟩ := Int.eq_ofNat_of_zero_le h1
    rw [hm]; exact wrap_nat (by omega) (by omega)
  simp only [EV, EL, EB, EF, q_bx, if_true, if_false, Bool.false_eq_true, Nat.reduceAdd, Option.bind_some, Bool.not_true, Bool.not_false, Nat.reduceBEq, spec_l3Word_r, w]
  have := ((d1.trans d2).trans d3).trans d4
  have hw : wordOK (x * y) := by unfold wordOK; omega
  first | exact ⟨rfl, _, rfl, hw, this⟩ | exact ⟨_, rfl, hw, this⟩
theorem spec_l3Words_T (H : AH) {b : Nat} {bs : List Int} (hb : bs.length ≤ 1073741824) (hc : Cur H b bs) : T Try.prog Γ Fn.spec_l3Words [.gp b 0 0] H fun v h' => ∃ (l : List Int) (fp : List Nat), Own h' v (.sl 1 (icd l)) fp ∧ fp.Nodup ∧ b ∉ fp ∧ (∀ c ∈ fp, H.length ≤ c) ∧ l.length ≤ 5 ∧ (∀ x ∈ l, wordOK x) ∧ DrewX H h' b bs := by
  obtain ⟨i9, h9, p9, hg9⟩ := hc
  have hbl : b < H.length := hget_lt hg9
  have hc : Cur H b bs := ⟨i9, h9, p9, hg9⟩
  have e0 : DrewX H (H ++ [some (0, [])]) b bs := .ofExt hc (HExt.app _ _)
  refine spec_l3Words_e (aw_sound tabOK mixed [] _ _ _ ?_)
  unfold spec_l3Words_c
  simp only [EV, EL, EB, EF, q_bx, if_true, if_false, Bool.false_eq_true, Nat.reduceAdd, Option.bind_some, Bool.not_true, Bool.not_false, Nat.reduceBEq, spec_l3Words_r, EA]
  refine TCall.ref (by simp only [EO]) (l1Below_X _ hb e0.cur _) ?_
  rintro _ H1 ⟨x, rfl, x0, x1, d1⟩
  have d1o : DrewX (H ++ [some (0, [])]) H1 b bs := d1
  replace d1 : DrewX H H1 b bs := e0.trans d1o
  simp only [EV, EL, EB, EF, q_bx, if_true, if_false, Bool.false_eq_true, Nat.reduceAdd, Option.bind_some, Bool.not_true, Bool.not_false, Nat.reduceBEq, spec_l3Words_r]
  have o0 := d1o.own (bsl0_own H 1) (show b ∉ [H.length] by simp; omega)
  obtain ⟨n, rfl⟩ : ∃ n : Nat, x = n := ⟨x.toNat, by omega⟩
  have hn : (n : Int) < 5 := x1 (by omega)
  refine loopI tabOK mixed [] (fun y : Nat × AV × AH × List Nat × List Int => y.2.2.2.2.length + y.1 ≤ 5 ∧ Own y.2.2.1 y.2.1 (.sl 1 (icd y.2.2.2.2)) y.2.2.2.1 ∧ y.2.2.2.1.Nodup ∧ b ∉ y.2.2.2.1 ∧ (∀ c ∈ y.2.2.2.1, H.length ≤ c) ∧ (∀ x ∈ y.2.2.2.2, wordOK x) ∧ DrewX H y.2.2.1 b bs) (fun y => y.1)
    (fun y => spec_l3Words_s0 (.gp b 0 0) y.2.1 (.int .i64 y.1) [] y.2.2.1) (n, .gs H.length 0 0 0 0 1 true, H1, [H.length], []) ⟨by simp only [List.length_nil]; omega, o0, by simp, by simp; omega, by simp, by simp, d1⟩ ⟨by simp [spec_l3Words_s0, LeL, LeV], rfl, rfl⟩ ?_
  rintro ⟨j, v, H2, fp, l⟩ ⟨hl, ho, nd, hbf, hfp, hwd, d2⟩
  simp only at hl ho nd hbf hfp hwd d2
  by_cases hj : (j : Int) > 0
  rotate_left
  · simp only [EV, EL, EB, EF, q_bx, if_true, if_false, Bool.false_eq_true, Nat.reduceAdd, Option.bind_some, Bool.not_true, Bool.not_false, Nat.reduceBEq, spec_l3Words_r, spec_l3Words_s0, decide_eq_false hj]
    exact ⟨ho.outOK, l, fp, ho, nd, hbf, hfp, by omega, hwd, d2⟩
  simp only [EV, EL, EB, EF, q_bx, if_true, if_false, Bool.false_eq_true, Nat.reduceAdd, Option.bind_some, Bool.not_true, Bool.not_false, Nat.reduceBEq, spec_l3Words_r, spec_l3Words_s0, decide_eq_true hj]
  refine TCall.ref (by simp only [EO]) (spec_l3Word_T _ hb d2.cur) ?_
  rintro _ H3 ⟨x2, rfl, hx2, d3⟩
  replace d3 : DrewX H2 H3 b bs := d3
  have o3 := d3.own ho hbf
  have d23 := d2.trans d3
  obtain ⟨i7, h7, p7, hg7⟩ := d23.cur
  have hb3 : b < H3.length := hget_lt hg7
  obtain ⟨v', H', fp', ea, o', nd', hf', hl', hm'⟩ := app_ext (bytes := 8) o3 (f2 := []) (by simpa using nd) (by omega) (ys := [.int .i64 x2]) rfl (row := [.i .i64 x2]) (OwnL.i (show OwnL H3 [] [] [] from rfl)) (by simp only [icd, List.length_map, maxMade]; omega)
  have dl := d23.len
  have d34 : DrewX H H' b bs := ⟨by
      obtain ⟨i, h, hi, hg⟩ := d23.cur
      exact ⟨i, h, hi, frame_hget hg (hf' b hbf (by omega))⟩, by omega, fun c hc hcb => by
      rw [hf' c (fun hm => by have := hfp c hm; omega) (by omega)]; exact d23.fr c hc hcb⟩
  simp only [EV, EL, EB, EF, q_bx, if_true, if_false, Bool.false_eq_true, Nat.reduceAdd, Option.bind_some, Bool.not_true, Bool.not_false, Nat.reduceBEq, spec_l3Words_r, EA, ea]
  have hw : IntKind.i64.wrap ((j : Int) - 1) = ((j - 1 : Nat) : Int) := by rw [show (j : Int) - 1 = ((j - 1 : Nat) : Int) by omega]; exact wrap_nat (by omega) (by omega)
  refine ⟨(j - 1, v', H', fp', l ++ [x2]), ⟨by simp only [List.length_append, List.length_cons, List.length_nil]; omega, by rw [icd, List.map_append]; exact o', nd', fun hm => ?_, fun c hc => ?_, ?_, d34⟩, by simp only; omega, ⟨by rw [hw]; simp [spec_l3Words_s0, LeL, LeV], rfl, rfl⟩⟩
  · rcases hm' b hm with g | g | g
    · exact hbf g
    · simp at g
    · omega
  · rcases hm' c hc with g | g | g
    · exact hfp c g
    · simp at g
    · omega
  · intro x hx
    rcases List.mem_append.1 hx with g | g
    · exact hwd x g
    · simp at g; subst g; exact hx2
theorem drawKeyed_V (bs : List Int) (hb : bs.length ≤ 1073741824) (h : AH) : T Try.prog Γ Fn.spec_DrawKeyedHash [.vs false 1 false (bs.map fun n => [.int .u8 n])] h fun v h' => (∃ (k : Int) (l : List Int), v = .tup [.int .i64 k, .vs false 1 false (ints l)] ∧ l.length ≤ 5 ∧ ∀ x ∈ l, wordOK x) ∧ h' = h := by
  refine (T.froz (R := fun rs => ∃ (k : Int) (l : List Int), rs = [.c (.i .i64 k), .c (.sl 1 (icd l))] ∧ l.length ≤ 5 ∧ ∀ x ∈ l, wordOK x) ?_).mono ?_
  rotate_left
  · rintro v h' ⟨⟨rs, ⟨k, l, rfl, hl, hw⟩, rfl⟩, rfl⟩
    refine ⟨⟨k, l, ?_, hl, hw⟩, rfl⟩
    simp only [List.map_cons, List.map_nil, resOf_1, resOf_2, resOf, rd_c, rd_a, CD.av_sl, CD.av_i, CD.av_b, CD.av_s, List.map_map, Function.comp_def]
  refine spec_DrawKeyedHash_e (aw_sound tabOK mixed [] _ _ _ ?_)
  unfold spec_DrawKeyedHash_c
  simp only [EV, EL, EB, EF, q_bx, if_true, if_false, Bool.false_eq_true, Nat.reduceAdd, Option.bind_some, Bool.not_true, Bool.not_false, Nat.reduceBEq, spec_DrawKeyedHash_r]
  refine TCall.ref (by simp only [EO]) (spec_l1New_T bs hb _) ?_
  rintro _ H1 ⟨b, rfl, c1, e1, hbh⟩
  replace e1 : HExt h H1 := e1
  replace hbh : h.length ≤ b := hbh
  simp only [EV, EL, EB, EF, q_bx, if_true, if_false, Bool.false_eq_true, Nat.reduceAdd, Option.bind_some, Bool.not_true, Bool.not_false, Nat.reduceBEq, spec_DrawKeyedHash_r]
  refine TCall.ref (by simp only [EO]) (spec_l3Word_T _ hb c1) ?_
  rintro _ H2 ⟨k, rfl, hk, d2⟩
  replace d2 : DrewX H1 H2 b bs := d2
  simp only [EV, EL, EB, EF, q_bx, if_true, if_false, Bool.false_eq_true, Nat.reduceAdd, Option.bind_some, Bool.not_true, Bool.not_false, Nat.reduceBEq, spec_DrawKeyedHash_r]
  refine TCall.ref (by simp only [EO]) (spec_l3Words_T _ hb d2.cur) ?_
  rintro w H3 ⟨l, fp, ho, nd, hbf, hfp, hl, hw, d3⟩
  replace d3 : DrewX H2 H3 b bs := d3
  replace hfp : ∀ c ∈ fp, H2.length ≤ c := hfp
  obtain ⟨a1, a2, a3, a4⟩ := ho.cell
  have d := d2.trans d3
  have dl := d2.len
  have dl3 := d3.len
  have el := e1.len
  simp only [EV, EL, EB, EF, q_bx, if_true, if_false, Bool.false_eq_true, Nat.reduceAdd, Option.bind_some, Bool.not_true, Bool.not_false, Nat.reduceBEq, spec_DrawKeyedHash_r, ER, a1, a2, a3, a4]
  exact ⟨by simp only [List.all_cons, List.all_nil, a4]; rfl, [.int .i64 k, w], [.c (.i .i64 k), .c (.sl 1 (icd l))], fp, rfl, ⟨[], fp, rfl, .i _ _, fp, [], by simp, ho, rfl⟩, fun c hc => by have := hfp c hc; omega, ⟨by omega, fun c hc => (d.fr c (by omega) (by omega)).trans (e1.fr c hc)⟩, k, l, rfl, hl, hw⟩
theorem own_str {H : AH} {w : AV} {fp : List Nat} {l : List ByteArray} (o : Own H w (.sl 1 (l.map fun n => [.s n])) fp) {k : Nat} (hk : k < l.length) : ∃ p, aIdxs 1 w (k : Int) = some p ∧ ∀ (e : List AV) (L : List (List AV)), (St.mk e L H).cells p 1 = some [.str l[k]] := by
  have hfl : (l.map fun n => [CD.s n]).flatten.all CD.flat = true := by
    rw [List.all_flatten, List.all_eq_true]; intro y hy; obtain ⟨x, _, rfl⟩ := List.mem_map.1 hy; rfl
  rcases o.sl_inv with ⟨rfl, e, rfl⟩ | ⟨b, g, cap, ex, az, tail, fp', rfl, rfl, hg, hsz, ht, hc, hown⟩
  · have : l = [] := by simpa using e
    subst this; simp at hk
  have hz := flat_asG hfl hown
  have e2 : (l.map fun n => [CD.s n]).flatten.map (CD.av false) = (l.map fun n => [AV.str n]).flatten := by simp [List.map_flatten, Function.comp_def, CD.av_s]
  rw [e2] at hz
  subst hz
  refine ⟨.gp b g (0 + k * 1), idx_gs (by simpa using hk), fun e L => ?_⟩
  rw [cells_gp hg, Nat.zero_add]
  exact row_load (c := fun n : ByteArray => [AV.str n]) (sz := 1) (fun _ => rfl) hk tail
theorem strs_own (h : AH) (l : List ByteArray) {n : Nat} (hn : l.length = n) : Own (h ++ [some (0, (l.map fun n => [AV.str n]).flatten)]) (.gs h.length 0 0 n n 1 true) (.sl 1 (l.map fun n => [.s n])) [h.length] := by
  subst hn
  have hl : (l.map fun n => [AV.str n]).flatten = (l.map fun n => [CD.s n]).flatten.map (CD.av false) := by simp [List.map_flatten, Function.comp_def, CD.av_s]
  have := Own.sl_mk (h := h ++ [some (0, (l.map fun n => [AV.str n]).flatten)]) (b := h.length) (g := 0) (cap := l.length) (sz := 1) (ex := true) («as» := (l.map fun n => [AV.str n]).flatten) (tail := []) (xs := l.map fun n => [CD.s n]) (fp := [])
    (by rw [List.append_nil]; exact hget_last _ _) (fun y hy => by obtain ⟨x, _, rfl⟩ := List.mem_map.1 hy; rfl) (by simp) (by simp) (by
      rw [hl]; exact flat_ownL false (by rw [List.all_flatten, List.all_eq_true]; intro y hy; obtain ⟨x, _, rfl⟩ := List.mem_map.1 hy; rfl))
  simpa using this
theorem spec_l1Str_T (H : AH) {b : Nat} {bs : List Int} (hb : bs.length ≤ 1073741824) (hc : Cur H b bs) {w : AV} {fp : List Nat} {l : List ByteArray} (o : Own H w (.sl 1 (l.map fun n => [.s n])) fp) (hbf : b ∉ fp) (h0 : 0 < l.length) (hl : l.length ≤ 256) :
    T Try.prog Γ Fn.spec_l1Str [.gp b 0 0, w] H fun v h' => ∃ x : ByteArray, v = .str x ∧ x ∈ l ∧ DrewX H h' b bs := by
  obtain ⟨c1, c2, c3, c4⟩ := o.cell
  have La := (len_own o).2
  rw [List.length_map] at La
  refine spec_l1Str_e (aw_sound tabOK mixed [] _ _ _ ?_)
  unfold spec_l1Str_c
  simp only [EV, EL, EB, EF, q_bx, if_true, if_false, Bool.false_eq_true, Nat.reduceAdd, Option.bind_some, Bool.not_true, Bool.not_false, Nat.reduceBEq, spec_l1Str_r, La]
  refine TCall.ref (by simp only [EO]) (l1Below_X _ hb hc _) ?_
  rintro _ H1 ⟨x, rfl, x0, x1, d1⟩
  replace d1 : DrewX H H1 b bs := d1
  obtain ⟨k, rfl⟩ : ∃ k : Nat, x = k := ⟨x.toNat, by omega⟩
  have hk : k < l.length := by have := x1 (by omega); omega
  obtain ⟨p, e1, e2⟩ := own_str (d1.own o hbf) hk
  simp only [EV, EL, EB, EF, q_bx, if_true, if_false, Bool.false_eq_true, Nat.reduceAdd, Option.bind_some, Bool.not_true, Bool.not_false, Nat.reduceBEq, spec_l1Str_r, e1, e2]
  first | exact ⟨rfl, _, rfl, List.getElem_mem hk, d1⟩ | exact ⟨_, rfl, List.getElem_mem hk, d1⟩
theorem drawDerive_V (bs : List Int) (hb : bs.length ≤ 1073741824) (h : AH) : T Try.prog Γ Fn.spec_DrawDeriveFromString [.vs false 1 false (bs.map fun n => [.int .u8 n])] h fun v h' => (∃ (k : Int) (s : ByteArray), v = .tup [.int .i64 k, .str s] ∧ s.size ≤ 4) ∧ h' = h := by
  refine (T.froz (R := fun rs => ∃ (k : Int) (s : ByteArray), rs = [.c (.i .i64 k), .c (.s s)] ∧ s.size ≤ 4) ?_).mono ?_
  rotate_left
  · rintro v h' ⟨⟨rs, ⟨k, l, rfl, hl⟩, rfl⟩, rfl⟩
    refine ⟨⟨k, l, ?_, hl⟩, rfl⟩
    simp only [List.map_cons, List.map_nil, resOf_1, resOf_2, resOf, rd_c, rd_a, CD.av_sl, CD.av_i, CD.av_b, CD.av_s, List.map_map, Function.comp_def]
  refine spec_DrawDeriveFromString_e (aw_sound tabOK mixed [] _ _ _ ?_)
  unfold spec_DrawDeriveFromString_c
  simp only [EV, EL, EB, EF, q_bx, if_true, if_false, Bool.false_eq_true, Nat.reduceAdd, Option.bind_some, Bool.not_true, Bool.not_false, Nat.reduceBEq, spec_DrawDeriveFromString_r]
  refine TCall.ref (by simp only [EO]) (spec_l1New_T bs hb _) ?_
  rintro _ H1 ⟨b, rfl, c1, e1, hbh⟩
  replace e1 : HExt h H1 := e1
  replace hbh : h.length ≤ b := hbh
  simp only [EV, EL, EB, EF, q_bx, if_true, if_false, Bool.false_eq_true, Nat.reduceAdd, Option.bind_some, Bool.not_true, Bool.not_false, Nat.reduceBEq, spec_DrawDeriveFromString_r]
  refine TCall.ref (by simp only [EO]) (spec_l3Word_T _ hb c1) ?_
  rintro _ H2 ⟨k, rfl, hk, d2⟩
  replace d2 : DrewX H1 H2 b bs := d2
  obtain ⟨i9, h9, p9, hg9⟩ := d2.cur
  have hbl : b < H2.length := hget_lt hg9
  simp only [EV, EL, EB, EF, q_bx, if_true, if_false, Bool.false_eq_true, Nat.reduceAdd, Option.bind_some, Bool.not_true, Bool.not_false, Nat.reduceBEq, spec_DrawDeriveFromString_r, EA, rp_6]
  have o := strs_own H2 [⟨#[]⟩, ⟨#[97]⟩, ⟨#[98]⟩, ⟨#[97, 98]⟩, ⟨#[110, 101, 119, 115]⟩, ⟨#[120]⟩] (n := 6) rfl
  have e2 : DrewX H2 (H2 ++ [some (0, [AV.str ⟨#[]⟩, AV.str ⟨#[97]⟩, AV.str ⟨#[98]⟩, AV.str ⟨#[97, 98]⟩, AV.str ⟨#[110, 101, 119, 115]⟩, AV.str ⟨#[120]⟩])]) b bs := .ofExt d2.cur (HExt.app _ _)
  refine TCall.ref (by simp only [EO]) (spec_l1Str_T _ hb e2.cur o (by simp; omega) (by simp) (by simp)) ?_
  rintro _ H3 ⟨s, rfl, hs, d3⟩
  replace d3 : DrewX _ H3 b bs := d3
  have d := (d2.trans e2).trans d3
  have dl := d.len
  have el := e1.len
  have hss : s.size ≤ 4 := by
    simp only [List.mem_cons, List.not_mem_nil, or_false] at hs
    rcases hs with rfl | rfl | rfl | rfl | rfl | rfl <;> decide
  simp only [EV, EL, EB, EF, q_bx, if_true, if_false, Bool.false_eq_true, Nat.reduceAdd, Option.bind_some, Bool.not_true, Bool.not_false, Nat.reduceBEq, spec_DrawDeriveFromString_r, ER]
  exact ⟨rfl, [.int .i64 k, .str s], [.c (.i .i64 k), .c (.s s)], [], rfl, ⟨[], [], rfl, .i _ _, [], [], rfl, .s _, rfl⟩, by simp, ⟨by omega, fun c hc => (d.fr c (by omega) (by omega)).trans (e1.fr c hc)⟩, k, s, rfl, hss⟩

end Go.Proofs.Ytjohoameeeaafaa
