import Derived.Test.YtjohoameeeaafaaR1B1
import Derived.Test.YtjohoameeeaafaaR1KH
import Derived.Test.YtjohoameeeaafaaR1K2
set_option linter.unusedVariables false
set_option linter.unusedSimpArgs false
namespace Go.Proofs.Ytjohoameeeaafaa
open Go.AM
set_option linter.unusedVariables false
set_option linter.unusedSimpArgs false
variable {Γ : Glob}
/-! Byte strings and lists of integers, written and read. -/
theorem byt_NB (base : Nat) (l : List Int) : NB base (.vs false 1 false (byts l)) :=
  .vs _ _ _ _ (fun e => by cases e) (fun r hr x hx => by
    obtain ⟨b, _, rfl⟩ := List.mem_map.1 hr
    simp only [List.mem_cons, List.not_mem_nil, or_false] at hx
    subst hx; exact .int _ _)
theorem impl_AppendBytes_T (l d : List Int) (hl : l.length ≤ 536870912) (hd : d.length ≤ 536870912) (h : AH) : T Try.prog Γ Fn.impl_AppendBytes [.vs false 1 false (byts l), .vs false 1 false (byts d)] h (Fresh h [.c (.sl 1 (bcd (l ++ enc 5 d.length ++ d)))]) := by
  refine T.freshC ?_
  have L0 := len_vm false 1 false d (fun n => [AV.int .u8 n])
  have hel := enc_len 5 d.length
  refine impl_AppendBytes_e (aw_sound tabOK mixed [] _ _ _ ?_)
  unfold impl_AppendBytes_c
  simp only [EV, EL, EB, EF, q_bx, if_true, if_false, Bool.false_eq_true, Nat.reduceAdd, Option.bind_some, Bool.not_true, Bool.not_false, Nat.reduceBEq, impl_AppendBytes_r, L0]
  refine TCall.ref (by simp only [EO]) (impl_AppendUvarint_T false l hl d.length (by omega) _) ?_
  rintro w H1 fr
  replace fr : Fresh h _ _ _ := fr
  obtain ⟨fw, ow, nw, bw, ew⟩ := fr.c1
  obtain ⟨c1, c2, c3, c4⟩ := ow.cell
  obtain ⟨v', H', fp', ea, o', nd', hf', hl', hm'⟩ := app_vs (β := false) (bytes := 1) (l := d) (c := fun n => [AV.int .u8 n]) (cd := fun n => [CD.i .u8 n]) ow nw (by omega) (fun x => ⟨rfl, rfl⟩) (fun x => by simp [CD.av_i]) (by simp only [bcd, List.length_map, List.length_append, maxMade]; omega)
  have eh := ew.upd hl' hf' bw
  have el := ew.len
  simp only [EV, EL, EB, EF, q_bx, if_true, if_false, Bool.false_eq_true, Nat.reduceAdd, Option.bind_some, Bool.not_true, Bool.not_false, Nat.reduceBEq, impl_AppendBytes_r, EA, ea]
  obtain ⟨N, rfl⟩ := eh.out
  exact ⟨o'.outOK, N, fp', rfl, by rw [bcd, List.map_append]; exact o', nd', fun c hc => by
    rcases hm' c hc with g | g
    · exact bw c g
    · omega⟩
theorem appendV (l d : List Int) (hl : l.length ≤ 536870912) (hd : d.length ≤ 536870912) (h : AH) : T Try.prog Γ Fn.impl_AppendBytes [.vs false 1 false (byts l), .vs false 1 false (byts d)] h fun v h' => v = .vs false 1 false (byts (l ++ enc 5 d.length ++ d)) ∧ h' = h := by
  have := (impl_AppendBytes_T (Γ := Γ) l d hl hd h).frozen
  simpa only [List.map_cons, List.map_nil, resOf_1, resOf_2, rd_c, rd_a, CD.av_sl, CD.av_i, CD.av_b, CD.av_s, List.map_map, Function.comp_def] using this
theorem impl_ReadBytes_no (l d : List Int) (hl : l.length ≤ 536870912) (hd : d.length ≤ 536870912) (mx : Int) (hm : mx < d.length) (h : AH) : T Try.prog Γ Fn.impl_ReadBytes [.vs false 1 false (byts (l ++ enc 5 d.length ++ d)), .int .i64 (l.length : Nat), .int .i64 mx] h fun v h' => v = .tup [.nils, .int .i64 0, .bool false] ∧ h' = h := by
  refine impl_ReadBytes_e (aw_sound tabOK mixed [] _ _ _ ?_)
  unfold impl_ReadBytes_c
  simp only [EV, EL, EB, EF, q_bx, if_true, if_false, Bool.false_eq_true, Nat.reduceAdd, Option.bind_some, Bool.not_true, Bool.not_false, Nat.reduceBEq, impl_ReadBytes_r]
  refine TCall.val (by simp only [EO]) (impl_ReadUvarint_T false l d hl hd d.length (by omega) _) ?_
  simp only [EV, EL, EB, EF, q_bx, if_true, if_false, Bool.false_eq_true, Nat.reduceAdd, Option.bind_some, Bool.not_true, Bool.not_false, Nat.reduceBEq, impl_ReadBytes_r, ER, decide_eq_true (show (d.length : Int) > mx by omega)]
  first | exact ⟨rfl, rfl, rfl⟩ | exact ⟨rfl, rfl⟩ | exact rfl
theorem impl_ReadBytes_T (l d : List Int) (hl : l.length ≤ 536870912) (hd : d.length ≤ 536870912) (h : AH) : T Try.prog Γ Fn.impl_ReadBytes [.vs false 1 false (byts (l ++ enc 5 d.length ++ d)), .int .i64 (l.length : Nat), .int .i64 (d.length : Nat)] h fun v h' => v = .tup [.vs false 1 false (byts d), .int .i64 ((l ++ enc 5 d.length ++ d).length : Nat), .bool true] ∧ h' = h := by
  have hel := enc_len 5 d.length
  generalize hxs : l ++ enc 5 d.length ++ d = xs
  have hxl : xs.length = l.length + (enc 5 d.length).length + d.length := by rw [← hxs]; simp; omega
  have L0 := len_vm false 1 false xs (fun n => [AV.int .u8 n])
  refine (T.froz (R := fun rs => rs = [.c (.sl 1 (bcd d)), .c (.i .i64 (xs.length : Nat)), .c (.b true)]) ?_).mono ?_
  rotate_left
  · rintro v h' ⟨⟨rs, rfl, rfl⟩, rfl⟩
    refine ⟨?_, rfl⟩
    simp only [List.map_cons, List.map_nil, resOf_1, resOf_2, resOf, rd_c, rd_a, CD.av_sl, CD.av_i, CD.av_b, CD.av_s, List.map_map, Function.comp_def]
  have hdr : (xs.take xs.length).drop (l.length + (enc 5 d.length).length) = d := by rw [List.take_length, ← hxs, ← List.length_append, List.drop_left]
  have w1 : IntKind.i64.wrap (((l.length + (enc 5 d.length).length : Nat) : Int) + (d.length : Int)) = (xs.length : Int) := by rw [hxl, ← Int.natCast_add]; exact wrap_nat (by omega) (by omega)
  have w2 : IntKind.i64.wrap ((xs.length : Int) - ((l.length + (enc 5 d.length).length : Nat) : Int)) = (d.length : Int) := by rw [show (xs.length : Int) - ((l.length + (enc 5 d.length).length : Nat) : Int) = (d.length : Int) by omega]; exact wrap_nat (by omega) (by omega)
  have hcut : ∀ s : St, cutBoth (.sl 1) s (.vs false 1 false (byts xs)) (.int .i64 ((l.length + (enc 5 d.length).length : Nat) : Int)) (.int .i64 (xs.length : Int)) = .val (.vs false 1 false (byts d)) s := by
    intro s
    have hd' : ((byts xs).take xs.length).drop (l.length + (enc 5 d.length).length) = byts d := by rw [byts, ← List.map_take, ← List.map_drop, hdr]
    have hbl : (byts xs).length = xs.length := by simp
    simp only [cutBoth, bndV, asI, Option.bind_some]
    rw [if_pos (by omega), if_pos (by omega)]
    simp only [aSlice, Int.toNat_natCast, Option.getD_some, Option.isNone_some, Bool.false_and, Bool.false_eq_true, if_false, if_true, hd', hbl]
    rw [if_pos ⟨by omega, Nat.le_refl _⟩]; rfl
  refine impl_ReadBytes_e (aw_sound tabOK mixed [] _ _ _ ?_)
  unfold impl_ReadBytes_c
  simp only [EV, EL, EB, EF, q_bx, if_true, if_false, Bool.false_eq_true, Nat.reduceAdd, Option.bind_some, Bool.not_true, Bool.not_false, Nat.reduceBEq, impl_ReadBytes_r]
  have R := fun h => impl_ReadUvarint_T (Γ := Γ) false l d hl hd d.length (by omega) h
  rw [hxs] at R
  refine TCall.val (by simp only [EO]) (R _) ?_
  simp only [EV, EL, EB, EF, q_bx, if_true, if_false, Bool.false_eq_true, Nat.reduceAdd, Option.bind_some, Bool.not_true, Bool.not_false, Nat.reduceBEq, impl_ReadBytes_r, ER, L0, decide_eq_false (show ¬ (d.length : Int) > (d.length : Int) by omega), w1, w2, p_cutBoth, hcut]
  refine TCall.ref (by simp only [EO]) (clone_byte false d (by omega) _) ?_
  rintro w H1 fr
  replace fr : Fresh h _ _ _ := fr
  obtain ⟨fw, ow, nw, bw, ew⟩ := fr.c1
  obtain ⟨c1, c2, c3, c4⟩ := ow.cell
  simp only [EV, EL, EB, EF, q_bx, if_true, if_false, Bool.false_eq_true, Nat.reduceAdd, Option.bind_some, Bool.not_true, Bool.not_false, Nat.reduceBEq, impl_ReadBytes_r, ER, w1, c1, c2, c3]
  exact ⟨by simp only [List.all_cons, List.all_nil, c4]; rfl, [w, .int .i64 (xs.length : Nat), .bool true], [.c (.sl 1 (bcd d)), .c (.i .i64 (xs.length : Nat)), .c (.b true)], fw, rfl, ⟨fw, [], by simp, ow, [], [], rfl, .i _ _, [], [], rfl, .b _, rfl⟩, bw, ew, rfl⟩
def encs (l : List Int) : List Int := l.flatMap fun n => enc 5 n.toNat
theorem encs_s {l : List Int} {k : Nat} (hk : k < l.length) : encs (l.take (k + 1)) = encs (l.take k) ++ enc 5 l[k].toNat := by
  unfold encs; rw [List.take_succ_eq_append_getElem hk, List.flatMap_append, List.flatMap_singleton]
theorem encs_len (l : List Int) : (encs l).length ≤ 6 * l.length := by
  induction l with
  | nil => simp [encs]
  | cons a l ih =>
    have := enc_len 5 a.toNat
    have e : encs (a :: l) = enc 5 a.toNat ++ encs l := rfl
    rw [e]; simp; omega
theorem encs_split {l : List Int} {k : Nat} (hk : k < l.length) : encs l = encs (l.take k) ++ enc 5 l[k].toNat ++ encs (l.drop (k + 1)) := by
  conv => lhs; rw [← List.take_append_drop (k + 1) l]
  unfold encs
  rw [List.flatMap_append, List.take_succ_eq_append_getElem hk, List.flatMap_append, List.flatMap_singleton]
def smallI (l : List Int) : Prop := ∀ x ∈ l, 0 ≤ x ∧ x ≤ 1000000000000
theorem impl_EncodeInts_T (β : Bool) (l : List Int) (hl : l.length ≤ 50) (hs : smallI l) (h : AH) : T Try.prog Γ Fn.impl_EncodeInts [.vs β 1 false (ints l)] h (Fresh h [.c (.sl 1 (bcd (encs l)))]) := by
  refine T.freshC ?_
  have L0 := len_vm β 1 false l (fun n => [AV.int .i64 n])
  refine impl_EncodeInts_e (aw_sound tabOK mixed [] _ _ _ ?_)
  unfold impl_EncodeInts_c
  simp only [EV, EL, EB, EF, q_bx, if_true, if_false, Bool.false_eq_true, Nat.reduceAdd, Option.bind_some, Bool.not_true, Bool.not_false, Nat.reduceBEq, impl_EncodeInts_r, L0, EA]
  refine loopI tabOK mixed [] (fun y : Nat × AV × AH × List Nat => y.1 ≤ l.length ∧ Own y.2.2.1 y.2.1 (.sl 1 (bcd (encs (l.take y.1)))) y.2.2.2 ∧ y.2.2.2.Nodup ∧ (∀ c ∈ y.2.2.2, h.length ≤ c) ∧ HExt h y.2.2.1) (fun y => l.length - y.1)
    (fun y => impl_EncodeInts_s0 y.2.1 (.vs β 1 false (ints l)) (.int .i64 l.length) (.int .i64 y.1) [] y.2.2.1) (0, _, _, [h.length]) ⟨by simp, by simpa [encs] using bsl0_own h 1, by simp, by simp, HExt.app _ _⟩ ⟨by simp [impl_EncodeInts_s0, LeL, LeV], rfl, rfl⟩ ?_
  rintro ⟨k, w, H2, f2⟩ ⟨hk, o2, n2, b2, e2⟩
  simp only at hk o2 n2 b2 e2
  obtain ⟨d1, d2, d3, d4⟩ := o2.cell
  have h6 := encs_len (l.take k)
  rw [List.length_take] at h6
  simp only [EV, EL, EB, EF, q_bx, if_true, if_false, Bool.false_eq_true, Nat.reduceAdd, Option.bind_some, Bool.not_true, Bool.not_false, Nat.reduceBEq, impl_EncodeInts_r, impl_EncodeInts_s0]
  refine c_split (fun hlt => ?_) (fun hge => ?_)
  · have hlt : k < l.length := by simpa using hlt
    have i0 := idx_vm (β := β) (sz := 1) (ex := false) (ce := fun n => [AV.int .i64 n]) hlt
    have hx := hs l[k] (List.getElem_mem hlt)
    obtain ⟨n, hn⟩ := Int.eq_ofNat_of_zero_le hx.1
    have hnn : l[k].toNat = n := by rw [hn]; rfl
    simp only [EV, EL, EB, EF, q_bx, if_true, if_false, Bool.false_eq_true, Nat.reduceAdd, Option.bind_some, Bool.not_true, Bool.not_false, Nat.reduceBEq, impl_EncodeInts_r, i0, hn]
    refine TCall.own (by simp only [EO, d4]) (snap_c (Own.see (c := fun n => [AV.int .u8 n]) (fun x => by simp [CD.av_i]) o2) (snap_c (.same _) snap_n)) (fun h => impl_AppendUvarint_T true (encs (l.take k)) (by omega) n (by omega) h) ?_
    rintro v3 H3 fr
    replace fr : Fresh H2 _ _ _ := fr
    obtain ⟨f3, o3, n3, b3, e3⟩ := fr.c1
    have := e2.len
    simp only [EV, EL, EB, EF, q_bx, if_true, if_false, Bool.false_eq_true, Nat.reduceAdd, Option.bind_some, Bool.not_true, Bool.not_false, Nat.reduceBEq, impl_EncodeInts_r]
    exact ⟨(k + 1, v3, H3, f3), ⟨hlt, by simp only; rw [encs_s hlt, hnn]; exact o3, n3, fun c hc => by have := b3 c hc; omega, e2.trans e3⟩, by simp only; omega, ⟨by rw [wN (by omega)]; simp [impl_EncodeInts_s0, LeL, LeV], rfl, rfl⟩⟩
  · have hge : k = l.length := by simp at hge; omega
    subst hge
    simp only [EV, EL, EB, EF, q_bx, if_true, if_false, Bool.false_eq_true, Nat.reduceAdd, Option.bind_some, Bool.not_true, Bool.not_false, Nat.reduceBEq, impl_EncodeInts_r]
    rw [List.take_length] at o2
    obtain ⟨N, rfl⟩ := e2.out
    exact ⟨o2.outOK, N, f2, rfl, o2, n2, b2⟩
theorem encodeV (β : Bool) (l : List Int) (hl : l.length ≤ 50) (hs : smallI l) (h : AH) : T Try.prog Γ Fn.impl_EncodeInts [.vs β 1 false (ints l)] h fun v h' => v = .vs false 1 false (byts (encs l)) ∧ h' = h := by
  have := (impl_EncodeInts_T (Γ := Γ) β l hl hs h).frozen
  simpa only [List.map_cons, List.map_nil, resOf_1, resOf_2, rd_c, rd_a, CD.av_sl, CD.av_i, CD.av_b, CD.av_s, List.map_map, Function.comp_def] using this
/-- As many as there are, or one more. -/
theorem impl_DecodeInts_T (l : List Int) (hl : l.length ≤ 50) (hs : smallI l) (more : Bool) (h : AH) : T Try.prog Γ Fn.impl_DecodeInts [.vs false 1 false (byts (encs l)), .int .i64 0, .int .i64 ((l.length + more.toNat : Nat) : Int)] h fun v h' => v = (if more = true then .tup [.vs false 1 false [], .int .i64 0, .bool false] else .tup [.vs false 1 false (ints l), .int .i64 ((encs l).length : Nat), .bool true]) ∧ h' = h := by
  refine (T.froz (R := fun rs => rs = (if more = true then [.c (.sl 1 []), .c (.i .i64 0), .c (.b false)] else [.c (.sl 1 (icd l)), .c (.i .i64 ((encs l).length : Nat)), .c (.b true)])) ?_).mono ?_
  rotate_left
  · rintro v h' ⟨⟨rs, rfl, rfl⟩, rfl⟩
    refine ⟨?_, rfl⟩
    cases more <;> simp only [Bool.false_eq_true, if_true, if_false, List.map_cons, List.map_nil, resOf_1, resOf_2, resOf, rd_c, rd_a, CD.av_sl, CD.av_i, CD.av_b, CD.av_s, List.map_map, Function.comp_def]
  have L0 := len_vm false 1 false (encs l) (fun n => [AV.int .u8 n])
  have h6 := encs_len l
  have hmt : more.toNat ≤ 1 := by cases more <;> simp
  have hin : inR ((l.length + more.toNat : Nat) : Int) 0 100 = true := by simp [inR]; omega
  have hin2 : inR 0 0 ((encs l).length : Int) = true := by simp [inR]
  refine impl_DecodeInts_e (aw_sound tabOK mixed [] _ _ _ ?_)
  unfold impl_DecodeInts_c
  simp only [EV, EL, EB, EF, q_bx, if_true, if_false, Bool.false_eq_true, Nat.reduceAdd, Option.bind_some, Bool.not_true, Bool.not_false, Nat.reduceBEq, impl_DecodeInts_r]
  refine TCall.val (by simp only [EO]) (impl_in_T _ _ _ _) ?_
  rw [hin]
  simp only [EV, EL, EB, EF, q_bx, if_true, if_false, Bool.false_eq_true, Nat.reduceAdd, Option.bind_some, Bool.not_true, Bool.not_false, Nat.reduceBEq, impl_DecodeInts_r, L0]
  refine TCall.val (by simp only [EO]) (impl_in_T _ _ _ _) ?_
  rw [hin2]
  simp only [EV, EL, EB, EF, q_bx, if_true, if_false, Bool.false_eq_true, Nat.reduceAdd, Option.bind_some, Bool.not_true, Bool.not_false, Nat.reduceBEq, impl_DecodeInts_r, EA]
  refine loopI tabOK mixed [] (fun y : Nat × AV × AH × List Nat => y.1 ≤ l.length ∧ Own y.2.2.1 y.2.1 (.sl 1 (icd (l.take y.1))) y.2.2.2 ∧ y.2.2.2.Nodup ∧ (∀ c ∈ y.2.2.2, h.length ≤ c) ∧ HExt h y.2.2.1) (fun y => l.length - y.1)
    (fun y => impl_DecodeInts_s0 (.vs false 1 false (byts (encs l))) (.int .i64 ((encs (l.take y.1)).length : Nat)) y.2.1 (.int .i64 ((l.length + more.toNat : Nat) : Int)) (.int .i64 y.1) [] y.2.2.1) (0, _, _, [h.length]) ⟨by simp, by simpa using bsl0_own h 1, by simp, by simp, HExt.app _ _⟩ ⟨by simp [impl_DecodeInts_s0, LeL, LeV, encs], rfl, rfl⟩ ?_
  rintro ⟨k, w, H2, f2⟩ ⟨hk, o2, n2, b2, e2⟩
  simp only at hk o2 n2 b2 e2
  obtain ⟨d1, d2, d3, d4⟩ := o2.cell
  have h7 := encs_len (l.take k)
  rw [List.length_take] at h7
  by_cases hlt : k < l.length
  · have hx := hs l[k] (List.getElem_mem hlt)
    obtain ⟨n, hn⟩ := Int.eq_ofNat_of_zero_le hx.1
    have hnn : l[k].toNat = n := by rw [hn]; rfl
    have hsp := encs_split hlt
    have hss := encs_s hlt
    rw [hnn] at hsp hss
    have h8 := encs_len (l.drop (k + 1))
    rw [List.length_drop] at h8
    have R := fun h => impl_ReadUvarint_T (Γ := Γ) false (encs (l.take k)) (encs (l.drop (k + 1))) (by omega) (by omega) n (by omega) h
    rw [← hsp, ← List.length_append, ← hss] at R
    obtain ⟨v', H', fp', ea, o', nd', hf', hl', hm'⟩ := app_ext (bytes := 8) o2 (f2 := []) (by simpa using n2) (by omega) (ys := [.int .i64 (n : Int)]) rfl (row := [.i .i64 (n : Int)]) (OwnL.i (show OwnL H2 [] [] [] from rfl)) (by simp only [icd, List.length_map, List.length_take, maxMade]; omega)
    have eh := e2.upd hl' hf' b2
    have hel := e2.len
    have hb' : ∀ c ∈ fp', h.length ≤ c := fun c hc => by
      rcases hm' c hc with g | g | g
      · exact b2 c g
      · simp at g
      · omega
    simp only [EV, EL, EB, EF, q_bx, if_true, if_false, Bool.false_eq_true, Nat.reduceAdd, Option.bind_some, Bool.not_true, Bool.not_false, Nat.reduceBEq, impl_DecodeInts_r, impl_DecodeInts_s0, decide_eq_true (show (k : Int) < ((l.length + more.toNat : Nat) : Int) by omega)]
    refine TCall.val (by simp only [EO]) (R _) ?_
    simp only [EV, EL, EB, EF, q_bx, if_true, if_false, Bool.false_eq_true, Nat.reduceAdd, Option.bind_some, Bool.not_true, Bool.not_false, Nat.reduceBEq, impl_DecodeInts_r, ER, EA, ea]
    exact ⟨(k + 1, v', H', fp'), ⟨hlt, by simp only; rw [List.take_succ_eq_append_getElem hlt, icd, List.map_append, hn]; exact o', nd', hb', eh⟩, by simp only; omega, ⟨by rw [wN (by omega)]; simp [impl_DecodeInts_s0, LeL, LeV], rfl, rfl⟩⟩
  have hkl : k = l.length := by omega
  subst hkl
  rw [List.take_length] at o2
  cases more
  · simp only [EV, EL, EB, EF, q_bx, if_true, if_false, Bool.false_eq_true, Nat.reduceAdd, Option.bind_some, Bool.not_true, Bool.not_false, Nat.reduceBEq, impl_DecodeInts_r, impl_DecodeInts_s0, decide_eq_false (show ¬ (l.length : Int) < ((l.length + Bool.toNat false : Nat) : Int) by simp), ER, d1, d2, d3, List.take_length]
    exact ⟨by simp only [List.all_cons, List.all_nil, d4]; rfl, [w, .int .i64 ((encs l).length : Nat), .bool true], [.c (.sl 1 (icd l)), .c (.i .i64 ((encs l).length : Nat)), .c (.b true)], f2, rfl, ⟨f2, [], by simp, o2, [], [], rfl, .i _ _, [], [], rfl, .b _, rfl⟩, b2, e2, rfl⟩
  · simp only [EV, EL, EB, EF, q_bx, if_true, if_false, Bool.false_eq_true, Nat.reduceAdd, Option.bind_some, Bool.not_true, Bool.not_false, Nat.reduceBEq, impl_DecodeInts_r, impl_DecodeInts_s0, decide_eq_true (show (l.length : Int) < ((l.length + Bool.toNat true : Nat) : Int) by simp only [Bool.toNat_true]; omega), List.take_length]
    refine TCall.val (by simp only [EO]) (impl_ReadUvarint_end false (encs l) (by omega) _) ?_
    simp only [EV, EL, EB, EF, q_bx, if_true, if_false, Bool.false_eq_true, Nat.reduceAdd, Option.bind_some, Bool.not_true, Bool.not_false, Nat.reduceBEq, impl_DecodeInts_r, ER]
    exact ⟨rfl, [.nils, .int .i64 0, .bool false], [.c (.sl 1 []), .c (.i .i64 0), .c (.b false)], [], rfl, ⟨[], [], rfl, .nil _, [], [], rfl, .i _ _, [], [], rfl, .b _, rfl⟩, by simp, e2, rfl⟩

end Go.Proofs.Ytjohoameeeaafaa
