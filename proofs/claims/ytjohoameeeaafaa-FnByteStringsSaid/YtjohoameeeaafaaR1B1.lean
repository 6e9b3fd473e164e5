import Derived.Test.YtjohoameeeaafaaR1SI
import Derived.Test.YtjohoameeeaafaaAmBits
set_option linter.unusedVariables false
set_option linter.unusedSimpArgs false
namespace Go.Proofs.Ytjohoameeeaafaa
open Go.AM
set_option linter.unusedVariables false
set_option linter.unusedSimpArgs false
variable {Γ : Glob}
/-! Varints are written and read. -/
abbrev byts (l : List Int) : List (List AV) := l.map fun n => [.int .u8 n]
abbrev bcd (l : List Int) : List (List CD) := l.map fun n => [.i .u8 n]
theorem clone_byte (β : Bool) (l : List Int) (hl : l.length ≤ 1073741824) (h : AH) : T Try.prog Γ Fn.slices_Clone_ibyte_byte [.vs β 1 false (byts l)] h (Fresh h [.c (.sl 1 (bcd l))]) :=
  clone_D tabOK mixed (fun hw => slices_Clone_ibyte_byte_e hw) (by omega) (by simp only [maxMade]; omega) (fun x => ⟨rfl, rfl⟩) (fun x => by simp [CD.av_i])
theorem impl_AppendUvarint_T (β : Bool) (l : List Int) (hl : l.length ≤ 536870912) (n : Nat) (hn : n ≤ 1000000000000) (h : AH) : T Try.prog Γ Fn.impl_AppendUvarint [.vs β 1 false (byts l), .int .i64 n] h (Fresh h [.c (.sl 1 (bcd (l ++ enc 5 n)))]) := by
  refine T.freshC ?_
  have hin : inR n 0 1000000000000 = true := by simp [inR]; omega
  refine impl_AppendUvarint_e (aw_sound tabOK mixed [] _ _ _ ?_)
  unfold impl_AppendUvarint_c
  simp only [EV, EL, EB, EF, q_bx, if_true, if_false, Bool.false_eq_true, Nat.reduceAdd, Option.bind_some, Bool.not_true, Bool.not_false, Nat.reduceBEq, impl_AppendUvarint_r]
  refine TCall.ref (by simp only [EO]) (clone_byte β l (by omega) _) ?_
  rintro w H1 fr
  replace fr : Fresh h _ _ _ := fr
  obtain ⟨fw, ow, nw, bw, ew⟩ := fr.c1
  obtain ⟨c1, c2, c3, c4⟩ := ow.cell
  simp only [EV, EL, EB, EF, q_bx, if_true, if_false, Bool.false_eq_true, Nat.reduceAdd, Option.bind_some, Bool.not_true, Bool.not_false, Nat.reduceBEq, impl_AppendUvarint_r]
  refine TCall.val (by simp only [EO]) (impl_in_T _ _ _ _) ?_
  rw [hin]
  simp only [EV, EL, EB, EF, q_bx, if_true, if_false, Bool.false_eq_true, Nat.reduceAdd, Option.bind_some, Bool.not_true, Bool.not_false, Nat.reduceBEq, impl_AppendUvarint_r]
  refine loopI tabOK mixed [] (fun y : Nat × Nat × AV × AH × List Nat × List Int => y.2.1 < 128 ^ (y.1 + 1) ∧ y.1 ≤ 5 ∧ y.2.2.2.2.2 ++ enc y.1 y.2.1 = l ++ enc 5 n ∧ Own y.2.2.2.1 y.2.2.1 (.sl 1 (bcd y.2.2.2.2.2)) y.2.2.2.2.1 ∧ y.2.2.2.2.1.Nodup ∧ (∀ c ∈ y.2.2.2.2.1, h.length ≤ c) ∧ HExt h y.2.2.2.1) (fun y => y.1)
    (fun y => impl_AppendUvarint_s0 (.int .i64 y.2.1) y.2.2.1 [] y.2.2.2.1) (5, n, w, H1, fw, l) ⟨by simp only; omega, by simp, rfl, ow, nw, bw, ew⟩ ⟨by simp [impl_AppendUvarint_s0, LeL, LeV], rfl, rfl⟩ ?_
  rintro ⟨f, m, v, H2, f2, o⟩ ⟨hm, hf, he, o2, n2, b2, e2⟩
  simp only at hm hf he o2 n2 b2 e2
  obtain ⟨d1, d2, d3, d4⟩ := o2.cell
  have hol : o.length ≤ l.length + 6 := by
    have := congrArg List.length he
    have h1 := enc_len f m
    have h2 := enc_len 5 n
    simp at this; omega
  have hel := e2.len
  by_cases hge : (m : Int) ≥ 128
  · obtain ⟨g, rfl⟩ : ∃ g, f = g + 1 := by
      cases f with
      | zero => simp at hm; omega
      | succ g => exact ⟨g, rfl⟩
    obtain ⟨v', H', fp', ea, o', nd', hf', hl', hm'⟩ := app_ext (bytes := 1) o2 (f2 := []) (by simpa using n2) (by omega) (ys := [.int .u8 ((m % 128 + 128 : Nat) : Int)]) rfl (row := [.i .u8 ((m % 128 + 128 : Nat) : Int)]) (OwnL.i (show OwnL H2 [] [] [] from rfl)) (by simp only [bcd, List.length_map, maxMade]; omega)
    have eh := e2.upd hl' hf' b2
    have hb' : ∀ c ∈ fp', h.length ≤ c := fun c hc => by
      rcases hm' c hc with g | g | g
      · exact b2 c g
      · simp at g
      · omega
    simp only [EV, EL, EB, EF, q_bx, if_true, if_false, Bool.false_eq_true, Nat.reduceAdd, Option.bind_some, Bool.not_true, Bool.not_false, Nat.reduceBEq, impl_AppendUvarint_r, impl_AppendUvarint_s0, decide_eq_true hge, p_cvi, wrapA8, orA128, EA, ea, shrA7]
    have he2 : (o ++ [((m % 128 + 128 : Nat) : Int)]) ++ enc g (m / 128) = l ++ enc 5 n := by
      rw [← he, enc_ge (by omega)]; simp
    have hmm : m / 128 < 128 ^ (g + 1) := Nat.div_lt_of_lt_mul (by rw [Nat.pow_succ, Nat.mul_comm] at hm; exact hm)
    exact ⟨(g, m / 128, v', H', fp', o ++ [((m % 128 + 128 : Nat) : Int)]), ⟨hmm, by simp only; omega, he2, by rw [bcd, List.map_append]; exact o', nd', hb', eh⟩, by simp only; omega, ⟨by simp [impl_AppendUvarint_s0, LeL, LeV], rfl, rfl⟩⟩
  · have hlt : m < 128 := by omega
    obtain ⟨v', H', fp', ea, o', nd', hf', hl', hm'⟩ := app_ext (bytes := 1) o2 (f2 := []) (by simpa using n2) (by omega) (ys := [.int .u8 ((m % 256 : Nat) : Int)]) rfl (row := [.i .u8 ((m % 256 : Nat) : Int)]) (OwnL.i (show OwnL H2 [] [] [] from rfl)) (by simp only [bcd, List.length_map, maxMade]; omega)
    have eh := e2.upd hl' hf' b2
    have hb' : ∀ c ∈ fp', h.length ≤ c := fun c hc => by
      rcases hm' c hc with g | g | g
      · exact b2 c g
      · simp at g
      · omega
    simp only [EV, EL, EB, EF, q_bx, if_true, if_false, Bool.false_eq_true, Nat.reduceAdd, Option.bind_some, Bool.not_true, Bool.not_false, Nat.reduceBEq, impl_AppendUvarint_r, impl_AppendUvarint_s0, decide_eq_false hge, p_cvi, wrapA8, EA, ea]
    obtain ⟨N, rfl⟩ := eh.out
    rw [show m % 256 = m by omega] at o'
    rw [enc_lt hlt] at he
    exact ⟨o'.outOK, N, fp', rfl, by rw [← he, bcd, List.map_append]; exact o', nd', hb'⟩
theorem impl_ReadUvarint_end (β : Bool) (l : List Int) (hl : l.length ≤ 1073741824) (h : AH) : T Try.prog Γ Fn.impl_ReadUvarint [.vs β 1 false (byts l), .int .i64 (l.length : Nat)] h fun v h' => v = .tup [.int .i64 0, .int .i64 0, .bool false] ∧ h' = h := by
  have L0 := len_vm β 1 false l (fun n => [AV.int .u8 n])
  have hin : inR (l.length : Int) 0 (IntKind.i64.wrap ((l.length : Int) - 1)) = false := by
    rcases Nat.eq_zero_or_pos l.length with g | g
    · rw [g]; rfl
    · have : IntKind.i64.wrap ((l.length : Int) - 1) = ((l.length - 1 : Nat) : Int) := by rw [show (l.length : Int) - 1 = ((l.length - 1 : Nat) : Int) by omega]; exact wrap_nat (by omega) (by omega)
      rw [this]; simp [inR]; omega
  refine impl_ReadUvarint_e (aw_sound tabOK mixed [] _ _ _ ?_)
  unfold impl_ReadUvarint_c
  simp only [EV, EL, EB, EF, q_bx, if_true, if_false, Bool.false_eq_true, Nat.reduceAdd, Option.bind_some, Bool.not_true, Bool.not_false, Nat.reduceBEq, impl_ReadUvarint_r, L0]
  refine TCall.val (by simp only [EO]) (impl_in_T _ _ _ _) ?_
  rw [hin]
  simp only [EV, EL, EB, EF, q_bx, if_true, if_false, Bool.false_eq_true, Nat.reduceAdd, Option.bind_some, Bool.not_true, Bool.not_false, Nat.reduceBEq, impl_ReadUvarint_r, ER]
  first | exact ⟨rfl, rfl, rfl⟩ | exact ⟨rfl, rfl⟩ | exact rfl
theorem impl_ReadUvarint_T (β : Bool) (pre post : List Int) (hp : pre.length ≤ 536870912) (hq : post.length ≤ 536870912) (n : Nat) (hn : n ≤ 1000000000000) (h : AH) : T Try.prog Γ Fn.impl_ReadUvarint [.vs β 1 false (byts (pre ++ enc 5 n ++ post)), .int .i64 (pre.length : Nat)] h fun v h' => v = .tup [.int .i64 n, .int .i64 ((pre.length + (enc 5 n).length : Nat) : Int), .bool true] ∧ h' = h := by
  generalize hxs : pre ++ enc 5 n ++ post = xs
  have hel := enc_len 5 n
  have hxl : xs.length = pre.length + (enc 5 n).length + post.length := by rw [← hxs]; simp; omega
  have hdr : xs.drop pre.length = enc 5 n ++ post := by rw [← hxs, List.append_assoc, List.drop_left]
  have L0 := len_vm β 1 false xs (fun n => [AV.int .u8 n])
  have hin : inR (pre.length : Int) 0 (IntKind.i64.wrap ((xs.length : Int) - 1)) = true := by
    have : IntKind.i64.wrap ((xs.length : Int) - 1) = ((xs.length - 1 : Nat) : Int) := by rw [show (xs.length : Int) - 1 = ((xs.length - 1 : Nat) : Int) by omega]; exact wrap_nat (by omega) (by omega)
    rw [this]; simp [inR]; omega
  generalize hys : enc 5 n ++ post = ys at hdr
  have L1 := len_vm β 1 false ys (fun n => [AV.int .u8 n])
  have hcut : ∀ s : St, cutFrom (.sl 1) s (.vs β 1 false (byts xs)) (.int .i64 (pre.length : Int)) = .val (.vs β 1 false (byts ys)) s := by
    intro s
    have h0 : pre.length ≤ (byts xs).length := by simp; omega
    have hd : ((byts xs).take (byts xs).length).drop pre.length = byts ys := by rw [List.take_length, byts, ← List.map_drop, hdr]
    simp only [cutFrom, bndV, asI, Option.bind_some]
    rw [if_pos (by omega)]
    simp only [aSlice, Int.toNat_natCast, Option.getD_none, Option.isNone_none, Option.isSome_none, Bool.and_false, Bool.false_eq_true, if_false, if_true, hd, Bool.false_and]
    rw [if_pos ⟨h0, Nat.le_refl _⟩]; rfl
  refine impl_ReadUvarint_e (aw_sound tabOK mixed [] _ _ _ ?_)
  unfold impl_ReadUvarint_c
  simp only [EV, EL, EB, EF, q_bx, if_true, if_false, Bool.false_eq_true, Nat.reduceAdd, Option.bind_some, Bool.not_true, Bool.not_false, Nat.reduceBEq, impl_ReadUvarint_r, L0]
  refine TCall.val (by simp only [EO]) (impl_in_T _ _ _ _) ?_
  rw [hin]
  simp only [EV, EL, EB, EF, q_bx, if_true, if_false, Bool.false_eq_true, Nat.reduceAdd, Option.bind_some, Bool.not_true, Bool.not_false, Nat.reduceBEq, impl_ReadUvarint_r, p_cutFrom, hcut, L1]
  refine loopI tabOK mixed [] (fun y : Nat × Nat × Nat × Nat => y.1 + y.2.1 = 5 ∧ y.2.2.1 < 128 ^ (y.2.1 + 1) ∧ y.2.2.2 < 128 ^ y.1 ∧ y.2.2.2 + 128 ^ y.1 * y.2.2.1 = n ∧ (0 < y.1 → 0 < y.2.2.1) ∧ ys.drop y.1 = enc y.2.1 y.2.2.1 ++ post ∧ (enc 5 n).length = y.1 + (enc y.2.1 y.2.2.1).length) (fun y => y.2.1)
    (fun y => impl_ReadUvarint_s0 (.int .i64 (pre.length : Int)) (.int .i64 (y.2.2.2 : Nat)) (.vs β 1 false (byts ys)) (.int .i64 ys.length) (.int .i64 (y.1 : Nat)) [] h) (0, 5, n, 0) ⟨by simp, by simp only; omega, by simp, by simp, by simp, by simp [← hys], by simp⟩ ⟨by simp [impl_ReadUvarint_s0, LeL, LeV], rfl, rfl⟩ ?_
  rintro ⟨k, f, m, a⟩ ⟨hkf, hm, ha, hsum, hpos, hd, hlen⟩
  simp only at hkf hm ha hsum hpos hd hlen
  have hk5 : k ≤ 5 := by omega
  have hyl : k < ys.length := by
    have := congrArg List.length hd
    have h1 := enc_len f m
    simp at this; omega
  have hlt : (k : Int) < (ys.length : Int) := by omega
  have i0 := idx_vm (β := β) (sz := 1) (ex := false) (ce := fun n => [AV.int .u8 n]) hyl
  have h7 : IntKind.i64.wrap (7 * (k : Int)) = ((7 * k : Nat) : Int) := by rw [show 7 * (k : Int) = ((7 * k : Nat) : Int) by omega]; exact wrap_nat (by omega) (by omega)
  have hk6 : ((k : Int) == 6) = false := by rw [beq_dec]; exact decide_eq_false (by omega)
  have hc127 : ∀ z : Nat, z < 128 → IntKind.i64.wrap (z : Int) = z := fun z hz => wrap_nat (by omega) (by omega)
  rw [List.drop_eq_getElem_cons hyl] at hd
  by_cases hm1 : m < 128
  · rw [enc_lt hm1] at hd hlen
    have hy0 : ys[k] = (m : Int) := by simpa using (List.cons.inj hd).1
    have hn2 : a + 128 ^ k * m = n := hsum
    have hp128 : 0 < 128 ^ k := Nat.pow_pos (by omega)
    have w1 : IntKind.i64.wrap ((pre.length : Int) + (k : Int)) = ((pre.length + k : Nat) : Int) := by rw [← Int.natCast_add]; exact wrap_nat (by omega) (by omega)
    have w2 : IntKind.i64.wrap (((pre.length + k : Nat) : Int) + 1) = ((pre.length + (enc 5 n).length : Nat) : Int) := by rw [hlen, List.length_singleton]; exact wN (by omega)
    rcases Nat.eq_zero_or_pos m with m0 | m0
    · have k0 : k = 0 := by
        rcases Nat.eq_zero_or_pos k with g | g
        · exact g
        · have := hpos g; omega
      have hd0 : decide ((k : Int) > 0) = false := decide_eq_false (by omega)
      have hm00 : ((m : Int) == 0) = true := by rw [beq_dec]; exact decide_eq_true (by omega)
      simp only [EV, EL, EB, EF, q_bx, if_true, if_false, Bool.false_eq_true, Nat.reduceAdd, Option.bind_some, Bool.not_true, Bool.not_false, Nat.reduceBEq, impl_ReadUvarint_r, impl_ReadUvarint_s0, decide_eq_true hlt, i0, hy0, hk6, andA127 (show m < 256 by omega), p_cvi, show m % 128 = m by omega, hc127 m hm1, h7, shlAk hm1 hk5, orAadd ha hm1 hk5, hn2, decide_eq_true (show (m : Int) < 128 by omega), hm00, hd0, decide_eq_false (show ¬ (n : Int) > 1000000000000 by omega), w1, w2, ER]
      first | exact ⟨rfl, rfl, rfl⟩ | exact ⟨rfl, rfl⟩ | exact rfl
    · have hm00 : ((m : Int) == 0) = false := by rw [beq_dec]; exact decide_eq_false (by omega)
      simp only [EV, EL, EB, EF, q_bx, if_true, if_false, Bool.false_eq_true, Nat.reduceAdd, Option.bind_some, Bool.not_true, Bool.not_false, Nat.reduceBEq, impl_ReadUvarint_r, impl_ReadUvarint_s0, decide_eq_true hlt, i0, hy0, hk6, andA127 (show m < 256 by omega), p_cvi, show m % 128 = m by omega, hc127 m hm1, h7, shlAk hm1 hk5, orAadd ha hm1 hk5, hn2, decide_eq_true (show (m : Int) < 128 by omega), hm00, decide_eq_false (show ¬ (n : Int) > 1000000000000 by omega), w1, w2, ER]
      first | exact ⟨rfl, rfl, rfl⟩ | exact ⟨rfl, rfl⟩ | exact rfl
  · obtain ⟨g, rfl⟩ : ∃ g, f = g + 1 := by
      cases f with
      | zero => simp at hm; omega
      | succ g => exact ⟨g, rfl⟩
    rw [enc_ge hm1] at hd hlen
    have hy0 : ys[k] = ((m % 128 + 128 : Nat) : Int) := by simpa using (List.cons.inj hd).1
    have hd2 : ys.drop (k + 1) = enc g (m / 128) ++ post := (List.cons.inj hd).2
    have hm7 : m % 128 < 128 := Nat.mod_lt _ (by omega)
    have h256 : (m % 128 + 128) % 128 = m % 128 := by omega
    simp only [EV, EL, EB, EF, q_bx, if_true, if_false, Bool.false_eq_true, Nat.reduceAdd, Option.bind_some, Bool.not_true, Bool.not_false, Nat.reduceBEq, impl_ReadUvarint_r, impl_ReadUvarint_s0, decide_eq_true hlt, i0, hy0, hk6, andA127 (show m % 128 + 128 < 256 by omega), p_cvi, h256, hc127 _ hm7, h7, shlAk hm7 hk5, orAadd ha hm7 hk5, decide_eq_false (show ¬ ((m % 128 + 128 : Nat) : Int) < 128 by omega)]
    have hpk : 128 ^ (k + 1) = 128 ^ k * 128 := Nat.pow_succ 128 k
    have hmm : m / 128 < 128 ^ (g + 1) := Nat.div_lt_of_lt_mul (by rw [Nat.pow_succ, Nat.mul_comm] at hm; exact hm)
    have ha2 : a + 128 ^ k * (m % 128) < 128 ^ (k + 1) := by
      rw [hpk]
      have : 128 ^ k * (m % 128) ≤ 128 ^ k * 127 := Nat.mul_le_mul_left _ (by omega)
      omega
    have hs2 : a + 128 ^ k * (m % 128) + 128 ^ (k + 1) * (m / 128) = n := by
      rw [hpk, Nat.mul_assoc, Nat.add_assoc, ← Nat.mul_add, Nat.add_comm (m % 128), Nat.div_add_mod]; exact hsum
    exact ⟨(k + 1, g, m / 128, a + 128 ^ k * (m % 128)), ⟨by simp only; omega, hmm, ha2, hs2, fun _ => by simp only; omega, hd2, by simp only; rw [hlen, List.length_cons]; omega⟩, by simp only; omega, ⟨by rw [wN (by omega)]; simp [impl_ReadUvarint_s0, LeL, LeV], rfl, rfl⟩⟩

end Go.Proofs.Ytjohoameeeaafaa
