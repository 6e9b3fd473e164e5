import Derived.Test.YtjohoameeeaafaaR1K2
set_option linter.unusedVariables false
set_option linter.unusedSimpArgs false
namespace Go.Proofs.Ytjohoameeeaafaa
open Go.AM
set_option linter.unusedVariables false
set_option linter.unusedSimpArgs false
variable {Γ : Glob}
/-! The law of the keyed hash. -/
theorem laws_big_T (bs : List Int) (h : AH) : T Try.prog Γ Fn.laws_big [.vs false 1 false (bs.map fun n => [.int .u8 n])] h fun v h' => v = .bool (decide (1048576 < (bs.length : Int))) ∧ h' = h := by
  have L0 := len_vm false 1 false bs (fun n => [AV.int .u8 n])
  refine laws_big_e (aw_sound tabOK mixed [] _ _ _ ?_)
  unfold laws_big_c
  simp only [EV, EL, EB, EF, q_bx, if_true, if_false, Bool.false_eq_true, Nat.reduceAdd, Option.bind_some, Bool.not_true, Bool.not_false, Nat.reduceBEq, laws_big_r, L0]
  first | exact ⟨rfl, rfl⟩ | exact rfl
theorem wrapI {z : Int} (h0 : 0 ≤ z) (h1 : z < 9000000000000000000) : IntKind.i64.wrap z = z := by
  obtain ⟨m, rfl⟩ := Int.eq_ofNat_of_zero_le h0
  exact wrap_nat (by omega) (by omega)
theorem laws_at_T (bs : List Int) (hb : bs.length ≤ 1048576) (hr : ∀ x ∈ bs, 0 ≤ x ∧ x < 256) (i : Nat) (hi : i ≤ 1048576) (h : AH) : T Try.prog Γ Fn.laws_at [.vs false 1 false (bs.map fun n => [.int .u8 n]), .int .i64 i] h fun v h' => (∃ x : Int, v = .int .i64 x ∧ 0 ≤ x ∧ x ≤ 255) ∧ h' = h := by
  have L0 := len_vm false 1 false bs (fun n => [AV.int .u8 n])
  refine laws_at_e (aw_sound tabOK mixed [] _ _ _ ?_)
  unfold laws_at_c
  by_cases hlt : i < bs.length
  · have i0 := idx_vm (β := false) (sz := 1) (ex := false) (ce := fun n => [AV.int .u8 n]) hlt
    have hx := hr bs[i] (List.getElem_mem hlt)
    simp only [EV, EL, EB, EF, q_bx, if_true, if_false, Bool.false_eq_true, Nat.reduceAdd, Option.bind_some, Bool.not_true, Bool.not_false, Nat.reduceBEq, laws_at_r, L0, i0, decide_eq_true (show (i : Int) < (bs.length : Int) by omega), p_cvi, wrapI hx.1 (by omega)]
    first | exact ⟨rfl, ⟨_, rfl, hx.1, by omega⟩, rfl⟩ | exact ⟨rfl, _, rfl, hx.1, by omega⟩ | exact ⟨⟨_, rfl, hx.1, by omega⟩, rfl⟩ | exact ⟨_, rfl, hx.1, by omega⟩
  · have w1 : IntKind.i64.wrap ((i : Int) * 31) = (i : Int) * 31 := wrapI (by omega) (by omega)
    have w2 : IntKind.i64.wrap ((bs.length : Int) * 7) = (bs.length : Int) * 7 := wrapI (by omega) (by omega)
    have w3 : IntKind.i64.wrap ((i : Int) * 31 + (bs.length : Int) * 7) = (i : Int) * 31 + (bs.length : Int) * 7 := wrapI (by omega) (by omega)
    simp only [EV, EL, EB, EF, q_bx, if_true, if_false, Bool.false_eq_true, Nat.reduceAdd, Option.bind_some, Bool.not_true, Bool.not_false, Nat.reduceBEq, laws_at_r, L0, decide_eq_false (show ¬ (i : Int) < (bs.length : Int) by omega), w1, w2, w3, rem_i _ _ _ (show (256 : Int) ≠ 0 by omega)]
    have h1 := Int.tmod_lt_of_pos ((i : Int) * 31 + (bs.length : Int) * 7) (show (0 : Int) < 256 by omega)
    have h2 := Int.tmod_nonneg (b := 256) (show 0 ≤ (i : Int) * 31 + (bs.length : Int) * 7 by omega)
    first | exact ⟨rfl, ⟨_, rfl, h2, by omega⟩, rfl⟩ | exact ⟨rfl, _, rfl, h2, by omega⟩ | exact ⟨⟨_, rfl, h2, by omega⟩, rfl⟩ | exact ⟨_, rfl, h2, by omega⟩
theorem impl_IsValidKey_T (x : Int) (h : AH) : T Try.prog Γ Fn.impl_IsValidKey [.int .i64 x] h fun v h' => v = .bool (inR x 1 2147483646) ∧ h' = h := by
  refine impl_IsValidKey_e (aw_sound tabOK mixed [] _ _ _ ?_)
  unfold impl_IsValidKey_c
  simp only [EV, EL, EB, EF, q_bx, if_true, if_false, Bool.false_eq_true, Nat.reduceAdd, Option.bind_some, Bool.not_true, Bool.not_false, Nat.reduceBEq, impl_IsValidKey_r]
  refine TCall.val (by simp only [EO]) (impl_in_T _ _ _ _) ?_
  simp only [EV, EL, EB, EF, q_bx, if_true, if_false, Bool.false_eq_true, Nat.reduceAdd, Option.bind_some, Bool.not_true, Bool.not_false, Nat.reduceBEq, impl_IsValidKey_r]
  first | exact ⟨rfl, rfl⟩ | exact rfl
theorem spec_ModM_T (p : Int) (h : AH) : T Try.prog Γ Fn.spec_Mod [.int .i64 p, .int .i64 2147483647] h fun v h' => v = .int .i64 (p % 2147483647) ∧ h' = h := by
  have h1 := Int.tmod_lt_of_pos p (show (0 : Int) < 2147483647 by omega)
  have h2 := Int.lt_tmod_of_pos p (show (0 : Int) < 2147483647 by omega)
  have hw : IntKind.i64.wrap (p.tmod 2147483647 + 2147483647) = p.tmod 2147483647 + 2147483647 := wrapI (by omega) (by omega)
  refine spec_Mod_e (aw_sound tabOK mixed [] _ _ _ ?_)
  unfold spec_Mod_c
  simp only [EV, EL, EB, EF, q_bx, if_true, if_false, Bool.false_eq_true, Nat.reduceAdd, Option.bind_some, Bool.not_true, Bool.not_false, Nat.reduceBEq, spec_Mod_r]
  refine TCall.val (by simp only [EO]) (spec_l1In_Td _ _ _ _) ?_
  simp only [EV, EL, EB, EF, q_bx, if_true, if_false, Bool.false_eq_true, Nat.reduceAdd, Option.bind_some, Bool.not_true, Bool.not_false, Nat.reduceBEq, spec_Mod_r, show inRd 2147483647 1 1000000000000 = true from rfl, rem_i _ _ _ (show (2147483647 : Int) ≠ 0 by omega), hw, tmod_tmod]
  first | exact ⟨rfl, rfl⟩ | exact rfl
theorem impl_BytesToInts_T (β : Bool) (l : List Int) (hl : l.length ≤ 1048576) (h : AH) : T Try.prog Γ Fn.impl_BytesToInts [.vs β 1 false (l.map fun n => [.int .u8 n])] h (Fresh h [.c (.sl 1 (icd ((l.length : Int) :: l.map IntKind.i64.wrap)))]) := by
  refine T.freshC ?_
  have L0 := len_vm β 1 false l (fun n => [AV.int .u8 n])
  refine impl_BytesToInts_e (aw_sound tabOK mixed [] _ _ _ ?_)
  unfold impl_BytesToInts_c
  simp only [EV, EL, EB, EF, q_bx, if_true, if_false, Bool.false_eq_true, Nat.reduceAdd, Option.bind_some, Bool.not_true, Bool.not_false, Nat.reduceBEq, impl_BytesToInts_r, L0, EA]
  have o0 := int1_own h l.length
  refine loopI tabOK mixed [] (fun y : Nat × AV × AH × List Nat => y.1 ≤ l.length ∧ Own y.2.2.1 y.2.1 (.sl 1 (icd ((l.length : Int) :: (l.take y.1).map IntKind.i64.wrap))) y.2.2.2 ∧ y.2.2.2.Nodup ∧ (∀ c ∈ y.2.2.2, h.length ≤ c) ∧ HExt h y.2.2.1) (fun y => l.length - y.1)
    (fun y => impl_BytesToInts_s0 y.2.1 (.vs β 1 false (l.map fun n => [.int .u8 n])) (.int .i64 l.length) (.int .i64 y.1) [] y.2.2.1) (0, _, _, [h.length]) ⟨by simp, by simpa using o0, by simp, by simp, HExt.app _ _⟩ ⟨by simp [impl_BytesToInts_s0, LeL, LeV], rfl, rfl⟩ ?_
  rintro ⟨k, w, H2, f2⟩ ⟨hk, o2, n2, b2, e2⟩
  simp only at hk o2 n2 b2 e2
  obtain ⟨d1, d2, d3, d4⟩ := o2.cell
  simp only [EV, EL, EB, EF, q_bx, if_true, if_false, Bool.false_eq_true, Nat.reduceAdd, Option.bind_some, Bool.not_true, Bool.not_false, Nat.reduceBEq, impl_BytesToInts_r, impl_BytesToInts_s0]
  refine c_split (fun hlt => ?_) (fun hge => ?_)
  · have hlt : k < l.length := by simpa using hlt
    have i0 := idx_vm (β := β) (sz := 1) (ex := false) (ce := fun n => [AV.int .u8 n]) hlt
    obtain ⟨v', H', fp', ea, o', nd', hf', hl', hm'⟩ := app_ext (bytes := 8) o2 (f2 := []) (by simpa using n2) (by omega) (ys := [.int .i64 (IntKind.i64.wrap l[k])]) rfl (row := [.i .i64 (IntKind.i64.wrap l[k])]) (OwnL.i (show OwnL H2 [] [] [] from rfl)) (by simp only [icd, List.length_map, List.length_cons, List.length_take, maxMade]; omega)
    have eh := e2.upd hl' hf' b2
    have := e2.len
    have ht : l.take (k + 1) = l.take k ++ [l[k]] := List.take_succ_eq_append_getElem hlt
    have hb' : ∀ c ∈ fp', h.length ≤ c := fun c hc => by
      rcases hm' c hc with g | g | g
      · exact b2 c g
      · simp at g
      · omega
    have eL : icd ((l.length : Int) :: (l.take (k + 1)).map IntKind.i64.wrap) = icd ((l.length : Int) :: (l.take k).map IntKind.i64.wrap) ++ [[.i .i64 (IntKind.i64.wrap l[k])]] := by simp only [ht, icd, List.map_append, List.map_cons, List.map_nil, List.cons_append]
    simp only [EV, EL, EB, EF, q_bx, if_true, if_false, Bool.false_eq_true, Nat.reduceAdd, Option.bind_some, Bool.not_true, Bool.not_false, Nat.reduceBEq, impl_BytesToInts_r, i0, p_cvi, EA, ea]
    exact ⟨(k + 1, v', H', fp'), ⟨hlt, by have := o'; rw [← eL] at this; exact this, nd', hb', eh⟩, by simp only; omega, ⟨by rw [wN (by omega)]; simp [impl_BytesToInts_s0, LeL, LeV], rfl, rfl⟩⟩
  · have hge : k = l.length := by simp at hge; omega
    subst hge
    simp only [EV, EL, EB, EF, q_bx, if_true, if_false, Bool.false_eq_true, Nat.reduceAdd, Option.bind_some, Bool.not_true, Bool.not_false, Nat.reduceBEq, impl_BytesToInts_r]
    rw [List.take_length] at o2
    obtain ⟨N, rfl⟩ := e2.out
    exact ⟨o2.outOK, N, f2, rfl, o2, n2, b2⟩
theorem bytesV (β : Bool) (l : List Int) (hl : l.length ≤ 1048576) (h : AH) : T Try.prog Γ Fn.impl_BytesToInts [.vs β 1 false (l.map fun n => [.int .u8 n])] h fun v h' => v = .vs false 1 false (ints ((l.length : Int) :: l.map IntKind.i64.wrap)) ∧ h' = h := by
  have := (impl_BytesToInts_T (Γ := Γ) β l hl h).frozen
  simpa only [List.map_cons, List.map_nil, resOf_1, resOf_2, rd_c, rd_a, CD.av_sl, CD.av_i, CD.av_b, CD.av_s, List.map_map, Function.comp_def] using this
theorem impl_Derive_T (k : Int) (s : ByteArray) (hs : s.size ≤ 4) (h : AH) : T Try.prog Γ Fn.impl_DeriveFromString [.int .i64 k, .str s] h fun v h' => (∃ x : Int, v = .int .i64 x ∧ 1 ≤ x ∧ x < 2147483647) ∧ h' = h := by
  refine (?_ : T Try.prog Γ Fn.impl_DeriveFromString _ h fun v h' => v = .int .i64 (max (hashF (k :: (((bytesI s).length : Int) :: (bytesI s).map IntKind.i64.wrap ++ [k]))) 1) ∧ ∃ N, h' = h ++ N).drop (by
    rintro v h' ⟨rfl, N, rfl⟩
    have := hash_b (k :: (((bytesI s).length : Int) :: (bytesI s).map IntKind.i64.wrap ++ [k])) 11 (by omega) (by omega)
    exact ⟨N, rfl, .int _ _, ⟨_, rfl, by omega, by have := this.2; unfold hashF; omega⟩, rfl⟩)
  refine impl_DeriveFromString_e (aw_sound tabOK mixed [] _ _ _ ?_)
  unfold impl_DeriveFromString_c
  simp only [EV, EL, EB, EF, q_bx, if_true, if_false, Bool.false_eq_true, Nat.reduceAdd, Option.bind_some, Bool.not_true, Bool.not_false, Nat.reduceBEq, impl_DeriveFromString_r, p_cvb, cvbK_ok (show s.size ≤ maxMade by simp only [maxMade]; omega)]
  refine TCall.see (by simp only [EO]) (snap_c (Own.see (α := Int) (cd := fun n => [.i .u8 n]) (c := fun n => [AV.int .u8 n]) (l := bytesI s) (fun x => by simp [CD.av_i]) (bytes_own h s)) snap_n) (fun h => bytesV true (bytesI s) (by rw [bytesI_len]; omega) h) (ints_NB _ _) ?_
  simp only [EV, EL, EB, EF, q_bx, if_true, if_false, Bool.false_eq_true, Nat.reduceAdd, Option.bind_some, Bool.not_true, Bool.not_false, Nat.reduceBEq, impl_DeriveFromString_r]
  refine TCall.val (by simp only [EO]) (impl_KeyedHash_T false k (((bytesI s).length : Int) :: (bytesI s).map IntKind.i64.wrap) (by simp [bytesI_len]; omega) _) ?_
  simp only [EV, EL, EB, EF, q_bx, if_true, if_false, Bool.false_eq_true, Nat.reduceAdd, Option.bind_some, Bool.not_true, Bool.not_false, Nat.reduceBEq, impl_DeriveFromString_r, p_mm, mm_max]
  first | exact ⟨rfl, rfl, _, rfl⟩ | exact ⟨rfl, _, rfl⟩
/-! ### Hashes of lists that differ at one place -/
theorem inv_mul {d q : Int} (h : d * 1000003 = 2147483647 * q) : d = 2147483647 * (q * 1523789695 - d * 709572) := by omega
theorem inj_a {a b w r q1 q2 : Int} (e1 : r + 2147483647 * q1 = a * 1000003 + w + 13) (e2 : r + 2147483647 * q2 = b * 1000003 + w + 13) : (a - b) * 1000003 = 2147483647 * (q1 - q2) := by omega
theorem inj_b {d t : Int} (ht : d = 2147483647 * t) (ha : d < 2147483647) (hb : -2147483647 < d) : d = 0 := by omega
theorem inj_aux {a b w r q1 q2 : Int} (e1 : r + 2147483647 * q1 = a * 1000003 + w + 13) (e2 : r + 2147483647 * q2 = b * 1000003 + w + 13) (ha : 0 ≤ a) (ha' : a < 2147483647) (hb : 0 ≤ b) (hb' : b < 2147483647) : a = b := by
  have h1 : a - b < 2147483647 := by clear e1 e2; omega
  have h2 : -2147483647 < a - b := by clear e1 e2; omega
  have h3 := inj_b (inv_mul (inj_a e1 e2)) h1 h2
  clear e1 e2
  omega
theorem hashS_inj {a b v : Int} (ha : 0 ≤ a) (ha' : a < 2147483647) (hb : 0 ≤ b) (hb' : b < 2147483647) (h : hashS a v = hashS b v) : a = b := by
  have e1 := Int.emod_add_mul_ediv (a * 1000003 + v % 2147483647 + 13) 2147483647
  have e2 := Int.emod_add_mul_ediv (b * 1000003 + v % 2147483647 + 13) 2147483647
  unfold hashS at h
  rw [h] at e1
  exact inj_aux e1 e2 ha ha' hb hb'
theorem fold_inj : ∀ (l : List Int) {a b : Int}, 0 ≤ a → a < 2147483647 → 0 ≤ b → b < 2147483647 → l.foldl hashS a = l.foldl hashS b → a = b
  | [], a, b, _, _, _, _, h => h
  | v :: l, a, b, ha, ha', hb, hb', h => by
    have := fold_inj l (a := hashS a v) (b := hashS b v) (by unfold hashS; omega) (by unfold hashS; omega) (by unfold hashS; omega) (by unfold hashS; omega) h
    exact hashS_inj ha ha' hb hb' this
theorem hash_ne {k : Int} {l : List Int} {i : Nat} (hi : i < l.length) {x : Int} (hx : x % 2147483647 ≠ l[i] % 2147483647) : hashF (k :: ((l.set i x) ++ [k])) ≠ hashF (k :: (l ++ [k])) := by
  intro h
  have e1 : l = l.take i ++ l[i] :: l.drop (i + 1) := by rw [List.getElem_cons_drop, List.take_append_drop]
  have e2 : l.set i x = l.take i ++ x :: l.drop (i + 1) := by rw [List.set_eq_take_append_cons_drop, if_pos hi]
  have b1 := hash_b (l.take i) (hashS 11 k) (by unfold hashS; omega) (by unfold hashS; omega)
  have h : ((x :: l.drop (i + 1)) ++ [k]).foldl hashS ((l.take i).foldl hashS (hashS 11 k)) = ((l[i] :: l.drop (i + 1)) ++ [k]).foldl hashS ((l.take i).foldl hashS (hashS 11 k)) := by
    have h' : (((l.take i ++ x :: l.drop (i + 1))) ++ [k]).foldl hashS (hashS 11 k) = ((l.take i ++ l[i] :: l.drop (i + 1)) ++ [k]).foldl hashS (hashS 11 k) := by rw [← e1, ← e2]; exact h
    rw [List.append_assoc (l.take i), List.append_assoc (l.take i), List.foldl_append (l := l.take i), List.foldl_append (l := l.take i)] at h'
    exact h'
  generalize (l.take i).foldl hashS (hashS 11 k) = s at *
  have := fold_inj (l.drop (i + 1) ++ [k]) (a := hashS s x) (b := hashS s l[i]) (by unfold hashS; omega) (by unfold hashS; omega) (by unfold hashS; omega) (by unfold hashS; omega) h
  unfold hashS at this
  omega
set_option maxRecDepth 100000 in
theorem law_FnKeyedHash (bs : List Int) (hb : bs.length ≤ maxLen) (hr : ∀ x ∈ bs, 0 ≤ x ∧ x < 256) (h : AH) : T Try.prog Γ Fn.laws_FnKeyedHash [.vs false 1 false (bs.map fun n => [.int .u8 n])] h fun v h' => v = .bool true ∧ h' = h := by
  refine (?_ : T Try.prog Γ Fn.laws_FnKeyedHash _ h fun v h' => v = .bool true ∧ ∃ N, h' = h ++ N).drop (by rintro v h' ⟨rfl, N, rfl⟩; exact ⟨N, rfl, .bool _, rfl, rfl⟩)
  refine laws_FnKeyedHash_e (aw_sound tabOK mixed [] _ _ _ ?_)
  unfold laws_FnKeyedHash_c
  simp only [EV, EL, EB, EF, q_bx, if_true, if_false, Bool.false_eq_true, Nat.reduceAdd, Option.bind_some, Bool.not_true, Bool.not_false, Nat.reduceBEq, laws_FnKeyedHash_r, laws_FnKeyedHash_d0_q]
  refine TCall.val (by simp only [EO]) (laws_big_T bs _) ?_
  by_cases nb : 1048576 < (bs.length : Int)
  · simp only [EV, EL, EB, EF, q_bx, if_true, if_false, Bool.false_eq_true, Nat.reduceAdd, Option.bind_some, Bool.not_true, Bool.not_false, Nat.reduceBEq, laws_FnKeyedHash_r, laws_FnKeyedHash_d0_q, decide_eq_true nb]
    first | exact ⟨rfl, rfl, [], by simp⟩ | exact ⟨rfl, [], by simp⟩
  simp only [EV, EL, EB, EF, q_bx, if_true, if_false, Bool.false_eq_true, Nat.reduceAdd, Option.bind_some, Bool.not_true, Bool.not_false, Nat.reduceBEq, laws_FnKeyedHash_r, laws_FnKeyedHash_d0_q, decide_eq_false nb]
  refine TCall.ref (by simp only [EO]) (drawKeyed_V bs (by omega) _) ?_
  rintro _ H ⟨⟨k, l, rfl, hl, hw⟩, e⟩
  replace e : H = h := e
  subst e
  simp only [EV, EL, EB, EF, q_bx, if_true, if_false, Bool.false_eq_true, Nat.reduceAdd, Option.bind_some, Bool.not_true, Bool.not_false, Nat.reduceBEq, laws_FnKeyedHash_r, laws_FnKeyedHash_d0_q, ER]
  refine TCall.val (by simp only [EO]) (impl_KeyedHash_T false k l (by omega) _) ?_
  have hb0 := hash_b (k :: (l ++ [k])) 11 (by omega) (by omega)
  have hx0 : 0 ≤ hashF (k :: (l ++ [k])) := hb0.1
  have hx1 : hashF (k :: (l ++ [k])) < 2147483647 := hb0.2
  have o1 := int1_own H k
  obtain ⟨v2, H2, fp2, ea2, o2, nd2, hf2, hl2, hm2⟩ := app_vs (β := false) (bytes := 8) (l := l) (c := fun n => [AV.int .i64 n]) (cd := fun n => [CD.i .i64 n]) o1 (by simp) (by omega) (fun x => ⟨rfl, rfl⟩) (fun x => by simp [CD.av_i]) (by simp only [List.length_cons, List.length_nil, maxMade]; omega)
  have x2 : HExt H H2 := (HExt.app H _).upd hl2 hf2 (by simp)
  have b2 : ∀ c ∈ fp2, H.length ≤ c := fun c hc => by
    rcases hm2 c hc with g | g
    · simp at g; omega
    · simp at g; omega
  obtain ⟨a1, a2, a3, a4⟩ := o2.cell
  obtain ⟨v3, H3, fp3, ea3, o3, nd3, hf3, hl3, hm3⟩ := app_ext (bytes := 8) o2 (f2 := []) (by simpa using nd2) (by omega) (ys := [.int .i64 k]) rfl (row := [.i .i64 k]) (OwnL.i (show OwnL H2 [] [] [] from rfl)) (by simp only [List.length_append, List.length_map, List.length_cons, List.length_nil, maxMade]; omega)
  have x3 : HExt H H3 := x2.upd hl3 hf3 b2
  obtain ⟨g1, g2, g3, g4⟩ := o3.cell
  have e3 : ([[CD.i .i64 k]] ++ l.map (fun n => [CD.i .i64 n])) ++ [[CD.i .i64 k]] = (k :: (l ++ [k])).map fun n => [CD.i .i64 n] := by simp
  rw [e3] at o3
  simp only [EV, EL, EB, EF, q_bx, if_true, if_false, Bool.false_eq_true, Nat.reduceAdd, Option.bind_some, Bool.not_true, Bool.not_false, Nat.reduceBEq, laws_FnKeyedHash_r, laws_FnKeyedHash_d0_q, EA, decide_eq_false (show ¬ hashF (k :: (l ++ [k])) < 0 by omega), decide_eq_false (show ¬ hashF (k :: (l ++ [k])) ≥ 2147483647 by omega), ea2, ea3]
  refine TCall.see (by simp only [EO, g4]) (snap_c (Own.see (c := fun n => [AV.int .i64 n]) (fun x => by simp [CD.av_i]) o3) snap_n) (fun h => impl_Hash_T true (k :: (l ++ [k])) (by simp; omega) h) (.int _ _) ?_
  simp only [EV, EL, EB, EF, q_bx, if_true, if_false, Bool.false_eq_true, Nat.reduceAdd, Option.bind_some, Bool.not_true, Bool.not_false, Nat.reduceBEq, laws_FnKeyedHash_r, laws_FnKeyedHash_d0_q, ne_int, decide_true]
  have L0 := len_vm false 1 false l (fun n => [AV.int .i64 n])
  by_cases hl0 : (l.length : Int) > 0
  rotate_left
  · simp only [EV, EL, EB, EF, q_bx, if_true, if_false, Bool.false_eq_true, Nat.reduceAdd, Option.bind_some, Bool.not_true, Bool.not_false, Nat.reduceBEq, laws_FnKeyedHash_r, laws_FnKeyedHash_d0_q, L0, decide_eq_false hl0]
    refine TCall.ref (by simp only [EO]) (drawDerive_V bs (by omega) _) ?_
    rintro _ H9 ⟨⟨k9, s9, rfl, hs9⟩, e9⟩
    simp only [EV, EL, EB, EF, q_bx, if_true, if_false, Bool.false_eq_true, Nat.reduceAdd, Option.bind_some, Bool.not_true, Bool.not_false, Nat.reduceBEq, laws_FnKeyedHash_r, laws_FnKeyedHash_d0_q, ER]
    refine TCall.ref (by simp only [EO]) (impl_Derive_T k9 s9 hs9 _) ?_
    rintro _ H8 ⟨⟨y, rfl, y0, y1⟩, e8⟩
    simp only [EV, EL, EB, EF, q_bx, if_true, if_false, Bool.false_eq_true, Nat.reduceAdd, Option.bind_some, Bool.not_true, Bool.not_false, Nat.reduceBEq, laws_FnKeyedHash_r, laws_FnKeyedHash_d0_q]
    refine TCall.val (by simp only [EO]) (impl_IsValidKey_T _ _) ?_
    simp only [EV, EL, EB, EF, q_bx, if_true, if_false, Bool.false_eq_true, Nat.reduceAdd, Option.bind_some, Bool.not_true, Bool.not_false, Nat.reduceBEq, laws_FnKeyedHash_r, laws_FnKeyedHash_d0_q]
    have hy : inR y 1 2147483646 = true := by simp [inR]; omega
    obtain ⟨N, hN⟩ := x3.out
    exact ⟨rfl, by rw [hy], N, (e8.trans e9).trans hN⟩
  obtain ⟨v5, H5, fp5, ea5, o5, nd5, hf5, hl5, hm5⟩ := app_vs (β := false) (bytes := 8) (l := l) (c := fun n => [AV.int .i64 n]) (cd := fun n => [CD.i .i64 n]) (bsl0_own H3 1) (by simp) (by omega) (fun x => ⟨rfl, rfl⟩) (fun x => by simp [CD.av_i]) (by simp only [List.length_nil, maxMade]; omega)
  rw [List.nil_append] at o5
  have x35 : HExt H3 H5 := (HExt.app H3 _).upd hl5 hf5 (by simp)
  have b5 : ∀ c ∈ fp5, H3.length ≤ c := fun c hc => by
    rcases hm5 c hc with g | g
    · simp at g; omega
    · simp at g; omega
  obtain ⟨q1, q2, q3, q4⟩ := o5.cell
  have L5 := (len_own o5).2
  rw [List.length_map] at L5
  simp only [EV, EL, EB, EF, q_bx, if_true, if_false, Bool.false_eq_true, Nat.reduceAdd, Option.bind_some, Bool.not_true, Bool.not_false, Nat.reduceBEq, laws_FnKeyedHash_r, laws_FnKeyedHash_d0_q, L0, decide_eq_true hl0, EA, ea5]
  refine TCall.ref (by simp only [EO]) (laws_at_T bs (by omega) hr 0 (by omega) _) ?_
  rintro _ H6 ⟨⟨x, rfl, x0, xm⟩, e6⟩
  replace e6 : H6 = H5 := e6
  subst e6
  obtain ⟨r, er, r0, r1⟩ := rem_ex x0 (show (0 : Int) < l.length by omega)
  obtain ⟨i, rfl⟩ : ∃ i : Nat, r = i := ⟨r.toNat, by omega⟩
  have hi : i < l.length := by omega
  have hwi := hw l[i] (List.getElem_mem hi)
  unfold wordOK at hwi
  obtain ⟨p1, i1, i2⟩ := own_int o5 hi
  simp only [EV, EL, EB, EF, q_bx, if_true, if_false, Bool.false_eq_true, Nat.reduceAdd, Option.bind_some, Bool.not_true, Bool.not_false, Nat.reduceBEq, laws_FnKeyedHash_r, laws_FnKeyedHash_d0_q, L5, er, i1, i2, wrapI (show 0 ≤ l[i] + 1 by omega) (by omega)]
  refine TCall.ref (by simp only [EO]) (laws_at_T bs (by omega) hr 1 (by omega) _) ?_
  rintro _ H7 ⟨⟨a, rfl, a0, am⟩, e7⟩
  replace e7 : H7 = H6 := e7
  subst e7
  simp only [EV, EL, EB, EF, q_bx, if_true, if_false, Bool.false_eq_true, Nat.reduceAdd, Option.bind_some, Bool.not_true, Bool.not_false, Nat.reduceBEq, laws_FnKeyedHash_r, laws_FnKeyedHash_d0_q, wrapI (show 0 ≤ l[i] + 1 + a by omega) (by omega)]
  refine TCall.val (by simp only [EO]) (spec_ModM_T _ _) ?_
  have hm0 : 0 ≤ (l[i] + 1 + a) % 2147483647 := Int.emod_nonneg _ (by omega)
  have hme : (l[i] + 1 + a) % 2147483647 % 2147483647 ≠ l[i] % 2147483647 := by omega
  generalize (l[i] + 1 + a) % 2147483647 = z at hm0 hme
  obtain ⟨p2, H10, j1, j2, o6, hl6, hf6⟩ := set_int o5 hi z
  have x36 : HExt H3 H10 := x35.mark hl6 hf6 b5
  have hne := hash_ne (k := k) hi hme
  obtain ⟨t1, t2, t3, t4⟩ := o6.cell
  simp only [EV, EL, EB, EF, q_bx, if_true, if_false, Bool.false_eq_true, Nat.reduceAdd, Option.bind_some, Bool.not_true, Bool.not_false, Nat.reduceBEq, laws_FnKeyedHash_r, laws_FnKeyedHash_d0_q, j1, j2]
  refine TCall.see (by simp only [EO, t4]) (snap_c (.same _) (snap_c (Own.see (c := fun n => [AV.int .i64 n]) (fun x => by simp [CD.av_i]) o6) snap_n)) (fun h => impl_KeyedHash_T true k (l.set i z) (by simp; omega) h) (.int _ _) ?_
  simp only [EV, EL, EB, EF, q_bx, if_true, if_false, Bool.false_eq_true, Nat.reduceAdd, Option.bind_some, Bool.not_true, Bool.not_false, Nat.reduceBEq, laws_FnKeyedHash_r, laws_FnKeyedHash_d0_q, beq_dec, decide_eq_false hne]
  refine TCall.ref (by simp only [EO]) (drawDerive_V bs (by omega) _) ?_
  rintro _ H9 ⟨⟨k9, s9, rfl, hs9⟩, e9⟩
  simp only [EV, EL, EB, EF, q_bx, if_true, if_false, Bool.false_eq_true, Nat.reduceAdd, Option.bind_some, Bool.not_true, Bool.not_false, Nat.reduceBEq, laws_FnKeyedHash_r, laws_FnKeyedHash_d0_q, ER]
  refine TCall.ref (by simp only [EO]) (impl_Derive_T k9 s9 hs9 _) ?_
  rintro _ H8 ⟨⟨y, rfl, y0, y1⟩, e8⟩
  simp only [EV, EL, EB, EF, q_bx, if_true, if_false, Bool.false_eq_true, Nat.reduceAdd, Option.bind_some, Bool.not_true, Bool.not_false, Nat.reduceBEq, laws_FnKeyedHash_r, laws_FnKeyedHash_d0_q]
  refine TCall.val (by simp only [EO]) (impl_IsValidKey_T _ _) ?_
  simp only [EV, EL, EB, EF, q_bx, if_true, if_false, Bool.false_eq_true, Nat.reduceAdd, Option.bind_some, Bool.not_true, Bool.not_false, Nat.reduceBEq, laws_FnKeyedHash_r, laws_FnKeyedHash_d0_q]
  have hy : inR y 1 2147483646 = true := by simp [inR]; omega
  obtain ⟨N, hN⟩ := (x3.trans x36).out
  exact ⟨rfl, by rw [hy], N, (e8.trans e9).trans hN⟩

end Go.Proofs.Ytjohoameeeaafaa
