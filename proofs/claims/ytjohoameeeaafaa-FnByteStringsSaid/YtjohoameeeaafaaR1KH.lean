import Derived.Test.YtjohoameeeaafaaR1SI
import Derived.Test.YtjohoameeeaafaaR1DR
import Derived.Test.YtjohoameeeaafaaAmCat
set_option linter.unusedVariables false
set_option linter.unusedSimpArgs false
namespace Go.Proofs.Ytjohoameeeaafaa
open Go.AM
set_option linter.unusedVariables false
set_option linter.unusedSimpArgs false
variable {Γ : Glob}
/-! slices.Concat, the hash. -/
theorem grow_T (n : Nat) (hn : n ≤ 68719476736) (H : AH) : T Try.prog Γ Fn.slices_Grow_iint_int [.nils, .int .i64 n] H fun v h' => ∃ fp, Own h' v (.sl 1 []) fp ∧ fp.Nodup ∧ (∀ c ∈ fp, H.length ≤ c) ∧ HExt H h' := by
  refine slices_Grow_iint_int_e (aw_sound tabOK mixed [] _ _ _ ?_)
  unfold slices_Grow_iint_int_c
  by_cases h0 : 0 < n
  · simp only [EV, EL, EB, EF, q_bx, if_true, if_false, Bool.false_eq_true, Nat.reduceAdd, Option.bind_some, Bool.not_true, Bool.not_false, Nat.reduceBEq, slices_Grow_iint_int_r, p_cap, cap_n, lenI_n, decide_eq_false (show ¬ (n : Int) < 0 by omega), show IntKind.i64.wrap ((0 : Int) - 0) = 0 from rfl, show IntKind.i64.wrap ((n : Int) - 0) = n from by rw [Int.sub_zero]; exact wrap_nat (by omega) (by omega), decide_eq_true (show (n : Int) > 0 by omega), p_cutTo, cut_nil, p_appz, appz_ok h0 (show 0 < 1 by omega) (show n * (1 + 8) ≤ maxMade by simp only [maxMade]; omega) (show [AV.int .i64 0].all noLp = true from rfl), cut_gs0]
    have o := zeros_own H (n := n) (sz := 1) (z := [AV.int .i64 0]) rfl (by intro x hx; simp at hx; subst hx; exact .i _ _)
    exact ⟨o.outOK, _, o, by simp, by simp, HExt.app _ _⟩
  · have : n = 0 := by omega
    subst this
    simp only [EV, EL, EB, EF, q_bx, if_true, if_false, Bool.false_eq_true, Nat.reduceAdd, Option.bind_some, Bool.not_true, Bool.not_false, Nat.reduceBEq, slices_Grow_iint_int_r, p_cap, cap_n, lenI_n, decide_eq_false (show ¬ ((0 : Nat) : Int) < 0 by omega), show IntKind.i64.wrap ((0 : Int) - 0) = 0 from rfl, show IntKind.i64.wrap (((0 : Nat) : Int) - 0) = 0 from rfl, decide_eq_false (show ¬ (0 : Int) > 0 by omega)]
    exact ⟨rfl, [], .nil _, by simp, by simp, HExt.refl _⟩

abbrev ints (l : List Int) : List (List AV) := l.map fun n => [.int .i64 n]
abbrev icd (l : List Int) : List (List CD) := l.map fun n => [.i .i64 n]
/-- The row of a list of lists. -/
abbrev lrow (p : Bool × List Int) : List AV := [.vs p.1 1 false (ints p.2)]
def tot (ls : List (Bool × List Int)) (k : Nat) : List Int := (ls.take k).flatMap (·.2)
theorem tot_s {ls : List (Bool × List Int)} {k : Nat} (hk : k < ls.length) : tot ls (k + 1) = tot ls k ++ ls[k].2 := by
  unfold tot; rw [List.take_succ_eq_append_getElem hk, List.flatMap_append, List.flatMap_singleton]
theorem tot_le (ls : List (Bool × List Int)) (k : Nat) : (tot ls k).length ≤ (ls.flatMap (·.2)).length := by
  have : ls.flatMap (·.2) = tot ls k ++ (ls.drop k).flatMap (·.2) := by unfold tot; rw [← List.flatMap_append, List.take_append_drop]
  rw [this]; simp
theorem concat_T (β : Bool) (ls : List (Bool × List Int)) (hl : (ls.flatMap (·.2)).length ≤ 68719476736) (hl2 : ls.length ≤ 1099511627776) (h : AH) : T Try.prog Γ Fn.slices_Concat_iint_int [.vs β 1 false (ls.map lrow)] h (Fresh h [.c (.sl 1 (icd (ls.flatMap (·.2))))]) := by
  refine T.freshC ?_
  have L0 := len_vm β 1 false ls lrow
  refine slices_Concat_iint_int_e (aw_sound tabOK mixed [] _ _ _ ?_)
  unfold slices_Concat_iint_int_c
  simp only [EV, EL, EB, EF, q_bx, if_true, if_false, Bool.false_eq_true, Nat.reduceAdd, Option.bind_some, Bool.not_true, Bool.not_false, Nat.reduceBEq, slices_Concat_iint_int_r, L0]
  refine loopI tabOK mixed [] (fun k : Nat => k ≤ ls.length) (fun k => ls.length - k)
    (fun k => slices_Concat_iint_int_s0 (.vs β 1 false (ls.map lrow)) (.int .i64 (tot ls k).length) (.vs β 1 false (ls.map lrow)) (.int .i64 ls.length) (.int .i64 k) [] h) 0 (by omega) ⟨by simp [slices_Concat_iint_int_s0, LeL, LeV, tot], rfl, rfl⟩ ?_
  rintro k hk
  simp only [EV, EL, EB, EF, q_bx, if_true, if_false, Bool.false_eq_true, Nat.reduceAdd, Option.bind_some, Bool.not_true, Bool.not_false, Nat.reduceBEq, slices_Concat_iint_int_r, slices_Concat_iint_int_s0]
  refine c_split (fun hlt => ?_) (fun hge => ?_)
  · have hlt : k < ls.length := by simpa using hlt
    have i0 := idx_vm (β := β) (sz := 1) (ex := false) (ce := lrow) hlt
    have L1 := len_vm ls[k].1 1 false ls[k].2 (fun n => [AV.int .i64 n])
    have ht := tot_s hlt
    have hle := tot_le ls (k + 1)
    have hll : (tot ls (k + 1)).length = (tot ls k).length + ls[k].2.length := by rw [ht]; simp
    have hw : IntKind.i64.wrap (((tot ls k).length : Int) + (ls[k].2.length : Int)) = ((tot ls (k + 1)).length : Int) := by
      rw [hll, ← Int.natCast_add]; exact wrap_nat (by omega) (by omega)
    simp only [EV, EL, EB, EF, q_bx, if_true, if_false, Bool.false_eq_true, Nat.reduceAdd, Option.bind_some, Bool.not_true, Bool.not_false, Nat.reduceBEq, slices_Concat_iint_int_r, i0, L1, hw, decide_eq_false (show ¬ (((tot ls (k + 1)).length : Nat) : Int) < 0 by omega)]
    exact ⟨k + 1, hlt, by omega, ⟨by rw [wN (by omega)]; simp [slices_Concat_iint_int_s0, LeL, LeV], rfl, rfl⟩⟩
  have hge : k = ls.length := by simp at hge; omega
  subst hge
  have hN : tot ls ls.length = ls.flatMap (·.2) := by unfold tot; simp
  simp only [EV, EL, EB, EF, q_bx, if_true, if_false, Bool.false_eq_true, Nat.reduceAdd, Option.bind_some, Bool.not_true, Bool.not_false, Nat.reduceBEq, slices_Concat_iint_int_r, L0]
  refine TCall.ref (by simp only [EO]) (grow_T _ (by rw [hN]; exact hl) _) ?_
  rintro v H1 ⟨fp, o1, nd, hb, e1⟩
  replace e1 : HExt h H1 := e1
  replace hb : ∀ c ∈ fp, h.length ≤ c := hb
  obtain ⟨c1, c2, c3, c4⟩ := o1.cell
  simp only [EV, EL, EB, EF, q_bx, if_true, if_false, Bool.false_eq_true, Nat.reduceAdd, Option.bind_some, Bool.not_true, Bool.not_false, Nat.reduceBEq, slices_Concat_iint_int_r, L0]
  refine loopI tabOK mixed [] (fun y : Nat × AV × AH × List Nat => y.1 ≤ ls.length ∧ Own y.2.2.1 y.2.1 (.sl 1 (icd (tot ls y.1))) y.2.2.2 ∧ y.2.2.2.Nodup ∧ (∀ c ∈ y.2.2.2, h.length ≤ c) ∧ HExt h y.2.2.1) (fun y => ls.length - y.1)
    (fun y => slices_Concat_iint_int_s1 y.2.1 (.vs β 1 false (ls.map lrow)) (.int .i64 ls.length) (.int .i64 y.1) [] y.2.2.1) (0, v, H1, fp) ⟨by simp, by simpa [tot] using o1, nd, hb, e1⟩ ⟨by simp [slices_Concat_iint_int_s1, LeL, LeV], rfl, rfl⟩ ?_
  rintro ⟨k, w, H2, f2⟩ ⟨hk, o2, n2, b2, e2⟩
  simp only at hk o2 n2 b2 e2
  obtain ⟨d1, d2, d3, d4⟩ := o2.cell
  simp only [EV, EL, EB, EF, q_bx, if_true, if_false, Bool.false_eq_true, Nat.reduceAdd, Option.bind_some, Bool.not_true, Bool.not_false, Nat.reduceBEq, slices_Concat_iint_int_r, slices_Concat_iint_int_s1]
  refine c_split (fun hlt => ?_) (fun hge => ?_)
  · have hlt : k < ls.length := by simpa using hlt
    have i0 := idx_vm (β := β) (sz := 1) (ex := false) (ce := lrow) hlt
    have ht := tot_s hlt
    have hle := tot_le ls (k + 1)
    have hll : (tot ls (k + 1)).length = (tot ls k).length + ls[k].2.length := by rw [ht]; simp
    obtain ⟨v', H', fp', ea, o', nd', hf', hl', hm'⟩ := app_vs (β := ls[k].1) (bytes := 8) (l := ls[k].2) (c := fun n => [AV.int .i64 n]) (cd := fun n => [CD.i .i64 n]) o2 n2 (by omega) (fun x => ⟨rfl, rfl⟩) (fun x => by simp [CD.av_i]) (by simp only [List.length_map, maxMade]; omega)
    have eh := e2.upd hl' hf' b2
    simp only [EV, EL, EB, EF, q_bx, if_true, if_false, Bool.false_eq_true, Nat.reduceAdd, Option.bind_some, Bool.not_true, Bool.not_false, Nat.reduceBEq, slices_Concat_iint_int_r, i0, EA, ea]
    have := e2.len
    have hb' : ∀ c ∈ fp', h.length ≤ c := fun c hc => by
      rcases hm' c hc with g | g
      · exact b2 c g
      · omega
    exact ⟨(k + 1, v', H', fp'), ⟨hlt, by rw [ht, icd, List.map_append]; exact o', nd', hb', eh⟩, by simp only; omega, ⟨by rw [wN (by omega)]; simp [slices_Concat_iint_int_s1, LeL, LeV], rfl, rfl⟩⟩
  · have hge : k = ls.length := by simp at hge; omega
    subst hge
    simp only [EV, EL, EB, EF, q_bx, if_true, if_false, Bool.false_eq_true, Nat.reduceAdd, Option.bind_some, Bool.not_true, Bool.not_false, Nat.reduceBEq, slices_Concat_iint_int_r]
    rw [hN] at o2
    obtain ⟨N, rfl⟩ := e2.out
    exact ⟨o2.outOK, N, f2, rfl, o2, n2, b2⟩

/-! ### Hashes -/
def hashS (h v : Int) : Int := (h * 1000003 + v % 2147483647 + 13) % 2147483647
def hashF (l : List Int) : Int := l.foldl hashS 11
theorem hash_b (l : List Int) : ∀ h : Int, 0 ≤ h → h < 2147483647 → 0 ≤ l.foldl hashS h ∧ l.foldl hashS h < 2147483647 := by
  induction l with
  | nil => intro h h0 h1; exact ⟨h0, h1⟩
  | cons a l ih => intro h h0 h1; exact ih _ (by unfold hashS; omega) (by unfold hashS; omega)
theorem rem_i (k : IntKind) (a b : Int) (hb : b ≠ 0) : aBin .rem .num (.int k a) (.int k b) = some (.int k (a.tmod b)) := by
  simp [aBin, aArith, hb]
theorem tmod_pos {a b : Int} (ha : 0 ≤ a) : a.tmod b = a % b := Int.tmod_eq_emod_of_nonneg ha
theorem tmod_tmod (p : Int) : (p.tmod 2147483647 + 2147483647).tmod 2147483647 = p % 2147483647 := by
  have h1 := Int.tmod_lt_of_pos p (show (0 : Int) < 2147483647 by omega)
  have h2 : -2147483647 < p.tmod 2147483647 := by
    have := Int.lt_tmod_of_pos p (show (0 : Int) < 2147483647 by omega)
    omega
  have h3 : (2147483647 : Int) ∣ p - p.tmod 2147483647 := ⟨p.tdiv 2147483647, by have := Int.mul_tdiv_add_tmod p 2147483647; omega⟩
  rw [tmod_pos (by omega)]
  obtain ⟨q, hq⟩ := h3
  omega
theorem impl_Mod_T (p : Int) (h : AH) : T Try.prog Γ Fn.impl_Mod [.int .i64 p, .int .i64 2147483647] h fun v h' => v = .int .i64 (p % 2147483647) ∧ h' = h := by
  have h1 := Int.tmod_lt_of_pos p (show (0 : Int) < 2147483647 by omega)
  have h2 := Int.lt_tmod_of_pos p (show (0 : Int) < 2147483647 by omega)
  have hw : IntKind.i64.wrap (p.tmod 2147483647 + 2147483647) = p.tmod 2147483647 + 2147483647 := by
    obtain ⟨m, hm⟩ := Int.eq_ofNat_of_zero_le (show 0 ≤ p.tmod 2147483647 + 2147483647 by omega)
    rw [hm]; exact wrap_nat (by omega) (by omega)
  refine impl_Mod_e (aw_sound tabOK mixed [] _ _ _ ?_)
  unfold impl_Mod_c
  simp only [EV, EL, EB, EF, q_bx, if_true, if_false, Bool.false_eq_true, Nat.reduceAdd, Option.bind_some, Bool.not_true, Bool.not_false, Nat.reduceBEq, impl_Mod_r]
  refine TCall.val (by simp only [EO]) (impl_in_T _ _ _ _) ?_
  simp only [EV, EL, EB, EF, q_bx, if_true, if_false, Bool.false_eq_true, Nat.reduceAdd, Option.bind_some, Bool.not_true, Bool.not_false, Nat.reduceBEq, impl_Mod_r, show inR 2147483647 1 1000000000000 = true from rfl, rem_i _ _ _ (show (2147483647 : Int) ≠ 0 by omega), hw, tmod_tmod]
  first | exact ⟨rfl, rfl⟩ | exact rfl
theorem impl_Hash_T (β : Bool) (l : List Int) (hl : l.length ≤ 1099511627776) (h : AH) : T Try.prog Γ Fn.impl_Hash [.vs β 1 false (ints l)] h fun v h' => v = .int .i64 (hashF l) ∧ h' = h := by
  have L0 := len_vm β 1 false l (fun n => [AV.int .i64 n])
  refine impl_Hash_e (aw_sound tabOK mixed [] _ _ _ ?_)
  unfold impl_Hash_c
  simp only [EV, EL, EB, EF, q_bx, if_true, if_false, Bool.false_eq_true, Nat.reduceAdd, Option.bind_some, Bool.not_true, Bool.not_false, Nat.reduceBEq, impl_Hash_r, L0]
  refine loopI tabOK mixed [] (fun k : Nat => k ≤ l.length) (fun k => l.length - k)
    (fun k => impl_Hash_s0 (.int .i64 ((l.take k).foldl hashS 11)) (.vs β 1 false (ints l)) (.int .i64 l.length) (.int .i64 k) [] h) 0 (by omega) ⟨by simp [impl_Hash_s0, LeL, LeV], rfl, rfl⟩ ?_
  rintro k hk
  simp only [EV, EL, EB, EF, q_bx, if_true, if_false, Bool.false_eq_true, Nat.reduceAdd, Option.bind_some, Bool.not_true, Bool.not_false, Nat.reduceBEq, impl_Hash_r, impl_Hash_s0]
  refine c_split (fun hlt => ?_) (fun hge => ?_)
  · have hlt : k < l.length := by simpa using hlt
    have i0 := idx_vm (β := β) (sz := 1) (ex := false) (ce := fun n => [AV.int .i64 n]) hlt
    have hb := hash_b (l.take k) 11 (by omega) (by omega)
    have hs : (l.take (k + 1)).foldl hashS 11 = hashS ((l.take k).foldl hashS 11) l[k] := by rw [List.take_succ_eq_append_getElem hlt, List.foldl_append]; rfl
    generalize hx : (l.take k).foldl hashS 11 = x at *
    have hm0 : 0 ≤ l[k] % 2147483647 := Int.emod_nonneg _ (by omega)
    have hm1 : l[k] % 2147483647 < 2147483647 := Int.emod_lt_of_pos _ (by omega)
    generalize hy : l[k] % 2147483647 = y at *
    have w : ∀ z : Int, 0 ≤ z → z < 9000000000000000000 → IntKind.i64.wrap z = z := fun z h0 h1 => by
      obtain ⟨m, rfl⟩ := Int.eq_ofNat_of_zero_le h0
      exact wrap_nat (by omega) (by omega)
    simp only [EV, EL, EB, EF, q_bx, if_true, if_false, Bool.false_eq_true, Nat.reduceAdd, Option.bind_some, Bool.not_true, Bool.not_false, Nat.reduceBEq, impl_Hash_r, i0]
    refine TCall.val (by simp only [EO]) (impl_Mod_T _ _) ?_
    rw [hy]
    simp only [EV, EL, EB, EF, q_bx, if_true, if_false, Bool.false_eq_true, Nat.reduceAdd, Option.bind_some, Bool.not_true, Bool.not_false, Nat.reduceBEq, impl_Hash_r, w (x * 1000003) (by omega) (by omega), w (x * 1000003 + y) (by omega) (by omega), w (x * 1000003 + y + 13) (by omega) (by omega), rem_i _ _ _ (show (2147483647 : Int) ≠ 0 by omega), tmod_pos (show 0 ≤ x * 1000003 + y + 13 by omega)]
    exact ⟨k + 1, hlt, by omega, ⟨by rw [wN (by omega), hs]; simp only [hashS, hy]; simp [impl_Hash_s0, LeL, LeV], rfl, rfl⟩⟩
  · have hge : k = l.length := by simp at hge; omega
    subst hge
    simp only [EV, EL, EB, EF, q_bx, if_true, if_false, Bool.false_eq_true, Nat.reduceAdd, Option.bind_some, Bool.not_true, Bool.not_false, Nat.reduceBEq, impl_Hash_r]
    rw [List.take_length]
    first | exact ⟨rfl, rfl, rfl⟩ | exact ⟨rfl, rfl⟩

theorem nn_gs' (b g off len cap sz : Nat) (ex : Bool) : noLp (.gs b g off len cap sz ex) = true := rfl
theorem nn_vs' (β : Bool) (sz : Nat) (ex : Bool) (xs : List (List AV)) : noLp (.vs β sz ex xs) = true := rfl
theorem rp_3 (z : AV) : (List.replicate 3 [z]).flatten = [z, z, z] := rfl
theorem rp_6 (z : AV) : (List.replicate 6 [z]).flatten = [z, z, z, z, z, z] := rfl
theorem snap3 {H : AH} {B : Nat} {x y z x' y' z' : AV} (hg : hget H B = some (0, [x, y, z])) (sx : Snap H x x') (sy : Snap H y y') (sz : Snap H z z') : Snap H (.gs B 0 0 3 3 1 true) (.vs true 1 false [[x'], [y'], [z']]) := by
  refine .gs B 0 0 3 3 1 true false [x, y, z] _ (fun i _ => [x, y, z].getD i .any) (hget_spec hg) rfl (fun e => by cases e) (fun i l hl => ?_) (fun i l hl j w hw => ?_) (fun i l hl j w hw => ?_)
  · match i, hl with
    | 0, hl | 1, hl | 2, hl => simp at hl; subst hl; rfl
  · match i, hl with
    | 0, hl | 1, hl | 2, hl =>
      simp at hl; subst hl
      match j, hw with
      | 0, hw => rfl
      | j + 1, hw => simp at hw
  · match i, hl with
    | 0, hl | 1, hl | 2, hl =>
      simp at hl; subst hl
      match j, hw with
      | 0, hw => simp at hw; subst hw; assumption
      | j + 1, hw => simp at hw
theorem ints_NB (base : Nat) (l : List Int) : NB base (.vs false 1 false (ints l)) :=
  .vs _ _ _ _ (fun e => by cases e) (fun r hr x hx => by
    obtain ⟨b, _, rfl⟩ := List.mem_map.1 hr
    simp only [List.mem_cons, List.not_mem_nil, or_false] at hx
    subst hx; exact .int _ _)
theorem concatV (β : Bool) (ls : List (Bool × List Int)) (hl : (ls.flatMap (·.2)).length ≤ 68719476736) (hl2 : ls.length ≤ 1099511627776) (h : AH) : T Try.prog Γ Fn.slices_Concat_iint_int [.vs β 1 false (ls.map lrow)] h fun v h' => v = .vs false 1 false (ints (ls.flatMap (·.2))) ∧ h' = h := by
  have := (concat_T (Γ := Γ) β ls hl hl2 h).frozen
  simpa only [List.map_cons, List.map_nil, resOf_1, resOf_2, rd_c, rd_a, CD.av_sl, CD.av_i, CD.av_b, CD.av_s, List.map_map, Function.comp_def, DBox.c_eq] using this
theorem int1_own (h : AH) (n : Int) : Own (h ++ [some (0, [AV.int .i64 n])]) (.gs h.length 0 0 1 1 1 true) (.sl 1 [[.i .i64 n]]) [h.length] := by
  have := bsl1_own h (ys := [AV.int .i64 n]) (row := [.i .i64 n]) (sz := 1) rfl (OwnL.i (show OwnL h [] [] [] from rfl))
  simpa using this
theorem impl_KeyedHash_T (β : Bool) (k : Int) (l : List Int) (hl : l.length ≤ 1073741824) (h : AH) : T Try.prog Γ Fn.impl_KeyedHash [.int .i64 k, .vs β 1 false (ints l)] h fun v h' => v = .int .i64 (hashF (k :: (l ++ [k]))) ∧ h' = h := by
  refine (?_ : T Try.prog Γ Fn.impl_KeyedHash _ h fun v h' => v = .int .i64 (hashF (k :: (l ++ [k]))) ∧ ∃ N, h' = h ++ N).drop (by rintro v h' ⟨rfl, N, rfl⟩; exact ⟨N, rfl, .int _ _, rfl, rfl⟩)
  refine impl_KeyedHash_e (aw_sound tabOK mixed [] _ _ _ ?_)
  unfold impl_KeyedHash_c
  simp only [EV, EL, EB, EF, q_bx, if_true, if_false, Bool.false_eq_true, Nat.reduceAdd, Option.bind_some, Bool.not_true, Bool.not_false, Nat.reduceBEq, impl_KeyedHash_r, EA, rp_3, nn_gs', nn_vs', Bool.and_self]
  have o1 := ((int1_own h k).grow (new := [some (0, [AV.int .i64 k])])).grow (new := [some (0, [AV.gs h.length 0 0 1 1 1 true, .vs β 1 false (ints l), .gs (h ++ [some (0, [AV.int .i64 k])]).length 0 0 1 1 1 true])])
  have o2 := (int1_own (h ++ [some (0, [AV.int .i64 k])]) k).grow (new := [some (0, [AV.gs h.length 0 0 1 1 1 true, .vs β 1 false (ints l), .gs (h ++ [some (0, [AV.int .i64 k])]).length 0 0 1 1 1 true])])
  have s1 := Own.see (α := Int) (cd := fun n => [.i .i64 n]) (c := fun n => [AV.int .i64 n]) (l := [k]) (fun x => by simp [CD.av_i]) o1
  have s2 := Own.see (α := Int) (cd := fun n => [.i .i64 n]) (c := fun n => [AV.int .i64 n]) (l := [k]) (fun x => by simp [CD.av_i]) o2
  have s3 := snap3 (hget_last (h ++ [some (0, [AV.int .i64 k])] ++ [some (0, [AV.int .i64 k])]) (0, [AV.gs h.length 0 0 1 1 1 true, .vs β 1 false (ints l), .gs (h ++ [some (0, [AV.int .i64 k])]).length 0 0 1 1 1 true])) s1 (.same _) s2
  refine TCall.see (by simp only [EO]) (snap_c s3 snap_n)
    (fun h => concatV true [(true, [k]), (β, l), (true, [k])] (by simp; omega) (by simp) h) (ints_NB _ _) ?_
  simp only [EV, EL, EB, EF, q_bx, if_true, if_false, Bool.false_eq_true, Nat.reduceAdd, Option.bind_some, Bool.not_true, Bool.not_false, Nat.reduceBEq, impl_KeyedHash_r]
  refine TCall.val (by simp only [EO]) (impl_Hash_T false _ (by simp; omega) _) ?_
  simp only [EV, EL, EB, EF, q_bx, if_true, if_false, Bool.false_eq_true, Nat.reduceAdd, Option.bind_some, Bool.not_true, Bool.not_false, Nat.reduceBEq, impl_KeyedHash_r]
  have e : List.flatMap (fun x : Bool × List Int => x.2) [(true, [k]), (β, l), (true, [k])] = k :: (l ++ [k]) := by simp
  rw [e]
  have hx := ((HExt.app h [some (0, [AV.int .i64 k])]).trans ((HExt.app _ [some (0, [AV.int .i64 k])]).trans (HExt.app _ [some (0, [AV.gs h.length 0 0 1 1 1 true, .vs β 1 false (ints l), .gs (h ++ [some (0, [AV.int .i64 k])]).length 0 0 1 1 1 true])]))).out
  exact ⟨rfl, rfl, hx⟩

end Go.Proofs.Ytjohoameeeaafaa
