import Derived.Test.YtleddolmolkpfaaR4I3
import Derived.Test.YtleddolmolkpfaaAmApp2
set_option linter.unusedVariables false
set_option linter.unusedSimpArgs false
namespace Go.Proofs.Ytleddolmolkpfaa
open Go.AM
set_option linter.unusedVariables false
set_option linter.unusedSimpArgs false
variable {Γ : Glob}
/-! When a vat is right: links. -/
theorem grow_T (n : Nat) (hn : n ≤ 34359738368) (H : AH) : T Try.prog Γ Fn.slices_Grow_iimpl_Question_impl_Question [.nils, .int .i64 n] H fun v h' => ∃ fp, Own h' v (.sl 2 []) fp ∧ fp.Nodup ∧ (∀ c ∈ fp, H.length ≤ c) ∧ HExt H h' := by
  refine slices_Grow_iimpl_Question_impl_Question_e (aw_sound tabOK mixed [] _ _ _ ?_)
  unfold slices_Grow_iimpl_Question_impl_Question_c
  by_cases h0 : 0 < n
  · simp only [EV, EL, EB, EF, q_bx, if_true, if_false, Bool.false_eq_true, Nat.reduceAdd, Option.bind_some, Bool.not_true, Bool.not_false, Nat.reduceBEq, slices_Grow_iimpl_Question_impl_Question_r, p_cap, cap_n, lenI_n, decide_eq_false (show ¬ (n : Int) < 0 by omega), show IntKind.i64.wrap ((0 : Int) - 0) = 0 from rfl, show IntKind.i64.wrap ((n : Int) - 0) = n from by rw [Int.sub_zero]; exact wrap_nat (by omega) (by omega), decide_eq_true (show (n : Int) > 0 by omega), p_cutTo, cut_nil, p_appz, appz_ok h0 (show 0 < 2 by omega) (show n * (2 + 16) ≤ maxMade by simp only [maxMade]; omega) (show [AV.int .i64 0, AV.int .i64 0].all noLp = true from rfl), cut_gs0]
    have o := zeros_own H (n := n) (sz := 2) (z := [AV.int .i64 0, AV.int .i64 0]) rfl (by intro x hx; simp at hx; subst hx; exact .i _ _)
    exact ⟨o.outOK, _, o, by simp, by simp, HExt.app _ _⟩
  · have : n = 0 := by omega
    subst this
    simp only [EV, EL, EB, EF, q_bx, if_true, if_false, Bool.false_eq_true, Nat.reduceAdd, Option.bind_some, Bool.not_true, Bool.not_false, Nat.reduceBEq, slices_Grow_iimpl_Question_impl_Question_r, p_cap, cap_n, lenI_n, decide_eq_false (show ¬ ((0 : Nat) : Int) < 0 by omega), show IntKind.i64.wrap ((0 : Int) - 0) = 0 from rfl, show IntKind.i64.wrap (((0 : Nat) : Int) - 0) = 0 from rfl, decide_eq_false (show ¬ (0 : Int) > 0 by omega)]
    exact ⟨rfl, [], .nil _, by simp, by simp, HExt.refl _⟩

abbrev ints (β : Bool) (l : List DQuestion) : List (List AV) := l.map (DQuestion.c β)
abbrev icd (l : List DQuestion) : List (List CD) := l.map DQuestion.cd
/-- The row of a list of lists. -/
abbrev lrow (p : Bool × List DQuestion) : List AV := [.vs p.1 2 false (ints p.1 p.2)]
def tot (ls : List (Bool × List DQuestion)) (k : Nat) : List DQuestion := (ls.take k).flatMap (·.2)
theorem tot_s {ls : List (Bool × List DQuestion)} {k : Nat} (hk : k < ls.length) : tot ls (k + 1) = tot ls k ++ ls[k].2 := by
  unfold tot; rw [List.take_succ_eq_append_getElem hk, List.flatMap_append, List.flatMap_singleton]
theorem tot_le (ls : List (Bool × List DQuestion)) (k : Nat) : (tot ls k).length ≤ (ls.flatMap (·.2)).length := by
  have : ls.flatMap (·.2) = tot ls k ++ (ls.drop k).flatMap (·.2) := by unfold tot; rw [← List.flatMap_append, List.take_append_drop]
  rw [this]; simp
theorem concat_T (β : Bool) (ls : List (Bool × List DQuestion)) (hl : (ls.flatMap (·.2)).length ≤ 34359738368) (hl2 : ls.length ≤ 1099511627776) (h : AH) : T Try.prog Γ Fn.slices_Concat_iimpl_Question_impl_Question [.vs β 1 false (ls.map lrow)] h (Fresh h [.c (.sl 2 (icd (ls.flatMap (·.2))))]) := by
  refine T.freshC ?_
  have L0 := len_vm β 1 false ls lrow
  refine slices_Concat_iimpl_Question_impl_Question_e (aw_sound tabOK mixed [] _ _ _ ?_)
  unfold slices_Concat_iimpl_Question_impl_Question_c
  simp only [EV, EL, EB, EF, q_bx, if_true, if_false, Bool.false_eq_true, Nat.reduceAdd, Option.bind_some, Bool.not_true, Bool.not_false, Nat.reduceBEq, slices_Concat_iimpl_Question_impl_Question_r, L0]
  refine loopI tabOK mixed [] (fun k : Nat => k ≤ ls.length) (fun k => ls.length - k)
    (fun k => slices_Concat_iimpl_Question_impl_Question_s0 (.vs β 1 false (ls.map lrow)) (.int .i64 (tot ls k).length) (.vs β 1 false (ls.map lrow)) (.int .i64 ls.length) (.int .i64 k) [] h) 0 (by omega) ⟨by simp [slices_Concat_iimpl_Question_impl_Question_s0, LeL, LeV, tot], rfl, rfl⟩ ?_
  rintro k hk
  simp only [EV, EL, EB, EF, q_bx, if_true, if_false, Bool.false_eq_true, Nat.reduceAdd, Option.bind_some, Bool.not_true, Bool.not_false, Nat.reduceBEq, slices_Concat_iimpl_Question_impl_Question_r, slices_Concat_iimpl_Question_impl_Question_s0]
  refine c_split (fun hlt => ?_) (fun hge => ?_)
  · have hlt : k < ls.length := by simpa using hlt
    have i0 := idx_vm (β := β) (sz := 1) (ex := false) (ce := lrow) hlt
    have L1 := len_vm ls[k].1 2 false ls[k].2 (DQuestion.c ls[k].1)
    have ht := tot_s hlt
    have hle := tot_le ls (k + 1)
    have hll : (tot ls (k + 1)).length = (tot ls k).length + ls[k].2.length := by rw [ht]; simp
    have hw : IntKind.i64.wrap (((tot ls k).length : Int) + (ls[k].2.length : Int)) = ((tot ls (k + 1)).length : Int) := by
      rw [hll, ← Int.natCast_add]; exact wrap_nat (by omega) (by omega)
    simp only [EV, EL, EB, EF, q_bx, if_true, if_false, Bool.false_eq_true, Nat.reduceAdd, Option.bind_some, Bool.not_true, Bool.not_false, Nat.reduceBEq, slices_Concat_iimpl_Question_impl_Question_r, i0, L1, hw, decide_eq_false (show ¬ (((tot ls (k + 1)).length : Nat) : Int) < 0 by omega)]
    exact ⟨k + 1, hlt, by omega, ⟨by rw [wN (by omega)]; simp [slices_Concat_iimpl_Question_impl_Question_s0, LeL, LeV], rfl, rfl⟩⟩
  have hge : k = ls.length := by simp at hge; omega
  subst hge
  have hN : tot ls ls.length = ls.flatMap (·.2) := by unfold tot; simp
  simp only [EV, EL, EB, EF, q_bx, if_true, if_false, Bool.false_eq_true, Nat.reduceAdd, Option.bind_some, Bool.not_true, Bool.not_false, Nat.reduceBEq, slices_Concat_iimpl_Question_impl_Question_r, L0]
  refine TCall.ref (by simp only [EO]) (grow_T _ (by rw [hN]; exact hl) _) ?_
  rintro v H1 ⟨fp, o1, nd, hb, e1⟩
  replace e1 : HExt h H1 := e1
  replace hb : ∀ c ∈ fp, h.length ≤ c := hb
  obtain ⟨c1, c2, c3, c4⟩ := o1.cell
  simp only [EV, EL, EB, EF, q_bx, if_true, if_false, Bool.false_eq_true, Nat.reduceAdd, Option.bind_some, Bool.not_true, Bool.not_false, Nat.reduceBEq, slices_Concat_iimpl_Question_impl_Question_r, L0]
  refine loopI tabOK mixed [] (fun y : Nat × AV × AH × List Nat => y.1 ≤ ls.length ∧ Own y.2.2.1 y.2.1 (.sl 2 (icd (tot ls y.1))) y.2.2.2 ∧ y.2.2.2.Nodup ∧ (∀ c ∈ y.2.2.2, h.length ≤ c) ∧ HExt h y.2.2.1) (fun y => ls.length - y.1)
    (fun y => slices_Concat_iimpl_Question_impl_Question_s1 y.2.1 (.vs β 1 false (ls.map lrow)) (.int .i64 ls.length) (.int .i64 y.1) [] y.2.2.1) (0, v, H1, fp) ⟨by simp, by simpa [tot] using o1, nd, hb, e1⟩ ⟨by simp [slices_Concat_iimpl_Question_impl_Question_s1, LeL, LeV], rfl, rfl⟩ ?_
  rintro ⟨k, w, H2, f2⟩ ⟨hk, o2, n2, b2, e2⟩
  simp only at hk o2 n2 b2 e2
  obtain ⟨d1, d2, d3, d4⟩ := o2.cell
  simp only [EV, EL, EB, EF, q_bx, if_true, if_false, Bool.false_eq_true, Nat.reduceAdd, Option.bind_some, Bool.not_true, Bool.not_false, Nat.reduceBEq, slices_Concat_iimpl_Question_impl_Question_r, slices_Concat_iimpl_Question_impl_Question_s1]
  refine c_split (fun hlt => ?_) (fun hge => ?_)
  · have hlt : k < ls.length := by simpa using hlt
    have i0 := idx_vm (β := β) (sz := 1) (ex := false) (ce := lrow) hlt
    have ht := tot_s hlt
    have hle := tot_le ls (k + 1)
    have hll : (tot ls (k + 1)).length = (tot ls k).length + ls[k].2.length := by rw [ht]; simp
    obtain ⟨v', H', fp', ea, o', nd', hf', hl', hm'⟩ := app_vs (β := ls[k].1) (bytes := 16) (l := ls[k].2) (c := DQuestion.c ls[k].1) (cd := DQuestion.cd) o2 n2 (by omega) (fun x => ⟨rfl, rfl⟩) (fun x => (DQuestion.c_eq false x).symm) (by simp only [List.length_map, maxMade]; omega)
    have eh := e2.upd hl' hf' b2
    simp only [EV, EL, EB, EF, q_bx, if_true, if_false, Bool.false_eq_true, Nat.reduceAdd, Option.bind_some, Bool.not_true, Bool.not_false, Nat.reduceBEq, slices_Concat_iimpl_Question_impl_Question_r, i0, EA, ea]
    have := e2.len
    have hb' : ∀ c ∈ fp', h.length ≤ c := fun c hc => by
      rcases hm' c hc with g | g
      · exact b2 c g
      · omega
    exact ⟨(k + 1, v', H', fp'), ⟨hlt, by rw [ht, icd, List.map_append]; exact o', nd', hb', eh⟩, by simp only; omega, ⟨by rw [wN (by omega)]; simp [slices_Concat_iimpl_Question_impl_Question_s1, LeL, LeV], rfl, rfl⟩⟩
  · have hge : k = ls.length := by simp at hge; omega
    subst hge
    simp only [EV, EL, EB, EF, q_bx, if_true, if_false, Bool.false_eq_true, Nat.reduceAdd, Option.bind_some, Bool.not_true, Bool.not_false, Nat.reduceBEq, slices_Concat_iimpl_Question_impl_Question_r]
    rw [hN] at o2
    obtain ⟨N, rfl⟩ := e2.out
    exact ⟨o2.outOK, N, f2, rfl, o2, n2, b2⟩
theorem rp_2 (z : AV) : (List.replicate 2 [z]).flatten = [z, z] := rfl
theorem nn_vs' (β : Bool) (sz : Nat) (ex : Bool) (xs : List (List AV)) : noLp (.vs β sz ex xs) = true := rfl
theorem snap2 {H : AH} {B : Nat} {x y x' y' : AV} (hg : hget H B = some (0, [x, y])) (sx : Snap H x x') (sy : Snap H y y') : Snap H (.gs B 0 0 2 2 1 true) (.vs true 1 false [[x'], [y']]) := by
  refine .gs B 0 0 2 2 1 true false [x, y] _ (fun i _ => [x, y].getD i .any) (hget_spec hg) rfl (fun e => by cases e) (fun i l hl => ?_) (fun i l hl j w hw => ?_) (fun i l hl j w hw => ?_)
  · match i, hl with
    | 0, hl | 1, hl => simp at hl; subst hl; rfl
  · match i, hl with
    | 0, hl | 1, hl =>
      simp at hl; subst hl
      match j, hw with
      | 0, hw => rfl
      | j + 1, hw => simp at hw
  · match i, hl with
    | 0, hl | 1, hl =>
      simp at hl; subst hl
      match j, hw with
      | 0, hw => simp at hw; subst hw; assumption
      | j + 1, hw => simp at hw
theorem q_NB (base : Nat) (l : List DQuestion) : NB base (.vs false 2 false (l.map (DQuestion.c false))) :=
  .vs _ _ _ _ (fun e => by cases e) (fun r hr x hx => by
    obtain ⟨b, _, rfl⟩ := List.mem_map.1 hr
    simp only [DQuestion.c, List.mem_cons, List.not_mem_nil, or_false] at hx
    rcases hx with rfl | rfl <;> exact .int _ _)
theorem concatV (β : Bool) (ls : List (Bool × List DQuestion)) (hl : (ls.flatMap (·.2)).length ≤ 34359738368) (hl2 : ls.length ≤ 1099511627776) (h : AH) : T Try.prog Γ Fn.slices_Concat_iimpl_Question_impl_Question [.vs β 1 false (ls.map lrow)] h fun v h' => v = .vs false 2 false ((ls.flatMap (·.2)).map (DQuestion.c false)) ∧ h' = h := by
  have := (concat_T (Γ := Γ) β ls hl hl2 h).frozen
  simpa only [List.map_cons, List.map_nil, resOf_1, resOf_2, rd_c, rd_a, CD.av_sl, CD.av_i, CD.av_b, CD.av_s, List.map_map, Function.comp_def, DQuestion.c_eq] using this
def exportOk (n : Nat) (x : DExport) : Bool := inR x.pos 1 999999 && (inR x.count 1 999999 && entI x.entity n)
def entryOk (n : Nat) (q : DQuestion) : Bool := inR q.id 1 999999 && entI q.promise n
def linkF (l : DLink) (n : Nat) : Bool := inR l.peer 1 4 && (inR l.next 0 999999 && (inR l.asked 0 999999 && (l.exports.all (exportOk n) && (l.questions ++ l.answers).all (entryOk n))))
theorem fin_lt {α : Type} {l : List α} {p : α → Bool} {k : Nat} (ht : ∀ (i : Nat) (hi : i < l.length), i < k → p l[i] = true) (hlt : k < l.length) (hp : p l[k] = true) : ∀ (i : Nat) (hi : i < l.length), i < k + 1 → p l[i] = true := fun i hi hik => by
  rcases Nat.lt_or_ge i k with g | g
  · exact ht i hi g
  · have : i = k := by omega
    subst this; exact hp
theorem impl_linkOk_T (β β' : Bool) (v : DVat) (hv : v.entities.length ≤ 1048576) (l : DLink) (hl : l.ok 1048576) (H : AH) {p q : AV} (hp : Ptr H p (v.c β)) (hq : Ptr H q (l.c β')) : T Try.prog Γ Fn.impl_Vat_linkOk [p, q] H fun r h' => r = .bool (linkF l v.entities.length) ∧ h' = H := by
  refine (?_ : T Try.prog Γ Fn.impl_Vat_linkOk _ H fun r h' => r = .bool (linkF l v.entities.length) ∧ ∃ N, h' = H ++ N).drop (by rintro v h' ⟨rfl, N, rfl⟩; exact ⟨N, rfl, .bool _, rfl, rfl⟩)
  have L0 := len_vm β' 3 false l.exports (DExport.c β')
  have hel := hl.1
  refine impl_Vat_linkOk_e (aw_sound tabOK mixed [] _ _ _ ?_)
  unfold impl_Vat_linkOk_c
  simp only [EV, EL, EB, EF, q_bx, if_true, if_false, Bool.false_eq_true, Nat.reduceAdd, Option.bind_some, Bool.not_true, Bool.not_false, Nat.reduceBEq, impl_Vat_linkOk_r, impl_Vat_linkOk_d0_q, hq.nil, hq.fld, hq.rd, DLink.c_len, Nat.reduceLeDiff, DLink.c]
  refine TCall.val (by simp only [EO]) (impl_in_T _ _ _ _) ?_
  cases h1 : inR l.peer 1 4
  · simp only [EV, EL, EB, EF, q_bx, if_true, if_false, Bool.false_eq_true, Nat.reduceAdd, Option.bind_some, Bool.not_true, Bool.not_false, Nat.reduceBEq, impl_Vat_linkOk_r, impl_Vat_linkOk_d0_q]
    first | exact ⟨rfl, by simp [linkF, h1], [], by simp⟩ | exact ⟨by simp [linkF, h1], [], by simp⟩
  simp only [EV, EL, EB, EF, q_bx, if_true, if_false, Bool.false_eq_true, Nat.reduceAdd, Option.bind_some, Bool.not_true, Bool.not_false, Nat.reduceBEq, impl_Vat_linkOk_r, impl_Vat_linkOk_d0_q, hq.nil, hq.fld, hq.rd, DLink.c_len, Nat.reduceLeDiff, DLink.c]
  refine TCall.val (by simp only [EO]) (impl_in_T _ _ _ _) ?_
  cases h2 : inR l.next 0 999999
  · simp only [EV, EL, EB, EF, q_bx, if_true, if_false, Bool.false_eq_true, Nat.reduceAdd, Option.bind_some, Bool.not_true, Bool.not_false, Nat.reduceBEq, impl_Vat_linkOk_r, impl_Vat_linkOk_d0_q]
    first | exact ⟨rfl, by simp [linkF, h1, h2], [], by simp⟩ | exact ⟨by simp [linkF, h1, h2], [], by simp⟩
  simp only [EV, EL, EB, EF, q_bx, if_true, if_false, Bool.false_eq_true, Nat.reduceAdd, Option.bind_some, Bool.not_true, Bool.not_false, Nat.reduceBEq, impl_Vat_linkOk_r, impl_Vat_linkOk_d0_q, hq.nil, hq.fld, hq.rd, DLink.c_len, Nat.reduceLeDiff, DLink.c]
  refine TCall.val (by simp only [EO]) (impl_in_T _ _ _ _) ?_
  cases h3 : inR l.asked 0 999999
  · simp only [EV, EL, EB, EF, q_bx, if_true, if_false, Bool.false_eq_true, Nat.reduceAdd, Option.bind_some, Bool.not_true, Bool.not_false, Nat.reduceBEq, impl_Vat_linkOk_r, impl_Vat_linkOk_d0_q]
    first | exact ⟨rfl, by simp [linkF, h1, h2, h3], [], by simp⟩ | exact ⟨by simp [linkF, h1, h2, h3], [], by simp⟩
  simp only [EV, EL, EB, EF, q_bx, if_true, if_false, Bool.false_eq_true, Nat.reduceAdd, Option.bind_some, Bool.not_true, Bool.not_false, Nat.reduceBEq, impl_Vat_linkOk_r, impl_Vat_linkOk_d0_q, hq.nil, hq.fld, hq.rd, DLink.c_len, Nat.reduceLeDiff, DLink.c, L0]
  refine loopI tabOK mixed [] (fun x : Nat × List (List AV) => x.1 ≤ l.exports.length ∧ ∀ (i : Nat) (hi : i < l.exports.length), i < x.1 → exportOk v.entities.length l.exports[i] = true) (fun x => l.exports.length - x.1)
    (fun x => impl_Vat_linkOk_s0 p q (.vs β' 3 false (l.exports.map (DExport.c β'))) (.int .i64 l.exports.length) (.int .i64 x.1) x.2 H) (0, _) ⟨by simp, fun i hi h => by simp at h⟩ ⟨by simp [impl_Vat_linkOk_s0, LeL, LeV], rfl, rfl⟩ ?_
  rintro ⟨k, L⟩ ⟨hk, ht⟩
  simp only at hk ht
  simp only [EV, EL, EB, EF, q_bx, if_true, if_false, Bool.false_eq_true, Nat.reduceAdd, Option.bind_some, Bool.not_true, Bool.not_false, Nat.reduceBEq, impl_Vat_linkOk_r, impl_Vat_linkOk_d0_q, impl_Vat_linkOk_s0]
  refine c_split (fun hlt => ?_) (fun hge => ?_)
  · have hlt : k < l.exports.length := by simpa using hlt
    have i0 := idx_vm (β := β') (sz := 3) (ex := false) (ce := DExport.c β') hlt
    have af : exportOk v.entities.length l.exports[k] = false → linkF l v.entities.length = false := fun h => by
      have := all_false (p := exportOk v.entities.length) hlt h
      simp [linkF, h1, h2, h3, this]
    simp only [EV, EL, EB, EF, q_bx, if_true, if_false, Bool.false_eq_true, Nat.reduceAdd, Option.bind_some, Bool.not_true, Bool.not_false, Nat.reduceBEq, impl_Vat_linkOk_r, impl_Vat_linkOk_d0_q, i0, DExport.c, EB2]
    refine TCall.val (by simp only [EO]) (impl_named_T _ _) ?_
    cases g1 : inR l.exports[k].pos 1 999999
    · simp only [EV, EL, EB, EF, q_bx, if_true, if_false, Bool.false_eq_true, Nat.reduceAdd, Option.bind_some, Bool.not_true, Bool.not_false, Nat.reduceBEq, impl_Vat_linkOk_r, impl_Vat_linkOk_d0_q]
      have ax := af (by simp [exportOk, g1])
      first | exact ⟨rfl, by rw [ax], [], by simp⟩ | exact ⟨by rw [ax], [], by simp⟩
    simp only [EV, EL, EB, EF, q_bx, if_true, if_false, Bool.false_eq_true, Nat.reduceAdd, Option.bind_some, Bool.not_true, Bool.not_false, Nat.reduceBEq, impl_Vat_linkOk_r, impl_Vat_linkOk_d0_q, DExport.c, EB2]
    refine TCall.val (by simp only [EO]) (impl_named_T _ _) ?_
    cases g2 : inR l.exports[k].count 1 999999
    · simp only [EV, EL, EB, EF, q_bx, if_true, if_false, Bool.false_eq_true, Nat.reduceAdd, Option.bind_some, Bool.not_true, Bool.not_false, Nat.reduceBEq, impl_Vat_linkOk_r, impl_Vat_linkOk_d0_q]
      have ax := af (by simp [exportOk, g1, g2])
      first | exact ⟨rfl, by rw [ax], [], by simp⟩ | exact ⟨by rw [ax], [], by simp⟩
    simp only [EV, EL, EB, EF, q_bx, if_true, if_false, Bool.false_eq_true, Nat.reduceAdd, Option.bind_some, Bool.not_true, Bool.not_false, Nat.reduceBEq, impl_Vat_linkOk_r, impl_Vat_linkOk_d0_q, DExport.c, EB2]
    refine TCall.ref (by simp only [EO, hp.out]) (impl_entity_B β v hv _ _ hp) ?_
    rintro r H1 ⟨⟨er, ro⟩, e⟩
    replace e : H1 = H := e
    subst e
    cases g3 : entI l.exports[k].entity v.entities.length
    · rw [g3] at er
      simp only [EV, EL, EB, EF, q_bx, if_true, if_false, Bool.false_eq_true, Nat.reduceAdd, Option.bind_some, Bool.not_true, Bool.not_false, Nat.reduceBEq, impl_Vat_linkOk_r, impl_Vat_linkOk_d0_q, er]
      have ax := af (by simp [exportOk, g1, g2, g3])
      first | exact ⟨rfl, by rw [ax], [], by simp⟩ | exact ⟨by rw [ax], [], by simp⟩
    rw [g3] at er
    simp only [EV, EL, EB, EF, q_bx, if_true, if_false, Bool.false_eq_true, Nat.reduceAdd, Option.bind_some, Bool.not_true, Bool.not_false, Nat.reduceBEq, impl_Vat_linkOk_r, impl_Vat_linkOk_d0_q, er]
    exact ⟨(k + 1, _), ⟨hlt, fin_lt ht hlt (by simp [exportOk, g1, g2, g3])⟩, by simp only; omega, ⟨by rw [wN (by omega)]; simp [impl_Vat_linkOk_s0, LeL, LeV], rfl, rfl⟩⟩
  have hge : k = l.exports.length := by simp at hge; omega
  subst hge
  have hE := all_true (p := exportOk v.entities.length) ht
  have hql : l.questions.length ≤ 1048576 := hl.2.1
  have hal : l.answers.length ≤ 1048576 := hl.2.2
  simp only [EV, EL, EB, EF, q_bx, if_true, if_false, Bool.false_eq_true, Nat.reduceAdd, Option.bind_some, Bool.not_true, Bool.not_false, Nat.reduceBEq, impl_Vat_linkOk_r, impl_Vat_linkOk_d0_q, hq.nil, hq.fld, hq.rd, DLink.c_len, Nat.reduceLeDiff, DLink.c, EA, rp_2, nn_vs', Bool.and_self]
  have s2 := snap2 (hget_last H (0, [AV.vs β' 2 false (l.questions.map (DQuestion.c β')), AV.vs β' 2 false (l.answers.map (DQuestion.c β'))])) (.same _) (.same _)
  refine TCall.see (by simp only [EO]) (snap_c s2 snap_n) (fun h => concatV true [(β', l.questions), (β', l.answers)] (by simp; omega) (by simp) h) (q_NB _ _) ?_
  have eq : List.flatMap (fun x : Bool × List DQuestion => x.2) [(β', l.questions), (β', l.answers)] = l.questions ++ l.answers := by simp
  rw [eq]
  have hml : (l.questions ++ l.answers).length ≤ 2097152 := by simp; omega
  generalize hm : l.questions ++ l.answers = m at *
  have L1 := len_vm false 2 false m (DQuestion.c false)
  simp only [EV, EL, EB, EF, q_bx, if_true, if_false, Bool.false_eq_true, Nat.reduceAdd, Option.bind_some, Bool.not_true, Bool.not_false, Nat.reduceBEq, impl_Vat_linkOk_r, impl_Vat_linkOk_d0_q, L1]
  refine loopI tabOK mixed [] (fun x : Nat × List (List AV) => x.1 ≤ m.length ∧ ∀ (i : Nat) (hi : i < m.length), i < x.1 → entryOk v.entities.length m[i] = true) (fun x => m.length - x.1)
    (fun x => impl_Vat_linkOk_s1 p (.vs false 2 false (m.map (DQuestion.c false))) (.int .i64 m.length) (.int .i64 x.1) x.2 (H ++ [some (0, [AV.vs β' 2 false (l.questions.map (DQuestion.c β')), AV.vs β' 2 false (l.answers.map (DQuestion.c β'))])])) (0, _) ⟨by simp, fun i hi h => by simp at h⟩ ⟨by simp [impl_Vat_linkOk_s1, LeL, LeV], rfl, rfl⟩ ?_
  rintro ⟨k, L⟩ ⟨hk, ht⟩
  simp only at hk ht
  simp only [EV, EL, EB, EF, q_bx, if_true, if_false, Bool.false_eq_true, Nat.reduceAdd, Option.bind_some, Bool.not_true, Bool.not_false, Nat.reduceBEq, impl_Vat_linkOk_r, impl_Vat_linkOk_d0_q, impl_Vat_linkOk_s1]
  refine c_split (fun hlt => ?_) (fun hge => ?_)
  · have hlt : k < m.length := by simpa using hlt
    have i0 := idx_vm (β := false) (sz := 2) (ex := false) (ce := DQuestion.c false) hlt
    have af : entryOk v.entities.length m[k] = false → linkF l v.entities.length = false := fun h => by
      have := all_false (p := entryOk v.entities.length) hlt h
      simp [linkF, h1, h2, h3, hE, hm, this]
    simp only [EV, EL, EB, EF, q_bx, if_true, if_false, Bool.false_eq_true, Nat.reduceAdd, Option.bind_some, Bool.not_true, Bool.not_false, Nat.reduceBEq, impl_Vat_linkOk_r, impl_Vat_linkOk_d0_q, i0, DQuestion.c, EB2]
    refine TCall.val (by simp only [EO]) (impl_named_T _ _) ?_
    cases g1 : inR m[k].id 1 999999
    · simp only [EV, EL, EB, EF, q_bx, if_true, if_false, Bool.false_eq_true, Nat.reduceAdd, Option.bind_some, Bool.not_true, Bool.not_false, Nat.reduceBEq, impl_Vat_linkOk_r, impl_Vat_linkOk_d0_q]
      have ax := af (by simp [entryOk, g1])
      first | exact ⟨rfl, by rw [ax], _, rfl⟩ | exact ⟨by rw [ax], _, rfl⟩
    simp only [EV, EL, EB, EF, q_bx, if_true, if_false, Bool.false_eq_true, Nat.reduceAdd, Option.bind_some, Bool.not_true, Bool.not_false, Nat.reduceBEq, impl_Vat_linkOk_r, impl_Vat_linkOk_d0_q, DQuestion.c, EB2]
    refine TCall.ref (by simp only [EO, hp.out]) (impl_entity_B β v hv _ _ (hp.grow _)) ?_
    rintro r H1 ⟨⟨er, ro⟩, e⟩
    replace e : H1 = _ := e
    subst e
    cases g3 : entI m[k].promise v.entities.length
    · rw [g3] at er
      simp only [EV, EL, EB, EF, q_bx, if_true, if_false, Bool.false_eq_true, Nat.reduceAdd, Option.bind_some, Bool.not_true, Bool.not_false, Nat.reduceBEq, impl_Vat_linkOk_r, impl_Vat_linkOk_d0_q, er]
      have ax := af (by simp [entryOk, g1, g3])
      first | exact ⟨rfl, by rw [ax], _, rfl⟩ | exact ⟨by rw [ax], _, rfl⟩
    rw [g3] at er
    simp only [EV, EL, EB, EF, q_bx, if_true, if_false, Bool.false_eq_true, Nat.reduceAdd, Option.bind_some, Bool.not_true, Bool.not_false, Nat.reduceBEq, impl_Vat_linkOk_r, impl_Vat_linkOk_d0_q, er]
    exact ⟨(k + 1, _), ⟨hlt, fin_lt ht hlt (by simp [entryOk, g1, g3])⟩, by simp only; omega, ⟨by rw [wN (by omega)]; simp [impl_Vat_linkOk_s1, LeL, LeV], rfl, rfl⟩⟩
  have hge : k = m.length := by simp at hge; omega
  subst hge
  have hA := all_true (p := entryOk v.entities.length) ht
  simp only [EV, EL, EB, EF, q_bx, if_true, if_false, Bool.false_eq_true, Nat.reduceAdd, Option.bind_some, Bool.not_true, Bool.not_false, Nat.reduceBEq, impl_Vat_linkOk_r, impl_Vat_linkOk_d0_q]
  have ax : linkF l v.entities.length = true := by simp [linkF, h1, h2, h3, hE, hm, hA]
  first | exact ⟨rfl, by rw [ax], _, rfl⟩ | exact ⟨by rw [ax], _, rfl⟩

end Go.Proofs.Ytleddolmolkpfaa
