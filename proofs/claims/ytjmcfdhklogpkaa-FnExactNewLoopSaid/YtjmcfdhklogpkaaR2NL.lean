import Derived.Test.YtjmcfdhklogpkaaR2M
set_option linter.unusedVariables false
set_option linter.unusedSimpArgs false
namespace Go.Proofs.Ytjmcfdhklogpkaa
open Go.AM
set_option linter.unusedVariables false
set_option linter.unusedSimpArgs false
variable {Γ : Glob}
/-! What is new in a vat's loop. -/
theorem clone_Value (β : Bool) (l : List DValue) (hl : l.length ≤ 1048576) (h : AH) : T Try.prog Γ Fn.slices_Clone_iimpl_Value_impl_Value [.vs β 2 false (l.map (DValue.c β))] h (Fresh h [.c (.sl 2 (l.map DValue.cd))]) :=
  clone_D tabOK mixed (fun hw => slices_Clone_iimpl_Value_impl_Value_e hw) (by omega) (by simp only [maxMade]; omega) (fun x => ⟨rfl, rfl⟩) (fun x => (DValue.c_eq false x).symm)

theorem impl_Sent_copied_T (β : Bool) (x : DSent) (hx : x.ok 1048576) (h : AH) : T Try.prog Γ Fn.impl_Sent_copied [.agg (x.c β)] h (Fresh h [.a x.cd]) := by
  refine T.freshA ?_
  refine impl_Sent_copied_e (aw_sound tabOK mixed [] _ _ _ ?_)
  unfold impl_Sent_copied_c
  simp only [EV, EL, EB, EF, q_bx, if_true, if_false, Bool.false_eq_true, Nat.reduceAdd, Option.bind_some, Bool.not_true, Bool.not_false, Nat.reduceBEq, impl_Sent_copied_r, EB2, ER, DSent.c]
  refine TCall.ref (by simp only [EO]) (clone_Value β x.args hx.2 _) ?_
  rintro w H1 fr
  replace fr : Fresh h _ _ _ := fr
  obtain ⟨fw, ow, nw, bw, ew⟩ := fr.c1
  obtain ⟨c1, c2, c3, c4⟩ := ow.cell
  simp only [EV, EL, EB, EF, q_bx, if_true, if_false, Bool.false_eq_true, Nat.reduceAdd, Option.bind_some, Bool.not_true, Bool.not_false, Nat.reduceBEq, impl_Sent_copied_r, EB2, ER, DSent.c, c1, c2, c3]
  obtain ⟨N, rfl⟩ := ew.out
  refine ⟨by simp [outOK, out1, c4, c2, c3, nn_i', nn_s'], _, N, fw, rfl, rfl, ?_, nw, bw⟩
  have : fw = fw ++ [] := by simp
  rw [this]
  exact .i (.s (.o ow (.i (.i (.i (.i .nil))))))
theorem impl_copiedSents_T (β : Bool) (l : List DSent) (hl : l.length ≤ 1048576) (ho' : ∀ x ∈ l, x.ok 1048576) (h : AH) : T Try.prog Γ Fn.impl_copiedSents [.vs β 7 false (l.map (DSent.c β))] h (Fresh h [.c (.sl 7 (l.map DSent.cd))]) := by
  have L0 := len_vm β 7 false l (DSent.c β)
  generalize e0 : AV.vs β 7 false (l.map (DSent.c β)) = a0 at *
  refine T.freshC ?_
  refine impl_copiedSents_e (aw_sound tabOK mixed [] _ _ _ ?_)
  unfold impl_copiedSents_c
  simp only [EV, EL, EB, EF, q_bx, if_true, if_false, Bool.false_eq_true, Nat.reduceAdd, Option.bind_some, Bool.not_true, Bool.not_false, Nat.reduceBEq, impl_copiedSents_r, EA, L0]
  refine loopI tabOK mixed [] (fun x : Nat × AV × AH × List Nat × List (List AV) => x.1 ≤ l.length ∧ Own x.2.2.1 x.2.1 (.sl 7 ((l.take x.1).map DSent.cd)) x.2.2.2.1 ∧ x.2.2.2.1.Nodup ∧ (∀ c ∈ x.2.2.2.1, h.length ≤ c) ∧ HExt h x.2.2.1) (fun x => l.length - x.1)
    (fun x => impl_copiedSents_s0 x.2.1 a0 (.int .i64 l.length) (.int .i64 x.1) x.2.2.2.2 x.2.2.1) (0, .gs h.length 0 0 0 0 7 true, h ++ [some (0, [])], [h.length], []) ⟨by simp, bsl0_own h 7, by simp, by simp, HExt.app _ _⟩ ⟨by simp [impl_copiedSents_s0, LeL, LeV], rfl, rfl⟩ ?_
  rintro ⟨k, v, H, fp, L⟩ ⟨hk, ho, nd, hfp, hN⟩
  simp only at hk ho nd hfp hN
  simp only [EV, EL, EB, EF, q_bx, if_true, if_false, Bool.false_eq_true, Nat.reduceAdd, Option.bind_some, Bool.not_true, Bool.not_false, Nat.reduceBEq, impl_copiedSents_r, impl_copiedSents_s0]
  refine c_split (fun hlt => ?_) (fun hge => ?_)
  rotate_left
  · have hge : k = l.length := by simp at hge; omega
    subst hge
    simp only [EV, EL, EB, EF, q_bx, if_true, if_false, Bool.false_eq_true, Nat.reduceAdd, Option.bind_some, Bool.not_true, Bool.not_false, Nat.reduceBEq, impl_copiedSents_r]
    rw [List.take_length] at ho
    obtain ⟨N, rfl⟩ := hN.out
    exact ⟨ho.outOK, N, fp, rfl, ho, nd, hfp⟩
  have hlt : k < l.length := by simpa using hlt
  have i0 := idx_vm (β := β) (sz := 7) (ex := false) (ce := DSent.c β) hlt
  rw [e0] at i0
  have hox := ho' _ (List.getElem_mem hlt)
  simp only [EV, EL, EB, EF, q_bx, if_true, if_false, Bool.false_eq_true, Nat.reduceAdd, Option.bind_some, Bool.not_true, Bool.not_false, Nat.reduceBEq, impl_copiedSents_r, i0, DSent.c]
  refine TCall.ref (by simp only [EO]) (impl_Sent_copied_T β l[k] hox _) ?_
  rintro _ H1 fr
  replace fr : Fresh H _ _ _ := fr
  obtain ⟨aw, fw, rfl, ow, nw, bw, ew⟩ := fr.a1
  have hdis : (fp ++ fw).Nodup := nodup_app nd nw (fun c hc => ho.lt c hc) bw
  replace ho := ho.ext ew
  have hx1 := hN.trans ew
  have oo := ow
  simp only [DSent.cd, ownL_c, ownL_n, own_i, own_b, own_s] at oo
  obtain ⟨_, _, _, _, rfl, _, ⟨rfl, rfl⟩, ⟨_, _, _, _, rfl, _, ⟨rfl, rfl⟩, ⟨a2, _, g2, _, rfl, _, u2, ⟨_, _, _, _, rfl, _, ⟨rfl, rfl⟩, ⟨_, _, _, _, rfl, _, ⟨rfl, rfl⟩, ⟨_, _, _, _, rfl, _, ⟨rfl, rfl⟩, ⟨_, _, _, _, rfl, _, ⟨rfl, rfl⟩, ⟨rfl, _⟩⟩⟩⟩⟩⟩⟩⟩ := oo
  obtain ⟨c1, c2, c3, c4⟩ := u2.cell
  obtain ⟨v', H', fp', ea, o', nd', hf', hl', hm'⟩ := app_ext (bytes := 80) ho hdis (by omega) rfl ow (by simp only [List.length_map, List.length_take, maxMade]; omega)
  simp only [EV, EL, EB, EF, q_bx, if_true, if_false, Bool.false_eq_true, Nat.reduceAdd, Option.bind_some, Bool.not_true, Bool.not_false, Nat.reduceBEq, impl_copiedSents_r, EA, c1, c2, c3, ea]
  refine ⟨(k + 1, v', H', fp', _), ⟨hlt, by simp only; rw [List.take_succ_eq_append_getElem hlt, List.map_append]; exact o', nd', fun c hc => ?_, hx1.upd hl' hf' hfp⟩, by simp only; omega, ⟨by rw [wN (by omega)]; simp [impl_copiedSents_s0, LeL, LeV], rfl, rfl⟩⟩
  have := hN.len; have := hx1.len
  rcases hm' c hc with g | g | g
  · exact hfp c g
  · have := bw c g; omega
  · omega

theorem spec_l9CopySents_T (β : Bool) (l : List DSent) (hl : l.length ≤ 1048576) (ho' : ∀ x ∈ l, x.ok 1048576) (h : AH) : T Try.prog Γ Fn.spec_l9CopySents [.vs β 7 false (l.map (DSent.c β))] h (Fresh h [.c (.sl 7 (l.map DSent.cd))]) := by
  have L0 := len_vm β 7 false l (DSent.c β)
  generalize e0 : AV.vs β 7 false (l.map (DSent.c β)) = a0 at *
  refine T.freshC ?_
  refine spec_l9CopySents_e (aw_sound tabOK mixed [] _ _ _ ?_)
  unfold spec_l9CopySents_c
  simp only [EV, EL, EB, EF, q_bx, if_true, if_false, Bool.false_eq_true, Nat.reduceAdd, Option.bind_some, Bool.not_true, Bool.not_false, Nat.reduceBEq, spec_l9CopySents_r, EA, L0]
  refine loopI tabOK mixed [] (fun x : Nat × AV × AH × List Nat × List (List AV) => x.1 ≤ l.length ∧ Own x.2.2.1 x.2.1 (.sl 7 ((l.take x.1).map DSent.cd)) x.2.2.2.1 ∧ x.2.2.2.1.Nodup ∧ (∀ c ∈ x.2.2.2.1, h.length ≤ c) ∧ HExt h x.2.2.1) (fun x => l.length - x.1)
    (fun x => spec_l9CopySents_s0 a0 x.2.1 (.int .i64 x.1) x.2.2.2.2 x.2.2.1) (0, .gs h.length 0 0 0 0 7 true, h ++ [some (0, [])], [h.length], []) ⟨by simp, bsl0_own h 7, by simp, by simp, HExt.app _ _⟩ ⟨by simp [spec_l9CopySents_s0, LeL, LeV], rfl, rfl⟩ ?_
  rintro ⟨k, v, H, fp, L⟩ ⟨hk, ho, nd, hfp, hN⟩
  simp only at hk ho nd hfp hN
  simp only [EV, EL, EB, EF, q_bx, if_true, if_false, Bool.false_eq_true, Nat.reduceAdd, Option.bind_some, Bool.not_true, Bool.not_false, Nat.reduceBEq, spec_l9CopySents_r, spec_l9CopySents_s0, L0]
  refine c_split (fun hlt => ?_) (fun hge => ?_)
  rotate_left
  · have hge : k = l.length := by simp at hge; omega
    subst hge
    simp only [EV, EL, EB, EF, q_bx, if_true, if_false, Bool.false_eq_true, Nat.reduceAdd, Option.bind_some, Bool.not_true, Bool.not_false, Nat.reduceBEq, spec_l9CopySents_r]
    rw [List.take_length] at ho
    obtain ⟨N, rfl⟩ := hN.out
    exact ⟨ho.outOK, N, fp, rfl, ho, nd, hfp⟩
  have hlt : k < l.length := by simpa using hlt
  have i0 := idx_vm (β := β) (sz := 7) (ex := false) (ce := DSent.c β) hlt
  rw [e0] at i0
  have hox := ho' _ (List.getElem_mem hlt)
  have hal : l[k].args.length ≤ 1048576 := hox.2
  have ho1 := ho.ext (HExt.app H [some (0, [])])
  obtain ⟨w, H1, fw, eb, ow, nw, hfw, hlw, hmw⟩ := app_vs (bytes := 16) (bsl0_own H 2) (by simp) (by omega) (β := β) (l := l[k].args) (c := DValue.c β) (fun x => ⟨rfl, rfl⟩) (fun x => (DValue.c_eq false x).symm) (by simp only [List.length_nil, maxMade]; omega)
  have ew : HExt H H1 := (HExt.app H [some (0, [])]).upd hlw hfw (by simp)
  have bw : ∀ c ∈ fw, H.length ≤ c := fun c hc => by
    rcases hmw c hc with g | g
    · simp at g; omega
    · simp at g; omega
  have hdis : (fp ++ (fw ++ [])).Nodup := by rw [List.append_nil]; exact nodup_app nd nw (fun c hc => ho.lt c hc) bw
  replace ho := ho.ext ew
  have hx1 := hN.trans ew
  obtain ⟨c1, c2, c3, c4⟩ := ow.cell
  have ow2 : OwnL H1 [.int .i64 l[k].target, .str l[k].name, w, .int .i64 l[k].result, .int .i64 l[k].tag.vat, .int .i64 l[k].tag.entity, .int .i64 l[k].tag.seq] l[k].cd (fw ++ []) := .i (.s (.o ow (.i (.i (.i (.i .nil))))))
  obtain ⟨v', H', fp', ea, o', nd', hf', hl', hm'⟩ := app_ext (bytes := 80) ho hdis (by omega) rfl ow2 (by simp only [List.length_map, List.length_take, maxMade]; omega)
  simp only [EV, EL, EB, EF, q_bx, if_true, if_false, Bool.false_eq_true, Nat.reduceAdd, Option.bind_some, Bool.not_true, Bool.not_false, Nat.reduceBEq, spec_l9CopySents_r, i0, DSent.c, EA, EB2, eb, c1, c2, c3, ea]
  refine ⟨(k + 1, v', H', fp', _), ⟨hlt, by simp only; rw [List.take_succ_eq_append_getElem hlt, List.map_append]; exact o', nd', fun c hc => ?_, hx1.upd hl' hf' hfp⟩, by simp only; omega, ⟨by rw [wN (by omega)]; simp [spec_l9CopySents_s0, LeL, LeV], rfl, rfl⟩⟩
  have := hN.len; have := hx1.len
  rcases hm' c hc with g | g | g
  · exact hfp c g
  · have := bw c (by simpa using g); omega
  · omega

def newLoopF (a b : DVat) : List DSent := if b.loop.length < a.loop.length then [] else b.loop.drop a.loop.length
theorem newLoop_mem {a b : DVat} {x : DSent} (h : x ∈ newLoopF a b) : x ∈ b.loop := by
  unfold newLoopF at h; split at h
  · simp at h
  · exact List.mem_of_mem_drop h
theorem newLoop_len (a b : DVat) : (newLoopF a b).length ≤ b.loop.length := by unfold newLoopF; split <;> simp
theorem nil_fresh (h : AH) (sz : Nat) : Own h .nils (.sl sz []) [] := .nil _

theorem impl_NewLoop_T (β : Bool) (a b : DVat) (ha : a.ok 1048576) (hb : b.ok 1048576) (h : AH) : T Try.prog Γ Fn.impl_NewLoop [.agg (a.c β), .agg (b.c β)] h (Fresh h [.c (.sl 7 ((newLoopF a b).map DSent.cd))]) := by
  have L0 := len_vm β 7 false a.loop (DSent.c β)
  have L1 := len_vm β 7 false b.loop (DSent.c β)
  have hbl : b.loop.length ≤ 1048576 := hb.2.2.1
  refine T.freshC ?_
  refine impl_NewLoop_e (aw_sound tabOK mixed [] _ _ _ ?_)
  unfold impl_NewLoop_c
  by_cases hc : (b.loop.length : Int) < (a.loop.length : Int)
  · simp only [EV, EL, EB, EF, q_bx, if_true, if_false, Bool.false_eq_true, Nat.reduceAdd, Option.bind_some, Bool.not_true, Bool.not_false, Nat.reduceBEq, impl_NewLoop_r, EB2, ER, DVat.c, L0, L1, decide_eq_true hc]
    refine ⟨rfl, [], [], by simp, ?_, by simp, by simp⟩
    rw [newLoopF, if_pos (by omega)]; exact .nil _
  simp only [EV, EL, EB, EF, q_bx, if_true, if_false, Bool.false_eq_true, Nat.reduceAdd, Option.bind_some, Bool.not_true, Bool.not_false, Nat.reduceBEq, impl_NewLoop_r, EB2, ER, DVat.c, L0, L1, decide_eq_false hc, p_cutFrom, cut_from _ _ _ b.loop _ (show a.loop.length ≤ b.loop.length by omega)]
  refine TCall.ref (by simp only [EO]) (impl_copiedSents_T β _ (by rw [List.length_drop]; omega) (fun x hx => hb.2.2.2.1 x (List.mem_of_mem_drop hx)) _) ?_
  rintro w H1 fr
  replace fr : Fresh h _ _ _ := fr
  obtain ⟨fw, ow, nw, bw, ew⟩ := fr.c1
  simp only [EV, EL, EB, EF, q_bx, if_true, if_false, Bool.false_eq_true, Nat.reduceAdd, Option.bind_some, Bool.not_true, Bool.not_false, Nat.reduceBEq, impl_NewLoop_r]
  obtain ⟨N, rfl⟩ := ew.out
  refine ⟨ow.outOK, N, fw, rfl, ?_, nw, bw⟩
  rw [newLoopF, if_neg (by omega)]; exact ow

theorem spec_NewLoop_T (β : Bool) (a b : DVat) (ha : a.ok 1048576) (hb : b.ok 1048576) (h : AH) : T Try.prog Γ Fn.spec_NewLoop [.agg (a.c β), .agg (b.c β)] h (Fresh h [.c (.sl 7 ((newLoopF a b).map DSent.cd))]) := by
  have L0 := len_vm β 7 false a.loop (DSent.c β)
  have L1 := len_vm β 7 false b.loop (DSent.c β)
  have hbl : b.loop.length ≤ 1048576 := hb.2.2.1
  refine T.freshC ?_
  refine spec_NewLoop_e (aw_sound tabOK mixed [] _ _ _ ?_)
  unfold spec_NewLoop_c
  by_cases hc : (b.loop.length : Int) < (a.loop.length : Int)
  · simp only [EV, EL, EB, EF, q_bx, if_true, if_false, Bool.false_eq_true, Nat.reduceAdd, Option.bind_some, Bool.not_true, Bool.not_false, Nat.reduceBEq, spec_NewLoop_r, EB2, ER, EA, DVat.c, L0, L1, decide_eq_true hc]
    refine ⟨rfl, _, [h.length], rfl, ?_, by simp, by simp⟩
    rw [newLoopF, if_pos (by omega)]; exact bsl0_own h 7
  simp only [EV, EL, EB, EF, q_bx, if_true, if_false, Bool.false_eq_true, Nat.reduceAdd, Option.bind_some, Bool.not_true, Bool.not_false, Nat.reduceBEq, spec_NewLoop_r, EB2, ER, DVat.c, L0, L1, decide_eq_false hc, p_cutFrom, cut_from _ _ _ b.loop _ (show a.loop.length ≤ b.loop.length by omega)]
  refine TCall.ref (by simp only [EO]) (spec_l9CopySents_T β _ (by rw [List.length_drop]; omega) (fun x hx => hb.2.2.2.1 x (List.mem_of_mem_drop hx)) _) ?_
  rintro w H1 fr
  replace fr : Fresh h _ _ _ := fr
  obtain ⟨fw, ow, nw, bw, ew⟩ := fr.c1
  simp only [EV, EL, EB, EF, q_bx, if_true, if_false, Bool.false_eq_true, Nat.reduceAdd, Option.bind_some, Bool.not_true, Bool.not_false, Nat.reduceBEq, spec_NewLoop_r]
  obtain ⟨N, rfl⟩ := ew.out
  refine ⟨ow.outOK, N, fw, rfl, ?_, nw, bw⟩
  rw [newLoopF, if_neg (by omega)]; exact ow

end Go.Proofs.Ytjmcfdhklogpkaa
