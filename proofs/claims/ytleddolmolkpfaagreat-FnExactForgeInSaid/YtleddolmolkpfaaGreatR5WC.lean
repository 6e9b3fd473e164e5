import Derived.Test.YtleddolmolkpfaaGreatR5CP
import Derived.Test.YtleddolmolkpfaaGreatAmLoc
import Derived.Test.YtleddolmolkpfaaGreatAmCut
set_option linter.unusedVariables false
set_option linter.unusedSimpArgs false
namespace Go.Proofs.YtleddolmolkpfaaGreat
open Go.AM
set_option linter.unusedVariables false
set_option linter.unusedSimpArgs false
variable {Γ : Glob}
theorem clone_Instr (β : Bool) (l : List DInstr) (hl : l.length ≤ 1048576) (h : AH) : T Tryz.prog Γ Fn.kcz [.vs β 6 false (l.map (DInstr.c β))] h (Fresh h [.c (.sl 6 (l.map DInstr.cd))]) :=
  clone_D tabOK mixed (fun hw => kcz_e hw) (by omega) (by simp only [maxMade]; omega) (fun x => ⟨rfl, rfl⟩) (fun x => (DInstr.c_eq false x).symm)
theorem clone_Note (β : Bool) (l : List DNote) (hl : l.length ≤ 1048576) (h : AH) : T Tryz.prog Γ Fn.kcA [.vs β 6 false (l.map (DNote.c β))] h (Fresh h [.c (.sl 6 (l.map DNote.cd))]) :=
  clone_D tabOK mixed (fun hw => kcA_e hw) (by omega) (by simp only [maxMade]; omega) (fun x => ⟨rfl, rfl⟩) (fun x => (DNote.c_eq false x).symm)
theorem kaf_T (β : Bool) (e : DMethod) (he : e.ok 1048576) (h : AH) : T Tryz.prog Γ Fn.kaf [.agg (e.c β)] h (Fresh h [.a e.cd]) := by
  refine T.freshA ?_
  refine kaf_e (aw_sound tabOK mixed [] _ _ _ ?_)
  unfold kaf_c
  simp only [EZ, q_bx, if_true, if_false, Nat.reduceAdd, Option.bind_some, Nat.reduceBEq, kaf_r, kaf_d0_q, EB2, ER, DMethod.c]
  refine TCall.ref (by simp only [EO]) (clone_Instr β e.code he.2.1 _) ?_
  rintro w1 H1 fr
  replace fr : Fresh h _ _ _ := fr
  obtain ⟨f1, o1, n1, b1, e1⟩ := fr.c1
  obtain ⟨a1a, a1b, a1c, a1d⟩ := o1.cell
  simp only [EZ, q_bx, if_true, if_false, Nat.reduceAdd, Option.bind_some, Nat.reduceBEq, kaf_r, kaf_d0_q, EB2, ER, DMethod.c, a1a, a1b, a1c]
  obtain ⟨N, hN⟩ := e1.out
  refine ⟨keep_lp' rfl, by simp [outOK, out1, a1b, a1c, a1d, nn_i', nn_s', nn_b'], _, N, f1 ++ [], rfl, hN, ?_, by rw [List.append_nil]; exact n1, fun c hc => b1 c (by simpa using hc)⟩
  exact .s (.o o1 .nil)
theorem kcQ_T (β : Bool) (e : DMethod) (he : e.ok 1048576) (h : AH) : T Tryz.prog Γ Fn.kcQ [.agg (e.c β)] h (Fresh h [.a e.cd]) := by
  refine T.freshA ?_
  refine kcQ_e (aw_sound tabOK mixed [] _ _ _ ?_)
  unfold kcQ_c
  obtain ⟨w1, H1, f1, ea1, o1, n1, hf1, hl1, hm1⟩ := app_vs (bytes := 56) (bsl0_own h 6) (by simp) (by omega) (β := β) (l := e.code) (c := DInstr.c β) (fun x => ⟨rfl, rfl⟩) (fun x => (DInstr.c_eq false x).symm) (by have := he.2.1; simp only [List.length_nil, maxMade]; omega)
  have e1 : HExt h H1 := (HExt.app h [some (0, [])]).upd hl1 hf1 (by simp)
  have b1 : ∀ c ∈ f1, h.length ≤ c := fun c hc => by
    rcases hm1 c hc with g | g
    · simp at g; omega
    · simp at g; omega
  obtain ⟨a1a, a1b, a1c, a1d⟩ := o1.cell
  simp only [EZ, q_bx, if_true, if_false, Nat.reduceAdd, Option.bind_some, Nat.reduceBEq, kcQ_r, kcQ_d0_q, EB2, ER, DMethod.c, EA, ea1, a1a, a1b, a1c]
  obtain ⟨N, hN⟩ := e1.out
  refine ⟨keep_lp' rfl, by simp [outOK, out1, a1b, a1c, a1d, nn_i', nn_s', nn_b'], _, N, f1 ++ [], rfl, hN, ?_, by rw [List.append_nil]; exact n1, fun c hc => b1 c (by simpa using hc)⟩
  exact .s (.o o1 .nil)
theorem kaa_T (β : Bool) (v : DChannel) (hv : v.ok 1048576) (h : AH) : T Tryz.prog Γ Fn.kaa [.agg (v.c β)] h (Fresh h [.a v.cd]) := by
  have L0 := len_vm β 12 false v.list (DMessage.c β)
  have hvl : v.list.length ≤ 1048576 := hv.1
  have hve : ∀ x ∈ v.list, x.ok 1048576 := hv.2
  refine T.freshA ?_
  refine kaa_e (aw_sound tabOK mixed [] _ _ _ ?_)
  unfold kaa_c
  simp only [EZ, q_bx, if_true, if_false, Nat.reduceAdd, Option.bind_some, Nat.reduceBEq, kaa_r, kaa_d0_q, EB2, ER, DChannel.c, L0]
  refine loopI tabOK mixed [] (fun y : Nat × AV × AH × List Nat × List (List AV) => y.1 ≤ v.list.length ∧ Own y.2.2.1 y.2.1 (.sl 12 ((v.list.take y.1).map DMessage.cd)) y.2.2.2.1 ∧ y.2.2.2.1.Nodup ∧ (∀ c ∈ y.2.2.2.1, h.length ≤ c) ∧ HExt h y.2.2.1 ∧ y.2.2.2.2[([] : List (List AV)).length]? = some (v.c β) ∧ (∃ zzR_A, y.2.2.2.2[([] : List (List AV)).length + 1]? = some zzR_A ∧ zzR_A.length = 3) ∧ y.2.2.2.2[([] : List (List AV)).length + 2]? = some [AV.int .i64 v.frm, .int .i64 v.to_, y.2.1]) (fun y => v.list.length - y.1)
    (fun y => kaa_s0 (.lp (([] : List (List AV)).length + 1) 0) (.lp (([] : List (List AV)).length + 2) 0) (.vs β 12 false (v.list.map (DMessage.c β))) (.int .i64 v.list.length) (.int .i64 y.1) y.2.2.2.2 y.2.2.1) (0, .nils, h, [], _) ⟨by simp, .nil _, by simp, by simp, HExt.refl _, rfl, ⟨_, rfl, rfl⟩, rfl⟩ ⟨by simp [kaa_s0, LeL, LeV], rfl, rfl⟩ ?_
  rintro ⟨k, w_A, H_A, fp_A, M_A⟩ ⟨hk, ho_A, nd_A, hfp_A, hx_A, hKS_A, ⟨zzR_A, hKR_A, hzR_A⟩, hM_A⟩
  simp only at hk ho_A nd_A hfp_A hx_A hKS_A hKR_A hM_A
  have hMl_A : ([] : List (List AV)).length + 2 < M_A.length := getElem?_lt hM_A
  obtain ⟨k1_A, k2_A, k3_A, k4_A⟩ := ho_A.cell
  simp only [EZ, q_bx, if_true, if_false, Nat.reduceAdd, Option.bind_some, Nat.reduceBEq, kaa_r, kaa_d0_q, kaa_s0]
  refine c_split (fun hlt => ?_) (fun hge => ?_)
  · have hlt : k < v.list.length := by simpa using hlt
    have i0 := idx_vm (β := β) (sz := 12) (ex := false) (ce := DMessage.c β) hlt
    have he := hve _ (List.getElem_mem hlt)
    obtain ⟨x, hxe⟩ : ∃ x, x = v.list[k] := ⟨_, rfl⟩
    rw [← hxe] at i0 he
    have r2 : ∀ (z : List AV) (e : List AV) (h : AH) (off n : Nat), (St.mk e (M_A ++ [z]) h).cells (.lp (([] : List (List AV)).length + 2) off) n = sub [AV.int .i64 v.frm, .int .i64 v.to_, w_A] off n := fun z e h off n => cells_at (at_app hM_A _)
    have s2 : ∀ (z : List AV) (e : List AV) (h : AH) (a : AV), isCell a = true → (St.mk e (M_A ++ [z]) h).store (.lp (([] : List (List AV)).length + 2) 2) [a] = some ⟨e, (M_A ++ [z]).set (([] : List (List AV)).length + 2) (over [AV.int .i64 v.frm, .int .i64 v.to_, w_A] 2 [a]), h⟩ := fun z e h a ha => store_at (at_app hM_A _) (by simp) ha
    have rl : ∀ (z : List AV) (e : List AV) (h : AH) (off n : Nat), (St.mk e (M_A ++ [z]) h).cells (.lp M_A.length off) n = sub z off n := fun z e h off n => cells_at (at_last _ _)
    simp only [EZ, q_bx, if_true, if_false, Nat.reduceAdd, Option.bind_some, Nat.reduceBEq, kaa_r, kaa_d0_q, i0, DMessage.c, EB2, r2, rl, k1_A, k2_A, k3_A]
    refine TCall.ref (by simp only [EO]) (kae_T β x he _) ?_
    rintro _ Hc fr
    replace fr : Fresh H_A _ _ _ := fr
    obtain ⟨aw, fw, rfl, ow, nw, bw, ew⟩ := fr.a1
    have hdis : (fp_A ++ fw).Nodup := nodup_app nd_A nw (fun c hc => ho_A.lt c hc) bw
    replace ho_A := ho_A.ext ew
    have hx1 := hx_A.trans ew
    have oo := ow
    simp only [DMessage.cd, ownL_c, ownL_n, own_i, own_b, own_s] at oo
    obtain ⟨_, _, _, _, rfl, _, ⟨rfl, rfl⟩, ⟨_, _, _, _, rfl, _, ⟨rfl, rfl⟩, ⟨_, _, _, _, rfl, _, ⟨rfl, rfl⟩, ⟨_, _, _, _, rfl, _, ⟨rfl, rfl⟩, ⟨_, _, _, _, rfl, _, ⟨rfl, rfl⟩, ⟨az5, _, _, _, rfl, _, uz5, ⟨_, _, _, _, rfl, _, ⟨rfl, rfl⟩, ⟨_, _, _, _, rfl, _, ⟨rfl, rfl⟩, ⟨_, _, _, _, rfl, _, ⟨rfl, rfl⟩, ⟨_, _, _, _, rfl, _, ⟨rfl, rfl⟩, ⟨_, _, _, _, rfl, _, ⟨rfl, rfl⟩, ⟨_, _, _, _, rfl, _, ⟨rfl, rfl⟩, ⟨rfl, _⟩⟩⟩⟩⟩⟩⟩⟩⟩⟩⟩⟩⟩ := oo
    obtain ⟨cz5a, cz5b, cz5c, cz5d⟩ := uz5.cell
    obtain ⟨v', H', fp', ea, o', nd', hf', hl', hm'⟩ := app_ext (bytes := 120) ho_A hdis (by omega) rfl ow (by simp only [List.length_map, List.length_take, maxMade]; omega)
    obtain ⟨j1, j2, j3, j4⟩ := o'.cell
    simp only [EZ, q_bx, if_true, if_false, Nat.reduceAdd, Option.bind_some, Nat.reduceBEq, kaa_r, kaa_d0_q, EA, EB2, ER, cz5a, cz5b, cz5c, r2, rl, k1_A, k2_A, k3_A, ea, j1, j2, j3, s2 _ _ _ _ j2]
    have hl9 := hx_A.len
    have hl8 := hx1.len
    have hb' : ∀ c ∈ fp', h.length ≤ c := fun c hc => by
      rcases hm' c hc with g | g | g
      · exact hfp_A c g
      · have := bw c g; omega
      · omega
    refine ⟨(by first | exact ew.mem _ _ _ | exact mem_keep (ew.mem _ _ _)), ?_⟩
    exact ⟨(k + 1, v', H', fp', _), ⟨hlt, by simp only; rw [List.take_succ_eq_append_getElem hlt, List.map_append, ← hxe]; exact o', nd', hb', hx1.upd hl' hf' hfp_A, at_set (at_app hKS_A _) (by simp), ⟨zzR_A, at_set (at_app hKR_A _) (by simp), hzR_A⟩, at_setS (at_app hM_A _)⟩, by simp only; omega, ⟨by rw [wN (by omega)]; simp [kaa_s0, LeL, LeV], rfl, rfl⟩⟩
  have hge : k = v.list.length := by simp at hge; omega
  subst hge
  rw [List.take_length] at ho_A
  simp only [EZ, q_bx, if_true, if_false, Nat.reduceAdd, Option.bind_some, Nat.reduceBEq, kaa_r, kaa_d0_q, show ∀ (e : List AV) (h : AH) (off n : Nat), (St.mk e M_A h).cells (.lp (([] : List (List AV)).length + 2) off) n = sub [AV.int .i64 v.frm, .int .i64 v.to_, w_A] off n from fun e h off n => cells_at hM_A, show ∀ (e : List AV) (h : AH), (St.mk e M_A h).store (.lp (([] : List (List AV)).length + 1) 0) [AV.int .i64 v.frm, .int .i64 v.to_, w_A] = some ⟨e, M_A.set (([] : List (List AV)).length + 1) [AV.int .i64 v.frm, .int .i64 v.to_, w_A], h⟩ from fun e h => store_all hKR_A (by rw [hzR_A]; rfl) (by simp only [List.all_cons, List.all_nil, k2_A, Bool.and_true]; rfl), show ∀ (e : List AV) (h : AH) (off n : Nat), (St.mk e (M_A.set (([] : List (List AV)).length + 1) [AV.int .i64 v.frm, .int .i64 v.to_, w_A]) h).cells (.lp (([] : List (List AV)).length + 1) off) n = sub [AV.int .i64 v.frm, .int .i64 v.to_, w_A] off n from fun e h off n => cells_at (at_setS hKR_A), ER, EB2]
  obtain ⟨N, hN⟩ := hx_A.out
  exact ⟨by simp [outOK, out1, k2_A, k3_A, k4_A, nn_i', nn_s', nn_b'], _, N, fp_A ++ [], rfl, hN, .i (.i (.o ho_A .nil)), by rw [List.append_nil]; exact nd_A, fun c hc => hfp_A c (by simpa using hc)⟩
theorem kal_T (β : Bool) (l : List DChannel) (hl : l.length ≤ 1048576) (ho' : ∀ x ∈ l, x.ok 1048576) (h : AH) : T Tryz.prog Γ Fn.kal [.vs β 3 false (l.map (DChannel.c β))] h (Fresh h [.c (.sl 3 (l.map DChannel.cd))]) := by
  have L0 := len_vm β 3 false l (DChannel.c β)
  generalize e0 : AV.vs β 3 false (l.map (DChannel.c β)) = a0 at *
  refine T.freshC ?_
  refine kal_e (aw_sound tabOK mixed [] _ _ _ ?_)
  unfold kal_c
  simp only [EZ, q_bx, if_true, if_false, Nat.reduceAdd, Option.bind_some, Nat.reduceBEq, kal_r, EA, L0]
  refine loopI tabOK mixed [] (fun x : Nat × AV × AH × List Nat × List (List AV) => x.1 ≤ l.length ∧ Own x.2.2.1 x.2.1 (.sl 3 ((l.take x.1).map DChannel.cd)) x.2.2.2.1 ∧ x.2.2.2.1.Nodup ∧ (∀ c ∈ x.2.2.2.1, h.length ≤ c) ∧ HExt h x.2.2.1) (fun x => l.length - x.1)
    (fun x => kal_s0 x.2.1 a0 (.int .i64 l.length) (.int .i64 x.1) x.2.2.2.2 x.2.2.1) (0, .gs h.length 0 0 0 0 3 true, h ++ [some (0, [])], [h.length], []) ⟨by simp, bsl0_own h 3, by simp, by simp, HExt.app _ _⟩ ⟨by simp [kal_s0, LeL, LeV], rfl, rfl⟩ ?_
  rintro ⟨k, v, H, fp, L⟩ ⟨hk, ho, nd, hfp, hN⟩
  simp only at hk ho nd hfp hN
  simp only [EZ, q_bx, if_true, if_false, Nat.reduceAdd, Option.bind_some, Nat.reduceBEq, kal_r, kal_s0, L0]
  refine c_split (fun hlt => ?_) (fun hge => ?_)
  rotate_left
  · have hge : k = l.length := by simp at hge; omega
    subst hge
    simp only [EZ, q_bx, if_true, if_false, Nat.reduceAdd, Option.bind_some, Nat.reduceBEq, kal_r]
    rw [List.take_length] at ho
    obtain ⟨N, rfl⟩ := hN.out
    exact ⟨ho.outOK, N, fp, rfl, ho, nd, hfp⟩
  have hlt : k < l.length := by simpa using hlt
  have i0 := idx_vm (β := β) (sz := 3) (ex := false) (ce := DChannel.c β) hlt
  rw [e0] at i0
  have hox := ho' _ (List.getElem_mem hlt)
  obtain ⟨x, hxe⟩ : ∃ x, x = l[k] := ⟨_, rfl⟩
  rw [← hxe] at i0 hox
  simp only [EZ, q_bx, if_true, if_false, Nat.reduceAdd, Option.bind_some, Nat.reduceBEq, kal_r, i0, DChannel.c, EB2, L0]
  refine TCall.ref (by simp only [EO]) (kaa_T β x hox _) ?_
  rintro _ H1 fr
  replace fr : Fresh H _ _ _ := fr
  obtain ⟨aw, fw, rfl, ow, nw, bw, ew⟩ := fr.a1
  have hdis : (fp ++ fw).Nodup := nodup_app nd nw (fun c hc => ho.lt c hc) bw
  replace ho := ho.ext ew
  have hx1 := hN.trans ew
  have oo := ow
  simp only [DChannel.cd, ownL_c, ownL_n, own_i, own_b, own_s] at oo
  obtain ⟨_, _, _, _, rfl, _, ⟨rfl, rfl⟩, ⟨_, _, _, _, rfl, _, ⟨rfl, rfl⟩, ⟨az2, _, _, _, rfl, _, uz2, ⟨rfl, _⟩⟩⟩⟩ := oo
  obtain ⟨cz2a, cz2b, cz2c, cz2d⟩ := uz2.cell
  obtain ⟨v', H', fp', ea, o', nd', hf', hl', hm'⟩ := app_ext (bytes := 40) ho hdis (by omega) rfl ow (by simp only [List.length_map, List.length_take, maxMade]; omega)
  simp only [EZ, q_bx, if_true, if_false, Nat.reduceAdd, Option.bind_some, Nat.reduceBEq, kal_r, EA, EB2, cz2a, cz2b, cz2c, ea]
  refine ⟨(k + 1, v', H', fp', _), ⟨hlt, by simp only; rw [List.take_succ_eq_append_getElem hlt, List.map_append, ← hxe]; exact o', nd', fun c hc => ?_, hx1.upd hl' hf' hfp⟩, by simp only; omega, ⟨by rw [wN (by omega)]; simp [kal_s0, LeL, LeV], rfl, rfl⟩⟩
  have := hN.len; have := hx1.len
  rcases hm' c hc with g | g | g
  · exact hfp c g
  · have := bw c g; omega
  · omega
theorem kam_T (β : Bool) (l : List DScript) (hl : l.length ≤ 1048576) (ho' : ∀ x ∈ l, x.ok 1048576) (h : AH) : T Tryz.prog Γ Fn.kam [.vs β 2 false (l.map (DScript.c β))] h (Fresh h [.c (.sl 2 (l.map DScript.cd))]) := by
  have L0 := len_vm β 2 false l (DScript.c β)
  generalize e0 : AV.vs β 2 false (l.map (DScript.c β)) = a0 at *
  refine T.freshC ?_
  refine kam_e (aw_sound tabOK mixed [] _ _ _ ?_)
  unfold kam_c
  simp only [EZ, q_bx, if_true, if_false, Nat.reduceAdd, Option.bind_some, Nat.reduceBEq, kam_r, kam_d0_q, EA, L0]
  refine loopI tabOK mixed [] (fun x : Nat × AV × AH × List Nat × List (List AV) => x.1 ≤ l.length ∧ Own x.2.2.1 x.2.1 (.sl 2 ((l.take x.1).map DScript.cd)) x.2.2.2.1 ∧ x.2.2.2.1.Nodup ∧ (∀ c ∈ x.2.2.2.1, h.length ≤ c) ∧ HExt h x.2.2.1) (fun x => l.length - x.1)
    (fun x => kam_s0 x.2.1 a0 (.int .i64 l.length) (.int .i64 x.1) x.2.2.2.2 x.2.2.1) (0, .gs h.length 0 0 0 0 2 true, h ++ [some (0, [])], [h.length], []) ⟨by simp, bsl0_own h 2, by simp, by simp, HExt.app _ _⟩ ⟨by simp [kam_s0, LeL, LeV], rfl, rfl⟩ ?_
  rintro ⟨kk, vv, HB, fb, L⟩ ⟨hk, hoB, ndB, hfB, hN⟩
  simp only at hk hoB ndB hfB hN
  simp only [EZ, q_bx, if_true, if_false, Nat.reduceAdd, Option.bind_some, Nat.reduceBEq, kam_r, kam_d0_q, kam_s0]
  refine c_split (fun hlt => ?_) (fun hge => ?_)
  rotate_left
  · have hge : kk = l.length := by simp at hge; omega
    subst hge
    simp only [EZ, q_bx, if_true, if_false, Nat.reduceAdd, Option.bind_some, Nat.reduceBEq, kam_r, kam_d0_q]
    rw [List.take_length] at hoB
    obtain ⟨N, rfl⟩ := hN.out
    exact ⟨hoB.outOK, N, fb, rfl, hoB, ndB, hfB⟩
  have hltB : kk < l.length := by simpa using hlt
  have i0 := idx_vm (β := β) (sz := 2) (ex := false) (ce := DScript.c β) hltB
  rw [e0] at i0
  have hox := ho' _ (List.getElem_mem hltB)
  obtain ⟨sx, hze⟩ : ∃ sx, sx = l[kk] := ⟨_, rfl⟩
  rw [← hze] at i0 hox
  have hzl : sx.methods.length ≤ 1048576 := hox.2.1
  have hme := hox.2.2
  have L1 := len_vm β 2 false sx.methods (DMethod.c β)
  simp only [EZ, q_bx, if_true, if_false, Nat.reduceAdd, Option.bind_some, Nat.reduceBEq, kam_r, kam_d0_q, i0, DScript.c, EB2, L1]
  refine loopI tabOK mixed [] (fun y : Nat × AV × AH × List Nat × List (List AV) => y.1 ≤ sx.methods.length ∧ Own y.2.2.1 y.2.1 (.sl 2 ((sx.methods.take y.1).map DMethod.cd)) y.2.2.2.1 ∧ y.2.2.2.1.Nodup ∧ (∀ c ∈ y.2.2.2.1, HB.length ≤ c) ∧ HExt HB y.2.2.1 ∧ y.2.2.2.2[L.length + 1]? = some [AV.str sx.name, y.2.1]) (fun y => sx.methods.length - y.1)
    (fun y => kam_s1 vv (.lp (L.length + 1) 0) a0 (.int .i64 l.length) (.int .i64 kk) (.vs β 2 false (sx.methods.map (DMethod.c β))) (.int .i64 sx.methods.length) (.int .i64 y.1) y.2.2.2.2 y.2.2.1) (0, .nils, HB, [], _) ⟨by simp, .nil _, by simp, by simp, HExt.refl _, by simp⟩ ⟨by simp [kam_s1, LeL, LeV], rfl, rfl⟩ ?_
  rintro ⟨k, w_A, H_A, fp_A, M_A⟩ ⟨hk, ho_A, nd_A, hfp_A, hx_A, hM_A⟩
  simp only at hk ho_A nd_A hfp_A hx_A  hM_A
  have hMl_A : L.length + 1 < M_A.length := getElem?_lt hM_A
  obtain ⟨k1_A, k2_A, k3_A, k4_A⟩ := ho_A.cell
  simp only [EZ, q_bx, if_true, if_false, Nat.reduceAdd, Option.bind_some, Nat.reduceBEq, kam_r, kam_d0_q, kam_s1]
  refine c_split (fun hlt => ?_) (fun hge => ?_)
  · have hlt : k < sx.methods.length := by simpa using hlt
    have i0 := idx_vm (β := β) (sz := 2) (ex := false) (ce := DMethod.c β) hlt
    have he := hme _ (List.getElem_mem hlt)
    obtain ⟨x, hxe⟩ : ∃ x, x = sx.methods[k] := ⟨_, rfl⟩
    rw [← hxe] at i0 he
    have r2 : ∀ (z : List AV) (e : List AV) (h : AH) (off n : Nat), (St.mk e (M_A ++ [z]) h).cells (.lp (L.length + 1) off) n = sub [AV.str sx.name, w_A] off n := fun z e h off n => cells_at (at_app hM_A _)
    have s2 : ∀ (z : List AV) (e : List AV) (h : AH) (a : AV), isCell a = true → (St.mk e (M_A ++ [z]) h).store (.lp (L.length + 1) 1) [a] = some ⟨e, (M_A ++ [z]).set (L.length + 1) (over [AV.str sx.name, w_A] 1 [a]), h⟩ := fun z e h a ha => store_at (at_app hM_A _) (by simp) ha
    have rl : ∀ (z : List AV) (e : List AV) (h : AH) (off n : Nat), (St.mk e (M_A ++ [z]) h).cells (.lp M_A.length off) n = sub z off n := fun z e h off n => cells_at (at_last _ _)
    simp only [EZ, q_bx, if_true, if_false, Nat.reduceAdd, Option.bind_some, Nat.reduceBEq, kam_r, kam_d0_q, i0, DMethod.c, EB2, r2, rl, k1_A, k2_A, k3_A]
    refine TCall.ref (by simp only [EO]) (kaf_T β x he _) ?_
    rintro _ Hc fr
    replace fr : Fresh H_A _ _ _ := fr
    obtain ⟨aw, fw, rfl, ow, nw, bw, ew⟩ := fr.a1
    have hdis : (fp_A ++ fw).Nodup := nodup_app nd_A nw (fun c hc => ho_A.lt c hc) bw
    replace ho_A := ho_A.ext ew
    have hx1 := hx_A.trans ew
    have oo := ow
    simp only [DMethod.cd, ownL_c, ownL_n, own_i, own_b, own_s] at oo
    obtain ⟨_, _, _, _, rfl, _, ⟨rfl, rfl⟩, ⟨az1, _, _, _, rfl, _, uz1, ⟨rfl, _⟩⟩⟩ := oo
    obtain ⟨cz1a, cz1b, cz1c, cz1d⟩ := uz1.cell
    obtain ⟨v', H', fp', ea, o', nd', hf', hl', hm'⟩ := app_ext (bytes := 40) ho_A hdis (by omega) rfl ow (by simp only [List.length_map, List.length_take, maxMade]; omega)
    obtain ⟨j1, j2, j3, j4⟩ := o'.cell
    simp only [EZ, q_bx, if_true, if_false, Nat.reduceAdd, Option.bind_some, Nat.reduceBEq, kam_r, kam_d0_q, EA, EB2, ER, cz1a, cz1b, cz1c, r2, rl, k1_A, k2_A, k3_A, ea, j1, j2, j3, s2 _ _ _ _ j2]
    have hl9 := hx_A.len
    have hl8 := hx1.len
    have hb' : ∀ c ∈ fp', HB.length ≤ c := fun c hc => by
      rcases hm' c hc with g | g | g
      · exact hfp_A c g
      · have := bw c g; omega
      · omega
    refine ⟨(by first | exact ew.mem _ _ _ | exact mem_keep (ew.mem _ _ _)), ?_⟩
    exact ⟨(k + 1, v', H', fp', _), ⟨hlt, by simp only; rw [List.take_succ_eq_append_getElem hlt, List.map_append, ← hxe]; exact o', nd', hb', hx1.upd hl' hf' hfp_A, at_setS (at_app hM_A _)⟩, by simp only; omega, ⟨by rw [wN (by omega)]; simp [kam_s1, LeL, LeV], rfl, rfl⟩⟩
  have hge : k = sx.methods.length := by simp at hge; omega
  subst hge
  rw [List.take_length] at ho_A
  have hox1 := hoB.ext hx_A
  have ow : OwnL H_A [.str sx.name, w_A] sx.cd (fp_A ++ []) := .s (.o ho_A .nil)
  have hdis : (fb ++ (fp_A ++ [])).Nodup := by rw [List.append_nil]; exact nodup_app ndB nd_A (fun c hc => hoB.lt c hc) hfp_A
  have hx1 := hN.trans hx_A
  obtain ⟨v', H', fp', ea, o', nd', hf', hl', hm'⟩ := app_ext (bytes := 40) hox1 hdis (by omega) rfl ow (by simp only [List.length_map, List.length_take, maxMade]; omega)
  simp only [EZ, q_bx, if_true, if_false, Nat.reduceAdd, Option.bind_some, Nat.reduceBEq, kam_r, kam_d0_q, EA, EB2, k1_A, k2_A, k3_A, ea, show ∀ (e : List AV) (h : AH) (off n : Nat), (St.mk e M_A h).cells (.lp (L.length + 1) off) n = sub [AV.str sx.name, w_A] off n from fun e h off n => cells_at hM_A]
  refine ⟨(kk + 1, v', H', fp', _), ⟨hltB, by simp only; rw [List.take_succ_eq_append_getElem hltB, List.map_append, ← hze]; exact o', nd', fun c hc => ?_, hx1.upd hl' hf' hfB⟩, by simp only; omega, ⟨by rw [wN (by omega)]; simp [kam_s0, LeL, LeV], rfl, rfl⟩⟩
  have := hN.len; have := hx1.len
  rcases hm' c hc with g | g | g
  · exact hfB c g
  · have := hfp_A c (by simpa using g); omega
  · omega
theorem kcO_T (β : Bool) (v : DScript) (hv : v.ok 1048576) (h : AH) : T Tryz.prog Γ Fn.kcO [.agg (v.c β)] h (Fresh h [.a v.cd]) := by
  have L0 := len_vm β 2 false v.methods (DMethod.c β)
  have hvl : v.methods.length ≤ 1048576 := hv.2.1
  have hve : ∀ x ∈ v.methods, x.ok 1048576 := hv.2.2
  refine T.freshA ?_
  refine kcO_e (aw_sound tabOK mixed [] _ _ _ ?_)
  unfold kcO_c
  simp only [EZ, q_bx, if_true, if_false, Nat.reduceAdd, Option.bind_some, Nat.reduceBEq, kcO_r, kcO_d0_q, EB2, ER, DScript.c, L0]
  refine loopI tabOK mixed [] (fun y : Nat × AV × AH × List Nat × List (List AV) => y.1 ≤ v.methods.length ∧ Own y.2.2.1 y.2.1 (.sl 2 ((v.methods.take y.1).map DMethod.cd)) y.2.2.2.1 ∧ y.2.2.2.1.Nodup ∧ (∀ c ∈ y.2.2.2.1, h.length ≤ c) ∧ HExt h y.2.2.1 ∧ y.2.2.2.2[([] : List (List AV)).length]? = some (v.c β) ∧ (∃ zzR_A, y.2.2.2.2[([] : List (List AV)).length + 1]? = some zzR_A ∧ zzR_A.length = 2) ∧ y.2.2.2.2[([] : List (List AV)).length + 2]? = some [AV.str v.name, y.2.1]) (fun y => v.methods.length - y.1)
    (fun y => kcO_s0 (.lp ([] : List (List AV)).length 0) (.lp (([] : List (List AV)).length + 1) 0) (.lp (([] : List (List AV)).length + 2) 0) (.int .i64 y.1) y.2.2.2.2 y.2.2.1) (0, .nils, h, [], _) ⟨by simp, .nil _, by simp, by simp, HExt.refl _, rfl, ⟨_, rfl, rfl⟩, rfl⟩ ⟨by simp [kcO_s0, LeL, LeV], rfl, rfl⟩ ?_
  rintro ⟨k, w_A, H_A, fp_A, M_A⟩ ⟨hk, ho_A, nd_A, hfp_A, hx_A, hKS_A, ⟨zzR_A, hKR_A, hzR_A⟩, hM_A⟩
  simp only at hk ho_A nd_A hfp_A hx_A hKS_A hKR_A hM_A
  have hMl_A : ([] : List (List AV)).length + 2 < M_A.length := getElem?_lt hM_A
  obtain ⟨k1_A, k2_A, k3_A, k4_A⟩ := ho_A.cell
  have r0_A : ∀ (e : List AV) (h : AH) (off n : Nat), (St.mk e M_A h).cells (.lp (([] : List (List AV)).length) off) n = sub (v.c β) off n := fun e h off n => cells_at hKS_A
  simp only [EZ, q_bx, if_true, if_false, Nat.reduceAdd, Option.bind_some, Nat.reduceBEq, kcO_r, kcO_d0_q, kcO_s0, r0_A, DScript.c, L0]
  refine c_split (fun hlt => ?_) (fun hge => ?_)
  · have hlt : k < v.methods.length := by simpa using hlt
    have i0 := idx_vm (β := β) (sz := 2) (ex := false) (ce := DMethod.c β) hlt
    have he := hve _ (List.getElem_mem hlt)
    obtain ⟨x, hxe⟩ : ∃ x, x = v.methods[k] := ⟨_, rfl⟩
    rw [← hxe] at i0 he
    have r2 : ∀ (e : List AV) (h : AH) (off n : Nat), (St.mk e M_A h).cells (.lp (([] : List (List AV)).length + 2) off) n = sub [AV.str v.name, w_A] off n := fun e h off n => cells_at hM_A
    have s2 : ∀ (e : List AV) (h : AH) (a : AV), isCell a = true → (St.mk e M_A h).store (.lp (([] : List (List AV)).length + 2) 1) [a] = some ⟨e, M_A.set (([] : List (List AV)).length + 2) (over [AV.str v.name, w_A] 1 [a]), h⟩ := fun e h a ha => store_at hM_A (by simp) ha
    simp only [EZ, q_bx, if_true, if_false, Nat.reduceAdd, Option.bind_some, Nat.reduceBEq, kcO_r, kcO_d0_q, i0, DMethod.c, EB2, r2, r0_A, DScript.c, L0, k1_A, k2_A, k3_A]
    refine TCall.ref (by simp only [EO]) (kcQ_T β x he _) ?_
    rintro _ Hc fr
    replace fr : Fresh H_A _ _ _ := fr
    obtain ⟨aw, fw, rfl, ow, nw, bw, ew⟩ := fr.a1
    have hdis : (fp_A ++ fw).Nodup := nodup_app nd_A nw (fun c hc => ho_A.lt c hc) bw
    replace ho_A := ho_A.ext ew
    have hx1 := hx_A.trans ew
    have oo := ow
    simp only [DMethod.cd, ownL_c, ownL_n, own_i, own_b, own_s] at oo
    obtain ⟨_, _, _, _, rfl, _, ⟨rfl, rfl⟩, ⟨az1, _, _, _, rfl, _, uz1, ⟨rfl, _⟩⟩⟩ := oo
    obtain ⟨cz1a, cz1b, cz1c, cz1d⟩ := uz1.cell
    obtain ⟨v', H', fp', ea, o', nd', hf', hl', hm'⟩ := app_ext (bytes := 40) ho_A hdis (by omega) rfl ow (by simp only [List.length_map, List.length_take, maxMade]; omega)
    obtain ⟨j1, j2, j3, j4⟩ := o'.cell
    simp only [EZ, q_bx, if_true, if_false, Nat.reduceAdd, Option.bind_some, Nat.reduceBEq, kcO_r, kcO_d0_q, EA, EB2, ER, cz1a, cz1b, cz1c, r2, k1_A, k2_A, k3_A, ea, j1, j2, j3, s2 _ _ _ j2]
    have hl9 := hx_A.len
    have hl8 := hx1.len
    have hb' : ∀ c ∈ fp', h.length ≤ c := fun c hc => by
      rcases hm' c hc with g | g | g
      · exact hfp_A c g
      · have := bw c g; omega
      · omega
    refine ⟨(by first | exact ew.mem _ _ _ | exact mem_keep (ew.mem _ _ _)), ?_⟩
    exact ⟨(k + 1, v', H', fp', _), ⟨hlt, by simp only; rw [List.take_succ_eq_append_getElem hlt, List.map_append, ← hxe]; exact o', nd', hb', hx1.upd hl' hf' hfp_A, at_set hKS_A (by simp), ⟨zzR_A, at_set hKR_A (by simp), hzR_A⟩, at_setS hM_A⟩, by simp only; omega, ⟨by rw [wN (by omega)]; simp [kcO_s0, LeL, LeV], rfl, rfl⟩⟩
  have hge : k = v.methods.length := by simp at hge; omega
  subst hge
  rw [List.take_length] at ho_A
  simp only [EZ, q_bx, if_true, if_false, Nat.reduceAdd, Option.bind_some, Nat.reduceBEq, kcO_r, kcO_d0_q, show ∀ (e : List AV) (h : AH) (off n : Nat), (St.mk e M_A h).cells (.lp (([] : List (List AV)).length + 2) off) n = sub [AV.str v.name, w_A] off n from fun e h off n => cells_at hM_A, show ∀ (e : List AV) (h : AH), (St.mk e M_A h).store (.lp (([] : List (List AV)).length + 1) 0) [AV.str v.name, w_A] = some ⟨e, M_A.set (([] : List (List AV)).length + 1) [AV.str v.name, w_A], h⟩ from fun e h => store_all hKR_A (by rw [hzR_A]; rfl) (by simp only [List.all_cons, List.all_nil, k2_A, Bool.and_true]; rfl), show ∀ (e : List AV) (h : AH) (off n : Nat), (St.mk e (M_A.set (([] : List (List AV)).length + 1) [AV.str v.name, w_A]) h).cells (.lp (([] : List (List AV)).length + 1) off) n = sub [AV.str v.name, w_A] off n from fun e h off n => cells_at (at_setS hKR_A), ER, EB2]
  obtain ⟨N, hN⟩ := hx_A.out
  exact ⟨by simp [outOK, out1, k2_A, k3_A, k4_A, nn_i', nn_s', nn_b'], _, N, fp_A ++ [], rfl, hN, .s (.o ho_A .nil), by rw [List.append_nil]; exact nd_A, fun c hc => hfp_A c (by simpa using hc)⟩
theorem kcP_T (β : Bool) (l : List DScript) (hl : l.length ≤ 1048576) (ho' : ∀ x ∈ l, x.ok 1048576) (h : AH) : T Tryz.prog Γ Fn.kcP [.vs β 2 false (l.map (DScript.c β))] h (Fresh h [.c (.sl 2 (l.map DScript.cd))]) := by
  have L0 := len_vm β 2 false l (DScript.c β)
  generalize e0 : AV.vs β 2 false (l.map (DScript.c β)) = a0 at *
  refine T.freshC ?_
  refine kcP_e (aw_sound tabOK mixed [] _ _ _ ?_)
  unfold kcP_c
  simp only [EZ, q_bx, if_true, if_false, Nat.reduceAdd, Option.bind_some, Nat.reduceBEq, kcP_r, EA, L0]
  refine loopI tabOK mixed [] (fun x : Nat × AV × AH × List Nat × List (List AV) => x.1 ≤ l.length ∧ Own x.2.2.1 x.2.1 (.sl 2 ((l.take x.1).map DScript.cd)) x.2.2.2.1 ∧ x.2.2.2.1.Nodup ∧ (∀ c ∈ x.2.2.2.1, h.length ≤ c) ∧ HExt h x.2.2.1) (fun x => l.length - x.1)
    (fun x => kcP_s0 a0 x.2.1 (.int .i64 x.1) x.2.2.2.2 x.2.2.1) (0, .gs h.length 0 0 0 0 2 true, h ++ [some (0, [])], [h.length], []) ⟨by simp, bsl0_own h 2, by simp, by simp, HExt.app _ _⟩ ⟨by simp [kcP_s0, LeL, LeV], rfl, rfl⟩ ?_
  rintro ⟨k, v, H, fp, L⟩ ⟨hk, ho, nd, hfp, hN⟩
  simp only at hk ho nd hfp hN
  simp only [EZ, q_bx, if_true, if_false, Nat.reduceAdd, Option.bind_some, Nat.reduceBEq, kcP_r, kcP_s0, L0]
  refine c_split (fun hlt => ?_) (fun hge => ?_)
  rotate_left
  · have hge : k = l.length := by simp at hge; omega
    subst hge
    simp only [EZ, q_bx, if_true, if_false, Nat.reduceAdd, Option.bind_some, Nat.reduceBEq, kcP_r]
    rw [List.take_length] at ho
    obtain ⟨N, rfl⟩ := hN.out
    exact ⟨ho.outOK, N, fp, rfl, ho, nd, hfp⟩
  have hlt : k < l.length := by simpa using hlt
  have i0 := idx_vm (β := β) (sz := 2) (ex := false) (ce := DScript.c β) hlt
  rw [e0] at i0
  have hox := ho' _ (List.getElem_mem hlt)
  obtain ⟨x, hxe⟩ : ∃ x, x = l[k] := ⟨_, rfl⟩
  rw [← hxe] at i0 hox
  simp only [EZ, q_bx, if_true, if_false, Nat.reduceAdd, Option.bind_some, Nat.reduceBEq, kcP_r, i0, DScript.c, EB2, L0]
  refine TCall.ref (by simp only [EO]) (kcO_T β x hox _) ?_
  rintro _ H1 fr
  replace fr : Fresh H _ _ _ := fr
  obtain ⟨aw, fw, rfl, ow, nw, bw, ew⟩ := fr.a1
  have hdis : (fp ++ fw).Nodup := nodup_app nd nw (fun c hc => ho.lt c hc) bw
  replace ho := ho.ext ew
  have hx1 := hN.trans ew
  have oo := ow
  simp only [DScript.cd, ownL_c, ownL_n, own_i, own_b, own_s] at oo
  obtain ⟨_, _, _, _, rfl, _, ⟨rfl, rfl⟩, ⟨az1, _, _, _, rfl, _, uz1, ⟨rfl, _⟩⟩⟩ := oo
  obtain ⟨cz1a, cz1b, cz1c, cz1d⟩ := uz1.cell
  obtain ⟨v', H', fp', ea, o', nd', hf', hl', hm'⟩ := app_ext (bytes := 40) ho hdis (by omega) rfl ow (by simp only [List.length_map, List.length_take, maxMade]; omega)
  simp only [EZ, q_bx, if_true, if_false, Nat.reduceAdd, Option.bind_some, Nat.reduceBEq, kcP_r, EA, EB2, cz1a, cz1b, cz1c, ea]
  refine ⟨(k + 1, v', H', fp', _), ⟨hlt, by simp only; rw [List.take_succ_eq_append_getElem hlt, List.map_append, ← hxe]; exact o', nd', fun c hc => ?_, hx1.upd hl' hf' hfp⟩, by simp only; omega, ⟨by rw [wN (by omega)]; simp [kcP_s0, LeL, LeV], rfl, rfl⟩⟩
  have := hN.len; have := hx1.len
  rcases hm' c hc with g | g | g
  · exact hfp c g
  · have := bw c g; omega
  · omega
theorem kcL_T (β : Bool) (l : List DMessage) (hl : l.length ≤ 1048576) (ho' : ∀ x ∈ l, x.ok 1048576) (h : AH) : T Tryz.prog Γ Fn.kcL [.vs β 12 false (l.map (DMessage.c β))] h (Fresh h [.c (.sl 12 (l.map DMessage.cd))]) := by
  have L0 := len_vm β 12 false l (DMessage.c β)
  generalize e0 : AV.vs β 12 false (l.map (DMessage.c β)) = a0 at *
  refine T.freshC ?_
  refine kcL_e (aw_sound tabOK mixed [] _ _ _ ?_)
  unfold kcL_c
  simp only [EZ, q_bx, if_true, if_false, Nat.reduceAdd, Option.bind_some, Nat.reduceBEq, kcL_r, EA, L0]
  refine loopI tabOK mixed [] (fun x : Nat × AV × AH × List Nat × List (List AV) => x.1 ≤ l.length ∧ Own x.2.2.1 x.2.1 (.sl 12 ((l.take x.1).map DMessage.cd)) x.2.2.2.1 ∧ x.2.2.2.1.Nodup ∧ (∀ c ∈ x.2.2.2.1, h.length ≤ c) ∧ HExt h x.2.2.1) (fun x => l.length - x.1)
    (fun x => kcL_s0 a0 x.2.1 (.int .i64 x.1) x.2.2.2.2 x.2.2.1) (0, .gs h.length 0 0 0 0 12 true, h ++ [some (0, [])], [h.length], []) ⟨by simp, bsl0_own h 12, by simp, by simp, HExt.app _ _⟩ ⟨by simp [kcL_s0, LeL, LeV], rfl, rfl⟩ ?_
  rintro ⟨k, v, H, fp, L⟩ ⟨hk, ho, nd, hfp, hN⟩
  simp only at hk ho nd hfp hN
  simp only [EZ, q_bx, if_true, if_false, Nat.reduceAdd, Option.bind_some, Nat.reduceBEq, kcL_r, kcL_s0, L0]
  refine c_split (fun hlt => ?_) (fun hge => ?_)
  rotate_left
  · have hge : k = l.length := by simp at hge; omega
    subst hge
    simp only [EZ, q_bx, if_true, if_false, Nat.reduceAdd, Option.bind_some, Nat.reduceBEq, kcL_r]
    rw [List.take_length] at ho
    obtain ⟨N, rfl⟩ := hN.out
    exact ⟨ho.outOK, N, fp, rfl, ho, nd, hfp⟩
  have hlt : k < l.length := by simpa using hlt
  have i0 := idx_vm (β := β) (sz := 12) (ex := false) (ce := DMessage.c β) hlt
  rw [e0] at i0
  have hox := ho' _ (List.getElem_mem hlt)
  obtain ⟨x, hxe⟩ : ∃ x, x = l[k] := ⟨_, rfl⟩
  rw [← hxe] at i0 hox
  simp only [EZ, q_bx, if_true, if_false, Nat.reduceAdd, Option.bind_some, Nat.reduceBEq, kcL_r, i0, DMessage.c, EB2, L0]
  refine TCall.ref (by simp only [EO]) (kcI_T β x hox _) ?_
  rintro _ H1 fr
  replace fr : Fresh H _ _ _ := fr
  obtain ⟨aw, fw, rfl, ow, nw, bw, ew⟩ := fr.a1
  have hdis : (fp ++ fw).Nodup := nodup_app nd nw (fun c hc => ho.lt c hc) bw
  replace ho := ho.ext ew
  have hx1 := hN.trans ew
  have oo := ow
  simp only [DMessage.cd, ownL_c, ownL_n, own_i, own_b, own_s] at oo
  obtain ⟨_, _, _, _, rfl, _, ⟨rfl, rfl⟩, ⟨_, _, _, _, rfl, _, ⟨rfl, rfl⟩, ⟨_, _, _, _, rfl, _, ⟨rfl, rfl⟩, ⟨_, _, _, _, rfl, _, ⟨rfl, rfl⟩, ⟨_, _, _, _, rfl, _, ⟨rfl, rfl⟩, ⟨az5, _, _, _, rfl, _, uz5, ⟨_, _, _, _, rfl, _, ⟨rfl, rfl⟩, ⟨_, _, _, _, rfl, _, ⟨rfl, rfl⟩, ⟨_, _, _, _, rfl, _, ⟨rfl, rfl⟩, ⟨_, _, _, _, rfl, _, ⟨rfl, rfl⟩, ⟨_, _, _, _, rfl, _, ⟨rfl, rfl⟩, ⟨_, _, _, _, rfl, _, ⟨rfl, rfl⟩, ⟨rfl, _⟩⟩⟩⟩⟩⟩⟩⟩⟩⟩⟩⟩⟩ := oo
  obtain ⟨cz5a, cz5b, cz5c, cz5d⟩ := uz5.cell
  obtain ⟨v', H', fp', ea, o', nd', hf', hl', hm'⟩ := app_ext (bytes := 120) ho hdis (by omega) rfl ow (by simp only [List.length_map, List.length_take, maxMade]; omega)
  simp only [EZ, q_bx, if_true, if_false, Nat.reduceAdd, Option.bind_some, Nat.reduceBEq, kcL_r, EA, EB2, cz5a, cz5b, cz5c, ea]
  refine ⟨(k + 1, v', H', fp', _), ⟨hlt, by simp only; rw [List.take_succ_eq_append_getElem hlt, List.map_append, ← hxe]; exact o', nd', fun c hc => ?_, hx1.upd hl' hf' hfp⟩, by simp only; omega, ⟨by rw [wN (by omega)]; simp [kcL_s0, LeL, LeV], rfl, rfl⟩⟩
  have := hN.len; have := hx1.len
  rcases hm' c hc with g | g | g
  · exact hfp c g
  · have := bw c g; omega
  · omega
theorem kcK_T (β : Bool) (l : List DChannel) (hl : l.length ≤ 1048576) (ho' : ∀ x ∈ l, x.ok 1048576) (h : AH) : T Tryz.prog Γ Fn.kcK [.vs β 3 false (l.map (DChannel.c β))] h (Fresh h [.c (.sl 3 (l.map DChannel.cd))]) := by
  have L0 := len_vm β 3 false l (DChannel.c β)
  generalize e0 : AV.vs β 3 false (l.map (DChannel.c β)) = a0 at *
  refine T.freshC ?_
  refine kcK_e (aw_sound tabOK mixed [] _ _ _ ?_)
  unfold kcK_c
  simp only [EZ, q_bx, if_true, if_false, Nat.reduceAdd, Option.bind_some, Nat.reduceBEq, kcK_r, kcK_d0_q, EA, L0]
  refine loopI tabOK mixed [] (fun x : Nat × AV × AH × List Nat × List (List AV) => x.1 ≤ l.length ∧ Own x.2.2.1 x.2.1 (.sl 3 ((l.take x.1).map DChannel.cd)) x.2.2.2.1 ∧ x.2.2.2.1.Nodup ∧ (∀ c ∈ x.2.2.2.1, h.length ≤ c) ∧ HExt h x.2.2.1) (fun x => l.length - x.1)
    (fun x => kcK_s0 a0 x.2.1 (.int .i64 x.1) x.2.2.2.2 x.2.2.1) (0, .gs h.length 0 0 0 0 3 true, h ++ [some (0, [])], [h.length], []) ⟨by simp, bsl0_own h 3, by simp, by simp, HExt.app _ _⟩ ⟨by simp [kcK_s0, LeL, LeV], rfl, rfl⟩ ?_
  rintro ⟨k, v, H, fp, L⟩ ⟨hk, ho, nd, hfp, hN⟩
  simp only at hk ho nd hfp hN
  simp only [EZ, q_bx, if_true, if_false, Nat.reduceAdd, Option.bind_some, Nat.reduceBEq, kcK_r, kcK_d0_q, kcK_s0, L0]
  refine c_split (fun hlt => ?_) (fun hge => ?_)
  rotate_left
  · have hge : k = l.length := by simp at hge; omega
    subst hge
    simp only [EZ, q_bx, if_true, if_false, Nat.reduceAdd, Option.bind_some, Nat.reduceBEq, kcK_r, kcK_d0_q]
    rw [List.take_length] at ho
    obtain ⟨N, rfl⟩ := hN.out
    exact ⟨ho.outOK, N, fp, rfl, ho, nd, hfp⟩
  have hlt : k < l.length := by simpa using hlt
  have i0 := idx_vm (β := β) (sz := 3) (ex := false) (ce := DChannel.c β) hlt
  rw [e0] at i0
  have hox := ho' _ (List.getElem_mem hlt)
  obtain ⟨x, hxe⟩ : ∃ x, x = l[k] := ⟨_, rfl⟩
  rw [← hxe] at i0 hox
  simp only [EZ, q_bx, if_true, if_false, Nat.reduceAdd, Option.bind_some, Nat.reduceBEq, kcK_r, kcK_d0_q, i0, DChannel.c, EB2, L0]
  refine TCall.ref (by simp only [EO]) (kcL_T β x.list hox.1 hox.2 _) ?_
  rintro wl H1 fr
  replace fr : Fresh H _ _ _ := fr
  obtain ⟨fw0, ow0, nw, bw, ew⟩ := fr.c1
  obtain ⟨fw, hfw⟩ : ∃ fw, fw = fw0 ++ [] := ⟨_, rfl⟩
  rw [show fw0 = fw by simp [hfw]] at ow0 nw bw
  obtain ⟨cz0a, cz0b, cz0c, cz0d⟩ := ow0.cell
  have ow : OwnL H1 [.int .i64 x.frm, .int .i64 x.to_, wl] x.cd fw := by
    have : fw = fw ++ [] := by simp
    rw [this]; exact .i (.i (.o ow0 .nil))
  have hdis : (fp ++ fw).Nodup := nodup_app nd nw (fun c hc => ho.lt c hc) bw
  replace ho := ho.ext ew
  have hx1 := hN.trans ew
  obtain ⟨v', H', fp', ea, o', nd', hf', hl', hm'⟩ := app_ext (bytes := 40) ho hdis (by omega) rfl ow (by simp only [List.length_map, List.length_take, maxMade]; omega)
  simp only [EZ, q_bx, if_true, if_false, Nat.reduceAdd, Option.bind_some, Nat.reduceBEq, kcK_r, kcK_d0_q, EA, EB2, cz0a, cz0b, cz0c, ea]
  refine ⟨keep_lp' rfl, ?_⟩
  refine ⟨(k + 1, v', H', fp', _), ⟨hlt, by simp only; rw [List.take_succ_eq_append_getElem hlt, List.map_append, ← hxe]; exact o', nd', fun c hc => ?_, hx1.upd hl' hf' hfp⟩, by simp only; omega, ⟨by rw [wN (by omega)]; simp [kcK_s0, LeL, LeV], rfl, rfl⟩⟩
  have := hN.len; have := hx1.len
  rcases hm' c hc with g | g | g
  · exact hfp c g
  · have := bw c g; omega
  · omega
end Go.Proofs.YtleddolmolkpfaaGreat
