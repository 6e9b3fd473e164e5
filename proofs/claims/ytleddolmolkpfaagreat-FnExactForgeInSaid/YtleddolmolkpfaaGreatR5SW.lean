import Derived.Test.YtleddolmolkpfaaGreatR5WW
import Derived.Test.YtleddolmolkpfaaGreatR5SC
import Derived.Test.YtleddolmolkpfaaGreatAmEv
set_option linter.unusedVariables false
set_option linter.unusedSimpArgs false
namespace Go.Proofs.YtleddolmolkpfaaGreat
open Go.AM
set_option linter.unusedVariables false
set_option linter.unusedSimpArgs false
variable {Γ : Glob}
set_option maxHeartbeats 8000000 in
set_option maxRecDepth 100000 in
theorem kcN_T (β : Bool) (v : DWorld) (hv : v.ok 1048576) (h : AH) : T Tryz.prog Γ Fn.kcN [.agg (v.c β)] h (Fresh h [.a v.cd]) := by
  have L0 := len_vm β 5 false v.vats (DVat.c β)
  obtain ⟨hv1, hv2, hv3, hv4, hv5, hv6, hv7⟩ := hv
  refine T.freshA ?_
  refine kcN_e (aw_sound tabOK mixed [] _ _ _ ?_)
  unfold kcN_c
  refine aw_cut2 (fun s => ∃ wS wC wT H fS fC fN x0 x4 x5 x6 x7 x8 x9 x10 x11 x12 x13 x14 x15 x16 x17 x18 x19 x20 x21 x22 x23 x24 x25 x26 x27 x28 x29 x30 x31 x32 x33 x34 x35 x36, s = ⟨[x0, (.lp ([] : List (List AV)).length 0), (.lp (([] : List (List AV)).length + 1) 0), (.lp (([] : List (List AV)).length + 2) 0), x4, x5, x6, x7, x8, x9, x10, x11, x12, x13, x14, x15, x16, x17, x18, x19, x20, x21, x22, x23, x24, x25, x26, x27, x28, x29, x30, x31, x32, x33, x34, x35, x36], ([] : List (List AV)) ++ [v.c β, [.nils, .nils, .nils, .nils, .int .i64 0], [wS, .nils, wC, wT, .int .i64 v.strays]], H⟩ ∧
    HExt h H ∧ Own H wS (.sl 2 (v.library.map DScript.cd)) fS ∧ Own H wC (.sl 3 (v.channels.map DChannel.cd)) fC ∧ Own H wT (.sl 6 (v.notes.map DNote.cd)) fN ∧ fS.Nodup ∧ fC.Nodup ∧ fN.Nodup ∧ (∀ c ∈ fS, c ∉ fC) ∧ (∀ c ∈ fS, c ∉ fN) ∧ (∀ c ∈ fC, c ∉ fN) ∧ (∀ c ∈ fS, h.length ≤ c) ∧ (∀ c ∈ fC, h.length ≤ c) ∧ (∀ c ∈ fN, h.length ≤ c)) ?_ ?_
  · have xh := HExt.refl h
    simp only [EZ, q_bx, if_true, if_false, Nat.reduceAdd, Option.bind_some, Nat.reduceBEq, kcN_r, kcN_d0_q, kcN_d1_q, ECut, EB2, ER, DWorld.c, p_app]
    repeat' (first
      | exact eS.mem _ _ _
      | exact eC.mem _ _ _
      | exact eB.mem _ _ _
      | exact eN.mem _ _ _
      | exact Mem.loc ⟨_, ([] : List (List AV)) ++ [_, _], _⟩ _ [_]
      | exact keep_lp' rfl
      | exact keep_lp (L' := [_]) rfl
      | (guard_target =~ TCall _ _ Fn.kcP _ _ _
         refine TCall.ref (by simp only [EO]) (kcP_T β v.library hv1 hv2 _) ?_
         rintro wS HS fr
         dsimp only at fr
         obtain ⟨fS, oS, nS, bS, eS⟩ := fr.c1
         obtain ⟨a1, a2, a3, a4⟩ := oS.cell
         try have dSB : ∀ c ∈ fS, c ∉ fB := fun c hc hd => by have := oB.lt c hd; have := bS c hc; omega
         try have dSN : ∀ c ∈ fS, c ∉ fN := fun c hc hd => by have := oN.lt c hd; have := bS c hc; omega
         replace bS : ∀ c ∈ fS, h.length ≤ c := fun c hc => by have := bS c hc; have := xh.len; omega
         try replace oB := oB.ext eS
         try replace oN := oN.ext eS
         replace xh := xh.trans eS
         first
           | simp only [EZ, q_bx, if_true, if_false, Nat.reduceAdd, Option.bind_some, Nat.reduceBEq, kcN_r, kcN_d0_q, kcN_d1_q, ECut, EB2, ER, p_app, a1, a2, a3, y1, y2, y3, c1, c2, c3]
           | simp only [EZ, q_bx, if_true, if_false, Nat.reduceAdd, Option.bind_some, Nat.reduceBEq, kcN_r, kcN_d0_q, kcN_d1_q, ECut, EB2, ER, p_app, a1, a2, a3, y1, y2, y3]
           | simp only [EZ, q_bx, if_true, if_false, Nat.reduceAdd, Option.bind_some, Nat.reduceBEq, kcN_r, kcN_d0_q, kcN_d1_q, ECut, EB2, ER, p_app, a1, a2, a3])
      | (guard_target =~ TCall _ _ Fn.kcK _ _ _
         refine TCall.ref (by simp only [EO]) (kcK_T β v.channels hv5 hv6 _) ?_
         rintro wC HC fr
         dsimp only at fr
         obtain ⟨fC, oC, nC, bC, eC⟩ := fr.c1
         obtain ⟨b1, b2, b3, b4⟩ := oC.cell
         have dSC : ∀ c ∈ fS, c ∉ fC := fun c hc hd => by have := oS.lt c hc; have := bC c hd; omega
         try have dCB : ∀ c ∈ fC, c ∉ fB := fun c hc hd => by have := oB.lt c hd; have := bC c hc; omega
         try have dCN : ∀ c ∈ fC, c ∉ fN := fun c hc hd => by have := oN.lt c hd; have := bC c hc; omega
         replace bC : ∀ c ∈ fC, h.length ≤ c := fun c hc => by have := bC c hc; have := xh.len; omega
         replace oS := oS.ext eC
         try replace oB := oB.ext eC
         try replace oN := oN.ext eC
         replace xh := xh.trans eC
         first
           | simp only [EZ, q_bx, if_true, if_false, Nat.reduceAdd, Option.bind_some, Nat.reduceBEq, kcN_r, kcN_d0_q, kcN_d1_q, ECut, EB2, ER, p_app, a1, a2, a3, b1, b2, b3, y1, y2, y3, c1, c2, c3]
           | simp only [EZ, q_bx, if_true, if_false, Nat.reduceAdd, Option.bind_some, Nat.reduceBEq, kcN_r, kcN_d0_q, kcN_d1_q, ECut, EB2, ER, p_app, a1, a2, a3, b1, b2, b3, y1, y2, y3]
           | simp only [EZ, q_bx, if_true, if_false, Nat.reduceAdd, Option.bind_some, Nat.reduceBEq, kcN_r, kcN_d0_q, kcN_d1_q, ECut, EB2, ER, p_app, a1, a2, a3, b1, b2, b3])
      | (refine bsl0_step (fun wB HB fB eB oB nB bB => ?_)
         obtain ⟨y1, y2, y3, y4⟩ := oB.cell
         try have dSB : ∀ c ∈ fS, c ∉ fB := fun c hc hd => by have := oS.lt c hc; have := bB c hd; omega
         try have dCB : ∀ c ∈ fC, c ∉ fB := fun c hc hd => by have := oC.lt c hc; have := bB c hd; omega
         replace bB : ∀ c ∈ fB, h.length ≤ c := fun c hc => by have := bB c hc; have := xh.len; omega
         try replace oS := oS.ext eB
         try replace oC := oC.ext eB
         replace xh := xh.trans eB
         first
           | simp only [EZ, q_bx, if_true, if_false, Nat.reduceAdd, Option.bind_some, Nat.reduceBEq, kcN_r, kcN_d0_q, kcN_d1_q, ECut, EB2, ER, p_app, y1, y2, y3, a1, a2, a3, b1, b2, b3]
           | simp only [EZ, q_bx, if_true, if_false, Nat.reduceAdd, Option.bind_some, Nat.reduceBEq, kcN_r, kcN_d0_q, kcN_d1_q, ECut, EB2, ER, p_app, y1, y2, y3, a1, a2, a3]
           | simp only [EZ, q_bx, if_true, if_false, Nat.reduceAdd, Option.bind_some, Nat.reduceBEq, kcN_r, kcN_d0_q, kcN_d1_q, ECut, EB2, ER, p_app, y1, y2, y3])
      | (refine appv_step (bytes := 48) oB nB (by omega) (ys := v.notes) (c := DNote.c β) (cd := DNote.cd) (fun x => ⟨rfl, rfl⟩) (fun x => (DNote.c_eq false x).symm) (by simp only [List.length_nil, maxMade]; omega) (fun wT HN fN oN nN hfN hlN hmN => ?_)
         rw [List.nil_append] at oN
         obtain ⟨c1, c2, c3, c4⟩ := oN.cell
         have hlx := xh.len
         have bN : ∀ c ∈ fN, h.length ≤ c := fun c hc => (hmN c hc).elim (fun g => bB c g) (fun g => by omega)
         try have dSN : ∀ c ∈ fS, c ∉ fN := fun c hc hd => (hmN c hd).elim (fun g => dSB c hc g) (fun g => by have := oS.lt c hc; omega)
         try have dCN : ∀ c ∈ fC, c ∉ fN := fun c hc hd => (hmN c hd).elim (fun g => dCB c hc g) (fun g => by have := oC.lt c hc; omega)
         try replace oS := oS.frame fun c hc => hfN c (dSB c hc) (oS.lt c hc)
         try replace oC := oC.frame fun c hc => hfN c (dCB c hc) (oC.lt c hc)
         replace xh := xh.upd hlN hfN bB
         clear oB
         first
           | simp only [EZ, q_bx, if_true, if_false, Nat.reduceAdd, Option.bind_some, Nat.reduceBEq, kcN_r, kcN_d0_q, kcN_d1_q, ECut, EB2, ER, p_app, c1, c2, c3, a1, a2, a3, b1, b2, b3]
           | simp only [EZ, q_bx, if_true, if_false, Nat.reduceAdd, Option.bind_some, Nat.reduceBEq, kcN_r, kcN_d0_q, kcN_d1_q, ECut, EB2, ER, p_app, c1, c2, c3, a1, a2, a3]
           | simp only [EZ, q_bx, if_true, if_false, Nat.reduceAdd, Option.bind_some, Nat.reduceBEq, kcN_r, kcN_d0_q, kcN_d1_q, ECut, EB2, ER, p_app, c1, c2, c3])
      | exact ⟨wS, wC, wT, _, fS, fC, fN, _, _, _, _, _, _, _, _, _, _, _, _, _, _, _, _, _, _, _, _, _, _, _, _, _, _, _, _, _, _, _, _, _, _, rfl, xh, oS, oC, oN, nS, nC, nN, dSC, dSN, dCN, bS, bC, bN⟩
      | refine And.intro ?_ ?_)
  rintro s ⟨wS, wC, wT, HB, fS, fC, fN, x0, x4, x5, x6, x7, x8, x9, x10, x11, x12, x13, x14, x15, x16, x17, x18, x19, x20, x21, x22, x23, x24, x25, x26, x27, x28, x29, x30, x31, x32, x33, x34, x35, x36, rfl, xh, oS, oC, oN, nS, nC, nN, d1, d2, d3, bS, bC, bN⟩
  obtain ⟨a1, a2, a3, a4⟩ := oS.cell
  obtain ⟨b1, b2, b3, b4⟩ := oC.cell
  obtain ⟨c1, c2, c3, c4⟩ := oN.cell
  simp only [EZ, q_bx, if_true, if_false, Nat.reduceAdd, Option.bind_some, Nat.reduceBEq, kcN_r, kcN_d0_q, kcN_d1_q, EB2, ER, DWorld.c, L0]
  refine loopI tabOK mixed [] (fun y : Nat × AV × AH × List Nat × List (List AV) => y.1 ≤ v.vats.length ∧ Own y.2.2.1 y.2.1 (.sl 5 ((v.vats.take y.1).map DVat.cd)) y.2.2.2.1 ∧ y.2.2.2.1.Nodup ∧ (∀ c ∈ y.2.2.2.1, HB.length ≤ c) ∧ HExt HB y.2.2.1 ∧ y.2.2.2.2[([] : List (List AV)).length]? = some (v.c β) ∧ (∃ zzR_A, y.2.2.2.2[([] : List (List AV)).length + 1]? = some zzR_A ∧ zzR_A.length = 5) ∧ y.2.2.2.2[([] : List (List AV)).length + 2]? = some [wS, y.2.1, wC, wT, .int .i64 v.strays]) (fun y => v.vats.length - y.1)
    (fun y => kcN_s0 (.lp ([] : List (List AV)).length 0) (.lp (([] : List (List AV)).length + 1) 0) (.lp (([] : List (List AV)).length + 2) 0) (.int .i64 y.1) y.2.2.2.2 y.2.2.1) (0, .nils, HB, [], _) ⟨by simp, .nil _, by simp, by simp, HExt.refl _, rfl, ⟨_, rfl, rfl⟩, rfl⟩ ⟨by simp [kcN_s0, LeL, LeV], rfl, rfl⟩ ?_
  rintro ⟨k, w_A, H_A, fp_A, M_A⟩ ⟨hk, ho_A, nd_A, hfp_A, hx_A, hKS_A, ⟨zzR_A, hKR_A, hzR_A⟩, hM_A⟩
  simp only at hk ho_A nd_A hfp_A hx_A hKS_A hKR_A hM_A
  have hMl_A : ([] : List (List AV)).length + 2 < M_A.length := getElem?_lt hM_A
  obtain ⟨k1_A, k2_A, k3_A, k4_A⟩ := ho_A.cell
  have r0_A : ∀ (e : List AV) (h : AH) (off n : Nat), (St.mk e M_A h).cells (.lp (([] : List (List AV)).length) off) n = sub (v.c β) off n := fun e h off n => cells_at hKS_A
  simp only [EZ, q_bx, if_true, if_false, Nat.reduceAdd, Option.bind_some, Nat.reduceBEq, kcN_r, kcN_d0_q, kcN_d1_q, kcN_s0, r0_A, DWorld.c, L0]
  refine c_split (fun hlt => ?_) (fun hge => ?_)
  · have hlt : k < v.vats.length := by simpa using hlt
    have i0 := idx_vm (β := β) (sz := 5) (ex := false) (ce := DVat.c β) hlt
    have he := hv4 _ (List.getElem_mem hlt)
    obtain ⟨x, hxe⟩ : ∃ x, x = v.vats[k] := ⟨_, rfl⟩
    rw [← hxe] at i0 he
    have r2 : ∀ (e : List AV) (h : AH) (off n : Nat), (St.mk e M_A h).cells (.lp (([] : List (List AV)).length + 2) off) n = sub [wS, w_A, wC, wT, .int .i64 v.strays] off n := fun e h off n => cells_at hM_A
    have s2 : ∀ (e : List AV) (h : AH) (a : AV), isCell a = true → (St.mk e M_A h).store (.lp (([] : List (List AV)).length + 2) 1) [a] = some ⟨e, M_A.set (([] : List (List AV)).length + 2) (over [wS, w_A, wC, wT, .int .i64 v.strays] 1 [a]), h⟩ := fun e h a ha => store_at hM_A (by simp) ha
    simp only [EZ, q_bx, if_true, if_false, Nat.reduceAdd, Option.bind_some, Nat.reduceBEq, kcN_r, kcN_d0_q, kcN_d1_q, i0, DVat.c, EB2, r2, r0_A, DWorld.c, L0, k1_A, k2_A, k3_A]
    refine TCall.ref (by simp only [EO]) (kcJ_T β x he _) ?_
    rintro _ Hc fr
    replace fr : Fresh H_A _ _ _ := fr
    obtain ⟨aw, fw, rfl, ow, nw, bw, ew⟩ := fr.a1
    have hdis : (fp_A ++ fw).Nodup := nodup_app nd_A nw (fun c hc => ho_A.lt c hc) bw
    replace ho_A := ho_A.ext ew
    have hx1 := hx_A.trans ew
    have oo := ow
    simp only [DVat.cd, ownL_c, ownL_n, own_i, own_b, own_s] at oo
    obtain ⟨_, _, _, _, rfl, _, ⟨rfl, rfl⟩, ⟨az1, _, _, _, rfl, _, uz1, ⟨az2, _, _, _, rfl, _, uz2, ⟨az3, _, _, _, rfl, _, uz3, ⟨az4, _, _, _, rfl, _, uz4, ⟨rfl, _⟩⟩⟩⟩⟩⟩ := oo
    obtain ⟨cz1a, cz1b, cz1c, cz1d⟩ := uz1.cell
    obtain ⟨cz2a, cz2b, cz2c, cz2d⟩ := uz2.cell
    obtain ⟨cz3a, cz3b, cz3c, cz3d⟩ := uz3.cell
    obtain ⟨cz4a, cz4b, cz4c, cz4d⟩ := uz4.cell
    obtain ⟨v', H', fp', ea, o', nd', hf', hl', hm'⟩ := app_ext (bytes := 104) ho_A hdis (by omega) rfl ow (by simp only [List.length_map, List.length_take, maxMade]; omega)
    obtain ⟨j1, j2, j3, j4⟩ := o'.cell
    simp only [EZ, q_bx, if_true, if_false, Nat.reduceAdd, Option.bind_some, Nat.reduceBEq, kcN_r, kcN_d0_q, kcN_d1_q, EA, EB2, ER, cz1a, cz1b, cz1c, cz2a, cz2b, cz2c, cz3a, cz3b, cz3c, cz4a, cz4b, cz4c, r2, k1_A, k2_A, k3_A, ea, j1, j2, j3, s2 _ _ _ j2]
    have hl9 := hx_A.len
    have hl8 := hx1.len
    have hb' : ∀ c ∈ fp', HB.length ≤ c := fun c hc => by
      rcases hm' c hc with g | g | g
      · exact hfp_A c g
      · have := bw c g; omega
      · omega
    refine ⟨(by first | exact ew.mem _ _ _ | exact mem_keep (ew.mem _ _ _)), ?_⟩
    exact ⟨(k + 1, v', H', fp', _), ⟨hlt, by simp only; rw [List.take_succ_eq_append_getElem hlt, List.map_append, ← hxe]; exact o', nd', hb', hx1.upd hl' hf' hfp_A, at_set hKS_A (by simp), ⟨zzR_A, at_set hKR_A (by simp), hzR_A⟩, at_setS hM_A⟩, by simp only; omega, ⟨by rw [wN (by omega)]; simp [kcN_s0, LeL, LeV], rfl, rfl⟩⟩
  have hge : k = v.vats.length := by simp at hge; omega
  subst hge
  rw [List.take_length] at ho_A
  simp only [EZ, q_bx, if_true, if_false, Nat.reduceAdd, Option.bind_some, Nat.reduceBEq, kcN_r, kcN_d0_q, kcN_d1_q, show ∀ (e : List AV) (h : AH) (off n : Nat), (St.mk e M_A h).cells (.lp (([] : List (List AV)).length + 2) off) n = sub [wS, w_A, wC, wT, .int .i64 v.strays] off n from fun e h off n => cells_at hM_A, show ∀ (e : List AV) (h : AH), (St.mk e M_A h).store (.lp (([] : List (List AV)).length + 1) 0) [wS, w_A, wC, wT, .int .i64 v.strays] = some ⟨e, M_A.set (([] : List (List AV)).length + 1) [wS, w_A, wC, wT, .int .i64 v.strays], h⟩ from fun e h => store_all hKR_A (by rw [hzR_A]; rfl) (by simp only [List.all_cons, List.all_nil, a2, b2, c2, k2_A, Bool.and_true]; rfl), show ∀ (e : List AV) (h : AH) (off n : Nat), (St.mk e (M_A.set (([] : List (List AV)).length + 1) [wS, w_A, wC, wT, .int .i64 v.strays]) h).cells (.lp (([] : List (List AV)).length + 1) off) n = sub [wS, w_A, wC, wT, .int .i64 v.strays] off n from fun e h off n => cells_at (at_setS hKR_A), ER, EB2]
  obtain ⟨N, hN⟩ := (xh.trans hx_A).out
  have hl := xh.len
  refine ⟨by simp [outOK, out1, a3, b3, c3, k3_A, nn_i', nn_s', nn_b'], _, N, fS ++ (fp_A ++ (fC ++ (fN ++ []))), rfl, hN, .o (oS.ext hx_A) (.o ho_A (.o (oC.ext hx_A) (.o (oN.ext hx_A) (.i .nil)))), nodup_w nS nd_A nC nN d1 d2 d3 (fun c hc => oS.lt c hc) (fun c hc => oC.lt c hc) (fun c hc => oN.lt c hc) hfp_A, fun c hc => ?_⟩
  simp only [List.append_nil, List.mem_append] at hc
  rcases hc with g | g | g | g
  · exact bS c g
  · have := hfp_A c g; omega
  · exact bC c g
  · exact bN c g
end Go.Proofs.YtleddolmolkpfaaGreat
