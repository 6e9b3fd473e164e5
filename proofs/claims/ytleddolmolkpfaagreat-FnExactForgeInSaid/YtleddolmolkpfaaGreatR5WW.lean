import Derived.Test.YtleddolmolkpfaaGreatR5WC
import Derived.Test.YtleddolmolkpfaaGreatR5VC
set_option linter.unusedVariables false
set_option linter.unusedSimpArgs false
namespace Go.Proofs.YtleddolmolkpfaaGreat
open Go.AM
set_option linter.unusedVariables false
set_option linter.unusedSimpArgs false
variable {Γ : Glob}
theorem pack3 {h H1 H2 H3 : AH} {w1 w2 w3 : AV} {d1 d2 d3 : CD} {f1 f2 f3 : List Nat} (e1 : HExt h H1) (o1 : Own H1 w1 d1 f1) (n1 : f1.Nodup) (b1 : ∀ c ∈ f1, h.length ≤ c) (e2 : HExt H1 H2) (o2 : Own H2 w2 d2 f2) (n2 : f2.Nodup) (b2 : ∀ c ∈ f2, H1.length ≤ c)
    (e3 : HExt H2 H3) (o3 : Own H3 w3 d3 f3) (n3 : f3.Nodup) (b3 : ∀ c ∈ f3, H2.length ≤ c) :
    HExt h H3 ∧ Own H3 w1 d1 f1 ∧ Own H3 w2 d2 f2 ∧ Own H3 w3 d3 f3 ∧ f1.Nodup ∧ f2.Nodup ∧ f3.Nodup ∧ (∀ c ∈ f1, c ∉ f2) ∧ (∀ c ∈ f1, c ∉ f3) ∧ (∀ c ∈ f2, c ∉ f3) ∧ (∀ c ∈ f1, h.length ≤ c) ∧ (∀ c ∈ f2, h.length ≤ c) ∧ (∀ c ∈ f3, h.length ≤ c) := by
  have l1 := e1.len
  have l2 := e2.len
  have l3 := e3.len
  refine ⟨(e1.trans e2).trans e3, (o1.ext e2).ext e3, o2.ext e3, o3, n1, n2, n3, fun c hc hd => ?_, fun c hc hd => ?_, fun c hc hd => ?_, b1, fun c hc => ?_, fun c hc => ?_⟩
  · have := o1.lt c hc; have := b2 c hd; omega
  · have := o1.lt c hc; have := b3 c hd; omega
  · have := o2.lt c hc; have := b3 c hd; omega
  · have := b2 c hc; omega
  · have := b3 c hc; omega
theorem nodup_w {fS fp fC fN : List Nat} {n : Nat} (nS : fS.Nodup) (nP : fp.Nodup) (nC : fC.Nodup) (nN : fN.Nodup) (d1 : ∀ c ∈ fS, c ∉ fC) (d2 : ∀ c ∈ fS, c ∉ fN) (d3 : ∀ c ∈ fC, c ∉ fN)
    (lS : ∀ c ∈ fS, c < n) (lC : ∀ c ∈ fC, c < n) (lN : ∀ c ∈ fN, c < n) (hp : ∀ c ∈ fp, n ≤ c) : (fS ++ (fp ++ (fC ++ (fN ++ [])))).Nodup := by
  rw [List.append_nil]
  refine List.nodup_append.2 ⟨nS, List.nodup_append.2 ⟨nP, List.nodup_append.2 ⟨nC, nN, fun x hx y hy e => d3 x hx (e ▸ hy)⟩, fun x hx y hy e => ?_⟩, fun x hx y hy e => ?_⟩
  · subst e
    have := hp x hx
    rcases List.mem_append.1 hy with g | g
    · have := lC x g; omega
    · have := lN x g; omega
  · subst e
    have := lS x hx
    rcases List.mem_append.1 hy with g | g
    · have := hp x g; omega
    · rcases List.mem_append.1 g with g | g
      · exact d1 x hx g
      · exact d2 x hx g
set_option maxHeartbeats 4000000 in
set_option maxRecDepth 100000 in
theorem kai_T (β : Bool) (v : DWorld) (hv : v.ok 1048576) (h : AH) : T Tryz.prog Γ Fn.kai [.agg (v.c β)] h (Fresh h [.a v.cd]) := by
  have L0 := len_vm β 5 false v.vats (DVat.c β)
  obtain ⟨hv1, hv2, hv3, hv4, hv5, hv6, hv7⟩ := hv
  refine T.freshA ?_
  refine kai_e (aw_sound tabOK mixed [] _ _ _ ?_)
  unfold kai_c
  refine aw_cut2 (fun s => ∃ wS wC wT H fS fC fN x0 x4 x5 x6 x7 x8 x9 x10 x11 x12 x13 x14 x15 x16 x17 x18 x19 x20 x21 x22 x23 x24 x25 x26 x27 x28 x29 x30 x31 x32 x33, s = ⟨[x0, (.lp ([] : List (List AV)).length 0), (.lp (([] : List (List AV)).length + 1) 0), (.lp (([] : List (List AV)).length + 2) 0), x4, x5, x6, x7, x8, x9, x10, x11, x12, x13, x14, x15, x16, x17, x18, x19, x20, x21, x22, x23, x24, x25, x26, x27, x28, x29, x30, x31, x32, x33], ([] : List (List AV)) ++ [v.c β, [.nils, .nils, .nils, .nils, .int .i64 0], [wS, .nils, wC, wT, .int .i64 v.strays]], H⟩ ∧
    HExt h H ∧ Own H wS (.sl 2 (v.library.map DScript.cd)) fS ∧ Own H wC (.sl 3 (v.channels.map DChannel.cd)) fC ∧ Own H wT (.sl 6 (v.notes.map DNote.cd)) fN ∧ fS.Nodup ∧ fC.Nodup ∧ fN.Nodup ∧ (∀ c ∈ fS, c ∉ fC) ∧ (∀ c ∈ fS, c ∉ fN) ∧ (∀ c ∈ fC, c ∉ fN) ∧ (∀ c ∈ fS, h.length ≤ c) ∧ (∀ c ∈ fC, h.length ≤ c) ∧ (∀ c ∈ fN, h.length ≤ c)) ?_ ?_
  · simp only [EZ, q_bx, if_true, if_false, Nat.reduceAdd, Option.bind_some, Nat.reduceBEq, kai_r, kai_d0_q, kai_d1_q, ECut, EB2, ER, DWorld.c]
    repeat' (first
      | exact eS.mem _ _ _
      | exact eC.mem _ _ _
      | exact eN.mem _ _ _
      | exact Mem.loc ⟨_, ([] : List (List AV)) ++ [_, _], _⟩ _ [_]
      | (guard_target =~ TCall _ _ Fn.kam _ _ _
         refine TCall.ref (by simp only [EO]) (kam_T β v.library hv1 hv2 _) ?_
         rintro wS HS fr
         replace fr : Fresh h _ _ _ := fr
         obtain ⟨fS, oS, nS, bS, eS⟩ := fr.c1
         obtain ⟨a1, a2, a3, a4⟩ := oS.cell
         simp only [EZ, q_bx, if_true, if_false, Nat.reduceAdd, Option.bind_some, Nat.reduceBEq, kai_r, kai_d0_q, kai_d1_q, ECut, EB2, ER, a1, a2, a3])
      | (guard_target =~ TCall _ _ Fn.kal _ _ _
         refine TCall.ref (by simp only [EO]) (kal_T β v.channels hv5 hv6 _) ?_
         rintro wC HC fr
         replace fr : Fresh HS _ _ _ := fr
         obtain ⟨fC, oC, nC, bC, eC⟩ := fr.c1
         obtain ⟨b1, b2, b3, b4⟩ := oC.cell
         simp only [EZ, q_bx, if_true, if_false, Nat.reduceAdd, Option.bind_some, Nat.reduceBEq, kai_r, kai_d0_q, kai_d1_q, ECut, EB2, ER, a1, a2, a3, b1, b2, b3])
      | (guard_target =~ TCall _ _ Fn.kcA _ _ _
         refine TCall.ref (by simp only [EO]) (clone_Note β v.notes hv7 _) ?_
         rintro wT HN fr
         replace fr : Fresh HC _ _ _ := fr
         obtain ⟨fN, oN, nN, bN, eN⟩ := fr.c1
         obtain ⟨c1, c2, c3, c4⟩ := oN.cell
         simp only [EZ, q_bx, if_true, if_false, Nat.reduceAdd, Option.bind_some, Nat.reduceBEq, kai_r, kai_d0_q, kai_d1_q, ECut, EB2, ER, a1, a2, a3, b1, b2, b3, c1, c2, c3])
      | exact ⟨wS, wC, wT, HN, fS, fC, fN, _, _, _, _, _, _, _, _, _, _, _, _, _, _, _, _, _, _, _, _, _, _, _, _, _, _, _, _, _, _, _, rfl, pack3 eS oS nS bS eC oC nC bC eN oN nN bN⟩
      | refine And.intro ?_ ?_)
  rintro s ⟨wS, wC, wT, HB, fS, fC, fN, x0, x4, x5, x6, x7, x8, x9, x10, x11, x12, x13, x14, x15, x16, x17, x18, x19, x20, x21, x22, x23, x24, x25, x26, x27, x28, x29, x30, x31, x32, x33, rfl, xh, oS, oC, oN, nS, nC, nN, d1, d2, d3, bS, bC, bN⟩
  obtain ⟨a1, a2, a3, a4⟩ := oS.cell
  obtain ⟨b1, b2, b3, b4⟩ := oC.cell
  obtain ⟨c1, c2, c3, c4⟩ := oN.cell
  simp only [EZ, q_bx, if_true, if_false, Nat.reduceAdd, Option.bind_some, Nat.reduceBEq, kai_r, kai_d0_q, kai_d1_q, EB2, ER, DWorld.c, L0]
  refine loopI tabOK mixed [] (fun y : Nat × AV × AH × List Nat × List (List AV) => y.1 ≤ v.vats.length ∧ Own y.2.2.1 y.2.1 (.sl 5 ((v.vats.take y.1).map DVat.cd)) y.2.2.2.1 ∧ y.2.2.2.1.Nodup ∧ (∀ c ∈ y.2.2.2.1, HB.length ≤ c) ∧ HExt HB y.2.2.1 ∧ y.2.2.2.2[([] : List (List AV)).length]? = some (v.c β) ∧ (∃ zzR_A, y.2.2.2.2[([] : List (List AV)).length + 1]? = some zzR_A ∧ zzR_A.length = 5) ∧ y.2.2.2.2[([] : List (List AV)).length + 2]? = some [wS, y.2.1, wC, wT, .int .i64 v.strays]) (fun y => v.vats.length - y.1)
    (fun y => kai_s0 (.lp (([] : List (List AV)).length + 1) 0) (.lp (([] : List (List AV)).length + 2) 0) (.vs β 5 false (v.vats.map (DVat.c β))) (.int .i64 v.vats.length) (.int .i64 y.1) y.2.2.2.2 y.2.2.1) (0, .nils, HB, [], _) ⟨by simp, .nil _, by simp, by simp, HExt.refl _, rfl, ⟨_, rfl, rfl⟩, rfl⟩ ⟨by simp [kai_s0, LeL, LeV], rfl, rfl⟩ ?_
  rintro ⟨k, w_A, H_A, fp_A, M_A⟩ ⟨hk, ho_A, nd_A, hfp_A, hx_A, hKS_A, ⟨zzR_A, hKR_A, hzR_A⟩, hM_A⟩
  simp only at hk ho_A nd_A hfp_A hx_A hKS_A hKR_A hM_A
  have hMl_A : ([] : List (List AV)).length + 2 < M_A.length := getElem?_lt hM_A
  obtain ⟨k1_A, k2_A, k3_A, k4_A⟩ := ho_A.cell
  simp only [EZ, q_bx, if_true, if_false, Nat.reduceAdd, Option.bind_some, Nat.reduceBEq, kai_r, kai_d0_q, kai_d1_q, kai_s0]
  refine c_split (fun hlt => ?_) (fun hge => ?_)
  · have hlt : k < v.vats.length := by simpa using hlt
    have i0 := idx_vm (β := β) (sz := 5) (ex := false) (ce := DVat.c β) hlt
    have he := hv4 _ (List.getElem_mem hlt)
    obtain ⟨x, hxe⟩ : ∃ x, x = v.vats[k] := ⟨_, rfl⟩
    rw [← hxe] at i0 he
    have r2 : ∀ (z : List AV) (e : List AV) (h : AH) (off n : Nat), (St.mk e (M_A ++ [z]) h).cells (.lp (([] : List (List AV)).length + 2) off) n = sub [wS, w_A, wC, wT, .int .i64 v.strays] off n := fun z e h off n => cells_at (at_app hM_A _)
    have s2 : ∀ (z : List AV) (e : List AV) (h : AH) (a : AV), isCell a = true → (St.mk e (M_A ++ [z]) h).store (.lp (([] : List (List AV)).length + 2) 1) [a] = some ⟨e, (M_A ++ [z]).set (([] : List (List AV)).length + 2) (over [wS, w_A, wC, wT, .int .i64 v.strays] 1 [a]), h⟩ := fun z e h a ha => store_at (at_app hM_A _) (by simp) ha
    have rl : ∀ (z : List AV) (e : List AV) (h : AH) (off n : Nat), (St.mk e (M_A ++ [z]) h).cells (.lp M_A.length off) n = sub z off n := fun z e h off n => cells_at (at_last _ _)
    simp only [EZ, q_bx, if_true, if_false, Nat.reduceAdd, Option.bind_some, Nat.reduceBEq, kai_r, kai_d0_q, kai_d1_q, i0, DVat.c, EB2, r2, rl, k1_A, k2_A, k3_A]
    refine TCall.ref (by simp only [EO]) (kah_T β x he _) ?_
    rintro _ Hc fr
    replace fr : Fresh H_A _ _ _ := fr
    obtain ⟨aw, fw, rfl, ow, nw, bw, ew⟩ := fr.a1
    have hdis : (fp_A ++ fw).Nodup := nodup_app nd_A nw (fun c hc => ho_A.lt c hc) bw
    replace ho_A := ho_A.ext ew
    have hx1 := hx_A.trans ew
    have oo := ow
    simp only [DVat.cd, ownL_c, ownL_n, own_i, own_b, own_s] at oo
    obtain ⟨_, _, _, _, rfl, _, ⟨rfl, rfl⟩, ⟨az1, _, _, _, rfl, _, uz1, ⟨az2, _, _, _, rfl, _, uz2, ⟨az3, _, _, _, rfl, _, uz3, ⟨az4, _, _, _, rfl, _, uz4, ⟨rfl, _⟩⟩⟩⟩⟩⟩ := oo
    obtain ⟨cz1a, cz1b, cz1c, cz1d⟩ := uz1.cell
    obtain ⟨cz2a, cz2b, cz2c, cz2d⟩ := uz2.cell
    obtain ⟨cz3a, cz3b, cz3c, cz3d⟩ := uz3.cell
    obtain ⟨cz4a, cz4b, cz4c, cz4d⟩ := uz4.cell
    obtain ⟨v', H', fp', ea, o', nd', hf', hl', hm'⟩ := app_ext (bytes := 104) ho_A hdis (by omega) rfl ow (by simp only [List.length_map, List.length_take, maxMade]; omega)
    obtain ⟨j1, j2, j3, j4⟩ := o'.cell
    simp only [EZ, q_bx, if_true, if_false, Nat.reduceAdd, Option.bind_some, Nat.reduceBEq, kai_r, kai_d0_q, kai_d1_q, EA, EB2, ER, cz1a, cz1b, cz1c, cz2a, cz2b, cz2c, cz3a, cz3b, cz3c, cz4a, cz4b, cz4c, r2, rl, k1_A, k2_A, k3_A, ea, j1, j2, j3, s2 _ _ _ _ j2]
    have hl9 := hx_A.len
    have hl8 := hx1.len
    have hb' : ∀ c ∈ fp', HB.length ≤ c := fun c hc => by
      rcases hm' c hc with g | g | g
      · exact hfp_A c g
      · have := bw c g; omega
      · omega
    refine ⟨(by first | exact ew.mem _ _ _ | exact mem_keep (ew.mem _ _ _)), ?_⟩
    exact ⟨(k + 1, v', H', fp', _), ⟨hlt, by simp only; rw [List.take_succ_eq_append_getElem hlt, List.map_append, ← hxe]; exact o', nd', hb', hx1.upd hl' hf' hfp_A, at_set (at_app hKS_A _) (by simp), ⟨zzR_A, at_set (at_app hKR_A _) (by simp), hzR_A⟩, at_setS (at_app hM_A _)⟩, by simp only; omega, ⟨by rw [wN (by omega)]; simp [kai_s0, LeL, LeV], rfl, rfl⟩⟩
  have hge : k = v.vats.length := by simp at hge; omega
  subst hge
  rw [List.take_length] at ho_A
  simp only [EZ, q_bx, if_true, if_false, Nat.reduceAdd, Option.bind_some, Nat.reduceBEq, kai_r, kai_d0_q, kai_d1_q, show ∀ (e : List AV) (h : AH) (off n : Nat), (St.mk e M_A h).cells (.lp (([] : List (List AV)).length + 2) off) n = sub [wS, w_A, wC, wT, .int .i64 v.strays] off n from fun e h off n => cells_at hM_A, show ∀ (e : List AV) (h : AH), (St.mk e M_A h).store (.lp (([] : List (List AV)).length + 1) 0) [wS, w_A, wC, wT, .int .i64 v.strays] = some ⟨e, M_A.set (([] : List (List AV)).length + 1) [wS, w_A, wC, wT, .int .i64 v.strays], h⟩ from fun e h => store_all hKR_A (by rw [hzR_A]; rfl) (by simp only [List.all_cons, List.all_nil, a2, b2, c2, k2_A, Bool.and_true]; rfl), show ∀ (e : List AV) (h : AH) (off n : Nat), (St.mk e (M_A.set (([] : List (List AV)).length + 1) [wS, w_A, wC, wT, .int .i64 v.strays]) h).cells (.lp (([] : List (List AV)).length + 1) off) n = sub [wS, w_A, wC, wT, .int .i64 v.strays] off n from fun e h off n => cells_at (at_setS hKR_A), ER, EB2]
  obtain ⟨N, hN⟩ := (xh.trans hx_A).out
  have hl := xh.len
  refine ⟨by simp [outOK, out1, a3, b3, c3, k3_A, nn_i', nn_s', nn_b'], _, N, fS ++ (fp_A ++ (fC ++ (fN ++ []))), rfl, hN, .o (oS.ext hx_A) (.o ho_A (.o (oC.ext hx_A) (.o (oN.ext hx_A) (.i .nil)))), nodup_w nS nd_A nC nN d1 d2 d3 (fun c hc => oS.lt c hc) (fun c hc => oC.lt c hc) (fun c hc => oN.lt c hc) hfp_A, fun c hc => ?_⟩
  simp only [List.append_nil, List.mem_append] at hc
  rcases hc with g | g | g | g
  · exact bS c g
  · have := hfp_A c g; omega
  · exact bC c g
  · exact bN c g
end Go.Proofs.YtleddolmolkpfaaGreat
