import Derived.Test.YtleddolmolkpfaaGreatAmBox4
import Derived.Test.YtleddolmolkpfaaGreatAmCut
import Derived.Test.YtleddolmolkpfaaGreatAmSzc
import Derived.Test.YtleddolmolkpfaaGreatR5M
import Derived.Test.YtleddolmolkpfaaGreatR5FS
set_option linter.unusedVariables false
set_option linter.unusedSimpArgs false
namespace Go.Proofs.YtleddolmolkpfaaGreat
open Go.AM
set_option linter.unusedVariables false
set_option linter.unusedSimpArgs false
variable {Γ : Glob}
theorem forge_ok (v : DWorld) (hv : v.ok 1048576) (a b : Int) (m : DMessage) (hm : m.ok 1048576) : (forgeF v a b m).1.ok 1048576 := by
  obtain ⟨h1, h2, h3, h4, h5, h6, h7⟩ := hv
  have key : (putM v.channels a b m).1.length ≤ 1048576 ∧ ∀ y ∈ (putM v.channels a b m).1, y.ok 1048576 := by
    unfold putM
    split
    · exact ⟨h5, h6⟩
    · rename_i x hx
      have ox := h6 x (List.mem_of_find?_eq_some hx)
      split
      · exact ⟨h5, h6⟩
      · refine ⟨by simpa using h5, fun y hy => ?_⟩
        rcases List.mem_or_eq_of_mem_set hy with g | g
        · exact h6 y g
        · subst g
          refine ⟨by simp only [List.length_append, List.length_cons, List.length_nil]; omega, fun z hz => ?_⟩
          rcases List.mem_append.1 hz with g | g
          · exact ox.2 z g
          · rw [List.mem_singleton] at g; subst g; exact hm
  exact ⟨h1, h2, h3, h4, key.1, key.2, h7⟩
theorem cntL_set {α : Type} {c : α → Int} {D : Int} (hD : 0 ≤ D) {y : α} : ∀ {l : List α} {k : Nat}, (∀ (hk : k < l.length), c y ≤ c l[k] + D) → cntL c (l.set k y) ≤ cntL c l + D
  | [], _, _ => by simp [cntL]; exact hD
  | x :: r, 0, h => by have := h (by simp); simp only [List.getElem_cons_zero] at this; simp only [List.set_cons_zero, cntL]; omega
  | x :: r, k + 1, h => by
    have := cntL_set hD (c := c) (y := y) (l := r) (k := k) (fun hk => by have := h (by simpa using hk); simpa using this)
    simp only [List.set_cons_succ, cntL]; omega
theorem forge_cnt (v : DWorld) (a b : Int) (m : DMessage) (hm : m.ok 1048576) {C : Int} (hc : v.cntA ≤ C) : (forgeF v a b m).1.cntA ≤ C + 33554432 := by
  have hmc := DMessage.cnt_le m hm
  have key : cntL DChannel.cnt (putM v.channels a b m).1 ≤ cntL DChannel.cnt v.channels + 33554432 := by
    unfold putM
    split
    · simp only; omega
    · rename_i x hx
      split
      · simp only; omega
      · refine cntL_set (by omega) (fun hk => ?_)
        obtain ⟨k, hk', e1, e2, e3⟩ | ⟨e1, e2, e3⟩ := idxI_cases (chanP a b) v.channels
        · have hx' : x = v.channels[k] := by rw [hx] at e3; injection e3
          simp only [e1, Int.toNat_natCast]
          rw [← hx']
          simp only [DChannel.cnt, cntL_app, cntL]; omega
        · rw [hx] at e2; cases e2
  simp only [forgeF, DWorld.cntA] at hc ⊢; omega
theorem kcF_V (a : DWorld) (oa : a.ok 1048576) (fm : Int)  (tt : Int)  (m : DMessage) (om : m.ok 1048576) (h : AH) : T Tryz.prog Γ Fn.kcF [.agg (a.c false), .int .i64 fm, .int .i64 tt, .agg (m.c false)] h fun v h' => v = .tup [.agg (((forgeF a fm tt m).1).c false), .bool ((forgeF a fm tt m).2)] ∧ h' = h := by
  have := (kcF_T (Γ := Γ) false a oa fm tt m om h).frozen
  simpa only [List.map_cons, List.map_nil, resOf_1, resOf_2, rd_c, rd_a, CD.av_sl, CD.av_i, CD.av_b, CD.av_s, List.map_map, Function.comp_def, DWorld.c_eq] using this
theorem kac_V (a : DWorld) (oa : a.ok 1048576) (fm : Int)  (tt : Int)  (m : DMessage) (om : m.ok 1048576) (h : AH) : T Tryz.prog Γ Fn.kac [.agg (a.c false), .int .i64 fm, .int .i64 tt, .agg (m.c false)] h fun v h' => v = .tup [.agg (((forgeF a fm tt m).1).c false), .bool ((forgeF a fm tt m).2)] ∧ h' = h := by
  have := (kac_T (Γ := Γ) false a oa fm tt m om h).frozen
  simpa only [List.map_cons, List.map_nil, resOf_1, resOf_2, rd_c, rd_a, CD.av_sl, CD.av_i, CD.av_b, CD.av_s, List.map_map, Function.comp_def, DWorld.c_eq] using this
set_option maxRecDepth 100000 in
set_option maxHeartbeats 4000000 in
theorem law_ForgeIn (a : DWorld) (ha : a.ok maxLen) (fm : Int)  (tt : Int)  (m : DMessage) (hm : m.ok maxLen) (h : AH) : T Tryz.prog Γ Fn.kap [.agg (a.c false), .int .i64 fm, .int .i64 tt, .agg (m.c false)] h fun v h' => v = .bool true ∧ h' = h := by
  refine (?_ : T Tryz.prog Γ Fn.kap _ h fun v h' => v = .bool true ∧ ∃ N, h' = h ++ N).drop (by rintro v h' ⟨rfl, N, rfl⟩; exact ⟨N, rfl, .bool _, rfl, rfl⟩)
  refine kap_e (aw_sound tabOK mixed [] _ _ _ ?_)
  unfold kap_c
  simp only [EZ, q_bx, if_true, if_false, Nat.reduceAdd, Option.bind_some, Nat.reduceBEq, kap_r, kap_d0_q, kap_d1_q, kap_d2_q, kap_d3_q, EB2, EB4, ER, bne_self_eq_false, beq_self_eq_true, decide_true, DMessage.c, DWorld.c]
  refine TCall.val (by simp only [EO, DMessage.c_noLp, DWorld.c_noLp]) (kbY_T false a ha 1048576 (by omega) (by omega) _) ?_
  simp only [EZ, q_bx, if_true, if_false, Nat.reduceAdd, Option.bind_some, Nat.reduceBEq, kap_r, kap_d0_q, kap_d1_q, kap_d2_q, kap_d3_q, EB2, EB4, ER, bne_self_eq_false, beq_self_eq_true, decide_true, DMessage.c, DWorld.c]
  by_cases na : (a.szf 1048576) < 0
  · simp only [EZ, q_bx, if_true, if_false, Nat.reduceAdd, Option.bind_some, Nat.reduceBEq, kap_r, kap_d0_q, kap_d1_q, kap_d2_q, kap_d3_q, EB2, EB4, ER, bne_self_eq_false, beq_self_eq_true, decide_true, DMessage.c, DWorld.c, decide_eq_true na]
    first | exact ⟨rfl, rfl, [], by simp⟩ | exact ⟨rfl, [], by simp⟩ | exact ⟨[], by simp⟩
  have qa := DWorld.szf_ok a 1048576 (by omega) (by omega) (Int.not_lt.1 na)
  simp only [EZ, q_bx, if_true, if_false, Nat.reduceAdd, Option.bind_some, Nat.reduceBEq, kap_r, kap_d0_q, kap_d1_q, kap_d2_q, kap_d3_q, EB2, EB4, ER, bne_self_eq_false, beq_self_eq_true, decide_true, DMessage.c, DWorld.c, decide_eq_false na]
  have oa := qa.1
  refine TCall.val (by simp only [EO, DMessage.c_noLp, DWorld.c_noLp]) (kbI_T false m hm (a.szf 1048576) (by omega) (by omega) _) ?_
  simp only [EZ, q_bx, if_true, if_false, Nat.reduceAdd, Option.bind_some, Nat.reduceBEq, kap_r, kap_d0_q, kap_d1_q, kap_d2_q, kap_d3_q, EB2, EB4, ER, bne_self_eq_false, beq_self_eq_true, decide_true, DMessage.c, DWorld.c]
  by_cases nm : (m.szf (a.szf 1048576)) < 0
  · simp only [EZ, q_bx, if_true, if_false, Nat.reduceAdd, Option.bind_some, Nat.reduceBEq, kap_r, kap_d0_q, kap_d1_q, kap_d2_q, kap_d3_q, EB2, EB4, ER, bne_self_eq_false, beq_self_eq_true, decide_true, DMessage.c, DWorld.c, decide_eq_true nm]
    first | exact ⟨rfl, rfl, [], by simp⟩ | exact ⟨rfl, [], by simp⟩ | exact ⟨[], by simp⟩
  have qm := DMessage.szf_ok m (a.szf 1048576) (by omega) (by omega) (Int.not_lt.1 nm)
  simp only [EZ, q_bx, if_true, if_false, Nat.reduceAdd, Option.bind_some, Nat.reduceBEq, kap_r, kap_d0_q, kap_d1_q, kap_d2_q, kap_d3_q, EB2, EB4, ER, bne_self_eq_false, beq_self_eq_true, decide_true, DMessage.c, DWorld.c, decide_eq_false nm]
  have om := qm.1
  unfold kap_t1
  obtain ⟨Rt1, hRt1⟩ : ∃ R : St → Prop, R = fun s => ∃ g : Nat → AV, s = ⟨(List.range 129).map g, ([] : List (List AV)) ++ [a.c false, m.c false, (forgeF a fm tt m).1.c false], h⟩ ∧ (g 1 = .int .i64 fm ∧ g 2 = .int .i64 tt ∧ g 4 = (.lp ([] : List (List AV)).length 0) ∧ g 7 = (.lp (([] : List (List AV)).length + 1) 0) ∧ g 10 = (.lp (([] : List (List AV)).length + 2) 0) ∧ g 11 = .bool (forgeF a fm tt m).2) := ⟨_, rfl⟩
  refine aw_cut Rt1 ?_ ?_
  · simp only [EZ, q_bx, if_true, if_false, Nat.reduceAdd, Option.bind_some, Nat.reduceBEq, kap_r, kap_d0_q, kap_d1_q, kap_d2_q, kap_d3_q, EB2, EB4, ER, bne_self_eq_false, beq_self_eq_true, decide_true, DMessage.c, DWorld.c, ECut]
    repeat' (first
      | (guard_target =~ Mem _ _; exact Mem.loc ⟨_, ([] : List (List AV)) ++ [_, _], _⟩ _ [_])
      | (guard_target =~ KeepR _ _ _; first | exact keep_lp' rfl | exact keep_lp (L' := [_]) rfl)
      | (guard_target =~ TCall _ _ Fn.kcw _ _ _
         refine TCall.val (by simp only [EO, DMessage.c_noLp, DWorld.c_noLp]) (kcw_V false a oa _) ?_
         simp only [EZ, q_bx, if_true, if_false, Nat.reduceAdd, Option.bind_some, Nat.reduceBEq, kap_r, kap_d0_q, kap_d1_q, kap_d2_q, kap_d3_q, EB2, EB4, ER, bne_self_eq_false, beq_self_eq_true, decide_true, DMessage.c, DWorld.c, ECut])
      | (guard_target =~ TCall _ _ Fn.kcb _ _ _
         refine TCall.val (by simp only [EO, DMessage.c_noLp, DWorld.c_noLp]) (kcb_V false m om _) ?_
         simp only [EZ, q_bx, if_true, if_false, Nat.reduceAdd, Option.bind_some, Nat.reduceBEq, kap_r, kap_d0_q, kap_d1_q, kap_d2_q, kap_d3_q, EB2, EB4, ER, bne_self_eq_false, beq_self_eq_true, decide_true, DMessage.c, DWorld.c, ECut])
      | (guard_target =~ TCall _ _ Fn.kcF _ _ _
         refine TCall.val (by simp only [EO, DMessage.c_noLp, DWorld.c_noLp]) (kcF_V a oa fm tt m om _) ?_
         simp only [EZ, q_bx, if_true, if_false, Nat.reduceAdd, Option.bind_some, Nat.reduceBEq, kap_r, kap_d0_q, kap_d1_q, kap_d2_q, kap_d3_q, EB2, EB4, ER, bne_self_eq_false, beq_self_eq_true, decide_true, DMessage.c, DWorld.c, ECut])
      | (rw [hRt1]; exact ⟨cutG _, cutE rfl, ⟨rfl, rfl, rfl, rfl, rfl, rfl⟩⟩)
      | refine And.intro ?_ ?_)
  intro s hs
  rw [hRt1] at hs
  clear hRt1
  obtain ⟨g, rfl, ⟨eg1, eg2, eg4, eg7, eg10, eg11⟩⟩ := hs
  rw [show (List.range 129).map g = g 0 :: g 1 :: g 2 :: g 3 :: g 4 :: g 5 :: g 6 :: g 7 :: g 8 :: g 9 :: g 10 :: g 11 :: g 12 :: g 13 :: g 14 :: g 15 :: g 16 :: g 17 :: g 18 :: g 19 :: g 20 :: g 21 :: g 22 :: g 23 :: g 24 :: g 25 :: g 26 :: g 27 :: g 28 :: g 29 :: g 30 :: g 31 :: g 32 :: g 33 :: g 34 :: g 35 :: g 36 :: g 37 :: g 38 :: g 39 :: g 40 :: g 41 :: g 42 :: g 43 :: g 44 :: g 45 :: g 46 :: g 47 :: g 48 :: g 49 :: g 50 :: g 51 :: g 52 :: g 53 :: g 54 :: g 55 :: g 56 :: g 57 :: g 58 :: g 59 :: g 60 :: g 61 :: g 62 :: g 63 :: g 64 :: g 65 :: g 66 :: g 67 :: g 68 :: g 69 :: g 70 :: g 71 :: g 72 :: g 73 :: g 74 :: g 75 :: g 76 :: g 77 :: g 78 :: g 79 :: g 80 :: g 81 :: g 82 :: g 83 :: g 84 :: g 85 :: g 86 :: g 87 :: g 88 :: g 89 :: g 90 :: g 91 :: g 92 :: g 93 :: g 94 :: g 95 :: g 96 :: g 97 :: g 98 :: g 99 :: g 100 :: g 101 :: g 102 :: g 103 :: g 104 :: g 105 :: g 106 :: g 107 :: g 108 :: g 109 :: g 110 :: g 111 :: g 112 :: g 113 :: g 114 :: g 115 :: g 116 :: g 117 :: g 118 :: g 119 :: g 120 :: g 121 :: g 122 :: g 123 :: g 124 :: g 125 :: g 126 :: g 127 :: g 128 :: [] from rfl]
  simp only [eg1, eg2, eg4, eg7, eg10, eg11]
  simp only [EZ, q_bx, if_true, if_false, Nat.reduceAdd, Option.bind_some, Nat.reduceBEq, kap_r, kap_d0_q, kap_d1_q, kap_d2_q, kap_d3_q, EB2, EB4, ER, bne_self_eq_false, beq_self_eq_true, decide_true, DMessage.c, DWorld.c]
  have rok := forge_ok a oa fm tt m om
  have xh : HExt h h := HExt.refl h
  refine TCall.ref (by simp only [EO, DMessage.c_noLp, DWorld.c_noLp]) (kcw_T false a oa _) ?_
  have xh0 := xh
  rintro _ H1 fr
  replace fr : Fresh h _ _ _ := fr
  obtain ⟨as_xa, f_xa, rfl, o_xa, n_xa, b_xa, e_xa⟩ := fr.a1
  have ooxa := o_xa
  simp only [DWorld.cd, ownL_c, ownL_n, own_i, own_b, own_s] at ooxa
  obtain ⟨axa0, _, _, _, rfl, _, uxa0, ⟨axa1, _, _, _, rfl, _, uxa1, ⟨axa2, _, _, _, rfl, _, uxa2, ⟨axa3, _, _, _, rfl, _, uxa3, ⟨_, _, _, _, rfl, _, ⟨rfl, rfl⟩, ⟨rfl, _⟩⟩⟩⟩⟩⟩ := ooxa
  obtain ⟨cxa0a, cxa0b, cxa0c, cxa0d⟩ := uxa0.cell
  obtain ⟨cxa1a, cxa1b, cxa1c, cxa1d⟩ := uxa1.cell
  obtain ⟨cxa2a, cxa2b, cxa2c, cxa2d⟩ := uxa2.cell
  obtain ⟨cxa3a, cxa3b, cxa3c, cxa3d⟩ := uxa3.cell
  have xh := xh.trans e_xa
  have g_xa : ∀ c ∈ f_xa, h.length ≤ c := fun c hc => by have := b_xa c hc; have := xh0.len; omega
  simp only [EZ, q_bx, if_true, if_false, Nat.reduceAdd, Option.bind_some, Nat.reduceBEq, kap_r, kap_d0_q, kap_d1_q, kap_d2_q, kap_d3_q, EB2, EB4, ER, bne_self_eq_false, beq_self_eq_true, decide_true, DMessage.c, DWorld.c, cxa0a, cxa0b, cxa0c, cxa1a, cxa1b, cxa1c, cxa2a, cxa2b, cxa2c, cxa3a, cxa3b, cxa3c]
  refine TCall.ref (by simp only [EO, DMessage.c_noLp, DWorld.c_noLp, cxa0d, cxa0c, cxa1d, cxa1c, cxa2d, cxa2c, cxa3d, cxa3c]) (kcb_T false m om _) ?_
  have xh0 := xh
  rintro _ H2 fr
  replace fr : Fresh H1 _ _ _ := fr
  obtain ⟨as_xm, f_xm, rfl, o_xm, n_xm, b_xm, e_xm⟩ := fr.a1
  have ooxm := o_xm
  simp only [DMessage.cd, ownL_c, ownL_n, own_i, own_b, own_s] at ooxm
  obtain ⟨_, _, _, _, rfl, _, ⟨rfl, rfl⟩, ⟨_, _, _, _, rfl, _, ⟨rfl, rfl⟩, ⟨_, _, _, _, rfl, _, ⟨rfl, rfl⟩, ⟨_, _, _, _, rfl, _, ⟨rfl, rfl⟩, ⟨_, _, _, _, rfl, _, ⟨rfl, rfl⟩, ⟨axm5, _, _, _, rfl, _, uxm5, ⟨_, _, _, _, rfl, _, ⟨rfl, rfl⟩, ⟨_, _, _, _, rfl, _, ⟨rfl, rfl⟩, ⟨_, _, _, _, rfl, _, ⟨rfl, rfl⟩, ⟨_, _, _, _, rfl, _, ⟨rfl, rfl⟩, ⟨_, _, _, _, rfl, _, ⟨rfl, rfl⟩, ⟨_, _, _, _, rfl, _, ⟨rfl, rfl⟩, ⟨rfl, _⟩⟩⟩⟩⟩⟩⟩⟩⟩⟩⟩⟩⟩ := ooxm
  obtain ⟨cxm5a, cxm5b, cxm5c, cxm5d⟩ := uxm5.cell
  have xh := xh.trans e_xm
  have d_xa_xm : ∀ c, c ∈ f_xa → c ∉ f_xm := fun c h1 h2 => by have := o_xa.lt c h1; have := b_xm c h2; omega
  replace o_xa := o_xa.ext e_xm
  have g_xm : ∀ c ∈ f_xm, h.length ≤ c := fun c hc => by have := b_xm c hc; have := xh0.len; omega
  simp only [EZ, q_bx, if_true, if_false, Nat.reduceAdd, Option.bind_some, Nat.reduceBEq, kap_r, kap_d0_q, kap_d1_q, kap_d2_q, kap_d3_q, EB2, EB4, ER, bne_self_eq_false, beq_self_eq_true, decide_true, DMessage.c, DWorld.c, cxa0a, cxa0b, cxa0c, cxa1a, cxa1b, cxa1c, cxa2a, cxa2b, cxa2c, cxa3a, cxa3b, cxa3c, cxm5a, cxm5b, cxm5c]
  refine TCall.own (by simp only [EO, DMessage.c_noLp, DWorld.c_noLp, cxa0d, cxa0c, cxa1d, cxa1c, cxa2d, cxa2c, cxa3d, cxa3c, cxm5d, cxm5c]) (snap_c (OwnL.see (DWorld.c_eq true _) o_xa) (snap_c (.same _) (snap_c (.same _) (snap_c (OwnL.see (DMessage.c_eq true _) o_xm) snap_n)))) (kac_T true a oa fm tt m om) ?_
  have xh0 := xh
  rintro _ H3 fr
  replace fr : Fresh H2 _ _ _ := fr
  obtain ⟨as_g, f_g, rfl, o_g, n_g, b_g, e_g⟩ := (fr.a2 rfl)
  have oog := o_g
  simp only [DWorld.cd, ownL_c, ownL_n, own_i, own_b, own_s] at oog
  obtain ⟨ag0, _, _, _, rfl, _, ug0, ⟨ag1, _, _, _, rfl, _, ug1, ⟨ag2, _, _, _, rfl, _, ug2, ⟨ag3, _, _, _, rfl, _, ug3, ⟨_, _, _, _, rfl, _, ⟨rfl, rfl⟩, ⟨rfl, _⟩⟩⟩⟩⟩⟩ := oog
  obtain ⟨cg0a, cg0b, cg0c, cg0d⟩ := ug0.cell
  obtain ⟨cg1a, cg1b, cg1c, cg1d⟩ := ug1.cell
  obtain ⟨cg2a, cg2b, cg2c, cg2d⟩ := ug2.cell
  obtain ⟨cg3a, cg3b, cg3c, cg3d⟩ := ug3.cell
  have xh := xh.trans e_g
  have d_xa_g : ∀ c, c ∈ f_xa → c ∉ f_g := fun c h1 h2 => by have := o_xa.lt c h1; have := b_g c h2; omega
  have d_xm_g : ∀ c, c ∈ f_xm → c ∉ f_g := fun c h1 h2 => by have := o_xm.lt c h1; have := b_g c h2; omega
  replace o_xa := o_xa.ext e_g
  replace o_xm := o_xm.ext e_g
  have g_g : ∀ c ∈ f_g, h.length ≤ c := fun c hc => by have := b_g c hc; have := xh0.len; omega
  simp only [EZ, q_bx, if_true, if_false, Nat.reduceAdd, Option.bind_some, Nat.reduceBEq, kap_r, kap_d0_q, kap_d1_q, kap_d2_q, kap_d3_q, EB2, EB4, ER, bne_self_eq_false, beq_self_eq_true, decide_true, DMessage.c, DWorld.c, cxa0a, cxa0b, cxa0c, cxa1a, cxa1b, cxa1c, cxa2a, cxa2b, cxa2c, cxa3a, cxa3b, cxa3c, cxm5a, cxm5b, cxm5c, cg0a, cg0b, cg0c, cg1a, cg1b, cg1c, cg2a, cg2b, cg2c, cg3a, cg3b, cg3c, CD.av_b]
  refine TCall.see (by simp only [EO, DMessage.c_noLp, DWorld.c_noLp, cxa0d, cxa0c, cxa1d, cxa1c, cxa2d, cxa2c, cxa3d, cxa3c, cxm5d, cxm5c, cg0d, cg0c, cg1d, cg1c, cg2d, cg2c, cg3d, cg3c]) (snap_c (OwnL.see (DWorld.c_eq true _) o_g) (snap_c (.same _) snap_n)) (fun h => kaX_T true false ((forgeF a fm tt m).1) ((forgeF a fm tt m).1) (rok.mono (by omega)) h) (.bool _) ?_
  simp only [EZ, q_bx, if_true, if_false, Nat.reduceAdd, Option.bind_some, Nat.reduceBEq, kap_r, kap_d0_q, kap_d1_q, kap_d2_q, kap_d3_q, EB2, EB4, ER, bne_self_eq_false, beq_self_eq_true, decide_true, DMessage.c, DWorld.c, cxa0a, cxa0b, cxa0c, cxa1a, cxa1b, cxa1c, cxa2a, cxa2b, cxa2c, cxa3a, cxa3b, cxa3c, cxm5a, cxm5b, cxm5c, cg0a, cg0b, cg0c, cg1a, cg1b, cg1c, cg2a, cg2b, cg2c, cg3a, cg3b, cg3c, CD.av_b]
  refine TCall.val (by simp only [EO, DMessage.c_noLp, DWorld.c_noLp, cxa0d, cxa0c, cxa1d, cxa1c, cxa2d, cxa2c, cxa3d, cxa3c, cxm5d, cxm5c, cg0d, cg0c, cg1d, cg1c, cg2d, cg2c, cg3d, cg3c]) (kcw_V false a oa _) ?_
  simp only [EZ, q_bx, if_true, if_false, Nat.reduceAdd, Option.bind_some, Nat.reduceBEq, kap_r, kap_d0_q, kap_d1_q, kap_d2_q, kap_d3_q, EB2, EB4, ER, bne_self_eq_false, beq_self_eq_true, decide_true, DMessage.c, DWorld.c, cxa0a, cxa0b, cxa0c, cxa1a, cxa1b, cxa1c, cxa2a, cxa2b, cxa2c, cxa3a, cxa3b, cxa3c, cxm5a, cxm5b, cxm5c, cg0a, cg0b, cg0c, cg1a, cg1b, cg1c, cg2a, cg2b, cg2c, cg3a, cg3b, cg3c, CD.av_b]
  refine TCall.see (by simp only [EO, DMessage.c_noLp, DWorld.c_noLp, cxa0d, cxa0c, cxa1d, cxa1c, cxa2d, cxa2c, cxa3d, cxa3c, cxm5d, cxm5c, cg0d, cg0c, cg1d, cg1c, cg2d, cg2c, cg3d, cg3c]) (snap_c (OwnL.see (DWorld.c_eq true _) o_xa) (snap_c (.same _) snap_n)) (fun h => kaX_T true false (a) (a) (oa.mono (by omega)) h) (.bool _) ?_
  simp only [EZ, q_bx, if_true, if_false, Nat.reduceAdd, Option.bind_some, Nat.reduceBEq, kap_r, kap_d0_q, kap_d1_q, kap_d2_q, kap_d3_q, EB2, EB4, ER, bne_self_eq_false, beq_self_eq_true, decide_true, DMessage.c, DWorld.c, cxa0a, cxa0b, cxa0c, cxa1a, cxa1b, cxa1c, cxa2a, cxa2b, cxa2c, cxa3a, cxa3b, cxa3c, cxm5a, cxm5b, cxm5c, cg0a, cg0b, cg0c, cg1a, cg1b, cg1c, cg2a, cg2b, cg2c, cg3a, cg3b, cg3c, CD.av_b]
  refine TCall.val (by simp only [EO, DMessage.c_noLp, DWorld.c_noLp, cxa0d, cxa0c, cxa1d, cxa1c, cxa2d, cxa2c, cxa3d, cxa3c, cxm5d, cxm5c, cg0d, cg0c, cg1d, cg1c, cg2d, cg2c, cg3d, cg3c]) (kcb_V false m om _) ?_
  simp only [EZ, q_bx, if_true, if_false, Nat.reduceAdd, Option.bind_some, Nat.reduceBEq, kap_r, kap_d0_q, kap_d1_q, kap_d2_q, kap_d3_q, EB2, EB4, ER, bne_self_eq_false, beq_self_eq_true, decide_true, DMessage.c, DWorld.c, cxa0a, cxa0b, cxa0c, cxa1a, cxa1b, cxa1c, cxa2a, cxa2b, cxa2c, cxa3a, cxa3b, cxa3c, cxm5a, cxm5b, cxm5c, cg0a, cg0b, cg0c, cg1a, cg1b, cg1c, cg2a, cg2b, cg2c, cg3a, cg3b, cg3c, CD.av_b]
  refine TCall.see (by simp only [EO, DMessage.c_noLp, DWorld.c_noLp, cxa0d, cxa0c, cxa1d, cxa1c, cxa2d, cxa2c, cxa3d, cxa3c, cxm5d, cxm5c, cg0d, cg0c, cg1d, cg1c, cg2d, cg2c, cg3d, cg3c]) (snap_c (OwnL.see (DMessage.c_eq true _) o_xm) (snap_c (.same _) snap_n)) (fun h => kaC_T true false (m) (m) (om.mono (by omega)) h) (.bool _) ?_
  simp only [EZ, q_bx, if_true, if_false, Nat.reduceAdd, Option.bind_some, Nat.reduceBEq, kap_r, kap_d0_q, kap_d1_q, kap_d2_q, kap_d3_q, EB2, EB4, ER, bne_self_eq_false, beq_self_eq_true, decide_true, DMessage.c, DWorld.c, cxa0a, cxa0b, cxa0c, cxa1a, cxa1b, cxa1c, cxa2a, cxa2b, cxa2c, cxa3a, cxa3b, cxa3c, cxm5a, cxm5b, cxm5c, cg0a, cg0b, cg0c, cg1a, cg1b, cg1c, cg2a, cg2b, cg2c, cg3a, cg3b, cg3c, CD.av_b]
  have cl_xa := DWorld.szf_cntA a 1048576 (by omega) (by omega) (Int.not_lt.1 na)
  have cn_xa := DWorld.cntA_nn (a)
  have cl_xm := DMessage.cntA_le (m) om
  have cn_xm := DMessage.cntA_nn (m)
  refine TCall.ref (by simp only [EO, DMessage.c_noLp, DWorld.c_noLp, cxa0d, cxa0c, cxa1d, cxa1c, cxa2d, cxa2c, cxa3d, cxa3c, cxm5d, cxm5c, cg0d, cg0c, cg1d, cg1c, cg2d, cg2c, cg3d, cg3c]) (kbx_T (a) (1) (by omega) (by omega) (oa.mono (by omega)) _ o_xa n_xa) ?_
  rintro _ H4 ⟨rfl, hl, hf, o_xa⟩
  replace hl : H4.length = H3.length := hl
  replace hf : ∀ c, c ∉ f_xa → H4[c]? = H3[c]? := hf
  replace o_xm := o_xm.frame fun c hc => hf c (fun h2 => d_xa_xm c h2 hc)
  replace o_g := o_g.frame fun c hc => hf c (fun h2 => d_xa_g c h2 hc)
  replace xh := xh.mark hl hf g_xa
  simp only [EZ, q_bx, if_true, if_false, Nat.reduceAdd, Option.bind_some, Nat.reduceBEq, kap_r, kap_d0_q, kap_d1_q, kap_d2_q, kap_d3_q, EB2, EB4, ER, bne_self_eq_false, beq_self_eq_true, decide_true, DMessage.c, DWorld.c, cxa0a, cxa0b, cxa0c, cxa1a, cxa1b, cxa1c, cxa2a, cxa2b, cxa2c, cxa3a, cxa3b, cxa3c, cxm5a, cxm5b, cxm5c, cg0a, cg0b, cg0c, cg1a, cg1b, cg1c, cg2a, cg2b, cg2c, cg3a, cg3b, cg3c, CD.av_b]
  refine TCall.ref (by simp only [EO, DMessage.c_noLp, DWorld.c_noLp, cxa0d, cxa0c, cxa1d, cxa1c, cxa2d, cxa2c, cxa3d, cxa3c, cxm5d, cxm5c, cg0d, cg0c, cg1d, cg1c, cg2d, cg2c, cg3d, cg3c]) (kbl_T (m) (1 + DWorld.cntA (a)) (by omega) (by omega) (om.mono (by omega)) _ o_xm n_xm) ?_
  rintro _ H5 ⟨rfl, hl, hf, o_xm⟩
  replace hl : H5.length = H4.length := hl
  replace hf : ∀ c, c ∉ f_xm → H5[c]? = H4[c]? := hf
  replace o_xa := o_xa.frame fun c hc => hf c (d_xa_xm c hc)
  replace o_g := o_g.frame fun c hc => hf c (fun h2 => d_xm_g c h2 hc)
  replace xh := xh.mark hl hf g_xm
  simp only [EZ, q_bx, if_true, if_false, Nat.reduceAdd, Option.bind_some, Nat.reduceBEq, kap_r, kap_d0_q, kap_d1_q, kap_d2_q, kap_d3_q, EB2, EB4, ER, bne_self_eq_false, beq_self_eq_true, decide_true, DMessage.c, DWorld.c, cxa0a, cxa0b, cxa0c, cxa1a, cxa1b, cxa1c, cxa2a, cxa2b, cxa2c, cxa3a, cxa3b, cxa3c, cxm5a, cxm5b, cxm5c, cg0a, cg0b, cg0c, cg1a, cg1b, cg1c, cg2a, cg2b, cg2c, cg3a, cg3b, cg3c, CD.av_b]
  have yk : decide (1 + DWorld.cntA (a) + DMessage.cntA (m) < 0) = false := decide_eq_false (by omega)
  simp only [EZ, q_bx, if_true, if_false, Nat.reduceAdd, Option.bind_some, Nat.reduceBEq, kap_r, kap_d0_q, kap_d1_q, kap_d2_q, kap_d3_q, EB2, EB4, ER, bne_self_eq_false, beq_self_eq_true, decide_true, DMessage.c, DWorld.c, cxa0a, cxa0b, cxa0c, cxa1a, cxa1b, cxa1c, cxa2a, cxa2b, cxa2c, cxa3a, cxa3b, cxa3c, cxm5a, cxm5b, cxm5c, cg0a, cg0b, cg0c, cg1a, cg1b, cg1c, cg2a, cg2b, cg2c, cg3a, cg3b, cg3c, CD.av_b, yk]
  refine TCall.see (by simp only [EO, DMessage.c_noLp, DWorld.c_noLp, cxa0d, cxa0c, cxa1d, cxa1c, cxa2d, cxa2c, cxa3d, cxa3c, cxm5d, cxm5c, cg0d, cg0c, cg1d, cg1c, cg2d, cg2c, cg3d, cg3c]) (snap_c (OwnL.see (DWorld.c_eq true _) o_g) (snap_c (.same _) snap_n)) (fun h => kaX_T true false ((forgeF a fm tt m).1) ((forgeF a fm tt m).1) (rok.mono (by omega)) h) (.bool _) ?_
  simp only [EZ, q_bx, if_true, if_false, Nat.reduceAdd, Option.bind_some, Nat.reduceBEq, kap_r, kap_d0_q, kap_d1_q, kap_d2_q, kap_d3_q, EB2, EB4, ER, bne_self_eq_false, beq_self_eq_true, decide_true, DMessage.c, DWorld.c, cxa0a, cxa0b, cxa0c, cxa1a, cxa1b, cxa1c, cxa2a, cxa2b, cxa2c, cxa3a, cxa3b, cxa3c, cxm5a, cxm5b, cxm5c, cg0a, cg0b, cg0c, cg1a, cg1b, cg1c, cg2a, cg2b, cg2c, cg3a, cg3b, cg3c, CD.av_b, yk]
  have cl_g := forge_cnt a fm tt m om cl_xa
  have cn_g := DWorld.cntA_nn ((forgeF a fm tt m).1)
  refine TCall.ref (by simp only [EO, DMessage.c_noLp, DWorld.c_noLp, cxa0d, cxa0c, cxa1d, cxa1c, cxa2d, cxa2c, cxa3d, cxa3c, cxm5d, cxm5c, cg0d, cg0c, cg1d, cg1c, cg2d, cg2c, cg3d, cg3c]) (kbx_T ((forgeF a fm tt m).1) (1) (by omega) (by omega) (rok.mono (by omega)) _ o_g n_g) ?_
  rintro _ H6 ⟨rfl, hl, hf, o_g⟩
  replace hl : H6.length = H5.length := hl
  replace hf : ∀ c, c ∉ f_g → H6[c]? = H5[c]? := hf
  replace o_xa := o_xa.frame fun c hc => hf c (d_xa_g c hc)
  replace o_xm := o_xm.frame fun c hc => hf c (d_xm_g c hc)
  replace xh := xh.mark hl hf g_g
  simp only [EZ, q_bx, if_true, if_false, Nat.reduceAdd, Option.bind_some, Nat.reduceBEq, kap_r, kap_d0_q, kap_d1_q, kap_d2_q, kap_d3_q, EB2, EB4, ER, bne_self_eq_false, beq_self_eq_true, decide_true, DMessage.c, DWorld.c, cxa0a, cxa0b, cxa0c, cxa1a, cxa1b, cxa1c, cxa2a, cxa2b, cxa2c, cxa3a, cxa3b, cxa3c, cxm5a, cxm5b, cxm5c, cg0a, cg0b, cg0c, cg1a, cg1b, cg1c, cg2a, cg2b, cg2c, cg3a, cg3b, cg3c, CD.av_b, yk]
  have ym : decide (1 + DWorld.cntA ((forgeF a fm tt m).1) < 0) = false := decide_eq_false (by omega)
  refine TCall.see (by simp only [EO, DMessage.c_noLp, DWorld.c_noLp, cxa0d, cxa0c, cxa1d, cxa1c, cxa2d, cxa2c, cxa3d, cxa3c, cxm5d, cxm5c, cg0d, cg0c, cg1d, cg1c, cg2d, cg2c, cg3d, cg3c]) (snap_c (OwnL.see (DWorld.c_eq true _) o_g) (snap_c (.same _) snap_n)) (fun h => kbe_T true ((forgeF a fm tt m).1) 1 (by omega) (by omega) (rok.mono (by omega)) h) (.int _ _) ?_
  simp only [EZ, q_bx, if_true, if_false, Nat.reduceAdd, Option.bind_some, Nat.reduceBEq, kap_r, kap_d0_q, kap_d1_q, kap_d2_q, kap_d3_q, EB2, EB4, ER, bne_self_eq_false, beq_self_eq_true, decide_true, DMessage.c, DWorld.c, cxa0a, cxa0b, cxa0c, cxa1a, cxa1b, cxa1c, cxa2a, cxa2b, cxa2c, cxa3a, cxa3b, cxa3c, cxm5a, cxm5b, cxm5c, cg0a, cg0b, cg0c, cg1a, cg1b, cg1c, cg2a, cg2b, cg2c, cg3a, cg3b, cg3c, CD.av_b, yk, ym]
  unfold kap_t0
  obtain ⟨Rt0, hRt0⟩ : ∃ R : St → Prop, R = fun s => ∃ l3 l4, ∃ g : Nat → AV, s = ⟨(List.range 129).map g, ([] : List (List AV)) ++ [a.c false, m.c false, (forgeF a fm tt m).1.c false, l3, l4, [ag0, ag1, ag2, ag3, .int .i64 (forgeF a fm tt m).1.strays], (forgeF a fm tt m).1.c false], H6⟩ ∧ (g 10 = (.lp (([] : List (List AV)).length + 2) 0) ∧ g 11 = .bool (forgeF a fm tt m).2 ∧ g 14 = (.lp (([] : List (List AV)).length + 5) 0) ∧ g 17 = .int .i64 (1 + DWorld.cntA ((forgeF a fm tt m).1)) ∧ g 19 = (.lp (([] : List (List AV)).length + 6) 0) ∧ g 20 = .bool (forgeF a fm tt m).2) := ⟨_, rfl⟩
  refine aw_cut Rt0 ?_ ?_
  · simp only [EZ, q_bx, if_true, if_false, Nat.reduceAdd, Option.bind_some, Nat.reduceBEq, kap_r, kap_d0_q, kap_d1_q, kap_d2_q, kap_d3_q, EB2, EB4, ER, bne_self_eq_false, beq_self_eq_true, decide_true, DMessage.c, DWorld.c, cxa0a, cxa0b, cxa0c, cxa1a, cxa1b, cxa1c, cxa2a, cxa2b, cxa2c, cxa3a, cxa3b, cxa3c, cxm5a, cxm5b, cxm5c, cg0a, cg0b, cg0c, cg1a, cg1b, cg1c, cg2a, cg2b, cg2c, cg3a, cg3b, cg3c, CD.av_b, yk, ym, ECut]
    repeat' (first
      | (guard_target =~ Mem _ _; exact Mem.loc ⟨_, ([] : List (List AV)) ++ [_, _, _, _, _, _], _⟩ _ [_])
      | (guard_target =~ KeepR _ _ _; first | exact keep_lp' rfl | exact keep_lp (L' := [_]) rfl)
      | (guard_target =~ TCall _ _ Fn.kcw _ _ _
         refine TCall.val (by simp only [EO, DMessage.c_noLp, DWorld.c_noLp, cxa0d, cxa0c, cxa1d, cxa1c, cxa2d, cxa2c, cxa3d, cxa3c, cxm5d, cxm5c, cg0d, cg0c, cg1d, cg1c, cg2d, cg2c, cg3d, cg3c]) (kcw_V false a oa _) ?_
         simp only [EZ, q_bx, if_true, if_false, Nat.reduceAdd, Option.bind_some, Nat.reduceBEq, kap_r, kap_d0_q, kap_d1_q, kap_d2_q, kap_d3_q, EB2, EB4, ER, bne_self_eq_false, beq_self_eq_true, decide_true, DMessage.c, DWorld.c, cxa0a, cxa0b, cxa0c, cxa1a, cxa1b, cxa1c, cxa2a, cxa2b, cxa2c, cxa3a, cxa3b, cxa3c, cxm5a, cxm5b, cxm5c, cg0a, cg0b, cg0c, cg1a, cg1b, cg1c, cg2a, cg2b, cg2c, cg3a, cg3b, cg3c, CD.av_b, yk, ym, ECut])
      | (guard_target =~ TCall _ _ Fn.kcb _ _ _
         refine TCall.val (by simp only [EO, DMessage.c_noLp, DWorld.c_noLp, cxa0d, cxa0c, cxa1d, cxa1c, cxa2d, cxa2c, cxa3d, cxa3c, cxm5d, cxm5c, cg0d, cg0c, cg1d, cg1c, cg2d, cg2c, cg3d, cg3c]) (kcb_V false m om _) ?_
         simp only [EZ, q_bx, if_true, if_false, Nat.reduceAdd, Option.bind_some, Nat.reduceBEq, kap_r, kap_d0_q, kap_d1_q, kap_d2_q, kap_d3_q, EB2, EB4, ER, bne_self_eq_false, beq_self_eq_true, decide_true, DMessage.c, DWorld.c, cxa0a, cxa0b, cxa0c, cxa1a, cxa1b, cxa1c, cxa2a, cxa2b, cxa2c, cxa3a, cxa3b, cxa3c, cxm5a, cxm5b, cxm5c, cg0a, cg0b, cg0c, cg1a, cg1b, cg1c, cg2a, cg2b, cg2c, cg3a, cg3b, cg3c, CD.av_b, yk, ym, ECut])
      | (guard_target =~ TCall _ _ Fn.kac _ _ _
         refine TCall.val (by simp only [EO, DMessage.c_noLp, DWorld.c_noLp, cxa0d, cxa0c, cxa1d, cxa1c, cxa2d, cxa2c, cxa3d, cxa3c, cxm5d, cxm5c, cg0d, cg0c, cg1d, cg1c, cg2d, cg2c, cg3d, cg3c]) (kac_V a oa fm tt m om _) ?_
         simp only [EZ, q_bx, if_true, if_false, Nat.reduceAdd, Option.bind_some, Nat.reduceBEq, kap_r, kap_d0_q, kap_d1_q, kap_d2_q, kap_d3_q, EB2, EB4, ER, bne_self_eq_false, beq_self_eq_true, decide_true, DMessage.c, DWorld.c, cxa0a, cxa0b, cxa0c, cxa1a, cxa1b, cxa1c, cxa2a, cxa2b, cxa2c, cxa3a, cxa3b, cxa3c, cxm5a, cxm5b, cxm5c, cg0a, cg0b, cg0c, cg1a, cg1b, cg1c, cg2a, cg2b, cg2c, cg3a, cg3b, cg3c, CD.av_b, yk, ym, ECut])
      | (rw [hRt0]; exact ⟨_, _, cutG _, cutE rfl, ⟨rfl, rfl, rfl, rfl, rfl, rfl⟩⟩)
      | refine And.intro ?_ ?_)
  intro s hs
  rw [hRt0] at hs
  clear hRt0
  obtain ⟨l3, l4, g, rfl, ⟨eg10, eg11, eg14, eg17, eg19, eg20⟩⟩ := hs
  rw [show (List.range 129).map g = g 0 :: g 1 :: g 2 :: g 3 :: g 4 :: g 5 :: g 6 :: g 7 :: g 8 :: g 9 :: g 10 :: g 11 :: g 12 :: g 13 :: g 14 :: g 15 :: g 16 :: g 17 :: g 18 :: g 19 :: g 20 :: g 21 :: g 22 :: g 23 :: g 24 :: g 25 :: g 26 :: g 27 :: g 28 :: g 29 :: g 30 :: g 31 :: g 32 :: g 33 :: g 34 :: g 35 :: g 36 :: g 37 :: g 38 :: g 39 :: g 40 :: g 41 :: g 42 :: g 43 :: g 44 :: g 45 :: g 46 :: g 47 :: g 48 :: g 49 :: g 50 :: g 51 :: g 52 :: g 53 :: g 54 :: g 55 :: g 56 :: g 57 :: g 58 :: g 59 :: g 60 :: g 61 :: g 62 :: g 63 :: g 64 :: g 65 :: g 66 :: g 67 :: g 68 :: g 69 :: g 70 :: g 71 :: g 72 :: g 73 :: g 74 :: g 75 :: g 76 :: g 77 :: g 78 :: g 79 :: g 80 :: g 81 :: g 82 :: g 83 :: g 84 :: g 85 :: g 86 :: g 87 :: g 88 :: g 89 :: g 90 :: g 91 :: g 92 :: g 93 :: g 94 :: g 95 :: g 96 :: g 97 :: g 98 :: g 99 :: g 100 :: g 101 :: g 102 :: g 103 :: g 104 :: g 105 :: g 106 :: g 107 :: g 108 :: g 109 :: g 110 :: g 111 :: g 112 :: g 113 :: g 114 :: g 115 :: g 116 :: g 117 :: g 118 :: g 119 :: g 120 :: g 121 :: g 122 :: g 123 :: g 124 :: g 125 :: g 126 :: g 127 :: g 128 :: [] from rfl]
  simp only [eg10, eg11, eg14, eg17, eg19, eg20]
  simp only [EZ, q_bx, if_true, if_false, Nat.reduceAdd, Option.bind_some, Nat.reduceBEq, kap_r, kap_d0_q, kap_d1_q, kap_d2_q, kap_d3_q, EB2, EB4, ER, bne_self_eq_false, beq_self_eq_true, decide_true, DMessage.c, DWorld.c, cxa0a, cxa0b, cxa0c, cxa1a, cxa1b, cxa1c, cxa2a, cxa2b, cxa2c, cxa3a, cxa3b, cxa3c, cxm5a, cxm5b, cxm5c, cg0a, cg0b, cg0c, cg1a, cg1b, cg1c, cg2a, cg2b, cg2c, cg3a, cg3b, cg3c, CD.av_b, yk, ym]
  refine TCall.val (by simp only [EO, DMessage.c_noLp, DWorld.c_noLp, cxa0d, cxa0c, cxa1d, cxa1c, cxa2d, cxa2c, cxa3d, cxa3c, cxm5d, cxm5c, cg0d, cg0c, cg1d, cg1c, cg2d, cg2c, cg3d, cg3c]) (kaX_T false false ((forgeF a fm tt m).1) ((forgeF a fm tt m).1) (rok.mono (by omega)) _) ?_
  simp only [EZ, q_bx, if_true, if_false, Nat.reduceAdd, Option.bind_some, Nat.reduceBEq, kap_r, kap_d0_q, kap_d1_q, kap_d2_q, kap_d3_q, EB2, EB4, ER, bne_self_eq_false, beq_self_eq_true, decide_true, DMessage.c, DWorld.c, cxa0a, cxa0b, cxa0c, cxa1a, cxa1b, cxa1c, cxa2a, cxa2b, cxa2c, cxa3a, cxa3b, cxa3c, cxm5a, cxm5b, cxm5c, cg0a, cg0b, cg0c, cg1a, cg1b, cg1c, cg2a, cg2b, cg2c, cg3a, cg3b, cg3c, CD.av_b, yk, ym]
  refine TCall.see (by simp only [EO, DMessage.c_noLp, DWorld.c_noLp, cxa0d, cxa0c, cxa1d, cxa1c, cxa2d, cxa2c, cxa3d, cxa3c, cxm5d, cxm5c, cg0d, cg0c, cg1d, cg1c, cg2d, cg2c, cg3d, cg3c]) (snap_c (OwnL.see (DWorld.c_eq true _) o_g) (snap_c (.same _) snap_n)) (fun h => kbe_T true ((forgeF a fm tt m).1) 1 (by omega) (by omega) (rok.mono (by omega)) h) (.int _ _) ?_
  simp only [EZ, q_bx, if_true, if_false, Nat.reduceAdd, Option.bind_some, Nat.reduceBEq, kap_r, kap_d0_q, kap_d1_q, kap_d2_q, kap_d3_q, EB2, EB4, ER, bne_self_eq_false, beq_self_eq_true, decide_true, DMessage.c, DWorld.c, cxa0a, cxa0b, cxa0c, cxa1a, cxa1b, cxa1c, cxa2a, cxa2b, cxa2c, cxa3a, cxa3b, cxa3c, cxm5a, cxm5b, cxm5c, cg0a, cg0b, cg0c, cg1a, cg1b, cg1c, cg2a, cg2b, cg2c, cg3a, cg3b, cg3c, CD.av_b, yk, ym]
  first | exact ⟨rfl, xh.out⟩ | exact xh.out | exact ⟨rfl, rfl, xh.out⟩
end Go.Proofs.YtleddolmolkpfaaGreat
