import Derived.Test.YtleddolmolkpfaaGreatR5CP
import Derived.Test.YtleddolmolkpfaaGreatAmLoc
set_option linter.unusedVariables false
set_option linter.unusedSimpArgs false
namespace Go.Proofs.YtleddolmolkpfaaGreat
open Go.AM
set_option linter.unusedVariables false
set_option linter.unusedSimpArgs false
variable {Γ : Glob}
set_option maxHeartbeats 4000000 in
set_option maxRecDepth 100000 in
theorem kah_T (β : Bool) (v : DVat) (hv : v.ok 1048576) (h : AH) : T Tryz.prog Γ Fn.kah [.agg (v.c β)] h (Fresh h [.a v.cd]) := by
  have L0 := len_vm β 12 false v.entities (DEntity.c β)
  have L1 := len_vm β 7 false v.links (DLink.c β)
  have L2 := len_vm β 13 false v.out (DOutgoing.c β)
  obtain ⟨hv1, hv2, hv3, hv4, hv5, hv6, hv7, hv8⟩ := hv
  refine T.freshA ?_
  refine kah_e (aw_sound tabOK mixed [] _ _ _ ?_)
  unfold kah_c
  simp only [EZ, q_bx, if_true, if_false, Nat.reduceAdd, Option.bind_some, Nat.reduceBEq, kah_r, kah_d0_q, kah_d1_q, kah_d2_q, kah_d3_q, EB2, ER, DVat.c]
  refine ⟨?_, ?_⟩
  refine TCall.ref (by simp only [EO]) (kan_T β v.loop hv3 hv4 _) ?_
  rintro w1 H1 fr
  replace fr : Fresh h _ _ _ := fr
  obtain ⟨f1, o1, n1, b1, e1⟩ := fr.c1
  obtain ⟨a1, a2, a3, a4⟩ := o1.cell
  simp only [EZ, q_bx, if_true, if_false, Nat.reduceAdd, Option.bind_some, Nat.reduceBEq, kah_r, kah_d0_q, kah_d1_q, kah_d2_q, kah_d3_q, EB2, ER, DVat.c, a1, a2, a3, L0]
  refine ⟨(by first | exact e1.mem _ _ _ | exact mem_keep (e1.mem _ _ _)), (by first | exact Mem.loc ⟨_, ([] : List (List AV)) ++ [_, _], H1⟩ _ [_] | exact mem_keep (Mem.loc ⟨_, ([] : List (List AV)) ++ [_, _], H1⟩ _ [_])), ?_⟩
  rotate_left
  refine ⟨(by first | exact Mem.loc ⟨_, ([] : List (List AV)) ++ [_, _], h⟩ _ [_] | exact mem_keep (Mem.loc ⟨_, ([] : List (List AV)) ++ [_, _], h⟩ _ [_])), ?_⟩
  refine TCall.ref (by simp only [EO]) (kan_T β v.loop hv3 hv4 _) ?_
  rintro w1 H1 fr
  replace fr : Fresh h _ _ _ := fr
  obtain ⟨f1, o1, n1, b1, e1⟩ := fr.c1
  obtain ⟨a1, a2, a3, a4⟩ := o1.cell
  simp only [EZ, q_bx, if_true, if_false, Nat.reduceAdd, Option.bind_some, Nat.reduceBEq, kah_r, kah_d0_q, kah_d1_q, kah_d2_q, kah_d3_q, EB2, ER, DVat.c, a1, a2, a3, L0]
  refine ⟨(by first | exact e1.mem _ _ _ | exact mem_keep (e1.mem _ _ _)), ?_⟩
  rotate_left
  all_goals (
    refine loopI tabOK mixed [] (fun y : Nat × AV × AH × List Nat × List (List AV) => y.1 ≤ v.entities.length ∧ Own y.2.2.1 y.2.1 (.sl 12 ((v.entities.take y.1).map DEntity.cd)) y.2.2.2.1 ∧ y.2.2.2.1.Nodup ∧ (∀ c ∈ y.2.2.2.1, H1.length ≤ c) ∧ HExt H1 y.2.2.1 ∧ y.2.2.2.2[([] : List (List AV)).length]? = some (v.c β) ∧ (∃ zzE, y.2.2.2.2[([] : List (List AV)).length + 1]? = some zzE ∧ zzE.length = 5) ∧ y.2.2.2.2[([] : List (List AV)).length + 2]? = some [AV.int .i64 v.id, y.2.1, w1, .nils, .nils]) (fun y => v.entities.length - y.1)
      (fun y => kah_s0 (.lp ([] : List (List AV)).length 0) (.lp (([] : List (List AV)).length + 1) 0) (.lp (([] : List (List AV)).length + 2) 0) (.vs β 12 false (v.entities.map (DEntity.c β))) (.int .i64 v.entities.length) (.int .i64 y.1) y.2.2.2.2 y.2.2.1) (0, .nils, H1, [], _) ⟨by simp, .nil _, by simp, by simp, HExt.refl _, rfl, ⟨_, rfl, rfl⟩, rfl⟩ ⟨by simp [kah_s0, LeL, LeV], rfl, rfl⟩ ?_
    rintro ⟨k, wE, HE, fpE, ME⟩ ⟨hk, hoE, ndE, hfpE, hxE, hM0E, ⟨zzE, hM1E, hzzE⟩, hM2E⟩
    simp only at hk hoE ndE hfpE hxE hM0E hM1E hM2E
    have hMlE : ([] : List (List AV)).length + 2 < ME.length := getElem?_lt hM2E
    obtain ⟨k1E, k2E, k3E, k4E⟩ := hoE.cell
    simp only [EZ, q_bx, if_true, if_false, Nat.reduceAdd, Option.bind_some, Nat.reduceBEq, kah_r, kah_d0_q, kah_d1_q, kah_d2_q, kah_d3_q, kah_s0]
    refine c_split (fun hlt => ?_) (fun hge => ?_)
    · have hlt : k < v.entities.length := by simpa using hlt
      have i0 := idx_vm (β := β) (sz := 12) (ex := false) (ce := DEntity.c β) hlt
      have he := hv2 _ (List.getElem_mem hlt)
      generalize hxe : v.entities[k] = x at *
      have r2 : ∀ (z : List AV) (e : List AV) (h : AH) (off n : Nat), (St.mk e (ME ++ [z]) h).cells (.lp (([] : List (List AV)).length + 2) off) n = sub [AV.int .i64 v.id, wE, w1, .nils, .nils] off n := fun z e h off n => cells_at (at_app hM2E _)
      have rl : ∀ (z : List AV) (e : List AV) (h : AH) (off n : Nat), (St.mk e (ME ++ [z]) h).cells (.lp ME.length off) n = sub z off n := fun z e h off n => cells_at (at_last _ _)
      have s2 : ∀ (z : List AV) (e : List AV) (h : AH) (a : AV), isCell a = true → (St.mk e (ME ++ [z]) h).store (.lp (([] : List (List AV)).length + 2) 1) [a] = some ⟨e, (ME ++ [z]).set (([] : List (List AV)).length + 2) (over [AV.int .i64 v.id, wE, w1, .nils, .nils] 1 [a]), h⟩ := fun z e h a ha => store_at (at_app hM2E _) (by simp) ha
      simp only [EZ, q_bx, if_true, if_false, Nat.reduceAdd, Option.bind_some, Nat.reduceBEq, kah_r, kah_d0_q, kah_d1_q, kah_d2_q, kah_d3_q, i0, DEntity.c, EB2, r2, rl, k1E, k2E, k3E]
      refine TCall.ref (by simp only [EO]) (kab_T β x he _) ?_
      rintro _ Hc fr
      replace fr : Fresh HE _ _ _ := fr
      obtain ⟨aw, fw, rfl, ow, nw, bw, ew⟩ := fr.a1
      have hdis : (fpE ++ fw).Nodup := nodup_app ndE nw (fun c hc => hoE.lt c hc) bw
      replace hoE := hoE.ext ew
      have hx1 := hxE.trans ew
      have oo := ow
      simp only [DEntity.cd, ownL_c, ownL_n, own_i, own_b, own_s] at oo
      obtain ⟨_, _, _, _, rfl, _, ⟨rfl, rfl⟩, ⟨_, _, _, _, rfl, _, ⟨rfl, rfl⟩, ⟨az2, _, _, _, rfl, _, uz2, ⟨_, _, _, _, rfl, _, ⟨rfl, rfl⟩, ⟨_, _, _, _, rfl, _, ⟨rfl, rfl⟩, ⟨_, _, _, _, rfl, _, ⟨rfl, rfl⟩, ⟨az6, _, _, _, rfl, _, uz6, ⟨az7, _, _, _, rfl, _, uz7, ⟨_, _, _, _, rfl, _, ⟨rfl, rfl⟩, ⟨_, _, _, _, rfl, _, ⟨rfl, rfl⟩, ⟨_, _, _, _, rfl, _, ⟨rfl, rfl⟩, ⟨_, _, _, _, rfl, _, ⟨rfl, rfl⟩, ⟨rfl, _⟩⟩⟩⟩⟩⟩⟩⟩⟩⟩⟩⟩⟩ := oo
      obtain ⟨cz2a, cz2b, cz2c, cz2d⟩ := uz2.cell
      obtain ⟨cz6a, cz6b, cz6c, cz6d⟩ := uz6.cell
      obtain ⟨cz7a, cz7b, cz7c, cz7d⟩ := uz7.cell
      obtain ⟨v', H', fp', ea, o', nd', hf', hl', hm'⟩ := app_ext (bytes := 144) hoE hdis (by omega) rfl ow (by simp only [List.length_map, List.length_take, maxMade]; omega)
      obtain ⟨j1, j2, j3, j4⟩ := o'.cell
      simp only [EZ, q_bx, if_true, if_false, Nat.reduceAdd, Option.bind_some, Nat.reduceBEq, kah_r, kah_d0_q, kah_d1_q, kah_d2_q, kah_d3_q, EA, EB2, ER, cz2a, cz2b, cz2c, cz6a, cz6b, cz6c, cz7a, cz7b, cz7c, r2, rl, k1E, k2E, k3E, ea, j1, j2, j3, s2 _ _ _ _ j2]
      have hl9 := hxE.len
      have hl8 := hx1.len
      have hb' : ∀ c ∈ fp', H1.length ≤ c := fun c hc => by
        rcases hm' c hc with g | g | g
        · exact hfpE c g
        · have := bw c g; omega
        · omega
      refine ⟨(by first | exact ew.mem _ _ _ | exact mem_keep (ew.mem _ _ _)), ?_⟩
      exact ⟨(k + 1, v', H', fp', _), ⟨hlt, by simp only; rw [List.take_succ_eq_append_getElem hlt, List.map_append, hxe]; exact o', nd', hb', hx1.upd hl' hf' hfpE, at_set (at_app hM0E _) (by simp), ⟨zzE, at_set (at_app hM1E _) (by simp), hzzE⟩, at_setS (at_app hM2E _)⟩, by simp only; omega, ⟨by rw [wN (by omega)]; simp [kah_s0, LeL, LeV], rfl, rfl⟩⟩
    have hge : k = v.entities.length := by simp at hge; omega
    subst hge
    rw [List.take_length] at hoE
    simp only [EZ, q_bx, if_true, if_false, Nat.reduceAdd, Option.bind_some, Nat.reduceBEq, kah_r, kah_d0_q, kah_d1_q, kah_d2_q, kah_d3_q, show ∀ (e : List AV) (h : AH) (off n : Nat), (St.mk e ME h).cells (.lp ([] : List (List AV)).length off) n = sub (v.c β) off n from fun e h off n => cells_at hM0E, show ∀ (e : List AV) (h : AH) (off n : Nat), (St.mk e ME h).cells (.lp (([] : List (List AV)).length + 2) off) n = sub [AV.int .i64 v.id, wE, w1, .nils, .nils] off n from fun e h off n => cells_at hM2E, DVat.c, L0, L1, L2, ER, EB2]
    refine loopI tabOK mixed [] (fun y : Nat × AV × AH × List Nat × List (List AV) => y.1 ≤ v.links.length ∧ Own y.2.2.1 y.2.1 (.sl 7 ((v.links.take y.1).map DLink.cd)) y.2.2.2.1 ∧ y.2.2.2.1.Nodup ∧ (∀ c ∈ y.2.2.2.1, HE.length ≤ c) ∧ HExt HE y.2.2.1 ∧ y.2.2.2.2[([] : List (List AV)).length]? = some (v.c β) ∧ (∃ zzL, y.2.2.2.2[([] : List (List AV)).length + 1]? = some zzL ∧ zzL.length = 5) ∧ y.2.2.2.2[([] : List (List AV)).length + 2]? = some [AV.int .i64 v.id, wE, w1, y.2.1, .nils]) (fun y => v.links.length - y.1)
      (fun y => kah_s1 (.lp ([] : List (List AV)).length 0) (.lp (([] : List (List AV)).length + 1) 0) (.lp (([] : List (List AV)).length + 2) 0) (.vs β 7 false (v.links.map (DLink.c β))) (.int .i64 v.links.length) (.int .i64 y.1) y.2.2.2.2 y.2.2.1) (0, .nils, HE, [], _) ⟨by simp, .nil _, by simp, by simp, HExt.refl _, hM0E, ⟨zzE, hM1E, hzzE⟩, hM2E⟩ ⟨by simp [kah_s1, LeL, LeV], rfl, rfl⟩ ?_
    rintro ⟨k, wL, HL, fpL, ML⟩ ⟨hk, hoL, ndL, hfpL, hxL, hM0L, ⟨zzL, hM1L, hzzL⟩, hM2L⟩
    simp only at hk hoL ndL hfpL hxL hM0L hM1L hM2L
    have hMlL : ([] : List (List AV)).length + 2 < ML.length := getElem?_lt hM2L
    obtain ⟨k1L, k2L, k3L, k4L⟩ := hoL.cell
    simp only [EZ, q_bx, if_true, if_false, Nat.reduceAdd, Option.bind_some, Nat.reduceBEq, kah_r, kah_d0_q, kah_d1_q, kah_d2_q, kah_d3_q, kah_s1]
    refine c_split (fun hlt => ?_) (fun hge => ?_)
    · have hlt : k < v.links.length := by simpa using hlt
      have i0 := idx_vm (β := β) (sz := 7) (ex := false) (ce := DLink.c β) hlt
      have he := hv6 _ (List.getElem_mem hlt)
      generalize hxe : v.links[k] = x at *
      have r2 : ∀ (z : List AV) (e : List AV) (h : AH) (off n : Nat), (St.mk e (ML ++ [z]) h).cells (.lp (([] : List (List AV)).length + 2) off) n = sub [AV.int .i64 v.id, wE, w1, wL, .nils] off n := fun z e h off n => cells_at (at_app hM2L _)
      have rl : ∀ (z : List AV) (e : List AV) (h : AH) (off n : Nat), (St.mk e (ML ++ [z]) h).cells (.lp ML.length off) n = sub z off n := fun z e h off n => cells_at (at_last _ _)
      have s2 : ∀ (z : List AV) (e : List AV) (h : AH) (a : AV), isCell a = true → (St.mk e (ML ++ [z]) h).store (.lp (([] : List (List AV)).length + 2) 3) [a] = some ⟨e, (ML ++ [z]).set (([] : List (List AV)).length + 2) (over [AV.int .i64 v.id, wE, w1, wL, .nils] 3 [a]), h⟩ := fun z e h a ha => store_at (at_app hM2L _) (by simp) ha
      simp only [EZ, q_bx, if_true, if_false, Nat.reduceAdd, Option.bind_some, Nat.reduceBEq, kah_r, kah_d0_q, kah_d1_q, kah_d2_q, kah_d3_q, i0, DLink.c, EB2, r2, rl, k1L, k2L, k3L]
      refine TCall.ref (by simp only [EO]) (kad_T β x he _) ?_
      rintro _ Hc fr
      replace fr : Fresh HL _ _ _ := fr
      obtain ⟨aw, fw, rfl, ow, nw, bw, ew⟩ := fr.a1
      have hdis : (fpL ++ fw).Nodup := nodup_app ndL nw (fun c hc => hoL.lt c hc) bw
      replace hoL := hoL.ext ew
      have hx1 := hxL.trans ew
      have oo := ow
      simp only [DLink.cd, ownL_c, ownL_n, own_i, own_b, own_s] at oo
      obtain ⟨_, _, _, _, rfl, _, ⟨rfl, rfl⟩, ⟨_, _, _, _, rfl, _, ⟨rfl, rfl⟩, ⟨az2, _, _, _, rfl, _, uz2, ⟨_, _, _, _, rfl, _, ⟨rfl, rfl⟩, ⟨az4, _, _, _, rfl, _, uz4, ⟨_, _, _, _, rfl, _, ⟨rfl, rfl⟩, ⟨az6, _, _, _, rfl, _, uz6, ⟨rfl, _⟩⟩⟩⟩⟩⟩⟩⟩ := oo
      obtain ⟨cz2a, cz2b, cz2c, cz2d⟩ := uz2.cell
      obtain ⟨cz4a, cz4b, cz4c, cz4d⟩ := uz4.cell
      obtain ⟨cz6a, cz6b, cz6c, cz6d⟩ := uz6.cell
      obtain ⟨v', H', fp', ea, o', nd', hf', hl', hm'⟩ := app_ext (bytes := 104) hoL hdis (by omega) rfl ow (by simp only [List.length_map, List.length_take, maxMade]; omega)
      obtain ⟨j1, j2, j3, j4⟩ := o'.cell
      simp only [EZ, q_bx, if_true, if_false, Nat.reduceAdd, Option.bind_some, Nat.reduceBEq, kah_r, kah_d0_q, kah_d1_q, kah_d2_q, kah_d3_q, EA, EB2, ER, cz2a, cz2b, cz2c, cz4a, cz4b, cz4c, cz6a, cz6b, cz6c, r2, rl, k1L, k2L, k3L, ea, j1, j2, j3, s2 _ _ _ _ j2]
      have hl9 := hxL.len
      have hl8 := hx1.len
      have hb' : ∀ c ∈ fp', HE.length ≤ c := fun c hc => by
        rcases hm' c hc with g | g | g
        · exact hfpL c g
        · have := bw c g; omega
        · omega
      refine ⟨(by first | exact ew.mem _ _ _ | exact mem_keep (ew.mem _ _ _)), ?_⟩
      exact ⟨(k + 1, v', H', fp', _), ⟨hlt, by simp only; rw [List.take_succ_eq_append_getElem hlt, List.map_append, hxe]; exact o', nd', hb', hx1.upd hl' hf' hfpL, at_set (at_app hM0L _) (by simp), ⟨zzL, at_set (at_app hM1L _) (by simp), hzzL⟩, at_setS (at_app hM2L _)⟩, by simp only; omega, ⟨by rw [wN (by omega)]; simp [kah_s1, LeL, LeV], rfl, rfl⟩⟩
    have hge : k = v.links.length := by simp at hge; omega
    subst hge
    rw [List.take_length] at hoL
    simp only [EZ, q_bx, if_true, if_false, Nat.reduceAdd, Option.bind_some, Nat.reduceBEq, kah_r, kah_d0_q, kah_d1_q, kah_d2_q, kah_d3_q, show ∀ (e : List AV) (h : AH) (off n : Nat), (St.mk e ML h).cells (.lp ([] : List (List AV)).length off) n = sub (v.c β) off n from fun e h off n => cells_at hM0L, show ∀ (e : List AV) (h : AH) (off n : Nat), (St.mk e ML h).cells (.lp (([] : List (List AV)).length + 2) off) n = sub [AV.int .i64 v.id, wE, w1, wL, .nils] off n from fun e h off n => cells_at hM2L, DVat.c, L0, L1, L2, ER, EB2]
    refine loopI tabOK mixed [] (fun y : Nat × AV × AH × List Nat × List (List AV) => y.1 ≤ v.out.length ∧ Own y.2.2.1 y.2.1 (.sl 13 ((v.out.take y.1).map DOutgoing.cd)) y.2.2.2.1 ∧ y.2.2.2.1.Nodup ∧ (∀ c ∈ y.2.2.2.1, HL.length ≤ c) ∧ HExt HL y.2.2.1 ∧ y.2.2.2.2[([] : List (List AV)).length]? = some (v.c β) ∧ (∃ zzO, y.2.2.2.2[([] : List (List AV)).length + 1]? = some zzO ∧ zzO.length = 5) ∧ y.2.2.2.2[([] : List (List AV)).length + 2]? = some [AV.int .i64 v.id, wE, w1, wL, y.2.1]) (fun y => v.out.length - y.1)
      (fun y => kah_s2 (.lp (([] : List (List AV)).length + 1) 0) (.lp (([] : List (List AV)).length + 2) 0) (.vs β 13 false (v.out.map (DOutgoing.c β))) (.int .i64 v.out.length) (.int .i64 y.1) y.2.2.2.2 y.2.2.1) (0, .nils, HL, [], _) ⟨by simp, .nil _, by simp, by simp, HExt.refl _, hM0L, ⟨zzL, hM1L, hzzL⟩, hM2L⟩ ⟨by simp [kah_s2, LeL, LeV], rfl, rfl⟩ ?_
    rintro ⟨k, wO, HO, fpO, MO⟩ ⟨hk, hoO, ndO, hfpO, hxO, hM0O, ⟨zzO, hM1O, hzzO⟩, hM2O⟩
    simp only at hk hoO ndO hfpO hxO hM0O hM1O hM2O
    have hMlO : ([] : List (List AV)).length + 2 < MO.length := getElem?_lt hM2O
    obtain ⟨k1O, k2O, k3O, k4O⟩ := hoO.cell
    simp only [EZ, q_bx, if_true, if_false, Nat.reduceAdd, Option.bind_some, Nat.reduceBEq, kah_r, kah_d0_q, kah_d1_q, kah_d2_q, kah_d3_q, kah_s2]
    refine c_split (fun hlt => ?_) (fun hge => ?_)
    · have hlt : k < v.out.length := by simpa using hlt
      have i0 := idx_vm (β := β) (sz := 13) (ex := false) (ce := DOutgoing.c β) hlt
      have he := hv8 _ (List.getElem_mem hlt)
      generalize hxe : v.out[k] = x at *
      have r2 : ∀ (z : List AV) (e : List AV) (h : AH) (off n : Nat), (St.mk e (MO ++ [z]) h).cells (.lp (([] : List (List AV)).length + 2) off) n = sub [AV.int .i64 v.id, wE, w1, wL, wO] off n := fun z e h off n => cells_at (at_app hM2O _)
      have rl : ∀ (z : List AV) (e : List AV) (h : AH) (off n : Nat), (St.mk e (MO ++ [z]) h).cells (.lp MO.length off) n = sub z off n := fun z e h off n => cells_at (at_last _ _)
      have s2 : ∀ (z : List AV) (e : List AV) (h : AH) (a : AV), isCell a = true → (St.mk e (MO ++ [z]) h).store (.lp (([] : List (List AV)).length + 2) 4) [a] = some ⟨e, (MO ++ [z]).set (([] : List (List AV)).length + 2) (over [AV.int .i64 v.id, wE, w1, wL, wO] 4 [a]), h⟩ := fun z e h a ha => store_at (at_app hM2O _) (by simp) ha
      simp only [EZ, q_bx, if_true, if_false, Nat.reduceAdd, Option.bind_some, Nat.reduceBEq, kah_r, kah_d0_q, kah_d1_q, kah_d2_q, kah_d3_q, i0, DOutgoing.c, EB2, r2, rl, k1O, k2O, k3O]
      refine TCall.ref (by simp only [EO]) (kae_T β x.message he _) ?_
      rintro _ Hc fr
      replace fr : Fresh HO _ _ _ := fr
      obtain ⟨aw, fw, rfl, ow, nw, bw, ew⟩ := fr.a1
      have hdis : (fpO ++ fw).Nodup := nodup_app ndO nw (fun c hc => hoO.lt c hc) bw
      replace hoO := hoO.ext ew
      have hx1 := hxO.trans ew
      have oo := ow
      simp only [DMessage.cd, ownL_c, ownL_n, own_i, own_b, own_s] at oo
      obtain ⟨_, _, _, _, rfl, _, ⟨rfl, rfl⟩, ⟨_, _, _, _, rfl, _, ⟨rfl, rfl⟩, ⟨_, _, _, _, rfl, _, ⟨rfl, rfl⟩, ⟨_, _, _, _, rfl, _, ⟨rfl, rfl⟩, ⟨_, _, _, _, rfl, _, ⟨rfl, rfl⟩, ⟨az5, _, _, _, rfl, _, uz5, ⟨_, _, _, _, rfl, _, ⟨rfl, rfl⟩, ⟨_, _, _, _, rfl, _, ⟨rfl, rfl⟩, ⟨_, _, _, _, rfl, _, ⟨rfl, rfl⟩, ⟨_, _, _, _, rfl, _, ⟨rfl, rfl⟩, ⟨_, _, _, _, rfl, _, ⟨rfl, rfl⟩, ⟨_, _, _, _, rfl, _, ⟨rfl, rfl⟩, ⟨rfl, _⟩⟩⟩⟩⟩⟩⟩⟩⟩⟩⟩⟩⟩ := oo
      obtain ⟨cz5a, cz5b, cz5c, cz5d⟩ := uz5.cell
      obtain ⟨v', H', fp', ea, o', nd', hf', hl', hm'⟩ := app_ext (bytes := 128) hoO hdis (by omega) rfl (OwnL.i (k := .i64) (n := x.to_) ow) (by simp only [List.length_map, List.length_take, maxMade]; omega)
      obtain ⟨j1, j2, j3, j4⟩ := o'.cell
      simp only [EZ, q_bx, if_true, if_false, Nat.reduceAdd, Option.bind_some, Nat.reduceBEq, kah_r, kah_d0_q, kah_d1_q, kah_d2_q, kah_d3_q, EA, EB2, ER, cz5a, cz5b, cz5c, r2, rl, k1O, k2O, k3O, ea, j1, j2, j3, s2 _ _ _ _ j2]
      have hl9 := hxO.len
      have hl8 := hx1.len
      have hb' : ∀ c ∈ fp', HL.length ≤ c := fun c hc => by
        rcases hm' c hc with g | g | g
        · exact hfpO c g
        · have := bw c g; omega
        · omega
      refine ⟨(by first | exact ew.mem _ _ _ | exact mem_keep (ew.mem _ _ _)), ?_⟩
      exact ⟨(k + 1, v', H', fp', _), ⟨hlt, by simp only; rw [List.take_succ_eq_append_getElem hlt, List.map_append, hxe]; exact o', nd', hb', hx1.upd hl' hf' hfpO, at_set (at_app hM0O _) (by simp), ⟨zzO, at_set (at_app hM1O _) (by simp), hzzO⟩, at_setS (at_app hM2O _)⟩, by simp only; omega, ⟨by rw [wN (by omega)]; simp [kah_s2, LeL, LeV], rfl, rfl⟩⟩
    have hge : k = v.out.length := by simp at hge; omega
    subst hge
    rw [List.take_length] at hoO
    simp only [EZ, q_bx, if_true, if_false, Nat.reduceAdd, Option.bind_some, Nat.reduceBEq, kah_r, kah_d0_q, kah_d1_q, kah_d2_q, kah_d3_q, show ∀ (e : List AV) (h : AH) (off n : Nat), (St.mk e MO h).cells (.lp (([] : List (List AV)).length + 2) off) n = sub [AV.int .i64 v.id, wE, w1, wL, wO] off n from fun e h off n => cells_at hM2O, show ∀ (e : List AV) (h : AH), (St.mk e MO h).store (.lp (([] : List (List AV)).length + 1) 0) [AV.int .i64 v.id, wE, w1, wL, wO] = some ⟨e, MO.set (([] : List (List AV)).length + 1) [AV.int .i64 v.id, wE, w1, wL, wO], h⟩ from fun e h => store_all hM1O (by rw [hzzO]; rfl) (by simp [ic_i, k2E, a2, k2L, k2O]), show ∀ (e : List AV) (h : AH) (off n : Nat), (St.mk e (MO.set (([] : List (List AV)).length + 1) [AV.int .i64 v.id, wE, w1, wL, wO]) h).cells (.lp (([] : List (List AV)).length + 1) off) n = sub [AV.int .i64 v.id, wE, w1, wL, wO] off n from fun e h off n => cells_at (at_setS hM1O), ER, EB2]
    have z1 := ((o1.ext hxE).ext hxL).ext hxO
    have zE := (hoE.ext hxL).ext hxO
    have zL := hoL.ext hxO
    have y1 := e1.len
    have yE := hxE.len
    have yL := hxL.len
    have hE2 : ∀ c ∈ fpE, c < HE.length := fun c hc => hoE.lt c hc
    have hL2 : ∀ c ∈ fpL, c < HL.length := fun c hc => hoL.lt c hc
    have h12 : ∀ c ∈ f1, c < H1.length := fun c hc => o1.lt c hc
    obtain ⟨N, hN⟩ := (((e1.trans hxE).trans hxL).trans hxO).out
    refine ⟨by simp [outOK, out1, a2, a3, a4, k2E, k3E, k4E, k2L, k3L, k4L, k2O, k3O, k4O, nn_i', nn_s', nn_b'], _, N, fpE ++ (f1 ++ (fpL ++ (fpO ++ []))), rfl, hN, .i (.o zE (.o z1 (.o zL (.o hoO .nil)))), ?_, fun c hc => ?_⟩
    · rw [List.append_nil]
      refine List.nodup_append.2 ⟨ndE, List.nodup_append.2 ⟨n1, List.nodup_append.2 ⟨ndL, ndO, fun x hx y hy => ?_⟩, fun x hx y hy => ?_⟩, fun x hx y hy => ?_⟩
      · have := hL2 x hx; have := hfpO y hy; omega
      · have := h12 x hx
        rcases List.mem_append.1 hy with g | g
        · have := hfpL y g; omega
        · have := hfpO y g; omega
      · have := hE2 x hx; have := hfpE x hx
        rcases List.mem_append.1 hy with g | g
        · have := h12 y g; omega
        · rcases List.mem_append.1 g with g | g
          · have := hfpL y g; omega
          · have := hfpO y g; omega
    · simp only [List.append_nil, List.mem_append] at hc
      rcases hc with g | g | g | g
      · have := hfpE c g; omega
      · have := b1 c g; omega
      · have := hfpL c g; omega
      · have := hfpO c g; omega)
end Go.Proofs.YtleddolmolkpfaaGreat
