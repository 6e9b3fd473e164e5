import Derived.Test.YtccjhmhkfnnmaaaGreatR6M1
set_option linter.unusedVariables false
set_option linter.unusedSimpArgs false
namespace Go.Proofs.YtccjhmhkfnnmaaaGreat
open Go.AM
set_option linter.unusedVariables false
set_option linter.unusedSimpArgs false
variable {Γ : Glob}
def hitF (v : DVat) (id : Int) : List Int := if (lookF v ⟨1, id⟩).kind = 1 ∧ entI (lookF v ⟨1, id⟩).n v.entities.length = true then [(lookF v ⟨1, id⟩).n] else []
def hitsF (v : DVat) (ids : List Int) : List Int := ids.flatMap (hitF v)
theorem hitsF_take {v : DVat} {l : List Int} {k : Nat} (hk : k < l.length) : hitsF v (l.take (k + 1)) = hitsF v (l.take k) ++ hitF v l[k] := by
  simp only [hitsF]; rw [List.take_succ_eq_append_getElem hk, List.flatMap_append]; simp only [List.flatMap_cons, List.flatMap_nil, List.append_nil]
theorem hitF_len (v : DVat) (x : Int) : (hitF v x).length ≤ 1 := by unfold hitF; split <;> simp
theorem hitsF_len (v : DVat) : ∀ (l : List Int), (hitsF v l).length ≤ l.length
  | [] => Nat.le_refl _
  | x :: l => by have h1 := hitsF_len v l; have h2 := hitF_len v x; simp only [hitsF, List.flatMap_cons, List.length_append, List.length_cons] at *; omega
theorem hitsF_in {v : DVat} {l : List Int} {x : Int} (h : x ∈ hitsF v l) : ∃ i : Nat, i < v.entities.length ∧ x = i := by
  simp only [hitsF, List.mem_flatMap] at h
  obtain ⟨y, _, hy⟩ := h
  unfold hitF at hy
  split at hy
  · rename_i hc
    obtain ⟨j, ej, hj⟩ := entI_at hc.2
    exact ⟨j, hj, by rw [List.mem_singleton.1 hy, ej]⟩
  · simp at hy
def reachL (v : DVat) (peer : Int) : List Int := match v.links.find? (fun l : DLink => l.peer == peer) with | some l => hitsF v (l.exports.map DExport.entity) ++ hitsF v (l.answers.map DQuestion.promise) | none => []
theorem reachL_in {v : DVat} {peer x : Int} (h : x ∈ reachL v peer) : ∃ i : Nat, i < v.entities.length ∧ x = i := by
  unfold reachL at h
  split at h
  · rcases List.mem_append.1 h with h | h <;> exact hitsF_in h
  · simp at h
set_option maxHeartbeats 4000000 in
set_option maxRecDepth 100000 in
theorem kbB_T (β : Bool) (v : DVat) (hv : v.entities.length ≤ 1048576) (hl : v.links.length ≤ 1048576) (hL : ∀ l ∈ v.links, l.exports.length ≤ 1048576 ∧ l.answers.length ≤ 1048576) (peer : Int) (h : AH) :
    T Tryz.prog Γ Fn.kbB [.agg (v.c β), .int .i64 peer] h (Fresh h [.c (.sl 1 (idata (marksF v.entities.length (reachL v peer))))]) := by
  have L0 := len_vm β 12 false v.entities (DEntity.c β)
  refine T.freshC ?_
  refine kbB_e (aw_sound tabOK mixed [] _ _ _ ?_)
  unfold kbB_c
  simp only [EZ, q_bx, if_true, if_false, Nat.reduceAdd, Option.bind_some, Nat.reduceBEq, kbB_r, kbB_d0_q, kbB_d1_q, EA, EB2, DVat.c]
  refine TCall.val (by simp only [EO]) (kbC_T β v hl peer _) ?_
  rcases idxI_cases (fun l : DLink => l.peer == peer) v.links with ⟨j, hj, ej, pj, fj⟩ | ⟨ej, fj, _⟩
  rotate_left
  · simp only [EZ, q_bx, if_true, if_false, Nat.reduceAdd, Option.bind_some, Nat.reduceBEq, kbB_r, kbB_d0_q, kbB_d1_q, ej, show decide ((-1 : Int) < 0) = true from rfl]
    have e0 : reachL v peer = [] := by unfold reachL; rw [fj]
    have e1 : marksF v.entities.length (reachL v peer) = [] := by rw [e0]; simp [marksF]
    rw [e1]
    exact ⟨(bsl0_own h 1).outOK, _, [h.length], rfl, bsl0_own h 1, by simp, by simp⟩
  have fr : reachL v peer = hitsF v (v.links[j].exports.map DExport.entity) ++ hitsF v (v.links[j].answers.map DQuestion.promise) := by unfold reachL; rw [fj]
  obtain ⟨l, hl'⟩ : ∃ l, l = v.links[j] := ⟨_, rfl⟩
  obtain ⟨he, ha⟩ := hL l (by rw [hl']; exact List.getElem_mem hj)
  have i0 := idx_vm (β := β) (sz := 7) (ex := false) (ce := DLink.c β) hj
  rw [← hl'] at fr i0
  have ln : decide ((j : Int) < 0) = false := decide_eq_false (by omega)
  have mo := fun s : St => mks_ok s 1 1 [.bool false] .i64 .i64 (n := v.entities.length) (by unfold maxMade; omega) rfl
  simp only [EZ, q_bx, if_true, if_false, Nat.reduceAdd, Option.bind_some, Nat.reduceBEq, kbB_r, kbB_d0_q, kbB_d1_q, ej, ln, i0, DVat.c, L0, mo, push_s, DLink.c]
  obtain ⟨K, hK⟩ : ∃ K, K = h ++ [some (0, ([] : List AV))] := ⟨_, rfl⟩
  rw [← hK]
  have hKl : K.length = h.length + 1 := by rw [hK]; simp
  obtain ⟨MK, hMK⟩ : ∃ MK, MK = AV.gs K.length 0 0 v.entities.length v.entities.length 1 true := ⟨_, rfl⟩
  rw [← hMK]
  refine loopI tabOK mixed [] (fun x : Nat × AH × List (List AV) => x.1 ≤ l.exports.length ∧ Own x.2.1 MK (.sl 1 (bdata (mkB v.entities.length (([] : List Int) ++ hitsF v ((l.exports.map DExport.entity).take x.1))))) [K.length] ∧ x.2.1.length = K.length + 1 ∧ (∀ c, c < K.length → x.2.1[c]? = K[c]?) ∧ x.2.2[([] : List (List AV)).length]? = some (v.c β) ∧ x.2.2[([] : List (List AV)).length + 1]? = some (l.c β)) (fun x => l.exports.length - x.1)
    (fun x => kbB_s0 (.lp ([] : List (List AV)).length 0) (.gs h.length 0 0 0 0 1 true) MK (.lp (([] : List (List AV)).length + 1) 0) (.int .i64 x.1) x.2.2 x.2.1) (0, K ++ [some (0, (List.replicate v.entities.length [AV.bool false]).flatten)], ([] : List (List AV)) ++ [v.c β] ++ [l.c β])
    ⟨by simp, by rw [hMK]; simpa [hitsF, mkB_nil] using bools_new K v.entities.length, by simp, fun c hc => List.getElem?_append_left hc, rfl, rfl⟩ ⟨by simp [kbB_s0, LeL, LeV], rfl, rfl⟩ ?_
  rintro ⟨k, H, M⟩ ⟨hk, ho, hlen, hfr, hM0, hM1⟩
  simp only at hk ho hlen hfr hM0 hM1
  have LE := len_vm β 3 false l.exports (DExport.c β)
  have LM := (len_own ho).2
  rw [show (bdata (mkB v.entities.length (([] : List Int) ++ hitsF v ((l.exports.map DExport.entity).take k)))).length = v.entities.length by simp [bdata, mkB_len]] at LM
  have r1 : ∀ (e : List AV) (h : AH) (off n : Nat), (St.mk e M h).cells (.lp (([] : List (List AV)).length + 1) off) n = sub (l.c β) off n := fun e h off n => cells_at hM1
  have r0 : ∀ (e : List AV) (h : AH) (off n : Nat), (St.mk e M h).cells (.lp ([] : List (List AV)).length off) n = sub (v.c β) off n := fun e h off n => cells_at hM0
  simp only [EZ, q_bx, if_true, if_false, Nat.reduceAdd, Option.bind_some, Nat.reduceBEq, kbB_r, kbB_d0_q, kbB_d1_q, kbB_s0, r1, DLink.c, LE]
  refine c_split (fun hlt => ?_) (fun hge => ?_)
  · have hlt : k < l.exports.length := by simpa using hlt
    have i0 := idx_vm (β := β) (sz := 3) (ex := false) (ce := DExport.c β) hlt
    have r0z : ∀ (z : List AV) (e : List AV) (h : AH) (off n : Nat), (St.mk e (M ++ [z]) h).cells (.lp ([] : List (List AV)).length off) n = sub (v.c β) off n := fun z e h off n => cells_at (at_app hM0 _)
    have r1z : ∀ (z : List AV) (e : List AV) (h : AH) (off n : Nat), (St.mk e (M ++ [z]) h).cells (.lp (([] : List (List AV)).length + 1) off) n = sub (l.c β) off n := fun z e h off n => cells_at (at_app hM1 _)
    have rl : ∀ (z : List AV) (e : List AV) (h : AH) (off n : Nat), (St.mk e (M ++ [z]) h).cells (.lp M.length off) n = sub z off n := fun z e h off n => cells_at (at_last _ _)
    have sl : ∀ (p q : AV) (e : List AV) (h : AH) (a b : Int), (St.mk e (M ++ [[p, q]]) h).store (.lp M.length 0) [.int .i64 a, .int .i64 b] = some ⟨e, M ++ [[.int .i64 a, .int .i64 b]], h⟩ := fun p q e h a b => by
      have := store_all (e := e) (h := h) (vs := [.int .i64 a, .int .i64 b]) (at_last M [p, q]) rfl rfl
      rw [this]; simp
    have ht := hitsF_take (v := v) (l := (l.exports.map DExport.entity)) (k := k) (by simpa using hlt)
    rw [List.getElem_map] at ht
    obtain ⟨id, hid⟩ : ∃ id, id = DExport.entity l.exports[k] := ⟨_, rfl⟩
    rw [← hid] at ht
    obtain ⟨x, hx⟩ : ∃ x, x = lookF v ⟨1, id⟩ := ⟨_, rfl⟩
    have fin : ∀ (z : List AV), hitF v id = [] → ∃ y : Nat × AH × List (List AV), (y.1 ≤ l.exports.length ∧ Own y.2.1 MK (.sl 1 (bdata (mkB v.entities.length (([] : List Int) ++ hitsF v ((l.exports.map DExport.entity).take y.1))))) [K.length] ∧ y.2.1.length = K.length + 1 ∧ (∀ c, c < K.length → y.2.1[c]? = K[c]?) ∧ y.2.2[([] : List (List AV)).length]? = some (v.c β) ∧ y.2.2[([] : List (List AV)).length + 1]? = some (l.c β)) ∧ l.exports.length - y.1 < l.exports.length - k ∧ y = (k + 1, H, M ++ [z]) := fun z hz =>
      ⟨(k + 1, H, M ++ [z]), ⟨hlt, by simp only; rw [ht, hz, List.append_nil]; exact ho, hlen, hfr, at_app hM0 _, at_app hM1 _⟩, by simp only; omega, rfl⟩
    by_cases b1 : x.kind = 1
    rotate_left
    · have hh : hitF v id = [] := by unfold hitF; rw [if_neg]; rw [← hx]; exact fun h => b1 h.1
      clear LM
      simp only [EZ, q_bx, if_true, if_false, Nat.reduceAdd, Option.bind_some, Nat.reduceBEq, kbB_r, kbB_d0_q, kbB_d1_q, EB2, r0, r1, DLink.c, DVat.c, LE, i0, DExport.c, ← hid]
      repeat' (first
        | exact Mem.loc ⟨_, M, _⟩ _ [_]
        | (guard_target =~ TCall _ _ Fn.kbG _ _ _
           refine TCall.val (by simp only [EO]) (kbG_T _ _) ?_
           simp only [EZ, q_bx, if_true, if_false, Nat.reduceAdd, Option.bind_some, Nat.reduceBEq, kbB_r, kbB_d0_q, kbB_d1_q, EB2, r0, r1, r0z, r1z, rl, sl, DLink.c, DVat.c, LE, i0, DExport.c, ← hid])
        | (guard_target =~ TCall _ _ Fn.kbD _ _ _
           refine TCall.val (by simp only [EO, DValue.c]) (kbD_T β v hv ⟨1, id⟩ _) ?_
           rw [← hx]
           simp only [EZ, q_bx, if_true, if_false, Nat.reduceAdd, Option.bind_some, Nat.reduceBEq, kbB_r, kbB_d0_q, kbB_d1_q, EB2, r0, r1, r0z, r1z, rl, sl, DLink.c, DVat.c, LE, i0, DExport.c, ← hid, DValue.c, beq_dec, decide_eq_false b1])
        | (obtain ⟨y, y1, y2, rfl⟩ := fin _ hh
           exact ⟨_, y1, y2, ⟨by rw [wN (by omega)]; simp [kbB_s0, LeL, LeV], rfl, rfl⟩⟩)
        | refine And.intro ?_ ?_)
    cases b2 : entI x.n v.entities.length
    · have hh : hitF v id = [] := by unfold hitF; rw [if_neg]; rw [← hx, b2]; exact fun h => by cases h.2
      simp only [EZ, q_bx, if_true, if_false, Nat.reduceAdd, Option.bind_some, Nat.reduceBEq, kbB_r, kbB_d0_q, kbB_d1_q, EB2, r0, r1, DLink.c, DVat.c, LE, i0, DExport.c, ← hid]
      repeat' (first
        | exact Mem.loc ⟨_, M, _⟩ _ [_]
        | (guard_target =~ TCall _ _ Fn.kbG _ _ _
           refine TCall.val (by simp only [EO]) (kbG_T _ _) ?_
           simp only [EZ, q_bx, if_true, if_false, Nat.reduceAdd, Option.bind_some, Nat.reduceBEq, kbB_r, kbB_d0_q, kbB_d1_q, EB2, r0, r1, r0z, r1z, rl, sl, DLink.c, DVat.c, LE, i0, DExport.c, ← hid])
        | (guard_target =~ TCall _ _ Fn.kbD _ _ _
           refine TCall.val (by simp only [EO, DValue.c]) (kbD_T β v hv ⟨1, id⟩ _) ?_
           rw [← hx]
           simp only [EZ, q_bx, if_true, if_false, Nat.reduceAdd, Option.bind_some, Nat.reduceBEq, kbB_r, kbB_d0_q, kbB_d1_q, EB2, r0, r1, r0z, r1z, rl, sl, DLink.c, DVat.c, LE, i0, DExport.c, ← hid, DValue.c, beq_dec, decide_eq_true b1, LM])
        | (guard_target =~ TCall _ _ Fn.kbI _ _ _
           refine TCall.val (by simp only [EO]) (kbI_T _ _ _ _) ?_
           rw [inR_ent _ hv, b2]
           simp only [EZ, q_bx, if_true, if_false, Nat.reduceAdd, Option.bind_some, Nat.reduceBEq, kbB_r, kbB_d0_q, kbB_d1_q, EB2, r0, r1, r0z, r1z, rl, sl, DLink.c, DVat.c, LE, i0, DExport.c, ← hid, DValue.c, beq_dec, decide_eq_true b1, LM])
        | (obtain ⟨y, y1, y2, rfl⟩ := fin _ hh
           exact ⟨_, y1, y2, ⟨by rw [wN (by omega)]; simp [kbB_s0, LeL, LeV], rfl, rfl⟩⟩)
        | refine And.intro ?_ ?_)
    obtain ⟨j1, aj, hj1⟩ := entI_at b2
    have hh : hitF v id = [x.n] := by unfold hitF; rw [← hx, if_pos ⟨b1, b2⟩]
    obtain ⟨q, H2, iq, sq, oq, lq, fq⟩ := set_bool ho (k := j1) (by rw [mkB_len]; exact hj1) true
    simp only [EZ, q_bx, if_true, if_false, Nat.reduceAdd, Option.bind_some, Nat.reduceBEq, kbB_r, kbB_d0_q, kbB_d1_q, EB2, r0, r1, DLink.c, DVat.c, LE, i0, DExport.c, ← hid]
    repeat' (first
      | exact Mem.loc ⟨_, M, _⟩ _ [_]
      | (guard_target =~ TCall _ _ Fn.kbG _ _ _
         refine TCall.val (by simp only [EO]) (kbG_T _ _) ?_
         simp only [EZ, q_bx, if_true, if_false, Nat.reduceAdd, Option.bind_some, Nat.reduceBEq, kbB_r, kbB_d0_q, kbB_d1_q, EB2, r0, r1, r0z, r1z, rl, sl, DLink.c, DVat.c, LE, i0, DExport.c, ← hid])
      | (guard_target =~ TCall _ _ Fn.kbD _ _ _
         refine TCall.val (by simp only [EO, DValue.c]) (kbD_T β v hv ⟨1, id⟩ _) ?_
         rw [← hx]
         simp only [EZ, q_bx, if_true, if_false, Nat.reduceAdd, Option.bind_some, Nat.reduceBEq, kbB_r, kbB_d0_q, kbB_d1_q, EB2, r0, r1, r0z, r1z, rl, sl, DLink.c, DVat.c, LE, i0, DExport.c, ← hid, DValue.c, beq_dec, decide_eq_true b1, LM])
      | (guard_target =~ TCall _ _ Fn.kbI _ _ _
         refine TCall.val (by simp only [EO]) (kbI_T _ _ _ _) ?_
         rw [inR_ent _ hv, b2]
         simp only [EZ, q_bx, if_true, if_false, Nat.reduceAdd, Option.bind_some, Nat.reduceBEq, kbB_r, kbB_d0_q, kbB_d1_q, EB2, r0, r1, r0z, r1z, rl, sl, DLink.c, DVat.c, LE, i0, DExport.c, ← hid, DValue.c, beq_dec, decide_eq_true b1, LM, aj, iq, sq])
      | (refine ⟨(k + 1, H2, M ++ [_]), ⟨hlt, ?_, by simp only; omega, fun c hc => by simp only; rw [fq c (by simp; omega), hfr c hc], at_app hM0 _, at_app hM1 _⟩, by simp only; omega, ⟨by rw [wN (by omega)]; simp [kbB_s0, LeL, LeV], rfl, rfl⟩⟩
         simp only
         rw [ht, hh, ← List.append_assoc, aj, ← mkB_set _ hj1]
         exact oq)
      | refine And.intro ?_ ?_)
  have hge : k = l.exports.length := by simp at hge; omega
  subst hge
  rw [List.take_of_length_le (by simp)] at ho
  simp only [EZ, q_bx, if_true, if_false, Nat.reduceAdd, Option.bind_some, Nat.reduceBEq, kbB_r, kbB_d0_q, kbB_d1_q]
  rw [List.nil_append] at ho
  refine loopI tabOK mixed [] (fun x : Nat × AH × List (List AV) => x.1 ≤ l.answers.length ∧ Own x.2.1 MK (.sl 1 (bdata (mkB v.entities.length (hitsF v (l.exports.map DExport.entity) ++ hitsF v ((l.answers.map DQuestion.promise).take x.1))))) [K.length] ∧ x.2.1.length = K.length + 1 ∧ (∀ c, c < K.length → x.2.1[c]? = K[c]?) ∧ x.2.2[([] : List (List AV)).length]? = some (v.c β) ∧ x.2.2[([] : List (List AV)).length + 1]? = some (l.c β)) (fun x => l.answers.length - x.1)
    (fun x => kbB_s1 (.lp ([] : List (List AV)).length 0) (.gs h.length 0 0 0 0 1 true) MK (.lp (([] : List (List AV)).length + 1) 0) (.int .i64 x.1) x.2.2 x.2.1) (0, H, M)
    ⟨by simp, by simpa [hitsF] using ho, hlen, hfr, hM0, hM1⟩ ⟨by simp [kbB_s1, LeL, LeV], rfl, rfl⟩ ?_
  clear hk ho hlen hfr hM0 hM1 r0 r1
  rintro ⟨k, H, M⟩ ⟨hk, ho, hlen, hfr, hM0, hM1⟩
  simp only at hk ho hlen hfr hM0 hM1
  have LE := len_vm β 2 false l.answers (DQuestion.c β)
  have LM := (len_own ho).2
  rw [show (bdata (mkB v.entities.length (hitsF v (l.exports.map DExport.entity) ++ hitsF v ((l.answers.map DQuestion.promise).take k)))).length = v.entities.length by simp [bdata, mkB_len]] at LM
  have r1 : ∀ (e : List AV) (h : AH) (off n : Nat), (St.mk e M h).cells (.lp (([] : List (List AV)).length + 1) off) n = sub (l.c β) off n := fun e h off n => cells_at hM1
  have r0 : ∀ (e : List AV) (h : AH) (off n : Nat), (St.mk e M h).cells (.lp ([] : List (List AV)).length off) n = sub (v.c β) off n := fun e h off n => cells_at hM0
  simp only [EZ, q_bx, if_true, if_false, Nat.reduceAdd, Option.bind_some, Nat.reduceBEq, kbB_r, kbB_d0_q, kbB_d1_q, kbB_s1, r1, DLink.c, LE]
  refine c_split (fun hlt => ?_) (fun hge => ?_)
  · have hlt : k < l.answers.length := by simpa using hlt
    have i0 := idx_vm (β := β) (sz := 2) (ex := false) (ce := DQuestion.c β) hlt
    have r0z : ∀ (z : List AV) (e : List AV) (h : AH) (off n : Nat), (St.mk e (M ++ [z]) h).cells (.lp ([] : List (List AV)).length off) n = sub (v.c β) off n := fun z e h off n => cells_at (at_app hM0 _)
    have r1z : ∀ (z : List AV) (e : List AV) (h : AH) (off n : Nat), (St.mk e (M ++ [z]) h).cells (.lp (([] : List (List AV)).length + 1) off) n = sub (l.c β) off n := fun z e h off n => cells_at (at_app hM1 _)
    have rl : ∀ (z : List AV) (e : List AV) (h : AH) (off n : Nat), (St.mk e (M ++ [z]) h).cells (.lp M.length off) n = sub z off n := fun z e h off n => cells_at (at_last _ _)
    have sl : ∀ (p q : AV) (e : List AV) (h : AH) (a b : Int), (St.mk e (M ++ [[p, q]]) h).store (.lp M.length 0) [.int .i64 a, .int .i64 b] = some ⟨e, M ++ [[.int .i64 a, .int .i64 b]], h⟩ := fun p q e h a b => by
      have := store_all (e := e) (h := h) (vs := [.int .i64 a, .int .i64 b]) (at_last M [p, q]) rfl rfl
      rw [this]; simp
    have ht := hitsF_take (v := v) (l := (l.answers.map DQuestion.promise)) (k := k) (by simpa using hlt)
    rw [List.getElem_map] at ht
    obtain ⟨id, hid⟩ : ∃ id, id = DQuestion.promise l.answers[k] := ⟨_, rfl⟩
    rw [← hid] at ht
    obtain ⟨x, hx⟩ : ∃ x, x = lookF v ⟨1, id⟩ := ⟨_, rfl⟩
    have fin : ∀ (z : List AV), hitF v id = [] → ∃ y : Nat × AH × List (List AV), (y.1 ≤ l.answers.length ∧ Own y.2.1 MK (.sl 1 (bdata (mkB v.entities.length (hitsF v (l.exports.map DExport.entity) ++ hitsF v ((l.answers.map DQuestion.promise).take y.1))))) [K.length] ∧ y.2.1.length = K.length + 1 ∧ (∀ c, c < K.length → y.2.1[c]? = K[c]?) ∧ y.2.2[([] : List (List AV)).length]? = some (v.c β) ∧ y.2.2[([] : List (List AV)).length + 1]? = some (l.c β)) ∧ l.answers.length - y.1 < l.answers.length - k ∧ y = (k + 1, H, M ++ [z]) := fun z hz =>
      ⟨(k + 1, H, M ++ [z]), ⟨hlt, by simp only; rw [ht, hz, List.append_nil]; exact ho, hlen, hfr, at_app hM0 _, at_app hM1 _⟩, by simp only; omega, rfl⟩
    by_cases b1 : x.kind = 1
    rotate_left
    · have hh : hitF v id = [] := by unfold hitF; rw [if_neg]; rw [← hx]; exact fun h => b1 h.1
      clear LM
      simp only [EZ, q_bx, if_true, if_false, Nat.reduceAdd, Option.bind_some, Nat.reduceBEq, kbB_r, kbB_d0_q, kbB_d1_q, EB2, r0, r1, DLink.c, DVat.c, LE, i0, DQuestion.c, ← hid]
      repeat' (first
        | exact Mem.loc ⟨_, M, _⟩ _ [_]
        | (guard_target =~ TCall _ _ Fn.kbG _ _ _
           refine TCall.val (by simp only [EO]) (kbG_T _ _) ?_
           simp only [EZ, q_bx, if_true, if_false, Nat.reduceAdd, Option.bind_some, Nat.reduceBEq, kbB_r, kbB_d0_q, kbB_d1_q, EB2, r0, r1, r0z, r1z, rl, sl, DLink.c, DVat.c, LE, i0, DQuestion.c, ← hid])
        | (guard_target =~ TCall _ _ Fn.kbD _ _ _
           refine TCall.val (by simp only [EO, DValue.c]) (kbD_T β v hv ⟨1, id⟩ _) ?_
           rw [← hx]
           simp only [EZ, q_bx, if_true, if_false, Nat.reduceAdd, Option.bind_some, Nat.reduceBEq, kbB_r, kbB_d0_q, kbB_d1_q, EB2, r0, r1, r0z, r1z, rl, sl, DLink.c, DVat.c, LE, i0, DQuestion.c, ← hid, DValue.c, beq_dec, decide_eq_false b1])
        | (obtain ⟨y, y1, y2, rfl⟩ := fin _ hh
           exact ⟨_, y1, y2, ⟨by rw [wN (by omega)]; simp [kbB_s1, LeL, LeV], rfl, rfl⟩⟩)
        | refine And.intro ?_ ?_)
    cases b2 : entI x.n v.entities.length
    · have hh : hitF v id = [] := by unfold hitF; rw [if_neg]; rw [← hx, b2]; exact fun h => by cases h.2
      simp only [EZ, q_bx, if_true, if_false, Nat.reduceAdd, Option.bind_some, Nat.reduceBEq, kbB_r, kbB_d0_q, kbB_d1_q, EB2, r0, r1, DLink.c, DVat.c, LE, i0, DQuestion.c, ← hid]
      repeat' (first
        | exact Mem.loc ⟨_, M, _⟩ _ [_]
        | (guard_target =~ TCall _ _ Fn.kbG _ _ _
           refine TCall.val (by simp only [EO]) (kbG_T _ _) ?_
           simp only [EZ, q_bx, if_true, if_false, Nat.reduceAdd, Option.bind_some, Nat.reduceBEq, kbB_r, kbB_d0_q, kbB_d1_q, EB2, r0, r1, r0z, r1z, rl, sl, DLink.c, DVat.c, LE, i0, DQuestion.c, ← hid])
        | (guard_target =~ TCall _ _ Fn.kbD _ _ _
           refine TCall.val (by simp only [EO, DValue.c]) (kbD_T β v hv ⟨1, id⟩ _) ?_
           rw [← hx]
           simp only [EZ, q_bx, if_true, if_false, Nat.reduceAdd, Option.bind_some, Nat.reduceBEq, kbB_r, kbB_d0_q, kbB_d1_q, EB2, r0, r1, r0z, r1z, rl, sl, DLink.c, DVat.c, LE, i0, DQuestion.c, ← hid, DValue.c, beq_dec, decide_eq_true b1, LM])
        | (guard_target =~ TCall _ _ Fn.kbI _ _ _
           refine TCall.val (by simp only [EO]) (kbI_T _ _ _ _) ?_
           rw [inR_ent _ hv, b2]
           simp only [EZ, q_bx, if_true, if_false, Nat.reduceAdd, Option.bind_some, Nat.reduceBEq, kbB_r, kbB_d0_q, kbB_d1_q, EB2, r0, r1, r0z, r1z, rl, sl, DLink.c, DVat.c, LE, i0, DQuestion.c, ← hid, DValue.c, beq_dec, decide_eq_true b1, LM])
        | (obtain ⟨y, y1, y2, rfl⟩ := fin _ hh
           exact ⟨_, y1, y2, ⟨by rw [wN (by omega)]; simp [kbB_s1, LeL, LeV], rfl, rfl⟩⟩)
        | refine And.intro ?_ ?_)
    obtain ⟨j1, aj, hj1⟩ := entI_at b2
    have hh : hitF v id = [x.n] := by unfold hitF; rw [← hx, if_pos ⟨b1, b2⟩]
    obtain ⟨q, H2, iq, sq, oq, lq, fq⟩ := set_bool ho (k := j1) (by rw [mkB_len]; exact hj1) true
    simp only [EZ, q_bx, if_true, if_false, Nat.reduceAdd, Option.bind_some, Nat.reduceBEq, kbB_r, kbB_d0_q, kbB_d1_q, EB2, r0, r1, DLink.c, DVat.c, LE, i0, DQuestion.c, ← hid]
    repeat' (first
      | exact Mem.loc ⟨_, M, _⟩ _ [_]
      | (guard_target =~ TCall _ _ Fn.kbG _ _ _
         refine TCall.val (by simp only [EO]) (kbG_T _ _) ?_
         simp only [EZ, q_bx, if_true, if_false, Nat.reduceAdd, Option.bind_some, Nat.reduceBEq, kbB_r, kbB_d0_q, kbB_d1_q, EB2, r0, r1, r0z, r1z, rl, sl, DLink.c, DVat.c, LE, i0, DQuestion.c, ← hid])
      | (guard_target =~ TCall _ _ Fn.kbD _ _ _
         refine TCall.val (by simp only [EO, DValue.c]) (kbD_T β v hv ⟨1, id⟩ _) ?_
         rw [← hx]
         simp only [EZ, q_bx, if_true, if_false, Nat.reduceAdd, Option.bind_some, Nat.reduceBEq, kbB_r, kbB_d0_q, kbB_d1_q, EB2, r0, r1, r0z, r1z, rl, sl, DLink.c, DVat.c, LE, i0, DQuestion.c, ← hid, DValue.c, beq_dec, decide_eq_true b1, LM])
      | (guard_target =~ TCall _ _ Fn.kbI _ _ _
         refine TCall.val (by simp only [EO]) (kbI_T _ _ _ _) ?_
         rw [inR_ent _ hv, b2]
         simp only [EZ, q_bx, if_true, if_false, Nat.reduceAdd, Option.bind_some, Nat.reduceBEq, kbB_r, kbB_d0_q, kbB_d1_q, EB2, r0, r1, r0z, r1z, rl, sl, DLink.c, DVat.c, LE, i0, DQuestion.c, ← hid, DValue.c, beq_dec, decide_eq_true b1, LM, aj, iq, sq])
      | (refine ⟨(k + 1, H2, M ++ [_]), ⟨hlt, ?_, by simp only; omega, fun c hc => by simp only; rw [fq c (by simp; omega), hfr c hc], at_app hM0 _, at_app hM1 _⟩, by simp only; omega, ⟨by rw [wN (by omega)]; simp [kbB_s1, LeL, LeV], rfl, rfl⟩⟩
         simp only
         rw [ht, hh, ← List.append_assoc, aj, ← mkB_set _ hj1]
         exact oq)
      | refine And.intro ?_ ?_)
  have hge : k = l.answers.length := by simp at hge; omega
  subst hge
  rw [List.take_of_length_le (by simp)] at ho
  simp only [EZ, q_bx, if_true, if_false, Nat.reduceAdd, Option.bind_some, Nat.reduceBEq, kbB_r, kbB_d0_q, kbB_d1_q]
  rw [← fr] at ho
  clear r0 r1 hM0 hM1 LE LM
  have ob : Own H (.gs h.length 0 0 0 0 1 true) (.sl 1 []) [h.length] := (bsl0_own h 1).frame fun c hc => by rw [← hK]; rw [List.mem_singleton.1 hc]; exact hfr _ (by omega)
  have hx0 : HExt h H := ⟨by omega, fun c hc => by rw [hfr c (by omega), hK]; exact List.getElem?_append_left hc⟩
  refine loopI tabOK mixed [] (fun x : Nat × AV × AH × List Nat × List (List AV) => x.1 ≤ v.entities.length ∧ Own x.2.2.1 x.2.1 (.sl 1 (idata (marksF x.1 (reachL v peer)))) x.2.2.2.1 ∧ x.2.2.2.1.Nodup ∧ (∀ c ∈ x.2.2.2.1, h.length ≤ c ∧ c ≠ K.length) ∧ HExt h x.2.2.1 ∧ K.length < x.2.2.1.length ∧ Own x.2.2.1 MK (.sl 1 (bdata (mkB v.entities.length (reachL v peer)))) [K.length]) (fun x => v.entities.length - x.1)
    (fun x => kbB_s2 x.2.1 MK (.int .i64 x.1) x.2.2.2.2 x.2.2.1) (0, .gs h.length 0 0 0 0 1 true, H, [h.length], M) ⟨by simp, by rw [marksF_zero]; exact ob, by simp, by simp; omega, hx0, by simp only; omega, ho⟩ ⟨by simp [kbB_s2, LeL, LeV], rfl, rfl⟩ ?_
  clear hk ho hlen hfr ob hx0
  rintro ⟨k, w, H, fp, M⟩ ⟨hk, ho, nd, hfp, hx0, hlen, om⟩
  simp only at hk ho nd hfp hx0 hlen om
  have LM := (len_own om).2
  rw [show (bdata (mkB v.entities.length (reachL v peer))).length = v.entities.length by simp [bdata, mkB_len]] at LM
  simp only [EZ, q_bx, if_true, if_false, Nat.reduceAdd, Option.bind_some, Nat.reduceBEq, kbB_r, kbB_d0_q, kbB_d1_q, kbB_s2, LM]
  refine c_split (fun hlt => ?_) (fun hge => ?_)
  rotate_left
  · have hge : k = v.entities.length := by simp at hge; omega
    subst hge
    simp only [EZ, q_bx, if_true, if_false, Nat.reduceAdd, Option.bind_some, Nat.reduceBEq, kbB_r, kbB_d0_q, kbB_d1_q]
    obtain ⟨N, rfl⟩ := hx0.out
    exact ⟨ho.outOK, N, fp, rfl, ho, nd, fun c hc => (hfp c hc).1⟩
  have hlt : k < v.entities.length := by simpa using hlt
  obtain ⟨p, ip, cp⟩ := own_bool om (k := k) (by rw [mkB_len]; exact hlt)
  rw [mkB_get] at cp
  have hs := marksF_succ k (reachL v peer)
  cases b1 : (reachL v peer).contains (Int.ofNat k)
  · rw [b1] at cp hs
    simp only [EZ, q_bx, if_true, if_false, Nat.reduceAdd, Option.bind_some, Nat.reduceBEq, kbB_r, kbB_d0_q, kbB_d1_q, ip, cp, LM]
    exact ⟨(k + 1, w, H, fp, M), ⟨hlt, by simp only; rw [hs]; simpa using ho, nd, hfp, hx0, hlen, om⟩, by simp only; omega, ⟨by rw [wN (by omega)]; simp [kbB_s2, LeL, LeV], rfl, rfl⟩⟩
  rw [b1] at cp hs
  have hbl := marksF_len k (reachL v peer)
  obtain ⟨v', H', fp', ea, o', nd', hf', hl', hm'⟩ := app_ext (bytes := 8) ho (ys := [.int .i64 k]) (row := [.i .i64 k]) (f2 := []) (by simpa using nd) (by omega) rfl (.i .nil) (by simp only [List.length_map, maxMade]; omega)
  simp only [EZ, q_bx, if_true, if_false, Nat.reduceAdd, Option.bind_some, Nat.reduceBEq, kbB_r, kbB_d0_q, kbB_d1_q, EA, ip, cp, LM, ea]
  refine ⟨(k + 1, v', H', fp', M), ⟨hlt, by simp only; rw [hs, if_pos rfl, idata, List.map_append]; exact o', nd', fun c hc => ?_, ⟨by have := hx0.len; simp only; omega, fun c hc => ?_⟩, by simp only; omega, om.frame fun c hc => ?_⟩, by simp only; omega, ⟨by rw [wN (by omega)]; simp [kbB_s2, LeL, LeV], rfl, rfl⟩⟩
  · rcases hm' c hc with g | g | g
    · exact hfp c g
    · simp at g
    · have := hx0.len; omega
  · have := hx0.len
    simp only
    rw [hf' c (fun g => by have := hfp c g; omega) (by omega)]; exact hx0.fr c hc
  · rw [List.mem_singleton.1 hc]; exact hf' _ (fun g => (hfp _ g).2 rfl) hlen
end Go.Proofs.YtccjhmhkfnnmaaaGreat
