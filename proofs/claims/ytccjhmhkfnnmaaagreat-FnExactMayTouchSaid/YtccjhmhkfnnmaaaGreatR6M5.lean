import Derived.Test.YtccjhmhkfnnmaaaGreatR6M4
set_option linter.unusedVariables false
set_option linter.unusedSimpArgs false
namespace Go.Proofs.YtccjhmhkfnnmaaaGreat
open Go.AM
set_option linter.unusedVariables false
set_option linter.unusedSimpArgs false
variable {Γ : Glob}
theorem kak_T (β β' : Bool) (v : DVat) (hv : v.entities.length ≤ 1048576) (x : DValue) (H : AH) {p : AV} (hp : Ptr H p (v.c β)) :
    T Tryz.prog Γ Fn.kak [p, .agg (x.c β')] H fun r h' => ((x.kind = 1 ∧ ∃ k : Nat, ∃ hk : k < v.entities.length, x.n = (k : Int) ∧ r = .ip β (v.entities[k].c β)) ∨ ((x.kind = 1 → ∀ k : Nat, x.n = (k : Int) → v.entities.length ≤ k) ∧ r = .nilp)) ∧ h' = H := by
  refine kak_e (aw_sound tabOK mixed [] _ _ _ ?_)
  unfold kak_c
  by_cases h1 : x.kind = 1
  · simp only [EZ, q_bx, if_true, if_false, Nat.reduceAdd, Option.bind_some, Nat.reduceBEq, kak_r, DValue.c, ne_int, decide_eq_true h1]
    refine TCall.ref (by simp only [EO, hp.out]) (kai_T β v hv x.n _ hp) ?_
    rintro r h' ⟨⟨k, hk, e1, rfl⟩ | ⟨ho, rfl⟩, rfl⟩
    · simp only [EZ, q_bx, if_true, if_false, Nat.reduceAdd, Option.bind_some, Nat.reduceBEq, kak_r]
      exact ⟨rfl, .inl ⟨h1, k, hk, e1, rfl⟩⟩
    · simp only [EZ, q_bx, if_true, if_false, Nat.reduceAdd, Option.bind_some, Nat.reduceBEq, kak_r]
      refine ⟨rfl, ?_⟩
      have hx : x.kind = 1 → ∀ k : Nat, x.n = (k : Int) → v.entities.length ≤ k := fun _ => ho
      first | exact .inr ⟨hx, rfl⟩ | exact hx | exact .inr hx
  · simp only [EZ, q_bx, if_true, if_false, Nat.reduceAdd, Option.bind_some, Nat.reduceBEq, kak_r, DValue.c, ne_int, decide_eq_false h1]
    refine ⟨rfl, ?_⟩
    have hx : x.kind = 1 → ∀ k : Nat, x.n = (k : Int) → v.entities.length ≤ k := fun e => absurd e h1
    first | exact .inr ⟨hx, rfl⟩ | exact hx | exact .inr hx
theorem hits_app (v : DVat) (a b : List Int) : hitsF v (a ++ b) = hitsF v a ++ hitsF v b := by simp only [hitsF, List.flatMap_append]
set_option maxHeartbeats 4000000 in
set_option maxRecDepth 100000 in
theorem kab_T (β : Bool) (v : DVat) (hv : v.entities.length ≤ 1048576) (hl : v.links.length ≤ 1048576) (hL : ∀ l ∈ v.links, l.exports.length ≤ 1048576 ∧ l.answers.length ≤ 1048576) (peer : Int) (h : AH) :
    T Tryz.prog Γ Fn.kab [.agg (v.c β), .int .i64 peer] h (Fresh h [.c (.sl 1 (idata (marksF v.entities.length (reachL v peer))))]) := by
  refine T.freshC ?_
  have hpK : Ptr (h ++ [some (0, v.c β)]) (.gp h.length 0 0) (v.c β) := Ptr.gp0 (hget_last h _)
  refine kab_e (aw_sound tabOK mixed [2] _ _ _ ?_)
  unfold kab_c
  simp only [EZ, q_bx, if_true, if_false, Nat.reduceAdd, Option.bind_some, Nat.reduceBEq, kab_r, box_g _ _ (show List.all (DVat.c β v) noLp = true from rfl), push_s, cells_last, sub_all (DVat.c_len β v)]
  refine TCall.val (by simp only [EO, DVat.c_noLp]) (kac_T β v hl peer _) ?_
  rcases idxI_cases (fun l : DLink => l.peer == peer) v.links with ⟨j, hj, ej, pj, fj⟩ | ⟨ej, fj, _⟩
  rotate_left
  · simp only [EZ, q_bx, if_true, if_false, Nat.reduceAdd, Option.bind_some, Nat.reduceBEq, kab_r, ej, show decide ((-1 : Int) < 0) = true from rfl]
    have e0 : reachL v peer = [] := by unfold reachL; rw [fj]
    have e1 : marksF v.entities.length (reachL v peer) = [] := by rw [e0]; simp [marksF]
    rw [e1]
    exact ⟨rfl, _, [], rfl, .nil 1, by simp, by simp⟩
  have fr : reachL v peer = hitsF v (v.links[j].exports.map DExport.entity) ++ hitsF v (v.links[j].answers.map DQuestion.promise) := by unfold reachL; rw [fj]
  obtain ⟨l, hl'⟩ : ∃ l, l = v.links[j] := ⟨_, rfl⟩
  obtain ⟨he, ha⟩ := hL l (by rw [hl']; exact List.getElem_mem hj)
  have i0 := idx_vm (β := β) (sz := 7) (ex := false) (ce := DLink.c β) hj
  rw [← hl'] at fr i0
  have ln : decide ((j : Int) < 0) = false := decide_eq_false (by omega)
  have LE := len_vm β 3 false l.exports (DExport.c β)
  have LA := len_vm β 2 false l.answers (DQuestion.c β)
  obtain ⟨K, hK⟩ : ∃ K, K = h ++ [some (0, v.c β)] := ⟨_, rfl⟩
  have hp : ∀ N, Ptr (K ++ N) (.gp h.length 0 0) (v.c β) := fun N => by rw [hK]; exact hpK.grow N
  have hg : hget K h.length = some (0, v.c β) := by rw [hK]; exact hget_last h _
  have rk : ∀ (N : AH) (e : List AV) (L : List (List AV)) (off n : Nat), (St.mk e L (K ++ N)).cells (.gp h.length 0 off) n = sub (v.c β) off n := fun N e L off n => cells_gp (hget_grow hg N)
  rw [← hK]
  clear hpK
  have hKl : K.length = h.length + 1 := by rw [hK]; simp
  simp only [EZ, q_bx, if_true, if_false, Nat.reduceAdd, Option.bind_some, Nat.reduceBEq, kab_r, EA, ej, ln, rk, DVat.c, i0, DLink.c, LE]
  refine loopI tabOK mixed [2] (fun x : Nat × AV × AH × List Nat × List (List AV) => x.1 ≤ l.exports.length ∧ Own x.2.2.1 x.2.1 (.sl 1 (idata (([] : List Int) ++ (l.exports.take x.1).map DExport.entity))) x.2.2.2.1 ∧ x.2.2.2.1.Nodup ∧ (∀ c ∈ x.2.2.2.1, K.length ≤ c) ∧ ∃ N, x.2.2.1 = K ++ N) (fun x => l.exports.length - x.1)
    (fun x => kab_s0 (.gp h.length 0 0) (.int .i64 j) x.2.1 (.vs β 3 false (l.exports.map (DExport.c β))) (.int .i64 l.exports.length) (.int .i64 x.1) x.2.2.2.2 x.2.2.1) (0, .gs K.length 0 0 0 0 1 true, K ++ [some (0, [])], [K.length], ([] : List (List AV)))
    ⟨by simp, bsl0_own K 1, by simp, by simp, _, rfl⟩ ⟨by simp [kab_s0, LeL, LeV], rfl, rfl⟩ ?_
  rintro ⟨k, w, H, fp, M⟩ ⟨hk, ho, nd, hfp, N, hN⟩
  simp only at hk ho nd hfp hN
  subst hN
  simp only [EZ, q_bx, if_true, if_false, Nat.reduceAdd, Option.bind_some, Nat.reduceBEq, kab_r, kab_s0]
  refine c_split (fun hlt => ?_) (fun hge => ?_)
  · have hlt : k < l.exports.length := by simpa using hlt
    have i0 := idx_vm (β := β) (sz := 3) (ex := false) (ce := DExport.c β) hlt
    obtain ⟨v', H', fp', ea, o', nd', hf', hl', hm'⟩ := app_ext (bytes := 8) ho (ys := [.int .i64 (DExport.entity l.exports[k])]) (row := [.i .i64 (DExport.entity l.exports[k])]) (f2 := []) (by simpa using nd) (by omega) rfl (.i .nil) (by simp only [List.length_map, List.length_append, List.length_take, List.length_nil, maxMade]; omega)
    obtain ⟨N', rfl⟩ := ext_of hl' hf' hfp
    simp only [EZ, q_bx, if_true, if_false, Nat.reduceAdd, Option.bind_some, Nat.reduceBEq, kab_r, EA, i0, DExport.c, ea]
    refine ⟨(k + 1, v', K ++ N', fp', _), ⟨hlt, by simp only; rw [List.take_succ_eq_append_getElem hlt, List.map_append, ← List.append_assoc, idata, List.map_append]; exact o', nd', fun c hc => ?_, N', rfl⟩, by simp only; omega, ⟨by rw [wN (by omega)]; simp [kab_s0, LeL, LeV], rfl, rfl⟩⟩
    rcases hm' c hc with g | g | g
    · exact hfp c g
    · simp at g
    · simp at g; omega
  have hge : k = l.exports.length := by simp at hge; omega
  subst hge
  rw [List.take_length] at ho
  simp only [EZ, q_bx, if_true, if_false, Nat.reduceAdd, Option.bind_some, Nat.reduceBEq, kab_r, rk, DVat.c, i0, DLink.c, LA]
  rw [List.nil_append] at ho
  refine loopI tabOK mixed [2] (fun x : Nat × AV × AH × List Nat × List (List AV) => x.1 ≤ l.answers.length ∧ Own x.2.2.1 x.2.1 (.sl 1 (idata (l.exports.map DExport.entity ++ (l.answers.take x.1).map DQuestion.promise))) x.2.2.2.1 ∧ x.2.2.2.1.Nodup ∧ (∀ c ∈ x.2.2.2.1, K.length ≤ c) ∧ ∃ N, x.2.2.1 = K ++ N) (fun x => l.answers.length - x.1)
    (fun x => kab_s1 (.gp h.length 0 0) x.2.1 (.vs β 2 false (l.answers.map (DQuestion.c β))) (.int .i64 l.answers.length) (.int .i64 x.1) x.2.2.2.2 x.2.2.1) (0, w, K ++ N, fp, M)
    ⟨by simp, by simpa using ho, nd, hfp, _, rfl⟩ ⟨by simp [kab_s1, LeL, LeV], rfl, rfl⟩ ?_
  clear hk ho nd hfp
  rintro ⟨k, w, H, fp, M⟩ ⟨hk, ho, nd, hfp, N, hN⟩
  simp only at hk ho nd hfp hN
  subst hN
  simp only [EZ, q_bx, if_true, if_false, Nat.reduceAdd, Option.bind_some, Nat.reduceBEq, kab_r, kab_s1]
  refine c_split (fun hlt => ?_) (fun hge => ?_)
  · have hlt : k < l.answers.length := by simpa using hlt
    have i0 := idx_vm (β := β) (sz := 2) (ex := false) (ce := DQuestion.c β) hlt
    obtain ⟨v', H', fp', ea, o', nd', hf', hl', hm'⟩ := app_ext (bytes := 8) ho (ys := [.int .i64 (DQuestion.promise l.answers[k])]) (row := [.i .i64 (DQuestion.promise l.answers[k])]) (f2 := []) (by simpa using nd) (by omega) rfl (.i .nil) (by simp only [List.length_map, List.length_append, List.length_take, List.length_nil, maxMade]; omega)
    obtain ⟨N', rfl⟩ := ext_of hl' hf' hfp
    simp only [EZ, q_bx, if_true, if_false, Nat.reduceAdd, Option.bind_some, Nat.reduceBEq, kab_r, EA, i0, DQuestion.c, ea]
    refine ⟨(k + 1, v', K ++ N', fp', _), ⟨hlt, by simp only; rw [List.take_succ_eq_append_getElem hlt, List.map_append, ← List.append_assoc, idata, List.map_append]; exact o', nd', fun c hc => ?_, N', rfl⟩, by simp only; omega, ⟨by rw [wN (by omega)]; simp [kab_s1, LeL, LeV], rfl, rfl⟩⟩
    rcases hm' c hc with g | g | g
    · exact hfp c g
    · simp at g
    · simp at g; omega
  have hge : k = l.answers.length := by simp at hge; omega
  subst hge
  rw [List.take_length] at ho
  have LI := (len_own ho).2
  obtain ⟨ids, hids⟩ : ∃ ids, ids = l.exports.map DExport.entity ++ l.answers.map DQuestion.promise := ⟨_, rfl⟩
  rw [← hids] at ho LI
  have hil : ids.length ≤ 2097152 := by rw [hids]; simp; omega
  rw [idata_len] at LI
  have fr2 : reachL v peer = hitsF v ids := by rw [fr, hids, hits_app]
  have ow := ho
  have hfi := fun c hc => ow.lt c hc
  simp only [EZ, q_bx, if_true, if_false, Nat.reduceAdd, Option.bind_some, Nat.reduceBEq, kab_r, EA, LI]
  refine loopI tabOK mixed [2] (fun x : Nat × AV × AH × List Nat × List (List AV) => x.1 ≤ ids.length ∧ Own x.2.2.1 x.2.1 (.sl 1 (idata (hitsF v (ids.take x.1)))) x.2.2.2.1 ∧ x.2.2.2.1.Nodup ∧ (∀ c ∈ x.2.2.2.1, (K ++ N).length ≤ c) ∧ ∃ N', x.2.2.1 = K ++ N ++ N') (fun x => ids.length - x.1)
    (fun x => kab_s2 (.gp h.length 0 0) x.2.1 w (.int .i64 ids.length) (.int .i64 x.1) x.2.2.2.2 x.2.2.1) (0, .gs (K ++ N).length 0 0 0 0 1 true, K ++ N ++ [some (0, [])], [(K ++ N).length], M)
    ⟨by simp, bsl0_own (K ++ N) 1, by simp, by simp, _, rfl⟩ ⟨by simp [kab_s2, LeL, LeV], rfl, rfl⟩ ?_
  clear hk nd hfp ho
  rintro ⟨k, w2, H, fp2, M⟩ ⟨hk, ho, nd, hfp, N', hN⟩
  simp only at hk ho nd hfp hN
  subst hN
  simp only [EZ, q_bx, if_true, if_false, Nat.reduceAdd, Option.bind_some, Nat.reduceBEq, kab_r, kab_s2]
  refine c_split (fun hlt => ?_) (fun hge => ?_)
  rotate_left
  · have hge : k = ids.length := by simp at hge; omega
    subst hge
    rw [List.take_length, ← fr2] at ho
    obtain ⟨ca, cb, cc, cd⟩ := ho.cell
    have hrl : (reachL v peer).length ≤ 2097152 := by rw [fr2]; exact Nat.le_trans (hitsF_len v ids) hil
    simp only [EZ, q_bx, if_true, if_false, Nat.reduceAdd, Option.bind_some, Nat.reduceBEq, kab_r, ca, cb, cc]
    refine TCall.ref (by simp only [EO, outOK, ca, cb, cc, cd]) (slices_Sort_T (zs := reachL v peer) (by omega) ho) ?_
    rintro r H1 ⟨rfl, o1, l1, f1⟩
    replace o1 : Own H1 _ _ _ := o1
    replace l1 : H1.length = (K ++ N ++ N').length := l1
    replace f1 : ∀ c, c ∉ fp2 → H1[c]? = (K ++ N ++ N')[c]? := f1
    simp only [EZ, q_bx, if_true, if_false, Nat.reduceAdd, Option.bind_some, Nat.reduceBEq, kab_r, ca, cb, cc]
    refine TCall.ref (by simp only [EO, outOK, ca, cb, cc, cd]) (slices_Compact_T (zs := srt (reachL v peer)) (by rw [srt_len]; omega) o1) ?_
    rintro r H2 ⟨o2, l2, f2⟩
    replace o2 : Own H2 _ _ _ := o2
    replace l2 : H2.length = H1.length := l2
    replace f2 : ∀ c, c ∉ fp2 → H2[c]? = H1[c]? := f2
    rw [compact_sort v.entities.length _ (fun x hx => reachL_in hx)] at o2
    obtain ⟨da, db, dc, dd⟩ := o2.cell
    simp only [EZ, q_bx, if_true, if_false, Nat.reduceAdd, Option.bind_some, Nat.reduceBEq, kab_r, da, db, dc]
    have hKN : (K ++ N).length = h.length + 1 + N.length := by rw [List.length_append, hKl]
    have hx : HExt h H2 := ⟨by rw [l2, l1]; simp only [List.length_append] at hKN ⊢; omega, fun c hc => by
      have hn : c ∉ fp2 := fun g => by have := hfp c g; omega
      rw [f2 c hn, f1 c hn, List.append_assoc, List.getElem?_append_left (by omega), hK, List.getElem?_append_left hc]⟩
    obtain ⟨N2, rfl⟩ := hx.out
    exact ⟨o2.outOK, N2, fp2, rfl, o2, nd, fun c hc => by have := hfp c hc; omega⟩
  have hlt : k < ids.length := by simpa using hlt
  have ow1 : Own (K ++ N ++ N') w (.sl 1 (idata ids)) fp := ow.ext (HExt.app _ _)
  obtain ⟨p, ip, cp⟩ := own_int ow1 hlt
  have ht := hitsF_take (v := v) hlt
  obtain ⟨id, hid⟩ : ∃ id, id = ids[k] := ⟨_, rfl⟩
  rw [← hid] at cp ht
  obtain ⟨x, hx⟩ : ∃ x, x = lookF v ⟨1, id⟩ := ⟨_, rfl⟩
  have hp2 : Ptr (K ++ N ++ N') (.gp h.length 0 0) (v.c β) := by rw [List.append_assoc]; exact hp _
  simp only [EZ, q_bx, if_true, if_false, Nat.reduceAdd, Option.bind_some, Nat.reduceBEq, kab_r, ip, cp]
  refine TCall.val (by simp only [EO]) (kah_T _ _) ?_
  simp only [EZ, q_bx, if_true, if_false, Nat.reduceAdd, Option.bind_some, Nat.reduceBEq, kab_r]
  refine TCall.val (by simp only [EO, DValue.c]) (kaj_T β v hv ⟨1, id⟩ _ hp2) ?_
  rw [← hx]
  simp only [EZ, q_bx, if_true, if_false, Nat.reduceAdd, Option.bind_some, Nat.reduceBEq, kab_r, DValue.c]
  refine TCall.ref (by simp only [EO]) (kak_T β false v hv x _ hp2) ?_
  rintro r H1 ⟨⟨b1, j1, hj1, ej1, rfl⟩ | ⟨b1, rfl⟩, e⟩
  rotate_left
  · replace e : H1 = K ++ N ++ N' := e
    subst e
    have hh : hitF v id = [] := by
      unfold hitF; rw [if_neg]; rw [← hx]
      rintro ⟨q1, q2⟩
      obtain ⟨i, ei, hi⟩ := entI_at q2
      have := b1 q1 i ei; omega
    simp only [EZ, q_bx, if_true, if_false, Nat.reduceAdd, Option.bind_some, Nat.reduceBEq, kab_r, EF]
    exact ⟨(k + 1, w2, _, fp2, _), ⟨hlt, by simp only; rw [ht, hh, List.append_nil]; exact ho, nd, hfp, N', rfl⟩, by simp only; omega, ⟨by rw [wN (by omega)]; simp [kab_s2, LeL, LeV], rfl, rfl⟩⟩
  replace e : H1 = K ++ N ++ N' := e
  subst e
  have hh : hitF v id = [x.n] := by
    unfold hitF; rw [← hx, if_pos ⟨b1, by rw [ej1]; simp only [entI, Bool.and_eq_true, decide_eq_true_eq]; omega⟩]
  have hbl := Nat.le_trans (hitsF_len v (ids.take k)) (by rw [List.length_take]; exact Nat.min_le_left _ _ : _ ≤ k)
  obtain ⟨v', H', fp', ea, o', nd', hf', hl', hm'⟩ := app_ext (bytes := 8) ho (ys := [.int .i64 x.n]) (row := [.i .i64 x.n]) (f2 := []) (by simpa using nd) (by omega) rfl (.i .nil) (by simp only [List.length_map, maxMade]; omega)
  obtain ⟨N2, rfl⟩ := ext_of hl' hf' hfp
  simp only [EZ, q_bx, if_true, if_false, Nat.reduceAdd, Option.bind_some, Nat.reduceBEq, kab_r, EA, ea]
  refine ⟨(k + 1, v', K ++ N ++ N2, fp', _), ⟨hlt, by simp only; rw [ht, hh, idata, List.map_append]; exact o', nd', fun c hc => ?_, N2, rfl⟩, by simp only; omega, ⟨by rw [wN (by omega)]; simp [kab_s2, LeL, LeV], rfl, rfl⟩⟩
  rcases hm' c hc with g | g | g
  · exact hfp c g
  · simp at g
  · simp only [List.length_append] at g ⊢; omega
end Go.Proofs.YtccjhmhkfnnmaaaGreat
