import Derived.Test.YtccjhmhkfnnmaaaGreatR6M5
set_option linter.unusedVariables false
set_option linter.unusedSimpArgs false
namespace Go.Proofs.YtccjhmhkfnnmaaaGreat
open Go.AM
set_option linter.unusedVariables false
set_option linter.unusedSimpArgs false
variable {Γ : Glob}
set_option maxHeartbeats 4000000 in
set_option maxRecDepth 100000 in
theorem kae_T0 (β : Bool) (v : DVat) (hv : v.entities.length ≤ 1048576) (hl : v.links.length ≤ 1048576) (hL : ∀ l ∈ v.links, l.exports.length ≤ 1048576 ∧ l.answers.length ≤ 1048576) (peer : Int) (h : AH) :
    T Tryz.prog Γ Fn.kae [.agg (v.c β), .int .i64 peer] h (Fresh h [.c (.sl 1 (idata (mayF v peer)))]) := by
  refine T.freshC ?_
  have lm1 := marksF_len v.entities.length (reachL v peer)
  have lm3 : (proxF v peer).length ≤ v.entities.length := posF_len _ _
  refine kae_e (aw_sound tabOK mixed [] _ _ _ ?_)
  unfold kae_c
  simp only [EZ, q_bx, if_true, if_false, Nat.reduceAdd, Option.bind_some, Nat.reduceBEq, kae_r, kae_d0_q, EA, EB2, DVat.c]
  refine TCall.ref (by simp only [EO]) (kab_T β v hv hl hL peer h) ?_
  rintro w1 H1 fr1
  obtain ⟨f1, o1, n1, b1, e1⟩ := fr1.c1
  obtain ⟨c1a, c1b, c1c, c1d⟩ := o1.cell
  simp only [EZ, q_bx, if_true, if_false, Nat.reduceAdd, Option.bind_some, Nat.reduceBEq, kae_r, kae_d0_q, EA, EB2, DVat.c, c1a, c1b, c1c]
  refine ⟨keep_lp' rfl, ?_⟩
  refine TCall.ref (by simp only [EO]) (kaf_T β v hv peer H1) ?_
  rintro w3 H3 fr3
  obtain ⟨f3, o3, n3, b3, e3⟩ := fr3.c1
  obtain ⟨c3a, c3b, c3c, c3d⟩ := o3.cell
  have o1' := o1.ext e3
  obtain ⟨v', H', fp', ea, o', nd', hf', hl', hm'⟩ := app_list (bytes := 8) o1' n1 (by omega) o3 (ints_flatG _) (by simp only [List.length_map, maxMade]; omega)
  have o2 : Own H' v' (.sl 1 (idata (marksF v.entities.length (reachL v peer) ++ proxF v peer))) fp' := by rw [idata, List.map_append]; exact o'
  have hQl : (marksF v.entities.length (reachL v peer) ++ proxF v peer).length ≤ 2097152 := by rw [List.length_append]; omega
  have hQi : ∀ x ∈ marksF v.entities.length (reachL v peer) ++ proxF v peer, ∃ i : Nat, i < v.entities.length ∧ x = i := fun x hx => by
    rcases List.mem_append.1 hx with g | g
    · exact marksF_in g
    · exact posF_in g
  have hmay : mayF v peer = Lib.compact (srt (marksF v.entities.length (reachL v peer) ++ proxF v peer)) := (compact_sort v.entities.length _ hQi).symm
  obtain ⟨Q, hQ⟩ : ∃ Q, Q = marksF v.entities.length (reachL v peer) ++ proxF v peer := ⟨_, rfl⟩
  rw [← hQ] at o2 hQl hmay
  rw [hmay]
  obtain ⟨ca, cb, cc, cd⟩ := o2.cell
  have hx1 : HExt h H' := ⟨by have := e1.len; have := e3.len; omega, fun c hc => by
    have := e1.len; have := e3.len
    rw [hf' c (fun g => by have := b1 c g; omega) (by omega), e3.fr c (by omega), e1.fr c hc]⟩
  have hfp : ∀ c ∈ fp', h.length ≤ c := fun c hc => by
    have := e1.len; have := e3.len
    rcases hm' c hc with g | g
    · exact b1 c g
    · omega
  simp only [EZ, q_bx, if_true, if_false, Nat.reduceAdd, Option.bind_some, Nat.reduceBEq, kae_r, kae_d0_q, EA, EB2, DVat.c, c1a, c1b, c1c, c3a, c3b, c3c, ea, ca, cb, cc]
  refine TCall.ref (by simp only [EO, outOK, ca, cb, cc, cd]) (slices_Sort_T (zs := Q) (by omega) o2) ?_
  rintro r H4 ⟨rfl, o4, l4, f4⟩
  replace o4 : Own H4 _ _ _ := o4
  replace l4 : H4.length = H'.length := l4
  replace f4 : ∀ c, c ∉ fp' → H4[c]? = H'[c]? := f4
  simp only [EZ, q_bx, if_true, if_false, Nat.reduceAdd, Option.bind_some, Nat.reduceBEq, kae_r, kae_d0_q, ca, cb, cc]
  refine TCall.ref (by simp only [EO, outOK, ca, cb, cc, cd]) (slices_Compact_T (zs := srt Q) (by rw [srt_len]; omega) o4) ?_
  rintro r H5 ⟨o5, l5, f5⟩
  replace o5 : Own H5 _ _ _ := o5
  replace l5 : H5.length = H4.length := l5
  replace f5 : ∀ c, c ∉ fp' → H5[c]? = H4[c]? := f5
  obtain ⟨da, db, dc, dd⟩ := o5.cell
  simp only [EZ, q_bx, if_true, if_false, Nat.reduceAdd, Option.bind_some, Nat.reduceBEq, kae_r, kae_d0_q, da, db, dc]
  have hx : HExt h H5 := ⟨by have := hx1.len; omega, fun c hc => by
    have hn : c ∉ fp' := fun g => by have := hfp c g; omega
    rw [f5 c hn, f4 c hn]; exact hx1.fr c hc⟩
  obtain ⟨N2, rfl⟩ := hx.out
  exact ⟨o5.outOK, N2, fp', rfl, o5, nd', hfp⟩
end Go.Proofs.YtccjhmhkfnnmaaaGreat
