import Derived.Test.YtleddolmolkpfaaGreatR5FO
import Derived.Test.YtleddolmolkpfaaGreatR5SW
set_option linter.unusedVariables false
set_option linter.unusedSimpArgs false
namespace Go.Proofs.YtleddolmolkpfaaGreat
open Go.AM
set_option linter.unusedVariables false
set_option linter.unusedSimpArgs false
variable {Γ : Glob}
set_option maxHeartbeats 1000000 in
theorem kcF_T (β : Bool) (v : DWorld) (hv : v.ok 1048576) (a b : Int) (m : DMessage) (hm : m.ok 1048576) (h : AH) : T Tryz.prog Γ Fn.kcF [.agg (v.c β), .int .i64 a, .int .i64 b, .agg (m.c β)] h (Fresh h [.a (forgeF v a b m).1.cd, .c (.b (forgeF v a b m).2)]) := by
  refine T.freshA2 rfl ?_
  refine kcF_e (aw_sound tabOK mixed [] _ _ _ ?_)
  unfold kcF_c
  simp only [EZ, q_bx, if_true, if_false, Nat.reduceAdd, Option.bind_some, Nat.reduceBEq, kcF_r, EB2, ER, DWorld.c, DMessage.c]
  refine TCall.ref (by simp only [EO]) (kcN_T β v hv _) ?_
  rintro _ H1 fr
  replace fr : Fresh h _ _ _ := fr
  obtain ⟨aw, fw, rfl, ow, nw, bw, ew⟩ := fr.a1
  have hlt : ∀ c ∈ fw, c < H1.length := fun c hc => ow.lt c hc
  obtain ⟨wS, wV, wC, wT, fS, fV, fC, fT, rfl, rfl, oS, oV, oC, oT⟩ := world_cells ow
  obtain ⟨a1, a2, a3, a4⟩ := oS.cell
  obtain ⟨b1, b2, b3, b4⟩ := oV.cell
  obtain ⟨c1, c2, c3, c4⟩ := oC.cell
  obtain ⟨d1, d2, d3, d4⟩ := oT.cell
  simp only [EZ, q_bx, if_true, if_false, Nat.reduceAdd, Option.bind_some, Nat.reduceBEq, kcF_r, EB2, ER, a1, a2, a3, b1, b2, b3, c1, c2, c3, d1, d2, d3]
  refine TCall.ref (by simp only [EO]) (kcG_T β v.channels hv.2.2.2.2.1 hv.2.2.2.2.2.1 a b m hm _) ?_
  rintro _ H2 fr
  replace fr : Fresh H1 _ _ _ := fr
  obtain ⟨w, fC', rfl, oC', nC', bC', em⟩ := fr.c2 rfl
  obtain ⟨e1, e2, e3, e4⟩ := oC'.cell
  simp only [EZ, q_bx, if_true, if_false, Nat.reduceAdd, Option.bind_some, Nat.reduceBEq, kcF_r, EB2, ER, CD.av_b, a1, a2, a3, b1, b2, b3, c1, c2, c3, d1, d2, d3, e1, e2, e3]
  obtain ⟨N, q, r1, r2, r3, r4⟩ := forge_fin (l' := (putM v.channels a b m).1) oS oV oT nw hlt bw (ew.trans em) ew.len oC' nC' (fun c hc => .inr (bC' c hc)) (fun c hc => em.fr c (hlt c (mem_w hc)))
  exact ⟨by simp only [List.all_cons, List.all_nil, EO, a3, b3, e3, d3], _, N, q, by first | rfl | (rw [CD.av_b]; rfl), r1, r2, r3, r4⟩
end Go.Proofs.YtleddolmolkpfaaGreat
