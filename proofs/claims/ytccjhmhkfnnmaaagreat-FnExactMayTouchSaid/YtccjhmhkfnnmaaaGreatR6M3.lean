import Derived.Test.YtccjhmhkfnnmaaaGreatR6M2
import Derived.Test.YtccjhmhkfnnmaaaGreatAmMore1
set_option linter.unusedVariables false
set_option linter.unusedSimpArgs false
namespace Go.Proofs.YtccjhmhkfnnmaaaGreat
open Go.AM
set_option linter.unusedVariables false
set_option linter.unusedSimpArgs false
variable {Γ : Glob}
def mayF (v : DVat) (peer : Int) : List Int := marksF v.entities.length (marksF v.entities.length (reachL v peer) ++ proxF v peer)
theorem marksF_in {n : Nat} {l : List Int} {x : Int} (h : x ∈ marksF n l) : ∃ i : Nat, i < n ∧ x = i := (mem_marksF.1 h).2
set_option maxHeartbeats 4000000 in
set_option maxRecDepth 100000 in
theorem kbE_T0 (β : Bool) (v : DVat) (hv : v.entities.length ≤ 1048576) (hl : v.links.length ≤ 1048576) (hL : ∀ l ∈ v.links, l.exports.length ≤ 1048576 ∧ l.answers.length ≤ 1048576) (peer : Int) (h : AH) :
    T Tryz.prog Γ Fn.kbE [.agg (v.c β), .int .i64 peer] h (Fresh h [.c (.sl 1 (idata (mayF v peer)))]) := by
  have L0 := len_vm β 12 false v.entities (DEntity.c β)
  refine T.freshC ?_
  have mo := fun s : St => mks_ok s 1 1 [.bool false] .i64 .i64 (n := v.entities.length) (by unfold maxMade; omega) rfl
  refine kbE_e (aw_sound tabOK mixed [] _ _ _ ?_)
  unfold kbE_c
  simp only [EZ, q_bx, if_true, if_false, Nat.reduceAdd, Option.bind_some, Nat.reduceBEq, kbE_r, EA, EB2, DVat.c, L0, mo, push_s]
  have om := bools_new h v.entities.length
  rw [← mkB_nil] at om
  obtain ⟨K, hK⟩ : ∃ K, K = h ++ [some (0, (List.replicate v.entities.length [AV.bool false]).flatten)] := ⟨_, rfl⟩
  rw [← hK] at om ⊢
  have hx0 : HExt h K := by rw [hK]; exact HExt.app _ _
  have hKl : K.length = h.length + 1 := by rw [hK]; simp
  refine TCall.ref (by simp only [EO]) (kbB_T β v hv hl hL peer K) ?_
  rintro w1 H1 fr1
  obtain ⟨f1, o1, n1, b1, e1⟩ := fr1.c1
  obtain ⟨c1a, c1b, c1c, c1d⟩ := o1.cell
  have lm1 := marksF_len v.entities.length (reachL v peer)
  simp only [EZ, q_bx, if_true, if_false, Nat.reduceAdd, Option.bind_some, Nat.reduceBEq, kbE_r, c1a, c1b, c1c, DVat.c]
  refine TCall.ref (by simp only [EO, outOK, c1a, c1b, c1c, c1d]) (kbH_T hv [] (marksF v.entities.length (reachL v peer)) (by omega) (fun x hx => marksF_in hx) (om.ext e1) o1 (fun c hc => by have := b1 c hc; simp; omega)) ?_
  rintro r1 H2 ⟨om2, l2, f2⟩
  replace om2 : Own H2 _ _ _ := om2
  replace l2 : H2.length = H1.length := l2
  replace f2 : ∀ c, c ∉ [h.length] → H2[c]? = H1[c]? := f2
  rw [List.nil_append] at om2
  have hx2 : HExt h H2 := ⟨by have := hx0.len; have := e1.len; omega, fun c hc => by rw [f2 c (by simp; omega), e1.fr c (by omega)]; exact hx0.fr c hc⟩
  simp only [EZ, q_bx, if_true, if_false, Nat.reduceAdd, Option.bind_some, Nat.reduceBEq, kbE_r, DVat.c]
  refine TCall.ref (by simp only [EO]) (kbF_T β v hv peer H2) ?_
  rintro w3 H3 fr3
  obtain ⟨f3, o3, n3, b3, e3⟩ := fr3.c1
  obtain ⟨c3a, c3b, c3c, c3d⟩ := o3.cell
  have lm3 : (proxF v peer).length ≤ v.entities.length := posF_len _ _
  have hl2 : h.length < H2.length := by have := e1.len; omega
  simp only [EZ, q_bx, if_true, if_false, Nat.reduceAdd, Option.bind_some, Nat.reduceBEq, kbE_r, c3a, c3b, c3c, DVat.c]
  refine TCall.ref (by simp only [EO, outOK, c3a, c3b, c3c, c3d]) (kbH_T hv _ (proxF v peer) (by omega) (fun x hx => posF_in hx) (om2.ext e3) o3 (fun c hc => by have := b3 c hc; simp; omega)) ?_
  rintro r4 H4 ⟨om4, l4, f4⟩
  replace om4 : Own H4 _ _ _ := om4
  replace l4 : H4.length = H3.length := l4
  replace f4 : ∀ c, c ∉ [h.length] → H4[c]? = H3[c]? := f4
  have hx4 : HExt h H4 := ⟨by have := hx2.len; have := e3.len; omega, fun c hc => by rw [f4 c (by simp; omega), e3.fr c (by omega)]; exact hx2.fr c hc⟩
  have hl4 : h.length < H4.length := by have := e3.len; omega
  obtain ⟨Q, hQ⟩ : ∃ Q, Q = marksF v.entities.length (reachL v peer) ++ proxF v peer := ⟨_, rfl⟩
  rw [← hQ] at om4
  have hmay : mayF v peer = marksF v.entities.length Q := by rw [hQ]; rfl
  rw [hmay]
  simp only [EZ, q_bx, if_true, if_false, Nat.reduceAdd, Option.bind_some, Nat.reduceBEq, kbE_r, EA]
  refine loopI tabOK mixed [] (fun x : Nat × AV × AH × List Nat × List (List AV) => x.1 ≤ v.entities.length ∧ Own x.2.2.1 x.2.1 (.sl 1 (idata (marksF x.1 Q))) x.2.2.2.1 ∧ x.2.2.2.1.Nodup ∧ (∀ c ∈ x.2.2.2.1, h.length < c) ∧ HExt h x.2.2.1 ∧ h.length < x.2.2.1.length ∧ Own x.2.2.1 (.gs h.length 0 0 v.entities.length v.entities.length 1 true) (.sl 1 (bdata (mkB v.entities.length Q))) [h.length]) (fun x => v.entities.length - x.1)
    (fun x => kbE_s0 (.gs h.length 0 0 v.entities.length v.entities.length 1 true) x.2.1 (.int .i64 x.1) x.2.2.2.2 x.2.2.1) (0, .gs H4.length 0 0 0 0 1 true, H4 ++ [some (0, [])], [H4.length], ([] : List (List AV)) ++ [v.c β]) ⟨by simp, by rw [marksF_zero]; exact bsl0_own H4 1, by simp, by simp; omega, hx4.trans (HExt.app _ _), by simp; omega, om4.ext (HExt.app _ _)⟩ ⟨by simp [kbE_s0, LeL, LeV], rfl, rfl⟩ ?_
  rintro ⟨k, w, H, fp, M⟩ ⟨hk, ho, nd, hfp, hx0, hlen, om⟩
  simp only at hk ho nd hfp hx0 hlen om
  have LM := (len_own om).2
  rw [show (bdata (mkB v.entities.length Q)).length = v.entities.length by simp [bdata, mkB_len]] at LM
  simp only [EZ, q_bx, if_true, if_false, Nat.reduceAdd, Option.bind_some, Nat.reduceBEq, kbE_r, kbE_s0, LM]
  refine c_split (fun hlt => ?_) (fun hge => ?_)
  rotate_left
  · have hge : k = v.entities.length := by simp at hge; omega
    subst hge
    simp only [EZ, q_bx, if_true, if_false, Nat.reduceAdd, Option.bind_some, Nat.reduceBEq, kbE_r]
    obtain ⟨N, rfl⟩ := hx0.out
    exact ⟨ho.outOK, N, fp, rfl, ho, nd, fun c hc => Nat.le_of_lt (hfp c hc)⟩
  have hlt : k < v.entities.length := by simpa using hlt
  obtain ⟨p, ip, cp⟩ := own_bool om (k := k) (by rw [mkB_len]; exact hlt)
  rw [mkB_get] at cp
  have hs := marksF_succ k Q
  cases b1 : Q.contains (Int.ofNat k)
  · rw [b1] at cp hs
    simp only [EZ, q_bx, if_true, if_false, Nat.reduceAdd, Option.bind_some, Nat.reduceBEq, kbE_r, ip, cp, LM]
    exact ⟨(k + 1, w, H, fp, M), ⟨hlt, by simp only; rw [hs]; simpa using ho, nd, hfp, hx0, hlen, om⟩, by simp only; omega, ⟨by rw [wN (by omega)]; simp [kbE_s0, LeL, LeV], rfl, rfl⟩⟩
  rw [b1] at cp hs
  have hbl := marksF_len k Q
  obtain ⟨v', H', fp', ea, o', nd', hf', hl', hm'⟩ := app_ext (bytes := 8) ho (ys := [.int .i64 k]) (row := [.i .i64 k]) (f2 := []) (by simpa using nd) (by omega) rfl (.i .nil) (by simp only [List.length_map, maxMade]; omega)
  simp only [EZ, q_bx, if_true, if_false, Nat.reduceAdd, Option.bind_some, Nat.reduceBEq, kbE_r, EA, ip, cp, LM, ea]
  refine ⟨(k + 1, v', H', fp', M), ⟨hlt, by simp only; rw [hs, if_pos rfl, idata, List.map_append]; exact o', nd', fun c hc => ?_, ⟨by have := hx0.len; simp only; omega, fun c hc => ?_⟩, by simp only; omega, om.frame fun c hc => ?_⟩, by simp only; omega, ⟨by rw [wN (by omega)]; simp [kbE_s0, LeL, LeV], rfl, rfl⟩⟩
  · rcases hm' c hc with g | g | g
    · exact hfp c g
    · simp at g
    · omega
  · simp only
    rw [hf' c (fun g => by have := hfp c g; omega) (by omega)]; exact hx0.fr c hc
  · rw [List.mem_singleton.1 hc]; exact hf' _ (fun g => by have := hfp _ g; omega) hlen
theorem kag_T (β : Bool) (e : DEntity) (peer : Int) (H : AH) {k : Nat} (hk : hget H k = some (0, [.int .i64 peer])) : T Tryz.prog Γ Fn.kag [.ip β (e.c β), .gp k 0 0] H fun v h' => v = .bool (decide (e.kind = 3) && decide (e.peer = peer)) ∧ h' = H := by
  have hc : ∀ (e : List AV) (l : List (List AV)) (off n : Nat), (St.mk e l H).cells (.gp k 0 off) n = sub [.int .i64 peer] off n := fun e l off n => cells_gp hk
  refine kag_e (aw_sound tabOK mixed [] _ _ _ ?_)
  unfold kag_c
  by_cases b1 : e.kind = 3
  · by_cases b2 : e.peer = peer
    · simp only [EZ, q_bx, if_true, if_false, Nat.reduceAdd, Option.bind_some, Nat.reduceBEq, kag_r, kag_d0_q, EB2, DEntity.c, hc, beq_dec, decide_eq_true b1, decide_eq_true b2]
      first | exact ⟨rfl, rfl⟩ | exact rfl
    · simp only [EZ, q_bx, if_true, if_false, Nat.reduceAdd, Option.bind_some, Nat.reduceBEq, kag_r, kag_d0_q, EB2, DEntity.c, hc, beq_dec, decide_eq_true b1, decide_eq_false b2]
      first | exact ⟨rfl, rfl⟩ | exact rfl
  · simp only [EZ, q_bx, if_true, if_false, Nat.reduceAdd, Option.bind_some, Nat.reduceBEq, kag_r, kag_d0_q, EB2, DEntity.c, hc, beq_dec, decide_eq_false b1]
    first | exact ⟨rfl, rfl⟩ | exact rfl
end Go.Proofs.YtccjhmhkfnnmaaaGreat
