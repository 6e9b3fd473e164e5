import Derived.Test.YtccjhmhkfnnmaaaGreatR6M3
set_option linter.unusedVariables false
set_option linter.unusedSimpArgs false
namespace Go.Proofs.YtccjhmhkfnnmaaaGreat
open Go.AM
set_option linter.unusedVariables false
set_option linter.unusedSimpArgs false
variable {Γ : Glob}
theorem kal_T (β : Bool) (v : DVat) (hv : v.entities.length ≤ 1048576) (pr : Nat → Bool) {g : FuncId} {b : Nat} {cc : AV} (H : AH) {q : AV} (hq : Ptr H q (v.c β)) (hb : hget H b = some (0, [cc]))
    (hp : ∀ (i : Nat) (hi : i < v.entities.length) (N : AH), hget (H ++ N) b = some (0, [cc]) → T Tryz.prog Γ g [.ip β (v.entities[i].c β), .gp b 0 0] (H ++ N) fun r h' => r = .bool (pr i) ∧ h' = H ++ N) :
    T Tryz.prog Γ Fn.kal [q, .fn g [] [.gp b 0 0]] H (Fresh H [.c (.sl 1 (idata (posF pr v.entities.length)))]) := by
  have L0 := len_vm β 12 false v.entities (DEntity.c β)
  have hq' : ∀ N, Ptr (H ++ N) q (v.c β) := fun N => hq.grow N
  refine T.freshC ?_
  refine kal_e (aw_sound tabOK mixed [] _ _ _ ?_)
  unfold kal_c
  simp only [EZ, q_bx, if_true, if_false, Nat.reduceAdd, Option.bind_some, Nat.reduceBEq, kal_r, EA, hq.nil, hq.fld, (hq' [some (0, [])]).rd, DVat.c_len, Nat.reduceLeDiff, DVat.c, L0]
  refine loopI tabOK mixed [] (fun x : Nat × AV × AH × List Nat × List (List AV) => x.1 ≤ v.entities.length ∧ Own x.2.2.1 x.2.1 (.sl 1 (idata (posF pr x.1))) x.2.2.2.1 ∧ x.2.2.2.1.Nodup ∧ (∀ c ∈ x.2.2.2.1, H.length ≤ c) ∧ ∃ N, x.2.2.1 = H ++ N) (fun x => v.entities.length - x.1)
    (fun x => kal_s0 q (.fn g [] [.gp b 0 0]) x.2.1 (.int .i64 v.entities.length) (.int .i64 x.1) x.2.2.2.2 x.2.2.1) (0, .gs H.length 0 0 0 0 1 true, H ++ [some (0, [])], [H.length], []) ⟨by simp, bsl0_own H 1, by simp, by simp, _, rfl⟩ ⟨by simp [kal_s0, LeL, LeV], rfl, rfl⟩ ?_
  rintro ⟨k, w, H1, fp, M⟩ ⟨hk, ho, nd, hfp, N, hN⟩
  simp only at hk ho nd hfp hN
  subst hN
  simp only [EZ, q_bx, if_true, if_false, Nat.reduceAdd, Option.bind_some, Nat.reduceBEq, kal_r, kal_s0]
  refine c_split (fun hlt => ?_) (fun hge => ?_)
  rotate_left
  · have hge : k = v.entities.length := by simp at hge; omega
    subst hge
    simp only [EZ, q_bx, if_true, if_false, Nat.reduceAdd, Option.bind_some, Nat.reduceBEq, kal_r]
    exact ⟨ho.outOK, N, fp, rfl, ho, nd, hfp⟩
  have hlt : k < v.entities.length := by simpa using hlt
  have i0 := idx_vm (β := β) (sz := 12) (ex := false) (ce := DEntity.c β) hlt
  have hs := posF_succ pr k
  simp only [EZ, q_bx, if_true, if_false, Nat.reduceAdd, Option.bind_some, Nat.reduceBEq, kal_r, hq.nil, hq.fld, (hq' N).rd, DVat.c_len, Nat.reduceLeDiff, DVat.c, i0, callK]
  refine TCall.val (by simp only [EO]) (hp k hlt N (hget_grow hb N)) ?_
  cases hpk : pr k
  · rw [hpk] at hs
    simp only [EZ, q_bx, if_true, if_false, Nat.reduceAdd, Option.bind_some, Nat.reduceBEq, kal_r]
    exact ⟨(k + 1, w, H ++ N, fp, _), ⟨hlt, by simp only; rw [hs]; simpa using ho, nd, hfp, N, rfl⟩, by simp only; omega, ⟨by rw [wN (by omega)]; simp [kal_s0, LeL, LeV], rfl, rfl⟩⟩
  rw [hpk] at hs
  have hbl := posF_len pr k
  obtain ⟨v', H', fp', ea, o', nd', hf', hl', hm'⟩ := app_ext (bytes := 8) ho (ys := [.int .i64 k]) (row := [.i .i64 k]) (f2 := []) (by simpa using nd) (by omega) rfl (.i .nil) (by simp only [List.length_map, maxMade]; omega)
  obtain ⟨N', rfl⟩ := ext_of hl' hf' hfp
  simp only [EZ, q_bx, if_true, if_false, Nat.reduceAdd, Option.bind_some, Nat.reduceBEq, kal_r, EA, ea]
  refine ⟨(k + 1, v', H ++ N', fp', _), ⟨hlt, by simp only; rw [hs, if_pos rfl, idata, List.map_append]; exact o', nd', fun c hc => ?_, N', rfl⟩, by simp only; omega, ⟨by rw [wN (by omega)]; simp [kal_s0, LeL, LeV], rfl, rfl⟩⟩
  rcases hm' c hc with g | g | g
  · exact hfp c g
  · simp at g
  · simp at g; omega
theorem kaf_T (β : Bool) (v : DVat) (hv : v.entities.length ≤ 1048576) (peer : Int) (h : AH) : T Tryz.prog Γ Fn.kaf [.agg (v.c β), .int .i64 peer] h (Fresh h [.c (.sl 1 (idata (proxF v peer)))]) := by
  refine T.freshC ?_
  refine kaf_e (aw_sound tabOK mixed [2, 3] _ _ _ ?_)
  unfold kaf_c
  simp only [EZ, q_bx, if_true, if_false, Nat.reduceAdd, Option.bind_some, Nat.reduceBEq, kaf_r, box_g _ _ (show List.all (DVat.c β v) noLp = true from rfl), box_g _ _ (show List.all [AV.int .i64 peer] noLp = true from rfl), push_s]
  have e : h ++ [some (0, v.c β)] ++ [some (0, [.int .i64 peer])] = h ++ [some (0, v.c β), some (0, [.int .i64 peer])] := by simp
  have hb : hget (h ++ [some (0, v.c β)] ++ [some (0, [.int .i64 peer])]) (h ++ [some (0, v.c β)]).length = some (0, [.int .i64 peer]) := hget_last _ _
  have hq : Ptr (h ++ [some (0, v.c β)] ++ [some (0, [.int .i64 peer])]) (.gp h.length 0 0) (v.c β) := (Ptr.gp0 (hget_last h _)).grow _
  refine TCall.ref (by simp only [EO]) (kal_T β v hv (proxP v peer) (g := Fn.kag) _ hq hb (fun i hi N hN => ?_)) ?_
  · rw [proxP_at hi]
    exact kag_T β _ peer _ hN
  rintro w H1 fr
  obtain ⟨f1, o1, n1, b1, e1⟩ := fr.c1
  obtain ⟨c1a, c1b, c1c, c1d⟩ := o1.cell
  simp only [EZ, q_bx, if_true, if_false, Nat.reduceAdd, Option.bind_some, Nat.reduceBEq, kaf_r, c1a, c1b, c1c]
  obtain ⟨N, rfl⟩ := e1.out
  exact ⟨o1.outOK, _, f1, by rw [List.append_assoc, List.append_assoc], o1, n1, fun c hc => by have := b1 c hc; simp at this; omega⟩
end Go.Proofs.YtccjhmhkfnnmaaaGreat
