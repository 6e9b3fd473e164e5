import Derived.Test.YtleddolmolkpfaaGreatR5LP
import Derived.Test.YtleddolmolkpfaaGreatAmMore3
import Derived.Test.YtleddolmolkpfaaGreatAmDel
set_option linter.unusedVariables false
set_option linter.unusedSimpArgs false
namespace Go.Proofs.YtleddolmolkpfaaGreat
open Go.AM
set_option linter.unusedVariables false
set_option linter.unusedSimpArgs false
variable {Γ : Glob}
theorem vat_cells {H : AH} {cells : List AV} {v : DVat} {f : List Nat} (o : OwnL H cells v.cd f) : ∃ wE w2 wL w4 fE f2 fL f4, cells = [.int .i64 v.id, wE, w2, wL, w4] ∧ f = fE ++ (f2 ++ (fL ++ f4)) ∧ Own H wE (.sl 12 (v.entities.map DEntity.cd)) fE ∧ Own H w2 (.sl 7 (v.loop.map DSent.cd)) f2 ∧ Own H wL (.sl 7 (v.links.map DLink.cd)) fL ∧ Own H w4 (.sl 13 (v.out.map DOutgoing.cd)) f4 := by
  simp only [DVat.cd, ownL_c, ownL_n, own_i, own_b, own_s] at o
  obtain ⟨_, _, _, _, rfl, rfl, ⟨rfl, rfl⟩, ⟨wE, _, fE, _, rfl, rfl, oE, ⟨w2, _, f2, _, rfl, rfl, o2, ⟨wL, _, fL, _, rfl, rfl, oL, ⟨w4, _, f4, _, rfl, rfl, o4, ⟨rfl, rfl⟩⟩⟩⟩⟩⟩ := o
  exact ⟨wE, w2, wL, w4, fE, f2, fL, f4, rfl, by simp, oE, o2, oL, o4⟩
theorem vat_own {H : AH} {v : DVat} {wE w2 wL w4 : AV} {fE f2 fL f4 : List Nat} (oE : Own H wE (.sl 12 (v.entities.map DEntity.cd)) fE) (o2 : Own H w2 (.sl 7 (v.loop.map DSent.cd)) f2) (oL : Own H wL (.sl 7 (v.links.map DLink.cd)) fL) (o4 : Own H w4 (.sl 13 (v.out.map DOutgoing.cd)) f4) :
    OwnL H [.int .i64 v.id, wE, w2, wL, w4] v.cd (fE ++ (f2 ++ (fL ++ f4))) := by
  have e : f4 = f4 ++ [] := by simp
  rw [e]
  exact .i (.o oE (.o o2 (.o oL (.o o4 .nil))))
theorem impl_Vat_link_1_P (β : Bool) (x : DLink) (peer : Int) (H : AH) {p : AV} (hp : Ptr H p [.int .i64 peer]) : T Tryz.prog Γ Fn.impl_Vat_link_1 [.agg (x.c β), p] H fun v h' => v = .bool (x.peer == peer && x.up) ∧ h' = H := by
  have hc : ∀ (e : List AV) (l : List (List AV)), (St.mk e l H).cells p 1 = some [.int .i64 peer] := fun e l => hp.rd0 e l 0 (by simp)
  refine impl_Vat_link_1_e (aw_sound tabOK mixed [] _ _ _ ?_)
  unfold impl_Vat_link_1_c
  cases hp : x.peer == peer
  · simp only [EV, EL, EB, EF, q_bx, if_true, if_false, Bool.false_eq_true, Nat.reduceAdd, Option.bind_some, Bool.not_true, Bool.not_false, Nat.reduceBEq, impl_Vat_link_1_r, DLink.c, hc, hp]
    first | exact ⟨rfl, rfl⟩ | exact rfl
  · simp only [EV, EL, EB, EF, q_bx, if_true, if_false, Bool.false_eq_true, Nat.reduceAdd, Option.bind_some, Bool.not_true, Bool.not_false, Nat.reduceBEq, impl_Vat_link_1_r, DLink.c, hc, hp]
    first | exact ⟨rfl, rfl⟩ | exact rfl
set_option maxHeartbeats 1000000 in
theorem impl_Vat_link_own (v : DVat) (hv : v.links.length ≤ 1048576) (peer : Int) (H : AH) {b : Nat} {wE w2 wL w4 : AV} {f : List Nat} (hb : hget H b = some (0, [.int .i64 v.id, wE, w2, wL, w4])) (ow : OwnL H [.int .i64 v.id, wE, w2, wL, w4] v.cd f) (nd : f.Nodup) :
    T Tryz.prog Γ Fn.impl_Vat_link [.gp b 0 0, .int .i64 peer] H fun r h' => (∃ N, h' = H ++ N) ∧ ((upF v.links peer = true ∧ ∃ k : Nat, ∃ hk : k < v.links.length, idxI (fun x : DLink => x.peer == peer) v.links = (k : Int) ∧ aIdxs 7 wL (k : Int) = some r) ∨ (upF v.links peer = false ∧ r = .nilp)) := by
  have hp0 : Ptr H (.gp b 0 0) [.int .i64 v.id, wE, w2, wL, w4] := Ptr.gp0 hb
  have hp : Ptr (H ++ [some (0, [.int .i64 peer])]) (.gp b 0 0) [.int .i64 v.id, wE, w2, wL, w4] := hp0.grow _
  have ow' := ow.grow (new := [some (0, [AV.int .i64 peer])])
  obtain ⟨_, _, _, _, fE, f2, fL, f4, e, rfl, oE, o2, oL, o4⟩ := vat_cells ow'
  injection e with _ e; injection e with e1 e; injection e with e2 e; injection e with e3 e; injection e with e4 _
  subst e1 e2 e3 e4
  obtain ⟨a1, a2, a3, a4⟩ := oE.cell
  obtain ⟨b1, b2, b3, b4⟩ := o2.cell
  obtain ⟨c1, c2, c3, c4⟩ := oL.cell
  obtain ⟨d1, d2, d3, d4⟩ := o4.cell
  refine impl_Vat_link_e (aw_sound tabOK mixed [3] _ _ _ ?_)
  unfold impl_Vat_link_c
  simp only [EV, EL, EB, EF, q_bx, if_true, if_false, Bool.false_eq_true, Nat.reduceAdd, Option.bind_some, Bool.not_true, Bool.not_false, Nat.reduceBEq, impl_Vat_link_r, impl_Vat_link_d0_q, box_g _ _ (show List.all [AV.int .i64 peer] noLp = true from rfl), push_s, hp.nil, hp.fld, hp.rd, List.length_cons, List.length_nil, Nat.reduceLeDiff]
  refine TCall.see (by simp only [EO, c4]) (snap_c (Own.see (DLink.c_eq true) oL) (snap_c (snap_f1 (snap_b1 (hget_last H (0, [AV.int .i64 peer])))) snap_n)) (fun h => contains_Link_T (g := Fn.impl_Vat_link_1) (caps := [.ip true [.int .i64 peer]]) rfl rfl (fun x => x.peer == peer && x.up) true v.links hv (fun x hx => impl_Vat_link_1_P true x peer _ (Ptr.ip h true _))) (.bool _) ?_
  simp only [EV, EL, EB, EF, q_bx, if_true, if_false, Bool.false_eq_true, Nat.reduceAdd, Option.bind_some, Bool.not_true, Bool.not_false, Nat.reduceBEq, impl_Vat_link_r, impl_Vat_link_d0_q, hp.nil, hp.fld, hp.rd, hp.rd0, List.length_cons, List.length_nil, Nat.reduceLeDiff, cells_last]
  refine TCall.see (by simp only [EO, a3, b3, c3, d3]) (snap_c (OwnL.see (DVat.c_eq true _) ow') (snap_c (.same _) snap_n)) (fun h => impl_LinkTo_T true v hv peer h) (.int _ _) ?_
  cases hu : upF v.links peer
  · by_cases hi : idxI (fun x : DLink => x.peer == peer) v.links ≥ 0
    · simp only [EV, EL, EB, EF, q_bx, if_true, if_false, Bool.false_eq_true, Nat.reduceAdd, Option.bind_some, Bool.not_true, Bool.not_false, Nat.reduceBEq, impl_Vat_link_r, impl_Vat_link_d0_q, decide_eq_true hi, show (v.links.any fun x => x.peer == peer && x.up) = false from hu]
      first | exact ⟨rfl, ⟨_, rfl⟩, .inr ⟨rfl, rfl⟩⟩ | exact ⟨rfl, ⟨_, rfl⟩, .inr trivial⟩ | simp
    · simp only [EV, EL, EB, EF, q_bx, if_true, if_false, Bool.false_eq_true, Nat.reduceAdd, Option.bind_some, Bool.not_true, Bool.not_false, Nat.reduceBEq, impl_Vat_link_r, impl_Vat_link_d0_q, decide_eq_false hi]
      first | exact ⟨rfl, ⟨_, rfl⟩, .inr ⟨rfl, rfl⟩⟩ | exact ⟨rfl, ⟨_, rfl⟩, .inr trivial⟩ | simp
  · obtain ⟨k, hk, e1, e2⟩ := up_idx hu
    have hkm : k < (v.links.map DLink.cd).length := by simpa using hk
    obtain ⟨bL, gL, pre, row, post, fr, i0, _⟩ := oL.openRow (List.nodup_append.1 (List.nodup_append.1 (List.nodup_append.1 nd).2.1).2.1).1 hkm
    simp only [EV, EL, EB, EF, q_bx, if_true, if_false, Bool.false_eq_true, Nat.reduceAdd, Option.bind_some, Bool.not_true, Bool.not_false, Nat.reduceBEq, impl_Vat_link_r, impl_Vat_link_d0_q, e1, decide_eq_true (show (k : Int) ≥ 0 by omega), show (v.links.any fun x => x.peer == peer && x.up) = true from hu, hp.nil, hp.fld, hp.rd, List.length_cons, List.length_nil, Nat.reduceLeDiff, i0]
    exact ⟨rfl, ⟨_, rfl⟩, .inl ⟨k, hk, rfl, i0⟩⟩

end Go.Proofs.YtleddolmolkpfaaGreat

