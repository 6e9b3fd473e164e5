import Derived.Test.YtleddolmolkpfaaR4LP
import Derived.Test.YtleddolmolkpfaaAmMore2
set_option linter.unusedVariables false
set_option linter.unusedSimpArgs false
namespace Go.Proofs.Ytleddolmolkpfaa
open Go.AM
set_option linter.unusedVariables false
set_option linter.unusedSimpArgs false
variable {Γ : Glob}
set_option maxHeartbeats 1000000 in
theorem spec_PutExport_T (β : Bool) (l : DLink) (hl : l.ok 1048576) (en : Int) (h : AH) : T Try.prog Γ Fn.spec_PutExport [.agg (l.c β), .int .i64 en] h (Fresh h [.a (putE l en).1.cd, .c (.i .i64 (putE l en).2)]) := by
  have hle := hl.1
  have L0 := len_vm β 3 false l.exports (DExport.c β)
  refine T.freshA2 rfl ?_
  refine spec_PutExport_e (aw_sound tabOK mixed [] _ _ _ ?_)
  unfold spec_PutExport_c
  simp only [EV, EL, EB, EF, q_bx, if_true, if_false, Bool.false_eq_true, Nat.reduceAdd, Option.bind_some, Bool.not_true, Bool.not_false, Nat.reduceBEq, spec_PutExport_r, spec_PutExport_d0_q, spec_PutExport_d1_q, spec_PutExport_d2_q, EB2, ER, DLink.c]
  refine TCall.ref (by simp only [EO]) (spec_l10Copy_T β l hl _) ?_
  rintro _ H1 fr
  replace fr : Fresh h _ _ _ := fr
  obtain ⟨aw, fw, rfl, ow, nw, bw, ew⟩ := fr.a1
  obtain ⟨wX, w4, w6, fX, f4, f6, rfl, rfl, oX, o4, o6⟩ := link_cells ow
  obtain ⟨nX, n46, dX⟩ := List.nodup_append.1 nw
  obtain ⟨a1, a2, a3, a4⟩ := oX.cell
  obtain ⟨b1, b2, b3, b4⟩ := o4.cell
  obtain ⟨c1, c2, c3, c4⟩ := o6.cell
  obtain ⟨N1, hN1⟩ := ew.out
  simp only [EV, EL, EB, EF, q_bx, if_true, if_false, Bool.false_eq_true, Nat.reduceAdd, Option.bind_some, Bool.not_true, Bool.not_false, Nat.reduceBEq, spec_PutExport_r, spec_PutExport_d0_q, spec_PutExport_d1_q, spec_PutExport_d2_q, EB2, ER, DLink.c, a1, a2, a3, b1, b2, b3, c1, c2, c3]
  refine loopI tabOK mixed [] (fun k : Nat => k ≤ l.exports.length ∧ ∀ (i : Nat) (hi : i < l.exports.length), i < k → (l.exports[i].entity == en) = false) (fun k => l.exports.length - k)
    (fun k => spec_PutExport_s0 (.int .i64 en) (.lp ([] : List (List AV)).length 0) (.lp (([] : List (List AV)).length + 1) 0) (.lp (([] : List (List AV)).length + 2) 0) (.int .i64 k) (([] : List (List AV)) ++ [l.c β, [.int .i64 0, .bool false, .nils, .int .i64 0, .nils, .int .i64 0, .nils], [.int .i64 l.peer, .bool l.up, wX, .int .i64 l.next, w4, .int .i64 l.asked, w6]]) H1) 0 ⟨by omega, fun i hi h => by omega⟩ ⟨by simp [spec_PutExport_s0, LeL, LeV], rfl, rfl⟩ ?_
  rintro k ⟨hk, ht⟩
  simp only [EV, EL, EB, EF, q_bx, if_true, if_false, Bool.false_eq_true, Nat.reduceAdd, Option.bind_some, Bool.not_true, Bool.not_false, Nat.reduceBEq, spec_PutExport_r, spec_PutExport_d0_q, spec_PutExport_d1_q, spec_PutExport_d2_q, spec_PutExport_s0, EB2, ER, DLink.c, L0]
  refine c_split (fun hlt => ?_) (fun hge => ?_)
  · have hlt : k < l.exports.length := by simpa using hlt
    have i0 := idx_vm (β := β) (sz := 3) (ex := false) (ce := DExport.c β) hlt
    cases hp : l.exports[k].entity == en
    · simp only [EV, EL, EB, EF, q_bx, if_true, if_false, Bool.false_eq_true, Nat.reduceAdd, Option.bind_some, Bool.not_true, Bool.not_false, Nat.reduceBEq, spec_PutExport_r, spec_PutExport_d0_q, spec_PutExport_d1_q, spec_PutExport_d2_q, EB2, ER, i0, DExport.c, hp]
      exact ⟨k + 1, ⟨hlt, step_lt (P := fun x : DExport => (x.entity == en) = false) ht hp⟩, by omega, ⟨by rw [wN (by omega)]; simp [spec_PutExport_s0, DLink.c, LeL, LeV], rfl, rfl⟩⟩
    · have pe := putE_at hlt (idxI_at (p := fun x : DExport => x.entity == en) hlt ht hp)
      have hkm : k < (l.exports.map DExport.cd).length := by simpa using hlt
      obtain ⟨bX, gX, a, fa, i1, blX, bmX, rd, oa, na, ma, ba, st⟩ := oX.lens nX hkm (off := 2) (by omega) (by simp [DExport.cd])
      simp only [List.getElem_map, DExport.cd, List.getElem_cons_succ, List.getElem_cons_zero, own_i] at oa
      obtain ⟨rfl, rfl⟩ := oa
      obtain ⟨H2, fp2, s1, o2, n2, mm2, l2, r2⟩ := st H1 (.int .i64 (IntKind.i64.wrap (l.exports[k].count + 1))) (.i .i64 (IntKind.i64.wrap (l.exports[k].count + 1))) [] (.i _ _) (by simp) (by simp) (fun _ _ _ => rfl)
      have mfp : ∀ c ∈ fp2, c ∈ fX := fun c hc => (mm2 c hc).elim id (by simp)
      have fX2 : aFld 2 (.gp bX gX (k * 3)) = some (.gp bX gX (k * 3 + 2)) := rfl
      simp only [EV, EL, EB, EF, q_bx, if_true, if_false, Bool.false_eq_true, Nat.reduceAdd, Option.bind_some, Bool.not_true, Bool.not_false, Nat.reduceBEq, spec_PutExport_r, spec_PutExport_d0_q, spec_PutExport_d1_q, spec_PutExport_d2_q, EB2, ER, i0, DExport.c, hp, i1, fX2, s1]
      simp only [EV, EL, EB, EF, q_bx, if_true, if_false, Bool.false_eq_true, Nat.reduceAdd, Option.bind_some, Bool.not_true, Bool.not_false, Nat.reduceBEq, spec_PutExport_r, spec_PutExport_d0_q, spec_PutExport_d1_q, spec_PutExport_d2_q, EB2, ER, i0, DExport.c, a1, a2, a3, b1, b2, b3, c1, c2, c3]
      have key : (((l.exports.map DExport.cd).set k (((l.exports.map DExport.cd)[k]).set 2 (.i .i64 (IntKind.i64.wrap (l.exports[k].count + 1)))))) = (putE l en).1.exports.map DExport.cd := by
        rw [pe, List.map_set]; simp [DExport.cd]
      rw [key] at o2
      have o4' := o4.frame (h' := H2) fun c hc => r2 c (fun e => dX bX bmX c (by simp [hc]) e.symm)
      have o6' := o6.frame (h' := H2) fun c hc => r2 c (fun e => dX bX bmX c (by simp [hc]) e.symm)
      have own := link_own (l := (putE l en).1) o2 (by rw [pe]; exact o4') (by rw [pe]; exact o6')
      have hx := ew.upd (show H1.length ≤ H2.length by omega) (fun c hc _ => r2 c (fun e => hc (by rw [e]; exact bmX))) (fun c hc => bw c (List.mem_append_left _ hc))
      obtain ⟨N, hN⟩ := hx.out
      refine ⟨keep_at 1 rfl, by simp only [List.all_cons, List.all_nil, EO, a3, b3, c3], _, N, fp2 ++ (f4 ++ f6), by rw [pe, CD.av_i], hN, by rw [pe] at own ⊢; exact own, List.nodup_append.2 ⟨n2, n46, fun x hx y hy => dX x (mfp x hx) y hy⟩, fun c hc => ?_⟩
      rcases List.mem_append.1 hc with g | g
      · exact bw c (List.mem_append_left _ (mfp c g))
      · exact bw c (List.mem_append_right _ g)
  have hge : k = l.exports.length := by simp at hge; omega
  subst hge
  have pe := putE_new (l := l) (e := en) (idxI_none (p := fun x : DExport => x.entity == en) fun i hi => ht i hi hi)
  obtain ⟨v', H', fp', ea, o', nd', hf', hl', hm'⟩ := app_ext (bytes := 24) oX (ys := [.int .i64 (IntKind.i64.wrap (l.next + 1)), .int .i64 en, .int .i64 1]) (row := [.i .i64 (IntKind.i64.wrap (l.next + 1)), .i .i64 en, .i .i64 1]) (f2 := []) (by simpa using nX) (by omega) rfl (.i (.i (.i .nil))) (by simp only [List.length_map, maxMade]; omega)
  obtain ⟨e1, e2, e3, e4⟩ := o'.cell
  simp only [EV, EL, EB, EF, q_bx, if_true, if_false, Bool.false_eq_true, Nat.reduceAdd, Option.bind_some, Bool.not_true, Bool.not_false, Nat.reduceBEq, spec_PutExport_r, spec_PutExport_d0_q, spec_PutExport_d1_q, spec_PutExport_d2_q, EA, EB2, ER, p_build, fl_n, bm_n, om_s, ea, a1, a2, a3, b1, b2, b3, c1, c2, c3, e1, e2, e3]
  have ap : ∀ c ∈ f4 ++ f6, H'[c]? = H1[c]? := fun c hc => hf' c (fun h => dX c h c hc rfl) (by
    rcases List.mem_append.1 hc with g | g
    · exact o4.lt c g
    · exact o6.lt c g)
  have o4' := o4.frame (h' := H') fun c hc => ap c (by simp [hc])
  have o6' := o6.frame (h' := H') fun c hc => ap c (by simp [hc])
  have hx := ew.upd hl' hf' (fun c hc => bw c (List.mem_append_left _ hc))
  obtain ⟨N, hN⟩ := hx.out
  have el := ew.len
  refine ⟨keep_at 1 rfl, by simp only [List.all_cons, List.all_nil, EO, e3, b3, c3], _, N, fp' ++ (f4 ++ f6), by rw [pe, CD.av_i], hN, ?_, List.nodup_append.2 ⟨nd', n46, fun x hx y hy e => ?_⟩, fun c hc => ?_⟩
  · rw [pe]
    exact link_own (l := { l with next := IntKind.i64.wrap (l.next + 1), exports := l.exports ++ [⟨IntKind.i64.wrap (l.next + 1), en, 1⟩] }) (by simpa [DExport.cd] using o') o4' o6'
  · subst e
    rcases hm' x hx with g | g | g
    · exact dX x g x hy rfl
    · simp at g
    · rcases List.mem_append.1 hy with q | q
      · have := o4.lt x q; omega
      · have := o6.lt x q; omega
  · rcases List.mem_append.1 hc with g | g
    · rcases hm' c g with q | q | q
      · exact bw c (List.mem_append_left _ q)
      · simp at q
      · omega
    · exact bw c (List.mem_append_right _ g)

end Go.Proofs.Ytleddolmolkpfaa

