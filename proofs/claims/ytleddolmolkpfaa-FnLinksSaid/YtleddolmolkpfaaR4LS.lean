import Derived.Test.YtleddolmolkpfaaR4LX
set_option linter.unusedVariables false
set_option linter.unusedSimpArgs false
namespace Go.Proofs.Ytleddolmolkpfaa
open Go.AM
set_option linter.unusedVariables false
set_option linter.unusedSimpArgs false
variable {Γ : Glob}
theorem cut_toV {α : Type} (s : St) (β : Bool) (sz : Nat) (l : List α) (c : α → List AV) {k : Nat} (hk : k ≤ l.length) : cutTo (.sl sz) s (.vs β sz false (l.map c)) (.int .i64 k) = .val (.vs β sz false ((l.take k).map c)) s := by
  have e : bndV (.int .i64 (k : Int)) = some k := by simp [bndV, asI]
  simp only [cutTo, e, aSlice]
  simp [AR.ofO, List.map_take, hk]
set_option maxHeartbeats 1000000 in
theorem spec_ReleaseExport_T (β : Bool) (l : DLink) (hl : l.ok 1048576) (pos c : Int) (h : AH) : T Try.prog Γ Fn.spec_ReleaseExport [.agg (l.c β), .int .i64 pos, .int .i64 c] h (Fresh h [.a (relE l pos c).cd]) := by
  have hle := hl.1
  have L0 := len_vm β 3 false l.exports (DExport.c β)
  refine T.freshA ?_
  refine spec_ReleaseExport_e (aw_sound tabOK mixed [] _ _ _ ?_)
  unfold spec_ReleaseExport_c
  simp only [EV, EL, EB, EF, q_bx, if_true, if_false, Bool.false_eq_true, Nat.reduceAdd, Option.bind_some, Bool.not_true, Bool.not_false, Nat.reduceBEq, spec_ReleaseExport_r, spec_ReleaseExport_d0_q, EB2, ER, DLink.c]
  refine TCall.ref (by simp only [EO]) (spec_l10Copy_T β l hl _) ?_
  rintro _ H1 fr
  replace fr : Fresh h _ _ _ := fr
  obtain ⟨aw, fw, rfl, ow, nw, bw, ew⟩ := fr.a1
  have ow0 := ow
  obtain ⟨wX, w4, w6, fX, f4, f6, rfl, rfl, oX, o4, o6⟩ := link_cells ow
  obtain ⟨nX, n46, dX⟩ := List.nodup_append.1 nw
  obtain ⟨a1, a2, a3, a4⟩ := oX.cell
  obtain ⟨b1, b2, b3, b4⟩ := o4.cell
  obtain ⟨c1, c2, c3, c4⟩ := o6.cell
  obtain ⟨N1, hN1⟩ := ew.out
  simp only [EV, EL, EB, EF, q_bx, if_true, if_false, Bool.false_eq_true, Nat.reduceAdd, Option.bind_some, Bool.not_true, Bool.not_false, Nat.reduceBEq, spec_ReleaseExport_r, spec_ReleaseExport_d0_q, EB2, ER, DLink.c, a1, a2, a3, b1, b2, b3, c1, c2, c3]
  by_cases hc : c < 1
  · simp only [EV, EL, EB, EF, q_bx, if_true, if_false, Bool.false_eq_true, Nat.reduceAdd, Option.bind_some, Bool.not_true, Bool.not_false, Nat.reduceBEq, spec_ReleaseExport_r, spec_ReleaseExport_d0_q, EB2, ER, DLink.c, a1, a2, a3, b1, b2, b3, c1, c2, c3, decide_eq_true hc]
    exact ⟨show out1 (.agg _) = true by simp only [EO, a3, b3, c3], _, N1, _, rfl, hN1, by rw [rel_small hc]; exact ow0, nw, bw⟩
  simp only [EV, EL, EB, EF, q_bx, if_true, if_false, Bool.false_eq_true, Nat.reduceAdd, Option.bind_some, Bool.not_true, Bool.not_false, Nat.reduceBEq, spec_ReleaseExport_r, spec_ReleaseExport_d0_q, EB2, ER, DLink.c, a1, a2, a3, b1, b2, b3, c1, c2, c3, decide_eq_false hc]
  refine loopI tabOK mixed [] (fun k : Nat => k ≤ l.exports.length ∧ ∀ (i : Nat) (hi : i < l.exports.length), i < k → (l.exports[i].pos == pos) = false) (fun k => l.exports.length - k)
    (fun k => spec_ReleaseExport_s0 (.int .i64 pos) (.int .i64 c) (.lp ([] : List (List AV)).length 0) (.lp (([] : List (List AV)).length + 1) 0) (.lp (([] : List (List AV)).length + 2) 0) (.int .i64 k) (([] : List (List AV)) ++ [l.c β, [.int .i64 0, .bool false, .nils, .int .i64 0, .nils, .int .i64 0, .nils], [.int .i64 l.peer, .bool l.up, wX, .int .i64 l.next, w4, .int .i64 l.asked, w6]]) H1) 0 ⟨by omega, fun i hi h => by omega⟩ ⟨by simp [spec_ReleaseExport_s0, LeL, LeV], rfl, rfl⟩ ?_
  rintro k ⟨hk, ht⟩
  simp only [EV, EL, EB, EF, q_bx, if_true, if_false, Bool.false_eq_true, Nat.reduceAdd, Option.bind_some, Bool.not_true, Bool.not_false, Nat.reduceBEq, spec_ReleaseExport_r, spec_ReleaseExport_d0_q, spec_ReleaseExport_s0, EB2, ER, DLink.c, L0]
  refine c_split (fun hlt => ?_) (fun hge => ?_)
  rotate_left
  · have hge : k = l.exports.length := by simp at hge; omega
    subst hge
    simp only [EV, EL, EB, EF, q_bx, if_true, if_false, Bool.false_eq_true, Nat.reduceAdd, Option.bind_some, Bool.not_true, Bool.not_false, Nat.reduceBEq, spec_ReleaseExport_r, spec_ReleaseExport_d0_q, EB2, ER, a1, a2, a3, b1, b2, b3, c1, c2, c3]
    exact ⟨show out1 (.agg _) = true by simp only [EO, a3, b3, c3], _, N1, _, rfl, hN1, by rw [rel_none (idxI_none (p := fun x : DExport => x.pos == pos) fun i hi => ht i hi hi)]; exact ow0, nw, bw⟩
  have hlt : k < l.exports.length := by simpa using hlt
  have i0 := idx_vm (β := β) (sz := 3) (ex := false) (ce := DExport.c β) hlt
  by_cases hp : l.exports[k].pos = pos
  rotate_left
  · simp only [EV, EL, EB, EF, q_bx, if_true, if_false, Bool.false_eq_true, Nat.reduceAdd, Option.bind_some, Bool.not_true, Bool.not_false, Nat.reduceBEq, spec_ReleaseExport_r, spec_ReleaseExport_d0_q, EB2, ER, i0, DExport.c, ne_int, decide_eq_false hp]
    exact ⟨k + 1, ⟨hlt, step_lt (P := fun x : DExport => (x.pos == pos) = false) ht (by simpa using hp)⟩, by omega, ⟨by rw [wN (by omega)]; simp [spec_ReleaseExport_s0, DLink.c, LeL, LeV], rfl, rfl⟩⟩
  have re := rel_at hc hlt (idxI_at (p := fun x : DExport => x.pos == pos) hlt ht (by simpa using hp))
  obtain ⟨lf, hlf⟩ : ∃ lf, lf = IntKind.i64.wrap (l.exports[k].count - c) := ⟨_, rfl⟩
  rw [← hlf] at re
  by_cases hlt1 : lf < 1
  rotate_left
  · rw [if_neg hlt1] at re
    have hkm : k < (l.exports.map DExport.cd).length := by simpa using hlt
    obtain ⟨bX, gX, a, fa, i1, blX, bmX, rd, oa, na, ma, ba, st⟩ := oX.lens nX hkm (off := 2) (by omega) (by simp [DExport.cd])
    simp only [List.getElem_map, DExport.cd, List.getElem_cons_succ, List.getElem_cons_zero, own_i] at oa
    obtain ⟨rfl, rfl⟩ := oa
    obtain ⟨H2, fp2, s1, o2, n2, mm2, l2, r2⟩ := st H1 (.int .i64 lf) (.i .i64 lf) [] (.i _ _) (by simp) (by simp) (fun _ _ _ => rfl)
    have mfp : ∀ c ∈ fp2, c ∈ fX := fun c hc => (mm2 c hc).elim id (by simp)
    have fX2 : aFld 2 (.gp bX gX (k * 3)) = some (.gp bX gX (k * 3 + 2)) := rfl
    have key : (((l.exports.map DExport.cd).set k (((l.exports.map DExport.cd)[k]).set 2 (.i .i64 lf)))) = (l.exports.set k { l.exports[k] with count := lf }).map DExport.cd := by
      rw [List.map_set]; simp [DExport.cd]
    rw [key] at o2
    simp only [EV, EL, EB, EF, q_bx, if_true, if_false, Bool.false_eq_true, Nat.reduceAdd, Option.bind_some, Bool.not_true, Bool.not_false, Nat.reduceBEq, spec_ReleaseExport_r, spec_ReleaseExport_d0_q, EB2, ER, i0, DExport.c, ne_int, decide_eq_true hp, ← hlf, decide_eq_false hlt1, i1, fX2, s1, a1, a2, a3, b1, b2, b3, c1, c2, c3]
    have o4' := o4.frame (h' := H2) fun c hc => r2 c (fun e => dX bX bmX c (by simp [hc]) e.symm)
    have o6' := o6.frame (h' := H2) fun c hc => r2 c (fun e => dX bX bmX c (by simp [hc]) e.symm)
    have hx := ew.upd (show H1.length ≤ H2.length by omega) (fun c hc _ => r2 c (fun e => hc (by rw [e]; exact bmX))) (fun c hc => bw c (List.mem_append_left _ hc))
    obtain ⟨N, hN⟩ := hx.out
    refine ⟨show out1 (.agg _) = true by simp only [EO, a3, b3, c3], _, N, fp2 ++ (f4 ++ f6), rfl, hN, ?_, List.nodup_append.2 ⟨n2, n46, fun x hx y hy => dX x (mfp x hx) y hy⟩, fun c hc => ?_⟩
    · rw [re]
      exact link_own (l := { l with exports := l.exports.set k { l.exports[k] with count := lf } }) o2 o4' o6'
    · rcases List.mem_append.1 hc with g | g
      · exact bw c (List.mem_append_left _ (mfp c g))
      · exact bw c (List.mem_append_right _ g)
  rw [if_pos hlt1] at re
  have tc : ∀ (s : St), cutTo (.sl 3) s (.vs β 3 false (l.exports.map (DExport.c β))) (.int .i64 k) = .val (.vs β 3 false ((l.exports.take k).map (DExport.c β))) s := fun s => cut_toV s β 3 l.exports (DExport.c β) (by omega)
  have fc : ∀ (s : St), cutFrom (.sl 3) s (.vs β 3 false (l.exports.map (DExport.c β))) (.int .i64 ((k + 1 : Nat) : Int)) = .val (.vs β 3 false ((l.exports.drop (k + 1)).map (DExport.c β))) s := fun s => cut_from s β 3 l.exports (DExport.c β) (by omega)
  have wk : IntKind.i64.wrap ((k : Int) + 1) = ((k + 1 : Nat) : Int) := wN (by omega)
  obtain ⟨v1, H2, f1, ea1, o1, n1, r1, l1, m1⟩ := app_vs (bytes := 24) (bsl0_own H1 3) (by simp) (by omega) (β := β) (l := l.exports.take k) (c := DExport.c β) (fun x => ⟨rfl, rfl⟩) (fun x => (DExport.c_eq false x).symm) (by simp only [List.length_nil, List.length_take, maxMade]; omega)
  obtain ⟨v2, H3, f2, ea2, o2, n2, r2, l2, m2⟩ := app_vs (bytes := 24) o1 n1 (by omega) (β := β) (l := l.exports.drop (k + 1)) (c := DExport.c β) (fun x => ⟨rfl, rfl⟩) (fun x => (DExport.c_eq false x).symm) (by simp only [List.nil_append, List.length_map, List.length_take, List.length_drop, maxMade]; omega)
  obtain ⟨e1, e2, e3, e4⟩ := o2.cell
  obtain ⟨g1, g2, g3, g4⟩ := o1.cell
  simp only [EV, EL, EB, EF, q_bx, if_true, if_false, Bool.false_eq_true, Nat.reduceAdd, Option.bind_some, Bool.not_true, Bool.not_false, Nat.reduceBEq, spec_ReleaseExport_r, spec_ReleaseExport_d0_q, EA, EB2, ER, i0, DExport.c, ne_int, decide_eq_true hp, ← hlf, decide_eq_true hlt1, wk, tc, fc, p_cutTo, p_cutFrom, ea1, ea2, e1, e2, e3, a1, a2, a3, b1, b2, b3, c1, c2, c3]
  have gl : ∀ c ∈ f1, H1.length ≤ c := fun c hc => by
    rcases m1 c hc with g | g
    · simp at g; omega
    · simp at g; omega
  have hl2 : H1.length + 1 ≤ H2.length := by simpa using l1
  have gl2 : ∀ c ∈ f2, H1.length ≤ c := fun c hc => by
    rcases m2 c hc with g | g
    · exact gl c g
    · omega
  have fr3 : ∀ c, c < H1.length → H3[c]? = H1[c]? := fun c hc => by
    rw [r2 c (fun hm => by have := gl c hm; omega) (by omega), r1 c (by simp; omega) (by simp; omega)]
    exact List.getElem?_append_left hc
  have hx : HExt h H3 := ew.upd (fp := []) (by omega) (fun c _ hcl => fr3 c hcl) (fun c hc => by simp at hc)
  obtain ⟨N, hN⟩ := hx.out
  have el := ew.len
  have o4' := o4.frame (h' := H3) fun c hc => fr3 c (o4.lt c hc)
  have o6' := o6.frame (h' := H3) fun c hc => fr3 c (o6.lt c hc)
  have hll : ([] ++ (l.exports.take k).map DExport.cd) ++ (l.exports.drop (k + 1)).map DExport.cd = (l.exports.eraseIdx k).map DExport.cd := by
    rw [List.nil_append, ← List.map_append, List.eraseIdx_eq_take_drop_succ]
  rw [hll] at o2
  refine ⟨keep_lp' rfl, show out1 (.agg _) = true by simp only [EO, e3, b3, c3], _, N, f2 ++ (f4 ++ f6), rfl, hN, ?_, List.nodup_append.2 ⟨n2, n46, fun x hx y hy e => ?_⟩, fun c hc => ?_⟩
  · rw [re]
    exact link_own (l := { l with exports := l.exports.eraseIdx k }) o2 o4' o6'
  · subst e
    have := gl2 x hx
    rcases List.mem_append.1 hy with g | g
    · have := o4.lt x g; omega
    · have := o6.lt x g; omega
  · rcases List.mem_append.1 hc with g | g
    · have := gl2 c g; omega
    · exact bw c (List.mem_append_right _ g)
theorem spec_NewLink_T (n : Int) (h : AH) : T Try.prog Γ Fn.spec_NewLink [.int .i64 n] h fun v h' => v = .agg [.int .i64 n, .bool true, .nils, .int .i64 0, .nils, .int .i64 0, .nils] ∧ h' = h := by
  refine spec_NewLink_e (aw_sound tabOK mixed [] _ _ _ ?_)
  unfold spec_NewLink_c
  simp only [EV, EL, EB, EF, q_bx, if_true, if_false, Bool.false_eq_true, Nat.reduceAdd, Option.bind_some, Bool.not_true, Bool.not_false, Nat.reduceBEq, spec_NewLink_r, EB2, ER, p_build, fl_n, bm_n, om_s]
  first | exact ⟨rfl, rfl⟩ | exact rfl

end Go.Proofs.Ytleddolmolkpfaa

