import Derived.Test.YtleddolmolkpfaaR4LQ
import Derived.Test.YtleddolmolkpfaaR4DL
set_option linter.unusedVariables false
set_option linter.unusedSimpArgs false
namespace Go.Proofs.Ytleddolmolkpfaa
open Go.AM
set_option linter.unusedVariables false
set_option linter.unusedSimpArgs false
variable {Γ : Glob}
theorem impl_PutQuestion_T (β : Bool) (l : DLink) (hl : l.ok 1048576) (en : Int) (h : AH) : T Try.prog Γ Fn.impl_PutQuestion [.agg (l.c β), .int .i64 en] h (Fresh h [.a (askE l en).1.cd, .c (.i .i64 (askE l en).2)]) := by
  refine T.freshA2 rfl ?_
  refine impl_PutQuestion_e (aw_sound tabOK mixed [6] _ _ _ ?_)
  unfold impl_PutQuestion_c
  have al := fun (s : St) => alloc_g s _ (show List.all [AV.int .i64 0, .bool false, .nils, .int .i64 0, .nils, .int .i64 0, .nils] noLp = true from rfl)
  simp only [EV, EL, EB, EF, q_bx, if_true, if_false, Bool.false_eq_true, Nat.reduceAdd, Option.bind_some, Bool.not_true, Bool.not_false, Nat.reduceBEq, impl_PutQuestion_r, EB2, ER, DLink.c, al, push_s]
  refine TCall.ref (by simp only [EO]) (impl_Link_copied_T β l hl _) ?_
  rintro _ H1 fr
  replace fr : Fresh h _ _ _ := fr
  obtain ⟨aw, fw, rfl, ow, nw, bw, ew⟩ := fr.a1
  obtain ⟨wX, w4, w6, fX, f4, f6, rfl, rfl, oX, o4, o6⟩ := link_cells ow
  obtain ⟨a1, a2, a3, a4⟩ := oX.cell
  obtain ⟨b1, b2, b3, b4⟩ := o4.cell
  obtain ⟨c1, c2, c3, c4⟩ := o6.cell
  have st := fun (e : List AV) (L : List (List AV)) => store_last (e := e) (l := L) (h := H1) (cs := [.int .i64 0, .bool false, .nils, .int .i64 0, .nils, .int .i64 0, .nils]) (vs := [.int .i64 l.peer, .bool l.up, wX, .int .i64 l.next, w4, .int .i64 l.asked, w6]) (off := 0) (by simp) (by simp only [all_c1, all_n1, nn_i', nn_b', a3, b3, c3, Bool.and_self])
  simp only [EV, EL, EB, EF, q_bx, if_true, if_false, Bool.false_eq_true, Nat.reduceAdd, Option.bind_some, Bool.not_true, Bool.not_false, Nat.reduceBEq, impl_PutQuestion_r, EB2, ER, DLink.c, a1, a2, a3, b1, b2, b3, c1, c2, c3, al, push_s, st]
  have hov : over [.int .i64 0, .bool false, .nils, .int .i64 0, .nils, .int .i64 0, .nils] 0 [AV.int .i64 l.peer, .bool l.up, wX, .int .i64 l.next, w4, .int .i64 l.asked, w6] = [AV.int .i64 l.peer, .bool l.up, wX, .int .i64 l.next, w4, .int .i64 l.asked, w6] := rfl
  rw [hov]
  have lw := fun c hc => ow.lt c hc
  have mi : Mid (H1 ++ [some (0, [AV.int .i64 l.peer, .bool l.up, wX, .int .i64 l.next, w4, .int .i64 l.asked, w6])]) H1.length 0 [] [AV.int .i64 l.peer, .bool l.up, wX, .int .i64 l.next, w4, .int .i64 l.asked, w6] [] := Mid.nil (hget_last _ _)
  refine TCall.ref (by simp only [EO]) (impl_Link_ask_T l hl.2.1 en _ mi ow.grow nw (fun hm => by have := lw _ hm; omega)) ?_
  rintro _ H2 ⟨rfl, l2, row', f', m2, o2, n2, s2, r2⟩
  replace l2 : H1.length + 1 ≤ H2.length := by simpa using l2
  obtain ⟨wX', w4', w6', fX', f4', f6', rfl, rfl, oX', o4', o6'⟩ := link_cells o2
  obtain ⟨a1, a2, a3, a4⟩ := oX'.cell
  obtain ⟨b1, b2, b3, b4⟩ := o4'.cell
  obtain ⟨c1, c2, c3, c4⟩ := o6'.cell
  have ld : ∀ (e : List AV) (L : List (List AV)) (n : Nat), n ≤ 7 → (St.mk e L H2).cells (.gp H1.length 0 0) n = sub [AV.int .i64 (askE l en).1.peer, .bool (askE l en).1.up, wX', .int .i64 (askE l en).1.next, w4', .int .i64 (askE l en).1.asked, w6'] 0 n := fun e L n hn => m2.cells0 e L n hn
  simp only [EV, EL, EB, EF, q_bx, if_true, if_false, Bool.false_eq_true, Nat.reduceAdd, Option.bind_some, Bool.not_true, Bool.not_false, Nat.reduceBEq, impl_PutQuestion_r, EB2, ER, a1, a2, a3, b1, b2, b3, c1, c2, c3, ld, Nat.le_refl]
  have hx : HExt h H2 := ew.upd (fp := fX ++ (f4 ++ f6)) (by omega) (fun c hc hcl => by
    rw [r2 c hc (by omega) (by simp; omega)]; exact List.getElem?_append_left hcl) bw
  obtain ⟨N, hN⟩ := hx.out
  exact ⟨by simp only [List.all_cons, List.all_nil, EO, a3, b3, c3], _, N, _, by rw [CD.av_i], hN, o2, n2, fun c hc => by
    rcases s2 c hc with g | g
    · exact bw c g
    · have := ew.len; simp at g; omega⟩

set_option maxHeartbeats 1000000 in
theorem spec_PutQuestion_T (β : Bool) (l : DLink) (hl : l.ok 1048576) (en : Int) (h : AH) : T Try.prog Γ Fn.spec_PutQuestion [.agg (l.c β), .int .i64 en] h (Fresh h [.a (askE l en).1.cd, .c (.i .i64 (askE l en).2)]) := by
  refine T.freshA2 rfl ?_
  refine spec_PutQuestion_e (aw_sound tabOK mixed [] _ _ _ ?_)
  unfold spec_PutQuestion_c
  simp only [EV, EL, EB, EF, q_bx, if_true, if_false, Bool.false_eq_true, Nat.reduceAdd, Option.bind_some, Bool.not_true, Bool.not_false, Nat.reduceBEq, spec_PutQuestion_r, spec_PutQuestion_d0_q, EB2, ER, DLink.c]
  refine TCall.ref (by simp only [EO]) (spec_l10Copy_T β l hl _) ?_
  rintro _ H1 fr
  replace fr : Fresh h _ _ _ := fr
  obtain ⟨aw, fw, rfl, ow, nw, bw, ew⟩ := fr.a1
  obtain ⟨wX, w4, w6, fX, f4, f6, rfl, rfl, oX, o4, o6⟩ := link_cells ow
  obtain ⟨nX, n46, dX⟩ := List.nodup_append.1 nw
  obtain ⟨n4, n6, d46⟩ := List.nodup_append.1 n46
  obtain ⟨a1, a2, a3, a4⟩ := oX.cell
  obtain ⟨b1, b2, b3, b4⟩ := o4.cell
  obtain ⟨c1, c2, c3, c4⟩ := o6.cell
  have hl2 := hl.2.1
  obtain ⟨v', H', fp', ea, o', nd', hf', hl', hm'⟩ := app_ext (bytes := 16) o4 (ys := [.int .i64 (IntKind.i64.wrap (l.asked + 1)), .int .i64 en]) (row := [.i .i64 (IntKind.i64.wrap (l.asked + 1)), .i .i64 en]) (f2 := []) (by simpa using n4) (by omega) rfl (.i (.i .nil)) (by simp only [List.length_map, maxMade]; omega)
  obtain ⟨e1, e2, e3, e4⟩ := o'.cell
  simp only [EV, EL, EB, EF, q_bx, if_true, if_false, Bool.false_eq_true, Nat.reduceAdd, Option.bind_some, Bool.not_true, Bool.not_false, Nat.reduceBEq, spec_PutQuestion_r, spec_PutQuestion_d0_q, EA, EB2, ER, DLink.c, p_build, fl_n, bm_n, om_s, a1, a2, a3, b1, b2, b3, c1, c2, c3, ea, e1, e2, e3]
  have ap : ∀ c ∈ fX ++ f6, H'[c]? = H1[c]? := fun c hc => hf' c (fun h4 => by
    rcases List.mem_append.1 hc with g | g
    · exact dX c g c (by simp [h4]) rfl
    · exact d46 c h4 c g rfl) (by
    rcases List.mem_append.1 hc with g | g
    · exact oX.lt c g
    · exact o6.lt c g)
  have oX' := oX.frame (h' := H') fun c hc => ap c (by simp [hc])
  have o6' := o6.frame (h' := H') fun c hc => ap c (by simp [hc])
  have hx := ew.upd hl' hf' (fun c hc => bw c (by simp [hc]))
  obtain ⟨N, hN⟩ := hx.out
  have el := ew.len
  refine ⟨keep_at 1 rfl, by simp only [List.all_cons, List.all_nil, EO, a3, e3, c3], _, N, fX ++ (fp' ++ f6), by rw [CD.av_i]; rfl, hN, ?_, List.nodup_append.2 ⟨nX, List.nodup_append.2 ⟨nd', n6, fun x hx y hy e => ?_⟩, fun x hx y hy e => ?_⟩, fun c hc => ?_⟩
  · exact link_own (l := (askE l en).1) oX' (by simpa [askE, DQuestion.cd] using o') o6'
  · subst e
    rcases hm' x hx with g | g | g
    · exact d46 x g x hy rfl
    · simp at g
    · have := o6.lt x hy; omega
  · subst e
    rcases List.mem_append.1 hy with q | q
    · rcases hm' x q with g | g | g
      · exact dX x hx x (by simp [g]) rfl
      · simp at g
      · have := oX.lt x hx; omega
    · exact dX x hx x (by simp [q]) rfl
  · simp only [List.mem_append] at hc
    rcases hc with q | q | q
    · exact bw c (by simp [q])
    · rcases hm' c q with g | g | g
      · exact bw c (by simp [g])
      · simp at g
      · omega
    · exact bw c (by simp [q])
def relE (l : DLink) (pos c : Int) : DLink :=
  if c < 1 then l else if idxI (fun x : DExport => x.pos == pos) l.exports < 0 then l else
    (let k := (idxI (fun x : DExport => x.pos == pos) l.exports).toNat
     if IntKind.i64.wrap ((l.exports.getD k default).count - c) < 1 then { l with exports := l.exports.eraseIdx k }
     else { l with exports := l.exports.set k { l.exports.getD k default with count := IntKind.i64.wrap ((l.exports.getD k default).count - c) } })
theorem rel_small {l : DLink} {pos c : Int} (h : c < 1) : relE l pos c = l := by unfold relE; rw [if_pos h]
theorem rel_none {l : DLink} {pos c : Int} (h : idxI (fun x : DExport => x.pos == pos) l.exports = -1) : relE l pos c = l := by unfold relE; rw [h]; split <;> rfl
theorem rel_at {l : DLink} {pos c : Int} (hc : ¬ c < 1) {k : Nat} (hk : k < l.exports.length) (h : idxI (fun x : DExport => x.pos == pos) l.exports = (k : Int)) :
    relE l pos c = if IntKind.i64.wrap (l.exports[k].count - c) < 1 then { l with exports := l.exports.eraseIdx k } else { l with exports := l.exports.set k { l.exports[k] with count := IntKind.i64.wrap (l.exports[k].count - c) } } := by
  unfold relE
  rw [if_neg hc, h, if_neg (by omega)]
  simp [List.getD_eq_getElem?_getD, hk]
set_option maxHeartbeats 1000000 in
theorem impl_Link_release_T (l : DLink) (hl : l.exports.length ≤ 1048576) (pos c : Int) (H : AH) {b g : Nat} {pre row post : List AV} {f : List Nat} (m : Mid H b g pre row post) (o : OwnL H row l.cd f) (nd : f.Nodup) (hb : b ∉ f) :
    T Try.prog Γ Fn.impl_Link_release [.gp b g pre.length, .int .i64 pos, .int .i64 c] H fun v h' => v = .tup [] ∧ H.length ≤ h'.length ∧ ∃ row' f', Mid h' b g pre row' post ∧ OwnL h' row' (relE l pos c).cd f' ∧ f'.Nodup ∧ (∀ c ∈ f', c ∈ f ∨ H.length ≤ c) ∧ (∀ c, c ∉ f → c ≠ b → c < H.length → h'[c]? = H[c]?) := by
  have sn := m.snap (OwnL.see (DLink.c_eq true _) o)
  have bl := m.lt
  have own0 := o
  obtain ⟨wX, w4, w6, fX, f4, f6, rfl, rfl, oX, o4, o6⟩ := link_cells o
  obtain ⟨nX, n46, dX⟩ := List.nodup_append.1 nd
  have f2' : aFld 2 (.gp b g pre.length) = some (.gp b g (pre.length + 2)) := rfl
  have m2 : ∀ (e : List AV) (L : List (List AV)), (St.mk e L H).cells (.gp b g (pre.length + 2)) 1 = some [wX] := fun e L => m.cells e L 2 1 (by simp)
  refine impl_Link_release_e (aw_sound tabOK mixed [] _ _ _ ?_)
  unfold impl_Link_release_c
  simp only [EV, EL, EB, EF, q_bx, if_true, if_false, Bool.false_eq_true, Nat.reduceAdd, Option.bind_some, Bool.not_true, Bool.not_false, Nat.reduceBEq, impl_Link_release_r]
  refine TCall.see (by simp only [EO]) (snap_c sn (snap_c (.same _) snap_n)) (fun h => impl_Link_at_T true l hl pos h (Ptr.ip h true _)) (.int _ _) ?_
  obtain ⟨cX1, cX2, cX3, cX4⟩ := oX.cell
  have same : relE l pos c = l → (H.length ≤ H.length ∧ ∃ row' f', Mid H b g pre row' post ∧ OwnL H row' (relE l pos c).cd f' ∧ f'.Nodup ∧ (∀ c ∈ f', c ∈ fX ++ (f4 ++ f6) ∨ H.length ≤ c) ∧ (∀ c, c ∉ fX ++ (f4 ++ f6) → c ≠ b → c < H.length → H[c]? = H[c]?)) := fun e => ⟨Nat.le_refl _, _, _, m, by rw [e]; exact own0, nd, fun c hc => .inl hc, fun _ _ _ _ => rfl⟩
  rcases idxI_cases (fun x : DExport => x.pos == pos) l.exports with ⟨k, hk, e1, e2, e3⟩ | ⟨e1, e2, e3⟩
  rotate_left
  · simp only [EV, EL, EB, EF, q_bx, if_true, if_false, Bool.false_eq_true, Nat.reduceAdd, Option.bind_some, Bool.not_true, Bool.not_false, Nat.reduceBEq, impl_Link_release_r, ER, e1, show decide ((-1 : Int) < 0) = true from rfl]
    first | exact ⟨rfl, rfl, same (rel_none e1)⟩ | exact ⟨rfl, same (rel_none e1)⟩
  by_cases hc : c < 1
  · simp only [EV, EL, EB, EF, q_bx, if_true, if_false, Bool.false_eq_true, Nat.reduceAdd, Option.bind_some, Bool.not_true, Bool.not_false, Nat.reduceBEq, impl_Link_release_r, ER, e1, decide_eq_false (show ¬ (k : Int) < 0 by omega), decide_eq_true hc]
    first | exact ⟨rfl, rfl, same (rel_small hc)⟩ | exact ⟨rfl, same (rel_small hc)⟩
  have re := rel_at hc hk e1
  obtain ⟨lf, hlf⟩ : ∃ lf, lf = IntKind.i64.wrap (l.exports[k].count - c) := ⟨_, rfl⟩
  rw [← hlf] at re
  have hkm : k < (l.exports.map DExport.cd).length := by simpa using hk
  obtain ⟨bX, gX, a, fa, i0, blX, bmX, rd, oa, na, ma, ba, st⟩ := oX.lens nX hkm (off := 2) (by omega) (by simp [DExport.cd])
  simp only [List.getElem_map, DExport.cd, List.getElem_cons_succ, List.getElem_cons_zero, own_i] at oa
  obtain ⟨rfl, rfl⟩ := oa
  obtain ⟨H2, fp2, s1, o2, n2, mm2, l2, r2⟩ := st H (.int .i64 lf) (.i .i64 lf) [] (.i _ _) (by simp) (by simp) (fun _ _ _ => rfl)
  have bne : bX ≠ b := fun e => hb (by rw [← e]; simp [bmX])
  have mH := m.frame (r2 b (Ne.symm bne))
  have m2' : ∀ (e : List AV) (L : List (List AV)), (St.mk e L H2).cells (.gp b g (pre.length + 2)) 1 = some [wX] := fun e L => mH.cells e L 2 1 (by simp)
  have mfp : ∀ c ∈ fp2, c ∈ fX := fun c hc => (mm2 c hc).elim id (by simp)
  have hk2 : k < ((l.exports.map DExport.cd).set k (((l.exports.map DExport.cd)[k]).set 2 (.i .i64 lf))).length := by simpa using hk
  obtain ⟨az, fz, _, rz, oz, _, _, lz⟩ := own_rowAt' o2 n2 hk2 i0
  have oo := oz
  simp only [List.getElem_set_self, List.getElem_map, DExport.cd, List.set_cons_succ, List.set_cons_zero, ownL_c, ownL_n, own_i] at oo
  obtain ⟨_, _, _, _, ez, _, ⟨rfl, rfl⟩, ⟨_, _, _, _, rfl, _, ⟨rfl, rfl⟩, ⟨_, _, _, _, rfl, _, ⟨rfl, rfl⟩, _⟩⟩⟩ := oo
  subst ez
  have rp : ∀ (e : List AV) (L : List (List AV)), (St.mk e L H2).cells (.gp bX gX (k * 3 + 2)) 1 = some [.int .i64 lf] := fun e L => by
    rw [rz e L 2 1 (by omega)]; simp at lz; simp [sub]
  have fX2 : aFld 2 (.gp bX gX (k * 3)) = some (.gp bX gX (k * 3 + 2)) := rfl
  have key : (((l.exports.map DExport.cd).set k (((l.exports.map DExport.cd)[k]).set 2 (.i .i64 lf)))) = (l.exports.set k { l.exports[k] with count := lf }).map DExport.cd := by
    rw [List.map_set]; simp [DExport.cd]
  rw [key] at o2
  have o4' := o4.frame (h' := H2) fun c hc => r2 c (fun e => dX bX bmX c (by simp [hc]) e.symm)
  have o6' := o6.frame (h' := H2) fun c hc => r2 c (fun e => dX bX bmX c (by simp [hc]) e.symm)
  have wk : IntKind.i64.wrap ((k : Int) + 1) = ((k + 1 : Nat) : Int) := wN (by omega)
  have fl : ∀ c, c ∉ fX ++ (f4 ++ f6) → c ≠ b → c < H.length → H2[c]? = H[c]? := fun c hc _ _ => r2 c (fun e => hc (by rw [e]; simp [bmX]))
  by_cases hlt : lf < 1
  rotate_left
  · rw [if_neg hlt] at re
    simp only [EV, EL, EB, EF, q_bx, if_true, if_false, Bool.false_eq_true, Nat.reduceAdd, Option.bind_some, Bool.not_true, Bool.not_false, Nat.reduceBEq, impl_Link_release_r, ER, e1, decide_eq_false (show ¬ (k : Int) < 0 by omega), decide_eq_false hc, f2', m2, i0, fX2, rd, ← hlf, s1, m2', rp, decide_eq_false hlt]
    have fin : H.length ≤ H2.length ∧ ∃ row' f', Mid H2 b g pre row' post ∧ OwnL H2 row' (relE l pos c).cd f' ∧ f'.Nodup ∧ (∀ c ∈ f', c ∈ fX ++ (f4 ++ f6) ∨ H.length ≤ c) ∧ (∀ c, c ∉ fX ++ (f4 ++ f6) → c ≠ b → c < H.length → H2[c]? = H[c]?) := by
      refine ⟨by omega, _, fp2 ++ (f4 ++ f6), mH, ?_, List.nodup_append.2 ⟨n2, n46, fun x hx y hy => dX x (mfp x hx) y hy⟩, fun c hc => ?_, fl⟩
      · rw [re]
        exact link_own (l := { l with exports := l.exports.set k { l.exports[k] with count := lf } }) o2 o4' o6'
      · rcases List.mem_append.1 hc with g | g
        · exact .inl (List.mem_append_left _ (mfp c g))
        · exact .inl (List.mem_append_right _ g)
    first | exact ⟨rfl, rfl, fin⟩ | exact ⟨rfl, fin⟩
  rw [if_pos hlt] at re
  simp only [EV, EL, EB, EF, q_bx, if_true, if_false, Bool.false_eq_true, Nat.reduceAdd, Option.bind_some, Bool.not_true, Bool.not_false, Nat.reduceBEq, impl_Link_release_r, ER, e1, decide_eq_false (show ¬ (k : Int) < 0 by omega), decide_eq_false hc, f2', m2, i0, fX2, rd, ← hlf, s1, m2', rp, decide_eq_true hlt, wk]
  have hks : k < (l.exports.set k { l.exports[k] with count := lf }).length := by simpa using hk
  refine TCall.ref (by simp only [EO, cX4, cX3]) (deleteExport (l.exports.set k { l.exports[k] with count := lf }) (by simp; omega) hks _ o2 n2) ?_
  rintro v' H3 ⟨l3, r3, o3⟩
  replace l3 : H3.length = H2.length := l3
  replace r3 : ∀ c, c ∉ fp2 → H3[c]? = H2[c]? := r3
  have he : (l.exports.set k { l.exports[k] with count := lf }).eraseIdx k = l.exports.eraseIdx k := by
    rw [List.eraseIdx_eq_take_drop_succ, List.eraseIdx_eq_take_drop_succ, List.take_set_of_le (Nat.le_refl _), List.drop_set_of_lt (by omega)]
  rw [he] at o3
  obtain ⟨v1, v2, v3, v4⟩ := o3.cell
  have hbf : b ∉ fp2 := fun hm => hb (List.mem_append_left _ (mfp b hm))
  have mH3 := mH.frame (r3 b hbf)
  obtain ⟨H4, s4, m4, l4, r4⟩ := mH3.store (i := 2) (vs := [v']) (by simp) (by simp only [all_c1, all_n1, v3, Bool.and_self])
  have ov : over [.int .i64 l.peer, .bool l.up, wX, .int .i64 l.next, w4, .int .i64 l.asked, w6] 2 [v'] = [.int .i64 l.peer, .bool l.up, v', .int .i64 l.next, w4, .int .i64 l.asked, w6] := rfl
  rw [ov] at m4
  simp only [EV, EL, EB, EF, q_bx, if_true, if_false, Bool.false_eq_true, Nat.reduceAdd, Option.bind_some, Bool.not_true, Bool.not_false, Nat.reduceBEq, impl_Link_release_r, ER, v1, v2, v3, f2', s4]
  have fin : H.length ≤ H4.length ∧ ∃ row' f', Mid H4 b g pre row' post ∧ OwnL H4 row' (relE l pos c).cd f' ∧ f'.Nodup ∧ (∀ c ∈ f', c ∈ fX ++ (f4 ++ f6) ∨ H.length ≤ c) ∧ (∀ c, c ∉ fX ++ (f4 ++ f6) → c ≠ b → c < H.length → H4[c]? = H[c]?) := by
    have ap : ∀ c ∈ f4 ++ f6, H4[c]? = H2[c]? := fun c hc => by
      rw [r4 c (fun e => hb (by rw [← e]; exact List.mem_append_right _ hc)), r3 c (fun hm => dX c (mfp c hm) c hc rfl)]
    refine ⟨by omega, _, fp2 ++ (f4 ++ f6), m4, ?_, List.nodup_append.2 ⟨n2, n46, fun x hx y hy => dX x (mfp x hx) y hy⟩, fun c hc => ?_, fun c hc hcb hcl => ?_⟩
    · rw [re]
      exact link_own (l := { l with exports := l.exports.eraseIdx k }) (o3.frame fun c hc => r4 c (fun e => hbf (e ▸ hc))) (o4'.frame fun c hc => ap c (by simp [hc])) (o6'.frame fun c hc => ap c (by simp [hc]))
    · rcases List.mem_append.1 hc with g | g
      · exact .inl (List.mem_append_left _ (mfp c g))
      · exact .inl (List.mem_append_right _ g)
    · rw [r4 c hcb, r3 c (fun hm => hc (List.mem_append_left _ (mfp c hm))), fl c hc hcb hcl]
  first | exact ⟨rfl, rfl, fin⟩ | exact ⟨rfl, fin⟩

end Go.Proofs.Ytleddolmolkpfaa

