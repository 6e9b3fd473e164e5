import Derived.Test.YtleddolmolkpfaaR4LK
import Derived.Test.YtleddolmolkpfaaR4CP
import Derived.Test.YtleddolmolkpfaaAmRow2
set_option linter.unusedVariables false
set_option linter.unusedSimpArgs false
namespace Go.Proofs.Ytleddolmolkpfaa
open Go.AM
set_option linter.unusedVariables false
set_option linter.unusedSimpArgs false
variable {Γ : Glob}
theorem impl_Link_of_1_T (β : Bool) (x : DExport) (en : Int) (H : AH) {k : Nat} (hk : hget H k = some (0, [.int .i64 en])) : T Try.prog Γ Fn.impl_Link_of_1 [.agg (x.c β), .gp k 0 0] H fun v h' => v = .bool (x.entity == en) ∧ h' = H := by
  refine impl_Link_of_1_e (aw_sound tabOK mixed [] _ _ _ ?_)
  unfold impl_Link_of_1_c
  have hc : ∀ (e : List AV) (l : List (List AV)) (off n : Nat), (St.mk e l H).cells (.gp k 0 off) n = sub [.int .i64 en] off n := fun e l off n => cells_gp hk
  simp only [EV, EL, EB, EF, q_bx, if_true, if_false, Bool.false_eq_true, Nat.reduceAdd, Option.bind_some, Bool.not_true, Bool.not_false, Nat.reduceBEq, impl_Link_of_1_r, DExport.c, hc]
  first | exact ⟨rfl, rfl⟩ | exact rfl
theorem impl_Link_of_T (β : Bool) (l : DLink) (hl : l.exports.length ≤ 1048576) (en : Int) (H : AH) {p : AV} (hp : Ptr H p (l.c β)) :
    T Try.prog Γ Fn.impl_Link_of [p, .int .i64 en] H fun v h' => v = .int .i64 (idxI (fun x : DExport => x.entity == en) l.exports) ∧ h' = H := by
  refine (?_ : T Try.prog Γ Fn.impl_Link_of _ H fun v h' => v = .int .i64 (idxI (fun x : DExport => x.entity == en) l.exports) ∧ ∃ N, h' = H ++ N).drop (by rintro v h' ⟨rfl, N, rfl⟩; exact ⟨N, rfl, .int _ _, rfl, rfl⟩)
  refine impl_Link_of_e (aw_sound tabOK mixed [3] _ _ _ ?_)
  unfold impl_Link_of_c
  have hp' : ∀ N, Ptr (H ++ N) p (l.c β) := fun N => hp.grow N
  simp only [EV, EL, EB, EF, q_bx, if_true, if_false, Bool.false_eq_true, Nat.reduceAdd, Option.bind_some, Bool.not_true, Bool.not_false, Nat.reduceBEq, impl_Link_of_r, box_g _ _ (show List.all [AV.int .i64 en] noLp = true from rfl), push_s, hp.nil, hp.fld, (hp' [some (0, [.int .i64 en])]).rd, DLink.c_len, Nat.reduceLeDiff, DLink.c]
  have hcall := indexFunc_D (P := Try.prog) (Γ := Γ) tabOK mixed (sz := 3) (agg := true) (fun hw => slices_IndexFunc_iimpl_Export_impl_Export_e hw) (β := β) (l := l.exports) (c := DExport.c β) (by omega) (fun x => ⟨⟨rfl, .inl rfl⟩, rfl⟩) (g := Fn.impl_Link_of_1) (first := []) (caps := [.gp H.length 0 0]) rfl (fun x : DExport => x.entity == en) (h := H ++ [some (0, [.int .i64 en])]) (fun x hx => impl_Link_of_1_T β x en _ (hget_last _ _))
  refine TCall.val (by simp only [EO]) hcall ?_
  simp only [EV, EL, EB, EF, q_bx, if_true, if_false, Bool.false_eq_true, Nat.reduceAdd, Option.bind_some, Bool.not_true, Bool.not_false, Nat.reduceBEq, impl_Link_of_r]
  exact ⟨rfl, _, rfl⟩
def putE (l : DLink) (e : Int) : DLink × Int :=
  if 0 ≤ idxI (fun x : DExport => x.entity == e) l.exports then
    (let k := (idxI (fun x : DExport => x.entity == e) l.exports).toNat
     ({ l with exports := l.exports.set k { l.exports.getD k default with count := IntKind.i64.wrap ((l.exports.getD k default).count + 1) } }, (l.exports.getD k default).pos))
  else ({ l with next := IntKind.i64.wrap (l.next + 1), exports := l.exports ++ [⟨IntKind.i64.wrap (l.next + 1), e, 1⟩] }, IntKind.i64.wrap (l.next + 1))
theorem putE_at {l : DLink} {e : Int} {k : Nat} (hk : k < l.exports.length) (h : idxI (fun x : DExport => x.entity == e) l.exports = (k : Int)) :
    putE l e = ({ l with exports := l.exports.set k { l.exports[k] with count := IntKind.i64.wrap (l.exports[k].count + 1) } }, l.exports[k].pos) := by
  unfold putE
  rw [h, if_pos (by omega)]
  simp [List.getD_eq_getElem?_getD, hk]
theorem putE_new {l : DLink} {e : Int} (h : idxI (fun x : DExport => x.entity == e) l.exports = -1) :
    putE l e = ({ l with next := IntKind.i64.wrap (l.next + 1), exports := l.exports ++ [⟨IntKind.i64.wrap (l.next + 1), e, 1⟩] }, IntKind.i64.wrap (l.next + 1)) := by
  unfold putE; rw [h, if_neg (by omega)]
theorem own_rowAt' {H : AH} {w : AV} {sz : Nat} {xs : List (List CD)} {fp : List Nat} (o : Own H w (.sl sz xs) fp) (nd : fp.Nodup) {k : Nat} (hk : k < xs.length) {b g : Nat} (hi : aIdxs sz w (k : Int) = some (.gp b g (k * sz))) :
    ∃ az f, (∀ (e : List AV) (L : List (List AV)), (St.mk e L H).cells (.gp b g (k * sz)) sz = some az) ∧
      (∀ (e : List AV) (L : List (List AV)) (off n : Nat), off + n ≤ sz → (St.mk e L H).cells (.gp b g (k * sz + off)) n = sub az off n) ∧ OwnL H az xs[k] f ∧ f.Nodup ∧ (∀ c ∈ f, c ∈ fp) ∧ az.length = sz := by
  obtain ⟨b', g', az, f, e1, _, _, e2, e3, e4, e5, e6, e7⟩ := o.row nd hk
  have := hi.symm.trans e1
  simp only [Option.some.injEq, AV.gp.injEq] at this
  obtain ⟨rfl, rfl, _⟩ := this
  exact ⟨az, f, e2, e3, e4, e5, e6, e7⟩
theorem link_cells {H : AH} {row : List AV} {l : DLink} {f : List Nat} (o : OwnL H row l.cd f) : ∃ wX w4 w6 fX f4 f6, row = [.int .i64 l.peer, .bool l.up, wX, .int .i64 l.next, w4, .int .i64 l.asked, w6] ∧ f = fX ++ (f4 ++ f6) ∧ Own H wX (.sl 3 (l.exports.map DExport.cd)) fX ∧ Own H w4 (.sl 2 (l.questions.map DQuestion.cd)) f4 ∧ Own H w6 (.sl 2 (l.answers.map DQuestion.cd)) f6 := by
  simp only [DLink.cd, ownL_c, ownL_n, own_i, own_b, own_s] at o
  obtain ⟨_, _, _, _, rfl, rfl, ⟨rfl, rfl⟩, ⟨_, _, _, _, rfl, rfl, ⟨rfl, rfl⟩, ⟨wX, _, fX, _, rfl, rfl, oX, ⟨_, _, _, _, rfl, rfl, ⟨rfl, rfl⟩, ⟨w4, _, f4, _, rfl, rfl, o4, ⟨_, _, _, _, rfl, rfl, ⟨rfl, rfl⟩, ⟨w6, _, f6, _, rfl, rfl, o6, ⟨rfl, rfl⟩⟩⟩⟩⟩⟩⟩⟩ := o
  exact ⟨wX, w4, w6, fX, f4, f6, rfl, by simp, oX, o4, o6⟩
theorem link_own {H : AH} {l : DLink} {wX w4 w6 : AV} {fX f4 f6 : List Nat} (oX : Own H wX (.sl 3 (l.exports.map DExport.cd)) fX) (o4 : Own H w4 (.sl 2 (l.questions.map DQuestion.cd)) f4) (o6 : Own H w6 (.sl 2 (l.answers.map DQuestion.cd)) f6) :
    OwnL H [.int .i64 l.peer, .bool l.up, wX, .int .i64 l.next, w4, .int .i64 l.asked, w6] l.cd (fX ++ (f4 ++ f6)) := by
  have e : f6 = f6 ++ [] := by simp
  rw [e]
  exact .i (.b (.o oX (.i (.o o4 (.i (.o o6 .nil))))))
set_option maxHeartbeats 1000000 in
theorem impl_Link_put_T (l : DLink) (hl : l.exports.length ≤ 1048576) (en : Int) (H : AH) {b g : Nat} {pre row post : List AV} {f : List Nat} (m : Mid H b g pre row post) (o : OwnL H row l.cd f) (nd : f.Nodup) (hb : b ∉ f) :
    T Try.prog Γ Fn.impl_Link_put [.gp b g pre.length, .int .i64 en] H fun v h' => v = .int .i64 (putE l en).2 ∧ H.length ≤ h'.length ∧ ∃ row' f', Mid h' b g pre row' post ∧ OwnL h' row' (putE l en).1.cd f' ∧ f'.Nodup ∧ (∀ c ∈ f', c ∈ f ∨ H.length ≤ c) ∧ (∀ c, c ∉ f → c ≠ b → c < H.length → h'[c]? = H[c]?) := by
  have sn := m.snap (OwnL.see (DLink.c_eq true _) o)
  have bl := m.lt
  obtain ⟨wX, w4, w6, fX, f4, f6, rfl, rfl, oX, o4, o6⟩ := link_cells o
  obtain ⟨nX, n46, dX⟩ := List.nodup_append.1 nd
  have f0' : ∀ o' : Nat, aFld 0 (.gp b g o') = some (.gp b g o') := fun _ => rfl
  have f2' : aFld 2 (.gp b g pre.length) = some (.gp b g (pre.length + 2)) := rfl
  have f3' : aFld 3 (.gp b g pre.length) = some (.gp b g (pre.length + 3)) := rfl
  have m2 : ∀ (e : List AV) (L : List (List AV)), (St.mk e L H).cells (.gp b g (pre.length + 2)) 1 = some [wX] := fun e L => m.cells e L 2 1 (by simp)
  have m3 : ∀ (e : List AV) (L : List (List AV)), (St.mk e L H).cells (.gp b g (pre.length + 3)) 1 = some [.int .i64 l.next] := fun e L => m.cells e L 3 1 (by simp)
  refine impl_Link_put_e (aw_sound tabOK mixed [] _ _ _ ?_)
  unfold impl_Link_put_c
  simp only [EV, EL, EB, EF, q_bx, if_true, if_false, Bool.false_eq_true, Nat.reduceAdd, Option.bind_some, Bool.not_true, Bool.not_false, Nat.reduceBEq, impl_Link_put_r, impl_Link_put_d0_q]
  refine TCall.see (by simp only [EO]) (snap_c sn (snap_c (.same _) snap_n)) (fun h => impl_Link_of_T true l hl en h (Ptr.ip h true _)) (.int _ _) ?_
  obtain ⟨cX1, cX2, cX3, cX4⟩ := oX.cell
  rcases idxI_cases (fun x : DExport => x.entity == en) l.exports with ⟨k, hk, e1, e2, e3⟩ | ⟨e1, e2, e3⟩
  · have pe := putE_at hk e1
    have hkm : k < (l.exports.map DExport.cd).length := by simpa using hk
    obtain ⟨bX, gX, a, fa, i0, blX, bmX, rd, oa, na, ma, ba, st⟩ := oX.lens nX hkm (off := 2) (by omega) (by simp [DExport.cd])
    simp only [List.getElem_map, DExport.cd, List.getElem_cons_succ, List.getElem_cons_zero, own_i] at oa
    obtain ⟨rfl, rfl⟩ := oa
    obtain ⟨H2, fp2, s1, o2, n2, mm2, l2, r2⟩ := st H (.int .i64 (IntKind.i64.wrap (l.exports[k].count + 1))) (.i .i64 (IntKind.i64.wrap (l.exports[k].count + 1))) [] (.i _ _) (by simp) (by simp) (fun _ _ _ => rfl)
    have bne : bX ≠ b := fun e => hb (by rw [← e]; simp [bmX])
    have mH := m.frame (r2 b (Ne.symm bne))
    have m2' : ∀ (e : List AV) (L : List (List AV)), (St.mk e L H2).cells (.gp b g (pre.length + 2)) 1 = some [wX] := fun e L => mH.cells e L 2 1 (by simp)
    have mfp : ∀ c ∈ fp2, c ∈ fX := fun c hc => (mm2 c hc).elim id (by simp)
    have hk2 : k < ((l.exports.map DExport.cd).set k (((l.exports.map DExport.cd)[k]).set 2 (.i .i64 (IntKind.i64.wrap (l.exports[k].count + 1))))).length := by simpa using hk
    obtain ⟨az, fz, _, rz, oz, _, _, lz⟩ := own_rowAt' o2 n2 hk2 i0
    have oo := oz
    simp only [List.getElem_set_self, List.getElem_map, DExport.cd, List.set_cons_succ, List.set_cons_zero, ownL_c, ownL_n, own_i] at oo
    obtain ⟨_, _, _, _, ez, _, ⟨rfl, rfl⟩, _⟩ := oo
    subst ez
    have rp : ∀ (e : List AV) (L : List (List AV)), (St.mk e L H2).cells (.gp bX gX (k * 3)) 1 = some [.int .i64 l.exports[k].pos] := fun e L => by
      have := rz e L 0 1 (by omega); rw [Nat.add_zero] at this; rw [this]; simp [sub]
    have fX2 : aFld 2 (.gp bX gX (k * 3)) = some (.gp bX gX (k * 3 + 2)) := rfl
    have fX0 : aFld 0 (.gp bX gX (k * 3)) = some (.gp bX gX (k * 3)) := rfl
    simp only [EV, EL, EB, EF, q_bx, if_true, if_false, Bool.false_eq_true, Nat.reduceAdd, Option.bind_some, Bool.not_true, Bool.not_false, Nat.reduceBEq, impl_Link_put_r, impl_Link_put_d0_q, e1, decide_eq_true (show (k : Int) ≥ 0 by omega), f2', m2, i0, fX2, fX0, rd, s1, m2', rp]
    have key : (((l.exports.map DExport.cd).set k (((l.exports.map DExport.cd)[k]).set 2 (.i .i64 (IntKind.i64.wrap (l.exports[k].count + 1)))))) = (putE l en).1.exports.map DExport.cd := by
      rw [pe, List.map_set]; simp [DExport.cd]
    rw [key] at o2
    refine ⟨rfl, by rw [pe], by omega, _, fp2 ++ (f4 ++ f6), mH, ?_, List.nodup_append.2 ⟨n2, n46, fun x hx y hy => dX x (mfp x hx) y hy⟩, fun c hc => ?_, fun c hc hcb hcl => r2 c (fun e => hc (by rw [e]; simp [bmX]))⟩
    · have o4' := o4.frame (h' := H2) fun c hc => r2 c (fun e => dX bX bmX c (by simp [hc]) e.symm)
      have o6' := o6.frame (h' := H2) fun c hc => r2 c (fun e => dX bX bmX c (by simp [hc]) e.symm)
      have := link_own (l := (putE l en).1) o2 (by rw [pe]; exact o4') (by rw [pe]; exact o6')
      rw [pe] at this ⊢
      exact this
    · rcases List.mem_append.1 hc with g | g
      · exact .inl (List.mem_append_left _ (mfp c g))
      · exact .inl (List.mem_append_right _ g)
  · have pe := putE_new (l := l) (e := en) e1
    obtain ⟨H1, s1, m1, l1, r1⟩ := m.store (i := 3) (vs := [.int .i64 (IntKind.i64.wrap (l.next + 1))]) (by simp) rfl
    have ov : over [.int .i64 l.peer, .bool l.up, wX, .int .i64 l.next, w4, .int .i64 l.asked, w6] 3 [.int .i64 (IntKind.i64.wrap (l.next + 1))] = [.int .i64 l.peer, .bool l.up, wX, .int .i64 (IntKind.i64.wrap (l.next + 1)), w4, .int .i64 l.asked, w6] := rfl
    rw [ov] at m1
    have oX1 := oX.frame (h' := H1) fun c hc => r1 c (fun e => hb (by rw [← e]; simp [hc]))
    have q2 : ∀ (e : List AV) (L : List (List AV)), (St.mk e L H1).cells (.gp b g (pre.length + 2)) 1 = some [wX] := fun e L => m1.cells e L 2 1 (by simp)
    have q3 : ∀ (e : List AV) (L : List (List AV)), (St.mk e L H1).cells (.gp b g (pre.length + 3)) 1 = some [.int .i64 (IntKind.i64.wrap (l.next + 1))] := fun e L => m1.cells e L 3 1 (by simp)
    obtain ⟨v', H', fp', ea, o', nd', hf', hl', hm'⟩ := app_ext (bytes := 24) oX1 (ys := [.int .i64 (IntKind.i64.wrap (l.next + 1)), .int .i64 en, .int .i64 1]) (row := [.i .i64 (IntKind.i64.wrap (l.next + 1)), .i .i64 en, .i .i64 1]) (f2 := []) (by simpa using nX) (by omega) rfl (.i (.i (.i .nil))) (by simp only [List.length_map, maxMade]; omega)
    obtain ⟨cv1, cv2, cv3, cv4⟩ := o'.cell
    have mH := m1.frame (hf' b (fun h => hb (by simp [h])) (by omega))
    have hbv : b ∉ fp' := fun h => by
      rcases hm' b h with g | g | g
      · exact hb (by simp [g])
      · simp at g
      · omega
    obtain ⟨H3, s3, m3', l3, r3⟩ := mH.store (i := 2) (vs := [v']) (by simp) (by simp only [all_c1, all_n1, cv3, Bool.and_self])
    have ov2 : over [.int .i64 l.peer, .bool l.up, wX, .int .i64 (IntKind.i64.wrap (l.next + 1)), w4, .int .i64 l.asked, w6] 2 [v'] = [.int .i64 l.peer, .bool l.up, v', .int .i64 (IntKind.i64.wrap (l.next + 1)), w4, .int .i64 l.asked, w6] := rfl
    rw [ov2] at m3'
    have q4 : ∀ (e : List AV) (L : List (List AV)), (St.mk e L H3).cells (.gp b g (pre.length + 3)) 1 = some [.int .i64 (IntKind.i64.wrap (l.next + 1))] := fun e L => m3'.cells e L 3 1 (by simp)
    simp only [EV, EL, EB, EF, q_bx, if_true, if_false, Bool.false_eq_true, Nat.reduceAdd, Option.bind_some, Bool.not_true, Bool.not_false, Nat.reduceBEq, impl_Link_put_r, impl_Link_put_d0_q, EA, e1, show decide ((-1 : Int) ≥ 0) = false from rfl, f2', f3', m3, s1, q2, q3, p_build, fl_n, bm_n, om_s]
    simp only [EV, EL, EB, EF, q_bx, if_true, if_false, Bool.false_eq_true, Nat.reduceAdd, Option.bind_some, Bool.not_true, Bool.not_false, Nat.reduceBEq, impl_Link_put_r, impl_Link_put_d0_q, EA, ea, s3, q4, cv1, cv2, cv3]
    have ap : ∀ c ∈ f4 ++ f6, H3[c]? = H[c]? := fun c hc => by
      have h1 : c < H.length := by
        rcases List.mem_append.1 hc with g | g
        · exact o4.lt c g
        · exact o6.lt c g
      have h2 : c ≠ b := fun e => hb (by rw [← e]; exact List.mem_append_right _ hc)
      rw [r3 c h2, hf' c (fun h => dX c h c hc rfl) (by omega), r1 c h2]
    have o4' := o4.frame (h' := H3) fun c hc => ap c (by simp [hc])
    have o6' := o6.frame (h' := H3) fun c hc => ap c (by simp [hc])
    have oX3 := o'.frame (h' := H3) fun c hc => r3 c (fun e => hbv (by rw [← e]; exact hc))
    refine ⟨rfl, by rw [pe], by omega, _, fp' ++ (f4 ++ f6), m3', ?_, List.nodup_append.2 ⟨nd', n46, fun x hx y hy e => ?_⟩, fun c hc => ?_, fun c hc hcb hcl => ?_⟩
    · rw [pe]
      exact link_own (l := { l with next := IntKind.i64.wrap (l.next + 1), exports := l.exports ++ [⟨IntKind.i64.wrap (l.next + 1), en, 1⟩] }) (by simpa [DExport.cd] using oX3) o4' o6'
    · subst e
      rcases hm' x hx with g | g | g
      · exact dX x g x hy rfl
      · simp at g
      · rcases List.mem_append.1 hy with q | q
        · have := o4.lt x q; omega
        · have := o6.lt x q; omega
    · rcases List.mem_append.1 hc with g | g
      · rcases hm' c g with q | q | q
        · exact .inl (List.mem_append_left _ q)
        · simp at q
        · exact .inr (by omega)
      · exact .inl (List.mem_append_right _ g)
    · rw [r3 c hcb, hf' c (fun h => hc (List.mem_append_left _ h)) (by omega), r1 c hcb]

end Go.Proofs.Ytleddolmolkpfaa

