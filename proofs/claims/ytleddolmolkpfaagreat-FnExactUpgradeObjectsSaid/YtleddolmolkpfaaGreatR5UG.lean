import Derived.Test.YtleddolmolkpfaaGreatR5UP
import Derived.Test.YtleddolmolkpfaaGreatAmLoc
set_option linter.unusedVariables false
set_option linter.unusedSimpArgs false
namespace Go.Proofs.YtleddolmolkpfaaGreat
open Go.AM
set_option linter.unusedVariables false
set_option linter.unusedSimpArgs false
variable {Γ : Glob}
theorem own_rowAt {H : AH} {w : AV} {sz : Nat} {xs : List (List CD)} {fp : List Nat} (o : Own H w (.sl sz xs) fp) (nd : fp.Nodup) {k : Nat} (hk : k < xs.length) {b g : Nat} (hi : aIdxs sz w (k : Int) = some (.gp b g (k * sz))) :
    ∃ az f, (∀ (e : List AV) (L : List (List AV)), (St.mk e L H).cells (.gp b g (k * sz)) sz = some az) ∧
      (∀ (e : List AV) (L : List (List AV)) (off n : Nat), off + n ≤ sz → (St.mk e L H).cells (.gp b g (k * sz + off)) n = sub az off n) ∧ OwnL H az xs[k] f ∧ f.Nodup ∧ (∀ c ∈ f, c ∈ fp) ∧ az.length = sz := by
  obtain ⟨b', g', az, f, e1, _, _, e2, e3, e4, e5, e6, e7⟩ := o.row nd hk
  have := hi.symm.trans e1
  simp only [Option.some.injEq, AV.gp.injEq] at this
  obtain ⟨rfl, rfl, _⟩ := this
  exact ⟨az, f, e2, e3, e4, e5, e6, e7⟩
theorem ent_store {H : AH} {w : AV} {es : List DEntity} {fp : List Nat} (o : Own H w (.sl 12 (es.map DEntity.cd)) fp) (nd : fp.Nodup) {k : Nat} (hk : k < es.length) {b g : Nat} (hi : aIdxs 12 w (k : Int) = some (.gp b g (k * 12)))
    (to_ : Int) {v : AV} {sl : List DValue} {H1 : AH} {f1 : List Nat} (ov : Own H1 v (.sl 2 (sl.map DValue.cd)) f1) (nv : f1.Nodup) (bv : ∀ c ∈ f1, H.length ≤ c) (ex : HExt H H1) :
    ∃ H2 H3 fp', (∀ (e : List AV) (L : List (List AV)), (St.mk e L H1).store (.gp b g (k * 12 + 1)) [.int .i64 to_] = some ⟨e, L, H2⟩) ∧ (∀ (e : List AV) (L : List (List AV)), (St.mk e L H2).store (.gp b g (k * 12 + 2)) [v] = some ⟨e, L, H3⟩) ∧
      Own H3 w (.sl 12 ((es.set k { es[k] with script := to_, slots := sl }).map DEntity.cd)) fp' ∧ fp'.Nodup ∧ (∀ c ∈ fp', c ∈ fp ∨ H.length ≤ c) ∧ H3.length = H1.length ∧ (∀ c, c ∉ fp → c < H.length → H3[c]? = H[c]?) := by
  have hk' : k < (es.map DEntity.cd).length := by simpa using hk
  have hlt := fun c hc => o.lt c hc
  have o1 := o.ext ex
  obtain ⟨b1, g1, a1, f1', e1, _, bm, _, _, _, _, _, st⟩ := o1.lens nd hk' (off := 1) (by omega) (by simp [DEntity.cd])
  have := hi.symm.trans e1
  simp only [Option.some.injEq, AV.gp.injEq] at this
  obtain ⟨rfl, rfl, _⟩ := this
  obtain ⟨H2, fp2, s1, o2, n2, m2, l2, r2⟩ := st H1 (.int .i64 to_) (.i .i64 to_) [] (.i _ _) (by simp) (by simp) (fun _ _ _ => rfl)
  have hk2 : k < ((es.map DEntity.cd).set k (((es.map DEntity.cd)[k]).set 1 (.i .i64 to_))).length := by simpa using hk
  obtain ⟨b3, g3, a3, f3, e3, _, _, _, _, _, _, _, st2⟩ := o2.lens n2 hk2 (off := 2) (by omega) (by simp [DEntity.cd])
  have := hi.symm.trans e3
  simp only [Option.some.injEq, AV.gp.injEq] at this
  obtain ⟨rfl, rfl, _⟩ := this
  have m2' : ∀ c ∈ fp2, c ∈ fp := fun c hc => (m2 c hc).elim id (by simp)
  have ov2 : Own H2 v (.sl 2 (sl.map DValue.cd)) f1 := ov.frame fun c hc => r2 c (fun e => by have := hlt b bm; have := bv c hc; omega)
  obtain ⟨H3, fp3, s3, o3, n3, m3, l3, r3⟩ := st2 H2 v _ f1 ov2 nv (fun c hc => .inr fun h2 => by have := hlt c (m2' c h2); have := bv c hc; omega) (fun _ _ _ => rfl)
  refine ⟨H2, H3, fp3, s1, s3, ?_, n3, fun c hc => ?_, by omega, fun c hc hcl => ?_⟩
  · rw [List.map_set]
    simp only [List.getElem_set_self, List.set_set] at o3
    simpa [DEntity.cd] using o3
  · rcases m3 c hc with g | g
    · exact .inl (m2' c g)
    · exact .inr (bv c g)
  · have hcb : c ≠ b := fun e => hc (e ▸ bm)
    rw [r3 c hcb, r2 c hcb, ex.fr c hcl]
def upG (es : List DEntity) (frm to_ n : Int) : List DEntity × Int :=
  if (inR to_ 0 5 && inR n 0 3) = true then (upCur es frm to_ n.toNat es.length, upCnt es frm es.length) else (es, 0)
theorem impl_Vat_upgrade_T (es : List DEntity) (he : es.length ≤ 1048576) (hes : ∀ e ∈ es, e.ok 1048576) (frm to_ n : Int) (H : AH) {b : Nat} {x0 wE x2 x3 x4 : AV} {fE : List Nat} (hb : hget H b = some (0, [x0, wE, x2, x3, x4])) (o : Own H wE (.sl 12 (es.map DEntity.cd)) fE) (nd : fE.Nodup) (nb : b ∉ fE) :
    T Tryz.prog Γ Fn.impl_Vat_upgrade [.gp b 0 0, .int .i64 frm, .int .i64 to_, .int .i64 n] H fun r h' => r = .int .i64 (upG es frm to_ n).2 ∧ H.length ≤ h'.length ∧ ∃ fE', Own h' wE (.sl 12 ((upG es frm to_ n).1.map DEntity.cd)) fE' ∧ fE'.Nodup ∧ (∀ c ∈ fE', c ∈ fE ∨ H.length ≤ c) ∧ (∀ c, c ∉ fE → c < H.length → h'[c]? = H[c]?) := by
  have hp : ∀ {H' : AH}, hget H' b = some (0, [x0, wE, x2, x3, x4]) → Ptr H' (.gp b 0 0) [x0, wE, x2, x3, x4] := fun h => Ptr.gp0 h
  have ln := (len_own o).2
  rw [List.length_map] at ln
  have hp0 := hp hb
  refine impl_Vat_upgrade_e (aw_sound tabOK mixed [] _ _ _ ?_)
  unfold impl_Vat_upgrade_c
  simp only [EV, EL, EB, EF, q_bx, if_true, if_false, Bool.false_eq_true, Nat.reduceAdd, Option.bind_some, Bool.not_true, Bool.not_false, Nat.reduceBEq, impl_Vat_upgrade_r, ER]
  refine TCall.val (by simp only [EO]) (impl_in_T _ _ _ _) ?_
  cases h1 : inR to_ 0 5
  · have ug : upG es frm to_ n = (es, 0) := by unfold upG; rw [h1]; rfl
    simp only [EV, EL, EB, EF, q_bx, if_true, if_false, Bool.false_eq_true, Nat.reduceAdd, Option.bind_some, Bool.not_true, Bool.not_false, Nat.reduceBEq, impl_Vat_upgrade_r, ER, h1]
    refine ⟨rfl, by rw [ug], Nat.le_refl _, fE, by rw [ug]; exact o, nd, by simp_all⟩
  simp only [EV, EL, EB, EF, q_bx, if_true, if_false, Bool.false_eq_true, Nat.reduceAdd, Option.bind_some, Bool.not_true, Bool.not_false, Nat.reduceBEq, impl_Vat_upgrade_r, ER, h1]
  refine TCall.val (by simp only [EO]) (impl_in_T _ _ _ _) ?_
  cases h2 : inR n 0 3
  · have ug : upG es frm to_ n = (es, 0) := by unfold upG; rw [h1, h2]; rfl
    simp only [EV, EL, EB, EF, q_bx, if_true, if_false, Bool.false_eq_true, Nat.reduceAdd, Option.bind_some, Bool.not_true, Bool.not_false, Nat.reduceBEq, impl_Vat_upgrade_r, ER, h2]
    refine ⟨rfl, by rw [ug], Nat.le_refl _, fE, by rw [ug]; exact o, nd, by simp_all⟩
  have ug : upG es frm to_ n = (upCur es frm to_ n.toNat es.length, upCnt es frm es.length) := by unfold upG; rw [h1, h2]; rfl
  have hn0 : 0 ≤ n ∧ n ≤ 3 := by simpa [inR] using h2
  obtain ⟨m, rfl⟩ : ∃ m : Nat, n = (m : Int) := ⟨n.toNat, by omega⟩
  have hm : m ≤ 3 := by omega
  rw [Int.toNat_natCast] at ug
  simp only [EV, EL, EB, EF, q_bx, if_true, if_false, Bool.false_eq_true, Nat.reduceAdd, Option.bind_some, Bool.not_true, Bool.not_false, Nat.reduceBEq, impl_Vat_upgrade_r, ER, h2, hp0.nil, hp0.fld, hp0.rd, Nat.reduceLeDiff, List.length_cons, List.length_nil, ln]
  refine loopI tabOK mixed [] (fun x : Nat × AH × List Nat × List (List AV) => x.1 ≤ es.length ∧ Own x.2.1 wE (.sl 12 ((upCur es frm to_ m x.1).map DEntity.cd)) x.2.2.1 ∧ x.2.2.1.Nodup ∧ (∀ c ∈ x.2.2.1, c ∈ fE ∨ H.length ≤ c) ∧ H.length ≤ x.2.1.length ∧ (∀ c, c ∉ fE → c < H.length → x.2.1[c]? = H[c]?)) (fun x => es.length - x.1)
    (fun x => impl_Vat_upgrade_s0 (.gp b 0 0) (.int .i64 frm) (.int .i64 to_) (.int .i64 m) (.int .i64 (upCnt es frm x.1)) (.int .i64 es.length) (.int .i64 x.1) x.2.2.2 x.2.1) (0, H, fE, []) ⟨by simp, by simpa [upCur] using o, nd, fun c hc => .inl hc, Nat.le_refl _, fun _ _ _ => rfl⟩ ⟨by simp [impl_Vat_upgrade_s0, upCnt, LeL, LeV], rfl, rfl⟩ ?_
  rintro ⟨k, H0, f0, L⟩ ⟨hk, o0, n0, m0, l0, r0⟩
  simp only at hk o0 n0 m0 l0 r0
  simp only [EV, EL, EB, EF, q_bx, if_true, if_false, Bool.false_eq_true, Nat.reduceAdd, Option.bind_some, Bool.not_true, Bool.not_false, Nat.reduceBEq, impl_Vat_upgrade_r, impl_Vat_upgrade_s0]
  refine c_split (fun hlt => ?_) (fun hge => ?_)
  rotate_left
  · have hge : k = es.length := by simp at hge; omega
    subst hge
    simp only [EV, EL, EB, EF, q_bx, if_true, if_false, Bool.false_eq_true, Nat.reduceAdd, Option.bind_some, Bool.not_true, Bool.not_false, Nat.reduceBEq, impl_Vat_upgrade_r]
    exact ⟨rfl, by rw [ug], l0, f0, by rw [ug]; exact o0, n0, m0, r0⟩
  have hlt : k < es.length := by simpa using hlt
  have hlu : k < (upCur es frm to_ m k).length := by rw [upCur_len]; exact hlt
  have hlm : k < ((upCur es frm to_ m k).map DEntity.cd).length := by simpa using hlu
  have hb0 : hget H0 b = some (0, [x0, wE, x2, x3, x4]) := by
    have := r0 b nb (hget_lt hb)
    unfold hget at hb ⊢; rw [this]; exact hb
  have p0 := hp hb0
  obtain ⟨bE, gE, az, fz, i0, bl, bm, rw0, rd0, oz, nz, mz, lz⟩ := o0.row n0 hlm
  have oo := oz
  simp only [List.getElem_map, upCur_at hlt] at oo oz
  simp only [DEntity.cd, ownL_c, ownL_n, own_i, own_b, own_s] at oo
  obtain ⟨_, _, _, _, ez, _, ⟨rfl, rfl⟩, ⟨_, _, _, _, rfl, _, ⟨rfl, rfl⟩, _⟩⟩ := oo
  subst ez
  have c0 : ∀ (e : List AV) (L : List (List AV)), (St.mk e L H0).cells (.gp bE gE (k * 12)) 1 = some [.int .i64 es[k].kind] := fun e L => by
    have := rd0 e L 0 1 (by omega); rw [Nat.add_zero] at this; rw [this]; simp [sub]
  have c1 : ∀ (e : List AV) (L : List (List AV)), (St.mk e L H0).cells (.gp bE gE (k * 12 + 1)) 1 = some [.int .i64 es[k].script] := fun e L => by
    rw [rd0 e L 1 1 (by omega)]; simp at lz; simp [sub]
  have f0' : aFld 0 (.gp bE gE (k * 12)) = some (.gp bE gE (k * 12)) := rfl
  have f1' : aFld 1 (.gp bE gE (k * 12)) = some (.gp bE gE (k * 12 + 1)) := rfl
  have f2' : aFld 2 (.gp bE gE (k * 12)) = some (.gp bE gE (k * 12 + 2)) := rfl
  by_cases k1 : es[k].kind = 1
  rotate_left
  · have us := up_same (frm := frm) (to_ := to_) (n := m) hlt (fun h => k1 h.1)
    simp only [EV, EL, EB, EF, q_bx, if_true, if_false, Bool.false_eq_true, Nat.reduceAdd, Option.bind_some, Bool.not_true, Bool.not_false, Nat.reduceBEq, impl_Vat_upgrade_r, p0.nil, p0.fld, p0.rd, Nat.reduceLeDiff, List.length_cons, List.length_nil, i0, f0', f1', c0, c1, ne_int, decide_eq_false k1]
    exact ⟨(k + 1, H0, f0, _), ⟨hlt, by simp only; rw [us.1]; exact o0, n0, m0, l0, r0⟩, by simp only; omega, ⟨by rw [wN (by omega)]; simp [impl_Vat_upgrade_s0, us.2, LeL, LeV], rfl, rfl⟩⟩
  by_cases k2 : es[k].script = frm
  rotate_left
  · have us := up_same (frm := frm) (to_ := to_) (n := m) hlt (fun h => k2 h.2)
    simp only [EV, EL, EB, EF, q_bx, if_true, if_false, Bool.false_eq_true, Nat.reduceAdd, Option.bind_some, Bool.not_true, Bool.not_false, Nat.reduceBEq, impl_Vat_upgrade_r, p0.nil, p0.fld, p0.rd, Nat.reduceLeDiff, List.length_cons, List.length_nil, i0, f0', f1', c0, c1, ne_int, decide_eq_true k1, decide_eq_false k2]
    exact ⟨(k + 1, H0, f0, _), ⟨hlt, by simp only; rw [us.1]; exact o0, n0, m0, l0, r0⟩, by simp only; omega, ⟨by rw [wN (by omega)]; simp [impl_Vat_upgrade_s0, us.2, LeL, LeV], rfl, rfl⟩⟩
  have ct := upCnt_s (frm := frm) hlt
  rw [if_pos ⟨k1, k2⟩] at ct
  have cb := upCnt_le es frm k
  have cw : IntKind.i64.wrap (upCnt es frm k + 1) = upCnt es frm k + 1 := by
    obtain ⟨q, hq⟩ : ∃ q : Nat, upCnt es frm k = (q : Int) := ⟨(upCnt es frm k).toNat, by omega⟩
    rw [hq, wN (by omega)]; omega
  simp only [EV, EL, EB, EF, q_bx, if_true, if_false, Bool.false_eq_true, Nat.reduceAdd, Option.bind_some, Bool.not_true, Bool.not_false, Nat.reduceBEq, impl_Vat_upgrade_r, EA, p0.nil, p0.fld, p0.rd, Nat.reduceLeDiff, List.length_cons, List.length_nil, i0, f0', f1', c0, c1, ne_int, decide_eq_true k1, decide_eq_true k2]
  refine loopI tabOK mixed [] (fun x : Nat × AV × AH × List Nat × List (List AV) => x.1 ≤ m ∧ Own x.2.2.1 x.2.1 (.sl 2 (((List.range x.1).map (slotAt es[k])).map DValue.cd)) x.2.2.2.1 ∧ x.2.2.2.1.Nodup ∧ (∀ c ∈ x.2.2.2.1, H0.length ≤ c) ∧ HExt H0 x.2.2.1) (fun x => m - x.1)
    (fun x => impl_Vat_upgrade_s1 (.gp b 0 0) (.int .i64 frm) (.int .i64 to_) (.int .i64 m) (.int .i64 (upCnt es frm k)) (.gp bE gE (k * 12)) x.2.1 (.int .i64 es.length) (.int .i64 k) (.int .i64 m) (.int .i64 x.1) x.2.2.2.2 x.2.2.1) (0, .gs H0.length 0 0 0 0 2 true, H0 ++ [some (0, [])], [H0.length], _) ⟨by simp, bsl0_own H0 2, by simp, by simp, HExt.app _ _⟩ ⟨by simp [impl_Vat_upgrade_s1, LeL, LeV], rfl, rfl⟩ ?_
  rintro ⟨j, v, H1, f1, L1⟩ ⟨hj, o1, n1, m1, x1⟩
  simp only at hj o1 n1 m1 x1
  simp only [EV, EL, EB, EF, q_bx, if_true, if_false, Bool.false_eq_true, Nat.reduceAdd, Option.bind_some, Bool.not_true, Bool.not_false, Nat.reduceBEq, impl_Vat_upgrade_r, impl_Vat_upgrade_s1]
  refine c_split (fun hjl => ?_) (fun hjg => ?_)
  · have hjl : j < m := by simpa using hjl
    obtain ⟨ay, fy, cy, _, oy, _, _, ly⟩ := own_rowAt (o0.ext x1) n0 hlm i0
    simp only [List.getElem_map, upCur_at hlt] at oy
    have oo := oy.noLp
    simp only [EV, EL, EB, EF, q_bx, if_true, if_false, Bool.false_eq_true, Nat.reduceAdd, Option.bind_some, Bool.not_true, Bool.not_false, Nat.reduceBEq, impl_Vat_upgrade_r, EA, cy]
    refine TCall.see (by simp only [EO, out1, oo]) (snap_c (OwnL.see (DEntity.c_eq true _) oy) (snap_c (.same _) snap_n)) (fun h => impl_SlotOf_at true es[k] (hes _ (List.getElem_mem hlt)).1 j h) (.agg _ fun x hx => by simp only [DValue.c, List.mem_cons, List.not_mem_nil, or_false] at hx; rcases hx with rfl | rfl <;> exact .int _ _) ?_
    obtain ⟨v', H', fp', ea, o', nd', hf', hl', hm'⟩ := app_ext (bytes := 16) o1 (ys := [.int .i64 (slotAt es[k] j).kind, .int .i64 (slotAt es[k] j).n]) (row := (slotAt es[k] j).cd) (f2 := []) (by simpa using n1) (by omega) rfl (.i (.i .nil)) (by simp only [List.length_map, List.length_range, maxMade]; omega)
    simp only [EV, EL, EB, EF, q_bx, if_true, if_false, Bool.false_eq_true, Nat.reduceAdd, Option.bind_some, Bool.not_true, Bool.not_false, Nat.reduceBEq, impl_Vat_upgrade_r, EA, DValue.c, ea]
    refine ⟨(j + 1, v', H', fp', _), ⟨hjl, by simp only; rw [List.range_succ, List.map_append, List.map_append]; exact o', nd', fun c hc => ?_, x1.upd hl' hf' m1⟩, by simp only; omega, ⟨by rw [wN (by omega)]; simp [impl_Vat_upgrade_s1, LeL, LeV], rfl, rfl⟩⟩
    rcases hm' c hc with g | g | g
    · exact m1 c g
    · simp at g
    · have := x1.len; omega
  have hjm : j = m := by simp at hjg; omega
  subst hjm
  obtain ⟨c1', c2', c3', c4'⟩ := o1.cell
  have hku : (upCur es frm to_ j k)[k]'hlu = es[k] := upCur_at hlt
  obtain ⟨H2, H3, f3, s1, s2, o3, n3, m3, l3, r3⟩ := ent_store o0 n0 hlu i0 to_ o1 n1 m1 x1
  simp only [EV, EL, EB, EF, q_bx, if_true, if_false, Bool.false_eq_true, Nat.reduceAdd, Option.bind_some, Bool.not_true, Bool.not_false, Nat.reduceBEq, impl_Vat_upgrade_r, EA, c1', c2', c3', f1', f2', s1, s2]
  refine ⟨(k + 1, H3, f3, _), ⟨hlt, ?_, n3, fun c hc => ?_, ?_, fun c hc hcl => ?_⟩, by simp only; omega, ⟨by rw [wN (by omega)]; simp [impl_Vat_upgrade_s0, ct, cw, LeL, LeV], rfl, rfl⟩⟩
  · simp only
    rw [upCur_s hlt]
    rw [hku] at o3
    have : upOne frm to_ j es[k] = { es[k] with script := to_, slots := (List.range j).map (slotAt es[k]) } := by unfold upOne; rw [if_pos ⟨k1, k2⟩]
    rw [this]; exact o3
  · rcases m3 c hc with g | g
    · exact m0 c g
    · exact .inr (by omega)
  · have := x1.len; simp only; omega
  · have hc0 : c ∉ f0 := fun h => by
      rcases m0 c h with g | g
      · exact hc g
      · omega
    rw [r3 c hc0 (by omega), r0 c hc hcl]

end Go.Proofs.YtleddolmolkpfaaGreat

