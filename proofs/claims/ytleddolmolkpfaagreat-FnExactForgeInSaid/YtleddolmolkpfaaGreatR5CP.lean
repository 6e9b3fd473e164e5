import Derived.Test.YtleddolmolkpfaaGreatR5H
import Derived.Test.YtleddolmolkpfaaGreatAmBox2
import Derived.Test.YtleddolmolkpfaaGreatAmVal
import Derived.Test.YtleddolmolkpfaaGreatAmLens
set_option linter.unusedVariables false
set_option linter.unusedSimpArgs false
namespace Go.Proofs.YtleddolmolkpfaaGreat
open Go.AM
set_option linter.unusedVariables false
set_option linter.unusedSimpArgs false
variable {Γ : Glob}
theorem clone_Value (β : Bool) (l : List DValue) (hl : l.length ≤ 1048576) (h : AH) : T Tryz.prog Γ Fn.kcC [.vs β 2 false (l.map (DValue.c β))] h (Fresh h [.c (.sl 2 (l.map DValue.cd))]) :=
  clone_D tabOK mixed (fun hw => kcC_e hw) (by omega) (by simp only [maxMade]; omega) (fun x => ⟨rfl, rfl⟩) (fun x => (DValue.c_eq false x).symm)
theorem kag_T (β : Bool) (x : DSent) (hx : x.ok 1048576) (h : AH) : T Tryz.prog Γ Fn.kag [.agg (x.c β)] h (Fresh h [.a x.cd]) := by
  refine T.freshA ?_
  refine kag_e (aw_sound tabOK mixed [] _ _ _ ?_)
  unfold kag_c
  simp only [EZ, q_bx, if_true, if_false, Nat.reduceAdd, Option.bind_some, Nat.reduceBEq, kag_r, EB2, ER, DSent.c]
  refine TCall.ref (by simp only [EO]) (clone_Value β x.args hx.2 _) ?_
  rintro w H1 fr
  replace fr : Fresh h _ _ _ := fr
  obtain ⟨fw, ow, nw, bw, ew⟩ := fr.c1
  obtain ⟨c1, c2, c3, c4⟩ := ow.cell
  simp only [EZ, q_bx, if_true, if_false, Nat.reduceAdd, Option.bind_some, Nat.reduceBEq, kag_r, EB2, ER, DSent.c, c1, c2, c3]
  obtain ⟨N, rfl⟩ := ew.out
  refine ⟨by simp [outOK, out1, c4, c2, c3, nn_i', nn_s'], _, N, fw, rfl, rfl, ?_, nw, bw⟩
  have : fw = fw ++ [] := by simp
  rw [this]
  exact .i (.s (.o ow (.i (.i (.i (.i .nil))))))
theorem kan_T (β : Bool) (l : List DSent) (hl : l.length ≤ 1048576) (ho' : ∀ x ∈ l, x.ok 1048576) (h : AH) : T Tryz.prog Γ Fn.kan [.vs β 7 false (l.map (DSent.c β))] h (Fresh h [.c (.sl 7 (l.map DSent.cd))]) := by
  have L0 := len_vm β 7 false l (DSent.c β)
  generalize e0 : AV.vs β 7 false (l.map (DSent.c β)) = a0 at *
  refine T.freshC ?_
  refine kan_e (aw_sound tabOK mixed [] _ _ _ ?_)
  unfold kan_c
  simp only [EZ, q_bx, if_true, if_false, Nat.reduceAdd, Option.bind_some, Nat.reduceBEq, kan_r, EA, L0]
  refine loopI tabOK mixed [] (fun x : Nat × AV × AH × List Nat × List (List AV) => x.1 ≤ l.length ∧ Own x.2.2.1 x.2.1 (.sl 7 ((l.take x.1).map DSent.cd)) x.2.2.2.1 ∧ x.2.2.2.1.Nodup ∧ (∀ c ∈ x.2.2.2.1, h.length ≤ c) ∧ HExt h x.2.2.1) (fun x => l.length - x.1)
    (fun x => kan_s0 x.2.1 a0 (.int .i64 l.length) (.int .i64 x.1) x.2.2.2.2 x.2.2.1) (0, .gs h.length 0 0 0 0 7 true, h ++ [some (0, [])], [h.length], []) ⟨by simp, bsl0_own h 7, by simp, by simp, HExt.app _ _⟩ ⟨by simp [kan_s0, LeL, LeV], rfl, rfl⟩ ?_
  rintro ⟨k, v, H, fp, L⟩ ⟨hk, ho, nd, hfp, hN⟩
  simp only at hk ho nd hfp hN
  simp only [EZ, q_bx, if_true, if_false, Nat.reduceAdd, Option.bind_some, Nat.reduceBEq, kan_r, kan_s0]
  refine c_split (fun hlt => ?_) (fun hge => ?_)
  rotate_left
  · have hge : k = l.length := by simp at hge; omega
    subst hge
    simp only [EZ, q_bx, if_true, if_false, Nat.reduceAdd, Option.bind_some, Nat.reduceBEq, kan_r]
    rw [List.take_length] at ho
    obtain ⟨N, rfl⟩ := hN.out
    exact ⟨ho.outOK, N, fp, rfl, ho, nd, hfp⟩
  have hlt : k < l.length := by simpa using hlt
  have i0 := idx_vm (β := β) (sz := 7) (ex := false) (ce := DSent.c β) hlt
  rw [e0] at i0
  have hox := ho' _ (List.getElem_mem hlt)
  simp only [EZ, q_bx, if_true, if_false, Nat.reduceAdd, Option.bind_some, Nat.reduceBEq, kan_r, i0, DSent.c]
  refine TCall.ref (by simp only [EO]) (kag_T β l[k] hox _) ?_
  rintro _ H1 fr
  replace fr : Fresh H _ _ _ := fr
  obtain ⟨aw, fw, rfl, ow, nw, bw, ew⟩ := fr.a1
  have hdis : (fp ++ fw).Nodup := nodup_app nd nw (fun c hc => ho.lt c hc) bw
  replace ho := ho.ext ew
  have hx1 := hN.trans ew
  have oo := ow
  simp only [DSent.cd, ownL_c, ownL_n, own_i, own_b, own_s] at oo
  obtain ⟨_, _, _, _, rfl, _, ⟨rfl, rfl⟩, ⟨_, _, _, _, rfl, _, ⟨rfl, rfl⟩, ⟨a2, _, g2, _, rfl, _, u2, ⟨_, _, _, _, rfl, _, ⟨rfl, rfl⟩, ⟨_, _, _, _, rfl, _, ⟨rfl, rfl⟩, ⟨_, _, _, _, rfl, _, ⟨rfl, rfl⟩, ⟨_, _, _, _, rfl, _, ⟨rfl, rfl⟩, ⟨rfl, _⟩⟩⟩⟩⟩⟩⟩⟩ := oo
  obtain ⟨c1, c2, c3, c4⟩ := u2.cell
  obtain ⟨v', H', fp', ea, o', nd', hf', hl', hm'⟩ := app_ext (bytes := 80) ho hdis (by omega) rfl ow (by simp only [List.length_map, List.length_take, maxMade]; omega)
  simp only [EZ, q_bx, if_true, if_false, Nat.reduceAdd, Option.bind_some, Nat.reduceBEq, kan_r, EA, c1, c2, c3, ea]
  refine ⟨(k + 1, v', H', fp', _), ⟨hlt, by simp only; rw [List.take_succ_eq_append_getElem hlt, List.map_append]; exact o', nd', fun c hc => ?_, hx1.upd hl' hf' hfp⟩, by simp only; omega, ⟨by rw [wN (by omega)]; simp [kan_s0, LeL, LeV], rfl, rfl⟩⟩
  have := hN.len; have := hx1.len
  rcases hm' c hc with g | g | g
  · exact hfp c g
  · have := bw c g; omega
  · omega
theorem kcS_T (β : Bool) (l : List DSent) (hl : l.length ≤ 1048576) (ho' : ∀ x ∈ l, x.ok 1048576) (h : AH) : T Tryz.prog Γ Fn.kcS [.vs β 7 false (l.map (DSent.c β))] h (Fresh h [.c (.sl 7 (l.map DSent.cd))]) := by
  have L0 := len_vm β 7 false l (DSent.c β)
  generalize e0 : AV.vs β 7 false (l.map (DSent.c β)) = a0 at *
  refine T.freshC ?_
  refine kcS_e (aw_sound tabOK mixed [] _ _ _ ?_)
  unfold kcS_c
  simp only [EZ, q_bx, if_true, if_false, Nat.reduceAdd, Option.bind_some, Nat.reduceBEq, kcS_r, EA, L0]
  refine loopI tabOK mixed [] (fun x : Nat × AV × AH × List Nat × List (List AV) => x.1 ≤ l.length ∧ Own x.2.2.1 x.2.1 (.sl 7 ((l.take x.1).map DSent.cd)) x.2.2.2.1 ∧ x.2.2.2.1.Nodup ∧ (∀ c ∈ x.2.2.2.1, h.length ≤ c) ∧ HExt h x.2.2.1) (fun x => l.length - x.1)
    (fun x => kcS_s0 a0 x.2.1 (.int .i64 x.1) x.2.2.2.2 x.2.2.1) (0, .gs h.length 0 0 0 0 7 true, h ++ [some (0, [])], [h.length], []) ⟨by simp, bsl0_own h 7, by simp, by simp, HExt.app _ _⟩ ⟨by simp [kcS_s0, LeL, LeV], rfl, rfl⟩ ?_
  rintro ⟨k, v, H, fp, L⟩ ⟨hk, ho, nd, hfp, hN⟩
  simp only at hk ho nd hfp hN
  simp only [EZ, q_bx, if_true, if_false, Nat.reduceAdd, Option.bind_some, Nat.reduceBEq, kcS_r, kcS_s0, L0]
  refine c_split (fun hlt => ?_) (fun hge => ?_)
  rotate_left
  · have hge : k = l.length := by simp at hge; omega
    subst hge
    simp only [EZ, q_bx, if_true, if_false, Nat.reduceAdd, Option.bind_some, Nat.reduceBEq, kcS_r]
    rw [List.take_length] at ho
    obtain ⟨N, rfl⟩ := hN.out
    exact ⟨ho.outOK, N, fp, rfl, ho, nd, hfp⟩
  have hlt : k < l.length := by simpa using hlt
  have i0 := idx_vm (β := β) (sz := 7) (ex := false) (ce := DSent.c β) hlt
  rw [e0] at i0
  have hox := ho' _ (List.getElem_mem hlt)
  have hal : l[k].args.length ≤ 1048576 := hox.2
  have ho1 := ho.ext (HExt.app H [some (0, [])])
  obtain ⟨w, H1, fw, eb, ow, nw, hfw, hlw, hmw⟩ := app_vs (bytes := 16) (bsl0_own H 2) (by simp) (by omega) (β := β) (l := l[k].args) (c := DValue.c β) (fun x => ⟨rfl, rfl⟩) (fun x => (DValue.c_eq false x).symm) (by simp only [List.length_nil, maxMade]; omega)
  have ew : HExt H H1 := (HExt.app H [some (0, [])]).upd hlw hfw (by simp)
  have bw : ∀ c ∈ fw, H.length ≤ c := fun c hc => by
    rcases hmw c hc with g | g
    · simp at g; omega
    · simp at g; omega
  have hdis : (fp ++ (fw ++ [])).Nodup := by rw [List.append_nil]; exact nodup_app nd nw (fun c hc => ho.lt c hc) bw
  replace ho := ho.ext ew
  have hx1 := hN.trans ew
  obtain ⟨c1, c2, c3, c4⟩ := ow.cell
  have ow2 : OwnL H1 [.int .i64 l[k].target, .str l[k].name, w, .int .i64 l[k].result, .int .i64 l[k].tag.vat, .int .i64 l[k].tag.entity, .int .i64 l[k].tag.seq] l[k].cd (fw ++ []) := .i (.s (.o ow (.i (.i (.i (.i .nil))))))
  obtain ⟨v', H', fp', ea, o', nd', hf', hl', hm'⟩ := app_ext (bytes := 80) ho hdis (by omega) rfl ow2 (by simp only [List.length_map, List.length_take, maxMade]; omega)
  simp only [EZ, q_bx, if_true, if_false, Nat.reduceAdd, Option.bind_some, Nat.reduceBEq, kcS_r, i0, DSent.c, EA, EB2, eb, c1, c2, c3, ea]
  refine ⟨(k + 1, v', H', fp', _), ⟨hlt, by simp only; rw [List.take_succ_eq_append_getElem hlt, List.map_append]; exact o', nd', fun c hc => ?_, hx1.upd hl' hf' hfp⟩, by simp only; omega, ⟨by rw [wN (by omega)]; simp [kcS_s0, LeL, LeV], rfl, rfl⟩⟩
  have := hN.len; have := hx1.len
  rcases hm' c hc with g | g | g
  · exact hfp c g
  · have := bw c (by simpa using g); omega
  · omega
theorem clone_Asker (β : Bool) (l : List DAsker) (hl : l.length ≤ 1048576) (h : AH) : T Tryz.prog Γ Fn.kcx [.vs β 2 false (l.map (DAsker.c β))] h (Fresh h [.c (.sl 2 (l.map DAsker.cd))]) :=
  clone_D tabOK mixed (fun hw => kcx_e hw) (by omega) (by simp only [maxMade]; omega) (fun x => ⟨rfl, rfl⟩) (fun x => (DAsker.c_eq false x).symm)
theorem clone_Export (β : Bool) (l : List DExport) (hl : l.length ≤ 1048576) (h : AH) : T Tryz.prog Γ Fn.kcy [.vs β 3 false (l.map (DExport.c β))] h (Fresh h [.c (.sl 3 (l.map DExport.cd))]) :=
  clone_D tabOK mixed (fun hw => kcy_e hw) (by omega) (by simp only [maxMade]; omega) (fun x => ⟨rfl, rfl⟩) (fun x => (DExport.c_eq false x).symm)
theorem clone_Question (β : Bool) (l : List DQuestion) (hl : l.length ≤ 1048576) (h : AH) : T Tryz.prog Γ Fn.kcB [.vs β 2 false (l.map (DQuestion.c β))] h (Fresh h [.c (.sl 2 (l.map DQuestion.cd))]) :=
  clone_D tabOK mixed (fun hw => kcB_e hw) (by omega) (by simp only [maxMade]; omega) (fun x => ⟨rfl, rfl⟩) (fun x => (DQuestion.c_eq false x).symm)
theorem clone_Wire (β : Bool) (l : List DWire) (hl : l.length ≤ 1048576) (h : AH) : T Tryz.prog Γ Fn.kcD [.vs β 2 false (l.map (DWire.c β))] h (Fresh h [.c (.sl 2 (l.map DWire.cd))]) :=
  clone_D tabOK mixed (fun hw => kcD_e hw) (by omega) (by simp only [maxMade]; omega) (fun x => ⟨rfl, rfl⟩) (fun x => (DWire.c_eq false x).symm)
theorem kab_T (β : Bool) (e : DEntity) (he : e.ok 1048576) (h : AH) : T Tryz.prog Γ Fn.kab [.agg (e.c β)] h (Fresh h [.a e.cd]) := by
  refine T.freshA ?_
  refine kab_e (aw_sound tabOK mixed [] _ _ _ ?_)
  unfold kab_c
  simp only [EZ, q_bx, if_true, if_false, Nat.reduceAdd, Option.bind_some, Nat.reduceBEq, kab_r, kab_d0_q, EB2, ER, DEntity.c]
  refine TCall.ref (by simp only [EO]) (clone_Value β e.slots he.1 _) ?_
  rintro w1 H1 fr
  replace fr : Fresh h _ _ _ := fr
  obtain ⟨f1, o1, n1, b1, e1⟩ := fr.c1
  obtain ⟨a1a, a1b, a1c, a1d⟩ := o1.cell
  simp only [EZ, q_bx, if_true, if_false, Nat.reduceAdd, Option.bind_some, Nat.reduceBEq, kab_r, kab_d0_q, EB2, ER, DEntity.c, a1a, a1b, a1c]
  refine ⟨(by first | exact e1.mem _ _ _ | exact mem_keep (e1.mem _ _ _)), ?_⟩
  refine TCall.ref (by simp only [EO]) (kan_T β e.queue he.2.1 he.2.2.1 _) ?_
  rintro w2 H2 fr
  replace fr : Fresh H1 _ _ _ := fr
  obtain ⟨f2, o2, n2, b2, e2⟩ := fr.c1
  obtain ⟨a2a, a2b, a2c, a2d⟩ := o2.cell
  simp only [EZ, q_bx, if_true, if_false, Nat.reduceAdd, Option.bind_some, Nat.reduceBEq, kab_r, kab_d0_q, EB2, ER, DEntity.c, a1a, a1b, a1c, a2a, a2b, a2c]
  refine ⟨(by first | exact e2.mem _ _ _ | exact mem_keep (e2.mem _ _ _)), ?_⟩
  refine TCall.ref (by simp only [EO]) (clone_Asker β e.askers he.2.2.2 _) ?_
  rintro w3 H3 fr
  replace fr : Fresh H2 _ _ _ := fr
  obtain ⟨f3, o3, n3, b3, e3⟩ := fr.c1
  obtain ⟨a3a, a3b, a3c, a3d⟩ := o3.cell
  simp only [EZ, q_bx, if_true, if_false, Nat.reduceAdd, Option.bind_some, Nat.reduceBEq, kab_r, kab_d0_q, EB2, ER, DEntity.c, a1a, a1b, a1c, a2a, a2b, a2c, a3a, a3b, a3c]
  have n12 : (f1 ++ f2).Nodup := nodup_app n1 n2 (fun c hc => o1.lt c hc) b2
  have q1 := (o1.ext e2).ext e3
  have q2 := o2.ext e3
  have hl1 := e1.len
  have hl2 := e2.len
  have n123 : ((f1 ++ f2) ++ f3).Nodup := nodup_app n12 n3 (fun c hc => by
    rcases List.mem_append.1 hc with g | g
    · have := o1.lt c g; omega
    · exact o2.lt c g) b3
  obtain ⟨N, hN⟩ := ((e1.trans e2).trans e3).out
  refine ⟨by simp [outOK, out1, a1b, a1c, a1d, a2b, a2c, a2d, a3b, a3c, a3d, nn_i', nn_s', nn_b'], _, N, f1 ++ (f2 ++ (f3 ++ [])), rfl, hN, ?_, by rw [List.append_nil, ← List.append_assoc]; exact n123, fun c hc => ?_⟩
  · exact .i (.i (.o q1 (.i (.i (.i (.o q2 (.o o3 (.i (.i (.i (.i .nil)))))))))))
  · simp only [List.append_nil, List.mem_append] at hc
    rcases hc with g | g | g
    · exact b1 c g
    · have := b2 c g; omega
    · have := b3 c g; omega
theorem kad_T (β : Bool) (e : DLink) (he : e.ok 1048576) (h : AH) : T Tryz.prog Γ Fn.kad [.agg (e.c β)] h (Fresh h [.a e.cd]) := by
  refine T.freshA ?_
  refine kad_e (aw_sound tabOK mixed [] _ _ _ ?_)
  unfold kad_c
  simp only [EZ, q_bx, if_true, if_false, Nat.reduceAdd, Option.bind_some, Nat.reduceBEq, kad_r, kad_d0_q, EB2, ER, DLink.c]
  refine TCall.ref (by simp only [EO]) (clone_Export β e.exports he.1 _) ?_
  rintro w1 H1 fr
  replace fr : Fresh h _ _ _ := fr
  obtain ⟨f1, o1, n1, b1, e1⟩ := fr.c1
  obtain ⟨a1a, a1b, a1c, a1d⟩ := o1.cell
  simp only [EZ, q_bx, if_true, if_false, Nat.reduceAdd, Option.bind_some, Nat.reduceBEq, kad_r, kad_d0_q, EB2, ER, DLink.c, a1a, a1b, a1c]
  refine ⟨(by first | exact e1.mem _ _ _ | exact mem_keep (e1.mem _ _ _)), ?_⟩
  refine TCall.ref (by simp only [EO]) (clone_Question β e.questions he.2.1 _) ?_
  rintro w2 H2 fr
  replace fr : Fresh H1 _ _ _ := fr
  obtain ⟨f2, o2, n2, b2, e2⟩ := fr.c1
  obtain ⟨a2a, a2b, a2c, a2d⟩ := o2.cell
  simp only [EZ, q_bx, if_true, if_false, Nat.reduceAdd, Option.bind_some, Nat.reduceBEq, kad_r, kad_d0_q, EB2, ER, DLink.c, a1a, a1b, a1c, a2a, a2b, a2c]
  refine ⟨(by first | exact e2.mem _ _ _ | exact mem_keep (e2.mem _ _ _)), ?_⟩
  refine TCall.ref (by simp only [EO]) (clone_Question β e.answers he.2.2 _) ?_
  rintro w3 H3 fr
  replace fr : Fresh H2 _ _ _ := fr
  obtain ⟨f3, o3, n3, b3, e3⟩ := fr.c1
  obtain ⟨a3a, a3b, a3c, a3d⟩ := o3.cell
  simp only [EZ, q_bx, if_true, if_false, Nat.reduceAdd, Option.bind_some, Nat.reduceBEq, kad_r, kad_d0_q, EB2, ER, DLink.c, a1a, a1b, a1c, a2a, a2b, a2c, a3a, a3b, a3c]
  have n12 : (f1 ++ f2).Nodup := nodup_app n1 n2 (fun c hc => o1.lt c hc) b2
  have q1 := (o1.ext e2).ext e3
  have q2 := o2.ext e3
  have hl1 := e1.len
  have hl2 := e2.len
  have n123 : ((f1 ++ f2) ++ f3).Nodup := nodup_app n12 n3 (fun c hc => by
    rcases List.mem_append.1 hc with g | g
    · have := o1.lt c g; omega
    · exact o2.lt c g) b3
  obtain ⟨N, hN⟩ := ((e1.trans e2).trans e3).out
  refine ⟨by simp [outOK, out1, a1b, a1c, a1d, a2b, a2c, a2d, a3b, a3c, a3d, nn_i', nn_s', nn_b'], _, N, f1 ++ (f2 ++ (f3 ++ [])), rfl, hN, ?_, by rw [List.append_nil, ← List.append_assoc]; exact n123, fun c hc => ?_⟩
  · exact .i (.b (.o q1 (.i (.o q2 (.i (.o o3 .nil))))))
  · simp only [List.append_nil, List.mem_append] at hc
    rcases hc with g | g | g
    · exact b1 c g
    · have := b2 c g; omega
    · have := b3 c g; omega
theorem kae_T (β : Bool) (e : DMessage) (he : e.ok 1048576) (h : AH) : T Tryz.prog Γ Fn.kae [.agg (e.c β)] h (Fresh h [.a e.cd]) := by
  refine T.freshA ?_
  refine kae_e (aw_sound tabOK mixed [] _ _ _ ?_)
  unfold kae_c
  simp only [EZ, q_bx, if_true, if_false, Nat.reduceAdd, Option.bind_some, Nat.reduceBEq, kae_r, EB2, ER, DMessage.c]
  refine TCall.ref (by simp only [EO]) (clone_Wire β e.args he.2 _) ?_
  rintro w1 H1 fr
  replace fr : Fresh h _ _ _ := fr
  obtain ⟨f1, o1, n1, b1, e1⟩ := fr.c1
  obtain ⟨a1a, a1b, a1c, a1d⟩ := o1.cell
  simp only [EZ, q_bx, if_true, if_false, Nat.reduceAdd, Option.bind_some, Nat.reduceBEq, kae_r, EB2, ER, DMessage.c, a1a, a1b, a1c]
  obtain ⟨N, hN⟩ := e1.out
  refine ⟨by simp [outOK, out1, a1b, a1c, a1d, nn_i', nn_s', nn_b'], _, N, f1 ++ [], rfl, hN, ?_, by rw [List.append_nil]; exact n1, fun c hc => b1 c (by simpa using hc)⟩
  exact .i (.i (.i (.i (.s (.o o1 (.i (.i (.i (.i (.i (.i .nil)))))))))))
theorem kcR_T (β : Bool) (e : DEntity) (he : e.ok 1048576) (h : AH) : T Tryz.prog Γ Fn.kcR [.agg (e.c β)] h (Fresh h [.a e.cd]) := by
  refine T.freshA ?_
  refine kcR_e (aw_sound tabOK mixed [] _ _ _ ?_)
  unfold kcR_c
  obtain ⟨w1, H1, f1, ea1, o1, n1, hf1, hl1, hm1⟩ := app_vs (bytes := 16) (bsl0_own h 2) (by simp) (by omega) (β := β) (l := e.slots) (c := DValue.c β) (fun x => ⟨rfl, rfl⟩) (fun x => (DValue.c_eq false x).symm) (by have := he.1; simp only [List.length_nil, maxMade]; omega)
  have e1 : HExt h H1 := (HExt.app h [some (0, [])]).upd hl1 hf1 (by simp)
  have b1 : ∀ c ∈ f1, h.length ≤ c := fun c hc => by
    rcases hm1 c hc with g | g
    · simp at g; omega
    · simp at g; omega
  obtain ⟨a1a, a1b, a1c, a1d⟩ := o1.cell
  simp only [EZ, q_bx, if_true, if_false, Nat.reduceAdd, Option.bind_some, Nat.reduceBEq, kcR_r, EB2, ER, DEntity.c, EA, ea1, a1a, a1b, a1c]
  refine TCall.ref (by simp only [EO]) (kcS_T β e.queue he.2.1 he.2.2.1 _) ?_
  rintro w2 H2 fr
  replace fr : Fresh H1 _ _ _ := fr
  obtain ⟨f2, o2, n2, b2, e2⟩ := fr.c1
  obtain ⟨a2a, a2b, a2c, a2d⟩ := o2.cell
  obtain ⟨w3, H3, f3, ea3, o3, n3, hf3, hl3, hm3⟩ := app_vs (bytes := 16) (bsl0_own H2 2) (by simp) (by omega) (β := β) (l := e.askers) (c := DAsker.c β) (fun x => ⟨rfl, rfl⟩) (fun x => (DAsker.c_eq false x).symm) (by have := he.2.2.2; simp only [List.length_nil, maxMade]; omega)
  have e3 : HExt H2 H3 := (HExt.app H2 [some (0, [])]).upd hl3 hf3 (by simp)
  have b3 : ∀ c ∈ f3, H2.length ≤ c := fun c hc => by
    rcases hm3 c hc with g | g
    · simp at g; omega
    · simp at g; omega
  obtain ⟨a3a, a3b, a3c, a3d⟩ := o3.cell
  simp only [EZ, q_bx, if_true, if_false, Nat.reduceAdd, Option.bind_some, Nat.reduceBEq, kcR_r, EB2, ER, DEntity.c, EA, ea1, a1a, a1b, a1c, a2a, a2b, a2c, ea3, a3a, a3b, a3c]
  have n12 : (f1 ++ f2).Nodup := nodup_app n1 n2 (fun c hc => o1.lt c hc) b2
  have q1 := (o1.ext e2).ext e3
  have q2 := o2.ext e3
  have l1' := e1.len
  have l2' := e2.len
  have n123 : ((f1 ++ f2) ++ f3).Nodup := nodup_app n12 n3 (fun c hc => by
    rcases List.mem_append.1 hc with g | g
    · have := o1.lt c g; omega
    · exact o2.lt c g) b3
  obtain ⟨N, hN⟩ := ((e1.trans e2).trans e3).out
  refine ⟨by simp [outOK, out1, a1b, a1c, a1d, a2b, a2c, a2d, a3b, a3c, a3d, nn_i', nn_s', nn_b'], _, N, f1 ++ (f2 ++ (f3 ++ [])), rfl, hN, ?_, by rw [List.append_nil, ← List.append_assoc]; exact n123, fun c hc => ?_⟩
  · exact .i (.i (.o q1 (.i (.i (.i (.o q2 (.o o3 (.i (.i (.i (.i .nil)))))))))))
  · simp only [List.append_nil, List.mem_append] at hc
    rcases hc with g | g | g
    · exact b1 c g
    · have := b2 c g; omega
    · have := b3 c g; omega
theorem kcH_T (β : Bool) (e : DLink) (he : e.ok 1048576) (h : AH) : T Tryz.prog Γ Fn.kcH [.agg (e.c β)] h (Fresh h [.a e.cd]) := by
  refine T.freshA ?_
  refine kcH_e (aw_sound tabOK mixed [] _ _ _ ?_)
  unfold kcH_c
  obtain ⟨w1, H1, f1, ea1, o1, n1, hf1, hl1, hm1⟩ := app_vs (bytes := 24) (bsl0_own h 3) (by simp) (by omega) (β := β) (l := e.exports) (c := DExport.c β) (fun x => ⟨rfl, rfl⟩) (fun x => (DExport.c_eq false x).symm) (by have := he.1; simp only [List.length_nil, maxMade]; omega)
  have e1 : HExt h H1 := (HExt.app h [some (0, [])]).upd hl1 hf1 (by simp)
  have b1 : ∀ c ∈ f1, h.length ≤ c := fun c hc => by
    rcases hm1 c hc with g | g
    · simp at g; omega
    · simp at g; omega
  obtain ⟨a1a, a1b, a1c, a1d⟩ := o1.cell
  obtain ⟨w2, H2, f2, ea2, o2, n2, hf2, hl2, hm2⟩ := app_vs (bytes := 16) (bsl0_own H1 2) (by simp) (by omega) (β := β) (l := e.questions) (c := DQuestion.c β) (fun x => ⟨rfl, rfl⟩) (fun x => (DQuestion.c_eq false x).symm) (by have := he.2.1; simp only [List.length_nil, maxMade]; omega)
  have e2 : HExt H1 H2 := (HExt.app H1 [some (0, [])]).upd hl2 hf2 (by simp)
  have b2 : ∀ c ∈ f2, H1.length ≤ c := fun c hc => by
    rcases hm2 c hc with g | g
    · simp at g; omega
    · simp at g; omega
  obtain ⟨a2a, a2b, a2c, a2d⟩ := o2.cell
  obtain ⟨w3, H3, f3, ea3, o3, n3, hf3, hl3, hm3⟩ := app_vs (bytes := 16) (bsl0_own H2 2) (by simp) (by omega) (β := β) (l := e.answers) (c := DQuestion.c β) (fun x => ⟨rfl, rfl⟩) (fun x => (DQuestion.c_eq false x).symm) (by have := he.2.2; simp only [List.length_nil, maxMade]; omega)
  have e3 : HExt H2 H3 := (HExt.app H2 [some (0, [])]).upd hl3 hf3 (by simp)
  have b3 : ∀ c ∈ f3, H2.length ≤ c := fun c hc => by
    rcases hm3 c hc with g | g
    · simp at g; omega
    · simp at g; omega
  obtain ⟨a3a, a3b, a3c, a3d⟩ := o3.cell
  simp only [EZ, q_bx, if_true, if_false, Nat.reduceAdd, Option.bind_some, Nat.reduceBEq, kcH_r, EB2, ER, DLink.c, EA, ea1, a1a, a1b, a1c, ea2, a2a, a2b, a2c, ea3, a3a, a3b, a3c]
  have n12 : (f1 ++ f2).Nodup := nodup_app n1 n2 (fun c hc => o1.lt c hc) b2
  have q1 := (o1.ext e2).ext e3
  have q2 := o2.ext e3
  have l1' := e1.len
  have l2' := e2.len
  have n123 : ((f1 ++ f2) ++ f3).Nodup := nodup_app n12 n3 (fun c hc => by
    rcases List.mem_append.1 hc with g | g
    · have := o1.lt c g; omega
    · exact o2.lt c g) b3
  obtain ⟨N, hN⟩ := ((e1.trans e2).trans e3).out
  refine ⟨by simp [outOK, out1, a1b, a1c, a1d, a2b, a2c, a2d, a3b, a3c, a3d, nn_i', nn_s', nn_b'], _, N, f1 ++ (f2 ++ (f3 ++ [])), rfl, hN, ?_, by rw [List.append_nil, ← List.append_assoc]; exact n123, fun c hc => ?_⟩
  · exact .i (.b (.o q1 (.i (.o q2 (.i (.o o3 .nil))))))
  · simp only [List.append_nil, List.mem_append] at hc
    rcases hc with g | g | g
    · exact b1 c g
    · have := b2 c g; omega
    · have := b3 c g; omega
theorem kcI_T (β : Bool) (e : DMessage) (he : e.ok 1048576) (h : AH) : T Tryz.prog Γ Fn.kcI [.agg (e.c β)] h (Fresh h [.a e.cd]) := by
  refine T.freshA ?_
  refine kcI_e (aw_sound tabOK mixed [] _ _ _ ?_)
  unfold kcI_c
  obtain ⟨w1, H1, f1, ea1, o1, n1, hf1, hl1, hm1⟩ := app_vs (bytes := 16) (bsl0_own h 2) (by simp) (by omega) (β := β) (l := e.args) (c := DWire.c β) (fun x => ⟨rfl, rfl⟩) (fun x => (DWire.c_eq false x).symm) (by have := he.2; simp only [List.length_nil, maxMade]; omega)
  have e1 : HExt h H1 := (HExt.app h [some (0, [])]).upd hl1 hf1 (by simp)
  have b1 : ∀ c ∈ f1, h.length ≤ c := fun c hc => by
    rcases hm1 c hc with g | g
    · simp at g; omega
    · simp at g; omega
  obtain ⟨a1a, a1b, a1c, a1d⟩ := o1.cell
  simp only [EZ, q_bx, if_true, if_false, Nat.reduceAdd, Option.bind_some, Nat.reduceBEq, kcI_r, EB2, ER, DMessage.c, EA, ea1, a1a, a1b, a1c]
  obtain ⟨N, hN⟩ := e1.out
  refine ⟨by simp [outOK, out1, a1b, a1c, a1d, nn_i', nn_s', nn_b'], _, N, f1 ++ [], rfl, hN, ?_, by rw [List.append_nil]; exact n1, fun c hc => b1 c (by simpa using hc)⟩
  exact .i (.i (.i (.i (.s (.o o1 (.i (.i (.i (.i (.i (.i .nil)))))))))))
end Go.Proofs.YtleddolmolkpfaaGreat
