import Derived.Test.YtleddolmolkpfaaGreatR5VL
import Derived.Test.YtleddolmolkpfaaGreatR5SP
import Derived.Test.YtleddolmolkpfaaGreatR5CG
import Derived.Test.YtleddolmolkpfaaGreatR5VC
import Derived.Test.YtleddolmolkpfaaGreatR5SC
set_option linter.unusedVariables false
set_option linter.unusedSimpArgs false
namespace Go.Proofs.YtleddolmolkpfaaGreat
open Go.AM
set_option linter.unusedVariables false
set_option linter.unusedSimpArgs false
variable {Γ : Glob}
def accF (v : DVat) (l : List DGift) (ta gi no : Int) : DVat × List DGift × Int :=
  if upF v.links ta = true then
    (if (claimF l ta gi no).2.2 = true then
      ({ v with links := v.links.set (idxI (fun x : DLink => x.peer == ta) v.links).toNat (putE (v.links.getD (idxI (fun x : DLink => x.peer == ta) v.links).toNat default) (claimF l ta gi no).2.1).1 }, (claimF l ta gi no).1,
        (putE (v.links.getD (idxI (fun x : DLink => x.peer == ta) v.links).toNat default) (claimF l ta gi no).2.1).2)
    else (v, (claimF l ta gi no).1, -1)) else (v, l, -1)
theorem acc_no {v : DVat} {l : List DGift} {ta gi no : Int} (h : upF v.links ta = false) : accF v l ta gi no = (v, l, -1) := by unfold accF; rw [h]; rfl
theorem acc_miss {v : DVat} {l : List DGift} {ta gi no : Int} (h : upF v.links ta = true) (h2 : (claimF l ta gi no).2.2 = false) : accF v l ta gi no = (v, (claimF l ta gi no).1, -1) := by unfold accF; rw [h, h2]; rfl
theorem acc_put {v : DVat} {l : List DGift} {ta gi no : Int} (h : upF v.links ta = true) (h2 : (claimF l ta gi no).2.2 = true) {k : Nat} (hk : k < v.links.length) (h3 : idxI (fun x : DLink => x.peer == ta) v.links = (k : Int)) :
    accF v l ta gi no = ({ v with links := v.links.set k (putE v.links[k] (claimF l ta gi no).2.1).1 }, (claimF l ta gi no).1, (putE v.links[k] (claimF l ta gi no).2.1).2) := by
  unfold accF; rw [h, h2, h3]
  simp [List.getD_eq_getElem?_getD, hk]
theorem nodup4 {A B C C' D : List Nat} {n : Nat} (nd : (A ++ (B ++ (C ++ D))).Nodup) (hn : ∀ c ∈ A ++ (B ++ (C ++ D)), c < n) (nC : C'.Nodup) (hC : ∀ c ∈ C', c ∈ C ∨ n ≤ c) : (A ++ (B ++ (C' ++ D))).Nodup := by
  obtain ⟨nA, n1, d1⟩ := List.nodup_append.1 nd
  obtain ⟨nB, n2, d2⟩ := List.nodup_append.1 n1
  obtain ⟨_, nD, d3⟩ := List.nodup_append.1 n2
  refine List.nodup_append.2 ⟨nA, List.nodup_append.2 ⟨nB, List.nodup_append.2 ⟨nC, nD, fun x hx y hy e => ?_⟩, fun x hx y hy e => ?_⟩, fun x hx y hy e => ?_⟩
  · subst e
    rcases hC x hx with g | g
    · exact d3 x g x hy rfl
    · have := hn x (by simp [hy]); omega
  · subst e
    rcases List.mem_append.1 hy with q | q
    · rcases hC x q with g | g
      · exact d2 x hx x (by simp [g]) rfl
      · have := hn x (by simp [hx]); omega
    · exact d2 x hx x (by simp [q]) rfl
  · subst e
    simp only [List.mem_append] at hy
    rcases hy with q | q | q
    · exact d1 x hx x (by simp [q]) rfl
    · rcases hC x q with g | g
      · exact d1 x hx x (by simp [g]) rfl
      · have := hn x (by simp [hx]); omega
    · exact d1 x hx x (by simp [q]) rfl
theorem acc_fin {h H1 H' : AH} {v : DVat} {wE w2 wL w4 w : AV} {fE f2 fL f4 fL' fg : List Nat} {lk' : List DLink} {gs : List DGift} (oE : Own H1 wE (.sl 12 (v.entities.map DEntity.cd)) fE) (o2 : Own H1 w2 (.sl 7 (v.loop.map DSent.cd)) f2) (o4 : Own H1 w4 (.sl 13 (v.out.map DOutgoing.cd)) f4)
    (nw : (fE ++ (f2 ++ (fL ++ f4))).Nodup) (hlt : ∀ c ∈ fE ++ (f2 ++ (fL ++ f4)), c < H1.length) (bw : ∀ c ∈ fE ++ (f2 ++ (fL ++ f4)), h.length ≤ c) (hx : HExt h H') (hl : h.length ≤ H1.length) (oL : Own H' wL (.sl 7 (lk'.map DLink.cd)) fL') (nL : fL'.Nodup) (mL : ∀ c ∈ fL', c ∈ fL ∨ H1.length ≤ c)
    (fr : ∀ c ∈ fE ++ (f2 ++ f4), H'[c]? = H1[c]?) (og : Own H' w (.sl 4 (gs.map DGift.cd)) fg) (ng : fg.Nodup) (bg : ∀ c ∈ fg, H1.length ≤ c) (dg : ∀ c ∈ fL', c ∉ fg) :
    ∃ new q1 q2, H' = h ++ new ∧ OwnL H' [.int .i64 v.id, wE, w2, wL, w4] ({ v with links := lk' } : DVat).cd q1 ∧ Own H' w (.sl 4 (gs.map DGift.cd)) q2 ∧ (q1 ++ q2).Nodup ∧ ∀ b ∈ q1 ++ q2, h.length ≤ b := by
  obtain ⟨N, hN⟩ := hx.out
  have own := vat_own (v := { v with links := lk' }) (oE.frame (h' := H') fun c hc => fr c (by simp [hc])) (o2.frame (h' := H') fun c hc => fr c (by simp [hc])) oL (o4.frame (h' := H') fun c hc => fr c (by simp [hc]))
  refine ⟨N, _, fg, hN, own, og, List.nodup_append.2 ⟨nodup4 nw hlt nL mL, ng, fun x hx y hy e => ?_⟩, fun b hb => ?_⟩
  · subst e
    have hb := bg x hy
    simp only [List.mem_append] at hx
    rcases hx with q | q | q | q
    · have := hlt x (by simp [q]); omega
    · have := hlt x (by simp [q]); omega
    · exact dg x q hy
    · have := hlt x (by simp [q]); omega
  · rcases List.mem_append.1 hb with q | q
    · simp only [List.mem_append] at q
      rcases q with q | q | q | q
      · exact bw b (by simp [q])
      · exact bw b (by simp [q])
      · rcases mL b q with g | g
        · exact bw b (by simp [g])
        · omega
      · exact bw b (by simp [q])
    · have := bg b q; omega
set_option maxHeartbeats 2000000 in
theorem impl_AcceptGift_T (β : Bool) (v : DVat) (l : List DGift) (hv : v.ok 1048576) (hl : l.length ≤ 1048576) (ta gi no : Int) (h : AH) : T Tryz.prog Γ Fn.impl_AcceptGift [.agg (v.c β), .vs β 4 false (l.map (DGift.c β)), .int .i64 ta, .int .i64 gi, .int .i64 no] h (Fresh h [.a (accF v l ta gi no).1.cd, .c (.sl 4 ((accF v l ta gi no).2.1.map DGift.cd)), .c (.i .i64 (accF v l ta gi no).2.2)]) := by
  have hlk := hv.2.2.2.2.1
  refine T.freshAC rfl ?_
  refine impl_AcceptGift_e (aw_sound tabOK mixed [13] _ _ _ ?_)
  unfold impl_AcceptGift_c
  have al := fun (s : St) => alloc_g s _ (show List.all [AV.int .i64 0, .nils, .nils, .nils, .nils] noLp = true from rfl)
  simp only [EV, EL, EB, EF, q_bx, if_true, if_false, Bool.false_eq_true, Nat.reduceAdd, Option.bind_some, Bool.not_true, Bool.not_false, Nat.reduceBEq, impl_AcceptGift_r, impl_AcceptGift_d0_q, EB2, ER, DVat.c, al, push_s]
  refine TCall.ref (by simp only [EO]) (impl_Vat_copied_T β v hv _) ?_
  rintro _ H1 fr
  replace fr : Fresh h _ _ _ := fr
  obtain ⟨aw, fw, rfl, ow, nw, bw, ew⟩ := fr.a1
  obtain ⟨wE, w2, wL, w4, fE, f2, fL, f4, rfl, rfl, oE, o2, oL, o4⟩ := vat_cells ow
  obtain ⟨a1, a2, a3, a4⟩ := oE.cell
  obtain ⟨b1, b2, b3, b4⟩ := o2.cell
  obtain ⟨c1, c2, c3, c4⟩ := oL.cell
  obtain ⟨d1, d2, d3, d4⟩ := o4.cell
  have hlt : ∀ c ∈ fE ++ (f2 ++ (fL ++ f4)), c < H1.length := fun c hc => ow.lt c hc
  have nL : fL.Nodup := (List.nodup_append.1 (List.nodup_append.1 (List.nodup_append.1 nw).2.1).2.1).1
  have st := fun (e : List AV) (L : List (List AV)) => store_last (e := e) (l := L) (h := H1) (cs := [.int .i64 0, .nils, .nils, .nils, .nils]) (vs := [.int .i64 v.id, wE, w2, wL, w4]) (off := 0) (by simp) (by simp only [all_c1, all_n1, nn_i', a3, b3, c3, d3, Bool.and_self])
  simp only [EV, EL, EB, EF, q_bx, if_true, if_false, Bool.false_eq_true, Nat.reduceAdd, Option.bind_some, Bool.not_true, Bool.not_false, Nat.reduceBEq, impl_AcceptGift_r, impl_AcceptGift_d0_q, EB2, ER, DVat.c, a1, a2, a3, b1, b2, b3, c1, c2, c3, d1, d2, d3, al, push_s, st]
  have hov : over [.int .i64 0, .nils, .nils, .nils, .nils] 0 [AV.int .i64 v.id, wE, w2, wL, w4] = [AV.int .i64 v.id, wE, w2, wL, w4] := rfl
  rw [hov]
  generalize hHa : H1 ++ [some (0, [AV.int .i64 v.id, wE, w2, wL, w4])] = Ha
  have xa : HExt H1 Ha := by rw [← hHa]; exact HExt.app H1 _
  have la : Ha.length = H1.length + 1 := by rw [← hHa]; simp
  have hba : hget Ha H1.length = some (0, [AV.int .i64 v.id, wE, w2, wL, w4]) := by rw [← hHa]; exact hget_last _ _
  have owa : OwnL Ha [AV.int .i64 v.id, wE, w2, wL, w4] v.cd (fE ++ (f2 ++ (fL ++ f4))) := by rw [← hHa]; exact ow.grow
  refine TCall.ref (by simp only [EO]) (impl_Vat_link_own v hlk ta _ hba owa nw) ?_
  rintro r H2 ⟨⟨N2, e2⟩, hr⟩
  replace e2 : H2 = Ha ++ N2 := e2
  have x2 : HExt Ha H2 := by rw [e2]; exact HExt.app _ _
  have hb2 : hget H2 H1.length = some (0, [AV.int .i64 v.id, wE, w2, wL, w4]) := frame_hget hba (x2.fr _ (by omega))
  have x02 : HExt h H2 := (ew.trans xa).trans x2
  have x12 : HExt H1 H2 := xa.trans x2
  have cl2 := fun (e : List AV) (l : List (List AV)) (off n : Nat) => cells_gp (e := e) (l := l) (b := H1.length) (off := off) (n := n) hb2
  rcases hr with ⟨hu, k, hk, ek, i0⟩ | ⟨hu, rfl⟩
  rotate_left
  · have ea := acc_no (l := l) (gi := gi) (no := no) hu
    simp only [EV, EL, EB, EF, q_bx, if_true, if_false, Bool.false_eq_true, Nat.reduceAdd, Option.bind_some, Bool.not_true, Bool.not_false, Nat.reduceBEq, impl_AcceptGift_r, impl_AcceptGift_d0_q, EB2, ER, a1, a2, a3, b1, b2, b3, c1, c2, c3, d1, d2, d3, cl2]
    refine TCall.ref (by simp only [EO]) (clone_Gift β l (by omega) _) ?_
    rintro w H3 fr
    replace fr : Fresh H2 _ _ _ := fr
    obtain ⟨fg, og, ng, bg, eg⟩ := fr.c1
    obtain ⟨g1, g2, g3, g4⟩ := og.cell
    simp only [EV, EL, EB, EF, q_bx, if_true, if_false, Bool.false_eq_true, Nat.reduceAdd, Option.bind_some, Bool.not_true, Bool.not_false, Nat.reduceBEq, impl_AcceptGift_r, impl_AcceptGift_d0_q, EB2, ER, a1, a2, a3, b1, b2, b3, c1, c2, c3, d1, d2, d3, g1, g2, g3]
    obtain ⟨N, q1, q2, r1, r2, r3, r4, r5⟩ := acc_fin oE o2 o4 nw hlt bw (x02.trans eg) ew.len (oL.ext (x12.trans eg)) nL (fun c hc => .inl hc) (fun c hc => (x12.trans eg).fr c (by
      have hc' : c ∈ fE ++ (f2 ++ (fL ++ f4)) := by
        simp only [List.mem_append] at hc ⊢
        rcases hc with g | g | g
        · exact .inl g
        · exact .inr (.inl g)
        · exact .inr (.inr (.inr g))
      exact hlt c hc')) og ng (fun c hc => by have := bg c hc; have := x12.len; omega) (fun c hc hg => by have := hlt c (by simp [hc]); have := bg c hg; have := x12.len; omega)
    refine ⟨eg.mem _ _ _, by simp only [List.all_cons, List.all_nil, EO, a3, b3, c3, d3, g4], _, w, N, q1, q2, by rw [ea, CD.av_i], r1, by rw [ea]; exact r2, by rw [ea]; exact r3, r4, r5⟩
  have hkm : k < (v.links.map DLink.cd).length := by simpa using hk
  have oL2 := oL.ext x12
  obtain ⟨bq, gq, preq, _, _, _, iq, _⟩ := oL2.openRow nL hkm
  rw [i0] at iq
  injection iq with iq
  subst iq
  simp only [EV, EL, EB, EF, q_bx, if_true, if_false, Bool.false_eq_true, Nat.reduceAdd, Option.bind_some, Bool.not_true, Bool.not_false, Nat.reduceBEq, impl_AcceptGift_r, impl_AcceptGift_d0_q, EB2, ER, a1, a2, a3, b1, b2, b3, c1, c2, c3, d1, d2, d3, cl2, show aBin .eql .nilp (.gp bq gq preq.length) .nilp = some (.bool false) from rfl]
  refine TCall.ref (by simp only [EO]) (impl_ClaimGift_T β l hl ta gi no _) ?_
  rintro _ H3 fr
  replace fr : Fresh H2 _ _ _ := fr
  obtain ⟨w, fg, rfl, og, ng, bg, eg⟩ := fr.c3 rfl rfl
  obtain ⟨g1, g2, g3, g4⟩ := og.cell
  have x13 := x12.trans eg
  have hb3 : hget H3 H1.length = some (0, [AV.int .i64 v.id, wE, w2, wL, w4]) := frame_hget hb2 (eg.fr _ (by have := x12.len; have := x2.len; omega))
  have cl3 := fun (e : List AV) (l : List (List AV)) (off n : Nat) => cells_gp (e := e) (l := l) (b := H1.length) (off := off) (n := n) hb3
  have fr3 : ∀ c ∈ fE ++ (f2 ++ f4), c < H1.length := fun c hc => by
    have hc' : c ∈ fE ++ (f2 ++ (fL ++ f4)) := by
      simp only [List.mem_append] at hc ⊢
      rcases hc with g | g | g
      · exact .inl g
      · exact .inr (.inl g)
      · exact .inr (.inr (.inr g))
    exact hlt c hc'
  have bg1 : ∀ c ∈ fg, H1.length ≤ c := fun c hc => by have := bg c hc; have := x12.len; omega
  cases hok : (claimF l ta gi no).2.2
  · have ea := acc_miss (l := l) (gi := gi) (no := no) hu hok
    simp only [EV, EL, EB, EF, q_bx, if_true, if_false, Bool.false_eq_true, Nat.reduceAdd, Option.bind_some, Bool.not_true, Bool.not_false, Nat.reduceBEq, impl_AcceptGift_r, impl_AcceptGift_d0_q, EB2, ER, CD.av_i, CD.av_b, hok, a1, a2, a3, b1, b2, b3, c1, c2, c3, d1, d2, d3, g1, g2, g3, cl3]
    obtain ⟨N, q1, q2, r1, r2, r3, r4, r5⟩ := acc_fin oE o2 o4 nw hlt bw (x02.trans eg) ew.len (oL.ext x13) nL (fun c hc => .inl hc) (fun c hc => x13.fr c (fr3 c hc)) og ng bg1 (fun c hc hg => by have := hlt c (by simp [hc]); have := bg1 c hg; omega)
    exact ⟨by simp only [List.all_cons, List.all_nil, EO, a3, b3, c3, d3, g4], _, w, N, q1, q2, by rw [ea], r1, by rw [ea]; exact r2, by rw [ea]; exact r3, r4, r5⟩
  have ea := acc_put (l := l) (gi := gi) (no := no) hu hok hk ek
  simp only [EV, EL, EB, EF, q_bx, if_true, if_false, Bool.false_eq_true, Nat.reduceAdd, Option.bind_some, Bool.not_true, Bool.not_false, Nat.reduceBEq, impl_AcceptGift_r, impl_AcceptGift_d0_q, EB2, ER, CD.av_i, CD.av_b, hok, a1, a2, a3, b1, b2, b3, c1, c2, c3, d1, d2, d3, g1, g2, g3, cl3]
  obtain ⟨bR, gR, pre, row, post, fR, iR, mR, lR, oR, nR, sR, bmR, bnR, close⟩ := (oL.ext x13).openRow nL hkm
  rw [i0] at iR
  simp only [Option.some.injEq, AV.gp.injEq] at iR
  obtain ⟨rfl, rfl, epre⟩ := iR
  rw [epre]
  simp only [List.getElem_map] at oR
  refine TCall.ref (by simp only [EO]) (impl_Link_put_T v.links[k] (hv.2.2.2.2.2.1 _ (List.getElem_mem hk)).1 (claimF l ta gi no).2.1 _ mR oR nR bnR) ?_
  rintro _ H4 ⟨rfl, l4, row', f', m4, o4', n4, s4, r4⟩
  replace l4 : H3.length ≤ H4.length := l4
  replace s4 : ∀ c ∈ f', c ∈ fR ∨ H3.length ≤ c := s4
  replace r4 : ∀ c, c ∉ fR → c ≠ bq → c < H3.length → H4[c]? = H3[c]? := r4
  have l13 := x13.len
  have hfL : ∀ c ∈ fL, c < H1.length := fun c hc => hlt c (by simp [hc])
  have hbq := hfL bq bmR
  obtain ⟨fL', oL4, nL4, mL4⟩ := close H4 row' (putE v.links[k] (claimF l ta gi no).2.1).1.cd f' o4' n4 rfl (fun c hc => (s4 c hc).imp id fun h hm => by have := hfL c hm; omega) m4 (fun c hc hcf hcb => r4 c hcf hcb (by have := hfL c hc; omega))
  have hb4 : hget H4 H1.length = some (0, [AV.int .i64 v.id, wE, w2, wL, w4]) := frame_hget hb3 (r4 _ (fun hm => by have := hfL _ (sR _ hm); omega) (by omega) (by have := eg.len; have := x2.len; omega))
  have cl4 := fun (e : List AV) (l : List (List AV)) (off n : Nat) => cells_gp (e := e) (l := l) (b := H1.length) (off := off) (n := n) hb4
  simp only [EV, EL, EB, EF, q_bx, if_true, if_false, Bool.false_eq_true, Nat.reduceAdd, Option.bind_some, Bool.not_true, Bool.not_false, Nat.reduceBEq, impl_AcceptGift_r, impl_AcceptGift_d0_q, EB2, ER, CD.av_i, CD.av_b, a1, a2, a3, b1, b2, b3, c1, c2, c3, d1, d2, d3, g1, g2, g3, cl4]
  have dsj : ∀ c, c ∈ fL → c ∉ fE ++ (f2 ++ f4) := fun c hc hm => by
    obtain ⟨_, n1, q1⟩ := List.nodup_append.1 nw
    obtain ⟨_, n2, q2⟩ := List.nodup_append.1 n1
    obtain ⟨_, _, q3⟩ := List.nodup_append.1 n2
    simp only [List.mem_append] at hm
    rcases hm with g | g | g
    · exact q1 c g c (by simp [hc]) rfl
    · exact q2 c g c (by simp [hc]) rfl
    · exact q3 c hc c g rfl
  have xh4 : HExt h H4 := (x02.trans eg).upd (fp := bq :: fR) l4 (fun c hc hcl => r4 c (fun hm => hc (by simp [hm])) (fun e => hc (by simp [e])) hcl) (fun c hc => by
    rcases List.mem_cons.1 hc with rfl | hc
    · exact bw _ (by simp [bmR])
    · exact bw _ (by simp [sR c hc]))
  have og4 := og.frame (h' := H4) fun c hc => r4 c (fun hm => by have := hfL _ (sR _ hm); have := bg1 c hc; omega) (fun e => by have := bg1 c hc; omega) (og.lt c hc)
  have frE : ∀ c ∈ fE ++ (f2 ++ f4), H4[c]? = H1[c]? := fun c hc => by
    rw [r4 c (fun hm => dsj c (sR c hm) hc) (fun e => dsj bq bmR (e ▸ hc)) (by have := fr3 c hc; omega)]; exact x13.fr c (fr3 c hc)
  have key : (v.links.map DLink.cd).set k (putE v.links[k] (claimF l ta gi no).2.1).1.cd = (v.links.set k (putE v.links[k] (claimF l ta gi no).2.1).1).map DLink.cd := by rw [List.map_set]
  rw [key] at oL4
  obtain ⟨N, q1, q2, r1, r2, r3, r4', r5⟩ := acc_fin oE o2 o4 nw hlt bw xh4 ew.len oL4 nL4 (fun c hc => by
    rcases mL4 c hc with g | g
    · exact .inl g
    · rcases s4 c g with g | g
      · exact .inl (sR c g)
      · exact .inr (by omega)) frE og4 ng bg1 (fun c hc hg => by
    have := og.lt c hg; have := bg1 c hg
    rcases mL4 c hc with g | g
    · have := hfL c g; omega
    · rcases s4 c g with g | g
      · have := hfL c (sR c g); omega
      · omega)
  exact ⟨by simp only [List.all_cons, List.all_nil, EO, a3, b3, c3, d3, g4], _, w, N, q1, q2, by rw [ea], r1, by rw [ea]; exact r2, by rw [ea]; exact r3, r4', r5⟩
theorem claim_miss {l : List DGift} {ta gi no : Int} (h : (claimF l ta gi no).2.2 = false) : (claimF l ta gi no).1 = l := by
  unfold claimF at h ⊢
  split at h
  · cases h
  · rename_i hn; rw [if_neg hn]
set_option maxHeartbeats 2000000 in
theorem spec_AcceptGift_T (β : Bool) (v : DVat) (l : List DGift) (hv : v.ok 1048576) (hl : l.length ≤ 1048576) (ta gi no : Int) (h : AH) : T Tryz.prog Γ Fn.spec_AcceptGift [.agg (v.c β), .vs β 4 false (l.map (DGift.c β)), .int .i64 ta, .int .i64 gi, .int .i64 no] h (Fresh h [.a (accF v l ta gi no).1.cd, .c (.sl 4 ((accF v l ta gi no).2.1.map DGift.cd)), .c (.i .i64 (accF v l ta gi no).2.2)]) := by
  have hlk := hv.2.2.2.2.1
  refine T.freshAC rfl ?_
  refine spec_AcceptGift_e (aw_sound tabOK mixed [] _ _ _ ?_)
  unfold spec_AcceptGift_c
  simp only [EV, EL, EB, EF, q_bx, if_true, if_false, Bool.false_eq_true, Nat.reduceAdd, Option.bind_some, Bool.not_true, Bool.not_false, Nat.reduceBEq, spec_AcceptGift_r, spec_AcceptGift_d0_q, spec_AcceptGift_d1_q, EB2, ER, DVat.c]
  refine TCall.ref (by simp only [EO]) (spec_l12Copy_T β v hv _) ?_
  rintro _ H1 fr
  replace fr : Fresh h _ _ _ := fr
  obtain ⟨aw, fw, rfl, ow, nw, bw, ew⟩ := fr.a1
  obtain ⟨wE, w2, wL, w4, fE, f2, fL, f4, rfl, rfl, oE, o2, oL, o4⟩ := vat_cells ow
  obtain ⟨a1, a2, a3, a4⟩ := oE.cell
  obtain ⟨b1, b2, b3, b4⟩ := o2.cell
  obtain ⟨c1, c2, c3, c4⟩ := oL.cell
  obtain ⟨d1, d2, d3, d4⟩ := o4.cell
  have hlt : ∀ c ∈ fE ++ (f2 ++ (fL ++ f4)), c < H1.length := fun c hc => ow.lt c hc
  have nL : fL.Nodup := (List.nodup_append.1 (List.nodup_append.1 (List.nodup_append.1 nw).2.1).2.1).1
  have fr3 : ∀ c ∈ fE ++ (f2 ++ f4), c < H1.length := fun c hc => by
    have hc' : c ∈ fE ++ (f2 ++ (fL ++ f4)) := by
      simp only [List.mem_append] at hc ⊢
      rcases hc with g | g | g
      · exact .inl g
      · exact .inr (.inl g)
      · exact .inr (.inr (.inr g))
    exact hlt c hc'
  simp only [EV, EL, EB, EF, q_bx, if_true, if_false, Bool.false_eq_true, Nat.reduceAdd, Option.bind_some, Bool.not_true, Bool.not_false, Nat.reduceBEq, spec_AcceptGift_r, spec_AcceptGift_d0_q, spec_AcceptGift_d1_q, EB2, ER, DVat.c, a1, a2, a3, b1, b2, b3, c1, c2, c3, d1, d2, d3]
  refine TCall.val (by simp only [EO]) (spec_IsUp_T β v hlk ta _) ?_
  cases hu : upF v.links ta
  · have ea := acc_no (l := l) (gi := gi) (no := no) hu
    simp only [EV, EL, EB, EF, q_bx, if_true, if_false, Bool.false_eq_true, Nat.reduceAdd, Option.bind_some, Bool.not_true, Bool.not_false, Nat.reduceBEq, spec_AcceptGift_r, spec_AcceptGift_d0_q, spec_AcceptGift_d1_q, EB2, ER, a1, a2, a3, b1, b2, b3, c1, c2, c3, d1, d2, d3]
    refine TCall.ref (by simp only [EO]) (spec_l31Copy_T β l (by omega) _) ?_
    rintro w H3 fr
    replace fr : Fresh H1 _ _ _ := fr
    obtain ⟨fg, og, ng, bg, eg⟩ := fr.c1
    obtain ⟨g1, g2, g3, g4⟩ := og.cell
    simp only [EV, EL, EB, EF, q_bx, if_true, if_false, Bool.false_eq_true, Nat.reduceAdd, Option.bind_some, Bool.not_true, Bool.not_false, Nat.reduceBEq, spec_AcceptGift_r, spec_AcceptGift_d0_q, spec_AcceptGift_d1_q, EB2, ER, a1, a2, a3, b1, b2, b3, c1, c2, c3, d1, d2, d3, g1, g2, g3]
    obtain ⟨N, q1, q2, r1, r2, r3, r4, r5⟩ := acc_fin oE o2 o4 nw hlt bw (ew.trans eg) ew.len (oL.ext eg) nL (fun c hc => .inl hc) (fun c hc => eg.fr c (fr3 c hc)) og ng bg (fun c hc hg => by have := hlt c (by simp [hc]); have := bg c hg; omega)
    exact ⟨eg.mem _ _ _, by simp only [List.all_cons, List.all_nil, EO, a3, b3, c3, d3, g4], _, w, N, q1, q2, by rw [ea, CD.av_i], r1, by rw [ea]; exact r2, by rw [ea]; exact r3, r4, r5⟩
  simp only [EV, EL, EB, EF, q_bx, if_true, if_false, Bool.false_eq_true, Nat.reduceAdd, Option.bind_some, Bool.not_true, Bool.not_false, Nat.reduceBEq, spec_AcceptGift_r, spec_AcceptGift_d0_q, spec_AcceptGift_d1_q, EB2, ER, a1, a2, a3, b1, b2, b3, c1, c2, c3, d1, d2, d3]
  refine TCall.ref (by simp only [EO]) (spec_ClaimGift_T β l hl ta gi no _) ?_
  rintro _ H3 fr
  replace fr : Fresh H1 _ _ _ := fr
  obtain ⟨w, fg, rfl, og, ng, bg, eg⟩ := fr.c3 rfl rfl
  obtain ⟨g1, g2, g3, g4⟩ := og.cell
  cases hok : (claimF l ta gi no).2.2
  · have ea := acc_miss (l := l) (gi := gi) (no := no) hu hok
    rw [claim_miss hok] at ea
    simp only [EV, EL, EB, EF, q_bx, if_true, if_false, Bool.false_eq_true, Nat.reduceAdd, Option.bind_some, Bool.not_true, Bool.not_false, Nat.reduceBEq, spec_AcceptGift_r, spec_AcceptGift_d0_q, spec_AcceptGift_d1_q, EB2, ER, CD.av_i, CD.av_b, hok, a1, a2, a3, b1, b2, b3, c1, c2, c3, d1, d2, d3, g1, g2, g3]
    refine TCall.ref (by simp only [EO]) (spec_l31Copy_T β l (by omega) _) ?_
    rintro w' H4 fr
    replace fr : Fresh H3 _ _ _ := fr
    obtain ⟨fg', og', ng', bg', eg'⟩ := fr.c1
    obtain ⟨g1', g2', g3', g4'⟩ := og'.cell
    have x14 := eg.trans eg'
    simp only [EV, EL, EB, EF, q_bx, if_true, if_false, Bool.false_eq_true, Nat.reduceAdd, Option.bind_some, Bool.not_true, Bool.not_false, Nat.reduceBEq, spec_AcceptGift_r, spec_AcceptGift_d0_q, spec_AcceptGift_d1_q, EB2, ER, a1, a2, a3, b1, b2, b3, c1, c2, c3, d1, d2, d3, g1', g2', g3']
    obtain ⟨N, q1, q2, r1, r2, r3, r4, r5⟩ := acc_fin oE o2 o4 nw hlt bw (ew.trans x14) ew.len (oL.ext x14) nL (fun c hc => .inl hc) (fun c hc => x14.fr c (fr3 c hc)) og' ng' (fun c hc => by have := bg' c hc; have := eg.len; omega) (fun c hc hg => by have := hlt c (by simp [hc]); have := bg' c hg; have := eg.len; omega)
    exact ⟨eg'.mem _ _ _, by simp only [List.all_cons, List.all_nil, EO, a3, b3, c3, d3, g4'], _, w', N, q1, q2, by rw [ea], r1, by rw [ea]; exact r2, by rw [ea]; exact r3, r4, r5⟩
  obtain ⟨k, hk, ek, _⟩ := up_idx hu
  have ea := acc_put (l := l) (gi := gi) (no := no) hu hok hk ek
  have i1 := idx_vm (β := β) (sz := 7) (ex := false) (ce := DLink.c β) hk
  have hlk' := hv.2.2.2.2.2.1 _ (List.getElem_mem hk)
  simp only [EV, EL, EB, EF, q_bx, if_true, if_false, Bool.false_eq_true, Nat.reduceAdd, Option.bind_some, Bool.not_true, Bool.not_false, Nat.reduceBEq, spec_AcceptGift_r, spec_AcceptGift_d0_q, spec_AcceptGift_d1_q, EB2, ER, CD.av_i, CD.av_b, hok, a1, a2, a3, b1, b2, b3, c1, c2, c3, d1, d2, d3, g1, g2, g3]
  refine TCall.val (by simp only [EO]) (spec_LinkTo_T β v hlk ta _) ?_
  rw [ek]
  simp only [EV, EL, EB, EF, q_bx, if_true, if_false, Bool.false_eq_true, Nat.reduceAdd, Option.bind_some, Bool.not_true, Bool.not_false, Nat.reduceBEq, spec_AcceptGift_r, spec_AcceptGift_d0_q, spec_AcceptGift_d1_q, EB2, ER, i1, DLink.c]
  refine TCall.ref (by simp only [EO]) (spec_PutExport_T β v.links[k] hlk' (claimF l ta gi no).2.1 _) ?_
  rintro _ H4 fr
  replace fr : Fresh H3 _ _ _ := fr
  obtain ⟨row', f', rfl, o', n', b', eg'⟩ := fr.a2 rfl
  have x14 := eg.trans eg'
  have l14 := x14.len
  have hkm : k < (v.links.map DLink.cd).length := by simpa using hk
  obtain ⟨bR, gR, pre, row, post, fR, iR, mR, lR, oR, nR, sR, bmR, bnR, close⟩ := (oL.ext x14).openRow nL hkm
  have rl : row'.length = 7 := by rw [o'.len]; rfl
  obtain ⟨H5, s5, m5, l5, r5⟩ := mR.store (i := 0) (vs := row') (by omega) o'.noLp
  have ov : over row 0 row' = row' := by simp [over, rl, lR]
  rw [ov] at m5
  rw [Nat.add_zero] at s5
  obtain ⟨p2, p4, p6, _, _, _, er, _, oX, oQ, oA⟩ := link_cells o'
  obtain ⟨x1', x2', x3', x4'⟩ := oX.cell
  obtain ⟨y1', y2', y3', y4'⟩ := oQ.cell
  obtain ⟨z1', z2', z3', z4'⟩ := oA.cell
  rw [er] at s5 o' m5
  rw [er]
  have hfL : ∀ c ∈ fL, c < H1.length := fun c hc => hlt c (by simp [hc])
  have hbq := hfL bR bmR
  have l13 := eg.len
  simp only [EV, EL, EB, EF, q_bx, if_true, if_false, Bool.false_eq_true, Nat.reduceAdd, Option.bind_some, Bool.not_true, Bool.not_false, Nat.reduceBEq, spec_AcceptGift_r, spec_AcceptGift_d0_q, spec_AcceptGift_d1_q, EB2, ER, CD.av_i, CD.av_b, a1, a2, a3, b1, b2, b3, c1, c2, c3, d1, d2, d3, g1, g2, g3, x1', x2', x3', y1', y2', y3', z1', z2', z3', iR, s5]
  have o5 := o'.frame (h' := H5) fun c hc => r5 c (fun e => by have := b' c hc; omega)
  obtain ⟨fL', oL5, nL5, mL5⟩ := close H5 _ (putE v.links[k] (claimF l ta gi no).2.1).1.cd f' o5 n' rfl (fun c hc => .inr fun hm => by have := hfL c hm; have := b' c hc; omega) m5 (fun c hc hcf hcb => r5 c hcb)
  have dsj : bR ∉ fE ++ (f2 ++ f4) := fun hm => by
    obtain ⟨_, n1, q1⟩ := List.nodup_append.1 nw
    obtain ⟨_, n2, q2⟩ := List.nodup_append.1 n1
    obtain ⟨_, _, q3⟩ := List.nodup_append.1 n2
    simp only [List.mem_append] at hm
    rcases hm with g | g | g
    · exact q1 bR g bR (by simp [bmR]) rfl
    · exact q2 bR g bR (by simp [bmR]) rfl
    · exact q3 bR bmR bR g rfl
  have xh5 : HExt h H5 := (ew.trans x14).upd (fp := [bR]) (by omega) (fun c hc hcl => r5 c (by simpa using hc)) (fun c hc => by
    simp only [List.mem_singleton] at hc; subst hc
    exact bw _ (by simp [bmR]))
  have og5 := (og.ext eg').frame (h' := H5) fun c hc => r5 c (fun e => by have := bg c hc; omega)
  have frE : ∀ c ∈ fE ++ (f2 ++ f4), H5[c]? = H1[c]? := fun c hc => by
    rw [r5 c (fun e => dsj (e ▸ hc))]; exact x14.fr c (fr3 c hc)
  have key : (v.links.map DLink.cd).set k (putE v.links[k] (claimF l ta gi no).2.1).1.cd = (v.links.set k (putE v.links[k] (claimF l ta gi no).2.1).1).map DLink.cd := by rw [List.map_set]
  rw [key] at oL5
  obtain ⟨N, q1, q2, r1, r2, r3, r4', r5'⟩ := acc_fin oE o2 o4 nw hlt bw xh5 ew.len oL5 nL5 (fun c hc => by
    rcases mL5 c hc with g | g
    · exact .inl g
    · have := b' c g; exact .inr (by omega)) frE og5 ng bg (fun c hc hg => by
    have := og.lt c hg; have := bg c hg
    rcases mL5 c hc with g | g
    · have := hfL c g; omega
    · have := b' c g; omega)
  exact ⟨by simp only [List.all_cons, List.all_nil, EO, a3, b3, c3, d3, g4], _, w, N, q1, q2, by rw [ea], r1, by rw [ea]; exact r2, by rw [ea]; exact r3, r4', r5'⟩

end Go.Proofs.YtleddolmolkpfaaGreat

