import Derived.Test.YtleddolmolkpfaaR4SP
set_option linter.unusedVariables false
set_option linter.unusedSimpArgs false
namespace Go.Proofs.Ytleddolmolkpfaa
open Go.AM
set_option linter.unusedVariables false
set_option linter.unusedSimpArgs false
variable {Γ : Glob}
theorem DLink.c_noLp' (β : Bool) (l : DLink) : (l.c β).all noLp = true := rfl
theorem impl_PutExport_T (β : Bool) (l : DLink) (hl : l.ok 1048576) (en : Int) (h : AH) : T Try.prog Γ Fn.impl_PutExport [.agg (l.c β), .int .i64 en] h (Fresh h [.a (putE l en).1.cd, .c (.i .i64 (putE l en).2)]) := by
  refine T.freshA2 rfl ?_
  refine impl_PutExport_e (aw_sound tabOK mixed [6] _ _ _ ?_)
  unfold impl_PutExport_c
  have al := fun (s : St) => alloc_g s _ (show List.all [AV.int .i64 0, .bool false, .nils, .int .i64 0, .nils, .int .i64 0, .nils] noLp = true from rfl)
  simp only [EV, EL, EB, EF, q_bx, if_true, if_false, Bool.false_eq_true, Nat.reduceAdd, Option.bind_some, Bool.not_true, Bool.not_false, Nat.reduceBEq, impl_PutExport_r, EB2, ER, DLink.c, al, push_s]
  refine TCall.ref (by simp only [EO]) (impl_Link_copied_T β l hl _) ?_
  rintro _ H1 fr
  replace fr : Fresh h _ _ _ := fr
  obtain ⟨aw, fw, rfl, ow, nw, bw, ew⟩ := fr.a1
  obtain ⟨wX, w4, w6, fX, f4, f6, rfl, rfl, oX, o4, o6⟩ := link_cells ow
  obtain ⟨a1, a2, a3, a4⟩ := oX.cell
  obtain ⟨b1, b2, b3, b4⟩ := o4.cell
  obtain ⟨c1, c2, c3, c4⟩ := o6.cell
  have st := fun (e : List AV) (L : List (List AV)) => store_last (e := e) (l := L) (h := H1) (cs := [.int .i64 0, .bool false, .nils, .int .i64 0, .nils, .int .i64 0, .nils]) (vs := [.int .i64 l.peer, .bool l.up, wX, .int .i64 l.next, w4, .int .i64 l.asked, w6]) (off := 0) (by simp) (by simp only [all_c1, all_n1, nn_i', nn_b', a3, b3, c3, Bool.and_self])
  simp only [EV, EL, EB, EF, q_bx, if_true, if_false, Bool.false_eq_true, Nat.reduceAdd, Option.bind_some, Bool.not_true, Bool.not_false, Nat.reduceBEq, impl_PutExport_r, EB2, ER, DLink.c, a1, a2, a3, b1, b2, b3, c1, c2, c3, al, push_s, st]
  have hov : over [.int .i64 0, .bool false, .nils, .int .i64 0, .nils, .int .i64 0, .nils] 0 [AV.int .i64 l.peer, .bool l.up, wX, .int .i64 l.next, w4, .int .i64 l.asked, w6] = [AV.int .i64 l.peer, .bool l.up, wX, .int .i64 l.next, w4, .int .i64 l.asked, w6] := rfl
  rw [hov]
  have lw := fun c hc => ow.lt c hc
  have mi : Mid (H1 ++ [some (0, [AV.int .i64 l.peer, .bool l.up, wX, .int .i64 l.next, w4, .int .i64 l.asked, w6])]) H1.length 0 [] [AV.int .i64 l.peer, .bool l.up, wX, .int .i64 l.next, w4, .int .i64 l.asked, w6] [] := Mid.nil (hget_last _ _)
  refine TCall.ref (by simp only [EO]) (impl_Link_put_T l hl.1 en _ mi ow.grow nw (fun hm => by have := lw _ hm; omega)) ?_
  rintro _ H2 ⟨rfl, l2, row', f', m2, o2, n2, s2, r2⟩
  replace l2 : H1.length + 1 ≤ H2.length := by simpa using l2
  obtain ⟨wX', w4', w6', fX', f4', f6', rfl, rfl, oX', o4', o6'⟩ := link_cells o2
  obtain ⟨a1, a2, a3, a4⟩ := oX'.cell
  obtain ⟨b1, b2, b3, b4⟩ := o4'.cell
  obtain ⟨c1, c2, c3, c4⟩ := o6'.cell
  have ld : ∀ (e : List AV) (L : List (List AV)) (n : Nat), n ≤ 7 → (St.mk e L H2).cells (.gp H1.length 0 0) n = sub [AV.int .i64 (putE l en).1.peer, .bool (putE l en).1.up, wX', .int .i64 (putE l en).1.next, w4', .int .i64 (putE l en).1.asked, w6'] 0 n := fun e L n hn => m2.cells0 e L n hn
  simp only [EV, EL, EB, EF, q_bx, if_true, if_false, Bool.false_eq_true, Nat.reduceAdd, Option.bind_some, Bool.not_true, Bool.not_false, Nat.reduceBEq, impl_PutExport_r, EB2, ER, a1, a2, a3, b1, b2, b3, c1, c2, c3, ld, Nat.le_refl]
  have hx : HExt h H2 := ew.upd (fp := fX ++ (f4 ++ f6)) (by omega) (fun c hc hcl => by
    rw [r2 c hc (by omega) (by simp; omega)]; exact List.getElem?_append_left hcl) bw
  obtain ⟨N, hN⟩ := hx.out
  exact ⟨by simp only [List.all_cons, List.all_nil, EO, a3, b3, c3], _, N, _, by rw [CD.av_i], hN, o2, n2, fun c hc => by
    rcases s2 c hc with g | g
    · exact bw c g
    · have := ew.len; simp at g; omega⟩
def posF (l : DLink) (e : Int) : Int := match l.exports.find? (fun x => x.entity == e) with | some x => x.pos | none => 0
theorem impl_PosOf_T (β : Bool) (l : DLink) (hl : l.exports.length ≤ 1048576) (en : Int) (h : AH) : T Try.prog Γ Fn.impl_PosOf [.agg (l.c β), .int .i64 en] h fun v h' => v = .int .i64 (posF l en) ∧ h' = h := by
  refine (?_ : T Try.prog Γ Fn.impl_PosOf _ h fun v h' => v = .int .i64 (posF l en) ∧ ∃ N, h' = h ++ N).drop (by rintro v h' ⟨rfl, N, rfl⟩; exact ⟨N, rfl, .int _ _, rfl, rfl⟩)
  refine impl_PosOf_e (aw_sound tabOK mixed [2] _ _ _ ?_)
  unfold impl_PosOf_c
  simp only [EV, EL, EB, EF, q_bx, if_true, if_false, Bool.false_eq_true, Nat.reduceAdd, Option.bind_some, Bool.not_true, Bool.not_false, Nat.reduceBEq, impl_PosOf_r, box_g _ _ (DLink.c_noLp' β l), push_s]
  have hp : Ptr (h ++ [some (0, l.c β)]) (.gp h.length 0 0) (l.c β) := Ptr.gp0 (hget_last _ _)
  refine TCall.val (by simp only [EO]) (impl_Link_of_T β l hl en _ hp) ?_
  rcases idxI_cases (fun x : DExport => x.entity == en) l.exports with ⟨k, hk, e1, e2, e3⟩ | ⟨e1, e2, e3⟩
  · have i0 := idx_vm (β := β) (sz := 3) (ex := false) (ce := DExport.c β) hk
    simp only [EV, EL, EB, EF, q_bx, if_true, if_false, Bool.false_eq_true, Nat.reduceAdd, Option.bind_some, Bool.not_true, Bool.not_false, Nat.reduceBEq, impl_PosOf_r, e1, decide_eq_true (show (k : Int) ≥ 0 by omega), cells_last, DLink.c, i0, DExport.c]
    exact ⟨rfl, by simp only [posF, e3], _, rfl⟩
  · simp only [EV, EL, EB, EF, q_bx, if_true, if_false, Bool.false_eq_true, Nat.reduceAdd, Option.bind_some, Bool.not_true, Bool.not_false, Nat.reduceBEq, impl_PosOf_r, e1, show decide ((-1 : Int) ≥ 0) = false from rfl]
    exact ⟨rfl, by simp only [posF, e2], _, rfl⟩
theorem spec_PosOf_T (β : Bool) (l : DLink) (hl : l.exports.length ≤ 1048576) (en : Int) (h : AH) : T Try.prog Γ Fn.spec_PosOf [.agg (l.c β), .int .i64 en] h fun v h' => v = .int .i64 (posF l en) ∧ h' = h := by
  have L0 := len_vm β 3 false l.exports (DExport.c β)
  refine spec_PosOf_e (aw_sound tabOK mixed [] _ _ _ ?_)
  unfold spec_PosOf_c
  simp only [EV, EL, EB, EF, q_bx, if_true, if_false, Bool.false_eq_true, Nat.reduceAdd, Option.bind_some, Bool.not_true, Bool.not_false, Nat.reduceBEq, spec_PosOf_r]
  refine loopI tabOK mixed [] (fun k : Nat => k ≤ l.exports.length ∧ ∀ (i : Nat) (hi : i < l.exports.length), i < k → (l.exports[i].entity == en) = false) (fun k => l.exports.length - k)
    (fun k => spec_PosOf_s0 (.int .i64 en) (.lp ([] : List (List AV)).length 0) (.int .i64 k) (([] : List (List AV)) ++ [l.c β]) h) 0 ⟨by omega, fun i hi h => by omega⟩ ⟨by simp [spec_PosOf_s0, LeL, LeV], rfl, rfl⟩ ?_
  rintro k ⟨hk, ht⟩
  simp only [EV, EL, EB, EF, q_bx, if_true, if_false, Bool.false_eq_true, Nat.reduceAdd, Option.bind_some, Bool.not_true, Bool.not_false, Nat.reduceBEq, spec_PosOf_r, spec_PosOf_s0, DLink.c, L0]
  refine c_split (fun hlt => ?_) (fun hge => ?_)
  · have hlt : k < l.exports.length := by simpa using hlt
    have i0 := idx_vm (β := β) (sz := 3) (ex := false) (ce := DExport.c β) hlt
    cases hp : l.exports[k].entity == en
    · simp only [EV, EL, EB, EF, q_bx, if_true, if_false, Bool.false_eq_true, Nat.reduceAdd, Option.bind_some, Bool.not_true, Bool.not_false, Nat.reduceBEq, spec_PosOf_r, i0, DLink.c, DExport.c, hp]
      exact ⟨k + 1, ⟨hlt, step_lt (P := fun x : DExport => (x.entity == en) = false) ht hp⟩, by omega, ⟨by rw [wN (by omega)]; simp [spec_PosOf_s0, LeL, LeV], rfl, rfl⟩⟩
    · simp only [EV, EL, EB, EF, q_bx, if_true, if_false, Bool.false_eq_true, Nat.reduceAdd, Option.bind_some, Bool.not_true, Bool.not_false, Nat.reduceBEq, spec_PosOf_r, i0, DLink.c, DExport.c, hp]
      exact ⟨rfl, by simp only [posF, find_at (p := fun x : DExport => x.entity == en) hlt ht hp]⟩
  · have hge : k = l.exports.length := by simp at hge; omega
    subst hge
    simp only [EV, EL, EB, EF, q_bx, if_true, if_false, Bool.false_eq_true, Nat.reduceAdd, Option.bind_some, Bool.not_true, Bool.not_false, Nat.reduceBEq, spec_PosOf_r]
    exact ⟨rfl, by simp only [posF, find_none (p := fun x : DExport => x.entity == en) ht]⟩
def askE (l : DLink) (p : Int) : DLink × Int := ({ l with asked := IntKind.i64.wrap (l.asked + 1), questions := l.questions ++ [⟨IntKind.i64.wrap (l.asked + 1), p⟩] }, IntKind.i64.wrap (l.asked + 1))
set_option maxHeartbeats 1000000 in
theorem impl_Link_ask_T (l : DLink) (hl : l.questions.length ≤ 1048576) (en : Int) (H : AH) {b g : Nat} {pre row post : List AV} {f : List Nat} (m : Mid H b g pre row post) (o : OwnL H row l.cd f) (nd : f.Nodup) (hb : b ∉ f) :
    T Try.prog Γ Fn.impl_Link_ask [.gp b g pre.length, .int .i64 en] H fun v h' => v = .int .i64 (askE l en).2 ∧ H.length ≤ h'.length ∧ ∃ row' f', Mid h' b g pre row' post ∧ OwnL h' row' (askE l en).1.cd f' ∧ f'.Nodup ∧ (∀ c ∈ f', c ∈ f ∨ H.length ≤ c) ∧ (∀ c, c ∉ f → c ≠ b → c < H.length → h'[c]? = H[c]?) := by
  have bl := m.lt
  obtain ⟨wX, w4, w6, fX, f4, f6, rfl, rfl, oX, o4, o6⟩ := link_cells o
  obtain ⟨nX, n46, dX⟩ := List.nodup_append.1 nd
  obtain ⟨n4, n6, d46⟩ := List.nodup_append.1 n46
  have f4' : aFld 4 (.gp b g pre.length) = some (.gp b g (pre.length + 4)) := rfl
  have f5' : aFld 5 (.gp b g pre.length) = some (.gp b g (pre.length + 5)) := rfl
  have m5 : ∀ (e : List AV) (L : List (List AV)), (St.mk e L H).cells (.gp b g (pre.length + 5)) 1 = some [.int .i64 l.asked] := fun e L => m.cells e L 5 1 (by simp)
  obtain ⟨H1, s1, m1, l1, r1⟩ := m.store (i := 5) (vs := [.int .i64 (IntKind.i64.wrap (l.asked + 1))]) (by simp) rfl
  have ov : over [.int .i64 l.peer, .bool l.up, wX, .int .i64 l.next, w4, .int .i64 l.asked, w6] 5 [.int .i64 (IntKind.i64.wrap (l.asked + 1))] = [.int .i64 l.peer, .bool l.up, wX, .int .i64 l.next, w4, .int .i64 (IntKind.i64.wrap (l.asked + 1)), w6] := rfl
  rw [ov] at m1
  have o41 := o4.frame (h' := H1) fun c hc => r1 c (fun e => hb (by rw [← e]; simp [hc]))
  have q4 : ∀ (e : List AV) (L : List (List AV)), (St.mk e L H1).cells (.gp b g (pre.length + 4)) 1 = some [w4] := fun e L => m1.cells e L 4 1 (by simp)
  have q5 : ∀ (e : List AV) (L : List (List AV)), (St.mk e L H1).cells (.gp b g (pre.length + 5)) 1 = some [.int .i64 (IntKind.i64.wrap (l.asked + 1))] := fun e L => m1.cells e L 5 1 (by simp)
  obtain ⟨v', H', fp', ea, o', nd', hf', hl', hm'⟩ := app_ext (bytes := 16) o41 (ys := [.int .i64 (IntKind.i64.wrap (l.asked + 1)), .int .i64 en]) (row := [.i .i64 (IntKind.i64.wrap (l.asked + 1)), .i .i64 en]) (f2 := []) (by simpa using n4) (by omega) rfl (.i (.i .nil)) (by simp only [List.length_map, maxMade]; omega)
  obtain ⟨cv1, cv2, cv3, cv4⟩ := o'.cell
  obtain ⟨c41, c42, c43, c44⟩ := o4.cell
  have mH := m1.frame (hf' b (fun h => hb (by simp [h])) (by omega))
  have hbv : b ∉ fp' := fun h => by
    rcases hm' b h with g | g | g
    · exact hb (by simp [g])
    · simp at g
    · omega
  obtain ⟨H3, s3, m3', l3, r3⟩ := mH.store (i := 4) (vs := [v']) (by simp) (by simp only [all_c1, all_n1, cv3, Bool.and_self])
  have ov2 : over [.int .i64 l.peer, .bool l.up, wX, .int .i64 l.next, w4, .int .i64 (IntKind.i64.wrap (l.asked + 1)), w6] 4 [v'] = [.int .i64 l.peer, .bool l.up, wX, .int .i64 l.next, v', .int .i64 (IntKind.i64.wrap (l.asked + 1)), w6] := rfl
  rw [ov2] at m3'
  have q6 : ∀ (e : List AV) (L : List (List AV)), (St.mk e L H3).cells (.gp b g (pre.length + 5)) 1 = some [.int .i64 (IntKind.i64.wrap (l.asked + 1))] := fun e L => m3'.cells e L 5 1 (by simp)
  refine impl_Link_ask_e (aw_sound tabOK mixed [] _ _ _ ?_)
  unfold impl_Link_ask_c
  simp only [EV, EL, EB, EF, q_bx, if_true, if_false, Bool.false_eq_true, Nat.reduceAdd, Option.bind_some, Bool.not_true, Bool.not_false, Nat.reduceBEq, impl_Link_ask_r, impl_Link_ask_d0_q, EA, f4', f5', m5, s1, q4, q5, p_build, fl_n, bm_n, om_s, c41, c42, c43]
  simp only [EV, EL, EB, EF, q_bx, if_true, if_false, Bool.false_eq_true, Nat.reduceAdd, Option.bind_some, Bool.not_true, Bool.not_false, Nat.reduceBEq, impl_Link_ask_r, impl_Link_ask_d0_q, EA, ea, s3, q6, cv1, cv2, cv3]
  have ap : ∀ c ∈ fX ++ f6, H3[c]? = H[c]? := fun c hc => by
    have h1 : c < H.length := by
      rcases List.mem_append.1 hc with g | g
      · exact oX.lt c g
      · exact o6.lt c g
    have h4 : c ∉ f4 := fun h4 => by
      rcases List.mem_append.1 hc with g | g
      · exact dX c g c (by simp [h4]) rfl
      · exact d46 c h4 c g rfl
    have h2 : c ≠ b := fun e => hb (by
      rw [← e]
      rcases List.mem_append.1 hc with g | g
      · simp [g]
      · simp [g])
    rw [r3 c h2, hf' c h4 (by omega), r1 c h2]
  have oX' := oX.frame (h' := H3) fun c hc => ap c (by simp [hc])
  have o6' := o6.frame (h' := H3) fun c hc => ap c (by simp [hc])
  have o43 := o'.frame (h' := H3) fun c hc => r3 c (fun e => hbv (by rw [← e]; exact hc))
  refine ⟨rfl, rfl, by omega, _, fX ++ (fp' ++ f6), m3', ?_, List.nodup_append.2 ⟨nX, List.nodup_append.2 ⟨nd', n6, fun x hx y hy e => ?_⟩, fun x hx y hy e => ?_⟩, fun c hc => ?_, fun c hc hcb hcl => ?_⟩
  · exact link_own (l := (askE l en).1) oX' (by simpa [askE, DQuestion.cd] using o43) o6'
  · subst e
    rcases hm' x hx with g | g | g
    · exact d46 x g x hy rfl
    · simp at g
    · have := o6.lt x hy; omega
  · subst e
    rcases List.mem_append.1 hy with q | q
    · rcases hm' x q with g | g | g
      · exact dX x hx x (by simp [g]) rfl
      · simp at g
      · have := oX.lt x hx; omega
    · exact dX x hx x (by simp [q]) rfl
  · simp only [List.mem_append] at hc ⊢
    rcases hc with q | q | q
    · exact .inl (.inl q)
    · rcases hm' c q with g | g | g
      · exact .inl (.inr (.inl g))
      · simp at g
      · exact .inr (by omega)
    · exact .inl (.inr (.inr q))
  · rw [r3 c hcb, hf' c (fun h => hc (by simp [h])) (by omega), r1 c hcb]

end Go.Proofs.Ytleddolmolkpfaa

