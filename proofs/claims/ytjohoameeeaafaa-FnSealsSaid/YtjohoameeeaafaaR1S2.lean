import Derived.Test.YtjohoameeeaafaaR1S1
import Derived.Test.YtjohoameeeaafaaR1U
set_option linter.unusedVariables false
set_option linter.unusedSimpArgs false
namespace Go.Proofs.Ytjohoameeeaafaa
open Go.AM
set_option linter.unusedVariables false
set_option linter.unusedSimpArgs false
variable {Γ : Glob}
/-! Boxes with another brand. -/
theorem spec_DrawRebrand_T (bs : List Int) (hb : bs.length ≤ 1073741824) (h : AH) : T Try.prog Γ Fn.spec_DrawRebrand [.vs false 1 false (bs.map fun n => [.int .u8 n])] h fun v h' => ∃ (l : List DBox) (w : AV) (fp : List Nat) (n m q : Int), v = .tup [w, .int .i64 n, .int .i64 m, .int .i64 q] ∧ Own h' w (.sl 4 (l.map DBox.cd)) fp ∧ fp.Nodup ∧ (∀ c ∈ fp, h.length ≤ c) ∧ l.length ≤ 20 ∧ HExt h h' := by
  refine spec_DrawRebrand_e (aw_sound tabOK mixed [] _ _ _ ?_)
  unfold spec_DrawRebrand_c
  simp only [EV, EL, EB, EF, q_bx, if_true, if_false, Bool.false_eq_true, Nat.reduceAdd, Option.bind_some, Bool.not_true, Bool.not_false, Nat.reduceBEq, spec_DrawRebrand_r]
  refine TCall.ref (by simp only [EO]) (spec_l1New_T bs hb _) ?_
  rintro _ H1 ⟨b, rfl, c1, e1, hbh⟩
  replace e1 : HExt h H1 := e1
  replace hbh : h.length ≤ b := hbh
  simp only [EV, EL, EB, EF, q_bx, if_true, if_false, Bool.false_eq_true, Nat.reduceAdd, Option.bind_some, Bool.not_true, Bool.not_false, Nat.reduceBEq, spec_DrawRebrand_r]
  refine TCall.ref (by simp only [EO]) (spec_l32Any_T _ hb c1) ?_
  rintro w H2 ⟨l, fp, ho, nd, hbf, hfp, hl, d2⟩
  replace d2 : DrewX H1 H2 b bs := d2
  replace hfp : ∀ c ∈ fp, H1.length ≤ c := hfp
  obtain ⟨a1, a2, a3, a4⟩ := ho.cell
  simp only [EV, EL, EB, EF, q_bx, if_true, if_false, Bool.false_eq_true, Nat.reduceAdd, Option.bind_some, Bool.not_true, Bool.not_false, Nat.reduceBEq, spec_DrawRebrand_r]
  refine TCall.ref (by simp only [EO]) (l1Below_X _ hb d2.cur _) ?_
  rintro _ H3 ⟨n, rfl, n0, n1, d3⟩
  replace d3 : DrewX H2 H3 b bs := d3
  simp only [EV, EL, EB, EF, q_bx, if_true, if_false, Bool.false_eq_true, Nat.reduceAdd, Option.bind_some, Bool.not_true, Bool.not_false, Nat.reduceBEq, spec_DrawRebrand_r]
  refine TCall.ref (by simp only [EO]) (l1Below_X _ hb d3.cur _) ?_
  rintro _ H4 ⟨m, rfl, m0, m1, d4⟩
  replace d4 : DrewX H3 H4 b bs := d4
  simp only [EV, EL, EB, EF, q_bx, if_true, if_false, Bool.false_eq_true, Nat.reduceAdd, Option.bind_some, Bool.not_true, Bool.not_false, Nat.reduceBEq, spec_DrawRebrand_r]
  refine TCall.ref (by simp only [EO]) (l1Below_X _ hb d4.cur _) ?_
  rintro _ H5 ⟨q, rfl, q0, q1, d5⟩
  replace d5 : DrewX H4 H5 b bs := d5
  have d := ((d2.trans d3).trans d4).trans d5
  have ho5 := ((d3.trans d4).trans d5).own ho hbf
  have dl := d.len
  have el := e1.len
  simp only [EV, EL, EB, EF, q_bx, if_true, if_false, Bool.false_eq_true, Nat.reduceAdd, Option.bind_some, Bool.not_true, Bool.not_false, Nat.reduceBEq, spec_DrawRebrand_r, ER, a1, a2, a3, a4]
  exact ⟨by simp only [List.all_cons, List.all_nil, a4]; rfl, l, w, fp, n, m, q, rfl, ho5, nd, fun c hc => by have := hfp c hc; omega, hl, ⟨by omega, fun c hc => (d.fr c (by omega) (by omega)).trans (e1.fr c hc)⟩⟩
def rebrandF (l : List DBox) (frm to_ id : Int) : List DBox × Bool :=
  match (if 0 ≤ boxAtF l frm id then l[(boxAtF l frm id).toNat]? else none) with
  | none => (l, false)
  | some x => if areBoxesF (l.set (boxAtF l frm id).toNat ⟨x.id, to_, x.value⟩) = true then (l.set (boxAtF l frm id).toNat ⟨x.id, to_, x.value⟩, true) else (l, false)
theorem box_flat (l : List DBox) : (l.map DBox.cd).flatten.all CD.flat = true := by
  rw [List.all_flatten, List.all_eq_true]; intro y hy; obtain ⟨x, _, rfl⟩ := List.mem_map.1 hy; rfl
theorem box_flat_eq (l : List DBox) : (l.map (DBox.c false)).flatten = (l.map DBox.cd).flatten.map (CD.av false) := map_flat (fun x => (DBox.c_eq false x).symm) l
/-- A brand is written into a box of an owned list. -/
theorem set_brand {H : AH} {w : AV} {fp : List Nat} {l : List DBox} (o : Own H w (.sl 4 (l.map DBox.cd)) fp) {k : Nat} (hk : k < l.length) (to_ : Int) : ∃ p H', aIdxs 4 w (k : Int) = some p ∧ (∃ p2, aFld 1 p = some p2 ∧ ∀ (e : List AV) (L : List (List AV)), (St.mk e L H).store p2 [.int .i64 to_] = some ⟨e, L, H'⟩) ∧
    Own H' w (.sl 4 ((l.set k ⟨l[k].id, to_, l[k].value⟩).map DBox.cd)) fp ∧ H'.length = H.length ∧ ∀ c, c ∉ fp → H'[c]? = H[c]? := by
  rcases o.sl_inv with ⟨rfl, e, rfl⟩ | ⟨b, g, cap, ex, az, tail, fp', rfl, rfl, hg, hsz, ht, hc, hown⟩
  · have : l = [] := by simpa using e
    subst this; simp at hk
  have hz := (flat_asG (box_flat l) hown).trans (box_flat_eq l).symm
  subst hz
  have hfp' : fp' = [] := flat_nofp (box_flat l) hown
  subst hfp'
  have hbl : b < H.length := hget_lt hg
  have st := row_store1 (c := DBox.c false) (sz := 4) (fun x => rfl) hk ⟨l[k].id, to_, l[k].value⟩ tail (off := 1) (v := .int .i64 to_) (by omega) rfl rfl hg
  refine ⟨.gp b g (0 + k * 4), _, idx_gs (by simpa using hk), ⟨.gp b g (0 + k * 4 + 1), rfl, fun e L => by rw [Nat.zero_add]; exact st e L⟩, ?_, by simp, fun c hcn => List.getElem?_set_ne (fun e => hcn (by simp [e]))⟩
  have := Own.sl_mk (h := H.set b (some (g, ((l.set k ⟨l[k].id, to_, l[k].value⟩).map (DBox.c false)).flatten ++ tail))) (b := b) (g := g) (cap := cap) (sz := 4) (ex := ex) («as» := ((l.set k ⟨l[k].id, to_, l[k].value⟩).map (DBox.c false)).flatten) (tail := tail) (xs := (l.set k ⟨l[k].id, to_, l[k].value⟩).map DBox.cd) (fp := [])
    (by simp [hget, hbl]) (fun y hy => by obtain ⟨x, _, rfl⟩ := List.mem_map.1 hy; rfl) ht (by simpa using hc) (by rw [box_flat_eq]; exact flat_ownL false (box_flat _))
  simpa using this

theorem boxAt_lt {l : List DBox} {frm id : Int} (h : ¬ boxAtF l frm id < 0) : ∃ k : Nat, boxAtF l frm id = (k : Int) ∧ k < l.length := by
  unfold boxAtF at h ⊢
  split at h
  · rename_i b hb
    split at h
    · rename_i hbr
      rw [if_pos hbr]
      rcases idxI_cases (fun b : DBox => b.id == id) l with ⟨k, hk, e1, _, _⟩ | ⟨e1, _, _⟩
      · exact ⟨k, e1, hk⟩
      · omega
    · omega
  · omega
theorem rebrand_neg {l : List DBox} {frm to_ id : Int} (h : boxAtF l frm id < 0) : rebrandF l frm to_ id = (l, false) := by
  unfold rebrandF; rw [if_neg (by omega)]
theorem rebrand_pos {l : List DBox} {frm to_ id : Int} {k : Nat} (h : boxAtF l frm id = (k : Int)) (hk : k < l.length) : rebrandF l frm to_ id = if areBoxesF (l.set k ⟨l[k].id, to_, l[k].value⟩) = true then (l.set k ⟨l[k].id, to_, l[k].value⟩, true) else (l, false) := by
  unfold rebrandF; rw [h, if_pos (by omega)]; simp [hk]

theorem impl_Rebrand_T (β : Bool) (l : List DBox) (hl : l.length ≤ 1048576) (frm to_ id : Int) (h : AH) : T Try.prog Γ Fn.impl_Rebrand [.vs β 4 false (l.map (DBox.c β)), .int .i64 frm, .int .i64 to_, .int .i64 id] h (Fresh h [.c (.sl 4 ((rebrandF l frm to_ id).1.map DBox.cd)), .c (.b (rebrandF l frm to_ id).2)]) := by
  refine T.freshC2 rfl ?_
  refine impl_Rebrand_e (aw_sound tabOK mixed [] _ _ _ ?_)
  unfold impl_Rebrand_c
  simp only [EV, EL, EB, EF, q_bx, if_true, if_false, Bool.false_eq_true, Nat.reduceAdd, Option.bind_some, Bool.not_true, Bool.not_false, Nat.reduceBEq, impl_Rebrand_r]
  refine TCall.ref (by simp only [EO]) (clone_Box β l (by omega) _) ?_
  rintro w H1 fr
  replace fr : Fresh h _ _ _ := fr
  obtain ⟨fw, ow, nw, bw, ew⟩ := fr.c1
  obtain ⟨c1, c2, c3, c4⟩ := ow.cell
  simp only [EV, EL, EB, EF, q_bx, if_true, if_false, Bool.false_eq_true, Nat.reduceAdd, Option.bind_some, Bool.not_true, Bool.not_false, Nat.reduceBEq, impl_Rebrand_r]
  refine TCall.val (by simp only [EO]) (impl_boxAt_T β l (by omega) frm id _) ?_
  by_cases hn : boxAtF l frm id < 0
  · have es := rebrand_neg (to_ := to_) hn
    simp only [EV, EL, EB, EF, q_bx, if_true, if_false, Bool.false_eq_true, Nat.reduceAdd, Option.bind_some, Bool.not_true, Bool.not_false, Nat.reduceBEq, impl_Rebrand_r, ER, decide_eq_true hn, c1, c2, c3]
    obtain ⟨N, rfl⟩ := ew.out
    exact ⟨by simp only [List.all_cons, List.all_nil, c4]; rfl, w, N, fw, by rw [es, CD.av_b], rfl, by rw [es]; exact ow, nw, bw⟩
  obtain ⟨k, ek, hk⟩ := boxAt_lt hn
  have es := rebrand_pos (to_ := to_) ek hk
  obtain ⟨p, H2, i1, ⟨p2, f1, st⟩, o2, hl2, hf2⟩ := set_brand ow hk to_
  have ex2 : HExt h H2 := ew.mark hl2 hf2 bw
  obtain ⟨d1, d2, d3, d4⟩ := o2.cell
  simp only [EV, EL, EB, EF, q_bx, if_true, if_false, Bool.false_eq_true, Nat.reduceAdd, Option.bind_some, Bool.not_true, Bool.not_false, Nat.reduceBEq, impl_Rebrand_r, ek, decide_eq_false (show ¬ (k : Int) < 0 by omega), i1, f1, st]
  refine TCall.see (by simp only [EO, d4]) (snap_c (Own.see (DBox.c_eq true) o2) snap_n) (fun h => impl_areBoxes_T true (l.set k ⟨l[k].id, to_, l[k].value⟩) (by simp; omega) h) (.bool _) ?_
  cases cb : areBoxesF (l.set k ⟨l[k].id, to_, l[k].value⟩)
  · rw [cb] at es
    simp only [EV, EL, EB, EF, q_bx, if_true, if_false, Bool.false_eq_true, Nat.reduceAdd, Option.bind_some, Bool.not_true, Bool.not_false, Nat.reduceBEq, impl_Rebrand_r]
    refine TCall.ref (by simp only [EO]) (clone_Box β l (by omega) _) ?_
    rintro w2 H3 fr
    replace fr : Fresh H2 _ _ _ := fr
    obtain ⟨f3, o3, n3, b3, e3⟩ := fr.c1
    obtain ⟨g1, g2, g3, g4⟩ := o3.cell
    simp only [EV, EL, EB, EF, q_bx, if_true, if_false, Bool.false_eq_true, Nat.reduceAdd, Option.bind_some, Bool.not_true, Bool.not_false, Nat.reduceBEq, impl_Rebrand_r, ER, g1, g2, g3]
    obtain ⟨N, rfl⟩ := (ex2.trans e3).out
    exact ⟨by simp only [List.all_cons, List.all_nil, g4]; rfl, w2, N, f3, by rw [es, CD.av_b]; rfl, rfl, by rw [es]; exact o3, n3, fun c hc => by have := b3 c hc; have := ex2.len; omega⟩
  rw [cb] at es
  simp only [EV, EL, EB, EF, q_bx, if_true, if_false, Bool.false_eq_true, Nat.reduceAdd, Option.bind_some, Bool.not_true, Bool.not_false, Nat.reduceBEq, impl_Rebrand_r, ER, d1, d2, d3]
  obtain ⟨N, rfl⟩ := ex2.out
  exact ⟨by simp only [List.all_cons, List.all_nil, d4]; rfl, w, N, fw, by rw [es, CD.av_b]; rfl, rfl, by rw [es]; exact o2, nw, bw⟩

theorem spec_Rebrand_T (β : Bool) (l : List DBox) (hl : l.length ≤ 1048576) (frm to_ id : Int) (h : AH) : T Try.prog Γ Fn.spec_Rebrand [.vs β 4 false (l.map (DBox.c β)), .int .i64 frm, .int .i64 to_, .int .i64 id] h (Fresh h [.c (.sl 4 ((rebrandF l frm to_ id).1.map DBox.cd)), .c (.b (rebrandF l frm to_ id).2)]) := by
  refine T.freshC2 rfl ?_
  refine spec_Rebrand_e (aw_sound tabOK mixed [] _ _ _ ?_)
  unfold spec_Rebrand_c
  simp only [EV, EL, EB, EF, q_bx, if_true, if_false, Bool.false_eq_true, Nat.reduceAdd, Option.bind_some, Bool.not_true, Bool.not_false, Nat.reduceBEq, spec_Rebrand_r]
  refine TCall.ref (by simp only [EO]) (spec_l32Copy_T β l (by omega) _) ?_
  rintro w H1 fr
  replace fr : Fresh h _ _ _ := fr
  obtain ⟨fw, ow, nw, bw, ew⟩ := fr.c1
  obtain ⟨c1, c2, c3, c4⟩ := ow.cell
  simp only [EV, EL, EB, EF, q_bx, if_true, if_false, Bool.false_eq_true, Nat.reduceAdd, Option.bind_some, Bool.not_true, Bool.not_false, Nat.reduceBEq, spec_Rebrand_r]
  refine TCall.val (by simp only [EO]) (spec_l32Find_T β l (by omega) id _) ?_
  rcases idxI_cases (fun b : DBox => b.id == id) l with ⟨k, hk, e1, e2, e3⟩ | ⟨e1, e2, e3⟩
  rotate_left
  · have hn : boxAtF l frm id < 0 := by unfold boxAtF; rw [e2]; simp
    have es := rebrand_neg (to_ := to_) hn
    simp only [EV, EL, EB, EF, q_bx, if_true, if_false, Bool.false_eq_true, Nat.reduceAdd, Option.bind_some, Bool.not_true, Bool.not_false, Nat.reduceBEq, spec_Rebrand_r, ER, e1, show decide ((-1 : Int) < 0) = true from rfl, c1, c2, c3]
    obtain ⟨N, rfl⟩ := ew.out
    exact ⟨by simp only [List.all_cons, List.all_nil, c4]; rfl, w, N, fw, by rw [es, CD.av_b], rfl, by rw [es]; exact ow, nw, bw⟩
  have i0 := idx_vm (β := β) (sz := 4) (ex := false) (ce := DBox.c β) hk
  have hk0 : decide ((k : Int) < 0) = false := decide_eq_false (by omega)
  by_cases hb : l[k].brand = frm
  rotate_left
  · have hn : boxAtF l frm id < 0 := by unfold boxAtF; rw [e3]; simp [hb]
    have es := rebrand_neg (to_ := to_) hn
    simp only [EV, EL, EB, EF, q_bx, if_true, if_false, Bool.false_eq_true, Nat.reduceAdd, Option.bind_some, Bool.not_true, Bool.not_false, Nat.reduceBEq, spec_Rebrand_r, ER, e1, hk0, i0, DBox.c, ne_int, decide_eq_false hb, c1, c2, c3]
    obtain ⟨N, rfl⟩ := ew.out
    exact ⟨by simp only [List.all_cons, List.all_nil, c4]; rfl, w, N, fw, by rw [es, CD.av_b], rfl, by rw [es]; exact ow, nw, bw⟩
  have ek : boxAtF l frm id = (k : Int) := by unfold boxAtF; rw [e3]; simp [hb, e1]
  have es := rebrand_pos (to_ := to_) ek hk
  obtain ⟨p, H2, i1, ⟨p2, f1, st⟩, o2, hl2, hf2⟩ := set_brand ow hk to_
  have ex2 : HExt h H2 := ew.mark hl2 hf2 bw
  obtain ⟨d1, d2, d3, d4⟩ := o2.cell
  simp only [EV, EL, EB, EF, q_bx, if_true, if_false, Bool.false_eq_true, Nat.reduceAdd, Option.bind_some, Bool.not_true, Bool.not_false, Nat.reduceBEq, spec_Rebrand_r, e1, hk0, i0, DBox.c, ne_int, decide_eq_true hb, i1, f1, st]
  refine TCall.see (by simp only [EO, d4]) (snap_c (Own.see (DBox.c_eq true) o2) snap_n) (fun h => spec_AreBoxes_T true (l.set k ⟨l[k].id, to_, l[k].value⟩) (by simp; omega) h) (.bool _) ?_
  cases cb : areBoxesF (l.set k ⟨l[k].id, to_, l[k].value⟩)
  · rw [cb] at es
    simp only [EV, EL, EB, EF, q_bx, if_true, if_false, Bool.false_eq_true, Nat.reduceAdd, Option.bind_some, Bool.not_true, Bool.not_false, Nat.reduceBEq, spec_Rebrand_r]
    refine TCall.ref (by simp only [EO]) (spec_l32Copy_T β l (by omega) _) ?_
    rintro w2 H3 fr
    replace fr : Fresh H2 _ _ _ := fr
    obtain ⟨f3, o3, n3, b3, e3⟩ := fr.c1
    obtain ⟨g1, g2, g3, g4⟩ := o3.cell
    simp only [EV, EL, EB, EF, q_bx, if_true, if_false, Bool.false_eq_true, Nat.reduceAdd, Option.bind_some, Bool.not_true, Bool.not_false, Nat.reduceBEq, spec_Rebrand_r, ER, g1, g2, g3]
    obtain ⟨N, rfl⟩ := (ex2.trans e3).out
    exact ⟨by simp only [List.all_cons, List.all_nil, g4]; rfl, w2, N, f3, by rw [es, CD.av_b]; rfl, rfl, by rw [es]; exact o3, n3, fun c hc => by have := b3 c hc; have := ex2.len; omega⟩
  rw [cb] at es
  simp only [EV, EL, EB, EF, q_bx, if_true, if_false, Bool.false_eq_true, Nat.reduceAdd, Option.bind_some, Bool.not_true, Bool.not_false, Nat.reduceBEq, spec_Rebrand_r, ER, d1, d2, d3]
  obtain ⟨N, rfl⟩ := ex2.out
  exact ⟨by simp only [List.all_cons, List.all_nil, d4]; rfl, w, N, fw, by rw [es, CD.av_b]; rfl, rfl, by rw [es]; exact o2, nw, bw⟩

end Go.Proofs.Ytjohoameeeaafaa
