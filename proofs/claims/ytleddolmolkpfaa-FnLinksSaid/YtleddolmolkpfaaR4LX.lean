import Derived.Test.YtleddolmolkpfaaR4LR
import Derived.Test.YtleddolmolkpfaaAmRows
set_option linter.unusedVariables false
set_option linter.unusedSimpArgs false
namespace Go.Proofs.Ytleddolmolkpfaa
open Go.AM
set_option linter.unusedVariables false
set_option linter.unusedSimpArgs false
variable {Γ : Glob}
theorem DQuestion.ne (x y : DQuestion) : aBin .neq (.agg [.int .i64, .int .i64]) (.agg [.int .i64 x.id, .int .i64 x.promise]) (.agg [.int .i64 y.id, .int .i64 y.promise]) = some (.bool !decide (x = y)) := by rw [ne_agg2]; simp only [DQuestion.dec]
theorem DExport.ne (x y : DExport) : aBin .neq (.agg [.int .i64, .int .i64, .int .i64]) (.agg [.int .i64 x.pos, .int .i64 x.entity, .int .i64 x.count]) (.agg [.int .i64 y.pos, .int .i64 y.entity, .int .i64 y.count]) = some (.bool !decide (x = y)) := by rw [ne_agg3]; simp only [DExport.dec]
theorem slices_Equal_Export_T (β β' : Bool) (l m : List DExport) (hl : l.length ≤ 1073741824) (h : AH) : T Try.prog Γ Fn.slices_Equal_iimpl_Export_impl_Export [.vs β 3 false (l.map (DExport.c β)), .vs β' 3 false (m.map (DExport.c β'))] h fun v h' => v = .bool (decide (l = m)) ∧ h' = h :=
  equal_D (sz := 3) (agg := true) (ek := .agg [.int .i64, .int .i64, .int .i64]) tabOK mixed (fun hw => slices_Equal_iimpl_Export_impl_Export_e hw) (by omega) (fun x => ⟨rfl, .inl rfl⟩) (fun x => ⟨rfl, .inl rfl⟩) (fun x y => DExport.ne x y)
theorem slices_Equal_Question_T (β β' : Bool) (l m : List DQuestion) (hl : l.length ≤ 1073741824) (h : AH) : T Try.prog Γ Fn.slices_Equal_iimpl_Question_impl_Question [.vs β 2 false (l.map (DQuestion.c β)), .vs β' 2 false (m.map (DQuestion.c β'))] h fun v h' => v = .bool (decide (l = m)) ∧ h' = h :=
  equal_D (sz := 2) (agg := true) (ek := .agg [.int .i64, .int .i64]) tabOK mixed (fun hw => slices_Equal_iimpl_Question_impl_Question_e hw) (by omega) (fun x => ⟨rfl, .inl rfl⟩) (fun x => ⟨rfl, .inl rfl⟩) (fun x y => DQuestion.ne x y)

def delQ (i : Int) (q : DQuestion) : Bool := q.id == i
def dropQ (l : List DQuestion) (i : Int) : List DQuestion := l.filter fun q => !delQ i q
def zeroQ : DQuestion := ⟨0, 0⟩
theorem filter_all {α : Type} {p : α → Bool} : ∀ {l : List α}, (∀ x ∈ l, p x = true) → l.filter p = l
  | [], _ => rfl
  | x :: l, h => by simp only [List.filter_cons, h x (by simp), if_true]; rw [filter_all fun y hy => h y (List.mem_cons_of_mem _ hy)]
theorem Question_flat (l : List DQuestion) : (l.map DQuestion.cd).flatten.all CD.flat = true := by
  rw [List.all_flatten, List.all_eq_true]; intro y hy; obtain ⟨x, _, rfl⟩ := List.mem_map.1 hy; rfl
theorem Question_flat_eq (l : List DQuestion) : (l.map (DQuestion.c false)).flatten = (l.map DQuestion.cd).flatten.map (CD.av false) := map_flat (fun x => (DQuestion.c_eq false x).symm) l
theorem impl_DropEntry_1_T (β : Bool) (x : DQuestion) (vat : Int) (H : AH) {p : AV} (hp : Ptr H p [.int .i64 vat]) : T Try.prog Γ Fn.impl_DropEntry_1 [.agg (x.c β), p] H fun v h' => v = .bool (delQ vat x) ∧ h' = H := by
  refine impl_DropEntry_1_e (aw_sound tabOK mixed [] _ _ _ ?_)
  unfold impl_DropEntry_1_c
  have hc : ∀ (e : List AV) (l : List (List AV)), (St.mk e l H).cells p 1 = some [.int .i64 vat] := fun e l => hp.rd0 e l 0 (by simp)
  simp only [EV, EL, EB, EF, q_bx, if_true, if_false, Bool.false_eq_true, Nat.reduceAdd, Option.bind_some, Bool.not_true, Bool.not_false, Nat.reduceBEq, impl_DropEntry_1_r, DQuestion.c, hc]
  first | exact ⟨rfl, rfl⟩ | rfl
theorem indexQ (β : Bool) (l : List DQuestion) (hl : l.length ≤ 1048577) (vat : Int) (H : AH) {p : AV} (hp : Ptr H p [.int .i64 vat]) : T Try.prog Γ Fn.slices_IndexFunc_iimpl_Question_impl_Question [.vs β 2 false (l.map (DQuestion.c β)), .fn Fn.impl_DropEntry_1 [] [p]] H fun v h' => v = .int .i64 (idxI (delQ vat) l) ∧ h' = H :=
  indexFunc_D (P := Try.prog) (Γ := Γ) tabOK mixed (sz := 2) (agg := true) (fun hw => slices_IndexFunc_iimpl_Question_impl_Question_e hw) (β := β) (l := l) (c := DQuestion.c β) (by omega) (fun x => ⟨⟨rfl, .inl rfl⟩, rfl⟩) (g := Fn.impl_DropEntry_1) (first := []) (caps := [p]) (by simp [hp.out]) (delQ vat) (h := H) (fun x hx => impl_DropEntry_1_T β x vat _ hp)
theorem deleteQ (l : List DQuestion) (hl : l.length ≤ 1048577) (vat : Int) (H : AH) {a : AV} {fp : List Nat} (o : Own H a (.sl 2 (l.map DQuestion.cd)) fp) (nd : fp.Nodup) {q : Nat} (hq : hget H q = some (0, [.int .i64 vat])) (hqf : q ∉ fp) :
    T Try.prog Γ Fn.slices_DeleteFunc_iimpl_Question_impl_Question [a, .fn Fn.impl_DropEntry_1 [] [.gp q 0 0]] H fun v h' => (h'.length = H.length ∧ (∀ c, c ∉ fp → h'[c]? = H[c]?) ∧ Own h' v (.sl 2 ((dropQ l vat).map DQuestion.cd)) fp) := by
  obtain ⟨ac1, ac2, ac3, ac4⟩ := o.cell
  have La := (len_own o).2
  rw [List.length_map] at La
  have hp0 : Ptr H (.gp q 0 0) [.int .i64 vat] := Ptr.gp0 hq
  refine slices_DeleteFunc_iimpl_Question_impl_Question_e (aw_sound tabOK mixed [] _ _ _ ?_)
  unfold slices_DeleteFunc_iimpl_Question_impl_Question_c
  simp only [EV, EL, EB, EF, q_bx, if_true, if_false, Bool.false_eq_true, Nat.reduceAdd, Option.bind_some, Bool.not_true, Bool.not_false, Nat.reduceBEq, slices_DeleteFunc_iimpl_Question_impl_Question_r, ac1, ac2, ac3]
  refine TCall.see (by simp only [EO, ac4]) (snap_c (Own.see (DQuestion.c_eq true) o) (snap_c (snap_f1 (snap_b1 hq)) snap_n)) (fun h => indexQ true l hl vat h (Ptr.ip h true _)) (.int _ _) ?_
  rcases idxI_cases (delQ vat) l with ⟨k, hk, e1, e2, e3⟩ | ⟨e1, e2, e3⟩
  rotate_left
  · simp only [EV, EL, EB, EF, q_bx, if_true, if_false, Bool.false_eq_true, Nat.reduceAdd, Option.bind_some, Bool.not_true, Bool.not_false, Nat.reduceBEq, slices_DeleteFunc_iimpl_Question_impl_Question_r, ac1, ac2, ac3, e1, show ((-1 : Int) == -1) = true from rfl]
    refine ⟨o.outOK, by simp, ?_⟩
    have : dropQ l vat = l := filter_all fun x hx => by simp [e3 x hx]
    rw [this]; exact o
  have hfirst := idxI_firstG e1
  rcases o.sl_inv with ⟨rfl, e, rfl⟩ | ⟨b, g, cap, ex, az, tail, fp', rfl, rfl, hg, hsz, ht, hc, hown⟩
  · have : l = [] := by simpa using e
    subst this; simp at hk
  have hfp' : fp' = [] := flat_nofp (Question_flat l) hown
  subst hfp'
  have has : az = (l.map (DQuestion.c false)).flatten := (flat_asG (Question_flat l) hown).trans (Question_flat_eq l).symm
  subst has
  simp only [List.length_map] at hc La ac1 ac2 ac3 ac4 ⊢
  have hqb : q ≠ b := fun e => hqf (by simp [e])
  have hkm : ((k : Int) == -1) = false := beq_eq_false_iff_ne.2 (by omega)
  simp only [EV, EL, EB, EF, q_bx, if_true, if_false, Bool.false_eq_true, Nat.reduceAdd, Option.bind_some, Bool.not_true, Bool.not_false, Nat.reduceBEq, slices_DeleteFunc_iimpl_Question_impl_Question_r, ac1, ac2, ac3, e1, hkm]
  have hw1 : IntKind.i64.wrap ((k : Int) + 1) = ((k + 1 : Nat) : Int) := wN (by omega)
  rw [hw1]
  have hH0 : ∀ c, c ≠ b → H[c]? = H[c]? := fun _ _ => rfl
  refine loopI tabOK mixed [] (fun x : Nat × Nat × List DQuestion × AH × List (List AV) => x.2.1 < x.1 ∧ x.1 ≤ l.length ∧ x.2.2.1.length = l.length ∧ x.2.2.1.take x.2.1 = dropQ (l.take x.1) vat ∧ x.2.2.1.drop x.1 = l.drop x.1 ∧ x.2.2.2.1.length = H.length ∧ (∀ c, c ≠ b → x.2.2.2.1[c]? = H[c]?) ∧ hget x.2.2.2.1 b = some (g, (x.2.2.1.map (DQuestion.c false)).flatten ++ tail)) (fun x => l.length - x.1)
    (fun x => slices_DeleteFunc_iimpl_Question_impl_Question_s0 (.gs b g 0 l.length cap 2 ex) (.fn Fn.impl_DropEntry_1 [] [.gp q 0 0]) (.int .i64 x.2.1) (.int .i64 x.1) x.2.2.2.2 x.2.2.2.1) (k + 1, k, l, H, []) ⟨by simp, by simp only; omega, rfl, ?_, rfl, rfl, hH0, hg⟩ ⟨by simp [slices_DeleteFunc_iimpl_Question_impl_Question_s0, LeL, LeV], rfl, rfl⟩ ?_
  · simp only
    rw [dropQ, List.take_succ_eq_append_getElem hk, List.filter_append]
    have h1 : (l.take k).filter (fun g => !delQ vat g) = l.take k := filter_all fun x hx => by
      obtain ⟨i, hi, rfl⟩ := List.mem_take_iff_getElem.1 hx
      simp [hfirst i (by omega) (by omega)]
    have h2 : [l[k]].filter (fun g => !delQ vat g) = [] := by simp [List.filter_cons, e2]
    rw [h1, h2, List.append_nil]
  rintro ⟨j, i, m, H', L⟩ ⟨hij, hj, hm, hmt, hmd, hHl, hHf, hHb⟩
  simp only at hij hj hm hmt hmd hHl hHf hHb
  have La' : lenI false (.gs b g 0 l.length cap 2 ex) = some (.int .i64 l.length) := rfl
  simp only [EV, EL, EB, EF, q_bx, if_true, if_false, Bool.false_eq_true, Nat.reduceAdd, Option.bind_some, Bool.not_true, Bool.not_false, Nat.reduceBEq, slices_DeleteFunc_iimpl_Question_impl_Question_r, slices_DeleteFunc_iimpl_Question_impl_Question_s0, La']
  refine c_split (fun hlt => ?_) (fun hge => ?_)
  · have hlt : j < l.length := by simpa using hlt
    have hjm : j < m.length := by omega
    have him : i < m.length := by omega
    have i0 : aIdxs 2 (.gs b g 0 l.length cap 2 ex) (j : Int) = some (.gp b g (j * 2)) := by rw [idx_gs hlt, Nat.zero_add]
    have i1 : aIdxs 2 (.gs b g 0 l.length cap 2 ex) (i : Int) = some (.gp b g (i * 2)) := by rw [idx_gs (by omega), Nat.zero_add]
    have emj : m[j] = l[j] := by
      have h1 := List.drop_eq_getElem_cons hjm; have h2 := List.drop_eq_getElem_cons hlt
      rw [hmd, h2] at h1; injection h1 with h1 _; exact h1.symm
    have ld : ∀ (e : List AV) (L : List (List AV)), (St.mk e L H').cells (.gp b g (j * 2)) 2 = some (DQuestion.c false l[j]) := fun e L => by
      rw [cells_gp hHb, row_load (c := DQuestion.c false) (sz := 2) (fun x => rfl) hjm tail, emj]
    have hp' : Ptr H' (.gp q 0 0) [.int .i64 vat] := Ptr.gp0 (frame_hget hq (hHf q hqb))
    simp only [EV, EL, EB, EF, q_bx, if_true, if_false, Bool.false_eq_true, Nat.reduceAdd, Option.bind_some, Bool.not_true, Bool.not_false, Nat.reduceBEq, slices_DeleteFunc_iimpl_Question_impl_Question_r, i0, ld, DQuestion.c]
    refine TCall.val (by simp only [EO]) (impl_DropEntry_1_T false l[j] vat H' hp') ?_
    have htk : dropQ (l.take (j + 1)) vat = dropQ (l.take j) vat ++ (if delQ vat l[j] = true then [] else [l[j]]) := by
      rw [dropQ, List.take_succ_eq_append_getElem hlt, List.filter_append]; congr 1
      by_cases h : delQ vat l[j] = true <;> simp [h]
    cases cd : delQ vat l[j]
    · rw [cd] at htk
      simp only [Bool.false_eq_true, if_false] at htk
      have st := row_store (c := DQuestion.c false) (sz := 2) (fun x => rfl) him l[j] tail rfl hHb
      simp only [DQuestion.c] at st
      simp only [EV, EL, EB, EF, q_bx, if_true, if_false, Bool.false_eq_true, Nat.reduceAdd, Option.bind_some, Bool.not_true, Bool.not_false, Nat.reduceBEq, slices_DeleteFunc_iimpl_Question_impl_Question_r, i1, DQuestion.c, st]
      have hbl : b < H'.length := hget_lt hHb
      have him' : i < (m.set i l[j]).length := by simpa using him
      refine ⟨(j + 1, i + 1, m.set i l[j], _, _), ⟨by simp only; omega, hlt, by simpa using hm, ?_, ?_, by simpa using hHl, fun c hcb => ?_, ?_⟩, by simp only; omega, ⟨by rw [wN (by omega), wN (by omega)]; simp [slices_DeleteFunc_iimpl_Question_impl_Question_s0, LeL, LeV], rfl, rfl⟩⟩
      · simp only
        rw [htk, List.take_succ_eq_append_getElem him', List.take_set_of_le (Nat.le_refl _), hmt]; simp
      · simp only
        rw [List.drop_set_of_lt (by omega), ← List.drop_drop, ← List.drop_drop, hmd]
      · simp only
        rw [List.getElem?_set_ne (Ne.symm hcb)]; exact hHf c hcb
      · simp [hget, hbl, DQuestion.c]
    · rw [cd] at htk
      simp only [if_true, List.append_nil] at htk
      simp only [EV, EL, EB, EF, q_bx, if_true, if_false, Bool.false_eq_true, Nat.reduceAdd, Option.bind_some, Bool.not_true, Bool.not_false, Nat.reduceBEq, slices_DeleteFunc_iimpl_Question_impl_Question_r]
      exact ⟨(j + 1, i, m, H', _), ⟨by simp only; omega, hlt, hm, by simp only; rw [htk]; exact hmt, by simp only; rw [← List.drop_drop, ← List.drop_drop, hmd], hHl, hHf, hHb⟩, by simp only; omega, ⟨by rw [wN (by omega)]; simp [slices_DeleteFunc_iimpl_Question_impl_Question_s0, LeL, LeV], rfl, rfl⟩⟩
  · have hge : j = l.length := by simp at hge; omega
    subst hge
    rw [List.take_length] at hmt
    have hcf := fun S : St => cut_fromG S (b := b) (g := g) (len := l.length) (cap := cap) (sz := 2) (ex := ex) (i := i) (by omega) hc.1
    have hct := fun S : St => cut_toG S (b := b) (g := g) (len := l.length) (cap := cap) (sz := 2) (ex := ex) (i := i) (by omega)
    have hcl : ∀ (e : List AV) (L : List (List AV)), aClr ⟨e, L, H'⟩ 2 [.int .i64 0, .int .i64 0] (.gs b g (i * 2) (l.length - i) (cap - i) 2 ex) = some ⟨e, L, H'.set b (some (g, ((m.take i).map (DQuestion.c false)).flatten ++ ((List.replicate (l.length - i) (DQuestion.c false zeroQ)).flatten ++ tail)))⟩ := fun e L => by
      have := rows_clear (c := DQuestion.c false) (sz := 2) (fun x => rfl) (show i ≤ m.length by omega) zeroQ tail rfl hHb e L
      rw [hm] at this
      simp only [aClr, if_true]
      rw [if_neg (by omega)]; exact this
    have hbl : b < H'.length := hget_lt hHb
    simp only [EV, EL, EB, EF, q_bx, if_true, if_false, Bool.false_eq_true, Nat.reduceAdd, Option.bind_some, Bool.not_true, Bool.not_false, Nat.reduceBEq, slices_DeleteFunc_iimpl_Question_impl_Question_r, p_cutFrom, p_cutTo, p_clr, hcf, hct, hcl, AR.ofS]
    have hdl : (dropQ l vat).length = i := by rw [← hmt, List.length_take, Nat.min_eq_left (by omega)]
    refine ⟨rfl, by simpa using hHl, fun c hcn => ?_, ?_⟩
    · have hcb : c ≠ b := fun e => hcn (by simp [e])
      rw [List.getElem?_set_ne (Ne.symm hcb)]; exact hHf c hcb
    · rw [hmt]
      have hrl : (List.replicate (l.length - i) (DQuestion.c false zeroQ)).flatten.length = (l.length - i) * 2 := by
        have := flat_len (xs := List.replicate (l.length - i) (DQuestion.c false zeroQ)) (sz := 2) (fun y hy => by rw [(List.mem_replicate.1 hy).2]; rfl)
        simpa using this
      have := Own.sl_mk (h := H'.set b (some (g, ((dropQ l vat).map (DQuestion.c false)).flatten ++ ((List.replicate (l.length - i) (DQuestion.c false zeroQ)).flatten ++ tail)))) (b := b) (g := g) (cap := cap) (sz := 2) (ex := ex) («as» := ((dropQ l vat).map (DQuestion.c false)).flatten) (tail := (List.replicate (l.length - i) (DQuestion.c false zeroQ)).flatten ++ tail) (xs := (dropQ l vat).map DQuestion.cd) (fp := [])
        (by simp [hget, hbl]) (fun y hy => by obtain ⟨x, _, rfl⟩ := List.mem_map.1 hy; rfl) (fun x hx => by
          rcases List.mem_append.1 hx with hx | hx
          · obtain ⟨y, hy, hxy⟩ := List.mem_flatten.1 hx
            rw [(List.mem_replicate.1 hy).2] at hxy
            simp [DQuestion.c, zeroQ] at hxy
            rw [hxy]; exact .i _ _
          · exact ht x hx) ⟨by rw [List.length_map, hdl]; omega, by rw [List.length_map, hdl, List.length_append, hrl]; have := hc.2; omega⟩ (by rw [Question_flat_eq]; exact flat_ownL false (Question_flat _))
      rw [List.length_map, hdl] at this
      exact this
theorem impl_DropEntry_T (β : Bool) (l : List DQuestion) (hl : l.length ≤ 1048576) (vat : Int) (h : AH) : T Try.prog Γ Fn.impl_DropEntry [.vs β 2 false (l.map (DQuestion.c β)), .int .i64 vat] h (Fresh h [.c (.sl 2 ((dropQ l vat).map DQuestion.cd))]) := by
  refine T.freshC ?_
  refine impl_DropEntry_e (aw_sound tabOK mixed [3] _ _ _ ?_)
  unfold impl_DropEntry_c
  simp only [EV, EL, EB, EF, q_bx, if_true, if_false, Bool.false_eq_true, Nat.reduceAdd, Option.bind_some, Bool.not_true, Bool.not_false, Nat.reduceBEq, impl_DropEntry_r, box_g _ _ (show List.all [AV.int .i64 vat] noLp = true from rfl), push_s]
  refine TCall.ref (by simp only [EO]) (clone_Question β l hl _) ?_
  rintro w H1 fr
  replace fr : Fresh (h ++ [some (0, [.int .i64 vat])]) _ _ _ := fr
  obtain ⟨fw, ow, nw, bw, ew⟩ := fr.c1
  obtain ⟨c1, c2, c3, c4⟩ := ow.cell
  have hq : hget H1 h.length = some (0, [.int .i64 vat]) := frame_hget (hget_last _ _) (ew.fr _ (by simp))
  have hqf : h.length ∉ fw := fun hm => by have := bw _ hm; simp at this; omega
  simp only [EV, EL, EB, EF, q_bx, if_true, if_false, Bool.false_eq_true, Nat.reduceAdd, Option.bind_some, Bool.not_true, Bool.not_false, Nat.reduceBEq, impl_DropEntry_r, c1, c2, c3]
  refine TCall.ref (by simp only [EO, c4]) (deleteQ l (by omega) vat _ ow nw hq hqf) ?_
  rintro v H2 ⟨hl2, hf2, o2⟩
  replace hl2 : H2.length = H1.length := hl2
  replace hf2 : ∀ c, c ∉ fw → H2[c]? = H1[c]? := hf2
  have bw' : ∀ c ∈ fw, h.length ≤ c := fun c hc => by have := bw c hc; simp at this; omega
  have ex := ((HExt.app h _).trans ew).mark hl2 hf2 bw'
  simp only [EV, EL, EB, EF, q_bx, if_true, if_false, Bool.false_eq_true, Nat.reduceAdd, Option.bind_some, Bool.not_true, Bool.not_false, Nat.reduceBEq, impl_DropEntry_r]
  obtain ⟨N, rfl⟩ := ex.out
  exact ⟨o2.outOK, N, fw, rfl, o2, nw, bw'⟩
theorem impl_ReleaseExport_T (β : Bool) (l : DLink) (hl : l.ok 1048576) (pos c : Int) (h : AH) : T Try.prog Γ Fn.impl_ReleaseExport [.agg (l.c β), .int .i64 pos, .int .i64 c] h (Fresh h [.a (relE l pos c).cd]) := by
  refine T.freshA ?_
  refine impl_ReleaseExport_e (aw_sound tabOK mixed [7] _ _ _ ?_)
  unfold impl_ReleaseExport_c
  have al := fun (s : St) => alloc_g s _ (show List.all [AV.int .i64 0, .bool false, .nils, .int .i64 0, .nils, .int .i64 0, .nils] noLp = true from rfl)
  simp only [EV, EL, EB, EF, q_bx, if_true, if_false, Bool.false_eq_true, Nat.reduceAdd, Option.bind_some, Bool.not_true, Bool.not_false, Nat.reduceBEq, impl_ReleaseExport_r, EB2, ER, DLink.c, al, push_s]
  refine TCall.ref (by simp only [EO]) (impl_Link_copied_T β l hl _) ?_
  rintro _ H1 fr
  replace fr : Fresh h _ _ _ := fr
  obtain ⟨aw, fw, rfl, ow, nw, bw, ew⟩ := fr.a1
  obtain ⟨wX, w4, w6, fX, f4, f6, rfl, rfl, oX, o4, o6⟩ := link_cells ow
  obtain ⟨a1, a2, a3, a4⟩ := oX.cell
  obtain ⟨b1, b2, b3, b4⟩ := o4.cell
  obtain ⟨c1, c2, c3, c4⟩ := o6.cell
  have st := fun (e : List AV) (L : List (List AV)) => store_last (e := e) (l := L) (h := H1) (cs := [.int .i64 0, .bool false, .nils, .int .i64 0, .nils, .int .i64 0, .nils]) (vs := [.int .i64 l.peer, .bool l.up, wX, .int .i64 l.next, w4, .int .i64 l.asked, w6]) (off := 0) (by simp) (by simp only [all_c1, all_n1, nn_i', nn_b', a3, b3, c3, Bool.and_self])
  simp only [EV, EL, EB, EF, q_bx, if_true, if_false, Bool.false_eq_true, Nat.reduceAdd, Option.bind_some, Bool.not_true, Bool.not_false, Nat.reduceBEq, impl_ReleaseExport_r, EB2, ER, DLink.c, a1, a2, a3, b1, b2, b3, c1, c2, c3, al, push_s, st]
  have hov : over [.int .i64 0, .bool false, .nils, .int .i64 0, .nils, .int .i64 0, .nils] 0 [AV.int .i64 l.peer, .bool l.up, wX, .int .i64 l.next, w4, .int .i64 l.asked, w6] = [AV.int .i64 l.peer, .bool l.up, wX, .int .i64 l.next, w4, .int .i64 l.asked, w6] := rfl
  rw [hov]
  have lw := fun c hc => ow.lt c hc
  have mi : Mid (H1 ++ [some (0, [AV.int .i64 l.peer, .bool l.up, wX, .int .i64 l.next, w4, .int .i64 l.asked, w6])]) H1.length 0 [] [AV.int .i64 l.peer, .bool l.up, wX, .int .i64 l.next, w4, .int .i64 l.asked, w6] [] := Mid.nil (hget_last _ _)
  refine TCall.ref (by simp only [EO]) (impl_Link_release_T l hl.1 pos c _ mi ow.grow nw (fun hm => by have := lw _ hm; omega)) ?_
  rintro _ H2 ⟨rfl, l2, row', f', m2, o2, n2, s2, r2⟩
  replace l2 : H1.length + 1 ≤ H2.length := by simpa using l2
  obtain ⟨wX', w4', w6', fX', f4', f6', rfl, rfl, oX', o4', o6'⟩ := link_cells o2
  obtain ⟨a1, a2, a3, a4⟩ := oX'.cell
  obtain ⟨b1, b2, b3, b4⟩ := o4'.cell
  obtain ⟨c1, c2, c3, c4⟩ := o6'.cell
  have ld : ∀ (e : List AV) (L : List (List AV)) (n : Nat), n ≤ 7 → (St.mk e L H2).cells (.gp H1.length 0 0) n = sub [AV.int .i64 (relE l pos c).peer, .bool (relE l pos c).up, wX', .int .i64 (relE l pos c).next, w4', .int .i64 (relE l pos c).asked, w6'] 0 n := fun e L n hn => m2.cells0 e L n hn
  simp only [EV, EL, EB, EF, q_bx, if_true, if_false, Bool.false_eq_true, Nat.reduceAdd, Option.bind_some, Bool.not_true, Bool.not_false, Nat.reduceBEq, impl_ReleaseExport_r, EB2, ER, a1, a2, a3, b1, b2, b3, c1, c2, c3, ld, Nat.le_refl]
  have hx : HExt h H2 := ew.upd (fp := fX ++ (f4 ++ f6)) (by omega) (fun c hc hcl => by
    rw [r2 c hc (by omega) (by simp; omega)]; exact List.getElem?_append_left hcl) bw
  obtain ⟨N, hN⟩ := hx.out
  exact ⟨show out1 (.agg _) = true by simp only [EO, a3, b3, c3], _, N, _, rfl, hN, o2, n2, fun c hc => by
    rcases s2 c hc with g | g
    · exact bw c g
    · have := ew.len; simp at g; omega⟩

def findQ (l : List DQuestion) (i : Int) : Int := match l.find? (fun x => x.id == i) with | some x => x.promise | none => -1
theorem impl_FindEntry_T (β : Bool) (l : List DQuestion) (hl : l.length ≤ 1048576) (en : Int) (h : AH) : T Try.prog Γ Fn.impl_FindEntry [.vs β 2 false (l.map (DQuestion.c β)), .int .i64 en] h fun v h' => v = .int .i64 (findQ l en) ∧ h' = h := by
  have L0 := len_vm β 2 false l (DQuestion.c β)
  generalize e0 : AV.vs β 2 false (l.map (DQuestion.c β)) = a0 at *
  refine impl_FindEntry_e (aw_sound tabOK mixed [] _ _ _ ?_)
  unfold impl_FindEntry_c
  simp only [EV, EL, EB, EF, q_bx, if_true, if_false, Bool.false_eq_true, Nat.reduceAdd, Option.bind_some, Bool.not_true, Bool.not_false, Nat.reduceBEq, impl_FindEntry_r, L0]
  refine loopI tabOK mixed [] (fun x : Nat × List (List AV) => x.1 ≤ l.length ∧ ∀ (i : Nat) (hi : i < l.length), i < x.1 → (l[i].id == en) = false) (fun x => l.length - x.1)
    (fun x => impl_FindEntry_s0 (.int .i64 en) a0 (.int .i64 l.length) (.int .i64 x.1) x.2 h) (0, []) ⟨by omega, fun i hi h => by omega⟩ ⟨by simp [impl_FindEntry_s0, LeL, LeV], rfl, rfl⟩ ?_
  rintro ⟨k, L⟩ ⟨hk, ht⟩
  simp only at hk ht
  simp only [EV, EL, EB, EF, q_bx, if_true, if_false, Bool.false_eq_true, Nat.reduceAdd, Option.bind_some, Bool.not_true, Bool.not_false, Nat.reduceBEq, impl_FindEntry_r, impl_FindEntry_s0]
  refine c_split (fun hlt => ?_) (fun hge => ?_)
  · have hlt : k < l.length := by simpa using hlt
    have i0 := idx_vm (β := β) (sz := 2) (ex := false) (ce := DQuestion.c β) hlt
    rw [e0] at i0
    cases hp : l[k].id == en
    · simp only [EV, EL, EB, EF, q_bx, if_true, if_false, Bool.false_eq_true, Nat.reduceAdd, Option.bind_some, Bool.not_true, Bool.not_false, Nat.reduceBEq, impl_FindEntry_r, i0, EB2, DQuestion.c, hp]
      exact ⟨(k + 1, _), ⟨hlt, step_lt (P := fun x : DQuestion => (x.id == en) = false) ht hp⟩, by simp only; omega, ⟨by rw [wN (by omega)]; simp [impl_FindEntry_s0, LeL, LeV], rfl, rfl⟩⟩
    · simp only [EV, EL, EB, EF, q_bx, if_true, if_false, Bool.false_eq_true, Nat.reduceAdd, Option.bind_some, Bool.not_true, Bool.not_false, Nat.reduceBEq, impl_FindEntry_r, i0, EB2, DQuestion.c, hp]
      exact ⟨rfl, by simp only [findQ, find_at (p := fun x : DQuestion => x.id == en) hlt ht hp]⟩
  · have hge : k = l.length := by simp at hge; omega
    subst hge
    simp only [EV, EL, EB, EF, q_bx, if_true, if_false, Bool.false_eq_true, Nat.reduceAdd, Option.bind_some, Bool.not_true, Bool.not_false, Nat.reduceBEq, impl_FindEntry_r]
    exact ⟨rfl, by simp only [findQ, find_none (p := fun x : DQuestion => x.id == en) ht]⟩
theorem impl_EqualLinks_T (β β' : Bool) (a : DLink) (ha : a.ok 1073741824) (h : AH) : T Try.prog Γ Fn.impl_EqualLinks [.agg (a.c β), .agg (a.c β')] h fun v h' => v = .bool true ∧ h' = h := by
  refine impl_EqualLinks_e (aw_sound tabOK mixed [] _ _ _ ?_)
  unfold impl_EqualLinks_c
  simp only [EV, EL, EB, EF, q_bx, if_true, if_false, Bool.false_eq_true, Nat.reduceAdd, Option.bind_some, Bool.not_true, Bool.not_false, Nat.reduceBEq, impl_EqualLinks_r, DLink.c, EB2, beq_self_eq_true, beq_dec, decide_true]
  refine TCall.val (by simp only [EO]) (slices_Equal_Export_T β β' _ _ ha.1 _) ?_
  simp only [EV, EL, EB, EF, q_bx, if_true, if_false, Bool.false_eq_true, Nat.reduceAdd, Option.bind_some, Bool.not_true, Bool.not_false, Nat.reduceBEq, impl_EqualLinks_r, DLink.c, EB2, beq_self_eq_true, beq_dec, decide_true]
  refine TCall.val (by simp only [EO]) (slices_Equal_Question_T β β' _ _ ha.2.1 _) ?_
  simp only [EV, EL, EB, EF, q_bx, if_true, if_false, Bool.false_eq_true, Nat.reduceAdd, Option.bind_some, Bool.not_true, Bool.not_false, Nat.reduceBEq, impl_EqualLinks_r, DLink.c, EB2, beq_self_eq_true, beq_dec, decide_true]
  refine TCall.val (by simp only [EO]) (slices_Equal_Question_T β β' _ _ ha.2.2 _) ?_
  simp only [EV, EL, EB, EF, q_bx, if_true, if_false, Bool.false_eq_true, Nat.reduceAdd, Option.bind_some, Bool.not_true, Bool.not_false, Nat.reduceBEq, impl_EqualLinks_r, DLink.c, EB2, beq_self_eq_true, beq_dec, decide_true]
  first | exact ⟨rfl, rfl⟩ | exact rfl

end Go.Proofs.Ytleddolmolkpfaa

