import Derived.Test.YtjohoameeeaafaaR1M
import Derived.Test.YtjohoameeeaafaaAmRows
set_option linter.unusedVariables false
set_option linter.unusedSimpArgs false
namespace Go.Proofs.Ytjohoameeeaafaa
open Go.AM
set_option linter.unusedVariables false
set_option linter.unusedSimpArgs false
variable {Γ : Glob}
/-! Gifts that are dropped. -/
def delP (vat : Int) (g : DGift) : Bool := g.giver == vat || g.taker == vat
def dropF (l : List DGift) (vat : Int) : List DGift := l.filter fun g => !delP vat g
theorem dropF_len (l : List DGift) (vat : Int) : (dropF l vat).length ≤ l.length := List.length_filter_le _ _
theorem impl_DropGifts_1_T (β : Bool) (x : DGift) (vat : Int) (H : AH) {p : AV} (hp : Ptr H p [.int .i64 vat]) : T Try.prog Γ Fn.impl_DropGifts_1 [.agg (x.c β), p] H fun v h' => v = .bool (delP vat x) ∧ h' = H := by
  refine impl_DropGifts_1_e (aw_sound tabOK mixed [] _ _ _ ?_)
  unfold impl_DropGifts_1_c
  have hc : ∀ (e : List AV) (l : List (List AV)), (St.mk e l H).cells p 1 = some [.int .i64 vat] := fun e l => hp.rd0 e l 0 (by simp)
  cases c1 : (x.giver == vat)
  · simp only [EV, EL, EB, EF, q_bx, if_true, if_false, Bool.false_eq_true, Nat.reduceAdd, Option.bind_some, Bool.not_true, Bool.not_false, Nat.reduceBEq, impl_DropGifts_1_r, DGift.c, hc, c1]
    first | exact ⟨rfl, by simp [delP, c1]⟩ | simp [delP, c1]
  · simp only [EV, EL, EB, EF, q_bx, if_true, if_false, Bool.false_eq_true, Nat.reduceAdd, Option.bind_some, Bool.not_true, Bool.not_false, Nat.reduceBEq, impl_DropGifts_1_r, DGift.c, hc, c1]
    first | exact ⟨rfl, by simp [delP, c1]⟩ | simp [delP, c1]

theorem clone_Gift (β : Bool) (l : List DGift) (hl : l.length ≤ 1048577) (h : AH) : T Try.prog Γ Fn.slices_Clone_iimpl_Gift_impl_Gift [.vs β 4 false (l.map (DGift.c β))] h (Fresh h [.c (.sl 4 (l.map DGift.cd))]) :=
  clone_D tabOK mixed (fun hw => slices_Clone_iimpl_Gift_impl_Gift_e hw) (by omega) (by simp only [maxMade]; omega) (fun x => ⟨rfl, rfl⟩) (fun x => (DGift.c_eq false x).symm)
theorem indexGift (β : Bool) (l : List DGift) (hl : l.length ≤ 1048577) (vat : Int) (H : AH) {p : AV} (hp : Ptr H p [.int .i64 vat]) : T Try.prog Γ Fn.slices_IndexFunc_iimpl_Gift_impl_Gift [.vs β 4 false (l.map (DGift.c β)), .fn Fn.impl_DropGifts_1 [] [p]] H fun v h' => v = .int .i64 (idxI (delP vat) l) ∧ h' = H :=
  indexFunc_D (P := Try.prog) (Γ := Γ) tabOK mixed (sz := 4) (agg := true) (fun hw => slices_IndexFunc_iimpl_Gift_impl_Gift_e hw) (β := β) (l := l) (c := DGift.c β) (by omega) (fun x => ⟨⟨rfl, .inl rfl⟩, rfl⟩) (g := Fn.impl_DropGifts_1) (first := []) (caps := [p]) (by simp [hp.out]) (delP vat) (h := H) (fun x hx => impl_DropGifts_1_T β x vat _ hp)

theorem snap_box {H : AH} {g : FuncId} {q : Nat} {x : AV} (hq : hget H q = some (0, [x])) : Snap H (.fn g [] [.gp q 0 0]) (.fn g [] [.ip true [x]]) := by
  refine .fn g _ _ rfl (fun _ => .gp q 0 0) (fun i y hy => ?_) (fun i y hy => ?_)
  · cases i with
    | zero => rfl
    | succ i => simp at hy
  · cases i with
    | zero =>
      simp at hy; subst hy
      refine .gp q 0 0 [x] [x] (fun _ => x) (hget_spec hq) (fun j y hy => ?_) (fun j y hy => ?_)
      · cases j with
        | zero => rfl
        | succ j => simp at hy
      · cases j with
        | zero => simp at hy; subst hy; exact .same _
        | succ j => simp at hy
    | succ i => simp at hy
theorem idxI_first {α : Type} {p : α → Bool} {l : List α} {k : Nat} (h : idxI p l = (k : Int)) : ∀ (i : Nat) (hi : i < l.length), i < k → p l[i] = false := by
  unfold idxI at h
  split at h
  · rename_i j hj
    have hjk : j = k := by omega
    subst hjk
    obtain ⟨_, _, h3⟩ := List.findIdx?_eq_some_iff_getElem.1 hj
    intro i hi hik
    have := h3 i hik
    simpa using this
  · omega
theorem flat_as {H : AH} : ∀ {az : List AV} {cs : List CD} {fp : List Nat}, cs.all CD.flat = true → OwnL H az cs fp → az = cs.map (CD.av false)
  | [], [], _, _, o => rfl
  | a :: az, d :: ds, fp, h, ⟨f1, f2, e, o1, o2⟩ => by
    simp only [List.all_cons, Bool.and_eq_true] at h
    rw [List.map_cons, ← flat_as h.2 o2]
    congr 1
    cases o1 with
    | i => simp [CD.av_i]
    | b => simp [CD.av_b]
    | s => simp [CD.av_s]
    | nil => simp [CD.flat] at h
    | gs => simp [CD.flat] at h
theorem gift_flat (l : List DGift) : (l.map DGift.cd).flatten.all CD.flat = true := by
  rw [List.all_flatten, List.all_eq_true]; intro y hy; obtain ⟨x, _, rfl⟩ := List.mem_map.1 hy; rfl
theorem gift_flat_eq (l : List DGift) : (l.map (DGift.c false)).flatten = (l.map DGift.cd).flatten.map (CD.av false) := map_flat (fun x => (DGift.c_eq false x).symm) l
def zeroG : DGift := ⟨0, 0, 0, 0⟩
theorem filter_all {α : Type} {p : α → Bool} : ∀ {l : List α}, (∀ x ∈ l, p x = true) → l.filter p = l
  | [], _ => rfl
  | x :: l, h => by simp only [List.filter_cons, h x (by simp), if_true]; rw [filter_all fun y hy => h y (List.mem_cons_of_mem _ hy)]

theorem deleteGift (l : List DGift) (hl : l.length ≤ 1048577) (vat : Int) (H : AH) {a : AV} {fp : List Nat} (o : Own H a (.sl 4 (l.map DGift.cd)) fp) (nd : fp.Nodup) {q : Nat} (hq : hget H q = some (0, [.int .i64 vat])) (hqf : q ∉ fp) :
    T Try.prog Γ Fn.slices_DeleteFunc_iimpl_Gift_impl_Gift [a, .fn Fn.impl_DropGifts_1 [] [.gp q 0 0]] H fun v h' => (h'.length = H.length ∧ (∀ c, c ∉ fp → h'[c]? = H[c]?) ∧ Own h' v (.sl 4 ((dropF l vat).map DGift.cd)) fp) := by
  obtain ⟨ac1, ac2, ac3, ac4⟩ := o.cell
  have La := (len_own o).2
  rw [List.length_map] at La
  have hp0 : Ptr H (.gp q 0 0) [.int .i64 vat] := Ptr.gp0 hq
  refine slices_DeleteFunc_iimpl_Gift_impl_Gift_e (aw_sound tabOK mixed [] _ _ _ ?_)
  unfold slices_DeleteFunc_iimpl_Gift_impl_Gift_c
  simp only [EV, EL, EB, EF, q_bx, if_true, if_false, Bool.false_eq_true, Nat.reduceAdd, Option.bind_some, Bool.not_true, Bool.not_false, Nat.reduceBEq, slices_DeleteFunc_iimpl_Gift_impl_Gift_r, ac1, ac2, ac3]
  refine TCall.see (by simp only [EO, ac4]) (snap_c (Own.see (DGift.c_eq true) o) (snap_c (snap_box hq) snap_n)) (fun h => indexGift true l hl vat h (Ptr.ip h true _)) (.int _ _) ?_
  rcases idxI_cases (delP vat) l with ⟨k, hk, e1, e2, e3⟩ | ⟨e1, e2, e3⟩
  rotate_left
  · simp only [EV, EL, EB, EF, q_bx, if_true, if_false, Bool.false_eq_true, Nat.reduceAdd, Option.bind_some, Bool.not_true, Bool.not_false, Nat.reduceBEq, slices_DeleteFunc_iimpl_Gift_impl_Gift_r, ac1, ac2, ac3, e1, show ((-1 : Int) == -1) = true from rfl]
    refine ⟨o.outOK, by simp, ?_⟩
    have : dropF l vat = l := filter_all fun x hx => by simp [e3 x hx]
    rw [this]; exact o
  have hfirst := idxI_first e1
  rcases o.sl_inv with ⟨rfl, e, rfl⟩ | ⟨b, g, cap, ex, az, tail, fp', rfl, rfl, hg, hsz, ht, hc, hown⟩
  · have : l = [] := by simpa using e
    subst this; simp at hk
  have hfp' : fp' = [] := flat_nofp (gift_flat l) hown
  subst hfp'
  have has : az = (l.map (DGift.c false)).flatten := (flat_as (gift_flat l) hown).trans (gift_flat_eq l).symm
  subst has
  simp only [List.length_map] at hc La ac1 ac2 ac3 ac4 ⊢
  have hqb : q ≠ b := fun e => hqf (by simp [e])
  have hkm : ((k : Int) == -1) = false := beq_eq_false_iff_ne.2 (by omega)
  simp only [EV, EL, EB, EF, q_bx, if_true, if_false, Bool.false_eq_true, Nat.reduceAdd, Option.bind_some, Bool.not_true, Bool.not_false, Nat.reduceBEq, slices_DeleteFunc_iimpl_Gift_impl_Gift_r, ac1, ac2, ac3, e1, hkm]
  have hw1 : IntKind.i64.wrap ((k : Int) + 1) = ((k + 1 : Nat) : Int) := wN (by omega)
  rw [hw1]
  have hH0 : ∀ c, c ≠ b → H[c]? = H[c]? := fun _ _ => rfl
  refine loopI tabOK mixed [] (fun x : Nat × Nat × List DGift × AH × List (List AV) => x.2.1 < x.1 ∧ x.1 ≤ l.length ∧ x.2.2.1.length = l.length ∧ x.2.2.1.take x.2.1 = dropF (l.take x.1) vat ∧ x.2.2.1.drop x.1 = l.drop x.1 ∧ x.2.2.2.1.length = H.length ∧ (∀ c, c ≠ b → x.2.2.2.1[c]? = H[c]?) ∧ hget x.2.2.2.1 b = some (g, (x.2.2.1.map (DGift.c false)).flatten ++ tail)) (fun x => l.length - x.1)
    (fun x => slices_DeleteFunc_iimpl_Gift_impl_Gift_s0 (.gs b g 0 l.length cap 4 ex) (.fn Fn.impl_DropGifts_1 [] [.gp q 0 0]) (.int .i64 x.2.1) (.int .i64 x.1) x.2.2.2.2 x.2.2.2.1) (k + 1, k, l, H, []) ⟨by simp, by simp only; omega, rfl, ?_, rfl, rfl, hH0, hg⟩ ⟨by simp [slices_DeleteFunc_iimpl_Gift_impl_Gift_s0, LeL, LeV], rfl, rfl⟩ ?_
  · simp only
    rw [dropF, List.take_succ_eq_append_getElem hk, List.filter_append]
    have h1 : (l.take k).filter (fun g => !delP vat g) = l.take k := filter_all fun x hx => by
      obtain ⟨i, hi, rfl⟩ := List.mem_take_iff_getElem.1 hx
      simp [hfirst i (by omega) (by omega)]
    have h2 : [l[k]].filter (fun g => !delP vat g) = [] := by simp [List.filter_cons, e2]
    rw [h1, h2, List.append_nil]
  rintro ⟨j, i, m, H', L⟩ ⟨hij, hj, hm, hmt, hmd, hHl, hHf, hHb⟩
  simp only at hij hj hm hmt hmd hHl hHf hHb
  have La' : lenI false (.gs b g 0 l.length cap 4 ex) = some (.int .i64 l.length) := rfl
  simp only [EV, EL, EB, EF, q_bx, if_true, if_false, Bool.false_eq_true, Nat.reduceAdd, Option.bind_some, Bool.not_true, Bool.not_false, Nat.reduceBEq, slices_DeleteFunc_iimpl_Gift_impl_Gift_r, slices_DeleteFunc_iimpl_Gift_impl_Gift_s0, La']
  refine c_split (fun hlt => ?_) (fun hge => ?_)
  · have hlt : j < l.length := by simpa using hlt
    have hjm : j < m.length := by omega
    have him : i < m.length := by omega
    have i0 : aIdxs 4 (.gs b g 0 l.length cap 4 ex) (j : Int) = some (.gp b g (j * 4)) := by rw [idx_gs hlt, Nat.zero_add]
    have i1 : aIdxs 4 (.gs b g 0 l.length cap 4 ex) (i : Int) = some (.gp b g (i * 4)) := by rw [idx_gs (by omega), Nat.zero_add]
    have emj : m[j] = l[j] := by
      have h1 := List.drop_eq_getElem_cons hjm; have h2 := List.drop_eq_getElem_cons hlt
      rw [hmd, h2] at h1; injection h1 with h1 _; exact h1.symm
    have ld : ∀ (e : List AV) (L : List (List AV)), (St.mk e L H').cells (.gp b g (j * 4)) 4 = some (DGift.c false l[j]) := fun e L => by
      rw [cells_gp hHb, row_load (c := DGift.c false) (sz := 4) (fun x => rfl) hjm tail, emj]
    have hp' : Ptr H' (.gp q 0 0) [.int .i64 vat] := Ptr.gp0 (frame_hget hq (hHf q hqb))
    simp only [EV, EL, EB, EF, q_bx, if_true, if_false, Bool.false_eq_true, Nat.reduceAdd, Option.bind_some, Bool.not_true, Bool.not_false, Nat.reduceBEq, slices_DeleteFunc_iimpl_Gift_impl_Gift_r, i0, ld, DGift.c]
    refine TCall.val (by simp only [EO]) (impl_DropGifts_1_T false l[j] vat H' hp') ?_
    have htk : dropF (l.take (j + 1)) vat = dropF (l.take j) vat ++ (if delP vat l[j] = true then [] else [l[j]]) := by
      rw [dropF, List.take_succ_eq_append_getElem hlt, List.filter_append]; congr 1
      by_cases h : delP vat l[j] = true <;> simp [h]
    cases cd : delP vat l[j]
    · rw [cd] at htk
      simp only [Bool.false_eq_true, if_false] at htk
      have st := row_store (c := DGift.c false) (sz := 4) (fun x => rfl) him l[j] tail rfl hHb
      simp only [DGift.c] at st
      simp only [EV, EL, EB, EF, q_bx, if_true, if_false, Bool.false_eq_true, Nat.reduceAdd, Option.bind_some, Bool.not_true, Bool.not_false, Nat.reduceBEq, slices_DeleteFunc_iimpl_Gift_impl_Gift_r, i1, DGift.c, st]
      have hbl : b < H'.length := hget_lt hHb
      have him' : i < (m.set i l[j]).length := by simpa using him
      refine ⟨(j + 1, i + 1, m.set i l[j], _, _), ⟨by simp only; omega, hlt, by simpa using hm, ?_, ?_, by simpa using hHl, fun c hcb => ?_, ?_⟩, by simp only; omega, ⟨by rw [wN (by omega), wN (by omega)]; simp [slices_DeleteFunc_iimpl_Gift_impl_Gift_s0, LeL, LeV], rfl, rfl⟩⟩
      · simp only
        rw [htk, List.take_succ_eq_append_getElem him', List.take_set_of_le (Nat.le_refl _), hmt]; simp
      · simp only
        rw [List.drop_set_of_lt (by omega), ← List.drop_drop, ← List.drop_drop, hmd]
      · simp only
        rw [List.getElem?_set_ne (Ne.symm hcb)]; exact hHf c hcb
      · simp [hget, hbl, DGift.c]
    · rw [cd] at htk
      simp only [if_true, List.append_nil] at htk
      simp only [EV, EL, EB, EF, q_bx, if_true, if_false, Bool.false_eq_true, Nat.reduceAdd, Option.bind_some, Bool.not_true, Bool.not_false, Nat.reduceBEq, slices_DeleteFunc_iimpl_Gift_impl_Gift_r]
      exact ⟨(j + 1, i, m, H', _), ⟨by simp only; omega, hlt, hm, by simp only; rw [htk]; exact hmt, by simp only; rw [← List.drop_drop, ← List.drop_drop, hmd], hHl, hHf, hHb⟩, by simp only; omega, ⟨by rw [wN (by omega)]; simp [slices_DeleteFunc_iimpl_Gift_impl_Gift_s0, LeL, LeV], rfl, rfl⟩⟩
  · have hge : j = l.length := by simp at hge; omega
    subst hge
    rw [List.take_length] at hmt
    have hcf := fun S : St => cut_fromG S (b := b) (g := g) (len := l.length) (cap := cap) (sz := 4) (ex := ex) (i := i) (by omega) hc.1
    have hct := fun S : St => cut_toG S (b := b) (g := g) (len := l.length) (cap := cap) (sz := 4) (ex := ex) (i := i) (by omega)
    have hcl : ∀ (e : List AV) (L : List (List AV)), aClr ⟨e, L, H'⟩ 4 [.int .i64 0, .int .i64 0, .int .i64 0, .int .i64 0] (.gs b g (i * 4) (l.length - i) (cap - i) 4 ex) = some ⟨e, L, H'.set b (some (g, ((m.take i).map (DGift.c false)).flatten ++ ((List.replicate (l.length - i) (DGift.c false zeroG)).flatten ++ tail)))⟩ := fun e L => by
      have := rows_clear (c := DGift.c false) (sz := 4) (fun x => rfl) (show i ≤ m.length by omega) zeroG tail rfl hHb e L
      rw [hm] at this
      simp only [aClr, if_true]
      rw [if_neg (by omega)]; exact this
    have hbl : b < H'.length := hget_lt hHb
    simp only [EV, EL, EB, EF, q_bx, if_true, if_false, Bool.false_eq_true, Nat.reduceAdd, Option.bind_some, Bool.not_true, Bool.not_false, Nat.reduceBEq, slices_DeleteFunc_iimpl_Gift_impl_Gift_r, p_cutFrom, p_cutTo, p_clr, hcf, hct, hcl, AR.ofS]
    have hdl : (dropF l vat).length = i := by rw [← hmt, List.length_take, Nat.min_eq_left (by omega)]
    refine ⟨rfl, by simpa using hHl, fun c hcn => ?_, ?_⟩
    · have hcb : c ≠ b := fun e => hcn (by simp [e])
      rw [List.getElem?_set_ne (Ne.symm hcb)]; exact hHf c hcb
    · rw [hmt]
      have hrl : (List.replicate (l.length - i) (DGift.c false zeroG)).flatten.length = (l.length - i) * 4 := by
        have := flat_len (xs := List.replicate (l.length - i) (DGift.c false zeroG)) (sz := 4) (fun y hy => by rw [(List.mem_replicate.1 hy).2]; rfl)
        simpa using this
      have := Own.sl_mk (h := H'.set b (some (g, ((dropF l vat).map (DGift.c false)).flatten ++ ((List.replicate (l.length - i) (DGift.c false zeroG)).flatten ++ tail)))) (b := b) (g := g) (cap := cap) (sz := 4) (ex := ex) («as» := ((dropF l vat).map (DGift.c false)).flatten) (tail := (List.replicate (l.length - i) (DGift.c false zeroG)).flatten ++ tail) (xs := (dropF l vat).map DGift.cd) (fp := [])
        (by simp [hget, hbl]) (fun y hy => by obtain ⟨x, _, rfl⟩ := List.mem_map.1 hy; rfl) (fun x hx => by
          rcases List.mem_append.1 hx with hx | hx
          · obtain ⟨y, hy, hxy⟩ := List.mem_flatten.1 hx
            rw [(List.mem_replicate.1 hy).2] at hxy
            simp [DGift.c, zeroG] at hxy
            rw [hxy]; exact .i _ _
          · exact ht x hx) ⟨by rw [List.length_map, hdl]; omega, by rw [List.length_map, hdl, List.length_append, hrl]; have := hc.2; omega⟩ (by rw [gift_flat_eq]; exact flat_ownL false (gift_flat _))
      rw [List.length_map, hdl] at this
      exact this

theorem impl_DropGifts_T (β : Bool) (l : List DGift) (hl : l.length ≤ 1048576) (vat : Int) (h : AH) : T Try.prog Γ Fn.impl_DropGifts [.vs β 4 false (l.map (DGift.c β)), .int .i64 vat] h (Fresh h [.c (.sl 4 ((dropF l vat).map DGift.cd))]) := by
  refine T.freshC ?_
  refine impl_DropGifts_e (aw_sound tabOK mixed [3] _ _ _ ?_)
  unfold impl_DropGifts_c
  simp only [EV, EL, EB, EF, q_bx, if_true, if_false, Bool.false_eq_true, Nat.reduceAdd, Option.bind_some, Bool.not_true, Bool.not_false, Nat.reduceBEq, impl_DropGifts_r, box_g _ _ (show List.all [AV.int .i64 vat] noLp = true from rfl), push_s]
  refine TCall.ref (by simp only [EO]) (clone_Gift β l (by omega) _) ?_
  rintro w H1 fr
  replace fr : Fresh (h ++ [some (0, [.int .i64 vat])]) _ _ _ := fr
  obtain ⟨fw, ow, nw, bw, ew⟩ := fr.c1
  obtain ⟨c1, c2, c3, c4⟩ := ow.cell
  have hq : hget H1 h.length = some (0, [.int .i64 vat]) := frame_hget (hget_last _ _) (ew.fr _ (by simp))
  have hqf : h.length ∉ fw := fun hm => by have := bw _ hm; simp at this; omega
  simp only [EV, EL, EB, EF, q_bx, if_true, if_false, Bool.false_eq_true, Nat.reduceAdd, Option.bind_some, Bool.not_true, Bool.not_false, Nat.reduceBEq, impl_DropGifts_r, c1, c2, c3]
  refine TCall.ref (by simp only [EO, c4]) (deleteGift l (by omega) vat _ ow nw hq hqf) ?_
  rintro v H2 ⟨hl2, hf2, o2⟩
  replace hl2 : H2.length = H1.length := hl2
  replace hf2 : ∀ c, c ∉ fw → H2[c]? = H1[c]? := hf2
  have bw' : ∀ c ∈ fw, h.length ≤ c := fun c hc => by have := bw c hc; simp at this; omega
  have ex := ((HExt.app h _).trans ew).mark hl2 hf2 bw'
  simp only [EV, EL, EB, EF, q_bx, if_true, if_false, Bool.false_eq_true, Nat.reduceAdd, Option.bind_some, Bool.not_true, Bool.not_false, Nat.reduceBEq, impl_DropGifts_r]
  obtain ⟨N, rfl⟩ := ex.out
  exact ⟨o2.outOK, N, fw, rfl, o2, nw, bw'⟩

theorem dropF_take {vat : Int} {l : List DGift} {k : Nat} (hk : k < l.length) : dropF (l.take (k + 1)) vat = dropF (l.take k) vat ++ (if delP vat l[k] = true then [] else [l[k]]) := by
  rw [dropF, List.take_succ_eq_append_getElem hk, List.filter_append]; congr 1
  by_cases h : delP vat l[k] = true <;> simp [h]

theorem spec_DropGifts_T (β : Bool) (l : List DGift) (hl : l.length ≤ 1048576) (vat : Int) (h : AH) : T Try.prog Γ Fn.spec_DropGifts [.vs β 4 false (l.map (DGift.c β)), .int .i64 vat] h (Fresh h [.c (.sl 4 ((dropF l vat).map DGift.cd))]) := by
  have L0 := len_vm β 4 false l (DGift.c β)
  generalize e0 : AV.vs β 4 false (l.map (DGift.c β)) = a0 at *
  refine T.freshC ?_
  refine spec_DropGifts_e (aw_sound tabOK mixed [] _ _ _ ?_)
  unfold spec_DropGifts_c
  simp only [EV, EL, EB, EF, q_bx, if_true, if_false, Bool.false_eq_true, Nat.reduceAdd, Option.bind_some, Bool.not_true, Bool.not_false, Nat.reduceBEq, spec_DropGifts_r, EA, L0]
  refine loopI tabOK mixed [] (fun x : Nat × AV × AH × List Nat => x.1 ≤ l.length ∧ Own x.2.2.1 x.2.1 (.sl 4 ((dropF (l.take x.1) vat).map DGift.cd)) x.2.2.2 ∧ x.2.2.2.Nodup ∧ (∀ c ∈ x.2.2.2, h.length ≤ c) ∧ ∃ N, x.2.2.1 = h ++ N) (fun x => l.length - x.1)
    (fun x => spec_DropGifts_s0 a0 (.int .i64 vat) x.2.1 (.int .i64 x.1) [] x.2.2.1) (0, .gs h.length 0 0 0 0 4 true, h ++ [some (0, [])], [h.length]) ⟨by simp, bsl0_own h 4, by simp, by simp, _, rfl⟩ ⟨by simp [spec_DropGifts_s0, LeL, LeV], rfl, rfl⟩ ?_
  rintro ⟨k, v, H, fp⟩ ⟨hk, ho, nd, hfp, N, hN⟩
  simp only at hk ho nd hfp hN
  subst hN
  simp only [EV, EL, EB, EF, q_bx, if_true, if_false, Bool.false_eq_true, Nat.reduceAdd, Option.bind_some, Bool.not_true, Bool.not_false, Nat.reduceBEq, spec_DropGifts_r, spec_DropGifts_s0, L0]
  refine c_split (fun hlt => ?_) (fun hge => ?_)
  rotate_left
  · have hge : k = l.length := by simp at hge; omega
    subst hge
    simp only [EV, EL, EB, EF, q_bx, if_true, if_false, Bool.false_eq_true, Nat.reduceAdd, Option.bind_some, Bool.not_true, Bool.not_false, Nat.reduceBEq, spec_DropGifts_r]
    rw [List.take_length] at ho
    exact ⟨ho.outOK, N, fp, rfl, ho, nd, hfp⟩
  have hlt : k < l.length := by simpa using hlt
  have i0 := idx_vm (β := β) (sz := 4) (ex := false) (ce := DGift.c β) hlt
  rw [e0] at i0
  have ht := dropF_take (vat := vat) hlt
  by_cases hp : l[k].giver = vat
  · have hd : delP vat l[k] = true := by simp [delP, hp]
    rw [if_pos hd, List.append_nil] at ht
    simp only [EV, EL, EB, EF, q_bx, if_true, if_false, Bool.false_eq_true, Nat.reduceAdd, Option.bind_some, Bool.not_true, Bool.not_false, Nat.reduceBEq, spec_DropGifts_r, i0, DGift.c, ne_int, decide_eq_true hp]
    exact ⟨(k + 1, v, h ++ N, fp), ⟨hlt, by simp only; rw [ht]; exact ho, nd, hfp, N, rfl⟩, by simp only; omega, ⟨by rw [wN (by omega)]; simp [spec_DropGifts_s0, LeL, LeV], rfl, rfl⟩⟩
  by_cases hp2 : l[k].taker = vat
  · have hd : delP vat l[k] = true := by simp [delP, hp2]
    rw [if_pos hd, List.append_nil] at ht
    simp only [EV, EL, EB, EF, q_bx, if_true, if_false, Bool.false_eq_true, Nat.reduceAdd, Option.bind_some, Bool.not_true, Bool.not_false, Nat.reduceBEq, spec_DropGifts_r, i0, DGift.c, ne_int, decide_eq_false hp, decide_eq_true hp2]
    exact ⟨(k + 1, v, h ++ N, fp), ⟨hlt, by simp only; rw [ht]; exact ho, nd, hfp, N, rfl⟩, by simp only; omega, ⟨by rw [wN (by omega)]; simp [spec_DropGifts_s0, LeL, LeV], rfl, rfl⟩⟩
  have hd : ¬ delP vat l[k] = true := by simp [delP, hp, hp2]
  rw [if_neg hd] at ht
  have hbl := dropF_len (l.take k) vat
  rw [List.length_take] at hbl
  obtain ⟨v', H', fp', ea, o', nd', hf', hl', hm'⟩ := app_ext (bytes := 32) ho (ys := [.int .i64 l[k].nonce, .int .i64 l[k].giver, .int .i64 l[k].taker, .int .i64 l[k].entity]) (row := l[k].cd) (f2 := []) (by simpa using nd) (by omega) rfl (.i (.i (.i (.i .nil)))) (by simp only [List.length_map, maxMade]; omega)
  obtain ⟨N', rfl⟩ := ext_of hl' hf' hfp
  simp only [EV, EL, EB, EF, q_bx, if_true, if_false, Bool.false_eq_true, Nat.reduceAdd, Option.bind_some, Bool.not_true, Bool.not_false, Nat.reduceBEq, spec_DropGifts_r, EA, i0, DGift.c, ne_int, decide_eq_false hp, decide_eq_false hp2, ea]
  refine ⟨(k + 1, v', h ++ N', fp'), ⟨hlt, by simp only; rw [ht, List.map_append]; exact o', nd', fun c hc => ?_, N', rfl⟩, by simp only; omega, ⟨by rw [wN (by omega)]; simp [spec_DropGifts_s0, LeL, LeV], rfl, rfl⟩⟩
  rcases hm' c hc with g | g | g
  · exact hfp c g
  · simp at g
  · simp at g; omega

end Go.Proofs.Ytjohoameeeaafaa
