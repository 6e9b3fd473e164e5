import Derived.Test.YtleddolmolkpfaaR4H
import Derived.Test.YtleddolmolkpfaaAmDel
import Derived.Test.YtleddolmolkpfaaAmVal
set_option linter.unusedVariables false
set_option linter.unusedSimpArgs false
namespace Go.Proofs.Ytleddolmolkpfaa
open Go.AM
set_option linter.unusedVariables false
set_option linter.unusedSimpArgs false
variable {Γ : Glob}
theorem Export_flat (l : List DExport) : (l.map DExport.cd).flatten.all CD.flat = true := by
  rw [List.all_flatten, List.all_eq_true]; intro y hy; obtain ⟨x, _, rfl⟩ := List.mem_map.1 hy; rfl
theorem Export_flat_eq (l : List DExport) : (l.map (DExport.c false)).flatten = (l.map DExport.cd).flatten.map (CD.av false) := map_flat (fun x => (DExport.c_eq false x).symm) l
theorem Export_noLp (l : List DExport) : ((l.map (DExport.c false)).flatten).all noLp = true := flat_noLp (fun x hx => by obtain ⟨y, _, rfl⟩ := List.mem_map.1 hx; rfl)
theorem deleteExport (l : List DExport) (hl : l.length ≤ 1048577) {k : Nat} (hk : k < l.length) (H : AH) {a : AV} {fp : List Nat} (o : Own H a (.sl 3 (l.map DExport.cd)) fp) (nd : fp.Nodup) :
    T Try.prog Γ Fn.slices_Delete_iimpl_Export_impl_Export [a, .int .i64 k, .int .i64 ((k + 1 : Nat) : Int)] H fun v h' => (h'.length = H.length ∧ (∀ c, c ∉ fp → h'[c]? = H[c]?) ∧ Own h' v (.sl 3 ((l.eraseIdx k).map DExport.cd)) fp) := by
  obtain ⟨ac1, ac2, ac3, ac4⟩ := o.cell
  rcases o.sl_inv with ⟨rfl, e, rfl⟩ | ⟨b, g, cap, ex, az, tail, fp', rfl, rfl, hg, hsz, ht, hc, hown⟩
  · have : l = [] := by simpa using e
    subst this; simp at hk
  have hfp' : fp' = [] := flat_nofp (Export_flat l) hown
  subst hfp'
  have has : az = (l.map (DExport.c false)).flatten := (flat_asG (Export_flat l) hown).trans (Export_flat_eq l).symm
  subst has
  simp only [List.length_map] at hc ac1 ac2 ac3 ac4 ⊢
  have La : lenI false (.gs b g 0 l.length cap 3 ex) = some (.int .i64 l.length) := rfl
  have q3 := fun S : St => cut3_gs S (b := b) (g := g) (len := l.length) (cap := cap) (sz := 3) (ex := ex) (l := k) (h := k + 1) (m := l.length) (by omega) (by omega) hc.1
  have qt := fun S : St => cut_toG S (b := b) (g := g) (len := l.length) (cap := cap) (sz := 3) (ex := ex) (i := k) (by omega)
  have qf := fun S : St => cut_fromG S (b := b) (g := g) (len := l.length) (cap := cap) (sz := 3) (ex := ex) (i := k + 1) (by omega) hc.1
  have qa := fun (e : List AV) (L : List (List AV)) => del_app (c := DExport.c false) (sz := 3) (fun x => rfl) l hk tail (bytes := 24) (ex := ex) hg hc.1 (Export_noLp l) (by omega) (by simp only [maxMade]; omega) e L
  have hbl : b < H.length := hget_lt hg
  generalize hm : l.take k ++ (l.drop (k + 1) ++ l.drop (l.length - 1)) = m at qa
  have hml : m.length = l.length := by rw [← hm]; simp; omega
  have hmt : m.take (l.length - 1) = l.eraseIdx k := by
    rw [← hm, ← List.append_assoc, List.eraseIdx_eq_take_drop_succ, List.take_left' (by simp; omega)]
  generalize hH2 : H.set b (some (g, (m.map (DExport.c false)).flatten ++ tail)) = H2 at qa
  have hg2 : hget H2 b = some (g, (m.map (DExport.c false)).flatten ++ tail) := by rw [← hH2]; simp [hget, hbl]
  have La2 : lenI false (.gs b g 0 (l.length - 1) cap 3 ex) = some (.int .i64 ((l.length - 1 : Nat) : Int)) := rfl
  have qb := fun S : St => cutBoth_gs S (b := b) (g := g) (len := l.length - 1) (cap := cap) (sz := 3) (ex := ex) (l := l.length - 1) (h := l.length) (by omega) hc.1
  have hcl : ∀ (e : List AV) (L : List (List AV)), aClr ⟨e, L, H2⟩ 3 [.int .i64 0, .int .i64 0, .int .i64 0] (.gs b g ((l.length - 1) * 3) (l.length - (l.length - 1)) (cap - (l.length - 1)) 3 ex) = some ⟨e, L, H2.set b (some (g, ((m.take (l.length - 1)).map (DExport.c false)).flatten ++ ((List.replicate (l.length - (l.length - 1)) (DExport.c false (DExport.mk 0 0 0))).flatten ++ tail)))⟩ := fun e L => by
    have := rows_clear (c := DExport.c false) (sz := 3) (fun x => rfl) (show l.length - 1 ≤ m.length by omega) (DExport.mk 0 0 0) tail rfl hg2 e L
    rw [hml] at this
    simp only [aClr, if_true]
    rw [if_neg (by omega)]; exact this
  have he : ((k : Int) == ((k + 1 : Nat) : Int)) = false := beq_eq_false_iff_ne.2 (by omega)
  refine slices_Delete_iimpl_Export_impl_Export_e (aw_sound tabOK mixed [] _ _ _ ?_)
  unfold slices_Delete_iimpl_Export_impl_Export_c
  simp only [EV, EL, EB, EF, q_bx, if_true, if_false, Bool.false_eq_true, Nat.reduceAdd, Option.bind_some, Bool.not_true, Bool.not_false, Nat.reduceBEq, slices_Delete_iimpl_Export_impl_Export_r, slices_Delete_iimpl_Export_impl_Export_d0_q, EB2, ER, La, p_cut3, p_cutFrom, p_cutTo, p_clr, p_app, q3, qt, qf, qa, he, La2, qb, hcl, AR.ofS]
  have hbl2 : b < H2.length := hget_lt hg2
  rw [hmt]
  have hel : (l.eraseIdx k).length = l.length - 1 := by rw [List.length_eraseIdx, if_pos hk]
  refine ⟨rfl, by rw [← hH2]; simp, fun c hcn => ?_, ?_⟩
  · have hcb : c ≠ b := fun e => hcn (by simp [e])
    rw [List.getElem?_set_ne (Ne.symm hcb), ← hH2, List.getElem?_set_ne (Ne.symm hcb)]
  · have hrl : (List.replicate (l.length - (l.length - 1)) (DExport.c false (DExport.mk 0 0 0))).flatten.length = (l.length - (l.length - 1)) * 3 := by
      have := flat_len (xs := List.replicate (l.length - (l.length - 1)) (DExport.c false (DExport.mk 0 0 0))) (sz := 3) (fun y hy => by rw [(List.mem_replicate.1 hy).2]; rfl)
      simpa using this
    have := Own.sl_mk (h := H2.set b (some (g, ((l.eraseIdx k).map (DExport.c false)).flatten ++ ((List.replicate (l.length - (l.length - 1)) (DExport.c false (DExport.mk 0 0 0))).flatten ++ tail)))) (b := b) (g := g) (cap := cap) (sz := 3) (ex := ex) («as» := ((l.eraseIdx k).map (DExport.c false)).flatten) (tail := (List.replicate (l.length - (l.length - 1)) (DExport.c false (DExport.mk 0 0 0))).flatten ++ tail) (xs := (l.eraseIdx k).map DExport.cd) (fp := [])
      (by simp [hget, hbl2]) (fun y hy => by obtain ⟨x, _, rfl⟩ := List.mem_map.1 hy; rfl) (fun x hx => by
        rcases List.mem_append.1 hx with hx | hx
        · obtain ⟨y, hy, hxy⟩ := List.mem_flatten.1 hx
          rw [(List.mem_replicate.1 hy).2] at hxy
          simp [DExport.c] at hxy
          rw [hxy]; exact .i _ _
        · exact ht x hx) ⟨by rw [List.length_map, hel]; omega, by rw [List.length_map, hel, List.length_append, hrl]; have := hc.2; omega⟩ (by rw [Export_flat_eq]; exact flat_ownL false (Export_flat _))
    rw [List.length_map, hel] at this
    exact this


end Go.Proofs.Ytleddolmolkpfaa

