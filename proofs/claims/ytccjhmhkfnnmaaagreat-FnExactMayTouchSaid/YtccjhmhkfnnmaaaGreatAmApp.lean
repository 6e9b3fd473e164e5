import Derived.Test.YtccjhmhkfnnmaaaGreatAmMk
set_option linter.unusedVariables false
set_option linter.unusedSimpArgs false
namespace Go.AM
set_option linter.unusedVariables false
set_option linter.unusedSimpArgs false
theorem OwnL.app_flat {H : AH} {as : List AV} {xs : List (List CD)} {f1 : List Nat} (o1 : OwnL H as xs.flatten f1) {ys : List AV} {row : List CD} {f2 : List Nat} (o2 : OwnL H ys row f2) : OwnL H (as ++ ys) (xs ++ [row]).flatten (f1 ++ f2) := by
  rw [List.flatten_append]; simpa using o1.append o2
theorem app_ext {H : AH} {v : AV} {sz bytes : Nat} {xs : List (List CD)} {fp : List Nat} (o : Own H v (.sl sz xs) fp) {ys : List AV} {row : List CD} {f2 : List Nat} (nd : (fp ++ f2).Nodup) (h0 : 0 < sz) (hy : ys.length = sz)
    (oy : OwnL H ys row f2) (hb : (xs.length + 1) * (sz + bytes) ≤ maxMade) :
    ∃ v' H' fp', (∀ e l, appK ⟨e, l, H ++ [some (0, ys)]⟩ sz bytes v (srcCells ⟨e, l, H ++ [some (0, ys)]⟩ sz false (.gs H.length 0 0 1 1 sz true)) (lenOf (.gs H.length 0 0 1 1 sz true)) (lenOf v) = .val v' ⟨e, l, H'⟩) ∧
      Own H' v' (.sl sz (xs ++ [row])) fp' ∧ fp'.Nodup ∧ (∀ c, c ∉ fp → c < H.length → H'[c]? = H[c]?) ∧ H.length ≤ H'.length ∧ (∀ c ∈ fp', c ∈ fp ∨ c ∈ f2 ∨ H.length ≤ c) := by
  have hno := oy.noLp
  have src : ∀ e l, srcCells ⟨e, l, H ++ [some (0, ys)]⟩ sz false (.gs H.length 0 0 1 1 sz true) = some ys := fun e l => by
    simp [srcCells, St.sliceCells, hget_last, sub_all hy]
  have hd := List.nodup_append.1 nd
  have hrl : row.length = sz := by rw [← oy.len, hy]
  rcases o.sl_inv with ⟨rfl, rfl, rfl⟩ | ⟨b, g, cap, ex, as, tail, fp', rfl, rfl, hg, h3, ht, hc, ho⟩
  · refine ⟨.gs (H.length + 1) 0 0 1 1 sz false, (H ++ [some (0, ys)]) ++ [some (0, ys)], (H.length + 1) :: f2, fun e l => ?_, ?_, ?_, ?_, ?_, ?_⟩
    · rw [src]
      simp only [appK, lenOf, aApp, St.push]
      rw [if_neg (by omega), if_neg (by simp at hb; omega), if_neg (by omega), if_pos hno]
      simp [AR.ofP]
    · have := Own.sl_mk (h := (H ++ [some (0, ys)]) ++ [some (0, ys)]) (b := H.length + 1) (g := 0) (cap := 1) (sz := sz) (ex := false) (as := ys) (tail := []) (xs := [row]) (fp := f2)
        (by rw [List.append_nil, show H.length + 1 = (H ++ [some (0, ys)]).length by simp]; exact hget_last _ _) (by simp [hrl]) (by simp) (by simp) (by simpa using (oy.grow (new := [some (0, ys)])).grow (new := [some (0, ys)]))
      simpa using this
    · refine List.nodup_cons.2 ⟨fun hm => ?_, hd.2.1⟩
      have := oy.lt _ hm; omega
    · intro c _ hl; rw [List.append_assoc, List.getElem?_append_left hl]
    · simp
    · intro c hc
      rcases List.mem_cons.1 hc with rfl | hc
      · exact .inr (.inr (by omega))
      · exact .inr (.inl hc)
  have hbl : b < H.length := hget_lt hg
  have hal : as.length = xs.length * sz := by
    rw [ho.len]
    have := flat_len' (l := xs) (f := fun x => x) (sz := sz) h3
    simpa using this
  have hg2 : hget (H ++ [some (0, ys)]) b = some (g, as ++ tail) := hget_grow hg _
  have hnb : b ∉ f2 := fun hm => hd.2.2 b (by simp) b hm rfl
  have hnbp : b ∉ fp' := (List.nodup_cons.1 hd.1).1
  have hset : ∀ z, ((H ++ [some (0, ys)]).set b z) = (H.set b z) ++ [some (0, ys)] := fun z => by rw [List.set_append_left _ _ hbl]
  have hgs : ∀ z : Nat × List AV, hget ((H ++ [some (0, ys)]).set b (some z)) b = some z := fun z => by
    simp only [hget, hset, List.getElem?_append_left (show b < (H.set b (some z)).length by simpa using hbl)]; simp [hbl]
  have hfr : ∀ (z : Option (Nat × List AV)) (c : Nat), c ≠ b → c < H.length → ((H ++ [some (0, ys)]).set b z)[c]? = H[c]? := fun z c hc hl => by
    rw [hset, List.getElem?_append_left (by simpa using hl), List.getElem?_set_ne (Ne.symm hc)]
  have own2 : ∀ z, OwnL ((H ++ [some (0, ys)]).set b z) (as ++ ys) (xs ++ [row]).flatten (fp' ++ f2) := fun z =>
    OwnL.app_flat (ho.frame fun c hc => hfr z c (fun e => hnbp (e ▸ hc)) (ho.lt c hc)) (oy.frame fun c hc => hfr z c (fun e => hnb (e ▸ hc)) (oy.lt c hc))
  have nd2 : (b :: (fp' ++ f2)).Nodup := by simpa using nd
  have h3' : ∀ l ∈ xs ++ [row], l.length = sz := fun l hl => by
    rcases List.mem_append.1 hl with hl | hl
    · exact h3 l hl
    · rw [List.mem_singleton.1 hl]; exact hrl
  have mem : ∀ c ∈ b :: (fp' ++ f2), c ∈ b :: fp' ∨ c ∈ f2 ∨ H.length ≤ c := fun c hc => by
    rcases List.mem_cons.1 hc with rfl | hc
    · exact .inl (by simp)
    · rcases List.mem_append.1 hc with hc | hc
      · exact .inl (by simp [hc])
      · exact .inr (.inl hc)
  by_cases hcap : xs.length + 1 ≤ cap
  · have hroom : (xs.length + 1) * sz ≤ (as ++ tail).length := by
      have h1 : (xs.length + 1) * sz = xs.length * sz + sz := Nat.succ_mul _ _
      have h2 : 1 * sz ≤ (cap - xs.length) * sz := Nat.mul_le_mul_right _ (by omega)
      have := hc.2
      rw [List.length_append, hal]; omega
    have hroom2 : (cap - (xs.length + 1)) * sz ≤ (tail.drop sz).length := by
      have h1 : cap - xs.length = (cap - (xs.length + 1)) + 1 := by omega
      have h2 := hc.2
      rw [h1, Nat.succ_mul] at h2
      rw [List.length_drop]; omega
    have hov : over (as ++ tail) (xs.length * sz) ys = (as ++ ys) ++ tail.drop sz := by
      simp only [over]
      rw [← hal, List.take_left', List.drop_append, List.drop_of_length_le (by omega), show as.length + ys.length - as.length = sz by omega]
      · simp
      · rfl
    refine ⟨.gs b g 0 (xs.length + 1) cap sz ex, (H ++ [some (0, ys)]).set b (some (g, (as ++ ys) ++ tail.drop sz)), b :: (fp' ++ f2), fun e l => ?_, ?_, nd2, ?_, by simp, mem⟩
    · rw [src]
      simp only [appK, lenOf, aApp]
      rw [if_neg (by omega), if_neg (by omega)]
      simp only [hg2, Option.bind_some, if_true, hno]
      rw [if_pos hcap, if_pos (by rw [Nat.zero_add]; exact hroom), Nat.zero_add, hov]
      rfl
    · have := Own.sl_mk (h := (H ++ [some (0, ys)]).set b (some (g, (as ++ ys) ++ tail.drop sz))) (b := b) (g := g) (cap := cap) (sz := sz) (ex := ex) (as := as ++ ys) (tail := tail.drop sz) (xs := xs ++ [row]) (fp := fp' ++ f2)
        (hgs _) h3' (fun x hx => ht x (List.mem_of_mem_drop hx)) ⟨by simpa using hcap, by simpa using hroom2⟩ (own2 _)
      simpa using this
    · intro c hc hl; exact hfr _ c (fun e => hc (by simp [e])) hl
  · refine ⟨.gs b (g + 1) 0 (xs.length + 1) (xs.length + 1) sz false, (H ++ [some (0, ys)]).set b (some (g + 1, as ++ ys)), b :: (fp' ++ f2), fun e l => ?_, ?_, nd2, ?_, by simp, mem⟩
    · rw [src]
      simp only [appK, lenOf, aApp]
      rw [if_neg (by omega), if_neg (by omega)]
      simp only [hg2, Option.bind_some, if_true, hno]
      rw [if_neg hcap]
      have : sub (as ++ tail) 0 (xs.length * sz) = some as := by
        simp only [sub]; rw [if_pos (by rw [Nat.zero_add, ← hal, List.length_append]; omega)]; simp [← hal]
      rw [this]; rfl
    · have := Own.sl_mk (h := (H ++ [some (0, ys)]).set b (some (g + 1, as ++ ys))) (b := b) (g := g + 1) (cap := xs.length + 1) (sz := sz) (ex := false) (as := as ++ ys) (tail := []) (xs := xs ++ [row]) (fp := fp' ++ f2)
        (by rw [List.append_nil]; exact hgs _) h3' (by simp) (by simp) (own2 _)
      simpa using this
    · intro c hc hl; exact hfr _ c (fun e => hc (by simp [e])) hl
end Go.AM
namespace Go.AM
theorem Own.outOK {h : AH} {a : AV} {d : CD} {fp : List Nat} (o : Own h a d fp) : Go.AM.outOK a = true := by cases o <;> rfl
theorem bsl0_own (h : AH) (sz : Nat) : Own (h ++ [some (0, [])]) (.gs h.length 0 0 0 0 sz true) (.sl sz []) [h.length] :=
  Own.sl_mk (xs := []) (as := []) (tail := []) (by simp [hget_last]) (by simp) (by simp) (by simp) rfl
theorem ext_of {h N H' : AH} {fp : List Nat} (hl : (h ++ N).length ≤ H'.length) (hf : ∀ c, c ∉ fp → c < (h ++ N).length → H'[c]? = (h ++ N)[c]?) (hfp : ∀ c ∈ fp, h.length ≤ c) : ∃ N', H' = h ++ N' := by
  refine ⟨H'.drop h.length, ?_⟩
  have hlen : h.length ≤ H'.length := by simp at hl; omega
  apply List.ext_getElem?
  intro c
  rcases Nat.lt_or_ge c h.length with g | g
  · rw [hf c (fun hc => by have := hfp c hc; omega) (by simp; omega), List.getElem?_append_left g, List.getElem?_append_left g]
  · rw [List.getElem?_append_right g, List.getElem?_drop, show h.length + (c - h.length) = c by omega]
theorem rp_0 (z : List AV) : (List.replicate 0 z).flatten = [] := rfl
theorem rp_1 (z : List AV) : (List.replicate 1 z).flatten = z := by simp
theorem bslK_u (e : List AV) (l : List (List AV)) (h : AH) (sz len : Nat) (cs : List AV) : bslK ⟨e, l, h⟩ sz len (some cs) = if cs.all noLp = true then .val (.gs h.length 0 0 len len sz true) ⟨e, l, h ++ [some (0, cs)]⟩ else .stuck := by simp [bslK, St.push]
theorem all_c1 (x : AV) (xs : List AV) : (x :: xs).all noLp = (noLp x && xs.all noLp) := rfl
theorem all_n1 : ([] : List AV).all noLp = true := rfl
theorem nn_i' (k : IntKind) (n : Int) : noLp (.int k n) = true := rfl
theorem nn_b' (b : Bool) : noLp (.bool b) = true := rfl
theorem nn_s' (b : ByteArray) : noLp (.str b) = true := rfl
theorem nn_n' : noLp .nils = true := rfl
theorem EA : type_of% (And.intro @rp_0 (And.intro @rp_1 (And.intro @bslK_u (And.intro @all_c1 (And.intro @all_n1 (And.intro @nn_i' (And.intro @nn_b' (And.intro @nn_s' (And.intro @nn_n' (And.intro @Bool.and_self (And.intro @Nat.zero_mul (@p_app)))))))))))) := And.intro @rp_0 (And.intro @rp_1 (And.intro @bslK_u (And.intro @all_c1 (And.intro @all_n1 (And.intro @nn_i' (And.intro @nn_b' (And.intro @nn_s' (And.intro @nn_n' (And.intro @Bool.and_self (And.intro @Nat.zero_mul (@p_app)))))))))))
end Go.AM
namespace Go.AM
structure HExt (h H : AH) : Prop where
  len : h.length ≤ H.length
  fr : ∀ c, c < h.length → H[c]? = h[c]?
theorem HExt.refl (h : AH) : HExt h h := ⟨Nat.le_refl _, fun _ _ => rfl⟩
theorem HExt.trans {h1 h2 h3 : AH} (a : HExt h1 h2) (b : HExt h2 h3) : HExt h1 h3 := ⟨Nat.le_trans a.len b.len, fun c hc => (b.fr c (Nat.lt_of_lt_of_le hc a.len)).trans (a.fr c hc)⟩
theorem HExt.app (h N : AH) : HExt h (h ++ N) := ⟨by simp, fun c hc => List.getElem?_append_left hc⟩
theorem HExt.out {h H : AH} (e : HExt h H) : ∃ N, H = h ++ N := by
  refine ⟨H.drop h.length, ?_⟩
  have := e.len
  apply List.ext_getElem?
  intro c
  rcases Nat.lt_or_ge c h.length with g | g
  · rw [e.fr c g, List.getElem?_append_left g]
  · rw [List.getElem?_append_right g, List.getElem?_drop, show h.length + (c - h.length) = c by omega]
theorem HExt.mark {h H H' : AH} {fp : List Nat} (e : HExt h H) (hl : H'.length = H.length) (hf : ∀ c, c ∉ fp → H'[c]? = H[c]?) (hp : ∀ c ∈ fp, h.length ≤ c) : HExt h H' :=
  ⟨by rw [hl]; exact e.len, fun c hc => (hf c (fun hm => by have := hp c hm; omega)).trans (e.fr c hc)⟩
theorem Own.ext {h H : AH} {a : AV} {d : CD} {fp : List Nat} (o : Own h a d fp) (e : HExt h H) : Own H a d fp := o.frame fun c hc => e.fr c (o.lt c hc)
theorem OwnL.ext {h H : AH} {as : List AV} {ds : List CD} {fp : List Nat} (o : OwnL h as ds fp) (e : HExt h H) : OwnL H as ds fp := o.frame fun c hc => e.fr c (o.lt c hc)
theorem Own.see {α : Type} {H : AH} {v : AV} {sz : Nat} {cd : α → List CD} {c : α → List AV} {l : List α} {fp : List Nat} (hc : ∀ x, (cd x).map (CD.av true) = c x) (o : Own H v (.sl sz (l.map cd)) fp) : Snap H v (.vs true sz false (l.map c)) := by
  have := o.view.1
  rw [CD.av_sl, List.map_map] at this
  have e : ((fun x => List.map (CD.av true) x) ∘ cd) = c := funext fun x => hc x
  rwa [e] at this
theorem OwnL.see {H : AH} {as : List AV} {cs : List CD} {ys : List AV} {fp : List Nat} (hc : cs.map (CD.av true) = ys) (o : OwnL H as cs fp) : Snap H (.agg as) (.agg ys) := by
  subst hc
  have := o.snap.spec
  refine .agg as _ this.1 (fun i => as.getD i .any) (fun i y hy => ?_) (fun i y hy => ?_)
  · obtain ⟨x, hx, _⟩ := this.2 i y hy; simp [List.getD_eq_getElem?_getD, hx]
  · obtain ⟨x, hx, hf⟩ := this.2 i y hy; simpa [List.getD_eq_getElem?_getD, hx] using hf
theorem Fresh.c1 {h H : AH} {d : CD} {v : AV} (f : Fresh h [.c d] v H) : ∃ fp, Own H v d fp ∧ fp.Nodup ∧ (∀ b ∈ fp, h.length ≤ b) ∧ HExt h H := by
  obtain ⟨new, fp, rfl, o, nd, hb⟩ := f.one; exact ⟨fp, o, nd, hb, HExt.app h new⟩
theorem Fresh.a1 {h H : AH} {cs : List CD} {v : AV} (f : Fresh h [.a cs] v H) : ∃ as fp, v = .agg as ∧ OwnL H as cs fp ∧ fp.Nodup ∧ (∀ b ∈ fp, h.length ≤ b) ∧ HExt h H := by
  obtain ⟨as, new, fp, e, rfl, o, nd, hb⟩ := f.oneA; exact ⟨as, fp, e, o, nd, hb, HExt.app h new⟩
theorem Fresh.c2 {h H : AH} {d d' : CD} (hd : d'.flat = true) {v : AV} (f : Fresh h [.c d, .c d'] v H) : ∃ a fp, v = .tup [a, d'.av true] ∧ Own H a d fp ∧ fp.Nodup ∧ (∀ b ∈ fp, h.length ≤ b) ∧ HExt h H := by
  obtain ⟨vs, new, fp, rfl, rfl, o, nd, hb, _⟩ := f
  match vs, o with
  | [a, a'], ⟨f1, f2, e, o1, f3, f4, e', o2, e''⟩ =>
    have o2 : Own (h ++ new) a' d' f3 := o2
    have e'' : f4 = [] := e''
    subst e''
    have : a' = d'.av true ∧ f3 = [] := by
      cases d' with
      | i => obtain ⟨rfl, rfl⟩ := own_i.1 o2; simp [CD.av_i]
      | b => obtain ⟨rfl, rfl⟩ := own_b.1 o2; simp [CD.av_b]
      | s => obtain ⟨rfl, rfl⟩ := own_s.1 o2; simp [CD.av_s]
      | sl => cases hd
    obtain ⟨rfl, rfl⟩ := this
    simp at e'; subst e'
    simp at e; subst e
    exact ⟨a, fp, rfl, o1, nd, hb, HExt.app h new⟩
theorem Fresh.a2 {h H : AH} {cs : List CD} {d' : CD} (hd : d'.flat = true) {v : AV} (f : Fresh h [.a cs, .c d'] v H) : ∃ as fp, v = .tup [.agg as, d'.av true] ∧ OwnL H as cs fp ∧ fp.Nodup ∧ (∀ b ∈ fp, h.length ≤ b) ∧ HExt h H := by
  obtain ⟨vs, new, fp, rfl, rfl, o, nd, hb, _⟩ := f
  match vs, o with
  | [a, a'], ⟨f1, f2, e, o1, f3, f4, e', o2, e''⟩ =>
    have o2 : Own (h ++ new) a' d' f3 := o2
    have e'' : f4 = [] := e''
    subst e''
    obtain ⟨as, rfl, o1⟩ := o1
    have : a' = d'.av true ∧ f3 = [] := by
      cases d' with
      | i => obtain ⟨rfl, rfl⟩ := own_i.1 o2; simp [CD.av_i]
      | b => obtain ⟨rfl, rfl⟩ := own_b.1 o2; simp [CD.av_b]
      | s => obtain ⟨rfl, rfl⟩ := own_s.1 o2; simp [CD.av_s]
      | sl => cases hd
    obtain ⟨rfl, rfl⟩ := this
    simp at e'; subst e'
    simp at e; subst e
    exact ⟨as, fp, rfl, o1, nd, hb, HExt.app h new⟩
theorem ints_see (n : Int) : [CD.i .i64 n].map (CD.av true) = [AV.int .i64 n] := by simp [CD.av_i]
theorem resOf_1 (a : AV) : resOf [a] = a := rfl
theorem resOf_2 (a b : AV) : resOf [a, b] = .tup [a, b] := rfl
theorem rd_c (β : Bool) (d : CD) : (RD.c d).av β = d.av β := rfl
theorem rd_a (β : Bool) (cs : List CD) : (RD.a cs).av β = .agg (cs.map (CD.av β)) := rfl
theorem snap_n {h : AH} : SnapL h [] [] := trivial
theorem snap_c {h : AH} {x y : AV} {xs ys : List AV} (a : Snap h x y) (b : SnapL h xs ys) : SnapL h (x :: xs) (y :: ys) := ⟨a, b⟩
end Go.AM
