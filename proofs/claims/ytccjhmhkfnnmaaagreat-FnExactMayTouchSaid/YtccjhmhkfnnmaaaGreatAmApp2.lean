import Derived.Test.YtccjhmhkfnnmaaaGreatAmApp
set_option linter.unusedVariables false
set_option linter.unusedSimpArgs false
namespace Go.AM
set_option linter.unusedVariables false
set_option linter.unusedSimpArgs false
theorem app_core {H : AH} {v : AV} {sz bytes : Nat} {xs : List (List CD)} {fp : List Nat} (o : Own H v (.sl sz xs) fp) {ys : List AV} {rows : List (List CD)} {f2 : List Nat} (nd : (fp ++ f2).Nodup) (h0 : 0 < sz)
    (hr : ∀ r ∈ rows, r.length = sz) (oy : OwnL H ys rows.flatten f2) (hb : (xs.length + rows.length) * (sz + bytes) ≤ maxMade) :
    ∃ v' H' fp', (∀ e l, aApp ⟨e, l, H⟩ sz bytes v ys rows.length xs.length = some (v', ⟨e, l, H'⟩)) ∧
      Own H' v' (.sl sz (xs ++ rows)) fp' ∧ fp'.Nodup ∧ (∀ c, c ∉ fp → c < H.length → H'[c]? = H[c]?) ∧ H.length ≤ H'.length ∧ (∀ c ∈ fp', c ∈ fp ∨ c ∈ f2 ∨ H.length ≤ c) := by
  have hno := oy.noLp
  have hd := List.nodup_append.1 nd
  have hyl : ys.length = rows.length * sz := by
    rw [oy.len]
    have := flat_len' (l := rows) (f := fun x => x) (sz := sz) hr
    simpa using this
  rcases o.sl_inv with ⟨rfl, rfl, rfl⟩ | ⟨b, g, cap, ex, as, tail, fp', rfl, rfl, hg, h3, ht, hc, ho⟩
  · by_cases hz : rows.length = 0
    · have e : rows = [] := List.length_eq_zero_iff.1 hz
      subst e
      refine ⟨.nils, H, [], fun e l => ?_, .nil _, by simp, fun _ _ _ => rfl, Nat.le_refl _, by simp⟩
      simp only [aApp]
      rw [if_neg (by omega), if_neg (by simp)]; rfl
    · refine ⟨.gs H.length 0 0 rows.length rows.length sz false, H ++ [some (0, ys)], H.length :: f2, fun e l => ?_, ?_, ?_, ?_, by simp, ?_⟩
      · simp only [aApp, St.push]
        rw [if_neg (by omega), if_neg (by simp only [List.length_nil] at hb ⊢; omega), if_neg hz, if_pos hno]
      · have := Own.sl_mk (h := H ++ [some (0, ys)]) (b := H.length) (g := 0) (cap := rows.length) (sz := sz) (ex := false) (as := ys) (tail := []) (xs := rows) (fp := f2)
          (by rw [List.append_nil]; exact hget_last _ _) hr (by simp) (by simp) (oy.grow (new := [some (0, ys)]))
        simpa using this
      · exact List.nodup_cons.2 ⟨fun hm => by have := oy.lt _ hm; omega, hd.2.1⟩
      · intro c _ hl; rw [List.getElem?_append_left hl]
      · intro c hc
        rcases List.mem_cons.1 hc with rfl | hc
        · exact .inr (.inr (Nat.le_refl _))
        · exact .inr (.inl hc)
  have hbl : b < H.length := hget_lt hg
  have hal : as.length = xs.length * sz := by
    rw [ho.len]
    have := flat_len' (l := xs) (f := fun x => x) (sz := sz) h3
    simpa using this
  have hnb : b ∉ f2 := fun hm => hd.2.2 b (by simp) b hm rfl
  have hnbp : b ∉ fp' := (List.nodup_cons.1 hd.1).1
  have hgs : ∀ z : Nat × List AV, hget (H.set b (some z)) b = some z := fun z => by simp [hget, hbl]
  have hfr : ∀ (z : Option (Nat × List AV)) (c : Nat), c ≠ b → (H.set b z)[c]? = H[c]? := fun z c hc => List.getElem?_set_ne (Ne.symm hc)
  have own2 : ∀ z, OwnL (H.set b z) (as ++ ys) (xs ++ rows).flatten (fp' ++ f2) := fun z => by
    rw [List.flatten_append]
    exact OwnL.append (ho.frame fun c hc => hfr z c (fun e => hnbp (e ▸ hc))) (oy.frame fun c hc => hfr z c (fun e => hnb (e ▸ hc)))
  have nd2 : (b :: (fp' ++ f2)).Nodup := by simpa using nd
  have h3' : ∀ l ∈ xs ++ rows, l.length = sz := fun l hl => by
    rcases List.mem_append.1 hl with hl | hl
    · exact h3 l hl
    · exact hr l hl
  have mem : ∀ c ∈ b :: (fp' ++ f2), c ∈ b :: fp' ∨ c ∈ f2 ∨ H.length ≤ c := fun c hc => by
    rcases List.mem_cons.1 hc with rfl | hc
    · exact .inl (by simp)
    · rcases List.mem_append.1 hc with hc | hc
      · exact .inl (by simp [hc])
      · exact .inr (.inl hc)
  by_cases hcap : xs.length + rows.length ≤ cap
  · have hroom : (xs.length + rows.length) * sz ≤ (as ++ tail).length := by
      have h1 : (xs.length + rows.length) * sz = xs.length * sz + rows.length * sz := Nat.add_mul _ _ _
      have h2 : rows.length * sz ≤ (cap - xs.length) * sz := Nat.mul_le_mul_right _ (by omega)
      have := hc.2
      rw [List.length_append, hal]; omega
    have hroom2 : (cap - (xs.length + rows.length)) * sz ≤ (tail.drop ys.length).length := by
      have h1 : cap - xs.length = (cap - (xs.length + rows.length)) + rows.length := by omega
      have h2 := hc.2
      rw [h1, Nat.add_mul] at h2
      rw [List.length_drop, hyl]; omega
    have hov : over (as ++ tail) (xs.length * sz) ys = (as ++ ys) ++ tail.drop ys.length := by
      simp only [over]
      rw [← hal, List.take_left', List.drop_append, List.drop_of_length_le (by omega), show as.length + ys.length - as.length = ys.length by omega]
      · simp
      · rfl
    refine ⟨.gs b g 0 (xs.length + rows.length) cap sz ex, H.set b (some (g, (as ++ ys) ++ tail.drop ys.length)), b :: (fp' ++ f2), fun e l => ?_, ?_, nd2, ?_, by simp, mem⟩
    · simp only [aApp]
      rw [if_neg (by omega), if_neg (by omega)]
      simp only [hg, Option.bind_some, if_true, hno]
      rw [if_pos hcap, if_pos (by rw [Nat.zero_add]; exact hroom), Nat.zero_add, hov]
    · have := Own.sl_mk (h := H.set b (some (g, (as ++ ys) ++ tail.drop ys.length))) (b := b) (g := g) (cap := cap) (sz := sz) (ex := ex) (as := as ++ ys) (tail := tail.drop ys.length) (xs := xs ++ rows) (fp := fp' ++ f2)
        (hgs _) h3' (fun x hx => ht x (List.mem_of_mem_drop hx)) ⟨by simpa using hcap, by simpa using hroom2⟩ (own2 _)
      simpa using this
    · intro c hc hl; exact hfr _ c (fun e => hc (by simp [e]))
  · refine ⟨.gs b (g + 1) 0 (xs.length + rows.length) (xs.length + rows.length) sz false, H.set b (some (g + 1, as ++ ys)), b :: (fp' ++ f2), fun e l => ?_, ?_, nd2, ?_, by simp, mem⟩
    · simp only [aApp]
      rw [if_neg (by omega), if_neg (by omega)]
      simp only [hg, Option.bind_some, if_true, hno]
      rw [if_neg hcap]
      have : sub (as ++ tail) 0 (xs.length * sz) = some as := by
        simp only [sub]; rw [if_pos (by rw [Nat.zero_add, ← hal, List.length_append]; omega)]; simp [← hal]
      rw [this]; rfl
    · have := Own.sl_mk (h := H.set b (some (g + 1, as ++ ys))) (b := b) (g := g + 1) (cap := xs.length + rows.length) (sz := sz) (ex := false) (as := as ++ ys) (tail := []) (xs := xs ++ rows) (fp := fp' ++ f2)
        (by rw [List.append_nil]; exact hgs _) h3' (by simp) (by simp) (own2 _)
      simpa using this
    · intro c hc hl; exact hfr _ c (fun e => hc (by simp [e]))
theorem flat_nofp {H : AH} : ∀ {as : List AV} {cs : List CD} {fp : List Nat}, cs.all CD.flat = true → OwnL H as cs fp → fp = []
  | [], [], _, _, o => o
  | a :: as, d :: ds, fp, h, ⟨f1, f2, e, o1, o2⟩ => by
    simp only [List.all_cons, Bool.and_eq_true] at h
    have e2 := flat_nofp h.2 o2
    have e1 : f1 = [] := by cases o1 <;> first | rfl | (simp [CD.flat] at h)
    rw [e, e1, e2]; rfl
theorem len_own {H : AH} {v : AV} {sz : Nat} {xs : List (List CD)} {fp : List Nat} (o : Own H v (.sl sz xs) fp) : lenOf v = some xs.length ∧ lenI false v = some (.int .i64 xs.length) := by
  rcases o.sl_inv with ⟨rfl, rfl, rfl⟩ | ⟨b, g, cap, ex, as, tail, fp', rfl, rfl, hg, h3, ht, hc, ho⟩ <;> exact ⟨rfl, rfl⟩
theorem app_list {H : AH} {v w : AV} {sz bytes : Nat} {xs ys : List (List CD)} {fp fw : List Nat} (o : Own H v (.sl sz xs) fp) (nd : fp.Nodup) (h0 : 0 < sz) (ow : Own H w (.sl sz ys) fw) (hf : ys.flatten.all CD.flat = true)
    (hb : (xs.length + ys.length) * (sz + bytes) ≤ maxMade) :
    ∃ v' H' fp', (∀ e l, appK ⟨e, l, H⟩ sz bytes v (srcCells ⟨e, l, H⟩ sz false w) (lenOf w) (lenOf v) = .val v' ⟨e, l, H'⟩) ∧
      Own H' v' (.sl sz (xs ++ ys)) fp' ∧ fp'.Nodup ∧ (∀ c, c ∉ fp → c < H.length → H'[c]? = H[c]?) ∧ H.length ≤ H'.length ∧ (∀ c ∈ fp', c ∈ fp ∨ H.length ≤ c) := by
  have L1 := (len_own o).1
  have L2 := (len_own ow).1
  obtain ⟨zs, hz, oz, hr⟩ : ∃ zs, (∀ e l, srcCells ⟨e, l, H⟩ sz false w = some zs) ∧ OwnL H zs ys.flatten [] ∧ ∀ r ∈ ys, r.length = sz := by
    rcases ow.sl_inv with ⟨rfl, rfl, rfl⟩ | ⟨b, g, cap, ex, as, tail, fp', rfl, rfl, hg, h3, ht, hc, ho⟩
    · exact ⟨[], fun e l => rfl, rfl, by simp⟩
    · refine ⟨as, fun e l => ?_, ?_, h3⟩
      · have hal : as.length = ys.length * sz := by
          rw [ho.len]
          have := flat_len' (l := ys) (f := fun x => x) (sz := sz) h3
          simpa using this
        simp only [srcCells, St.sliceCells, if_true, hg, Option.bind_some]
        simp only [sub]; rw [if_pos (by rw [Nat.zero_add, ← hal, List.length_append]; omega)]; simp [← hal]
      · have := flat_nofp hf ho
        rwa [this] at ho
  obtain ⟨v', H', fp', h1, h2, h3, h4, h5, h6⟩ := app_core (bytes := bytes) o (f2 := []) (by simpa using nd) h0 hr oz hb
  refine ⟨v', H', fp', fun e l => ?_, h2, h3, h4, h5, fun c hc => ?_⟩
  · rw [hz, L1, L2]; simp only [appK, h1]; rfl
  · rcases h6 c hc with g | g | g
    · exact .inl g
    · simp at g
    · exact .inr g
end Go.AM
