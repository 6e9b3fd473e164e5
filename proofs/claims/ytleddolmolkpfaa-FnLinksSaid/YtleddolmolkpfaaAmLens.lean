import Derived.Test.YtleddolmolkpfaaAmCat
set_option linter.unusedVariables false
set_option linter.unusedSimpArgs false
namespace Go.AM
theorem OwnL.focus {h : AH} : ∀ {as : List AV} {ds : List CD} {fp : List Nat}, OwnL h as ds fp → fp.Nodup → ∀ (j : Nat) (hj : j < ds.length), ∃ a f, as[j]? = some a ∧ Own h a ds[j] f ∧ f.Nodup ∧ (∀ c ∈ f, c ∈ fp) ∧
    ∀ (h' : AH) (a' : AV) (d' : CD) (f' : List Nat), Own h' a' d' f' → f'.Nodup → (∀ c ∈ f', c ∈ f ∨ c ∉ fp) → (∀ c ∈ fp, c ∉ f → h'[c]? = h[c]?) →
      ∃ fp', OwnL h' (as.set j a') (ds.set j d') fp' ∧ fp'.Nodup ∧ (∀ c ∈ fp', c ∈ fp ∨ c ∈ f') ∧ (∀ c ∈ fp', c ∈ f → c ∈ f')
  | [], [], _, _, _, j, hj => by simp at hj
  | a :: as, d :: ds, fp, ⟨f1, f2, e, o1, o2⟩, nd, j, hj => by
    subst e
    obtain ⟨n1, n2, n3⟩ := List.nodup_append.1 nd
    cases j with
    | zero =>
      refine ⟨a, f1, rfl, o1, n1, fun c hc => List.mem_append_left _ hc, fun h' a' d' f' o' nd' hf' fr => ?_⟩
      have hdis : ∀ c ∈ f', c ∉ f2 := fun c hc h2 => by
        rcases hf' c hc with g | g
        · exact n3 c g c h2 rfl
        · exact g (List.mem_append_right _ h2)
      refine ⟨f' ++ f2, ⟨f', f2, rfl, o', OwnL.frame o2 fun c hc => fr c (List.mem_append_right _ hc) (fun h1 => n3 c h1 c hc rfl)⟩, List.nodup_append.2 ⟨nd', n2, fun x hx y hy e => hdis x hx (e ▸ hy)⟩, fun c hc => ?_, fun c hc hcf => ?_⟩
      · rcases List.mem_append.1 hc with g | g
        · exact .inr g
        · exact .inl (List.mem_append_right _ g)
      · rcases List.mem_append.1 hc with g | g
        · exact g
        · exact absurd rfl (n3 c hcf c g)
    | succ j =>
      obtain ⟨a0, f, g1, g2, g3, g4, g5⟩ := OwnL.focus o2 n2 j (by simpa using hj)
      refine ⟨a0, f, by simpa using g1, by simpa using g2, g3, fun c hc => List.mem_append_right _ (g4 c hc), fun h' a' d' f' o' nd' hf' fr => ?_⟩
      obtain ⟨fp', q1, q2, q3, q4⟩ := g5 h' a' d' f' o' nd' (fun c hc => (hf' c hc).imp id fun hn hm => hn (List.mem_append_right _ hm)) (fun c hc hcf => fr c (List.mem_append_right _ hc) hcf)
      have hdis : ∀ c ∈ f1, c ∉ fp' := fun c hc hm => by
        rcases q3 c hm with g | g
        · exact n3 c hc c g rfl
        · rcases hf' c g with g' | g'
          · exact n3 c hc c (g4 c g') rfl
          · exact g' (List.mem_append_left _ hc)
      refine ⟨f1 ++ fp', ⟨f1, fp', rfl, o1.frame fun c hc => fr c (List.mem_append_left _ hc) (fun hm => n3 c hc c (g4 c hm) rfl), q1⟩, List.nodup_append.2 ⟨n1, q2, fun x hx y hy e => hdis x hx (e ▸ hy)⟩, fun c hc => ?_, fun c hc hcf => ?_⟩
      · rcases List.mem_append.1 hc with g | g
        · exact .inl (List.mem_append_left _ g)
        · exact (q3 c g).imp (List.mem_append_right _) id
      · rcases List.mem_append.1 hc with g | g
        · exact absurd rfl (n3 c g c (g4 c hcf))
        · exact q4 c g hcf
  | [], _ :: _, _, o, _, _, _ => o.elim
  | _ :: _, [], _, o, _, _, _ => o.elim
theorem flat_set {α : Type} {sz : Nat} : ∀ {xs : List (List α)}, (∀ l ∈ xs, l.length = sz) → ∀ {k off : Nat} (hk : k < xs.length), off < sz → ∀ d : α,
    xs.flatten.set (k * sz + off) d = (xs.set k (xs[k].set off d)).flatten ∧ xs.flatten[k * sz + off]? = xs[k][off]? ∧ k * sz + off < xs.flatten.length
  | [], _, k, off, hk, _, _ => by simp at hk
  | x :: xs, hx, 0, off, hk, ho, d => by
    have hl : x.length = sz := hx x (by simp)
    refine ⟨?_, ?_, ?_⟩
    · simp only [Nat.zero_mul, Nat.zero_add, List.flatten_cons, List.set_cons_zero, List.getElem_cons_zero]
      rw [List.set_append_left _ _ (by omega)]
    · simp only [Nat.zero_mul, Nat.zero_add, List.flatten_cons, List.getElem_cons_zero]
      rw [List.getElem?_append_left (by omega)]
    · simp; omega
  | x :: xs, hx, k + 1, off, hk, ho, d => by
    have hl : x.length = sz := hx x (by simp)
    obtain ⟨h1, h2, h3⟩ := flat_set (xs := xs) (fun l h => hx l (by simp [h])) (k := k) (off := off) (by simpa using hk) ho d
    have e : (k + 1) * sz + off = x.length + (k * sz + off) := by rw [Nat.add_mul]; omega
    refine ⟨?_, ?_, ?_⟩
    · simp only [List.flatten_cons, List.set_cons_succ, List.getElem_cons_succ]
      rw [e, List.set_append_right _ _ (by omega), Nat.add_sub_cancel_left, h1]
    · simp only [List.flatten_cons, List.getElem_cons_succ]
      rw [e, List.getElem?_append_right (by omega), Nat.add_sub_cancel_left, h2]
    · simp only [List.flatten_cons, List.length_append]; omega
theorem Own.lens {H : AH} {w : AV} {sz : Nat} {xs : List (List CD)} {fp : List Nat} (o : Own H w (.sl sz xs) fp) (nd : fp.Nodup) {k off : Nat} (hk : k < xs.length) (ho : off < sz) (hl : off < xs[k].length) :
    ∃ b g a f, aIdxs sz w (k : Int) = some (.gp b g (k * sz)) ∧ b < H.length ∧ b ∈ fp ∧ (∀ (e : List AV) (L : List (List AV)), (St.mk e L H).cells (.gp b g (k * sz + off)) 1 = some [a]) ∧ Own H a (xs[k][off]) f ∧ f.Nodup ∧ (∀ c ∈ f, c ∈ fp) ∧ b ∉ f ∧
      ∀ (H' : AH) (a' : AV) (d' : CD) (f' : List Nat), Own H' a' d' f' → f'.Nodup → (∀ c ∈ f', c ∈ f ∨ c ∉ fp) → (∀ c ∈ fp, c ∉ f → H'[c]? = H[c]?) →
        ∃ H'' fp', (∀ (e : List AV) (L : List (List AV)), (St.mk e L H').store (.gp b g (k * sz + off)) [a'] = some ⟨e, L, H''⟩) ∧ Own H'' w (.sl sz (xs.set k (xs[k].set off d'))) fp' ∧ fp'.Nodup ∧ (∀ c ∈ fp', c ∈ fp ∨ c ∈ f') ∧ H''.length = H'.length ∧ ∀ c, c ≠ b → H''[c]? = H'[c]? := by
  rcases o.sl_inv with ⟨rfl, e, rfl⟩ | ⟨b, g, cap, ex, az, tail, fp', rfl, rfl, hg, hsz, ht, hc, hown⟩
  · subst e; simp at hk
  obtain ⟨nb, nd'⟩ := List.nodup_cons.1 nd
  have hf0 := flat_set hsz hk ho xs[k][off]
  have hj : k * sz + off < xs.flatten.length := hf0.2.2
  have hjl : k * sz + off < az.length := by rw [hown.len]; exact hj
  obtain ⟨a, f, h1, h2, h3, h4, h5⟩ := hown.focus nd' (k * sz + off) hj
  have hd : xs.flatten[k * sz + off] = xs[k][off] := by
    have := hf0.2.1
    rw [List.getElem?_eq_getElem hj, List.getElem?_eq_getElem hl] at this
    exact Option.some.inj this
  rw [hd] at h2
  have hbl : b < H.length := hget_lt hg
  refine ⟨b, g, a, f, by have := idx_gs (b := b) (g := g) (off := 0) (len := xs.length) (cap := cap) (sz := sz) (ex := ex) hk; rwa [Nat.zero_add] at this, hbl, by simp, fun e L => ?_, h2, h3, fun c hc => List.mem_cons_of_mem _ (h4 c hc), fun hb => nb (h4 b hb), ?_⟩
  · rw [cells_gp hg]
    unfold sub
    rw [if_pos (by simp; omega), List.drop_append_of_le_length (by omega)]
    rw [List.getElem?_eq_getElem hjl] at h1
    rw [List.drop_eq_getElem_cons hjl, Option.some.inj h1]
    rfl
  · intro H' a' d' f' o' nd2 hf' fr
    have hgb : hget H' b = some (g, az ++ tail) := by
      have := fr b (by simp) (fun hb => nb (h4 b hb))
      unfold hget at hg ⊢; rw [this]; exact hg
    have hbl' : b < H'.length := hget_lt hgb
    have hbf' : b ∉ f' := fun hb => by
      rcases hf' b hb with q | q
      · exact nb (h4 b q)
      · exact q (by simp)
    -- the block is written
    have key := h5 (H'.set b (some (g, az.set (k * sz + off) a' ++ tail))) a' d' f' (o'.frame fun c hc => List.getElem?_set_ne (fun e : b = c => hbf' (by rw [e]; exact hc))) nd2 (fun c hc => (hf' c hc).imp id fun hn hm => hn (List.mem_cons_of_mem _ hm)) (fun c hc hcf => by
      rw [List.getElem?_set_ne (fun e : b = c => nb (by rw [e]; exact hc))]; exact fr c (List.mem_cons_of_mem _ hc) hcf)
    obtain ⟨fq, q1, q2, q3, _⟩ := key
    have hbq : b ∉ fq := fun hb => by
      rcases q3 b hb with q | q
      · exact nb q
      · exact hbf' q
    refine ⟨H'.set b (some (g, az.set (k * sz + off) a' ++ tail)), b :: fq, fun e L => ?_, ?_, List.nodup_cons.2 ⟨hbq, q2⟩, fun c hc => ?_, by simp, fun c hcb => List.getElem?_set_ne (Ne.symm hcb)⟩
    · simp only [St.store, hgb, Option.bind_some, if_true, List.length_cons, List.length_nil, List.all_cons, List.all_nil, o'.noLp, Bool.and_self]
      rw [if_pos (by simp; omega)]
      congr 3
      simp only [over, List.length_cons, List.length_nil]
      rw [List.take_append_of_le_length (by omega), List.drop_append_of_le_length (by omega), ← List.append_assoc, List.set_eq_take_append_cons_drop, if_pos hjl]
      simp
    · have hset := (flat_set hsz hk ho d').1
      rw [hset] at q1
      have := Own.sl_mk (h := H'.set b (some (g, az.set (k * sz + off) a' ++ tail))) (b := b) (g := g) (cap := cap) (sz := sz) (ex := ex) («as» := az.set (k * sz + off) a') (tail := tail) (xs := xs.set k (xs[k].set off d')) (fp := fq)
        (by simp [hget, hbl']) (fun y hy => by
          rcases List.mem_or_eq_of_mem_set hy with g | g
          · exact hsz y g
          · rw [g, List.length_set]; exact hsz _ (List.getElem_mem hk)) ht (by simpa using hc) q1
      simpa using this
    · rcases List.mem_cons.1 hc with rfl | hc
      · exact .inl (by simp)
      · exact (q3 c hc).imp (List.mem_cons_of_mem _) id
end Go.AM

