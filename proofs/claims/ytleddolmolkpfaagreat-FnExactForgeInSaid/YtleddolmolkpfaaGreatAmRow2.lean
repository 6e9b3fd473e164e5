import Derived.Test.YtleddolmolkpfaaGreatAmLoc
set_option linter.unusedVariables false
set_option linter.unusedSimpArgs false
namespace Go.AM
theorem sub_midR {pre row post : List AV} {i n : Nat} (hi : i + n ≤ row.length) : sub (pre ++ row ++ post) (pre.length + i) n = sub row i n := by
  unfold sub
  rw [if_pos (by simp; omega), if_pos hi, List.append_assoc, List.drop_append, List.drop_eq_nil_of_le (by omega), List.nil_append, Nat.add_sub_cancel_left, List.drop_append_of_le_length (by omega), List.take_append_of_le_length (by rw [List.length_drop]; omega)]
theorem over_midR {pre row post vs : List AV} {i : Nat} (hi : i + vs.length ≤ row.length) : over (pre ++ row ++ post) (pre.length + i) vs = pre ++ over row i vs ++ post := by
  unfold over
  rw [List.append_assoc pre row post, List.take_append, List.take_of_length_le (show pre.length ≤ pre.length + i by omega), Nat.add_sub_cancel_left, List.take_append_of_le_length (show i ≤ row.length by omega),
    List.drop_append, List.drop_eq_nil_of_le (show pre.length ≤ pre.length + i + vs.length by omega), List.nil_append, show pre.length + i + vs.length - pre.length = i + vs.length by omega, List.drop_append_of_le_length hi]
  simp only [List.append_assoc]
structure Mid (H : AH) (b g : Nat) (pre row post : List AV) : Prop where
  eq : hget H b = some (g, pre ++ row ++ post)
theorem Mid.lt {H : AH} {b g : Nat} {pre row post : List AV} (m : Mid H b g pre row post) : b < H.length := hget_lt m.eq
theorem Mid.cells {H : AH} {b g : Nat} {pre row post : List AV} (m : Mid H b g pre row post) (e : List AV) (L : List (List AV)) (i n : Nat) (hi : i + n ≤ row.length) : (St.mk e L H).cells (.gp b g (pre.length + i)) n = sub row i n := by
  rw [cells_gp m.eq, sub_midR hi]
theorem Mid.frame {H H' : AH} {b g : Nat} {pre row post : List AV} (m : Mid H b g pre row post) (h : H'[b]? = H[b]?) : Mid H' b g pre row post := ⟨by have := m.eq; unfold hget at this ⊢; rw [h]; exact this⟩
theorem Mid.store {H : AH} {b g : Nat} {pre row post : List AV} (m : Mid H b g pre row post) {i : Nat} {vs : List AV} (hi : i + vs.length ≤ row.length) (hv : vs.all noLp = true) :
    ∃ H', (∀ (e : List AV) (L : List (List AV)), (St.mk e L H).store (.gp b g (pre.length + i)) vs = some ⟨e, L, H'⟩) ∧ Mid H' b g pre (over row i vs) post ∧ H'.length = H.length ∧ ∀ c, c ≠ b → H'[c]? = H[c]? := by
  refine ⟨H.set b (some (g, pre ++ over row i vs ++ post)), fun e L => ?_, ⟨?_⟩, by simp, fun c hc => List.getElem?_set_ne (Ne.symm hc)⟩
  · simp only [St.store, m.eq, Option.bind_some, if_true]
    rw [if_pos (by simp; omega), hv, if_pos rfl, over_midR hi]
  · have := m.lt
    simp [hget, this]
theorem Mid.nil {H : AH} {b g : Nat} {row : List AV} (h : hget H b = some (g, row)) : Mid H b g [] row [] := ⟨by simpa using h⟩
theorem Mid.snap {H : AH} {b g : Nat} {pre row post ys : List AV} (m : Mid H b g pre row post) (s : Snap H (.agg row) (.agg ys)) : Snap H (.gp b g pre.length) (.ip true ys) := by
  have key : ∀ (i : Nat) (y : AV), ys[i]? = some y → ∃ x, row[i]? = some x ∧ Snap H x y := by
    cases s with
    | same => exact fun i y hy => ⟨y, hy, .same _⟩
    | agg _ _ h1 f h2 r => exact fun i y hy => ⟨f i, h2 i y hy, r i y hy⟩
  refine .gp b g pre.length (pre ++ row ++ post) ys (fun i => row.getD i .any) (hget_spec m.eq) (fun j x hx => ?_) (fun j x hx => ?_)
  · obtain ⟨z, hz, _⟩ := key j x hx
    have hj := getElem?_lt hz
    rw [List.append_assoc, List.getElem?_append_right (by omega), Nat.add_sub_cancel_left, List.getElem?_append_left hj, hz]
    simp [List.getD_eq_getElem?_getD, hz]
  · obtain ⟨z, hz, hs⟩ := key j x hx
    simpa [List.getD_eq_getElem?_getD, hz] using hs
theorem Own.openRow {H : AH} {w : AV} {sz : Nat} {xs : List (List CD)} {fp : List Nat} (o : Own H w (.sl sz xs) fp) (nd : fp.Nodup) {k : Nat} (hk : k < xs.length) :
    ∃ b g pre row post f, aIdxs sz w (k : Int) = some (.gp b g pre.length) ∧ Mid H b g pre row post ∧ row.length = sz ∧ OwnL H row xs[k] f ∧ f.Nodup ∧ (∀ c ∈ f, c ∈ fp) ∧ b ∈ fp ∧ b ∉ f ∧
      ∀ (H' : AH) (row' : List AV) (d' : List CD) (f' : List Nat), OwnL H' row' d' f' → f'.Nodup → d'.length = sz → (∀ c ∈ f', c ∈ f ∨ c ∉ fp) → Mid H' b g pre row' post → (∀ c ∈ fp, c ∉ f → c ≠ b → H'[c]? = H[c]?) →
        ∃ fp', Own H' w (.sl sz (xs.set k d')) fp' ∧ fp'.Nodup ∧ (∀ c ∈ fp', c ∈ fp ∨ c ∈ f') := by
  rcases o.sl_inv with ⟨rfl, e, rfl⟩ | ⟨b, g, cap, ex, az, tail, fp', rfl, rfl, hg, hsz, ht, hc, hown⟩
  · subst e; simp at hk
  obtain ⟨nb, nd'⟩ := List.nodup_cons.1 nd
  have hfl : ∀ d : List CD, (xs.set k d).flatten = (xs.take k).flatten ++ (d ++ (xs.drop (k + 1)).flatten) := fun d => by
    rw [← List.flatten_cons, ← List.flatten_append, List.set_eq_take_append_cons_drop, if_pos hk]
  have hf0 := hfl xs[k]
  rw [List.set_getElem_self] at hf0
  rw [hf0] at hown
  obtain ⟨a1, a2, f1, f2, e1, e2, o1, o2⟩ := hown.split
  obtain ⟨a3, a4, f3, f4, e3, e4, o3, o4⟩ := o2.split
  subst e1 e2 e3 e4
  have l1 : a1.length = k * sz := by
    rw [o1.len]
    have : ∀ (ys : List (List CD)), (∀ l ∈ ys, l.length = sz) → ys.flatten.length = ys.length * sz := fun ys => by
      induction ys with
      | nil => intro _; simp
      | cons y ys ih => intro h; rw [List.flatten_cons, List.length_append, ih (fun l hl => h l (by simp [hl])), h y (by simp), List.length_cons, Nat.add_mul]; omega
    rw [this _ (fun l hl => hsz l (List.mem_of_mem_take hl)), List.length_take, Nat.min_eq_left (by omega)]
  have l3 : a3.length = sz := by rw [o3.len]; exact hsz _ (List.getElem_mem hk)
  obtain ⟨n1, n2, n3⟩ := List.nodup_append.1 nd'
  obtain ⟨n4, n5, n6⟩ := List.nodup_append.1 n2
  refine ⟨b, g, a1, a3, a4 ++ tail, f3, by have := idx_gs (b := b) (g := g) (off := 0) (len := xs.length) (cap := cap) (sz := sz) (ex := ex) hk; rwa [Nat.zero_add, ← l1] at this, ⟨by rw [hg]; simp⟩, l3, o3, n4, fun c hc => by simp [hc], by simp, fun hb => nb (by simp [hb]), ?_⟩
  intro H' row' d' f' o' nd2 hdl hf' hm fr
  have hbf' : b ∉ f' := fun hb => by
    rcases hf' b hb with q | q
    · exact nb (by simp [q])
    · exact q (by simp)
  have d1 : ∀ c ∈ f', c ∉ f1 := fun c hc h1 => by
    rcases hf' c hc with q | q
    · exact n3 c h1 c (List.mem_append_left _ q) rfl
    · exact q (by simp [h1])
  have d4 : ∀ c ∈ f', c ∉ f4 := fun c hc h1 => by
    rcases hf' c hc with q | q
    · exact n6 c q c h1 rfl
    · exact q (by simp [h1])
  have o1' := o1.frame (h' := H') fun c hc => fr c (by simp [hc]) (fun h3 => n3 c hc c (List.mem_append_left _ h3) rfl) (fun e => nb (by rw [← e]; simp [hc]))
  have o4' := o4.frame (h' := H') fun c hc => fr c (by simp [hc]) (fun h3 => n6 c h3 c hc rfl) (fun e => nb (by rw [← e]; simp [hc]))
  refine ⟨b :: (f1 ++ (f' ++ f4)), ?_, List.nodup_cons.2 ⟨?_, List.nodup_append.2 ⟨n1, List.nodup_append.2 ⟨nd2, n5, fun x hx y hy e => d4 x hx (e ▸ hy)⟩, fun x hx y hy e => ?_⟩⟩, fun c hc => ?_⟩
  · have := Own.sl_mk (h := H') (b := b) (g := g) (cap := cap) (sz := sz) (ex := ex) («as» := a1 ++ (row' ++ a4)) (tail := tail) (xs := xs.set k d') (fp := f1 ++ (f' ++ f4))
      (by rw [hm.eq]; simp) (fun y hy => by
        rcases List.mem_or_eq_of_mem_set hy with g | g
        · exact hsz y g
        · rw [g, hdl]) ht (by simpa using hc) (by rw [hfl]; exact o1'.append (o'.append o4'))
    simpa using this
  · simp only [List.mem_append, not_or]
    exact ⟨fun h => nb (by simp [h]), hbf', fun h => nb (by simp [h])⟩
  · subst e
    rcases List.mem_append.1 hy with q | q
    · exact d1 x q hx
    · exact n3 x hx x (List.mem_append_right _ q) rfl
  · simp only [List.mem_cons, List.mem_append] at hc ⊢
    rcases hc with q | q | q | q
    · exact .inl (.inl q)
    · exact .inl (.inr (.inl q))
    · exact .inr q
    · exact .inl (.inr (.inr (.inr q)))
end Go.AM
