import Derived.Test.YtccjhmhkfnnmaaaGreatAmLens
set_option linter.unusedVariables false
set_option linter.unusedSimpArgs false
namespace Go.AM
theorem cells_at {e : List AV} {L : List (List AV)} {h : AH} {i off n : Nat} {z : List AV} (hi : L[i]? = some z) : (St.mk e L h).cells (.lp i off) n = sub z off n := by
  simp only [St.cells, hi, Option.bind_some]
theorem store_all {e : List AV} {L : List (List AV)} {h : AH} {i : Nat} {z vs : List AV} (hi : L[i]? = some z) (ho : vs.length = z.length) (hv : vs.all isCell = true) : (St.mk e L h).store (.lp i 0) vs = some ⟨e, L.set i vs, h⟩ := by
  simp only [St.store, hi, Option.bind_some, Nat.zero_add]
  rw [if_pos (by omega), hv, if_pos rfl]
  congr 3
  simp [over, ho]
theorem at_app {L : List (List AV)} {i : Nat} {z : List AV} (hi : L[i]? = some z) (x : List (List AV)) : (L ++ x)[i]? = some z := by
  rw [List.getElem?_append_left (getElem?_lt hi)]; exact hi
theorem at_set {L : List (List AV)} {i j : Nat} {z y : List AV} (hi : L[i]? = some z) (hij : j ≠ i) : (L.set j y)[i]? = some z := by
  rw [List.getElem?_set_ne hij]; exact hi
theorem at_setS {L : List (List AV)} {i : Nat} {z y : List AV} (hi : L[i]? = some z) : (L.set i y)[i]? = some y := by
  rw [List.getElem?_set_self (getElem?_lt hi)]
theorem at_last (L : List (List AV)) (x : List AV) : (L ++ [x])[L.length]? = some x := by simp
theorem Own.row {H : AH} {w : AV} {sz : Nat} {xs : List (List CD)} {fp : List Nat} (o : Own H w (.sl sz xs) fp) (nd : fp.Nodup) {k : Nat} (hk : k < xs.length) :
    ∃ b g az f, aIdxs sz w (k : Int) = some (.gp b g (k * sz)) ∧ b < H.length ∧ b ∈ fp ∧ (∀ (e : List AV) (L : List (List AV)), (St.mk e L H).cells (.gp b g (k * sz)) sz = some az) ∧
      (∀ (e : List AV) (L : List (List AV)) (off n : Nat), off + n ≤ sz → (St.mk e L H).cells (.gp b g (k * sz + off)) n = sub az off n) ∧ OwnL H az xs[k] f ∧ f.Nodup ∧ (∀ c ∈ f, c ∈ fp) ∧ az.length = sz := by
  rcases o.sl_inv with ⟨rfl, e, rfl⟩ | ⟨b, g, cap, ex, az, tail, fp', rfl, rfl, hg, hsz, ht, hc, hown⟩
  · subst e; simp at hk
  obtain ⟨nb, nd'⟩ := List.nodup_cons.1 nd
  have hfl : xs.flatten = (xs.take k).flatten ++ (xs[k] ++ (xs.drop (k + 1)).flatten) := by
    rw [← List.flatten_cons, ← List.drop_eq_getElem_cons hk, ← List.flatten_append, List.take_append_drop]
  rw [hfl] at hown
  obtain ⟨a1, a2, f1, f2, e1, e2, o1, o2⟩ := hown.split
  obtain ⟨a3, a4, f3, f4, e3, e4, o3, o4⟩ := o2.split
  subst e1 e2 e3 e4
  have l1 : a1.length = k * sz := by
    rw [o1.len]
    have : ∀ (ys : List (List CD)), (∀ l ∈ ys, l.length = sz) → ys.flatten.length = ys.length * sz := fun ys => by
      induction ys with
      | nil => intro _; simp
      | cons y ys ih => intro h; rw [List.flatten_cons, List.length_append, ih (fun l hl => h l (by simp [hl])), h y (by simp), List.length_cons, Nat.add_mul]; omega
    rw [this _ (fun l hl => hsz l (List.mem_of_mem_take hl)), List.length_take, Nat.min_eq_left (by omega)]
  have l3 : a3.length = sz := by rw [o3.len]; exact hsz _ (List.getElem_mem hk)
  have hcell : ∀ (e : List AV) (L : List (List AV)) (off n : Nat), off + n ≤ sz → (St.mk e L H).cells (.gp b g (k * sz + off)) n = sub a3 off n := fun e L off n hn => by
    rw [cells_gp hg]
    unfold sub
    rw [if_pos (by simp; omega), if_pos (by omega)]
    congr 1
    rw [List.append_assoc, List.drop_append, List.drop_eq_nil_of_le (by omega), List.nil_append, l1, Nat.add_sub_cancel_left, List.append_assoc, List.drop_append_of_le_length (by omega), List.take_append_of_le_length (by rw [List.length_drop]; omega)]
  obtain ⟨n1, n2, n3⟩ := List.nodup_append.1 nd'
  obtain ⟨n4, n5, n6⟩ := List.nodup_append.1 n2
  refine ⟨b, g, a3, f3, by have := idx_gs (b := b) (g := g) (off := 0) (len := xs.length) (cap := cap) (sz := sz) (ex := ex) hk; rwa [Nat.zero_add] at this, hget_lt hg, by simp, fun e L => ?_, hcell, o3, n4, fun c hc => by simp [hc], l3⟩
  have := hcell e L 0 sz (by omega)
  rw [Nat.add_zero] at this
  rw [this]; unfold sub; rw [if_pos (by omega), List.drop_zero, ← l3, List.take_length]
end Go.AM
