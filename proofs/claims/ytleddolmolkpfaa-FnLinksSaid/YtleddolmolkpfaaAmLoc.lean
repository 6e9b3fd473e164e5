import Derived.Test.YtleddolmolkpfaaAmLens
set_option linter.unusedVariables false
set_option linter.unusedSimpArgs false
namespace Go.AM
theorem Own.row {H : AH} {w : AV} {sz : Nat} {xs : List (List CD)} {fp : List Nat} (o : Own H w (.sl sz xs) fp) (nd : fp.Nodup) {k : Nat} (hk : k < xs.length) :
    ∃ b g az f, aIdxs sz w (k : Int) = some (.gp b g (k * sz)) ∧ b < H.length ∧ b ∈ fp ∧ (∀ (e : List AV) (L : List (List AV)), (St.mk e L H).cells (.gp b g (k * sz)) sz = some az) ∧
      (∀ (e : List AV) (L : List (List AV)) (off n : Nat), off + n ≤ sz → (St.mk e L H).cells (.gp b g (k * sz + off)) n = sub az off n) ∧ OwnL H az xs[k] f ∧ f.Nodup ∧ (∀ c ∈ f, c ∈ fp) ∧ az.length = sz := by
  rcases o.sl_inv with ⟨rfl, e, rfl⟩ | ⟨b, g, cap, ex, az, tail, fp', rfl, rfl, hg, hsz, ht, hc, hown⟩
  · subst e; simp at hk
  obtain ⟨nb, nd'⟩ := List.nodup_cons.1 nd
  have hfl : xs.flatten = (xs.take k).flatten ++ (xs[k] ++ (xs.drop (k + 1)).flatten) := by
    rw [← List.flatten_cons, ← List.drop_eq_getElem_cons hk, ← List.flatten_append, List.take_append_drop]
  rw [hfl] at hown
  obtain ⟨a1, a2, f1, f2, e1, e2, o1, o2⟩ := hown.split
  obtain ⟨a3, a4, f3, f4, e3, e4, o3, o4⟩ := o2.split
  subst e1 e2 e3 e4
  have l1 : a1.length = k * sz := by
    rw [o1.len]
    have : ∀ (ys : List (List CD)), (∀ l ∈ ys, l.length = sz) → ys.flatten.length = ys.length * sz := fun ys => by
      induction ys with
      | nil => intro _; simp
      | cons y ys ih => intro h; rw [List.flatten_cons, List.length_append, ih (fun l hl => h l (by simp [hl])), h y (by simp), List.length_cons, Nat.add_mul]; omega
    rw [this _ (fun l hl => hsz l (List.mem_of_mem_take hl)), List.length_take, Nat.min_eq_left (by omega)]
  have l3 : a3.length = sz := by rw [o3.len]; exact hsz _ (List.getElem_mem hk)
  have hcell : ∀ (e : List AV) (L : List (List AV)) (off n : Nat), off + n ≤ sz → (St.mk e L H).cells (.gp b g (k * sz + off)) n = sub a3 off n := fun e L off n hn => by
    rw [cells_gp hg]
    unfold sub
    rw [if_pos (by simp; omega), if_pos (by omega)]
    congr 1
    rw [List.append_assoc, List.drop_append, List.drop_eq_nil_of_le (by omega), List.nil_append, l1, Nat.add_sub_cancel_left, List.append_assoc, List.drop_append_of_le_length (by omega), List.take_append_of_le_length (by rw [List.length_drop]; omega)]
  obtain ⟨n1, n2, n3⟩ := List.nodup_append.1 nd'
  obtain ⟨n4, n5, n6⟩ := List.nodup_append.1 n2
  refine ⟨b, g, a3, f3, by have := idx_gs (b := b) (g := g) (off := 0) (len := xs.length) (cap := cap) (sz := sz) (ex := ex) hk; rwa [Nat.zero_add] at this, hget_lt hg, by simp, fun e L => ?_, hcell, o3, n4, fun c hc => by simp [hc], l3⟩
  have := hcell e L 0 sz (by omega)
  rw [Nat.add_zero] at this
  rw [this]; unfold sub; rw [if_pos (by omega), List.drop_zero, ← l3, List.take_length]
end Go.AM

