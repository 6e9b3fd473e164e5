import Derived.Test.YtjohoameeeaafaaR1S2
set_option linter.unusedVariables false
set_option linter.unusedSimpArgs false
namespace Go.Proofs.Ytjohoameeeaafaa
open Go.AM
set_option linter.unusedVariables false
set_option linter.unusedSimpArgs false
variable {Γ : Glob}
/-! Boxes are found by their numbers. -/
theorem go_gt : ∀ {l : List DBox} {id : Int}, boxesGo id l = true → ∀ x ∈ l, id < x.id ∧ goodB x = true
  | [], _, _, x, hx => by simp at hx
  | b :: r, id, h, x, hx => by
    simp only [boxesGo] at h
    split at h
    · cases h
    · rename_i g
      split at h
      · rename_i g2
        rcases List.mem_cons.1 hx with rfl | hx
        · exact ⟨by omega, g2⟩
        · have := go_gt h x hx; exact ⟨by omega, this.2⟩
      · cases h
theorem go_find : ∀ {l : List DBox} {id : Int}, boxesGo id l = true → ∀ (i : Nat) (hi : i < l.length), l.find? (fun b => b.id == l[i].id) = some l[i]
  | [], _, _, i, hi => by simp at hi
  | b :: r, id, h, i, hi => by
    simp only [boxesGo] at h
    split at h
    · cases h
    · split at h
      · cases i with
        | zero => simp
        | succ i =>
          have hi' : i < r.length := by simpa using hi
          have h1 := go_gt h r[i] (List.getElem_mem hi')
          have h2 := go_find h i hi'
          have hne : (b.id == r[i].id) = false := beq_eq_false_iff_ne.2 (by omega)
          simp only [List.getElem_cons_succ, List.find?_cons, hne]
          exact h2
      · cases h
theorem unseal_at {l : List DBox} (h : areBoxesF l = true) {i : Nat} (hi : i < l.length) : unsealF l l[i].brand l[i].id = (l[i].value, true) := by
  simp only [areBoxesF, Bool.and_eq_true] at h
  have := go_find h.1 i hi
  simp [unsealF, this]
theorem unseal_other {l : List DBox} (h : areBoxesF l = true) {i : Nat} (hi : i < l.length) {br : Int} (hb : br ≠ l[i].brand) : (unsealF l br l[i].id).2 = false := by
  simp only [areBoxesF, Bool.and_eq_true] at h
  have := go_find h.1 i hi
  simp [unsealF, this, Ne.symm hb]

end Go.Proofs.Ytjohoameeeaafaa
