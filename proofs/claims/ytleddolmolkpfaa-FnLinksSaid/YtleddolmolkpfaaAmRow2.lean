import Derived.Test.YtleddolmolkpfaaAmLoc
set_option linter.unusedVariables false
set_option linter.unusedSimpArgs false
namespace Go.AM
theorem sub_midR {pre row post : List AV} {i n : Nat} (hi : i + n ≤ row.length) : sub (pre ++ row ++ post) (pre.length + i) n = sub row i n := by
  unfold sub
  rw [if_pos (by simp; omega), if_pos hi, List.append_assoc, List.drop_append, List.drop_eq_nil_of_le (by omega), List.nil_append, Nat.add_sub_cancel_left, List.drop_append_of_le_length (by omega), List.take_append_of_le_length (by rw [List.length_drop]; omega)]
theorem over_midR {pre row post vs : List AV} {i : Nat} (hi : i + vs.length ≤ row.length) : over (pre ++ row ++ post) (pre.length + i) vs = pre ++ over row i vs ++ post := by
  unfold over
  rw [List.append_assoc pre row post, List.take_append, List.take_of_length_le (show pre.length ≤ pre.length + i by omega), Nat.add_sub_cancel_left, List.take_append_of_le_length (show i ≤ row.length by omega),
    List.drop_append, List.drop_eq_nil_of_le (show pre.length ≤ pre.length + i + vs.length by omega), List.nil_append, show pre.length + i + vs.length - pre.length = i + vs.length by omega, List.drop_append_of_le_length hi]
  simp only [List.append_assoc]
structure Mid (H : AH) (b g : Nat) (pre row post : List AV) : Prop where
  eq : hget H b = some (g, pre ++ row ++ post)
theorem Mid.lt {H : AH} {b g : Nat} {pre row post : List AV} (m : Mid H b g pre row post) : b < H.length := hget_lt m.eq
theorem Mid.cells {H : AH} {b g : Nat} {pre row post : List AV} (m : Mid H b g pre row post) (e : List AV) (L : List (List AV)) (i n : Nat) (hi : i + n ≤ row.length) : (St.mk e L H).cells (.gp b g (pre.length + i)) n = sub row i n := by
  rw [cells_gp m.eq, sub_midR hi]
theorem Mid.cells0 {H : AH} {b g : Nat} {pre row post : List AV} (m : Mid H b g pre row post) (e : List AV) (L : List (List AV)) (n : Nat) (hi : n ≤ row.length) : (St.mk e L H).cells (.gp b g pre.length) n = sub row 0 n := by
  have := m.cells e L 0 n (by omega); rwa [Nat.add_zero] at this
theorem Mid.frame {H H' : AH} {b g : Nat} {pre row post : List AV} (m : Mid H b g pre row post) (h : H'[b]? = H[b]?) : Mid H' b g pre row post := ⟨by have := m.eq; unfold hget at this ⊢; rw [h]; exact this⟩
theorem Mid.store {H : AH} {b g : Nat} {pre row post : List AV} (m : Mid H b g pre row post) {i : Nat} {vs : List AV} (hi : i + vs.length ≤ row.length) (hv : vs.all noLp = true) :
    ∃ H', (∀ (e : List AV) (L : List (List AV)), (St.mk e L H).store (.gp b g (pre.length + i)) vs = some ⟨e, L, H'⟩) ∧ Mid H' b g pre (over row i vs) post ∧ H'.length = H.length ∧ ∀ c, c ≠ b → H'[c]? = H[c]? := by
  refine ⟨H.set b (some (g, pre ++ over row i vs ++ post)), fun e L => ?_, ⟨?_⟩, by simp, fun c hc => List.getElem?_set_ne (Ne.symm hc)⟩
  · simp only [St.store, m.eq, Option.bind_some, if_true]
    rw [if_pos (by simp; omega), hv, if_pos rfl, over_midR hi]
  · have := m.lt
    simp [hget, this]
theorem Mid.nil {H : AH} {b g : Nat} {row : List AV} (h : hget H b = some (g, row)) : Mid H b g [] row [] := ⟨by simpa using h⟩
theorem Mid.snap {H : AH} {b g : Nat} {pre row post ys : List AV} (m : Mid H b g pre row post) (s : Snap H (.agg row) (.agg ys)) : Snap H (.gp b g pre.length) (.ip true ys) := by
  have key : ∀ (i : Nat) (y : AV), ys[i]? = some y → ∃ x, row[i]? = some x ∧ Snap H x y := by
    cases s with
    | same => exact fun i y hy => ⟨y, hy, .same _⟩
    | agg _ _ h1 f h2 r => exact fun i y hy => ⟨f i, h2 i y hy, r i y hy⟩
  refine .gp b g pre.length (pre ++ row ++ post) ys (fun i => row.getD i .any) (hget_spec m.eq) (fun j x hx => ?_) (fun j x hx => ?_)
  · obtain ⟨z, hz, _⟩ := key j x hx
    have hj := getElem?_lt hz
    rw [List.append_assoc, List.getElem?_append_right (by omega), Nat.add_sub_cancel_left, List.getElem?_append_left hj, hz]
    simp [List.getD_eq_getElem?_getD, hz]
  · obtain ⟨z, hz, hs⟩ := key j x hx
    simpa [List.getD_eq_getElem?_getD, hz] using hs
end Go.AM

