import Derived.Test.YtccjhmhkfnnmaaaGreatAmMore2
set_option linter.unusedVariables false
set_option linter.unusedSimpArgs false
namespace Go.AM
set_option linter.unusedVariables false
section
variable {α : Type} {c : α → List AV} {sz : Nat} (hc : ∀ x, (c x).length = sz)
include hc
theorem rows_split {m : List α} {k : Nat} (hk : k < m.length) (tail : List AV) : (m.map c).flatten ++ tail = ((m.take k).map c).flatten ++ (c m[k] ++ (((m.drop (k + 1)).map c).flatten ++ tail)) ∧ ((m.take k).map c).flatten.length = k * sz := by
  constructor
  · have e : m = m.take k ++ m[k] :: m.drop (k + 1) := by rw [← List.drop_eq_getElem_cons hk, List.take_append_drop]
    conv => lhs; rw [e]
    simp only [List.map_append, List.map_cons, List.flatten_append, List.flatten_cons, List.append_assoc]
  · rw [flat_len' (fun x _ => hc x), List.length_take, Nat.min_eq_left (Nat.le_of_lt hk)]
theorem row_load {m : List α} {k : Nat} (hk : k < m.length) (tail : List AV) : sub ((m.map c).flatten ++ tail) (k * sz) sz = some (c m[k]) := by
  obtain ⟨h1, h2⟩ := rows_split hc hk tail
  rw [h1]
  simp only [sub]
  rw [if_pos (by simp only [List.length_append, h2, hc]; omega), ← h2, List.drop_left, List.take_append_of_le_length (by rw [hc]; exact Nat.le_refl _), List.take_of_length_le (by rw [hc]; exact Nat.le_refl _)]
theorem row_store1 {m : List α} {k : Nat} (hk : k < m.length) (x : α) (tail : List AV) {off : Nat} {v : AV} (ho : off + 1 ≤ sz) (hx : over (c m[k]) off [v] = c x) (hn : Go.AM.noLp v = true) {H : AH} {b g : Nat} (h : hget H b = some (g, (m.map c).flatten ++ tail)) (e : List AV) (l : List (List AV)) :
    (St.mk e l H).store (.gp b g (k * sz + off)) [v] = some ⟨e, l, H.set b (some (g, ((m.set k x).map c).flatten ++ tail))⟩ := by
  obtain ⟨h1, h2⟩ := rows_split hc hk tail
  have hk' : k < (m.set k x).length := by simpa using hk
  obtain ⟨h3, h4⟩ := rows_split hc hk' tail
  have hov : over ((m.map c).flatten ++ tail) (k * sz + off) [v] = ((m.set k x).map c).flatten ++ tail := by
    rw [h1, h3]
    have := over_mid (pre := ((m.take k).map c).flatten) (cs := c m[k]) (post := ((m.drop (k + 1)).map c).flatten ++ tail) (vs := [v]) (off := off) (by rw [hc]; simpa using ho)
    simp only [h2] at this
    rw [this, hx]
    have e1 : (m.set k x).take k = m.take k := by rw [List.take_set_of_le (Nat.le_refl _)]
    have e2 : (m.set k x).drop (k + 1) = m.drop (k + 1) := by rw [List.drop_set_of_lt (by omega)]
    rw [e1, e2]; simp
  have hl : (k * sz + off) + [v].length ≤ ((m.map c).flatten ++ tail).length := by
    rw [h1]; simp only [List.length_append, h2, hc, List.length_cons, List.length_nil]; omega
  simp only [St.store, h, Option.bind_some, if_true]
  rw [if_pos hl, hov]
  simp [hn]
end
end Go.AM
