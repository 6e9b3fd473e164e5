import Derived.Test.YtleddolmolkpfaaAmMore2
set_option linter.unusedVariables false
set_option linter.unusedSimpArgs false
namespace Go.AM
set_option linter.unusedVariables false
section
variable {α : Type} {c : α → List AV} {sz : Nat} (hc : ∀ x, (c x).length = sz)
include hc
theorem rows_split {m : List α} {k : Nat} (hk : k < m.length) (tail : List AV) : (m.map c).flatten ++ tail = ((m.take k).map c).flatten ++ (c m[k] ++ (((m.drop (k + 1)).map c).flatten ++ tail)) ∧ ((m.take k).map c).flatten.length = k * sz := by
  constructor
  · have e : m = m.take k ++ m[k] :: m.drop (k + 1) := by rw [← List.drop_eq_getElem_cons hk, List.take_append_drop]
    conv => lhs; rw [e]
    simp only [List.map_append, List.map_cons, List.flatten_append, List.flatten_cons, List.append_assoc]
  · rw [flat_len' (fun x _ => hc x), List.length_take, Nat.min_eq_left (Nat.le_of_lt hk)]
theorem row_load {m : List α} {k : Nat} (hk : k < m.length) (tail : List AV) : sub ((m.map c).flatten ++ tail) (k * sz) sz = some (c m[k]) := by
  obtain ⟨h1, h2⟩ := rows_split hc hk tail
  rw [h1]
  simp only [sub]
  rw [if_pos (by simp only [List.length_append, h2, hc]; omega), ← h2, List.drop_left, List.take_append_of_le_length (by rw [hc]; exact Nat.le_refl _), List.take_of_length_le (by rw [hc]; exact Nat.le_refl _)]
theorem row_over {m : List α} {k : Nat} (hk : k < m.length) (x : α) (tail : List AV) : over ((m.map c).flatten ++ tail) (k * sz) (c x) = ((m.set k x).map c).flatten ++ tail := by
  obtain ⟨h1, h2⟩ := rows_split hc hk tail
  have hk' : k < (m.set k x).length := by simpa using hk
  obtain ⟨h3, h4⟩ := rows_split hc hk' tail
  rw [h1, h3]
  have := over_mid (pre := ((m.take k).map c).flatten) (cs := c m[k]) (post := ((m.drop (k + 1)).map c).flatten ++ tail) (vs := c x) (off := 0) (by rw [hc, hc]; omega)
  simp only [h2, Nat.add_zero] at this
  rw [this]
  have e1 : (m.set k x).take k = m.take k := by rw [List.take_set_of_le (Nat.le_refl _)]
  have e2 : (m.set k x).drop (k + 1) = m.drop (k + 1) := by rw [List.drop_set_of_lt (by omega)]
  have e3 : over (c m[k]) 0 (c x) = c x := by simp [over, hc]
  rw [e1, e2, e3]; simp
theorem row_store {m : List α} {k : Nat} (hk : k < m.length) (x : α) (tail : List AV) (hn : (c x).all noLp = true) {H : AH} {b g : Nat} (h : hget H b = some (g, (m.map c).flatten ++ tail)) (e : List AV) (l : List (List AV)) :
    (St.mk e l H).store (.gp b g (k * sz)) (c x) = some ⟨e, l, H.set b (some (g, ((m.set k x).map c).flatten ++ tail))⟩ := by
  have hl : (k * sz) + (c x).length ≤ ((m.map c).flatten ++ tail).length := by
    obtain ⟨h1, h2⟩ := rows_split hc hk tail
    rw [h1]; simp only [List.length_append, h2, hc]; omega
  simp only [St.store, h, Option.bind_some, if_true]
  rw [if_pos hl, row_over hc hk x tail]
  simp [hn]
theorem rows_clear {m : List α} {i : Nat} (hi : i ≤ m.length) (z : α) (tail : List AV) (hn : (c z).all noLp = true) {H : AH} {b g : Nat} (h : hget H b = some (g, (m.map c).flatten ++ tail)) (e : List AV) (l : List (List AV)) :
    (St.mk e l H).store (.gp b g (i * sz)) (List.replicate (m.length - i) (c z)).flatten = some ⟨e, l, H.set b (some (g, ((m.take i).map c).flatten ++ ((List.replicate (m.length - i) (c z)).flatten ++ tail)))⟩ := by
  have e1 : (m.map c).flatten ++ tail = ((m.take i).map c).flatten ++ (((m.drop i).map c).flatten ++ tail) := by
    conv => lhs; rw [← List.take_append_drop i m]
    rw [List.map_append, List.flatten_append, List.append_assoc]
  have h2 : ((m.take i).map c).flatten.length = i * sz := by rw [flat_len' (fun x _ => hc x), List.length_take, Nat.min_eq_left hi]
  have h3 : ((m.drop i).map c).flatten.length = (m.length - i) * sz := by rw [flat_len' (fun x _ => hc x), List.length_drop]
  have h4 : (List.replicate (m.length - i) (c z)).flatten.length = (m.length - i) * sz := by
    have := flat_len (xs := List.replicate (m.length - i) (c z)) (sz := sz) (fun l hl => by rw [(List.mem_replicate.1 hl).2]; exact hc z)
    simpa using this
  have h5 : (List.replicate (m.length - i) (c z)).flatten.all noLp = true := flat_noLp (fun x hx => by rw [(List.mem_replicate.1 hx).2]; exact hn)
  simp only [St.store, h, Option.bind_some, if_true]
  rw [e1, if_pos (by simp only [List.length_append, h2, h3, h4]; omega), if_pos h5]
  have := over_mid (pre := ((m.take i).map c).flatten) (cs := ((m.drop i).map c).flatten) (post := tail) (vs := (List.replicate (m.length - i) (c z)).flatten) (off := 0) (by omega)
  simp only [h2, Nat.add_zero] at this
  rw [this]
  have e3 : over ((m.drop i).map c).flatten 0 (List.replicate (m.length - i) (c z)).flatten = (List.replicate (m.length - i) (c z)).flatten := by simp only [over, List.take_zero, List.nil_append, Nat.zero_add, h4]; rw [List.drop_of_length_le (by omega), List.append_nil]
  rw [e3]
end
theorem p_clr {Γ : Glob} (gl : Bool) (s : St) (sz : Nat) (z : List AV) (x : X) : step Γ gl s (.clr sz z x) = .ofS (aClr s sz z (s.eval Γ x)) := rfl
theorem cut_fromG (s : St) {b g len cap sz : Nat} {ex : Bool} {i : Nat} (h1 : i ≤ len) (h2 : len ≤ cap) : cutFrom (.sl sz) s (.gs b g 0 len cap sz ex) (.int .i64 i) = .val (.gs b g (i * sz) (len - i) (cap - i) sz ex) s := by
  have e : bndV (.int .i64 (i : Int)) = some i := by simp [bndV, asI]
  simp [cutFrom, e, aSlice, AR.ofO, h1, h2]
theorem cut_toG (s : St) {b g len cap sz : Nat} {ex : Bool} {i : Nat} (h2 : i ≤ cap) : cutTo (.sl sz) s (.gs b g 0 len cap sz ex) (.int .i64 i) = .val (.gs b g 0 i cap sz ex) s := by
  have e : bndV (.int .i64 (i : Int)) = some i := by simp [bndV, asI]
  simp [cutTo, e, aSlice, AR.ofO, h2]
end Go.AM

