import Derived.Test.YtccjhmhkfnnmaaaGreatAmLib
import Derived.Shelf.Sort.Plain
import Derived.Shelf.Slices.CompactI
import Derived.Shelf.Slices.In.SortNone
set_option linter.unusedVariables false
set_option linter.unusedSimpArgs false
namespace Go.AM
open Go.Proofs Go.Shelf Go.Sort
variable {P : Program} {Γ : Glob} {ρ : Inj} {ls : List Nat} {L : List (List AV)} {h : AH} {w : World}
def zints (l : List Int) : List AV := l.map (AV.int .i64)
theorem zints_len (l : List Int) : (zints l).length = l.length := List.length_map ..
theorem zints_get {l : List Int} {i : Nat} {x : AV} (e : (zints l)[i]? = some x) : ∃ z, l[i]? = some z ∧ x = .int .i64 z := by
  simp only [zints, List.getElem?_map, Option.map_eq_some_iff] at e
  obtain ⟨z, e1, e2⟩ := e
  exact ⟨z, e1, e2.symm⟩
theorem RH.bigger {w' : World} (r : RH ρ ls L h w) (hs : w.heap.size ≤ w'.heap.size) (ho : ∀ c, c < w.heap.size → w'.heap[c]? = w.heap[c]?) : RH ρ ls L h w' := by
  have up : ∀ {c : Nat} {x : Obj}, w.heap[c]? = some x → w'.heap[c]? = some x := fun e => by rw [ho _ (aget_lt e)]; exact e
  refine ⟨fun b g cs e => ?_, fun i cs e => ?_, r.len, r.nod, r.hh, r.hl, fun β c arr e => ?_, r.iml, r.imh, fun b g c o n e => ⟨Nat.lt_of_lt_of_le (r.dom b g c o n e).1 hs, (r.dom b g c o n e).2⟩⟩
  · obtain ⟨c, o, n, arr, T, fr, e1, e2, e3⟩ := r.hp b g cs e
    exact ⟨c, o, n, arr, T, fr, e1, up e2, e3⟩
  · obtain ⟨c, arr, T, fr, e1, e2, e3⟩ := r.lp i cs e
    exact ⟨c, arr, T, fr, e1, up e2, e3⟩
  · obtain ⟨T, fr, e1⟩ := r.im β c arr e
    exact ⟨T, fr, up e1⟩
theorem Evo.bigger {w' : World} (hs : w.heap.size ≤ w'.heap.size) (ho : ∀ c, c < w.heap.size → w'.heap[c]? = w.heap[c]?) (eo : w'.os = w.os) (ep : w'.output = w.output) : Evo ρ ls h w ρ ls h w' :=
  ⟨.refl _, .refl _, hs, fun c hc _ => ho c hc, fun _ _ _ _ _ _ h m => .inr ⟨_, _, _, _, h, m⟩, fun _ _ h => .inr h, fun _ _ _ _ e => e, Nat.le_refl _, eo, ep⟩
theorem zholds_of {b g c o n : Nat} {pre post : List AV} {zs : List Int} (r : RH ρ ls L h w) (hb : h[b]? = some (some (g, pre ++ zints zs ++ post))) (hc : ρ.m b g = some (c, o, n)) :
    Holds (Value.int .i64) w c (o + pre.length) zs.toArray := by
  obtain ⟨c', o', n', arr, T, fr, e1, e2, e3, u, hle, hlies⟩ := r.hp b g _ hb
  rw [hc] at e1
  injection e1 with e1; injection e1 with ea eb; injection eb with eb ec
  subst ea eb ec
  intro j hj
  have hj' : j < zs.length := by simpa using hj
  simp only [List.length_append, zints_len] at hle
  have hx : (pre ++ zints zs ++ post)[pre.length + j]? = some (.int .i64 zs[j]) := by
    rw [List.append_assoc, List.getElem?_append_right (by omega), List.getElem?_append_left (by rw [zints_len]; omega), Nat.add_sub_cancel_left]
    simp [zints, hj']
  obtain ⟨y, hy, ry⟩ := hlies _ _ hx
  cases ry
  rw [Nat.add_assoc]
  refine ⟨by rw [cell_of e2, hy]; simp [hj'], frozen_of e2 u (by omega)⟩
theorem putRow_RH {b g c o n : Nat} {pre post : List AV} {zs zs' : List Int} {w' : World} (r : RH ρ [] [] h w) (hb : h[b]? = some (some (g, pre ++ zints zs ++ post))) (hc : ρ.m b g = some (c, o, n))
    (hl : zs'.length = zs.length) (hw : w'.heap = (putRow (Value.int .i64) w c (o + pre.length) zs'.toArray).heap) (eo : w'.os = w.os) (ep : w'.output = w.output) :
    RH ρ [] [] (h.set b (some (g, pre ++ zints zs' ++ post))) w' ∧ Evo ρ [] h w ρ [] (h.set b (some (g, pre ++ zints zs' ++ post))) w' := by
  obtain ⟨c', o', n', arr, T, fr, e1, e2, e3, u, hle, hlies⟩ := r.hp b g _ hb
  rw [hc] at e1
  injection e1 with e1; injection e1 with ea eb; injection eb with eb ec
  subst ea eb ec
  have hsz : w'.heap.size = w.heap.size := by rw [hw]; simp [putRow, mapBlock]
  have hget : ∀ k, w'.heap[k]? = if c = k then (w.heap[k]?).map (onCells (putCells (Value.int .i64) (o + pre.length) zs'.toArray)) else w.heap[k]? := by
    intro k; rw [hw]; simp only [putRow, mapBlock, Array.getElem?_modify]
  refine r.setHeap hb hc (arr' := putCells (Value.int .i64) (o + pre.length) zs'.toArray arr) ⟨hsz, fun c' hne => by rw [hget, if_neg (Ne.symm hne)], by rw [hget, if_pos rfl, e2]; rfl, eo, ep⟩ (by simp [putCells]) e3 u
    (by simp only [List.length_append, zints_len] at hle ⊢; omega) ?_
  intro i x hx
  have hi := getElem?_lt hx
  simp only [List.length_append, zints_len] at hi hle
  have hia : o + i < arr.size := by omega
  have hp : (putCells (Value.int .i64) (o + pre.length) zs'.toArray arr)[o + i]? = some (if o + pre.length ≤ o + i ∧ o + i < o + pre.length + zs'.length then Value.int .i64 (zs'.toArray[o + i - (o + pre.length)]!) else arr[o + i]) := by
    simp [putCells, Array.getElem?_mapIdx, Array.getElem?_eq_getElem hia]
  rw [hp]
  refine ⟨_, rfl, ?_⟩
  by_cases h1 : i < pre.length
  · rw [if_neg (by omega)]
    rw [List.append_assoc, List.getElem?_append_left h1] at hx
    obtain ⟨y, hy, ry⟩ := hlies i x (by rw [List.append_assoc, List.getElem?_append_left h1]; exact hx)
    rw [Array.getElem?_eq_getElem hia] at hy
    injection hy with hy
    rw [hy]; exact ry
  by_cases h2 : i < pre.length + zs.length
  · rw [if_pos (by omega)]
    rw [List.append_assoc, List.getElem?_append_right (by omega), List.getElem?_append_left (by rw [zints_len]; omega)] at hx
    obtain ⟨z, hz, rfl⟩ := zints_get hx
    have e : o + i - (o + pre.length) = i - pre.length := by omega
    have hlt := getElem?_lt hz
    have : zs'.toArray[o + i - (o + pre.length)]! = z := by
      rw [e, getElem!_pos zs'.toArray _ (by simpa using hlt)]
      rw [List.getElem?_eq_getElem hlt] at hz
      injection hz with hz
    rw [this]
    exact .int _ _ _
  · rw [if_neg (by omega)]
    rw [List.getElem?_append_right (by simp only [List.length_append, zints_len]; omega)] at hx
    obtain ⟨y, hy, ry⟩ := hlies i x (by
      rw [List.getElem?_append_right (by simp only [List.length_append, zints_len]; omega)]
      simp only [List.length_append, zints_len] at hx ⊢
      rw [← hl]; exact hx)
    rw [Array.getElem?_eq_getElem hia] at hy
    injection hy with hy
    rw [hy]; exact ry
def srt (l : List Int) : List Int := l.mergeSort fun x y => decide (x ≤ y)
theorem srt_len (l : List Int) : (srt l).length = l.length := List.length_mergeSort l
theorem gs_cases {b g off len cap : Nat} {ex : Bool} {v : Value} (r : RV ρ [] (.gs b g off len cap 1 ex) v) :
    ∃ c o n, ρ.m b g = some (c, o, n) ∧ ((∃ cap', v = .slice (some ⟨c, o + off, none⟩) len cap' ∧ len ≤ cap ∧ (cap ≤ cap') ∧ (ex = true → cap' = cap) ∧ o + off + cap' ≤ n) ∨ (len = 0 ∧ cap = 0 ∧ ∃ a, v = .slice (some a) 0 0)) := by
  cases r with
  | gs _ _ _ _ _ _ _ _ c o n cap' h h1 h2 h3 h4 => exact ⟨c, o, n, h, .inl ⟨cap', rfl, h1, h2, h3, by omega⟩⟩
  | gs0 _ _ _ _ _ _ c o n a h => exact ⟨c, o, n, h, .inr ⟨rfl, rfl, a, rfl⟩⟩
theorem zone_arg {x : AV} {vs : List Value} (r : RVs ρ [] [x] vs) : ∃ v, vs = [v] ∧ RV ρ [] x v := by
  obtain ⟨h1, h2⟩ := r
  match vs, h1 with
  | [v], _ => exact ⟨v, rfl, h2 0 x rfl⟩
theorem sort_gs {ren : Ren} (Ly : Lays.n189 P ren) (hcl : Callable P (ren.f 189)) {b g cap : Nat} {ex : Bool} {pre post : List AV} {zs : List Int} (hz : zs.length < 4611686018427387904)
    (hb : h[b]? = some (some (g, pre ++ zints zs ++ post))) :
    T P Γ (ren.f 189) [.gs b g pre.length zs.length cap 1 ex] h fun v h' => v = .tup [] ∧ h' = h.set b (some (g, pre ++ zints (srt zs) ++ post)) := by
  refine ⟨hcl, fun ρ w cargs r gg ra => ?_⟩
  obtain ⟨v, rfl, rv⟩ := zone_arg ra
  obtain ⟨c, o, n, hc, ⟨cap', rfl, _⟩ | ⟨e0, _, a, rfl⟩⟩ := gs_cases rv
  · have hh := zholds_of r hb hc
    refine (Any.slices_Sort_int Ly c (o + pre.length) cap' zs w hh (r.dom _ _ _ _ _ hc).1 hz).mono ?_
    rintro e w' ⟨rfl, q, os, rfl⟩
    obtain ⟨r1, v1⟩ := putRow_RH (w' := putRow (Value.int .i64) (Sort.ahead w q) c (o + pre.length) (srt zs).toArray) r hb hc (srt_len zs) rfl rfl rfl
    have hs : (putRow (Value.int .i64) (Sort.ahead w q) c (o + pre.length) (srt zs).toArray).heap.size ≤ (Sort.grow (putRow (Value.int .i64) (Sort.ahead w q) c (o + pre.length) (srt zs).toArray) os).heap.size := by simp [Sort.grow]
    have ho : ∀ k, k < (putRow (Value.int .i64) (Sort.ahead w q) c (o + pre.length) (srt zs).toArray).heap.size → (Sort.grow (putRow (Value.int .i64) (Sort.ahead w q) c (o + pre.length) (srt zs).toArray) os).heap[k]? = (putRow (Value.int .i64) (Sort.ahead w q) c (o + pre.length) (srt zs).toArray).heap[k]? := by
      intro k hk
      simp only [Sort.grow]
      exact Array.getElem?_append_left hk
    exact ⟨.tup [], _, ρ, _, rfl, .tup _ _ _ rfl (fun i x hx => by simp at hx), r1.bigger hs ho, v1.trans (.bigger hs ho rfl rfl), rfl, rfl⟩
  · have : zs = [] := List.eq_nil_of_length_eq_zero e0
    subst this
    refine (Any.slices_Sort_int_none Ly (some a) 0 w).mono ?_
    rintro e w' ⟨rfl, rfl⟩
    have hset : h.set b (some (g, pre ++ zints (srt []) ++ post)) = h := by
      apply List.ext_getElem?
      intro i
      by_cases hbi : b = i
      · subst hbi; rw [List.getElem?_set_self (getElem?_lt hb), hb]; simp [srt]
      · rw [List.getElem?_set_ne hbi]
    exact ⟨.tup [], _, ρ, _, rfl, .tup _ _ _ rfl (fun i x hx => by simp at hx), r, .refl _ _ _ _, rfl, hset.symm⟩
theorem sort_nil {ren : Ren} (Ly : Lays.n189 P ren) (hcl : Callable P (ren.f 189)) : T P Γ (ren.f 189) [.nils] h fun v h' => v = .tup [] ∧ h' = h := by
  refine ⟨hcl, fun ρ w cargs r gg ra => ?_⟩
  obtain ⟨v, rfl, rv⟩ := zone_arg ra
  cases rv
  refine (Any.slices_Sort_int_none Ly none 0 w).mono ?_
  rintro e w' ⟨rfl, rfl⟩
  exact ⟨.tup [], _, ρ, _, rfl, .tup _ _ _ rfl (fun i x hx => by simp at hx), r, .refl _ _ _ _, rfl, rfl⟩
theorem compact_le (l : List Int) : (Lib.compact l).length ≤ l.length := by
  simp only [Lib.compact, Lib.compactUpTo, List.length_map]
  exact Nat.le_trans (List.length_filter_le ..) (by simp)
theorem compact_gs {ren : Ren} (Ly : Lays2.n20 P ren) (hcl : Callable P (ren.f 20)) {b g cap : Nat} {ex : Bool} {pre post : List AV} {zs : List Int} (hz : zs.length ≤ 9223372036854775807)
    (hb : h[b]? = some (some (g, pre ++ zints zs ++ post))) :
    T P Γ (ren.f 20) [.gs b g pre.length zs.length cap 1 ex] h fun v h' => v = .gs b g pre.length (Lib.compact zs).length cap 1 ex ∧
      h' = h.set b (some (g, pre ++ zints (Lib.compact zs ++ List.replicate (zs.length - (Lib.compact zs).length) 0) ++ post)) := by
  refine ⟨hcl, fun ρ w cargs r gg ra => ?_⟩
  obtain ⟨v, rfl, rv⟩ := zone_arg ra
  have hcl := compact_le zs
  obtain ⟨c, o, n, hc, ⟨cap', rfl, h1, h2, h3, h4⟩ | ⟨e0, e1, a, rfl⟩⟩ := gs_cases rv
  · have hh := zholds_of r hb hc
    refine (Any.slices_Compact_int Ly c (o + pre.length) cap' zs w hh hz (by omega)).mono ?_
    rintro e w' ⟨rfl, q, rfl⟩
    obtain ⟨r1, v1⟩ := putRow_RH (w' := putRow (Value.int .i64) (Sort.ahead w q) c (o + pre.length) (Lib.compact zs ++ List.replicate (zs.length - (Lib.compact zs).length) 0).toArray) r hb hc (by simp; omega) rfl rfl rfl
    exact ⟨_, _, ρ, _, rfl, .gs _ _ _ _ _ _ _ _ _ _ _ _ hc (by omega) h2 h3 (by omega), r1, v1, rfl, rfl⟩
  · have : zs = [] := List.eq_nil_of_length_eq_zero e0
    subst this
    subst e1
    refine (Any.slices_Compact_int_empty Ly (some a) 0 w).mono ?_
    rintro e w' ⟨rfl, rfl⟩
    have hset : h.set b (some (g, pre ++ zints [] ++ post)) = h := by
      apply List.ext_getElem?
      intro i
      by_cases hbi : b = i
      · subst hbi; rw [List.getElem?_set_self (getElem?_lt hb), hb]
      · rw [List.getElem?_set_ne hbi]
    refine ⟨_, _, ρ, _, rfl, rv, r, .refl _ _ _ _, rfl, ?_⟩
    exact hset.symm
theorem compact_nil {ren : Ren} (Ly : Lays2.n20 P ren) (hcl : Callable P (ren.f 20)) : T P Γ (ren.f 20) [.nils] h fun v h' => v = .nils ∧ h' = h := by
  refine ⟨hcl, fun ρ w cargs r gg ra => ?_⟩
  obtain ⟨v, rfl, rv⟩ := zone_arg ra
  cases rv
  refine (Any.slices_Compact_int_empty Ly none 0 w).mono ?_
  rintro e w' ⟨rfl, rfl⟩
  exact ⟨.nils, _, ρ, _, rfl, .nils _, r, .refl _ _ _ _, rfl, rfl⟩
end Go.AM
