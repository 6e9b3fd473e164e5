import Derived.Test.YtccjhmhkfnnmaaaGreatAmShelf2
import Derived.Test.YtccjhmhkfnnmaaaGreatAmCat
import Derived.Test.YtccjhmhkfnnmaaaGreatAmCur
set_option linter.unusedVariables false
set_option linter.unusedSimpArgs false
namespace Go.AM
section
abbrev bdata (l : List Bool) : List (List CD) := l.map fun b => [CD.b b]
theorem bools_flatG (l : List Bool) : (l.map fun n => [CD.b n]).flatten.all CD.flat = true := by
  rw [List.all_flatten, List.all_eq_true]; intro y hy; obtain ⟨x, _, rfl⟩ := List.mem_map.1 hy; rfl
theorem own_bool {H : AH} {w : AV} {fp : List Nat} {l : List Bool} (o : Own H w (.sl 1 (bdata l)) fp) {k : Nat} (hk : k < l.length) : ∃ p, aIdxs 1 w (k : Int) = some p ∧ ∀ (e : List AV) (L : List (List AV)), (St.mk e L H).cells p 1 = some [.bool l[k]] := by
  rcases o.sl_inv with ⟨rfl, e, rfl⟩ | ⟨b, g, cap, ex, az, tail, fp', rfl, rfl, hg, hsz, ht, hc, hown⟩
  · have : l = [] := by simpa using e
    subst this; simp at hk
  have hz := flat_asG (bools_flatG l) hown
  have e2 : (l.map fun n => [CD.b n]).flatten.map (CD.av false) = (l.map fun n => [AV.bool n]).flatten := by simp [List.map_flatten, Function.comp_def, CD.av_b]
  rw [e2] at hz
  subst hz
  refine ⟨.gp b g (0 + k * 1), idx_gs (by simpa using hk), fun e L => ?_⟩
  rw [cells_gp hg, Nat.zero_add]
  exact row_load (c := fun n : Bool => [AV.bool n]) (sz := 1) (fun _ => rfl) hk tail
theorem set_bool {H : AH} {w : AV} {fp : List Nat} {l : List Bool} (o : Own H w (.sl 1 (bdata l)) fp) {k : Nat} (hk : k < l.length) (x : Bool) : ∃ p H', aIdxs 1 w (k : Int) = some p ∧ (∀ (e : List AV) (L : List (List AV)), (St.mk e L H).store p [.bool x] = some ⟨e, L, H'⟩) ∧
    Own H' w (.sl 1 (bdata (l.set k x))) fp ∧ H'.length = H.length ∧ ∀ c, c ∉ fp → H'[c]? = H[c]? := by
  rcases o.sl_inv with ⟨rfl, e, rfl⟩ | ⟨b, g, cap, ex, az, tail, fp', rfl, rfl, hg, hsz, ht, hc, hown⟩
  · have : l = [] := by simpa using e
    subst this; simp at hk
  have hz := flat_asG (bools_flatG l) hown
  have e2 : ∀ l : List Bool, (l.map fun n => [CD.b n]).flatten.map (CD.av false) = (l.map fun n => [AV.bool n]).flatten := fun l => by simp [List.map_flatten, Function.comp_def, CD.av_b]
  rw [e2] at hz
  subst hz
  have hfp' : fp' = [] := flat_nofp (bools_flatG l) hown
  subst hfp'
  have hbl : b < H.length := hget_lt hg
  have st := row_store1 (c := fun n : Bool => [AV.bool n]) (sz := 1) (fun x => rfl) hk x tail (off := 0) (v := .bool x) (by omega) rfl rfl hg
  refine ⟨.gp b g (0 + k * 1), _, idx_gs (by simpa using hk), fun e L => by rw [Nat.zero_add]; exact st e L, ?_, by simp, fun c hcn => List.getElem?_set_ne (fun e => hcn (by simp [e]))⟩
  have := Own.sl_mk (h := H.set b (some (g, ((l.set k x).map (fun n => [AV.bool n])).flatten ++ tail))) (b := b) (g := g) (cap := cap) (sz := 1) (ex := ex) («as» := ((l.set k x).map (fun n => [AV.bool n])).flatten) (tail := tail) (xs := (l.set k x).map fun n => [CD.b n]) (fp := [])
    (by simp [hget, hbl]) (fun y hy => by obtain ⟨x, _, rfl⟩ := List.mem_map.1 hy; rfl) ht (by simpa using hc) (by rw [← e2]; exact flat_ownL false (bools_flatG _))
  simpa using this
theorem bools_new (H : AH) (n : Nat) : Own (H ++ [some (0, (List.replicate n [AV.bool false]).flatten)]) (.gs H.length 0 0 n n 1 true) (.sl 1 (bdata (List.replicate n false))) [H.length] := by
  have := Own.sl_mk (h := H ++ [some (0, (List.replicate n [AV.bool false]).flatten)]) (b := H.length) (g := 0) (cap := n) (sz := 1) (ex := true) («as» := (List.replicate n [AV.bool false]).flatten) (tail := []) (xs := bdata (List.replicate n false)) (fp := [])
    (by rw [List.append_nil]; exact hget_last _ _) (fun y hy => by obtain ⟨x, _, rfl⟩ := List.mem_map.1 hy; rfl) (by simp) (by simp) (by
      have e2 : (List.replicate n [AV.bool false]).flatten = (bdata (List.replicate n false)).flatten.map (CD.av false) := by simp [List.map_flatten, Function.comp_def, CD.av_b, bdata]
      rw [e2]; exact flat_ownL false (bools_flatG _))
  simpa [bdata] using this
def mkB (n : Nat) (l : List Int) : List Bool := (List.range n).map fun (i : Nat) => l.contains (Int.ofNat i)
theorem mkB_len (n : Nat) (l : List Int) : (mkB n l).length = n := by simp [mkB]
theorem mkB_nil (n : Nat) : mkB n [] = List.replicate n false := by
  apply List.ext_getElem <;> simp [mkB]
theorem mkB_get {n : Nat} {l : List Int} {k : Nat} (hk : k < (mkB n l).length) : (mkB n l)[k] = l.contains (Int.ofNat k) := by simp [mkB]
theorem mkB_set {n : Nat} (l : List Int) {k : Nat} (hk : k < n) : (mkB n l).set k true = mkB n (l ++ [(k : Int)]) := by
  apply List.ext_getElem
  · simp [mkB]
  · intro i h1 h2
    simp only [List.getElem_set, mkB, List.getElem_map, List.getElem_range, List.contains_eq_mem, List.mem_append, List.mem_singleton]
    by_cases e : k = i
    · subst e; simp
    · have : ¬ (Int.ofNat i = (k : Int)) := by intro h; have : i = k := Int.ofNat.inj h; omega
      simp [e]; intro h; exact absurd (by simpa using h) this
theorem marksF_zero (l : List Int) : marksF 0 l = [] := rfl
theorem marksF_succ (k : Nat) (l : List Int) : marksF (k + 1) l = marksF k l ++ if l.contains (Int.ofNat k) = true then [(k : Int)] else [] := by
  simp only [marksF, List.range_succ, List.filter_append, List.map_append]
  congr 1
  simp only [List.filter_cons, List.filter_nil]
  split <;> rfl
theorem marksF_len (k : Nat) (l : List Int) : (marksF k l).length ≤ k := by
  simp only [marksF, List.length_map]
  exact Nat.le_trans (List.length_filter_le ..) (by simp)
end
end Go.AM
