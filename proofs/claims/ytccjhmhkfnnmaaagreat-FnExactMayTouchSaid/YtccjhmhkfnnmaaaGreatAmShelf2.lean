import Derived.Test.YtccjhmhkfnnmaaaGreatAmShelf
import Derived.Test.YtccjhmhkfnnmaaaGreatAmApp2
set_option linter.unusedVariables false
set_option linter.unusedSimpArgs false
namespace Go.AM
open Go.Proofs Go.Shelf Go.Sort
variable {P : Program} {Γ : Glob} {H : AH}
abbrev idata (l : List Int) : List (List CD) := l.map fun n => [CD.i .i64 n]
theorem idata_flat (l : List Int) : (idata l).flatten = l.map (CD.i .i64) := by
  induction l with
  | nil => rfl
  | cons a l ih => simpa [idata] using ih
theorem idata_len (l : List Int) : (idata l).length = l.length := List.length_map ..
theorem zints_ownL : ∀ {az : List AV} {zs : List Int} {f : List Nat}, OwnL H az (zs.map (CD.i .i64)) f → az = zints zs ∧ f = []
  | [], [], _, h => ⟨rfl, h⟩
  | a :: az, z :: zs, f, h => by
    obtain ⟨f1, f2, rfl, h1, h2⟩ := h
    obtain ⟨rfl, rfl⟩ := zints_ownL h2
    cases h1
    exact ⟨rfl, rfl⟩
  | [], _ :: _, _, h => h.elim
  | _ :: _, [], _, h => h.elim
theorem ownL_zints : ∀ (zs : List Int), OwnL H (zints zs) (zs.map (CD.i .i64)) []
  | [] => rfl
  | z :: zs => ⟨[], [], rfl, .i _ _, ownL_zints zs⟩
theorem zints_inv {v : AV} {zs : List Int} {fp : List Nat} (o : Own H v (.sl 1 (idata zs)) fp) : (v = .nils ∧ zs = [] ∧ fp = []) ∨
    ∃ b g cap ex tail, v = .gs b g 0 zs.length cap 1 ex ∧ fp = [b] ∧ H[b]? = some (some (g, zints zs ++ tail)) ∧ (∀ x ∈ tail, atom x) ∧ (zs.length ≤ cap ∧ cap - zs.length ≤ tail.length) := by
  rcases o.sl_inv with ⟨h1, h2, h3⟩ | ⟨b, g, cap, ex, az, tail, fp', h1, h2, h3, _, h4, h5, h6⟩
  · exact .inl ⟨h1, by simpa [idata] using h2, h3⟩
  · rw [idata_flat] at h6
    obtain ⟨rfl, rfl⟩ := zints_ownL h6
    rw [idata_len] at h1 h5
    exact .inr ⟨b, g, cap, ex, tail, h1, h2, hget_spec h3, h4, h5.1, by simpa using h5.2⟩
theorem zints_mk {b g cap : Nat} {ex : Bool} {tail : List AV} {zs : List Int} (h1 : H[b]? = some (some (g, zints zs ++ tail))) (ht : ∀ x ∈ tail, atom x) (hc : zs.length ≤ cap ∧ cap - zs.length ≤ tail.length) :
    Own H (.gs b g 0 zs.length cap 1 ex) (.sl 1 (idata zs)) [b] := by
  have := Own.sl_mk (h := H) (b := b) (g := g) (cap := cap) (sz := 1) (ex := ex) («as» := zints zs) (tail := tail) (xs := idata zs) (fp := []) (by simp [hget, h1]) (fun l hl => by obtain ⟨n, _, rfl⟩ := List.mem_map.1 hl; rfl) ht
    (by rw [idata_len]; simpa using hc) (by rw [idata_flat]; exact ownL_zints zs)
  rw [idata_len] at this
  exact this
theorem sort_own {ren : Ren} (Ly : Lays.n189 P ren) (hcl : Callable P (ren.f 189)) {v : AV} {zs : List Int} {fp : List Nat} (hz : zs.length < 4611686018427387904) (o : Own H v (.sl 1 (idata zs)) fp) :
    T P Γ (ren.f 189) [v] H fun r h' => r = .tup [] ∧ Own h' v (.sl 1 (idata (srt zs))) fp ∧ h'.length = H.length ∧ ∀ c, c ∉ fp → h'[c]? = H[c]? := by
  rcases zints_inv o with ⟨rfl, rfl, rfl⟩ | ⟨b, g, cap, ex, tail, rfl, rfl, hb, ht, hc⟩
  · refine (sort_nil Ly hcl).mono ?_
    rintro _ _ ⟨rfl, rfl⟩
    exact ⟨rfl, by simpa [srt, idata] using Own.nil (h := _) 1, rfl, fun _ _ => rfl⟩
  · refine (sort_gs (pre := []) Ly hcl hz (by simpa using hb)).mono ?_
    rintro _ _ ⟨rfl, rfl⟩
    have hbl := getElem?_lt hb
    have h2 := zints_mk (H := H.set b (some (g, [] ++ zints (srt zs) ++ tail))) (b := b) (g := g) (cap := cap) (ex := ex) (tail := tail) (zs := srt zs) (by rw [List.getElem?_set_self hbl]; simp) ht (by rw [srt_len]; exact hc)
    rw [srt_len] at h2
    exact ⟨rfl, h2, by simp, fun c hc' => List.getElem?_set_ne (by simpa using Ne.symm (by simpa using hc'))⟩
theorem compact_own {ren : Ren} (Ly : Lays2.n20 P ren) (hcl : Callable P (ren.f 20)) {v : AV} {zs : List Int} {fp : List Nat} (hz : zs.length ≤ 9223372036854775807) (o : Own H v (.sl 1 (idata zs)) fp) :
    T P Γ (ren.f 20) [v] H fun r h' => Own h' r (.sl 1 (idata (Lib.compact zs))) fp ∧ h'.length = H.length ∧ ∀ c, c ∉ fp → h'[c]? = H[c]? := by
  rcases zints_inv o with ⟨rfl, rfl, rfl⟩ | ⟨b, g, cap, ex, tail, rfl, rfl, hb, ht, hc⟩
  · refine (compact_nil Ly hcl).mono ?_
    rintro _ _ ⟨rfl, rfl⟩
    exact ⟨.nil _, rfl, fun _ _ => rfl⟩
  · refine (compact_gs (pre := []) Ly hcl hz (by simpa using hb)).mono ?_
    rintro _ _ ⟨rfl, rfl⟩
    have hbl := getElem?_lt hb
    have hle := compact_le zs
    have hints : zints (Lib.compact zs ++ List.replicate (zs.length - (Lib.compact zs).length) 0) = zints (Lib.compact zs) ++ List.replicate (zs.length - (Lib.compact zs).length) (.int .i64 0) := by simp [zints]
    refine ⟨zints_mk (tail := List.replicate (zs.length - (Lib.compact zs).length) (.int .i64 0) ++ tail) (by rw [List.getElem?_set_self hbl, hints]; simp) (fun x hx => ?_) (by simp only [List.length_append, List.length_replicate]; omega), by simp, fun c hc' => List.getElem?_set_ne (by simpa using Ne.symm (by simpa using hc'))⟩
    rcases List.mem_append.1 hx with hx | hx
    · rw [(List.mem_replicate.1 hx).2]; exact .i _ _
    · exact ht x hx
theorem compactUpTo_sorted {d : Array Int} (hs : ∀ i j, i ≤ j → j < d.size → d[i]! ≤ d[j]!) : ∀ m, m ≤ d.size →
    (Lib.compactUpTo d m).Pairwise (· < ·) ∧ (∀ x, x ∈ Lib.compactUpTo d m ↔ ∃ i, i < m ∧ d[i]! = x) ∧ (∀ x ∈ Lib.compactUpTo d m, 0 < m ∧ x ≤ d[m - 1]!)
  | 0, _ => by simp [Lib.compactUpTo]
  | m + 1, hm => by
    obtain ⟨h1, h2, h3⟩ := compactUpTo_sorted hs m (by omega)
    rw [Lib.compactUpTo_succ]
    have hmem : ∀ x, (∃ i, i < m + 1 ∧ d[i]! = x) ↔ (∃ i, i < m ∧ d[i]! = x) ∨ d[m]! = x := by
      intro x
      constructor
      · rintro ⟨i, hi, e⟩
        by_cases him : i = m
        · subst him; exact .inr e
        · exact .inl ⟨i, by omega, e⟩
      · rintro (⟨i, hi, e⟩ | e)
        · exact ⟨i, by omega, e⟩
        · exact ⟨m, by omega, e⟩
    by_cases hk : Lib.keeps d m = true
    · rw [if_pos hk]
      have hlt : ∀ x ∈ Lib.compactUpTo d m, x < d[m]! := by
        intro x hx
        obtain ⟨h0, hx⟩ := h3 x hx
        have hne : d[m]! ≠ d[m - 1]! := by
          simp only [Lib.keeps, decide_eq_true_eq] at hk
          rcases hk with hk | hk
          · omega
          · exact hk
        have := hs (m - 1) m (by omega) (by omega)
        omega
      refine ⟨List.pairwise_append.2 ⟨h1, by simp, fun a ha b hb => by rw [List.mem_singleton.1 hb]; exact hlt a ha⟩, fun x => ?_, fun x hx => ⟨by omega, ?_⟩⟩
      · rw [List.mem_append, List.mem_singleton, h2, hmem]
        constructor <;> rintro (h | h) <;> first | exact .inl h | exact .inr h.symm
      · rw [Nat.add_sub_cancel]
        rcases List.mem_append.1 hx with hx | hx
        · exact Int.le_of_lt (hlt x hx)
        · rw [List.mem_singleton.1 hx]; exact Int.le_refl _
    · rw [if_neg hk, List.append_nil]
      have hk' : m ≠ 0 ∧ d[m]! = d[m - 1]! := by
        simp only [Lib.keeps, decide_eq_true_eq] at hk
        exact ⟨fun h => hk (.inl h), Decidable.byContradiction fun h => hk (.inr h)⟩
      refine ⟨h1, fun x => ?_, fun x hx => ⟨by omega, ?_⟩⟩
      · rw [h2, hmem]
        constructor
        · exact .inl
        · rintro (h | h)
          · exact h
          · exact ⟨m - 1, by omega, by rw [← hk'.2]; exact h⟩
      · rw [Nat.add_sub_cancel, hk'.2]; exact (h3 x hx).2
theorem rise_unique : ∀ {a b : List Int}, a.Pairwise (· < ·) → b.Pairwise (· < ·) → (∀ x, x ∈ a ↔ x ∈ b) → a = b
  | [], [], _, _, _ => rfl
  | [], b :: bs, _, _, h => by have := (h b).2 (by simp); simp at this
  | a :: az, [], _, _, h => by have := (h a).1 (by simp); simp at this
  | a :: az, b :: bs, ha, hb, h => by
    have ha' := List.pairwise_cons.1 ha
    have hb' := List.pairwise_cons.1 hb
    have hab : a = b := by
      have h1 := (h a).1 (by simp)
      have h2 := (h b).2 (by simp)
      rcases List.mem_cons.1 h1 with e | e
      · exact e
      · rcases List.mem_cons.1 h2 with e2 | e2
        · exact e2.symm
        · have := hb'.1 a e; have := ha'.1 b e2; omega
    subst hab
    rw [rise_unique ha'.2 hb'.2 fun x => ?_]
    constructor
    · intro hx
      rcases List.mem_cons.1 ((h x).1 (List.mem_cons_of_mem _ hx)) with e | e
      · have := ha'.1 x hx; omega
      · exact e
    · intro hx
      rcases List.mem_cons.1 ((h x).2 (List.mem_cons_of_mem _ hx)) with e | e
      · have := hb'.1 x hx; omega
      · exact e
def marksF (n : Nat) (l : List Int) : List Int := ((List.range n).filter fun (i : Nat) => l.contains (Int.ofNat i)).map fun (i : Nat) => Int.ofNat i
theorem mem_marksF {n : Nat} {l : List Int} {x : Int} : x ∈ marksF n l ↔ x ∈ l ∧ ∃ i : Nat, i < n ∧ x = i := by
  simp only [marksF, List.mem_map, List.mem_filter, List.mem_range, List.contains_iff_mem]
  constructor
  · rintro ⟨i, ⟨h1, h2⟩, rfl⟩; exact ⟨h2, i, h1, rfl⟩
  · rintro ⟨h1, i, h2, rfl⟩; exact ⟨i, ⟨h2, h1⟩, rfl⟩
theorem marksF_rise (n : Nat) (l : List Int) : (marksF n l).Pairwise (· < ·) := by
  refine List.pairwise_map.2 ?_
  exact ((List.pairwise_lt_range (n := n)).filter _).imp (fun h => Int.ofNat_lt.2 h)
theorem compact_sort (n : Nat) (l : List Int) (h : ∀ x ∈ l, ∃ i : Nat, i < n ∧ x = i) : Lib.compact (srt l) = marksF n l := by
  have hsp : (srt l).Pairwise (· ≤ ·) := by
    have := List.pairwise_mergeSort (le := fun (x y : Int) => decide (x ≤ y)) (by intro a b c; simp; omega) (by intro a b; simp; omega) l
    exact this.imp (fun h => by simpa using h)
  have hs : ∀ i j, i ≤ j → j < (srt l).toArray.size → (srt l).toArray[i]! ≤ (srt l).toArray[j]! := by
    intro i j hij hj
    have hj' : j < (srt l).length := by simpa using hj
    rw [getElem!_pos _ i (by simp; omega), getElem!_pos _ j hj]
    simp only [List.getElem_toArray]
    by_cases e : i = j
    · subst e; exact Int.le_refl _
    · exact List.pairwise_iff_getElem.1 hsp i j (by omega) hj' (by omega)
  obtain ⟨h1, h2, _⟩ := compactUpTo_sorted hs (srt l).length (by simp)
  refine rise_unique h1 (marksF_rise n l) fun x => ?_
  rw [show Lib.compact (srt l) = Lib.compactUpTo (srt l).toArray (srt l).length from rfl, h2, mem_marksF]
  have hm : (∃ i, i < (srt l).length ∧ (srt l).toArray[i]! = x) ↔ x ∈ l := by
    rw [← List.mem_mergeSort (le := fun (x y : Int) => decide (x ≤ y))]
    show _ ↔ x ∈ srt l
    rw [List.mem_iff_getElem]
    constructor
    · rintro ⟨i, hi, e⟩
      rw [getElem!_pos _ i (by simpa using hi)] at e
      exact ⟨i, hi, by simpa using e⟩
    · rintro ⟨i, hi, e⟩
      refine ⟨i, hi, ?_⟩
      rw [getElem!_pos _ i (by simpa using hi)]
      simpa using e
  rw [hm]
  exact ⟨fun hx => ⟨hx, h x hx⟩, fun hx => hx.1⟩
end Go.AM
