import Derived.Test.YtleddolmolkpfaaGreatAmStep4
set_option linter.unusedVariables false
set_option linter.unusedSimpArgs false
/-! Each instruction against the model's operation: what is built and laid. -/
namespace Go.AM
section
variable {P : Program} {Γ : Glob} {ρ : Inj} {ls : List Nat} {s : St} {a : Act} {w : World}

theorem Lies.ofRVs {cs : List AV} {arr : Array Value} (h : RVs ρ ls cs arr.toList) : Lies ρ ls arr 0 cs := fun i x hx => by
  have hi := getElem?_lt hx
  have hl := h.1
  have hr := h.2 i x hx
  simp at hl
  rw [getD_toList] at hr
  refine ⟨arr[i]'(by omega), by simp, ?_⟩
  simpa [Array.getD, show i < arr.size by omega] using hr

theorem RVs.ofLies {cs : List AV} {arr : Array Value} (h : Lies ρ ls arr 0 cs) (hl : cs.length = arr.size) : RVs ρ ls cs arr.toList :=
  ⟨by simpa using hl, fun i x hx => by
    obtain ⟨y, hy, r⟩ := h i x hx
    rw [Nat.zero_add] at hy
    rw [getD_toList]
    simp [Array.getD_eq_getD_getElem?, hy, r]⟩

theorem RVs.noLp {cs : List AV} {vs : List Value} (h : RVs ρ ls cs vs) (hc : cs.all Go.AM.noLp = true) (ls' : List Nat) : RVs ρ ls' cs vs :=
  ⟨h.1, fun i x hx => (h.2 i x hx).noLp (List.all_eq_true.1 hc x (List.mem_of_getElem? hx)) ls'⟩

theorem RVs.oneCell {cs : List AV} {vs : List Value} (h : RVs ρ ls cs vs) (hc : cs.all isCell = true) : ∀ v ∈ vs, v.oneCell' = true := fun v hv => by
  obtain ⟨i, hi⟩ := List.mem_iff_getElem?.1 hv
  have hlt := getElem?_lt hi
  have hl := h.1
  have hx : cs[i]? = some (cs[i]'(by omega)) := List.getElem?_eq_getElem _
  have hr := h.2 i _ hx
  rw [List.getD_eq_getElem?_getD, hi] at hr
  exact hr.oneCell (List.all_eq_true.1 hc _ (List.mem_of_getElem? hx))

theorem RVs.append {cs cs' : List AV} {vs vs' : List Value} (h : RVs ρ ls cs vs) (h' : RVs ρ ls cs' vs') : RVs ρ ls (cs ++ cs') (vs ++ vs') :=
  ⟨by simp [h.1, h'.1], fun i x hx => by
    rw [List.getD_eq_getElem?_getD]
    by_cases hi : i < cs.length
    · rw [List.getElem?_append_left hi] at hx
      rw [List.getElem?_append_left (by rw [← h.1]; exact hi), ← List.getD_eq_getElem?_getD]
      exact h.2 i x hx
    · rw [List.getElem?_append_right (by omega)] at hx
      rw [List.getElem?_append_right (by rw [← h.1]; omega), ← h.1, ← List.getD_eq_getElem?_getD]
      exact h'.2 _ x hx⟩

theorem RVs.take {cs : List AV} {vs : List Value} (h : RVs ρ ls cs vs) (n : Nat) : RVs ρ ls (cs.take n) (vs.take n) :=
  ⟨by simp [h.1], fun i x hx => by
    rw [List.getElem?_take] at hx
    split at hx
    · rename_i hi
      rw [List.getD_eq_getElem?_getD, List.getElem?_take, if_pos hi, ← List.getD_eq_getElem?_getD]
      exact h.2 i x hx
    · cases hx⟩

theorem RVs.replicate {z : List AV} {vs : List Value} (h : RVs ρ ls z vs) : ∀ n, RVs ρ ls (List.replicate n z).flatten (List.replicate n vs).flatten
  | 0 => ⟨rfl, fun i x hx => by simp at hx⟩
  | n + 1 => by
    simp only [List.replicate_succ, List.flatten_cons]
    exact h.append (RVs.replicate h n)

/-! #### parts -/

theorem foldl_set (l : List Value) : ∀ (k off : Nat) (arr : Array Value), (l.zipIdx k).foldl (fun cs (p : Value × Nat) => cs.setIfInBounds (off + p.2) p.1) arr = setRange arr (off + k) l := by
  induction l with
  | nil => intro k off arr; rfl
  | cons v r ih =>
    intro k off arr
    simp only [List.zipIdx_cons, List.foldl_cons, setRange]
    rw [ih (k + 1) off, Nat.add_assoc]

theorem fill_ok (place : Nat → Option (Nat × Nat)) : ∀ (ps : List (Nat × Nat × AV)) (vs : List (Nat × Value)) (cells : List AV) (arr : Array Value) (res : List AV),
    ps.length = vs.length → (∀ (i : Nat) p v, ps[i]? = some p → vs[i]? = some v → place v.1 = some (p.1, p.2.1) ∧ RV ρ ls p.2.2 v.2) →
    RVs ρ ls cells arr.toList → fillA cells ps = some res → ∃ arr', Instr.fill place arr vs = some arr' ∧ RVs ρ ls res arr'.toList := by
  intro ps
  induction ps with
  | nil =>
    intro vs cells arr res hl _ hr hf
    cases vs with
    | nil => simp only [fillA, Option.some.injEq] at hf; subst hf; exact ⟨arr, rfl, hr⟩
    | cons _ _ => simp at hl
  | cons p r ih =>
    intro vs cells arr res hl hp hr hf
    cases vs with
    | nil => simp at hl
    | cons v vr =>
      obtain ⟨off, size, x⟩ := p
      obtain ⟨i, v⟩ := v
      have h0 := hp 0 _ _ rfl rfl
      simp only at h0
      simp only [fillA] at hf
      split at hf
      · rename_i cs hcs
        split at hf
        · rename_i hsz
          split at hf
          · rename_i hle
            have hc := cells_RV h0.2 hcs
            have hlc := hc.1
            have hla := hr.1
            simp at hlc hla
            have e : (v.cells.zipIdx.foldl (fun cs (p : Value × Nat) => cs.setIfInBounds (off + p.2) p.1) arr) = setRange arr off v.cells.toList := by
              rw [← Array.foldl_toList, Array.toList_zipIdx, foldl_set]; rfl
            have hlies : RVs ρ ls (over cells off cs) (setRange arr off v.cells.toList).toList := by
              refine RVs.ofLies ?_ (by rw [over_length hle, setRange_size]; exact hla)
              have := (Lies.ofRVs hr).over hle (by omega) hc
              rwa [Nat.zero_add] at this
            obtain ⟨arr', h1, h2⟩ := ih vr _ (setRange arr off v.cells.toList) res (by simpa using hl) (fun j p v hp' hv => hp (j + 1) p v hp' hv) hlies hf
            refine ⟨arr', ?_, h2⟩
            simp only [Instr.fill, h0.1]
            rw [if_neg (by simp; omega)]
            rw [show (fun (cs : Array Value) (x : Value × Nat) => match x with | (c, j) => cs.setIfInBounds (off + j) c) = (fun cs (p : Value × Nat) => cs.setIfInBounds (off + p.2) p.1) from rfl, e]
            exact h1
          · cases hf
        · cases hf
      · cases hf

theorem TF.zero {t : TypeId} {ti : TI} (h : TF P t ti) (w : World) (ρ : Inj) (ls : List Nat) : ∃ z, (zeroValue t).run P w = .ok z w ∧ RVs ρ ls ti.zero z.cells.toList ∧ z.cells.size = ti.size := by
  obtain ⟨i, d, z, h1, h2, h3, h4, h5, h6, h7, h8, h9⟩ := h.info
  exact ⟨z, run_zero h1 h5, by rw [← h7]; exact RVs_map _, h8⟩

/-! #### a value that is laid -/

theorem box_glob (mem : RH ρ ls s.loc s.heap w) {T : TypeId} {cs : List AV} {vs : Array Value} (hr : RVs ρ ls cs vs.toList) (hc : cs.all noLp = true) :
    ∃ ρ', RH ρ' ls (s.push cs).loc (s.push cs).heap { w with heap := w.heap.push (.cells vs T (0, 0)) } ∧ Evo ρ ls s.heap w ρ' ls (s.push cs).heap { w with heap := w.heap.push (.cells vs T (0, 0)) } ∧
      ρ'.m s.heap.length 0 = some (w.heap.size, 0, vs.size) := by
  have hl := hr.1
  simp at hl
  have h := mem.newHeap (NewB.push w (.cells vs T (0, 0))) (.inl (by simp)) (by omega) (Lies.ofRVs (hr.noLp hc []))
  exact ⟨_, h.1, h.2, Inj.ins_self _ _ _ _⟩

theorem box_loc (mem : RH ρ ls s.loc s.heap w) {T : TypeId} {cs : List AV} {vs : Array Value} (hr : RVs ρ ls cs vs.toList) :
    RH ρ (ls ++ [w.heap.size]) (s.loc ++ [cs]) s.heap { w with heap := w.heap.push (.cells vs T (0, 0)) } ∧ Evo ρ ls s.heap w ρ (ls ++ [w.heap.size]) s.heap { w with heap := w.heap.push (.cells vs T (0, 0)) } := by
  have hl := hr.1
  simp at hl
  exact mem.newLoc (NewB.push w (.cells vs T (0, 0))) hl (Lies.ofRVs hr)

theorem rows_eq (n : Nat) (z : Array Value) (sz : Nat) (hz : z.size = sz) (h0 : n * sz = 0 → n = 0 ∨ sz = 0) :
    ((Array.range (n * sz)).map (z[· % z.size]!)).toList = (List.replicate n z.toList).flatten := by
  subst hz
  apply List.ext_getElem?
  intro i
  have hlen : (List.replicate n z.toList).flatten.length = n * z.size := by simp
  by_cases hi : i < n * z.size
  · have hpos : 0 < z.size := by
      rcases Nat.eq_zero_or_pos z.size with h | h
      · rw [h] at hi; simp at hi
      · exact h
    have key : ∀ n i, i < n * z.size → (List.replicate n z.toList).flatten[i]? = some (z[i % z.size]'(Nat.mod_lt _ hpos)) := by
      intro n
      induction n with
      | zero => intro i hi; simp at hi
      | succ n ih =>
        intro i hi
        rw [List.replicate_succ, List.flatten_cons]
        by_cases hlt : i < z.size
        · rw [List.getElem?_append_left (by simpa using hlt)]
          simp [Nat.mod_eq_of_lt hlt, hlt]
        · rw [List.getElem?_append_right (by simp; omega)]
          simp only [Array.length_toList]
          rw [ih (i - z.size) (by rw [Nat.succ_mul] at hi; omega)]
          congr 1
          have : i % z.size = (i - z.size) % z.size := by rw [Nat.mod_eq_sub_mod (by omega)]
          simp only [this]
    rw [key n i hi]
    simp [hi, Nat.mod_lt _ hpos]
  · rw [List.getElem?_eq_none (by simp; omega), List.getElem?_eq_none (by rw [hlen]; omega)]

end
end Go.AM
