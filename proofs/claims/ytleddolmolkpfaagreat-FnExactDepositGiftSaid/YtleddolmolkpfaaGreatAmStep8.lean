import Derived.Test.YtleddolmolkpfaaGreatAmStep7
set_option linter.unusedVariables false
set_option linter.unusedSimpArgs false
/-! Each instruction against the model's operation: append, over the relation. -/
namespace Go.AM
section
variable {P : Program} {Γ : Glob} {ρ : Inj} {ls : List Nat} {s : St} {a : Act} {w : World}

theorem Lies.ofPrefix {cs : List AV} {vs rest : List Value} {arr : Array Value} (h : RVs ρ ls cs vs) (e : arr.toList = vs ++ rest) : Lies ρ ls arr 0 cs := fun i x hx => by
  have hi := getElem?_lt hx
  have hr := h.2 i x hx
  have hl := h.1
  have : arr.toList[i]? = vs[i]? := by rw [e, List.getElem?_append_left (by omega)]
  rw [List.getD_eq_getElem?_getD, List.getElem?_eq_getElem (by omega)] at hr
  refine ⟨vs[i]'(by omega), ?_, hr⟩
  rw [Nat.zero_add, ← Array.getElem?_toList, this, List.getElem?_eq_getElem (by omega)]

/-- The base's own cells, where it is not nil. -/
theorem base_ok (mem : RH ρ ls s.loc s.heap w) {sz : Nat} {x : AV} {xv : Value} (r : RV ρ ls x xv) {cs : List AV} {n : Nat} (h : s.sliceCells sz x = some cs) (hn : lenOf x = some n) :
    ∃ A cap vals, xv = .slice A n cap ∧ Source P w sz xv n vals ∧ RVs ρ ls cs vals := by
  obtain ⟨A, cap, vals, rfl, h1, h2, _, h4, h5⟩ := sliceCells_ok mem r h hn
  exact ⟨A, cap, vals, rfl, .mk_slice h1 h4 h5, h2⟩

theorem app_ok (mem : RH ρ ls s.loc s.heap w) {t tx ty e : TypeId} {ei : TI} (hu : P.underlying t = some (.slice e)) (he : TF P e ei) {d : TypeDesc} (hux : P.underlying tx = some d) (hd : ∀ k, d ≠ .int k)
    {x : AV} {xv yv : Value} (rx : RV ρ ls x xv) {ys : List AV} {vals : List Value} {n m : Nat} (src : Source P w ei.size yv n vals) (ry : RVs ρ ls ys vals) (hm : lenOf x = some m)
    {v : AV} {s' : St} (h : aApp s ei.size ei.bytes x ys n m = some (v, s')) :
    s'.env = s.env ∧ ∃ cv w' ρ', (Builtin.append_ #[t, tx] ty #[xv, yv]).run P w = .ok cv w' ∧ RV ρ' ls v cv ∧ RH ρ' ls s'.loc s'.heap w' ∧ Evo ρ ls s.heap w ρ' ls s'.heap w' := by
  unfold aApp at h
  split at h
  · cases h
  · rename_i hsz
    split at h
    · cases h
    · rename_i hbound
      have hpos : 0 < ei.size := by omega
      -- a new block for all
      have grow : ∀ {A : Option Addr} {sl sc : Nat} {olds : List Value} {cs : List AV}, xv = .slice A sl sc → sl = m → Source P w ei.size (.slice A sl sc) sl olds → RVs ρ ls cs olds → cs.all noLp = true → ys.all noLp = true → sc < sl + n →
          ∃ cv w' ρ', (Builtin.append_ #[t, tx] ty #[xv, yv]).run P w = .ok cv w' ∧ RV ρ' ls (.gs s.heap.length 0 0 (sl + n) (sl + n) ei.size false) cv ∧ RH ρ' ls (s.push (cs ++ ys)).loc (s.push (cs ++ ys)).heap w' ∧ Evo ρ ls s.heap w ρ' ls (s.push (cs ++ ys)).heap w' := by
        intro A sl sc olds cs hxv hsl base hcs hc1 hc2 hlt
        subst hxv hsl
        obtain ⟨N, arr, w', hrun, hN, hasz, nb, rest, hrest⟩ := append_grow (ty := ty) hu he hux hd src base hlt hpos (by omega)
        have hall : RVs ρ [] (cs ++ ys) (olds ++ vals) := (hcs.noLp hc1 []).append (ry.noLp hc2 [])
        have hlen := hall.1
        have hl2 : (olds ++ vals).length = (sl + n) * ei.size := by simp [base.size, src.size, Nat.add_mul]
        have hmul := Nat.mul_le_mul_right ei.size hN
        have hres := mem.newHeap (cs := cs ++ ys) nb (.inl (by simp)) (by omega) (Lies.ofPrefix hall hrest)
        exact ⟨_, w', _, hrun, .gs _ _ _ _ _ _ _ _ _ 0 arr.size N (Inj.ins_self _ _ _ _) (Nat.le_refl _) hN (by simp) (by omega), hres.1, hres.2⟩
      cases rx with
      | nils =>
        simp only [lenOf, Option.some.injEq] at hm
        subst hm
        simp only at h
        have base : Source P w ei.size (.slice none 0 0) 0 [] := .mk_slice (by simp) (by simp) (by simp)
        split at h
        · rename_i hn
          injection h with h
          injection h with h1 h2
          subst h1 h2 hn
          have hv : vals = [] := List.eq_nil_of_length_eq_zero (by have := src.size; simpa using this)
          refine ⟨rfl, _, w, ρ, append_fit hu he hux hd src (by omega) (by simp) (fun _ => rfl), ?_, mem, .refl _ _ _ _⟩
          exact .nils _
        · rename_i hn
          split at h
          · rename_i hc
            injection h with h
            injection h with h1 h2
            subst h1 h2
            obtain ⟨cv, w', ρ', g1, g2, g3, g4⟩ := grow (cs := []) rfl rfl base ⟨rfl, fun i x hx => by simp at hx⟩ rfl hc (by omega)
            simp only [List.nil_append, Nat.zero_add] at g2 g3 g4
            exact ⟨rfl, cv, w', ρ', g1, g2, g3, g4⟩
          · cases h
      | vs _ β sz' ex xs c o cap' f h1 h2 h3 h4 r =>
        have rx : RV ρ ls (.vs β sz' ex xs) (.slice (some ⟨c, o, none⟩) xs.length cap') := .vs _ β sz' ex xs c o cap' f h1 h2 h3 h4 r
        simp only [lenOf, Option.some.injEq] at hm
        subst hm
        simp only at h
        split at h
        · rename_i hn
          injection h with h
          injection h with e1 e2
          subst e1 e2 hn
          have hv : vals = [] := List.eq_nil_of_length_eq_zero (by have := src.size; simpa using this)
          subst hv
          refine ⟨rfl, _, w, ρ, append_fit hu he hux hd src (by omega) (fun ad _ => rfl) (by simp), rx, mem, .refl _ _ _ _⟩
        · split at h
          · rename_i hex
            split at h
            · rename_i hszz
              split at h
              · rename_i hc
                split at h
                · rename_i hc'
                  injection h with h
                  injection h with e1 e2
                  subst e1 e2
                  obtain ⟨A, cap, olds, e1, hb, hr⟩ := base_ok (P := P) mem rx (sz := ei.size) (cs := xs.flatten) (by simp [St.sliceCells, hszz]) rfl
                  have hcap := h2 hex
                  obtain ⟨cv, w', ρ', g1, g2, g3, g4⟩ := grow (cs := xs.flatten) rfl rfl hb hr hc' hc (by omega)
                  exact ⟨rfl, cv, w', ρ', g1, g2, g3, g4⟩
                · cases h
              · cases h
            · cases h
          · cases h
      | vs0 _ β sz' ex ad cap' h2 =>
        have rx : RV ρ ls (.vs β sz' ex []) (.slice (some ad) 0 cap') := .vs0 _ β sz' ex ad cap' h2
        simp only [lenOf, List.length_nil, Option.some.injEq] at hm
        subst hm
        simp only at h
        split at h
        · rename_i hn
          injection h with h
          injection h with e1 e2
          subst e1 e2 hn
          have hv : vals = [] := List.eq_nil_of_length_eq_zero (by have := src.size; simpa using this)
          subst hv
          refine ⟨rfl, _, w, ρ, append_fit hu he hux hd src (by omega) (fun ad _ => rfl) (by simp), rx, mem, .refl _ _ _ _⟩
        · split at h
          · rename_i hex
            split at h
            · rename_i hszz
              split at h
              · rename_i hc
                split at h
                · injection h with h
                  injection h with e1 e2
                  subst e1 e2
                  have base : Source P w ei.size (.slice (some ad) 0 cap') 0 [] := .mk_slice (by simp) (by simp) (by simp)
                  have hcap := h2 hex
                  obtain ⟨cv, w', ρ', g1, g2, g3, g4⟩ := grow (cs := []) rfl rfl base ⟨rfl, fun i x hx => by simp at hx⟩ rfl hc (by omega)
                  simp only [List.nil_append, Nat.zero_add] at g2 g3 g4
                  simp only [List.flatten_nil, List.nil_append, Nat.zero_add]
                  exact ⟨rfl, cv, w', ρ', g1, g2, g3, g4⟩
                · cases h
              · cases h
            · cases h
          · cases h
      | vsn _ β sz' ex =>
        have rx : RV ρ ls (.vs β sz' ex []) (.slice none 0 0) := .vsn _ β sz' ex
        simp only [lenOf, List.length_nil, Option.some.injEq] at hm
        subst hm
        simp only at h
        split at h
        · rename_i hn
          injection h with h
          injection h with e1 e2
          subst e1 e2 hn
          have hv : vals = [] := List.eq_nil_of_length_eq_zero (by have := src.size; simpa using this)
          subst hv
          refine ⟨rfl, _, w, ρ, append_fit hu he hux hd src (by omega) (fun ad _ => rfl) (by simp), rx, mem, .refl _ _ _ _⟩
        · split at h
          · rename_i hex
            split at h
            · rename_i hszz
              split at h
              · rename_i hc
                split at h
                · injection h with h
                  injection h with e1 e2
                  subst e1 e2
                  have base : Source P w ei.size (.slice none 0 0) 0 [] := .mk_slice (by simp) (by simp) (by simp)
                  obtain ⟨cv, w', ρ', g1, g2, g3, g4⟩ := grow (cs := []) rfl rfl base ⟨rfl, fun i x hx => by simp at hx⟩ rfl hc (by omega)
                  simp only [List.nil_append, Nat.zero_add] at g2 g3 g4
                  simp only [List.flatten_nil, List.nil_append, Nat.zero_add]
                  exact ⟨rfl, cv, w', ρ', g1, g2, g3, g4⟩
                · cases h
              · cases h
            · cases h
          · cases h
      | gs _ b g off len cap sz' ex c o N cap' hm0 h1 h2 h3 h4 =>
        have rx : RV ρ ls (.gs b g off len cap sz' ex) (.slice (some ⟨c, o + off, none⟩) len cap') := .gs _ b g off len cap sz' ex c o N cap' hm0 h1 h2 h3 h4
        simp only [lenOf, Option.some.injEq] at hm
        subst hm
        simp only at h
        cases hb : hget s.heap b with
        | none => simp [hb] at h
        | some e0 =>
          obtain ⟨g', l⟩ := e0
          simp only [hb, Option.bind_some] at h
          split at h
          · rename_i hg
            have hg' : g' = g := hg
            subst hg'
            split at h
            · rename_i hszz
              subst hszz
              split at h
              · rename_i hc
                obtain ⟨c', o', n', arr, T, fr, q1, q2, q3, q4, q5, q6⟩ := mem.hp b g' l (hget_spec hb)
                rw [hm0] at q1
                injection q1 with q1
                injection q1 with q1 q1'
                injection q1' with q1' q1''
                subst q1 q1' q1''
                have hyl := ry.1
                have hvl := src.size
                have hcell := ry.oneCell (by rw [List.all_eq_true] at *; exact fun x hx => isCell_of_noLp (hc x hx))
                split at h
                · rename_i hfit
                  split at h
                  · rename_i hin
                    injection h with h
                    injection h with e1 e2
                    subst e1 e2
                    have hmul : (len + n) * ei.size = len * ei.size + n * ei.size := Nat.add_mul _ _ _
                    obtain ⟨w', hrun, hsb⟩ := run_storeCells' (P := P) c T fr vals (o + off + len * ei.size) 0 w arr q2 q4 (by omega) hcell
                    have hle : off + len * ei.size + ys.length ≤ l.length := by omega
                    have hlies := q6.over (cs := ys) (off := off + len * ei.size) hle (by omega) (ry.noLp hc [])
                    rw [show o + (off + len * ei.size) = o + off + len * ei.size + 0 from by omega] at hlies
                    have hres := mem.setHeap (hget_spec hb) hm0 (l' := over l (off + len * ei.size) ys) hsb (setRange_size _ _ _) q3 q4 (by rw [over_length hle]; omega) hlies
                    refine ⟨rfl, _, w', ρ, append_fit hu he hux hd src (show len + n ≤ cap' by omega) (fun ad had => ?_) (by simp), ?_, hres.1, hres.2⟩
                    · injection had with had
                      subst had
                      rw [addr_add]; exact hrun
                    · exact .gs _ _ _ _ _ _ _ _ c o N cap' hm0 hfit h2 h3 h4
                  · cases h
                · rename_i hnfit
                  cases hsub : sub l off (len * ei.size) with
                  | none => simp [hsub] at h
                  | some xs =>
                    simp only [hsub, Option.map_some, Option.some.injEq, Prod.mk.injEq] at h
                    obtain ⟨e1, e2⟩ := h
                    subst e1 e2
                    obtain ⟨s1, s2, s3⟩ := sub_spec hsub
                    by_cases hcf : len + n ≤ cap'
                    · -- in place
                      have hmul : (len + n) * ei.size = len * ei.size + n * ei.size := Nat.add_mul _ _ _
                      have hcm := Nat.mul_le_mul_right ei.size hcf
                      obtain ⟨w', hrun, hsb⟩ := run_storeCells' (P := P) c T fr vals (o + off + len * ei.size) 0 w arr q2 q4 (by omega) hcell
                      have hlies : Lies ρ [] (setRange arr (o + off + len * ei.size + 0) vals) (o + off) (xs ++ ys) := by
                        intro i x hx
                        rw [setRange_get vals arr _ _ (by omega)]
                        by_cases hi : i < xs.length
                        · rw [List.getElem?_append_left hi] at hx
                          rw [if_neg (by omega)]
                          rw [s3 i (by omega)] at hx
                          obtain ⟨y, hy, r⟩ := q6 _ x hx
                          exact ⟨y, by rw [← hy]; congr 1; omega, r⟩
                        · rw [List.getElem?_append_right (by omega)] at hx
                          have hlt := getElem?_lt hx
                          rw [if_pos (by omega)]
                          have hr := (ry.noLp hc []).2 _ x hx
                          rw [List.getD_eq_getElem?_getD, List.getElem?_eq_getElem (by omega)] at hr
                          refine ⟨vals[i - xs.length]'(by omega), ?_, hr⟩
                          rw [show o + off + i - (o + off + len * ei.size + 0) = i - xs.length from by omega, List.getElem?_eq_getElem (by omega)]
                      have hres := mem.regen (c' := c) (o' := o + off) (l' := xs ++ ys) (hget_spec hb) hm0 (.inl ⟨rfl, hsb.sz⟩) (fun x hx hne => hsb.ne x hne) hsb.eq (by unfold unfrozen at *; rw [setRange_size]; exact q4)
                        (by rw [setRange_size]; simp; omega) hlies hsb.os hsb.out
                      refine ⟨rfl, _, w', _, append_fit hu he hux hd src hcf (fun ad had => ?_) (by simp), ?_, hres.1, hres.2⟩
                      · injection had with had
                        subst had
                        rw [addr_add]; exact hrun
                      · refine .gs _ _ _ 0 _ _ _ _ c (o + off) _ cap' (Inj.ins_self _ _ _ _) (Nat.le_refl _) hcf (by simp) ?_
                        rw [setRange_size]; omega
                    · have hlm : len * ei.size ≤ l.length - off := by omega
                      have hxs : RVs ρ [] xs ((arr.toList.drop (o + off)).take (len * ei.size)) := by
                        refine ⟨by simp; omega, fun i x hx => ?_⟩
                        have hi := getElem?_lt hx
                        rw [s3 i (by omega)] at hx
                        obtain ⟨y, hy, r⟩ := q6 _ x hx
                        rw [List.getD_eq_getElem?_getD, List.getElem?_take, if_pos (by omega), List.getElem?_drop]
                        rw [show arr.toList[o + off + i]? = some y from by rw [Array.getElem?_toList, ← hy]; congr 1; omega]
                        exact r
                      have hbase : Source P w ei.size (.slice (some ⟨c, o + off, none⟩) len cap') len ((arr.toList.drop (o + off)).take (len * ei.size)) := by
                        refine .mk_slice (by simp; omega) (by simp) ?_
                        intro ad had j u hu
                        injection had with had
                        subst had
                        rw [addr_add, cell_of q2]
                        have hj := getElem?_lt hu
                        rw [List.getElem?_take, if_pos (by simp at hj; omega), List.getElem?_drop] at hu
                        simpa using hu
                      generalize holds : (arr.toList.drop (o + off)).take (len * ei.size) = olds at hxs hbase
                      obtain ⟨N', arr', w', hrun, hN, hasz, nb, rest, hrest⟩ := append_grow (ty := ty) hu he hux hd src hbase (by omega) hpos (by omega)
                      have hall : RVs ρ [] (xs ++ ys) (olds ++ vals) := hxs.append (ry.noLp hc [])
                      have hlen := hall.1
                      have hl2 : (olds ++ vals).length = (len + n) * ei.size := by simp [hbase.size, src.size, Nat.add_mul]
                      have hmul := Nat.mul_le_mul_right ei.size hN
                      have hres := mem.regen (c' := w.heap.size) (o' := 0) (l' := xs ++ ys) (hget_spec hb) hm0 (.inr ⟨rfl, nb.sz⟩) (fun x hx hne => nb.old x hx) nb.new (.inl (by simp)) (by omega) (Lies.ofPrefix hall hrest) nb.os nb.out
                      exact ⟨rfl, _, w', _, hrun, .gs _ _ _ 0 _ _ _ _ _ 0 arr'.size N' (Inj.ins_self _ _ _ _) (Nat.le_refl _) hN (by simp) (by omega), hres.1, hres.2⟩
              · cases h
            · cases h
          · cases h
      | gs0 _ b g off sz' ex c o N ad hm0 =>
        simp only [lenOf, Option.some.injEq] at hm
        subst hm
        simp only at h
        cases hb : hget s.heap b with
        | none => simp [hb] at h
        | some e0 =>
          obtain ⟨g', l⟩ := e0
          simp only [hb, Option.bind_some] at h
          split at h
          · rename_i hg
            have hg' : g' = g := hg
            subst hg'
            split at h
            · rename_i hszz
              subst hszz
              split at h
              · rename_i hc
                obtain ⟨c', o', n', arr, T, fr, q1, q2, q3, q4, q5, q6⟩ := mem.hp b g' l (hget_spec hb)
                rw [hm0] at q1
                injection q1 with q1
                injection q1 with q1 q1'
                injection q1' with q1' q1''
                subst q1 q1' q1''
                have base : Source P w ei.size (.slice (some ad) 0 0) 0 [] := .mk_slice (by simp) (by simp) (by simp)
                split at h
                · rename_i hfit
                  split at h
                  · rename_i hin
                    injection h with h
                    injection h with e1 e2
                    subst e1 e2
                    have hn : n = 0 := by omega
                    subst hn
                    have hv : vals = [] := List.eq_nil_of_length_eq_zero (by have := src.size; simpa using this)
                    subst hv
                    have hys : ys = [] := List.eq_nil_of_length_eq_zero (by have := ry.1; simpa using this)
                    subst hys
                    have hover : over l (off + 0 * ei.size) [] = l := by simp [over]
                    have hset : s.heap.set b (some (g', l)) = s.heap := by
                      apply List.ext_getElem?
                      intro i
                      by_cases hi : b = i
                      · subst hi; rw [List.getElem?_set_self (getElem?_lt (hget_spec hb)), hget_spec hb]
                      · rw [List.getElem?_set_ne hi]
                    refine ⟨rfl, _, w, ρ, append_fit hu he hux hd src (by omega) (fun ad _ => rfl) (by simp), .gs0 _ _ _ _ _ _ _ _ _ _ hm0, ?_, ?_⟩
                    · simp only [hover, hset]; exact mem
                    · simp only [hover, hset]; exact .refl _ _ _ _
                  · cases h
                · rename_i hnfit
                  cases hsub : sub l off (0 * ei.size) with
                  | none => rw [hsub] at h; cases h
                  | some xs =>
                    rw [hsub] at h
                    simp only [Option.map_some, Option.some.injEq, Prod.mk.injEq] at h
                    obtain ⟨e1, e2⟩ := h
                    subst e1 e2
                    obtain ⟨s1, s2, s3⟩ := sub_spec hsub
                    have hxs : xs = [] := List.eq_nil_of_length_eq_zero (by simpa using s2)
                    subst hxs
                    obtain ⟨N', arr', w', hrun, hN, hasz, nb, rest, hrest⟩ := append_grow (ty := ty) hu he hux hd src base (by omega) hpos (by omega)
                    have hall : RVs ρ [] ([] ++ ys) ([] ++ vals) := by simpa using ry.noLp hc []
                    have hlen := hall.1
                    have hl2 := src.size
                    have hmul := Nat.mul_le_mul_right ei.size hN
                    have hres := mem.regen (c' := w.heap.size) (o' := 0) (l' := [] ++ ys) (hget_spec hb) hm0 (.inr ⟨rfl, nb.sz⟩) (fun x hx hne => nb.old x hx) nb.new (.inl (by simp)) (by simp at *; omega) (Lies.ofPrefix hall hrest) nb.os nb.out
                    exact ⟨rfl, _, w', _, hrun, .gs _ _ _ 0 _ _ _ _ _ 0 arr'.size N' (Inj.ins_self _ _ _ _) (Nat.le_refl _) hN (by simp) (by omega), hres.1, hres.2⟩
              · cases h
            · cases h
          · cases h
      | _ => simp [lenOf] at hm <;> simp at h

end
end Go.AM
