import Derived.Test.YtleddolmolkpfaaGreatAmStepB
set_option linter.unusedVariables false
set_option linter.unusedSimpArgs false
/-! Each instruction against the model's operation: the one theorem. -/
namespace Go.AM
section
variable {P : Program} {Γ : Glob} {ρ : Inj} {ls : List Nat} {s : St} {a : Act} {w : World} {Θ : Tab}

theorem run_places {fields : List Field} (h : ∀ f ∈ fields, ∃ i, P.info? f.type = some i) :
    (fields.toArray.mapM fun f => (Prod.mk f.offset <$> sizeOf f.type : Sem (Nat × Nat))).run P w = .ok (fields.map fun f => (f.offset, P.cellsOf f.type)).toArray w := by
  rw [Array.mapM_eq_mapM_toList, Sem.run_map]
  have key : ∀ fields : List Field, (∀ f ∈ fields, ∃ i, P.info? f.type = some i) →
      (fields.mapM fun f => (Prod.mk f.offset <$> sizeOf f.type : Sem (Nat × Nat))).run P w = .ok (fields.map fun f => (f.offset, P.cellsOf f.type)) w := by
    intro fields
    induction fields with
    | nil => intro _; rfl
    | cons f r ih =>
      intro h
      obtain ⟨i, hi⟩ := h f (by simp)
      rw [List.mapM_cons]
      simp only [Sem.run_bind, Sem.run_map, run_size hi, Result.andThen_ok, ih (fun f hf => h f (by simp [hf])), Sem.run_pure, List.map_cons]
      simp [Program.cellsOf, hi]
  rw [key fields h]
  rfl

theorem step_sound0 (tab : TabOK P Θ) {o : Oper} {i : I} (ht : trI0 Θ o.op = some i) (rel : Rel Γ ρ ls s a w) (gl : Bool) : StepOK P ρ ls s a w o (step Γ gl s i) := by
  obtain ⟨dst, op, type, pos, after, guard⟩ := o
  cases op <;> simp only [trI0] at ht <;> try (cases ht; done)
  case move x => injection ht with ht; subst ht; exact .pure rel.mem rfl (eval_sound rel x)
  case assign x => injection ht with ht; subst ht; exact .pure rel.mem rfl (eval_sound rel x)
  case pick c x y =>
    injection ht with ht
    subst ht
    have rc := eval_sound rel c
    simp only [step]
    split
    · rename_i t hc
      have e := bool_inv rc hc
      cases t
      · exact .pure rel.mem (exec_v (x := do pure (if ← asBool (a.eval c) then a.eval x else a.eval y)) (by simp [execOp]) (cv := a.eval y) (by simp [e, asBool])) (by simpa using eval_sound rel y)
      · exact .pure rel.mem (exec_v (x := do pure (if ← asBool (a.eval c) then a.eval x else a.eval y)) (by simp [execOp]) (cv := a.eval x) (by simp [e, asBool])) (by simpa using eval_sound rel x)
    · trivial
  case alloc e =>
    obtain ⟨ti, tf, rfl⟩ := table' tab ht
    obtain ⟨z, h1, h2, h3⟩ := tf.zero w ρ ls
    exact alloc_sound rel h2 (exec_v (by simp only [execOp] <;> rfl) (by simp [Instr.alloc, h1, newVar, newRow]; rfl))
  case box e x =>
    injection ht with ht
    subst ht
    have rx := eval_sound rel x
    simp only [step]
    split
    · rename_i cs hcs
      exact alloc_sound rel (cells_RV rx hcs) (exec_v (by simp only [execOp] <;> rfl) (by simp [Instr.box, newVar, newRow]; rfl))
    · trivial
  case build t parts =>
    obtain ⟨ti, tf, ht, _⟩ := table tab ht
    obtain ⟨i0, d, z, q1, q2, q3, q4, q5, q6, q7, q8, q9⟩ := tf.info
    have hz : RVs ρ ls ti.zero z.cells.toList := by rw [← q7]; exact RVs_map _
    have hzw : (zeroValue t).run P w = .ok z w := run_zero q1 q5
    split at ht
    · rename_i fs hk
      obtain ⟨fields, hu, hfs⟩ := tf.kd_struct hk
      split at ht
      case isFalse => cases ht
      rename_i hall
      cases hm : parts.toList.mapM fun (p : Nat × Operand) => (fs[p.1]?).bind fun f => (Θ f.2).map fun fi => (f.1, fi.size, trX p.2) with
      | none => simp [hm] at ht
      | some ps =>
        simp only [hm, Option.map_some, Option.some.injEq] at ht
        subst ht
        simp only [step]
        refine .ofO rel.mem (fun v hv => ?_)
        cases hf : fillA ti.zero (ps.map fun p => (p.1, p.2.1, s.eval Γ p.2.2)) with
        | none => simp [hf] at hv
        | some res =>
          simp only [hf, Option.map_some, Option.some.injEq] at hv
          subst hv
          obtain ⟨m1, m2⟩ := mapM_spec hm
          -- the places
          have hplaces : ∃ places : Array (Nat × Nat), (fields.mapM fun f => (Prod.mk f.offset <$> sizeOf f.type : Sem (Nat × Nat))).run P w = .ok places w ∧
              ∀ (i : Nat) (off : Nat) (ft : TypeId) (fi : TI), fs[i]? = some (off, ft) → Θ ft = some fi → places[i]? = some (off, fi.size) := by
            refine ⟨_, run_places (fields := fields.toList) (fun f hf => ?_), fun i off ft fi hi hfi => ?_⟩
            · rw [List.all_eq_true] at hall
              have := hall (f.offset, f.type) (by rw [hfs]; exact List.mem_map.2 ⟨f, hf, rfl⟩)
              cases hΘ : Θ f.type with
              | none => simp [hΘ] at this
              | some fi => obtain ⟨i1, g1, g2, _⟩ := (tab.tf hΘ).size; exact ⟨i1, g1⟩
            · rw [hfs, List.getElem?_map] at hi
              cases hff : fields.toList[i]? with
              | none => simp [hff] at hi
              | some f =>
                simp [hff] at hi
                obtain ⟨rfl, rfl⟩ := hi
                obtain ⟨i1, g1, g2, _⟩ := (tab.tf hfi).size
                rw [List.getElem?_toArray, List.getElem?_map, hff]
                simp [Program.cellsOf, g1, g2]
          obtain ⟨places, p1, p2⟩ := hplaces
          obtain ⟨arr', f1, f2⟩ := fill_ok (ρ := ρ) (ls := ls) (places[·]?) (ps.map fun p => (p.1, p.2.1, s.eval Γ p.2.2)) (parts.toList.map fun p => (p.1, a.eval p.2)) ti.zero z.cells res (by simp [m1]) (fun j p v hp hv => by
            rw [List.getElem?_map] at hp hv
            cases hq : parts.toList[j]? with
            | none => simp [hq] at hv
            | some q =>
              obtain ⟨y, y1, y2⟩ := m2 j q hq
              simp [hq, y1] at hp hv
              subst hp hv
              obtain ⟨f, g1, g2⟩ := bind2 y2
              cases hfi : Θ f.2 with
              | none => simp [hfi] at g2
              | some fi =>
                simp [hfi] at g2
                subst g2
                exact ⟨p2 _ f.1 f.2 fi g1 hfi, eval_sound rel q.2⟩) hz hf
          refine ⟨.agg arr', exec_v (by simp only [execOp] <;> rfl) ?_, .agg _ _ _ (by have := f2.1; simpa using this) (fun i x hx => by rw [← getD_toList]; exact f2.2 i x hx)⟩
          simp [Instr.build, hzw, run_underl hu, p1, f1]
    · rename_i n e hk
      obtain ⟨ei, he, rfl⟩ := table' tab ht
      simp only [step]
      refine .ofO rel.mem (fun v hv => ?_)
      cases hf : fillA ti.zero ((parts.toList.map fun p => (p.1 * ei.size, ei.size, trX p.2)).map fun p => (p.1, p.2.1, s.eval Γ p.2.2)) with
      | none => rw [hf] at hv; simp at hv
      | some res =>
        rw [hf] at hv
        simp only [Option.map_some, Option.some.injEq] at hv
        subst hv
        obtain ⟨arr', f1, f2⟩ := fill_ok (ρ := ρ) (ls := ls) (fun i => some (i * ei.size, ei.size)) ((parts.toList.map fun p => (p.1 * ei.size, ei.size, trX p.2)).map fun p => (p.1, p.2.1, s.eval Γ p.2.2)) (parts.toList.map fun p => (p.1, a.eval p.2)) ti.zero z.cells res (by simp) (fun j p v hp hv => by
          simp only [List.map_map, List.getElem?_map] at hp hv
          cases hq : parts.toList[j]? with
          | none => simp [hq] at hv
          | some q =>
            simp [hq] at hp hv
            subst hp hv
            exact ⟨rfl, eval_sound rel q.2⟩) hz hf
        refine ⟨.agg arr', exec_v (by simp only [execOp] <;> rfl) ?_, .agg _ _ _ (by have := f2.1; simpa using this) (fun i x hx => by rw [← getD_toList]; exact f2.2 i x hx)⟩
        simp [Instr.build, hzw, run_underl (tf.kd_arr hk), run_size' he, f1]
    · cases ht
  case buildSlice t len parts =>
    obtain ⟨e, ei, hu, he, ht⟩ := elem_table tab ht
    split at ht
    · rename_i hsz
      injection ht with ht
      subst ht
      simp only [step]
      split
      · rename_i cs hcs
        split
        · rename_i hn
          obtain ⟨arr, h1, h2⟩ := bsl_run (ρ := ρ) (ls := ls) (w := w) hu he (ps := (parts.toList.map fun p => (p.1, trX p.2)).map fun p => (p.1, s.eval Γ p.2)) (vs := parts.toList.map fun p => (p.1, a.eval p.2)) (by simp)
            (by simpa using part_list rel parts.toList) hsz (by simpa [Function.comp_def] using hcs)
          obtain ⟨ρ', g1, g2, g3⟩ := box_glob rel.mem (T := e) h2 hn
          refine .mk rfl (exec_v (by simp only [execOp] <;> rfl) (cv := .slice (some ⟨w.heap.size, 0, none⟩) len len) ?_) (.gs _ _ _ _ _ _ _ _ _ 0 arr.size len g3 (Nat.le_refl _) (Nat.le_refl _) (fun _ => rfl) ?_) g1 g2
          · have e1 : (parts.toList.map fun p => (p.1, a.eval p.2)).toArray = parts.map fun p => (p.1, a.eval p.2) := by apply Array.ext'; simp
            rw [e1] at h1
            exact h1
          · have hl := h2.1
            have hfl : ∀ (ps : List (Nat × Nat × AV)) (l r : List AV), fillA l ps = some r → r.length = l.length := by
              intro ps
              induction ps with
              | nil => intro l r h; simp [fillA] at h; rw [h]
              | cons p ps ih =>
                intro l r h
                obtain ⟨off, size, v⟩ := p
                simp only [fillA] at h
                split at h
                · split at h
                  · split at h
                    · rename_i hle
                      rw [ih _ _ h, over_length hle]
                    · cases h
                  · cases h
                · cases h
            have hl2 := hfl _ _ _ hcs
            have hzl : ei.zero.length = ei.size := by
              obtain ⟨z, z1, z2, z3⟩ := he.zero w ρ ls
              have := z2.1; simp at this; omega
            simp [hzl] at hl2
            simp at hl
            omega
        · trivial
      · trivial
    · cases ht
  case load t x =>
    obtain ⟨ti, tf, rfl⟩ := table' tab ht
    exact .ofO rel.mem (fun v hv => let ⟨cv, h1, h2⟩ := load_ok rel.mem tf (eval_sound rel x) hv; ⟨cv, exec_v (by simp only [execOp] <;> rfl) h1, h2⟩)
  case store t x y =>
    obtain ⟨ti, tf, rfl⟩ := table' tab ht
    simp only [step]
    split
    · rename_i cs hcs
      split
      · rename_i hl
        cases hs : s.store (s.eval Γ (trX x)) cs with
        | none => trivial
        | some s' =>
          have hr := cells_RV (eval_sound rel y) hcs
          obtain ⟨c, o, w', h1, h2, h3, h4, h5⟩ := store_mem (P := P) rel.mem (eval_sound rel x) hr hs
          have hl' := hr.1
          simp at hl'
          refine .skip h3 (exec_u (x := Instr.storeAt t (a.eval x) (a.eval y)) (by simp only [execOp]) ?_) h4 h5
          rw [h1]
          exact storeAt_run tf (by omega) h2
      · trivial
    · trivial
  case nilCheck x =>
    injection ht with ht
    subst ht
    simp only [step]
    split
    · rename_i hn
      exact .pure rel.mem (nilchk_run (eval_sound rel x) hn _ x rfl rfl) (eval_sound rel x)
    · trivial
  case binOp op t x y yt =>
    obtain ⟨ti, tf, ht, _⟩ := table tab ht
    obtain ⟨k, hk, ht⟩ := bind2 ht
    split at ht
    · cases ht
    · rename_i hc
      injection ht with ht
      subst ht
      refine .ofO rel.mem (fun v hv => ?_)
      obtain ⟨cv, h1, h2⟩ := bin_ok (w := w) tf hk (X := x) (Y := y) (fun e => by
        rcases Bool.eq_false_or_eq_true (Region.isConst x || Region.isConst y) with h | h
        · exact h
        · exact absurd ⟨e, by rw [h]; rfl⟩ hc) (eval_sound rel x) (eval_sound rel y) hv
      exact ⟨cv, exec_v (by simp only [execOp] <;> rfl) h1, h2⟩
  case unOp op t x =>
    injection ht with ht
    subst ht
    exact .ofO rel.mem (fun v hv => let ⟨cv, h1, h2⟩ := un_ok (P := P) (w := w) (eval_sound rel x) hv; ⟨cv, exec_v (by simp only [execOp] <;> rfl) h1, h2⟩)
  case convert src dst x =>
    obtain ⟨ai, af, ht, _⟩ := table tab ht
    obtain ⟨bi, bf, ht, _⟩ := table tab ht
    have rx := eval_sound rel x
    split at ht
    · rename_i k0 k h1 h2
      injection ht with ht
      subst ht
      simp only [step]
      split
      · rename_i k' n hx
        have e := int_inv rx hx
        exact .pure rel.mem (exec_v (by simp only [execOp] <;> rfl) (by simp [convert, run_underl (af.kd_int h1), run_underl (bf.kd_int h2), e, Conv.intToInt] <;> rfl)) (.int _ _ _)
      · trivial
    · rename_i h1 h2
      injection ht with ht
      subst ht
      simp only [step]
      split
      · rename_i v hx
        have e := str_inv rx hx
        exact .pure rel.mem (exec_v (by simp only [execOp] <;> rfl) (by simp [convert, run_underl (af.kd_str h1), run_underl (bf.kd_str h2), e] <;> rfl)) (.str _ _)
      · trivial
    · rename_i e h1 h2
      obtain ⟨ei, ef, ht, _⟩ := table tab ht
      split at ht
      · rename_i hk
        injection ht with ht
        subst ht
        simp only [step]
        split
        · rename_i v hx
          have ex := str_inv rx hx
          split
          · obtain ⟨cv, w', ρ', g1, g2, g3, g4⟩ := cvb_ok rel.mem (af.kd_str h1) (bf.kd_slice h2) (ef.kd_int hk) v
            exact .mk rfl (exec_v (x := convert src dst (a.eval x)) (by simp only [execOp]) (by rw [ex]; exact g1)) g2 g3 g4
          · trivial
        · trivial
      · cases ht
    · rename_i e h1 h2
      obtain ⟨ei, ef, ht, _⟩ := table tab ht
      split at ht
      · rename_i hk
        injection ht with ht
        subst ht
        simp only [step]
        refine .ofO rel.mem (fun v hv => ?_)
        cases hl : (s.sliceCells 1 (s.eval Γ (trX x))).bind bytesOfCells with
        | none => rw [hl] at hv; simp at hv
        | some l =>
          rw [hl] at hv
          simp at hv
          subst hv
          exact ⟨_, exec_v (by simp only [execOp] <;> rfl) (cvt_ok rel.mem (af.kd_slice h1) (ef.kd_int hk) (bf.kd_str h2) rx hl), .str _ _⟩
      · cases ht
    · cases ht
  case makeFunc fn first caps =>
    cases fn <;> simp only [] at ht <;> try (cases ht; done)
    rename_i f
    injection ht with ht
    subst ht
    have r1 := evals_sound rel first.toList
    have r2 := evals_sound rel caps.toList
    refine .pure rel.mem (exec_v (by simp only [execOp] <;> rfl) (cv := .func (.func f) (first.map a.eval) (caps.map a.eval)) (by simp [Instr.makeFunc])) (.fn _ _ _ _ _ _ ?_ ?_ (fun i x hx => ?_) (fun i x hx => ?_))
    · simp
    · simp
    · have := r1.2 i x (by simpa using hx); rw [← getD_toList]; simpa using this
    · have := r2.2 i x (by simpa using hx); rw [← getD_toList]; simpa using this
  case makeSlice t l c =>
    obtain ⟨e, ei, hu, he, ht⟩ := elem_table' tab ht
    subst ht
    simp only [step]
    split
    · rename_i k ln k' cp hl hc
      have el := int_inv (eval_sound rel l) hl
      have ec := int_inv (eval_sound rel c) hc
      unfold aMks
      split
      · rename_i hb
        obtain ⟨rfl, h0, hb⟩ := hb
        split
        · rename_i hz
          obtain ⟨arr, h1, h2⟩ := mks_run (w := w) (k := k) (k' := k') hu he h0 hb
          have hr := h2 ρ ls
          obtain ⟨ρ', g1, g2, g3⟩ := box_glob rel.mem (T := e) hr (by
            rw [List.all_eq_true] at *
            intro x hx
            obtain ⟨l, hl1, hl2⟩ := List.mem_flatten.1 hx
            rw [List.eq_of_mem_replicate hl1] at hl2
            exact hz x hl2)
          have hzl : ei.zero.length = ei.size := by
            obtain ⟨z, z1, z2, z3⟩ := he.zero w ρ ls
            have := z2.1; simp at this; omega
          have hlen := hr.1
          simp [hzl] at hlen
          refine .mk rfl (exec_v (x := Instr.makeSlice t (a.eval l) (a.eval c)) (by simp only [execOp]) (by rw [el, ec]; exact h1)) (.gs _ _ _ _ _ _ _ _ _ 0 arr.size _ g3 (Nat.le_refl _) (Nat.le_refl _) (fun _ => rfl) (by omega)) g1 g2
        · trivial
      · trivial
    · trivial
  case slice t x lo hi mx =>
    cases hsk : skOf Θ t with
    | none => simp [hsk] at ht
    | some k =>
      simp only [hsk, Option.map_some, Option.some.injEq] at ht
      subst ht
      simp only [step]
      split
      · rename_i l h m h1 h2 h3
        obtain ⟨o1, d1⟩ := bnd_OB rel h1
        have oh : OB (hi.map a.eval) h := by
          cases hi with
          | none => simp at h2; subst h2; trivial
          | some v =>
            simp only [Option.map_some] at h2
            cases hb : bnd Γ s 0 (some (trX v)) with
            | none => simp [hb] at h2
            | some n =>
              simp [hb] at h2
              subst h2
              exact (bnd_OB (lo := some v) rel hb).1
        have om : OB (mx.map a.eval) m := by
          cases mx with
          | none => simp at h3; subst h3; trivial
          | some v =>
            simp only [Option.map_some] at h3
            cases hb : bnd Γ s 0 (some (trX v)) with
            | none => simp [hb] at h3
            | some n =>
              simp [hb] at h3
              subst h3
              exact (bnd_OB (lo := some v) rel hb).1
        have el : (if lo.isSome then some l else none).getD 0 = l := by
          cases lo with
          | none => simp; exact (d1 rfl).symm
          | some _ => simp
        refine .ofO rel.mem (fun v hv => ?_)
        obtain ⟨cv, g1, g2⟩ := slice_ok (w := w) tab hsk (eval_sound rel x) o1 oh om (by rw [el]; exact hv)
        exact ⟨cv, exec_v (by simp only [execOp] <;> rfl) g1, g2⟩
      · trivial
  case fieldAddr t x f =>
    obtain ⟨ti, tf, ht, _⟩ := table tab ht
    split at ht
    · rename_i fs hk
      obtain ⟨p, hp, ht⟩ := bind2 ht
      obtain ⟨fi, ff, ht, _⟩ := table tab ht
      split at ht
      · cases ht
      · rename_i h0
        injection ht with ht
        subst ht
        refine .ofO rel.mem (fun v hv => ?_)
        obtain ⟨c, o, g1, g2⟩ := fld_ok (eval_sound rel x) hv
        exact ⟨_, exec_v (x := Instr.fieldAt t (a.eval x) f) (by simp only [execOp]) (by rw [g1]; exact fieldAt_ok tf hk hp ff h0), g2⟩
    · cases ht
  case indexAddr t x ix =>
    obtain ⟨ti, tf, ht, _⟩ := table tab ht
    split at ht
    · rename_i e hk
      obtain ⟨ei, ef, rfl⟩ := table' tab ht
      simp only [step]
      split
      · rename_i k n hn
        have en := int_inv (eval_sound rel ix) hn
        refine .ofO rel.mem (fun v hv => ?_)
        obtain ⟨cv, g1, g2⟩ := idxs_ok (P := P) rel.mem tf hk ef (eval_sound rel x) (k := k) (w := w) hv
        exact ⟨cv, exec_v (x := Instr.indexAt t (a.eval x) (a.eval ix)) (by simp only [execOp]) (by rw [en]; exact g1), g2⟩
      · trivial
    · rename_i n e hk
      obtain ⟨ei, ef, rfl⟩ := table' tab ht
      simp only [step]
      split
      · rename_i k n hn
        have en := int_inv (eval_sound rel ix) hn
        refine .ofO rel.mem (fun v hv => ?_)
        obtain ⟨cv, g1, g2⟩ := idxa_ok (P := P) tf hk ef (eval_sound rel x) (k := k) (w := w) hv
        exact ⟨cv, exec_v (x := Instr.indexAt t (a.eval x) (a.eval ix)) (by simp only [execOp]) (by rw [en]; exact g1), g2⟩
      · trivial
    · cases ht
  case index t x ix =>
    obtain ⟨ti, tf, ht, _⟩ := table tab ht
    have rx := eval_sound rel x
    have ri := eval_sound rel ix
    split at ht
    · rename_i hk
      injection ht with ht
      subst ht
      simp only [step]
      split
      · rename_i v k n hx hn
        have ex := str_inv rx hx
        have en := int_inv ri hn
        refine .ofO rel.mem (fun u hu => ?_)
        split at hu
        · rename_i h0
          cases hb : v[n.toNat]? with
          | none => simp [hb] at hu
          | some b =>
            simp [hb] at hu
            subst hu
            exact ⟨_, exec_v (x := Instr.index t (a.eval x) (a.eval ix)) (by simp only [execOp]) (by rw [ex, en]; simp [Instr.index, asIntOf, run_underl (tf.kd_str hk), h0, hb] <;> rfl), .int _ _ _⟩
        · cases hu
      · trivial
    · rename_i n e hk
      obtain ⟨ei, ef, rfl⟩ := table' tab ht
      simp only [step]
      split
      · rename_i cs k j hx hn
        have en := int_inv ri hn
        refine .ofO rel.mem (fun u hu => ?_)
        split at hu
        · rename_i h0
          rw [hx] at rx
          cases hv : a.eval x <;> rw [hv] at rx <;> cases rx
          rename_i vs h1 r
          obtain ⟨cv, g1, g2⟩ := aggX (P := P) (w := w) ef (ρ := ρ) (ls := ls) (cs := cs) (vs := vs) ⟨by simpa using h1, fun i x hx => by rw [getD_toList]; exact r i x hx⟩ hu
          exact ⟨cv, exec_v (x := Instr.index t (a.eval x) (a.eval ix)) (by simp only [execOp]) (by rw [hv, en]; simp [Instr.index, asIntOf, run_underl (tf.kd_arr hk), h0, run_size' ef, g1]), g2⟩
        · cases hu
      · trivial
    · cases ht
  case extract x i =>
    injection ht with ht
    subst ht
    simp only [step]
    split
    · rename_i vs hx
      refine .ofO rel.mem (fun v hv => ?_)
      obtain ⟨cv, g1, g2⟩ := tupX (P := P) (w := w) (eval_sound rel x) hx hv
      exact ⟨cv, exec_v (by simp only [execOp] <;> rfl) g1, g2⟩
    · trivial
  case call c => exact call_sound tab rfl ht rel gl

theorem step_sound (tab : TabOK P Θ) {o : Oper} {i : I} (ht : trI Θ o.op = some i) (rel : Rel Γ ρ ls s a w) (gl : Bool) : StepOK P ρ ls s a w o (step Γ gl s i) := by
  unfold trI at ht
  cases h0 : trI0 Θ o.op with
  | none => rw [h0] at ht; simp at ht; subst ht; simp only [step]; trivial
  | some j => rw [h0] at ht; simp at ht; subst ht; exact step_sound0 tab h0 rel gl

end
end Go.AM
