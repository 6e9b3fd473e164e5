import Derived.Test.YtleddolmolkpfaaGreatAmMem
set_option linter.unusedVariables false
set_option linter.unusedSimpArgs false
/-! Each instruction against the model's operation: the pure ones. -/
namespace Go.AM

def tkOf : TypeDesc → TK
  | .bool => .bool | .int k => .int k | .string => .str | .pointer e => .ptr e | .slice e => .slice e | .array n e => .arr n e
  | .struct fs => .strct (fs.toList.map fun f => (f.offset, f.type)) | .interface _ => .iface | .func _ _ _ => .fn | _ => .other

def tiOf (P : Program) (t : TypeId) : Option (TK × Nat × Nat × List AV × Bool) :=
  (P.info? t).bind fun i => (P.underlying t).bind fun d => i.zero.map fun z =>
    (tkOf d, i.size, i.bytes, z.cells.toList.map avOf1, (z.cells.size == i.size) && z.cells.toList.all (·.oneCell'))

/-- '==' of two values of a plain struct type. -/
def PlainEq (P : Program) (t : TypeId) (ks : List TK) : Prop :=
  P.eqGuardType P.depth t = false ∧ ∀ (w : World) (ρ : Inj) (ls : List Nat) (as bs : List AV) (xs ys : Array Value) (r : Bool),
    RVs ρ ls as xs.toList → RVs ρ ls bs ys.toList → aggEq ks as bs = some r → (Op.equal t (.agg xs) (.agg ys)).run P w = .ok r w

def TabOK (P : Program) (Θ : Tab) : Prop := ∀ t ti, Θ t = some ti → tiOf P t = some (ti.kd, ti.size, ti.bytes, ti.zero, true) ∧ ∀ ks, ti.plainEq = some ks → PlainEq P t ks

/-- What the table says of a type. -/
structure TF (P : Program) (t : TypeId) (ti : TI) : Prop where
  info : ∃ i d z, P.info? t = some i ∧ P.underlying t = some d ∧ i.size = ti.size ∧ i.bytes = ti.bytes ∧ i.zero = some z ∧ tkOf d = ti.kd ∧
    z.cells.toList.map avOf1 = ti.zero ∧ z.cells.size = ti.size ∧ (∀ v ∈ z.cells.toList, v.oneCell' = true)
  eq : ∀ ks, ti.plainEq = some ks → PlainEq P t ks

theorem TabOK.tf {P Θ t ti} (h : TabOK P Θ) (e : Θ t = some ti) : TF P t ti := by
  obtain ⟨h1, h2⟩ := h t ti e
  refine ⟨?_, h2⟩
  unfold tiOf at h1
  cases hi : P.info? t with
  | none => simp [hi] at h1
  | some i =>
    cases hd : P.underlying t with
    | none => simp [hi, hd] at h1
    | some d =>
      cases hz : i.zero with
      | none => simp [hi, hd, hz] at h1
      | some z =>
        simp only [hi, hd, hz, Option.bind_some, Option.map_some, Option.some.injEq, Prod.mk.injEq, Bool.and_eq_true, beq_iff_eq, List.all_eq_true] at h1
        obtain ⟨a, b, c, d', e', f⟩ := h1
        exact ⟨i, d, z, rfl, rfl, b, c, hz, a, d', by omega, f⟩

section
variable {P : Program} {Γ : Glob} {ρ : Inj} {ls : List Nat} {s : St} {a : Act} {w : World}

theorem run_typeInfo {t : TypeId} {i : TypeInfo} (h : P.info? t = some i) : (typeInfo t).run P w = .ok i w := by simp [typeInfo, h]
theorem run_underl {t : TypeId} {d : TypeDesc} (h : P.underlying t = some d) : (underlying t).run P w = .ok d w := by simp [underlying, h]
theorem run_size {t : TypeId} {i : TypeInfo} (h : P.info? t = some i) : (sizeOf t).run P w = .ok i.size w := by simp [sizeOf, run_typeInfo h]
theorem run_zero {t : TypeId} {i : TypeInfo} {z : Value} (h : P.info? t = some i) (hz : i.zero = some z) : (zeroValue t).run P w = .ok z w := by simp [zeroValue, run_typeInfo h, hz]

theorem RV_avOf1 (v : Value) : RV ρ ls (avOf1 v) v := by
  unfold avOf1
  split <;> first | exact .bool _ _ | exact .int _ _ _ | exact .str _ _ | exact .nilp _ | exact .nils _ | exact .nilf _ | exact .opq _ _

theorem getD_toList (vs : Array Value) (i : Nat) (d : Value) : vs.toList.getD i d = vs.getD i d := by
  simp

theorem RVs_map (vs : List Value) : RVs ρ ls (vs.map avOf1) vs := by
  refine ⟨by simp, fun i x hx => ?_⟩
  rw [List.getElem?_map] at hx
  cases hv : vs[i]? with
  | none => simp [hv] at hx
  | some v =>
    simp [hv] at hx
    subst hx
    rw [List.getD_eq_getElem?_getD, hv]
    exact RV_avOf1 v

theorem RV_avOf (v : Value) : RV ρ ls (avOf v) v := by
  unfold avOf
  split
  · rename_i cs
    have h := RVs_map (ρ := ρ) (ls := ls) cs.toList
    exact .agg _ _ _ (by simp) (fun i x hx => by rw [← getD_toList]; exact h.2 i x hx)
  · exact RV_avOf1 v

theorem eval_sound (rel : Rel Γ ρ ls s a w) (x : Operand) : RV ρ ls (s.eval Γ (trX x)) (a.eval x) := by
  cases x with
  | tmp t =>
    simp only [trX, St.eval, Act.eval]
    rw [List.getD_eq_getElem?_getD]
    cases h : s.env[t]? with
    | none => exact .any _ _
    | some x => exact rel.env t x h
  | const v => exact RV_avOf v
  | global g =>
    simp only [trX, St.eval, Act.eval]
    split
    · rename_i cs hg
      obtain ⟨arr, h1, h2⟩ := rel.glob g cs hg
      refine .ip _ false cs g 0 (fun j => arr.getD (0 + j) default) (fun j x hx => ?_) (fun j x hx => ?_)
      · obtain ⟨y, hy, _⟩ := h2 j x hx
        exact ⟨arr, h1, by simp at hy ⊢; simp [hy]⟩
      · obtain ⟨y, hy, r⟩ := h2 j x hx
        simp at hy ⊢
        simpa [hy] using r
    · exact .any _ _
  | func f => exact .fn _ f [] [] #[] #[] rfl rfl (fun i x h => by simp at h) (fun i x h => by simp at h)

theorem evals_sound (rel : Rel Γ ρ ls s a w) (xs : List Operand) : RVs ρ ls ((xs.map trX).map (s.eval Γ)) (xs.map a.eval) := by
  refine ⟨by simp, fun i x hx => ?_⟩
  simp only [List.map_map, List.getElem?_map] at hx
  cases h : xs[i]? with
  | none => simp [h] at hx
  | some o =>
    simp [h] at hx
    subst hx
    rw [List.getD_eq_getElem?_getD, List.getElem?_map, h]
    exact eval_sound rel o

theorem cells_RV {x : AV} {v : Value} {cs : List AV} (h : RV ρ ls x v) (hc : cellsOf x = some cs) : RVs ρ ls cs v.cells.toList := by
  have one : ∀ {x : AV} {v : Value}, RV ρ ls x v → RVs ρ ls [x] #[v].toList := fun r => ⟨rfl, fun i y hy => by
    cases i with
    | zero => simp at hy; subst hy; exact r
    | succ i => simp at hy⟩
  have h' := h
  cases h with
  | any => simp [cellsOf] at hc
  | agg _ _ vs h1 r =>
    simp [cellsOf] at hc
    subst hc
    exact ⟨by simp [Value.cells, h1], fun i x hx => by simp only [Value.cells]; rw [getD_toList]; exact r i x hx⟩
  | tup => simp [cellsOf] at hc
  | opq v =>
    simp only [cellsOf] at hc
    split at hc
    · rename_i h1
      injection hc with hc
      subst hc
      have e : v.cells = #[v] := by cases v <;> first | rfl | (simp [Value.oneCell'] at h1)
      rw [e]
      exact one (.opq _ _)
    · cases hc
  | _ =>
    simp only [cellsOf, Option.some.injEq] at hc
    subst hc
    exact one h'

/-! ### Operations -/

/-- What one operation comes to. -/
def StepOK (P : Program) (ρ : Inj) (ls : List Nat) (s : St) (a : Act) (w : World) (o : Oper) : AR → Prop
  | .val v s' => s'.env = s.env ∧ ∃ nx cv w' ρ' ls', (execOp a.eval o).run P w = .ok nx w' ∧ (nx = .value cv ∨ nx = .skip ∧ cv = undef) ∧
      RV ρ' ls' v cv ∧ RH ρ' ls' s'.loc s'.heap w' ∧ Evo ρ ls s.heap w ρ' ls' s'.heap w'
  | .call f args => ∃ cargs : List Value, (execOp a.eval o).run P w = (callFunc f cargs.toArray).run P w ∧ RVs ρ ls args cargs
  | .stuck => True

theorem StepOK.pure {o : Oper} {v : AV} {cv : Value} (mem : RH ρ ls s.loc s.heap w) (h : (execOp a.eval o).run P w = .ok (.value cv) w) (r : RV ρ ls v cv) : StepOK P ρ ls s a w o (.val v s) :=
  ⟨rfl, _, cv, w, ρ, ls, h, .inl rfl, r, mem, .refl _ _ _ _⟩

theorem StepOK.ofO {o : Oper} {x : Option AV} (mem : RH ρ ls s.loc s.heap w) (h : ∀ v, x = some v → ∃ cv, (execOp a.eval o).run P w = .ok (.value cv) w ∧ RV ρ ls v cv) :
    StepOK P ρ ls s a w o (AR.ofO s x) := by
  cases x with
  | none => trivial
  | some v => obtain ⟨cv, h1, h2⟩ := h v rfl; exact .pure mem h1 h2

/-- The concrete pointer and the cells at it. -/
theorem cells_sound (mem : RH ρ ls s.loc s.heap w) {x : AV} {v : Value} {n : Nat} {cs : List AV} (r : RV ρ ls x v) (h : s.cells x n = some cs) :
    ∃ c o vals, v = .pointer (some ⟨c, o, none⟩) ∧ vals.length = n ∧ RVs ρ ls cs vals ∧ ∀ (j : Nat) (u : Value), vals[j]? = some u → w.cell? ⟨c, o + j, none⟩ = some u := by
  cases r with
  | lp _ i off c hl =>
    simp only [St.cells] at h
    cases hL : s.loc[i]? with
    | none => simp [hL] at h
    | some l =>
      simp only [hL, Option.bind_some] at h
      obtain ⟨h1, h2, h3⟩ := sub_spec h
      obtain ⟨c', arr, T, fr, e1, e2, e3, e4, e5⟩ := mem.lp i l hL
      rw [hl] at e1
      injection e1 with e1
      subst e1
      refine ⟨c, off, (arr.toList.drop off).take n, rfl, by simp; omega, ⟨by simp; omega, fun j x hx => ?_⟩, fun j u hu => ?_⟩
      · have hj : j < n := by have := getElem?_lt hx; omega
        rw [h3 j hj] at hx
        obtain ⟨y, hy, ry⟩ := e5 _ x hx
        rw [List.getD_eq_getElem?_getD, List.getElem?_take, if_pos hj, List.getElem?_drop]
        simp at hy
        simp [hy, ry]
      · rw [cell_of e2]
        have hj : j < n := by have := getElem?_lt hu; simp at this; omega
        rw [List.getElem?_take, if_pos hj, List.getElem?_drop] at hu
        simpa using hu
  | gp _ b g off c o n' hm =>
    simp only [St.cells] at h
    cases hb : hget s.heap b with
    | none => simp [hb] at h
    | some e =>
      obtain ⟨g', l⟩ := e
      simp only [hb, Option.bind_some] at h
      split at h
      · rename_i hg
        have hg' : g' = g := hg
        subst hg'
        obtain ⟨h1, h2, h3⟩ := sub_spec h
        obtain ⟨c', o', n'', arr, T, fr, e1, e2, e3, e4, e5, e6⟩ := mem.hp b g' l (hget_spec hb)
        rw [hm] at e1
        injection e1 with e1
        injection e1 with e1 e1'
        injection e1' with e1' e1''
        subst e1 e1' e1''
        have h1' : off + n ≤ l.length := h1
        refine ⟨c, o + off, (arr.toList.drop (o + off)).take n, rfl, by simp; omega, ⟨by simp; omega, fun j x hx => ?_⟩, fun j u hu => ?_⟩
        · have hj : j < n := by have := getElem?_lt hx; omega
          rw [h3 j hj] at hx
          obtain ⟨y, hy, ry⟩ := e6 _ x hx
          rw [List.getD_eq_getElem?_getD, List.getElem?_take, if_pos hj, List.getElem?_drop]
          rw [← Nat.add_assoc] at hy
          rw [show arr.toList[o + off + j]? = some y from by simpa using hy]
          exact ry.mono (.refl _) (.nil _)
        · rw [cell_of e2]
          have hj : j < n := by have := getElem?_lt hu; simp at this; omega
          rw [List.getElem?_take, if_pos hj, List.getElem?_drop] at hu
          simpa using hu
      · cases h
  | ip _ β l c o f hi ri =>
    simp only [St.cells] at h
    obtain ⟨h1, h2, h3⟩ := sub_spec h
    refine ⟨c, o, (List.range n).map f, rfl, by simp, ⟨by simp; omega, fun j x hx => ?_⟩, fun j u hu => ?_⟩
    · have hj : j < n := by have := getElem?_lt hx; omega
      rw [h3 j hj, Nat.zero_add] at hx
      simp [hj]
      exact (ri j x hx).mono (.refl _) (.nil _)
    · have hj : j < n := by have := getElem?_lt hu; simp at this; omega
      simp [hj] at hu
      subst hu
      obtain ⟨arr, e1, e2⟩ := hi j l[j] (List.getElem?_eq_getElem (by omega))
      obtain ⟨T, fr, e3⟩ := mem.im β c arr e1
      rw [cell_of e3]; exact e2
  | _ => simp [St.cells] at h

end
end Go.AM
