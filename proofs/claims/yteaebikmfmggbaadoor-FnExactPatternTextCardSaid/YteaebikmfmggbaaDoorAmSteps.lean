import Derived.Test.YteaebikmfmggbaaDoorAmMem
import Derived.Laws.BytesString
set_option linter.unusedVariables false
set_option linter.unusedSimpArgs false
namespace Go.AM
def tkOf : TypeDesc → TK
  | .bool => .bool | .int k => .int k | .string => .str | .pointer e => .ptr e | .slice e => .slice e | .array n e => .arr n e
  | .struct fs => .strct (fs.toList.map fun f => (f.offset, f.type)) | .interface _ => .iface | .func _ _ _ => .fn | _ => .other
def tiOf (P : Program) (t : TypeId) : Option (TK × Nat × Nat × List AV × Bool) :=
  (P.info? t).bind fun i => (P.underlying t).bind fun d => i.zero.map fun z =>
    (tkOf d, i.size, i.bytes, z.cells.toList.map avOf1, (z.cells.size == i.size) && z.cells.toList.all (·.oneCell'))
def PlainEq (P : Program) (t : TypeId) (ks : List TK) : Prop :=
  P.eqGuardType P.depth t = false ∧ ∀ (w : World) (ρ : Inj) (ls : List Nat) (as bs : List AV) (xs ys : Array Value) (r : Bool),
    RVs ρ ls as xs.toList → RVs ρ ls bs ys.toList → aggEq ks as bs = some r → (Op.equal t (.agg xs) (.agg ys)).run P w = .ok r w
def TabOK (P : Program) (Θ : Tab) : Prop := ∀ t ti, Θ t = some ti → tiOf P t = some (ti.kd, ti.size, ti.bytes, ti.zero, true) ∧ ∀ ks, ti.plainEq = some ks → PlainEq P t ks
structure TF (P : Program) (t : TypeId) (ti : TI) : Prop where
  info : ∃ i d z, P.info? t = some i ∧ P.underlying t = some d ∧ i.size = ti.size ∧ i.bytes = ti.bytes ∧ i.zero = some z ∧ tkOf d = ti.kd ∧
    z.cells.toList.map avOf1 = ti.zero ∧ z.cells.size = ti.size ∧ (∀ v ∈ z.cells.toList, v.oneCell' = true)
  eq : ∀ ks, ti.plainEq = some ks → PlainEq P t ks
theorem TabOK.tf {P Θ t ti} (h : TabOK P Θ) (e : Θ t = some ti) : TF P t ti := by
  obtain ⟨h1, h2⟩ := h t ti e
  refine ⟨?_, h2⟩
  unfold tiOf at h1
  cases hi : P.info? t with
  | none => simp [hi] at h1
  | some i =>
    cases hd : P.underlying t with
    | none => simp [hi, hd] at h1
    | some d =>
      cases hz : i.zero with
      | none => simp [hi, hd, hz] at h1
      | some z =>
        simp only [hi, hd, hz, Option.bind_some, Option.map_some, Option.some.injEq, Prod.mk.injEq, Bool.and_eq_true, beq_iff_eq, List.all_eq_true] at h1
        obtain ⟨a, b, c, d', e', f⟩ := h1
        exact ⟨i, d, z, rfl, rfl, b, c, hz, a, d', by omega, f⟩
section
variable {P : Program} {Γ : Glob} {ρ : Inj} {ls : List Nat} {s : St} {a : Act} {w : World}
theorem run_typeInfo {t : TypeId} {i : TypeInfo} (h : P.info? t = some i) : (typeInfo t).run P w = .ok i w := by simp [typeInfo, h]
theorem run_underl {t : TypeId} {d : TypeDesc} (h : P.underlying t = some d) : (underlying t).run P w = .ok d w := by simp [underlying, h]
theorem run_size {t : TypeId} {i : TypeInfo} (h : P.info? t = some i) : (sizeOf t).run P w = .ok i.size w := by simp [sizeOf, run_typeInfo h]
theorem run_zero {t : TypeId} {i : TypeInfo} {z : Value} (h : P.info? t = some i) (hz : i.zero = some z) : (zeroValue t).run P w = .ok z w := by simp [zeroValue, run_typeInfo h, hz]
theorem RV_avOf1 (v : Value) : RV ρ ls (avOf1 v) v := by
  unfold avOf1
  split <;> first | exact .bool _ _ | exact .int _ _ _ | exact .str _ _ | exact .nilp _ | exact .nils _ | exact .nilf _ | exact .opq _ _
theorem getD_toList (vs : Array Value) (i : Nat) (d : Value) : vs.toList.getD i d = vs.getD i d := by
  simp
theorem RVs_map (vs : List Value) : RVs ρ ls (vs.map avOf1) vs := by
  refine ⟨by simp, fun i x hx => ?_⟩
  rw [List.getElem?_map] at hx
  cases hv : vs[i]? with
  | none => simp [hv] at hx
  | some v =>
    simp [hv] at hx
    subst hx
    rw [List.getD_eq_getElem?_getD, hv]
    exact RV_avOf1 v
theorem RV_avOf (v : Value) : RV ρ ls (avOf v) v := by
  unfold avOf
  split
  · rename_i cs
    have h := RVs_map (ρ := ρ) (ls := ls) cs.toList
    exact .agg _ _ _ (by simp) (fun i x hx => by rw [← getD_toList]; exact h.2 i x hx)
  · exact RV_avOf1 v
theorem eval_sound (rel : Rel Γ ρ ls s a w) (x : Operand) : RV ρ ls (s.eval Γ (trX x)) (a.eval x) := by
  cases x with
  | tmp t =>
    simp only [trX, St.eval, Act.eval]
    rw [List.getD_eq_getElem?_getD]
    cases h : s.env[t]? with
    | none => exact .any _ _
    | some x => exact rel.env t x h
  | const v => exact RV_avOf v
  | global g =>
    simp only [trX, St.eval, Act.eval]
    split
    · rename_i cs hg
      obtain ⟨arr, h1, h2, _⟩ := rel.glob g cs hg
      refine .ip _ false cs g 0 (fun j => arr.getD (0 + j) default) (fun j x hx => ?_) (fun j x hx => ?_)
      · obtain ⟨y, hy, _⟩ := h2 j x hx
        exact ⟨arr, h1, by simp at hy ⊢; simp [hy]⟩
      · obtain ⟨y, hy, r⟩ := h2 j x hx
        simp at hy ⊢
        simpa [hy] using r
    · exact .any _ _
  | func f => exact .fn _ f [] [] #[] #[] rfl rfl (fun i x h => by simp at h) (fun i x h => by simp at h)
theorem evals_sound (rel : Rel Γ ρ ls s a w) (xs : List Operand) : RVs ρ ls ((xs.map trX).map (s.eval Γ)) (xs.map a.eval) := by
  refine ⟨by simp, fun i x hx => ?_⟩
  simp only [List.map_map, List.getElem?_map] at hx
  cases h : xs[i]? with
  | none => simp [h] at hx
  | some o =>
    simp [h] at hx
    subst hx
    rw [List.getD_eq_getElem?_getD, List.getElem?_map, h]
    exact eval_sound rel o
theorem cells_RV {x : AV} {v : Value} {cs : List AV} (h : RV ρ ls x v) (hc : cellsOf x = some cs) : RVs ρ ls cs v.cells.toList := by
  have one : ∀ {x : AV} {v : Value}, RV ρ ls x v → RVs ρ ls [x] #[v].toList := fun r => ⟨rfl, fun i y hy => by
    cases i with
    | zero => simp at hy; subst hy; exact r
    | succ i => simp at hy⟩
  have h' := h
  cases h with
  | any => simp [cellsOf] at hc
  | agg _ _ vs h1 r =>
    simp [cellsOf] at hc
    subst hc
    exact ⟨by simp [Value.cells, h1], fun i x hx => by simp only [Value.cells]; rw [getD_toList]; exact r i x hx⟩
  | tup => simp [cellsOf] at hc
  | opq v =>
    simp only [cellsOf] at hc
    split at hc
    · rename_i h1
      injection hc with hc
      subst hc
      have e : v.cells = #[v] := by cases v <;> first | rfl | (simp [Value.oneCell'] at h1)
      rw [e]
      exact one (.opq _ _)
    · cases hc
  | _ =>
    simp only [cellsOf, Option.some.injEq] at hc
    subst hc
    exact one h'
def StepOK (P : Program) (ρ : Inj) (ls : List Nat) (s : St) (a : Act) (w : World) (o : Oper) : AR → Prop
  | .val v s' => s'.env = s.env ∧ ∃ nx cv w' ρ' ls', (execOp a.eval o).run P w = .ok nx w' ∧ (nx = .value cv ∨ nx = .skip ∧ cv = undef) ∧
      RV ρ' ls' v cv ∧ RH ρ' ls' s'.loc s'.heap w' ∧ Evo ρ ls s.heap w ρ' ls' s'.heap w'
  | .call f args => ∃ cargs : List Value, (execOp a.eval o).run P w = (callFunc f cargs.toArray).run P w ∧ RVs ρ ls args cargs
  | .stuck => True
theorem StepOK.pure {o : Oper} {v : AV} {cv : Value} (mem : RH ρ ls s.loc s.heap w) (h : (execOp a.eval o).run P w = .ok (.value cv) w) (r : RV ρ ls v cv) : StepOK P ρ ls s a w o (.val v s) :=
  ⟨rfl, _, cv, w, ρ, ls, h, .inl rfl, r, mem, .refl _ _ _ _⟩
theorem StepOK.ofO {o : Oper} {x : Option AV} (mem : RH ρ ls s.loc s.heap w) (h : ∀ v, x = some v → ∃ cv, (execOp a.eval o).run P w = .ok (.value cv) w ∧ RV ρ ls v cv) :
    StepOK P ρ ls s a w o (AR.ofO s x) := by
  cases x with
  | none => trivial
  | some v => obtain ⟨cv, h1, h2⟩ := h v rfl; exact .pure mem h1 h2
theorem cells_sound (mem : RH ρ ls s.loc s.heap w) {x : AV} {v : Value} {n : Nat} {cs : List AV} (r : RV ρ ls x v) (h : s.cells x n = some cs) :
    ∃ c o vals, v = .pointer (some ⟨c, o, none⟩) ∧ vals.length = n ∧ RVs ρ ls cs vals ∧ ∀ (j : Nat) (u : Value), vals[j]? = some u → w.cell? ⟨c, o + j, none⟩ = some u := by
  cases r with
  | lp _ i off c hl =>
    simp only [St.cells] at h
    cases hL : s.loc[i]? with
    | none => simp [hL] at h
    | some l =>
      simp only [hL, Option.bind_some] at h
      obtain ⟨h1, h2, h3⟩ := sub_spec h
      obtain ⟨c', arr, T, fr, e1, e2, e3, e4, e5⟩ := mem.lp i l hL
      rw [hl] at e1
      injection e1 with e1
      subst e1
      refine ⟨c, off, (arr.toList.drop off).take n, rfl, by simp; omega, ⟨by simp; omega, fun j x hx => ?_⟩, fun j u hu => ?_⟩
      · have hj : j < n := by have := getElem?_lt hx; omega
        rw [h3 j hj] at hx
        obtain ⟨y, hy, ry⟩ := e5 _ x hx
        rw [List.getD_eq_getElem?_getD, List.getElem?_take, if_pos hj, List.getElem?_drop]
        simp at hy
        simp [hy, ry]
      · rw [cell_of e2]
        have hj : j < n := by have := getElem?_lt hu; simp at this; omega
        rw [List.getElem?_take, if_pos hj, List.getElem?_drop] at hu
        simpa using hu
  | gp _ b g off c o n' hm =>
    simp only [St.cells] at h
    cases hb : hget s.heap b with
    | none => simp [hb] at h
    | some e =>
      obtain ⟨g', l⟩ := e
      simp only [hb, Option.bind_some] at h
      split at h
      · rename_i hg
        have hg' : g' = g := hg
        subst hg'
        obtain ⟨h1, h2, h3⟩ := sub_spec h
        obtain ⟨c', o', n'', arr, T, fr, e1, e2, e3, e4, e5, e6⟩ := mem.hp b g' l (hget_spec hb)
        rw [hm] at e1
        injection e1 with e1
        injection e1 with e1 e1'
        injection e1' with e1' e1''
        subst e1 e1' e1''
        have h1' : off + n ≤ l.length := h1
        refine ⟨c, o + off, (arr.toList.drop (o + off)).take n, rfl, by simp; omega, ⟨by simp; omega, fun j x hx => ?_⟩, fun j u hu => ?_⟩
        · have hj : j < n := by have := getElem?_lt hx; omega
          rw [h3 j hj] at hx
          obtain ⟨y, hy, ry⟩ := e6 _ x hx
          rw [List.getD_eq_getElem?_getD, List.getElem?_take, if_pos hj, List.getElem?_drop]
          rw [← Nat.add_assoc] at hy
          rw [show arr.toList[o + off + j]? = some y from by simpa using hy]
          exact ry.mono (.refl _) (.nil _)
        · rw [cell_of e2]
          have hj : j < n := by have := getElem?_lt hu; simp at this; omega
          rw [List.getElem?_take, if_pos hj, List.getElem?_drop] at hu
          simpa using hu
      · cases h
  | ip _ β l c o f hi ri =>
    simp only [St.cells] at h
    obtain ⟨h1, h2, h3⟩ := sub_spec h
    refine ⟨c, o, (List.range n).map f, rfl, by simp, ⟨by simp; omega, fun j x hx => ?_⟩, fun j u hu => ?_⟩
    · have hj : j < n := by have := getElem?_lt hx; omega
      rw [h3 j hj, Nat.zero_add] at hx
      simp [hj]
      exact (ri j x hx).mono (.refl _) (.nil _)
    · have hj : j < n := by have := getElem?_lt hu; simp at this; omega
      simp [hj] at hu
      subst hu
      obtain ⟨arr, e1, e2⟩ := hi j l[j] (List.getElem?_eq_getElem (by omega))
      obtain ⟨T, fr, e3⟩ := mem.im β c arr e1
      rw [cell_of e3]; exact e2
  | _ => simp [St.cells] at h
end
end Go.AM

namespace Go.AM
section
variable {P : Program} {Γ : Glob} {ρ : Inj} {ls : List Nat} {s : St} {a : Act} {w : World}
theorem run_isAgg {t : TypeId} {ti : TI} (h : TF P t ti) : (isAgg t).run P w = .ok ti.isAgg w := by
  obtain ⟨i, d, z, h1, h2, h3, h4, h5, h6, _⟩ := h.info
  simp only [isAgg, Sem.run_bind, run_underl h2, Result.andThen_ok, TI.isAgg, ← h6]
  cases d <;> rfl
theorem TF.kd_struct {t : TypeId} {ti : TI} (h : TF P t ti) {fs} (e : ti.kd = .strct fs) : ∃ fields : Array Field, P.underlying t = some (.struct fields) ∧ fs = fields.toList.map (fun f => (f.offset, f.type)) := by
  obtain ⟨i, d, z, h1, h2, h3, h4, h5, h6, _⟩ := h.info
  rw [e] at h6
  cases d <;> simp [tkOf] at h6
  exact ⟨_, h2, h6.symm⟩
theorem TF.kd_slice {t : TypeId} {ti : TI} (h : TF P t ti) {e : TypeId} (he : ti.kd = .slice e) : P.underlying t = some (.slice e) := by
  obtain ⟨i, d, z, h1, h2, h3, h4, h5, h6, _⟩ := h.info
  rw [he] at h6
  cases d <;> simp [tkOf] at h6
  rw [h2, h6]
theorem TF.kd_arr {t : TypeId} {ti : TI} (h : TF P t ti) {n : Nat} {e : TypeId} (he : ti.kd = .arr n e) : P.underlying t = some (.array n e) := by
  obtain ⟨i, d, z, h1, h2, h3, h4, h5, h6, _⟩ := h.info
  rw [he] at h6
  cases d <;> simp [tkOf] at h6
  rw [h2, h6.1, h6.2]
theorem TF.kd_str {t : TypeId} {ti : TI} (h : TF P t ti) (he : ti.kd = .str) : P.underlying t = some .string := by
  obtain ⟨i, d, z, h1, h2, h3, h4, h5, h6, _⟩ := h.info
  rw [he] at h6
  cases d <;> simp [tkOf] at h6
  exact h2
theorem TF.kd_bool {t : TypeId} {ti : TI} (h : TF P t ti) (he : ti.kd = .bool) : P.underlying t = some .bool := by
  obtain ⟨i, d, z, h1, h2, h3, h4, h5, h6, _⟩ := h.info
  rw [he] at h6
  cases d <;> simp [tkOf] at h6
  exact h2
theorem TF.kd_int {t : TypeId} {ti : TI} (h : TF P t ti) {k : IntKind} (he : ti.kd = .int k) : P.underlying t = some (.int k) := by
  obtain ⟨i, d, z, h1, h2, h3, h4, h5, h6, _⟩ := h.info
  rw [he] at h6
  cases d <;> simp [tkOf] at h6
  rw [h2, h6]
theorem TF.kd_ptr {t : TypeId} {ti : TI} (h : TF P t ti) {e : TypeId} (he : ti.kd = .ptr e) : P.underlying t = some (.pointer e) := by
  obtain ⟨i, d, z, h1, h2, h3, h4, h5, h6, _⟩ := h.info
  rw [he] at h6
  cases d <;> simp [tkOf] at h6
  rw [h2, h6]
theorem TF.kd_fn {t : TypeId} {ti : TI} (h : TF P t ti) (he : ti.kd = .fn) : ∃ x y z, P.underlying t = some (.func x y z) := by
  obtain ⟨i, d, z, h1, h2, h3, h4, h5, h6, _⟩ := h.info
  rw [he] at h6
  cases d <;> simp [tkOf] at h6
  exact ⟨_, _, _, h2⟩
theorem TF.kd_iface {t : TypeId} {ti : TI} (h : TF P t ti) (he : ti.kd = .iface) : ∃ ms, P.underlying t = some (.interface ms) := by
  obtain ⟨i, d, z, h1, h2, h3, h4, h5, h6, _⟩ := h.info
  rw [he] at h6
  cases d <;> simp [tkOf] at h6
  exact ⟨_, h2⟩
theorem TF.size {t : TypeId} {ti : TI} (h : TF P t ti) : ∃ i, P.info? t = some i ∧ i.size = ti.size ∧ i.bytes = ti.bytes := by
  obtain ⟨i, d, z, h1, h2, h3, h4, _⟩ := h.info
  exact ⟨i, h1, h3, h4⟩
theorem run_size' {t : TypeId} {ti : TI} (h : TF P t ti) : (sizeOf t).run P w = .ok ti.size w := by
  obtain ⟨i, h1, h2, _⟩ := h.size
  rw [run_size h1, h2]
theorem elemOf_spec {Θ : Tab} (tab : TabOK P Θ) {t : TypeId} {ei : TI} (h : elemOf Θ t = some ei) : ∃ e, P.underlying t = some (.slice e) ∧ TF P e ei := by
  unfold elemOf at h
  cases ht : Θ t with
  | none => simp [ht] at h
  | some ti =>
    simp only [ht, Option.bind_some] at h
    split at h
    · rename_i e he
      exact ⟨e, (tab.tf ht).kd_slice he, tab.tf h⟩
    · cases h
theorem load_ok (mem : RH ρ ls s.loc s.heap w) {t : TypeId} {ti : TI} (ht : TF P t ti) {x : AV} {xv : Value} (r : RV ρ ls x xv) {v : AV}
    (h : (s.cells x ti.size).bind (wrapAgg ti.isAgg) = some v) : ∃ cv, (Instr.loadAt t xv).run P w = .ok cv w ∧ RV ρ ls v cv := by
  cases hc : s.cells x ti.size with
  | none => simp [hc] at h
  | some cs =>
    simp only [hc, Option.bind_some] at h
    obtain ⟨c, o, vals, rfl, hlen, hvs, hcell⟩ := cells_sound mem r hc
    simp only [Instr.loadAt, Instr.sureAddr, loadVar, Sem.run_bind, Sem.run_pure, Result.andThen_ok, run_isAgg ht]
    unfold wrapAgg at h
    split at h
    · rename_i hag
      injection h with h
      subst h
      refine ⟨.agg vals.toArray, ?_, .agg _ _ _ (by simpa using hvs.1) (fun i x hx => ?_)⟩
      · have hl := run_loadCells_list (P := P) (w := w) ⟨c, o, none⟩ vals (fun j v hv => by rw [addr_add]; exact hcell j v hv)
        rw [hlen] at hl
        simp [hag, run_size' ht, hl]
      · have := hvs.2 i x hx
        simpa using this
    · rename_i x hag
      injection h with h
      subst h
      have h1 := hvs.1
      match vals, h1 with
      | [u], _ =>
        have hu := hcell 0 u rfl
        have hr := hvs.2 0 x rfl
        exact ⟨u, by simp [hag, run_load]; rw [show (⟨c, o, none⟩ : Addr) = ⟨c, o + 0, none⟩ from rfl, hu], hr⟩
    · cases h
theorem fld_ok {x : AV} {xv : Value} (r : RV ρ ls x xv) {off : Nat} {v : AV} (h : aFld off x = some v) :
    ∃ c o, xv = .pointer (some ⟨c, o, none⟩) ∧ RV ρ ls v (.pointer (some ⟨c, o + off, none⟩)) := by
  cases r with
  | lp _ i o c hl =>
    simp only [aFld, Option.some.injEq] at h
    subst h
    exact ⟨c, o, rfl, .lp _ _ _ _ hl⟩
  | gp _ b g o c o' n hm =>
    simp only [aFld, Option.some.injEq] at h
    subst h
    exact ⟨c, o' + o, rfl, by rw [Nat.add_assoc]; exact .gp _ _ _ _ _ _ _ hm⟩
  | ip _ β cs c o f h1 h2 =>
    simp only [aFld, Option.some.injEq] at h
    subst h
    refine ⟨c, o, rfl, .ip _ _ _ _ _ (fun j => f (off + j)) (fun j x hx => ?_) (fun j x hx => ?_)⟩
    · rw [List.getElem?_drop] at hx
      obtain ⟨arr, e1, e2⟩ := h1 _ x hx
      exact ⟨arr, e1, by rw [Nat.add_assoc]; exact e2⟩
    · rw [List.getElem?_drop] at hx
      exact h2 _ x hx
  | _ => simp [aFld] at h
theorem fieldAt_ok {t : TypeId} {ti : TI} (ht : TF P t ti) {fs} (hk : ti.kd = .strct fs) {f off : Nat} {ft : TypeId} (hf : fs[f]? = some (off, ft)) {fi : TI} (hfi : TF P ft fi) (h0 : fi.size ≠ 0)
    {c o : Nat} : (Instr.fieldAt t (.pointer (some ⟨c, o, none⟩)) f).run P w = .ok (.pointer (some ⟨c, o + off, none⟩)) w := by
  obtain ⟨fields, h1, h2⟩ := ht.kd_struct hk
  subst h2
  rw [List.getElem?_map] at hf
  cases hff : fields.toList[f]? with
  | none => simp [hff] at hf
  | some fl =>
    simp [hff] at hf
    obtain ⟨rfl, rfl⟩ := hf
    have hff' : fields[f]? = some fl := by simpa using hff
    simp [Instr.fieldAt, run_underl h1, hff', Instr.sureAddr, fieldPlace, run_size' hfi, h0, addr_add]
theorem idxs_ok (mem : RH ρ ls s.loc s.heap w) {t e : TypeId} {ti ei : TI} (ht : TF P t ti) (hk : ti.kd = .slice e) (he : TF P e ei) {x : AV} {xv : Value} (r : RV ρ ls x xv) {k : IntKind} {i : Int} {v : AV}
    (h : aIdxs ei.size x i = some v) : ∃ cv, (Instr.indexAt t xv (.int k i)).run P w = .ok cv w ∧ RV ρ ls v cv := by
  have hu := ht.kd_slice hk
  cases r with
  | vs _ β sz ex xs c o cap' f h1 h2 h3 h4 r =>
    simp only [aIdxs] at h
    split at h
    · rename_i hsz
      split at h
      · rename_i h0
        cases hx : xs[i.toNat]? with
        | none => simp [hx] at h
        | some l =>
          simp [hx] at h
          subst h
          have hlt := getElem?_lt hx
          refine ⟨.pointer (some ⟨c, o + i.toNat * ei.size, none⟩), ?_, .ip _ _ _ _ _ (f i.toNat) (fun j y hy => ?_) (fun j y hy => r _ l hx j y hy)⟩
          · have hi : i < xs.length := by omega
            simp [Instr.indexAt, asIntOf, run_underl hu, h0, hi, run_size' he, addr_add]
          · obtain ⟨arr, e1, e2⟩ := h4 _ l hx j y hy
            exact ⟨arr, e1, by rw [hsz, Nat.add_assoc]; exact e2⟩
      · cases h
    · cases h
  | vs0 =>
    simp [aIdxs] at h
  | vsn =>
    simp [aIdxs] at h
  | gs _ b g off len cap sz ex c o n cap' hm h1 h2 h3 h4 =>
    simp only [aIdxs] at h
    split at h
    · split at h
      · rename_i hsz hi
        injection h with h
        subst h
        refine ⟨.pointer (some ⟨c, o + off + i.toNat * ei.size, none⟩), ?_, by rw [Nat.add_assoc]; exact .gp _ _ _ _ _ _ _ hm⟩
        simp [Instr.indexAt, asIntOf, run_underl hu, hi, run_size' he, addr_add]
      · cases h
    · cases h
  | gs0 _ b g off sz ex c o n a hm =>
    simp only [aIdxs] at h
    split at h
    · split at h
      · omega
      · cases h
    · cases h
  | _ => simp [aIdxs] at h
theorem idxa_ok {t e : TypeId} {n : Nat} {ti ei : TI} (ht : TF P t ti) (hk : ti.kd = .arr n e) (he : TF P e ei) {x : AV} {xv : Value} (r : RV ρ ls x xv) {k : IntKind} {i : Int} {v : AV}
    (h : aIdxa n ei.size x i = some v) : ∃ cv, (Instr.indexAt t xv (.int k i)).run P w = .ok cv w ∧ RV ρ ls v cv := by
  have hu := ht.kd_arr hk
  unfold aIdxa at h
  split at h
  · rename_i hi
    obtain ⟨c, o, rfl, rv⟩ := fld_ok r h
    refine ⟨_, ?_, rv⟩
    simp [Instr.indexAt, asIntOf, run_underl hu, hi, run_size' he, addr_add, Instr.sureAddr]
  · cases h
theorem arith_ok {op : BinOp} {k : IntKind} {x y : Int} {v : AV} (hs : op ≠ .shl) (hr : op ≠ .shr) (t : TypeId) (h : aArith op k x y = some v) :
    ∃ cv, (binOp op t (.int k x) (.int k y)).run P w = .ok cv w ∧ RV ρ ls v cv := by
  cases op <;> simp only [aArith] at h <;> first
    | exact absurd rfl hs
    | exact absurd rfl hr
    | (injection h with h; subst h; exact ⟨_, by simp only [binOp, ne_eq, not_true_eq_false, if_false, Op.intArith, Op.intBits, Op.intCmp]; rfl, by constructor⟩)
    | (split at h; · cases h
       · injection h with h; subst h; rename_i h0; exact ⟨_, by simp [binOp, Op.intDiv, h0]; rfl, by constructor⟩)
    | (simp at h; done)
theorem equal_top (t : TypeId) (x y : Value) : ∃ d, Op.equal t x y = Op.equalIn (d + 1) t x y := ⟨9999, rfl⟩
theorem eqlP_ok {x y : AV} {xv yv : Value} (rx : RV ρ ls x xv) (ry : RV ρ ls y yv) {b : Bool} (h : nilEqP x y = some b) {t e : TypeId} (hd : P.underlying t = some (.pointer e)) :
    (Op.equal t xv yv).run P w = .ok b w := by
  obtain ⟨d, e0⟩ := equal_top t _ _
  rw [e0]
  simp only [Op.equalIn, Sem.run_bind, run_underl hd, Result.andThen_ok]
  cases rx <;> cases ry <;> simp [nilEqP] at h <;> subst h <;> rfl
theorem nilS_shape {x y : AV} {xv yv : Value} (rx : RV ρ ls x xv) (ry : RV ρ ls y yv) {b : Bool} (h : nilEqS x y = some b) :
    (xv = .slice none 0 0 ∧ yv = .slice none 0 0 ∧ b = true) ∨ (∃ a n c, xv = .slice none 0 0 ∧ yv = .slice (some a) n c ∧ b = false) ∨ (∃ a n c, xv = .slice (some a) n c ∧ yv = .slice none 0 0 ∧ b = false) := by
  unfold nilEqS at h
  split at h <;> first | (cases h; done) | skip
  all_goals (injection h with h; subst h)
  all_goals cases rx <;> cases ry <;> first | exact .inl ⟨rfl, rfl, rfl⟩ | exact .inr (.inl ⟨_, _, _, rfl, rfl, rfl⟩) | exact .inr (.inr ⟨_, _, _, rfl, rfl, rfl⟩)
theorem eqlS_ok {x y : AV} {xv yv : Value} (rx : RV ρ ls x xv) (ry : RV ρ ls y yv) {b : Bool} (h : nilEqS x y = some b) {t e : TypeId} (hd : P.underlying t = some (.slice e)) :
    (Op.equal t xv yv).run P w = .ok b w := by
  obtain ⟨d, e0⟩ := equal_top t _ _
  rw [e0]
  simp only [Op.equalIn, Sem.run_bind, run_underl hd, Result.andThen_ok]
  rcases nilS_shape rx ry h with ⟨rfl, rfl, rfl⟩ | ⟨a, n, c, rfl, rfl, rfl⟩ | ⟨a, n, c, rfl, rfl, rfl⟩ <;> rfl
theorem eqlF_ok {x y : AV} {xv yv : Value} (rx : RV ρ ls x xv) (ry : RV ρ ls y yv) {b : Bool} (h : nilEqF x y = some b) {t : TypeId} {u v z} (hd : P.underlying t = some (.func u v z)) :
    (Op.equal t xv yv).run P w = .ok b w := by
  obtain ⟨d, e0⟩ := equal_top t _ _
  rw [e0]
  simp only [Op.equalIn, Sem.run_bind, run_underl hd, Result.andThen_ok]
  cases rx <;> cases ry <;> simp [nilEqF] at h <;> subst h <;> rfl
theorem eqlB_ok {x y b : Bool} {t : TypeId} (hd : P.underlying t = some .bool) (h : (x == y) = b) : (Op.equal t (.bool x) (.bool y)).run P w = .ok b w := by
  obtain ⟨d, e0⟩ := equal_top t _ _
  rw [e0]
  simp only [Op.equalIn, Sem.run_bind, run_underl hd, Result.andThen_ok, h]
  rfl
theorem eqlI_ok {x y : Value} {b : Bool} {t : TypeId} {ms} (hd : P.underlying t = some (.interface ms)) (h : aEql .iface (.opq x) (.opq y) = some b) : (Op.equal t x y).run P w = .ok b w := by
  obtain ⟨d, e0⟩ := equal_top t _ _
  rw [e0]
  simp only [Op.equalIn, Sem.run_bind, run_underl hd, Result.andThen_ok]
  cases x <;> cases y <;> simp [aEql] at h <;> subst h <;> rfl
end
end Go.AM

namespace Go.AM
section
variable {P : Program} {Γ : Glob} {ρ : Inj} {ls : List Nat} {s : St} {a : Act} {w : World}
def eqVal : Value → Bool
  | .bool _ | .pointer _ | .slice _ _ _ | .func _ _ _ | .nilFunc | .agg _ | .iface _ _ | .nilIface => true
  | _ => false
theorem binOp_eql {t : TypeId} {x y : Value} (hx : eqVal x = true) (hy : eqVal y = true) {b : Bool} (h : (Op.equal t x y).run P w = .ok b w) : (binOp .eql t x y).run P w = .ok (.bool b) w := by
  cases x <;> simp [eqVal] at hx <;> cases y <;> simp [eqVal] at hy <;> simp [binOp, h]
theorem binOp_neq {t : TypeId} {x y : Value} (hx : eqVal x = true) (hy : eqVal y = true) {b : Bool} (h : (Op.equal t x y).run P w = .ok b w) : (binOp .neq t x y).run P w = .ok (.bool !b) w := by
  cases x <;> simp [eqVal] at hx <;> cases y <;> simp [eqVal] at hy <;> simp [binOp, h]
theorem eqGuard_ok {op : BinOp} {t : TypeId} {X Y : Operand} {x y : Value} (h1 : ∀ cs cs', x = .agg cs → y = .agg cs' → P.eqGuardType P.depth t = false)
    (h2 : x = .nilIface → y = .nilIface → (Region.isConst X || Region.isConst Y) = true) : (eqGuard op t X Y x y).run P w = .ok () w := by
  unfold eqGuard
  split
  · simp only [Bool.not_true, Bool.false_eq_true, if_false]
    split
    · have := h2 rfl rfl
      cases X <;> cases Y <;> simp [Region.isConst] at this <;> simp
    · simp [h1 _ _ rfl rfl]
    · rfl
  · simp only [Bool.not_true, Bool.false_eq_true, if_false]
    split
    · have := h2 rfl rfl
      cases X <;> cases Y <;> simp [Region.isConst] at this <;> simp
    · simp [h1 _ _ rfl rfl]
    · rfl
  · rfl
theorem ekOf_spec {t : TypeId} {ti : TI} (ht : TF P t ti) {k : EK} (h : ekOf ti = some k) :
    match k with
    | .num => True
    | .bool => P.underlying t = some .bool
    | .agg ks => PlainEq P t ks
    | .nilp => ∃ e, P.underlying t = some (.pointer e)
    | .nils => ∃ e, P.underlying t = some (.slice e)
    | .nilf => ∃ u v z, P.underlying t = some (.func u v z)
    | .iface => ∃ ms, P.underlying t = some (.interface ms) := by
  unfold ekOf at h
  split at h
  · injection h with h; subst h; trivial
  · injection h with h; subst h; trivial
  · rename_i hk; injection h with h; subst h; exact ht.kd_bool hk
  · rename_i fs hk
    rw [Option.map_eq_some_iff] at h
    obtain ⟨ks, hp, rfl⟩ := h
    exact ht.eq ks hp
  · rename_i e hk; injection h with h; subst h; exact ⟨e, ht.kd_ptr hk⟩
  · rename_i e hk; injection h with h; subst h; exact ⟨e, ht.kd_slice hk⟩
  · rename_i hk; injection h with h; subst h; exact ht.kd_fn hk
  · rename_i hk; injection h with h; subst h; exact ht.kd_iface hk
  · cases h
theorem aEql_ok {t : TypeId} {ti : TI} (ht : TF P t ti) {k : EK} (hk : ekOf ti = some k) {x y : AV} {xv yv : Value} (rx : RV ρ ls x xv) (ry : RV ρ ls y yv) {b : Bool} (h : aEql k x y = some b) :
    (Op.equal t xv yv).run P w = .ok b w ∧ eqVal xv = true ∧ eqVal yv = true ∧ (∀ cs cs', xv = .agg cs → yv = .agg cs' → P.eqGuardType P.depth t = false) ∧ (xv = .nilIface → k = .iface) := by
  have hs := ekOf_spec ht hk
  cases k with
  | num => simp [aEql] at h
  | bool =>
    simp only [aEql] at h
    split at h
    · injection h with h
      cases rx; cases ry
      exact ⟨eqlB_ok hs h, rfl, rfl, by simp, by simp⟩
    · cases h
  | agg ks =>
    simp only [aEql] at h
    split at h
    · cases rx with
      | agg _ _ vs h1 r =>
        cases ry with
        | agg _ _ us h1' r' =>
          refine ⟨hs.2 w ρ ls _ _ vs us b ⟨by simpa using h1, fun i x hx => by rw [getD_toList]; exact r i x hx⟩ ⟨by simpa using h1', fun i x hx => by rw [getD_toList]; exact r' i x hx⟩ h, rfl, rfl, fun _ _ _ _ => hs.1, by simp⟩
    · cases h
  | nilp =>
    obtain ⟨e, hs⟩ := hs
    refine ⟨eqlP_ok rx ry h hs, ?_, ?_, ?_, ?_⟩ <;> cases rx <;> cases ry <;> simp [aEql, nilEqP] at h <;> simp [eqVal]
  | nils =>
    obtain ⟨e, hs⟩ := hs
    refine ⟨eqlS_ok rx ry h hs, ?_, ?_, ?_, ?_⟩ <;> rcases nilS_shape rx ry h with ⟨rfl, rfl, rfl⟩ | ⟨a, n, c, rfl, rfl, rfl⟩ | ⟨a, n, c, rfl, rfl, rfl⟩ <;> simp [eqVal]
  | nilf =>
    obtain ⟨u, v, z, hs⟩ := hs
    refine ⟨eqlF_ok rx ry h hs, ?_, ?_, ?_, ?_⟩ <;> cases rx <;> cases ry <;> simp [aEql, nilEqF] at h <;> simp [eqVal]
  | iface =>
    obtain ⟨ms, hs⟩ := hs
    have hx : x = .opq xv := by cases rx <;> simp [aEql] at h <;> rfl
    subst hx
    have hy : y = .opq yv := by cases ry <;> first | rfl | (simp [aEql] at h; done) | (cases xv <;> simp [aEql] at h)
    subst hy
    refine ⟨eqlI_ok hs h, ?_, ?_, ?_, fun _ => rfl⟩ <;> cases xv <;> cases yv <;> simp [aEql] at h <;> simp [eqVal]
theorem bin_ok {op : BinOp} {t : TypeId} {ti : TI} (ht : TF P t ti) {k : EK} (hk : ekOf ti = some k) {X Y : Operand} (hc : k = .iface → (Region.isConst X || Region.isConst Y) = true)
    {x y : AV} {xv yv : Value} (rx : RV ρ ls x xv) (ry : RV ρ ls y yv) {v : AV} (h : aBin op k x y = some v) :
    ∃ cv, (do eqGuard op t X Y xv yv; binOp op t xv yv : Sem Value).run P w = .ok cv w ∧ RV ρ ls v cv := by
  unfold aBin at h
  split at h
  · rename_i kk m kk' n
    cases rx; cases ry
    have hg : (eqGuard op t X Y (.int kk m) (.int kk' n)).run P w = .ok () w := eqGuard_ok (by simp) (by simp)
    simp only [Sem.run_bind, hg, Result.andThen_ok]
    split at h
    · split at h
      · rename_i h0
        injection h with h
        subst h
        exact ⟨_, by simp [binOp, Op.shift, Int.not_lt.2 h0]; rfl, by constructor⟩
      · cases h
    · split at h
      · rename_i h0
        injection h with h
        subst h
        exact ⟨_, by simp [binOp, Op.shift, Int.not_lt.2 h0]; rfl, by constructor⟩
      · cases h
    · split at h
      · rename_i h1 h2 hkk
        subst hkk
        exact arith_ok (fun e => h1 e) (fun e => h2 e) t h
      · cases h
  · rename_i m n
    cases rx; cases ry
    have hg : (eqGuard op t X Y (.string m) (.string n)).run P w = .ok () w := eqGuard_ok (by simp) (by simp)
    simp only [Sem.run_bind, hg, Result.andThen_ok]
    split at h
    · split at h
      · cases h
      · rename_i h0
        injection h with h
        subst h
        have hm : IntKind.i64.max = 9223372036854775807 := by decide
        exact ⟨.string (m ++ n), by simp [binOp, Op.stringOp]; omega, .str _ _⟩
    · injection h with h; subst h
      exact ⟨_, by simp [binOp, Op.stringOp]; rfl, by constructor⟩
    · injection h with h; subst h
      exact ⟨_, by simp [binOp, Op.stringOp]; rfl, by constructor⟩
    · cases h
  · split at h
    · cases he : aEql k x y with
      | none => simp [he] at h
      | some b =>
        simp [he] at h
        subst h
        obtain ⟨h1, h2, h3, h4, h5⟩ := aEql_ok (w := w) ht hk rx ry he
        have hg : (eqGuard .eql t X Y xv yv).run P w = .ok () w := eqGuard_ok h4 (fun e _ => hc (h5 e))
        exact ⟨.bool b, by simp only [Sem.run_bind, hg, Result.andThen_ok, binOp_eql h2 h3 h1], .bool _ _⟩
    · cases he : aEql k x y with
      | none => simp [he] at h
      | some b =>
        simp [he] at h
        subst h
        obtain ⟨h1, h2, h3, h4, h5⟩ := aEql_ok (w := w) ht hk rx ry he
        have hg : (eqGuard .neq t X Y xv yv).run P w = .ok () w := eqGuard_ok h4 (fun e _ => hc (h5 e))
        exact ⟨.bool !b, by simp only [Sem.run_bind, hg, Result.andThen_ok, binOp_neq h2 h3 h1], .bool _ _⟩
    · cases h
theorem un_ok {op : UnOp} {x : AV} {xv : Value} (rx : RV ρ ls x xv) {v : AV} (h : aUn op x = some v) : ∃ cv, (Op.unary op xv).run P w = .ok cv w ∧ RV ρ ls v cv := by
  unfold aUn at h
  split at h
  · cases rx; injection h with h; subst h; exact ⟨_, rfl, .bool _ _⟩
  · cases rx; injection h with h; subst h; exact ⟨_, rfl, .int _ _ _⟩
  · cases h
theorem sliceCells_ok (mem : RH ρ ls s.loc s.heap w) {x : AV} {xv : Value} (r : RV ρ ls x xv) {sz : Nat} {cs : List AV} (h : s.sliceCells sz x = some cs) {n : Nat} (hn : lenOf x = some n) :
    ∃ (A : Option Addr) (cap : Nat) (vals : List Value), xv = .slice A n cap ∧ vals.length = n * sz ∧ RVs ρ ls cs vals ∧ n ≤ cap ∧ (n ≠ 0 → A.isSome) ∧
      ∀ ad, A = some ad → ∀ (j : Nat) (u : Value), vals[j]? = some u → w.cell? (ad.add j) = some u := by
  cases r with
  | nils =>
    simp only [St.sliceCells, Option.some.injEq] at h
    simp only [lenOf, Option.some.injEq] at hn
    subst h hn
    exact ⟨none, 0, [], rfl, by simp, ⟨rfl, fun i x hx => by simp at hx⟩, Nat.le_refl _, by simp, by simp⟩
  | vs _ β sz' ex xs c o cap' f h1 h2 h3 h4 r =>
    simp only [St.sliceCells] at h
    simp only [lenOf, Option.some.injEq] at hn
    subst hn
    split at h
    · rename_i hsz
      injection h with h
      subst h hsz
      have flat : ∀ (xs : List (List AV)), (∀ l ∈ xs, l.length = sz) → ∀ k x, xs.flatten[k]? = some x → ∃ l, xs[k / sz]? = some l ∧ l[k % sz]? = some x ∧ k / sz < xs.length ∧ 0 < sz := by
        intro xs
        induction xs with
        | nil => intro _ k x hx; simp at hx
        | cons l r ih =>
          intro hl k x hx
          have hl0 := hl l (by simp)
          rw [List.flatten_cons] at hx
          by_cases hk : k < l.length
          · rw [List.getElem?_append_left hk] at hx
            refine ⟨l, ?_, ?_, ?_, by omega⟩
            · rw [Nat.div_eq_of_lt (by omega)]; rfl
            · rw [Nat.mod_eq_of_lt (by omega)]; exact hx
            · rw [Nat.div_eq_of_lt (by omega)]; simp
          · rw [List.getElem?_append_right (by omega)] at hx
            obtain ⟨l', e1, e2, e3, e4⟩ := ih (fun l h => hl l (by simp [h])) _ x hx
            have e : k = (k - sz) + sz := by omega
            have ed : k / sz = (k - sz) / sz + 1 := by rw [e, Nat.add_div_right _ e4]; simp
            have em : k % sz = (k - sz) % sz := by rw [e, Nat.add_mod_right]; simp
            rw [hl0] at e1 e2 e3
            refine ⟨l', ?_, ?_, ?_, e4⟩
            · rw [ed]; simpa using e1
            · rw [em]; exact e2
            · rw [ed]; simp; exact e3
      have hlen : xs.flatten.length = xs.length * sz := by
        have : ∀ (ys : List (List AV)), (∀ l ∈ ys, l.length = sz) → ys.flatten.length = ys.length * sz := by
          intro ys
          induction ys with
          | nil => intro _; simp
          | cons l r ih => intro hl; rw [List.flatten_cons, List.length_append, ih (fun l h => hl l (by simp [h])), hl l (by simp), List.length_cons, Nat.succ_mul]; omega
        exact this xs (fun l hl => by obtain ⟨i, hi⟩ := List.mem_iff_getElem?.1 hl; exact h3 i l hi)
      have hmem : ∀ l ∈ xs, l.length = sz := fun l hl => by obtain ⟨i, hi⟩ := List.mem_iff_getElem?.1 hl; exact h3 i l hi
      refine ⟨_, cap', (List.range (xs.length * sz)).map fun k => f (k / sz) (k % sz), rfl, by simp, ⟨by simp [hlen], fun k x hx => ?_⟩, h1, by simp, ?_⟩
      · have hk := getElem?_lt hx
        obtain ⟨l, e1, e2, _, _⟩ := flat xs hmem k x hx
        have := r _ l e1 _ x e2
        rw [hlen] at hk
        simp [hk]
        exact this.mono (.refl _) (.nil _)
      · intro ad had k u hu
        injection had with had
        subst had
        have hk : k < xs.length * sz := by have := getElem?_lt hu; simpa using this
        simp [hk] at hu
        subst hu
        have hx : xs.flatten[k]? = some (xs.flatten[k]'(by rw [hlen]; exact hk)) := List.getElem?_eq_getElem _
        obtain ⟨l, e1, e2, e3, e4⟩ := flat xs hmem k _ hx
        obtain ⟨arr, i1, i2⟩ := h4 _ l e1 _ _ e2
        obtain ⟨T, fr, i3⟩ := mem.im β c arr i1
        rw [addr_add, cell_of i3, ← i2, Nat.div_add_mod']
    · cases h
  | vs0 _ β sz' ex ad cap' h2 =>
    simp only [St.sliceCells] at h
    simp only [lenOf, Option.some.injEq] at hn
    subst hn
    split at h
    · injection h with h
      subst h
      exact ⟨some ad, cap', [], rfl, by simp, ⟨rfl, fun i x hx => by simp at hx⟩, Nat.zero_le _, by simp, by simp⟩
    · cases h
  | vsn _ β sz' ex =>
    simp only [St.sliceCells] at h
    simp only [lenOf, Option.some.injEq] at hn
    subst hn
    split at h
    · injection h with h
      subst h
      exact ⟨none, 0, [], rfl, by simp, ⟨rfl, fun i x hx => by simp at hx⟩, Nat.zero_le _, by simp, by simp⟩
    · cases h
  | opq _ v =>
    simp only [St.sliceCells] at h
    split at h <;> try (cases h; done)
    all_goals (rename_i he; try (cases he; done))
    injection he with he
    subst he
    injection h with h
    subst h
    simp only [lenOf, Option.some.injEq] at hn
    subst hn
    exact ⟨some _, _, [], rfl, by simp, ⟨rfl, fun i x hx => by simp at hx⟩, Nat.zero_le _, by simp, by simp⟩
  | gs _ b g off len cap sz' ex c o n' cap' hm h1 h2 h3 h4 =>
    simp only [St.sliceCells] at h
    simp only [lenOf, Option.some.injEq] at hn
    subst hn
    split at h
    · rename_i hsz
      subst hsz
      cases hb : hget s.heap b with
      | none => simp [hb] at h
      | some e =>
        simp only [hb, Option.bind_some] at h
        split at h
        · rename_i hg
          have hcell : s.cells (.gp b g off) (len * sz) = some cs := by simp [St.cells, hb, hg, h]
          obtain ⟨c', o', vals, e1, e2, e3, e4⟩ := cells_sound mem (RV.gp ls b g off c o n' hm) hcell
          injection e1 with e1
          injection e1 with e1
          injection e1 with e1 e1'
          subst e1 e1'
          refine ⟨_, cap', vals, rfl, e2, e3, by omega, by simp, ?_⟩
          intro ad had j u hu
          injection had with had
          subst had
          rw [addr_add]; exact e4 j u hu
        · cases h
    · cases h
  | gs0 _ b g off sz' ex c o n' ad hm =>
    simp only [lenOf, Option.some.injEq] at hn
    subst hn
    simp only [St.sliceCells] at h
    split at h
    · cases hb : hget s.heap b with
      | none => simp [hb] at h
      | some e =>
        simp only [hb, Option.bind_some] at h
        split at h
        · obtain ⟨_, h2, _⟩ := sub_spec h
          have : cs = [] := List.eq_nil_of_length_eq_zero (by simpa using h2)
          subst this
          exact ⟨some ad, 0, [], rfl, by simp, ⟨rfl, fun i x hx => by simp at hx⟩, Nat.le_refl _, by simp, by simp⟩
        · cases h
    · cases h
  | _ => simp [St.sliceCells] at h
end
end Go.AM

namespace Go.AM
section
variable {P : Program} {Γ : Glob} {ρ : Inj} {ls : List Nat} {s : St} {a : Act} {w : World}
def OB : Option Value → Option Nat → Prop
  | none, none => True
  | some v, some n => ∃ k i, v = .int k i ∧ 0 ≤ i ∧ n = i.toNat
  | _, _ => False
theorem run_sliceBound {k : IntKind} {i : Int} {y : Nat} {code : BoundsCode} (h0 : 0 ≤ i) (h1 : i.toNat ≤ y) : (Instr.sliceBound (.int k i) y code).run P w = .ok i.toNat w := by
  have : 0 ≤ i ∧ i ≤ y := ⟨h0, by omega⟩
  simp [Instr.sliceBound, asIntOf, this]
theorem run_sliceBounds {isSl : Bool} {len cap : Nat} {lo hi mx : Option Value} {l h m : Option Nat} (ol : OB lo l) (oh : OB hi h) (om : OB mx m) (hm : (h.isNone && m.isSome) = false)
    (h1 : l.getD 0 ≤ h.getD len) (h2 : h.getD len ≤ m.getD cap) (h3 : m.getD cap ≤ cap) :
    (Instr.sliceBounds isSl len cap lo hi mx).run P w = .ok (l.getD 0, h.getD len, m.getD cap) w := by
  have e1 : ∀ {code}, (match mx with | some v => Instr.sliceBound v cap code | none => pure cap : Sem Nat).run P w = .ok (m.getD cap) w := by
    intro code
    cases mx <;> cases m <;> simp [OB] at om
    · rfl
    · obtain ⟨k, i, rfl, h0, rfl⟩ := om
      simp at h3
      exact run_sliceBound h0 (by omega)
  cases mx with
  | none =>
    cases m with
    | some _ => simp [OB] at om
    | none =>
      simp only [Option.getD_none] at *
      cases hi <;> cases h <;> simp [OB] at oh
      · cases lo <;> cases l <;> simp [OB] at ol
        · simp [Instr.sliceBounds]
        · obtain ⟨k, i, rfl, h0, rfl⟩ := ol
          simp at h1
          simp [Instr.sliceBounds, run_sliceBound h0 (show i.toNat ≤ len by omega)]
      · obtain ⟨k', i', rfl, h0', rfl⟩ := oh
        simp at h1 h2
        cases lo <;> cases l <;> simp [OB] at ol
        · simp [Instr.sliceBounds, run_sliceBound h0' (show i'.toNat ≤ cap by omega)]
        · obtain ⟨k, i, rfl, h0, rfl⟩ := ol
          simp at h1
          simp [Instr.sliceBounds, run_sliceBound h0' (show i'.toNat ≤ cap by omega), run_sliceBound h0 (show i.toNat ≤ i'.toNat by omega)]
  | some v =>
    cases m with
    | none => simp [OB] at om
    | some m =>
      obtain ⟨k'', i'', rfl, h0'', rfl⟩ := om
      cases hi <;> cases h <;> simp [OB] at oh
      · simp at hm
      · obtain ⟨k', i', rfl, h0', rfl⟩ := oh
        simp at h1 h2 h3
        cases lo <;> cases l <;> simp [OB] at ol
        · simp [Instr.sliceBounds, run_sliceBound h0'' (show i''.toNat ≤ cap by omega), run_sliceBound h0' (show i'.toNat ≤ i''.toNat by omega)]
        · obtain ⟨k, i, rfl, h0, rfl⟩ := ol
          simp at h1
          simp [Instr.sliceBounds, run_sliceBound h0'' (show i''.toNat ≤ cap by omega), run_sliceBound h0' (show i'.toNat ≤ i''.toNat by omega), run_sliceBound h0 (show i.toNat ≤ i'.toNat by omega)]
theorem bnd_OB (rel : Rel Γ ρ ls s a w) {lo : Option Operand} {d n : Nat} (h : bnd Γ s d (lo.map trX) = some n) :
    OB (lo.map a.eval) (if lo.isSome then some n else none) ∧ (lo = none → n = d) := by
  cases lo with
  | none => simp [bnd] at h; exact ⟨trivial, fun _ => h.symm⟩
  | some x =>
    refine ⟨?_, by simp⟩
    simp only [Option.map_some, bnd] at h
    have r := eval_sound rel x
    cases hx : s.eval Γ (trX x) <;> simp only [hx, asI] at h <;> (try (simp at h; done))
    rename_i k i
    simp only [Option.bind_some] at h
    split at h
    · rename_i h0
      injection h with h
      rw [hx] at r
      simp only [Option.map_some, Option.isSome_some, if_true, OB]
      cases hv : a.eval x <;> rw [hv] at r <;> cases r
      exact ⟨_, _, rfl, h0, h.symm⟩
    · cases h
theorem skOf_spec {Θ : Tab} (tab : TabOK P Θ) {t : TypeId} {k : SK} (h : skOf Θ t = some k) :
    match k with
    | .str => P.underlying t = some .string
    | .sl sz => ∃ e ei, P.underlying t = some (.slice e) ∧ TF P e ei ∧ ei.size = sz := by
  unfold skOf at h
  cases ht : Θ t with
  | none => simp [ht] at h
  | some ti =>
    simp only [ht, Option.bind_some] at h
    split at h
    · rename_i hk; injection h with h; subst h; exact (tab.tf ht).kd_str hk
    · rename_i e hk
      cases he : Θ e with
      | none => simp [he] at h
      | some ei =>
        simp [he] at h
        subst h
        exact ⟨e, ei, (tab.tf ht).kd_slice hk, tab.tf he, rfl⟩
    · cases h
theorem slice_ok {Θ : Tab} (tab : TabOK P Θ) {t : TypeId} {k : SK} (hk : skOf Θ t = some k) {x : AV} {xv : Value} (r : RV ρ ls x xv) {lo hi mx : Option Value} {l h m : Option Nat}
    (ol : OB lo l) (oh : OB hi h) (om : OB mx m) {v : AV} (hv : aSlice k x (l.getD 0) h m = some v) :
    ∃ cv, (Instr.sliceAt t xv lo hi mx).run P w = .ok cv w ∧ RV ρ ls v cv := by
  have hs := skOf_spec tab hk
  unfold aSlice at hv
  split at hv
  · cases hv
  · rename_i hm0
    have hm : (h.isNone && m.isSome) = false := by simpa using hm0
    cases k with
    | str =>
      cases r with
      | str _ sb =>
        simp only at hv
        split at hv
        · rename_i hmn
          split at hv
          · rename_i hle
            injection hv with hv
            subst hv
            have hmn' : m = none := by simpa using hmn
            subst hmn'
            have : mx = none := by cases mx with
              | none => rfl
              | some v => simp [OB] at om
            subst this
            have hb := run_sliceBounds (P := P) (w := w) (isSl := false) (len := sb.size) (cap := sb.size) (m := none) (mx := none) ol oh trivial (by simp) hle.1 hle.2 (by simp)
            simp only [Option.getD_none] at hb
            exact ⟨.string (sb.extract (l.getD 0) (h.getD sb.size)), by simp [Instr.sliceAt, Instr.slice, run_underl hs, hb], .str _ _⟩
          · cases hv
        · cases hv
      | _ => simp at hv
    | sl sz =>
      obtain ⟨e, ei, hu, he, hsz⟩ := hs
      subst hsz
      cases r with
      | nils =>
        simp only at hv
        split at hv
        · rename_i hz
          injection hv with hv
          subst hv
          have hb := run_sliceBounds (P := P) (w := w) (isSl := true) (len := 0) (cap := 0) ol oh om hm (by omega) (by omega) (by omega)
          refine ⟨.slice none 0 0, ?_, .nils _⟩
          simp [Instr.sliceAt, Instr.slice, run_underl hu, hb, hz, run_size' he]
        · cases hv
      | vs _ β sz' ex xs c o cap' f h1 h2 h3 h4 r =>
        simp only at hv
        split at hv
        · rename_i hszz
          split at hv
          · rename_i hle
            have hm1 : m.getD cap' ≤ cap' ∧ h.getD xs.length ≤ m.getD cap' ∧ v = .vs β ei.size (if m.isSome then true else (ex && h.getD xs.length == xs.length)) ((xs.take (h.getD xs.length)).drop (l.getD 0)) ∧ (∀ m', m = some m' → m' = h.getD xs.length) := by
              cases m with
              | none => injection hv with hv; exact ⟨by simp, by simp; omega, by simp [← hv], by simp⟩
              | some m' =>
                simp only at hv
                split at hv
                · rename_i hmm
                  injection hv with hv
                  exact ⟨by simp; omega, by simp; omega, by simp [← hv], by simpa using hmm⟩
                · cases hv
            obtain ⟨hm1, hm2, rfl, hm3⟩ := hm1
            have hb := run_sliceBounds (P := P) (w := w) (isSl := true) (len := xs.length) (cap := cap') ol oh om hm hle.1 hm2 hm1
            have run : (Instr.sliceAt t (.slice (some ⟨c, o, none⟩) xs.length cap') lo hi mx).run P w = .ok (.slice (if m.getD cap' = l.getD 0 then some ⟨c, o, none⟩ else some ⟨c, o + l.getD 0 * ei.size, none⟩) (h.getD xs.length - l.getD 0) (m.getD cap' - l.getD 0)) w := by
              simp [Instr.sliceAt, Instr.slice, run_underl hu, hb, run_size' he, addr_add]
            have hexact : (if m.isSome then true else (ex && h.getD xs.length == xs.length)) = true → m.getD cap' - l.getD 0 = h.getD xs.length - l.getD 0 := by
              intro hx
              cases m with
              | none =>
                simp at hx
                have := h2 hx.1
                simp; omega
              | some m' => have := hm3 m' rfl; simp; omega
            have hlen : ((xs.take (h.getD xs.length)).drop (l.getD 0)).length = h.getD xs.length - l.getD 0 := by simp; omega
            refine ⟨_, run, ?_⟩
            by_cases hml : m.getD cap' = l.getD 0
            · rw [if_pos hml]
              have hnil : (xs.take (h.getD xs.length)).drop (l.getD 0) = [] := List.eq_nil_of_length_eq_zero (by rw [hlen]; omega)
              rw [hnil, show h.getD xs.length - l.getD 0 = 0 by omega]
              exact .vs0 _ _ _ _ _ _ (fun _ => by omega)
            · rw [if_neg hml]
              have hget : ∀ (i : Nat) (y : List AV), ((xs.take (h.getD xs.length)).drop (l.getD 0))[i]? = some y → xs[l.getD 0 + i]? = some y := by
                intro i y hy
                rw [List.getElem?_drop, List.getElem?_take] at hy
                split at hy
                · exact hy
                · cases hy
              have hle2 : h.getD xs.length - l.getD 0 ≤ m.getD cap' - l.getD 0 := by omega
              rw [← hlen] at hle2 hexact ⊢
              refine RV.vs ls β ei.size _ _ c (o + l.getD 0 * ei.size) (m.getD cap' - l.getD 0) (fun i j => f (l.getD 0 + i) j) hle2 hexact (fun i y hy => ?_) (fun i y hy j x hx => ?_) (fun i y hy j x hx => r _ y (hget i y hy) j x hx)
              · rw [hszz]; exact h3 _ y (hget i y hy)
              · obtain ⟨arr, e1, e2⟩ := h4 _ y (hget i y hy) j x hx
                refine ⟨arr, e1, ?_⟩
                rw [← e2, hszz]; congr 1; rw [Nat.add_mul]; omega
          · cases hv
        · cases hv
      | vs0 _ β sz' ex ad cap' h2 =>
        simp only at hv
        split at hv
        · split at hv
          · rename_i hle
            simp only [List.length_nil] at hle
            have hm1 : m.getD cap' ≤ cap' ∧ h.getD 0 ≤ m.getD cap' ∧ ∃ ex', v = .vs β ei.size ex' [] ∧ (ex' = true → m.getD cap' - l.getD 0 = 0) := by
              cases m with
              | none =>
                injection hv with hv
                refine ⟨by simp, by omega, (ex && h.getD 0 == 0), by rw [← hv]; simp, fun hx => ?_⟩
                simp at hx
                have := h2 hx.1
                simp; omega
              | some m' =>
                simp only at hv
                split at hv
                · rename_i hmm
                  injection hv with hv
                  simp at hmm
                  exact ⟨by simp; omega, by simp; omega, true, by simp [← hv], fun _ => by simp; omega⟩
                · cases hv
            obtain ⟨hm1, hm2, ex', rfl, hx⟩ := hm1
            have hb := run_sliceBounds (P := P) (w := w) (isSl := true) (len := 0) (cap := cap') ol oh om hm (by omega) hm2 hm1
            have run : (Instr.sliceAt t (.slice (some ad) 0 cap') lo hi mx).run P w = .ok (.slice (some (if m.getD cap' = l.getD 0 then ad else ad.add (l.getD 0 * ei.size))) 0 (m.getD cap' - l.getD 0)) w := by
              simp [Instr.sliceAt, Instr.slice, run_underl hu, hb, run_size' he]
              refine ⟨by split <;> rfl, by omega⟩
            exact ⟨_, run, .vs0 _ _ _ _ _ _ hx⟩
          · cases hv
        · cases hv
      | vsn _ β sz' ex =>
        simp only at hv
        split at hv
        · split at hv
          · rename_i hle
            simp only [List.length_nil] at hle
            have hm1 : h.getD 0 = 0 ∧ m.getD 0 = 0 ∧ ∃ ex', v = .vs β ei.size ex' [] := by
              cases m with
              | none =>
                injection hv with hv
                exact ⟨by omega, by simp, (ex && h.getD 0 == 0), by rw [← hv]; simp⟩
              | some m' =>
                simp only at hv
                split at hv
                · rename_i hmm
                  injection hv with hv
                  simp at hmm
                  exact ⟨by omega, by simp; omega, true, by simp [← hv]⟩
                · cases hv
            obtain ⟨hh0, hm0, ex', rfl⟩ := hm1
            have hb := run_sliceBounds (P := P) (w := w) (isSl := true) (len := 0) (cap := 0) ol oh om hm (by omega) (by omega) (by omega)
            have hl0 : l.getD 0 = 0 := by omega
            refine ⟨.slice none 0 0, ?_, .vsn _ _ _ _⟩
            simp [Instr.sliceAt, Instr.slice, run_underl hu, hb, hl0, hh0, hm0, run_size' he]
          · cases hv
        · cases hv
      | gs _ b g off len cap sz' ex c o n cap' hm0 h1 h2 h3 h4 =>
        simp only at hv
        split at hv
        · rename_i hszz
          subst hszz
          split at hv
          · rename_i hle
            injection hv with hv
            subst hv
            have hm1 : m.getD cap' ≤ cap' ∧ h.getD len ≤ m.getD cap' ∧ m.getD cap ≤ m.getD cap' ∧ ((ex || m.isSome) = true → m.getD cap' = m.getD cap) := by
              cases m with
              | none => simp at hle ⊢; exact ⟨by omega, by omega, h3⟩
              | some m' => simp at hle ⊢; omega
            have hb := run_sliceBounds (P := P) (w := w) (isSl := true) (len := len) (cap := cap') ol oh om hm hle.1 hm1.2.1 hm1.1
            have run : (Instr.sliceAt t (.slice (some ⟨c, o + off, none⟩) len cap') lo hi mx).run P w = .ok (.slice (if m.getD cap' = l.getD 0 then some ⟨c, o + off, none⟩ else some ⟨c, o + (off + l.getD 0 * ei.size), none⟩) (h.getD len - l.getD 0) (m.getD cap' - l.getD 0)) w := by
              simp [Instr.sliceAt, Instr.slice, run_underl hu, hb, run_size' he, addr_add, Nat.add_assoc]
            refine ⟨_, run, ?_⟩
            by_cases hml : m.getD cap' = l.getD 0
            · rw [if_pos hml]
              rw [show h.getD len - l.getD 0 = 0 by omega, show m.getD cap' - l.getD 0 = 0 by omega, show m.getD cap - l.getD 0 = 0 by omega]
              exact .gs0 _ _ _ _ _ _ _ _ _ _ hm0
            · rw [if_neg hml]
              refine .gs _ _ _ _ _ _ _ _ _ _ _ _ hm0 (by omega) (by omega) (fun hx => by rw [hm1.2.2.2 hx]) ?_
              have : l.getD 0 * ei.size + (m.getD cap' - l.getD 0) * ei.size ≤ cap' * ei.size := by
                rw [← Nat.add_mul]; exact Nat.mul_le_mul_right _ (by omega)
              omega
          · cases hv
        · cases hv
      | gs0 _ b g off sz' ex c o n ad hm0 =>
        simp only at hv
        split at hv
        · split at hv
          · rename_i hle
            injection hv with hv
            subst hv
            have hm1 : m.getD 0 = 0 := by omega
            have hb := run_sliceBounds (P := P) (w := w) (isSl := true) (len := 0) (cap := 0) ol oh om hm hle.1 hle.2.1 hle.2.2
            have run : (Instr.sliceAt t (.slice (some ad) 0 0) lo hi mx).run P w = .ok (.slice (some (if m.getD 0 = l.getD 0 then ad else ad.add (l.getD 0 * ei.size))) 0 0) w := by
              simp [Instr.sliceAt, Instr.slice, run_underl hu, hb, run_size' he]
              refine ⟨by split <;> rfl, by omega, by omega⟩
            rw [show h.getD 0 - l.getD 0 = 0 by omega, show m.getD 0 - l.getD 0 = 0 by omega]
            exact ⟨_, run, .gs0 _ _ _ _ _ _ _ _ _ _ hm0⟩
          · cases hv
        · cases hv
      | _ => simp at hv
end
end Go.AM

namespace Go.AM
section
variable {P : Program} {Γ : Glob} {ρ : Inj} {ls : List Nat} {s : St} {a : Act} {w : World}
theorem Lies.ofRVs {cs : List AV} {arr : Array Value} (h : RVs ρ ls cs arr.toList) : Lies ρ ls arr 0 cs := fun i x hx => by
  have hi := getElem?_lt hx
  have hl := h.1
  have hr := h.2 i x hx
  simp at hl
  rw [getD_toList] at hr
  refine ⟨arr[i]'(by omega), by simp, ?_⟩
  simpa [Array.getD, show i < arr.size by omega] using hr
theorem RVs.ofLies {cs : List AV} {arr : Array Value} (h : Lies ρ ls arr 0 cs) (hl : cs.length = arr.size) : RVs ρ ls cs arr.toList :=
  ⟨by simpa using hl, fun i x hx => by
    obtain ⟨y, hy, r⟩ := h i x hx
    rw [Nat.zero_add] at hy
    rw [getD_toList]
    simp [Array.getD_eq_getD_getElem?, hy, r]⟩
theorem RVs.noLp {cs : List AV} {vs : List Value} (h : RVs ρ ls cs vs) (hc : cs.all Go.AM.noLp = true) (ls' : List Nat) : RVs ρ ls' cs vs :=
  ⟨h.1, fun i x hx => (h.2 i x hx).noLp (List.all_eq_true.1 hc x (List.mem_of_getElem? hx)) ls'⟩
theorem RVs.oneCell {cs : List AV} {vs : List Value} (h : RVs ρ ls cs vs) (hc : cs.all isCell = true) : ∀ v ∈ vs, v.oneCell' = true := fun v hv => by
  obtain ⟨i, hi⟩ := List.mem_iff_getElem?.1 hv
  have hlt := getElem?_lt hi
  have hl := h.1
  have hx : cs[i]? = some (cs[i]'(by omega)) := List.getElem?_eq_getElem _
  have hr := h.2 i _ hx
  rw [List.getD_eq_getElem?_getD, hi] at hr
  exact hr.oneCell (List.all_eq_true.1 hc _ (List.mem_of_getElem? hx))
theorem RVs.append {cs cs' : List AV} {vs vs' : List Value} (h : RVs ρ ls cs vs) (h' : RVs ρ ls cs' vs') : RVs ρ ls (cs ++ cs') (vs ++ vs') :=
  ⟨by simp [h.1, h'.1], fun i x hx => by
    rw [List.getD_eq_getElem?_getD]
    by_cases hi : i < cs.length
    · rw [List.getElem?_append_left hi] at hx
      rw [List.getElem?_append_left (by rw [← h.1]; exact hi), ← List.getD_eq_getElem?_getD]
      exact h.2 i x hx
    · rw [List.getElem?_append_right (by omega)] at hx
      rw [List.getElem?_append_right (by rw [← h.1]; omega), ← h.1, ← List.getD_eq_getElem?_getD]
      exact h'.2 _ x hx⟩
theorem RVs.take {cs : List AV} {vs : List Value} (h : RVs ρ ls cs vs) (n : Nat) : RVs ρ ls (cs.take n) (vs.take n) :=
  ⟨by simp [h.1], fun i x hx => by
    rw [List.getElem?_take] at hx
    split at hx
    · rename_i hi
      rw [List.getD_eq_getElem?_getD, List.getElem?_take, if_pos hi, ← List.getD_eq_getElem?_getD]
      exact h.2 i x hx
    · cases hx⟩
theorem RVs.replicate {z : List AV} {vs : List Value} (h : RVs ρ ls z vs) : ∀ n, RVs ρ ls (List.replicate n z).flatten (List.replicate n vs).flatten
  | 0 => ⟨rfl, fun i x hx => by simp at hx⟩
  | n + 1 => by
    simp only [List.replicate_succ, List.flatten_cons]
    exact h.append (RVs.replicate h n)
theorem foldl_set (l : List Value) : ∀ (k off : Nat) (arr : Array Value), (l.zipIdx k).foldl (fun cs (p : Value × Nat) => cs.setIfInBounds (off + p.2) p.1) arr = setRange arr (off + k) l := by
  induction l with
  | nil => intro k off arr; rfl
  | cons v r ih =>
    intro k off arr
    simp only [List.zipIdx_cons, List.foldl_cons, setRange]
    rw [ih (k + 1) off, Nat.add_assoc]
theorem fill_ok (place : Nat → Option (Nat × Nat)) : ∀ (ps : List (Nat × Nat × AV)) (vs : List (Nat × Value)) (cells : List AV) (arr : Array Value) (res : List AV),
    ps.length = vs.length → (∀ (i : Nat) p v, ps[i]? = some p → vs[i]? = some v → place v.1 = some (p.1, p.2.1) ∧ RV ρ ls p.2.2 v.2) →
    RVs ρ ls cells arr.toList → fillA cells ps = some res → ∃ arr', Instr.fill place arr vs = some arr' ∧ RVs ρ ls res arr'.toList := by
  intro ps
  induction ps with
  | nil =>
    intro vs cells arr res hl _ hr hf
    cases vs with
    | nil => simp only [fillA, Option.some.injEq] at hf; subst hf; exact ⟨arr, rfl, hr⟩
    | cons _ _ => simp at hl
  | cons p r ih =>
    intro vs cells arr res hl hp hr hf
    cases vs with
    | nil => simp at hl
    | cons v vr =>
      obtain ⟨off, size, x⟩ := p
      obtain ⟨i, v⟩ := v
      have h0 := hp 0 _ _ rfl rfl
      simp only at h0
      simp only [fillA] at hf
      split at hf
      · rename_i cs hcs
        split at hf
        · rename_i hsz
          split at hf
          · rename_i hle
            have hc := cells_RV h0.2 hcs
            have hlc := hc.1
            have hla := hr.1
            simp at hlc hla
            have e : (v.cells.zipIdx.foldl (fun cs (p : Value × Nat) => cs.setIfInBounds (off + p.2) p.1) arr) = setRange arr off v.cells.toList := by
              rw [← Array.foldl_toList, Array.toList_zipIdx, foldl_set]; rfl
            have hlies : RVs ρ ls (over cells off cs) (setRange arr off v.cells.toList).toList := by
              refine RVs.ofLies ?_ (by rw [over_length hle, setRange_size]; exact hla)
              have := (Lies.ofRVs hr).over hle (by omega) hc
              rwa [Nat.zero_add] at this
            obtain ⟨arr', h1, h2⟩ := ih vr _ (setRange arr off v.cells.toList) res (by simpa using hl) (fun j p v hp' hv => hp (j + 1) p v hp' hv) hlies hf
            refine ⟨arr', ?_, h2⟩
            simp only [Instr.fill, h0.1]
            rw [if_neg (by simp; omega)]
            rw [show (fun (cs : Array Value) (x : Value × Nat) => match x with | (c, j) => cs.setIfInBounds (off + j) c) = (fun cs (p : Value × Nat) => cs.setIfInBounds (off + p.2) p.1) from rfl, e]
            exact h1
          · cases hf
        · cases hf
      · cases hf
theorem TF.zero {t : TypeId} {ti : TI} (h : TF P t ti) (w : World) (ρ : Inj) (ls : List Nat) : ∃ z, (zeroValue t).run P w = .ok z w ∧ RVs ρ ls ti.zero z.cells.toList ∧ z.cells.size = ti.size := by
  obtain ⟨i, d, z, h1, h2, h3, h4, h5, h6, h7, h8, h9⟩ := h.info
  exact ⟨z, run_zero h1 h5, by rw [← h7]; exact RVs_map _, h8⟩
theorem box_glob (mem : RH ρ ls s.loc s.heap w) {T : TypeId} {cs : List AV} {vs : Array Value} (hr : RVs ρ ls cs vs.toList) (hc : cs.all noLp = true) :
    ∃ ρ', RH ρ' ls (s.push cs).loc (s.push cs).heap { w with heap := w.heap.push (.cells vs T (0, 0)) } ∧ Evo ρ ls s.heap w ρ' ls (s.push cs).heap { w with heap := w.heap.push (.cells vs T (0, 0)) } ∧
      ρ'.m s.heap.length 0 = some (w.heap.size, 0, vs.size) := by
  have hl := hr.1
  simp at hl
  have h := mem.newHeap (NewB.push w (.cells vs T (0, 0))) (.inl (by simp)) (by omega) (Lies.ofRVs (hr.noLp hc []))
  exact ⟨_, h.1, h.2, Inj.ins_self _ _ _ _⟩
theorem box_loc (mem : RH ρ ls s.loc s.heap w) {T : TypeId} {cs : List AV} {vs : Array Value} (hr : RVs ρ ls cs vs.toList) :
    RH ρ (ls ++ [w.heap.size]) (s.loc ++ [cs]) s.heap { w with heap := w.heap.push (.cells vs T (0, 0)) } ∧ Evo ρ ls s.heap w ρ (ls ++ [w.heap.size]) s.heap { w with heap := w.heap.push (.cells vs T (0, 0)) } := by
  have hl := hr.1
  simp at hl
  exact mem.newLoc (NewB.push w (.cells vs T (0, 0))) hl (Lies.ofRVs hr)
theorem rows_eq (n : Nat) (z : Array Value) (sz : Nat) (hz : z.size = sz) (h0 : n * sz = 0 → n = 0 ∨ sz = 0) :
    ((Array.range (n * sz)).map (z[· % z.size]!)).toList = (List.replicate n z.toList).flatten := by
  subst hz
  apply List.ext_getElem?
  intro i
  have hlen : (List.replicate n z.toList).flatten.length = n * z.size := by simp
  by_cases hi : i < n * z.size
  · have hpos : 0 < z.size := by
      rcases Nat.eq_zero_or_pos z.size with h | h
      · rw [h] at hi; simp at hi
      · exact h
    have key : ∀ n i, i < n * z.size → (List.replicate n z.toList).flatten[i]? = some (z[i % z.size]'(Nat.mod_lt _ hpos)) := by
      intro n
      induction n with
      | zero => intro i hi; simp at hi
      | succ n ih =>
        intro i hi
        rw [List.replicate_succ, List.flatten_cons]
        by_cases hlt : i < z.size
        · rw [List.getElem?_append_left (by simpa using hlt)]
          simp [Nat.mod_eq_of_lt hlt, hlt]
        · rw [List.getElem?_append_right (by simp; omega)]
          simp only [Array.length_toList]
          rw [ih (i - z.size) (by rw [Nat.succ_mul] at hi; omega)]
          congr 1
          have : i % z.size = (i - z.size) % z.size := by rw [Nat.mod_eq_sub_mod (by omega)]
          simp only [this]
    rw [key n i hi]
    simp [hi, Nat.mod_lt _ hpos]
  · rw [List.getElem?_eq_none (by simp; omega), List.getElem?_eq_none (by rw [hlen]; omega)]
end
end Go.AM

namespace Go.AM
section
variable {P : Program} {Γ : Glob} {ρ : Inj} {ls : List Nat} {s : St} {a : Act} {w : World}
theorem store_mem (mem : RH ρ ls s.loc s.heap w) {x : AV} {xv : Value} (r : RV ρ ls x xv) {cs : List AV} {vs : List Value} (hr : RVs ρ ls cs vs) {s' : St} (h : s.store x cs = some s') :
    ∃ c o w', xv = .pointer (some ⟨c, o, none⟩) ∧ (storeCells ⟨c, o, none⟩ vs).run P w = .ok () w' ∧ s'.env = s.env ∧ RH ρ ls s'.loc s'.heap w' ∧ Evo ρ ls s.heap w ρ ls s'.heap w' := by
  cases r with
  | lp _ i off c hl =>
    simp only [St.store] at h
    cases hL : s.loc[i]? with
    | none => simp [hL] at h
    | some l =>
      simp only [hL, Option.bind_some] at h
      split at h
      · rename_i hle
        split at h
        · rename_i hcell
          injection h with h
          subst h
          obtain ⟨c', arr, T, fr, e1, e2, e3, e4, e5⟩ := mem.lp i l hL
          rw [hl] at e1
          injection e1 with e1
          subst e1
          have hlen := hr.1
          obtain ⟨w', hrun, hb⟩ := run_storeCells' (P := P) c T fr vs off 0 w arr e2 e3 (by omega) (hr.oneCell hcell)
          have hlies := e5.over hle (by omega) hr
          rw [Nat.zero_add] at hlies
          have hres := mem.setLoc hL hl (l' := over l off cs) hb (setRange_size _ _ _) e3 (by rw [over_length hle, setRange_size, e4]) hlies
          exact ⟨c, off, w', rfl, hrun, rfl, hres.1, hres.2⟩
        · cases h
      · cases h
  | gp _ b g off c o n hm =>
    simp only [St.store] at h
    cases hb : hget s.heap b with
    | none => simp [hb] at h
    | some e =>
      obtain ⟨g', l⟩ := e
      simp only [hb, Option.bind_some] at h
      split at h
      · rename_i hg
        have hg' : g' = g := hg
        subst hg'
        split at h
        · rename_i hle
          split at h
          · rename_i hcell
            injection h with h
            subst h
            obtain ⟨c', o', n', arr, T, fr, e1, e2, e3, e4, e5, e6⟩ := mem.hp b g' l (hget_spec hb)
            rw [hm] at e1
            injection e1 with e1
            injection e1 with e1 e1'
            injection e1' with e1' e1''
            subst e1 e1' e1''
            have hlen := hr.1
            obtain ⟨w', hrun, hsb⟩ := run_storeCells' (P := P) c T fr vs (o + off) 0 w arr e2 e4 (by omega) (hr.oneCell (by
              rw [List.all_eq_true] at *; exact fun x hx => isCell_of_noLp (hcell x hx)))
            have hlies := e6.over hle (by omega) (hr.noLp hcell [])
            have hres := mem.setHeap (hget_spec hb) hm (l' := over l off cs) hsb (setRange_size _ _ _) e3 e4 (by rw [over_length hle]; omega) hlies
            exact ⟨c, o + off, w', rfl, hrun, rfl, hres.1, hres.2⟩
          · cases h
        · cases h
      · cases h
  | _ => simp [St.store] at h
theorem storeAt_run {t : TypeId} {ti : TI} (ht : TF P t ti) {c o : Nat} {v : Value} (hsz : v.cells.size = ti.size) {w' : World} (h : (storeCells ⟨c, o, none⟩ v.cells.toList).run P w = .ok () w') :
    (Instr.storeAt t (.pointer (some ⟨c, o, none⟩)) v).run P w = .ok () w' := by
  simp [Instr.storeAt, Instr.sureAddr, storeVar, run_size' ht, hsz, h]
theorem wrap64_id {n : Int} (h0 : 0 ≤ n) (h1 : n < 9223372036854775808) : IntKind.i64.wrap n = n := by
  have e : n % (2 ^ IntKind.i64.bits : Int) = n := Int.emod_eq_of_lt h0 (by show n < 2 ^ 64; omega)
  unfold IntKind.wrap
  simp only [e]
  rw [if_neg]
  simp only [Bool.and_eq_true, decide_eq_true_eq, not_and]
  intro _
  show ¬ n ≥ 2 ^ 63
  omega
theorem mks_run {t e : TypeId} {ei : TI} (hu : P.underlying t = some (.slice e)) (he : TF P e ei) {k k' : IntKind} {n : Int} (h0 : 0 ≤ n) (hn : n.toNat * (ei.bytes + ei.size + 1) ≤ maxMade) :
    ∃ arr : Array Value, (Instr.makeSlice t (.int k n) (.int k' n)).run P w = .ok (.slice (some ⟨w.heap.size, 0, none⟩) n.toNat n.toNat) { w with heap := w.heap.push (.cells arr e (0, 0)) } ∧
      (∀ ρ ls, RVs ρ ls (List.replicate n.toNat ei.zero).flatten arr.toList) := by
  obtain ⟨i, d, z, h1, h2, h3, h4, h5, h6, h7, h8, h9⟩ := he.info
  have hm : maxMade = 1099511627776 := rfl
  have hb : n.toNat * ei.bytes ≤ maxMade := Nat.le_trans (Nat.mul_le_mul_left _ (by omega)) hn
  have hs : n.toNat * ei.size ≤ maxMade := Nat.le_trans (Nat.mul_le_mul_left _ (by omega)) hn
  have h1' : n.toNat * 1 ≤ maxMade := Nat.le_trans (Nat.mul_le_mul_left _ (by omega)) hn
  have hlt : n < 9223372036854775808 := by omega
  have hwrap := wrap64_id h0 hlt
  have hbytes : (i.bytes : Int) * n ≤ 2 ^ 48 := by
    have : ((n.toNat * ei.bytes : Nat) : Int) ≤ 1099511627776 := by omega
    rw [h4]
    have e : (ei.bytes : Int) * n = ((n.toNat * ei.bytes : Nat) : Int) := by
      rw [Int.natCast_mul, Int.toNat_of_nonneg h0, Int.mul_comm]
    omega
  refine ⟨(Array.range (n.toNat * i.size)).map ((if n.toNat * i.size = 0 then #[] else z.cells)[· % (if n.toNat * i.size = 0 then #[] else z.cells).size]!), ?_, ?_⟩
  · have hnn : ¬ n < 0 := by omega
    have hnb : ¬ (281474976710656 : Int) < i.bytes * n := by omega
    by_cases hz : n.toNat * i.size = 0
    · simp [Instr.makeSlice, run_underl hu, Go.asInt, asIntOf, run_typeInfo h1, hwrap, hnn, hnb, run_size h1, hz, newRow]
    · simp [Instr.makeSlice, run_underl hu, Go.asInt, asIntOf, run_typeInfo h1, hwrap, hnn, hnb, run_size h1, hz, newRow, run_zero h1 h5]
  · intro ρ ls
    have hz' : RVs ρ ls ei.zero z.cells.toList := by rw [← h7]; exact RVs_map _
    by_cases hz : n.toNat * i.size = 0
    · have hlen : (List.replicate n.toNat ei.zero).flatten = [] := by
        apply List.eq_nil_of_length_eq_zero
        have : ei.zero.length = i.size := by have := hz'.1; simp at this; omega
        simp [this]
        simpa using hz
      rw [hlen]
      simp only [hz]
      exact ⟨by simp, fun i x hx => by simp at hx⟩
    · simp only [hz, if_false]
      rw [rows_eq n.toNat z.cells i.size (by omega) (fun h => absurd h hz)]
      exact hz'.replicate _
theorem bsl_run {t e : TypeId} {ei : TI} (hu : P.underlying t = some (.slice e)) (he : TF P e ei) {len : Nat} {ps : List (Nat × AV)} {vs : List (Nat × Value)} {cs : List AV}
    (hl : ps.length = vs.length) (hp : ∀ (i : Nat) p v, ps[i]? = some p → vs[i]? = some v → p.1 = v.1 ∧ RV ρ ls p.2 v.2) (hsz : len * ei.size ≤ 16777216)
    (h : fillA (List.replicate len ei.zero).flatten (ps.map fun p => (p.1 * ei.size, ei.size, p.2)) = some cs) :
    ∃ arr : Array Value, (Instr.buildSlice t len vs.toArray).run P w = .ok (.slice (some ⟨w.heap.size, 0, none⟩) len len) { w with heap := w.heap.push (.cells arr e (0, 0)) } ∧ RVs ρ ls cs arr.toList := by
  obtain ⟨i, d, z, h1, h2, h3, h4, h5, h6, h7, h8, h9⟩ := he.info
  have hz' : RVs ρ ls ei.zero z.cells.toList := by rw [← h7]; exact RVs_map _
  have hzl : ei.zero.length = i.size := by have := hz'.1; simp at this; omega
  have hbase : RVs ρ ls (List.replicate len ei.zero).flatten ((Array.range (len * i.size)).map ((if len * i.size = 0 then #[] else z.cells)[· % (if len * i.size = 0 then #[] else z.cells).size]!)).toList := by
    by_cases hz : len * i.size = 0
    · have hlen : (List.replicate len ei.zero).flatten = [] := by
        apply List.eq_nil_of_length_eq_zero
        simp [hzl]
        simpa using hz
      rw [hlen]
      simp only [hz]
      exact ⟨by simp, fun i x hx => by simp at hx⟩
    · simp only [hz, if_false]
      rw [rows_eq len z.cells i.size (by omega) (fun h => absurd h hz)]
      exact hz'.replicate _
  obtain ⟨arr', hf, hr⟩ := fill_ok (fun k => some (k * i.size, i.size)) (ps.map fun p => (p.1 * ei.size, ei.size, p.2)) vs _ _ cs (by simpa using hl) (fun j p v hp' hv => by
    rw [List.getElem?_map] at hp'
    cases hq : ps[j]? with
    | none => simp [hq] at hp'
    | some q =>
      simp [hq] at hp'
      subst hp'
      obtain ⟨e1, e2⟩ := hp j q v hq hv
      exact ⟨by simp [e1, h3], e2⟩) hbase h
  refine ⟨arr', ?_, hr⟩
  have hng : ¬ len * i.size > 2 ^ 24 := by rw [h3]; omega
  by_cases hz : len * i.size = 0
  · simp only [hz] at hf
    simp [Instr.buildSlice, run_underl hu, run_size h1, hz, newRow] at hf ⊢
    simp [hf]
  · simp only [hz, if_false] at hf
    simp [Instr.buildSlice, run_underl hu, run_size h1, hz, hng, newRow, run_zero h1 h5]
    simp [hf]
end
end Go.AM

namespace Go.AM
section
variable {P : Program} {Γ : Glob} {ρ : Inj} {ls : List Nat} {s : St} {a : Act} {w : World}
theorem growBy_le (m : Nat) : ∀ (k c : Nat), c ≤ 2 * m + 192 → Builtin.growBy m k c ≤ 2 * m + 192
  | 0, c, h => h
  | k + 1, c, h => by
    unfold Builtin.growBy
    split
    · exact h
    · exact growBy_le m k _ (by omega)
theorem nextcap_le {m c : Nat} (h : c < m) : Builtin.nextslicecap m c ≤ 2 * m + 192 := by
  unfold Builtin.nextslicecap
  split
  · omega
  · split
    · omega
    · exact growBy_le _ _ _ (by omega)
structure Source (P : Program) (w : World) (size : Nat) (y : Value) (n : Nat) (vals : List Value) : Prop where
  len : ∀ w', (Builtin.lenOf y).run P w' = .ok n w'
  cells : ∀ w', w'.heap = w.heap → (Builtin.firstCells size n y).run P w' = .ok vals.toArray w'
  size : vals.length = n * size
theorem Source.mk_slice {size n cap : Nat} {A : Option Addr} {vals : List Value} (hl : vals.length = n * size) (h0 : n ≠ 0 → A.isSome)
    (h : ∀ ad, A = some ad → ∀ (j : Nat) (u : Value), vals[j]? = some u → w.cell? (ad.add j) = some u) : Source P w size (.slice A n cap) n vals := by
  refine ⟨fun w' => rfl, fun w' hw => ?_, hl⟩
  cases A with
  | none =>
    have : n = 0 := by
      rcases Nat.eq_zero_or_pos n with h | h
      · exact h
      · have := h0 (by omega); simp at this
    subst this
    have : vals = [] := List.eq_nil_of_length_eq_zero (by simpa using hl)
    subst this
    rfl
  | some ad =>
    have hc : ∀ (j : Nat) (u : Value), vals[j]? = some u → w'.cell? (ad.add j) = some u := fun j u hu => by
      have := h ad rfl j u hu
      simpa [World.cell?, hw] using this
    have := run_loadCells_list (P := P) (w := w') ad vals hc
    simp only [Builtin.firstCells]
    rw [← hl]; exact this
theorem Source.mk_str {size : Nat} (sb : ByteArray) (hs : size = 1) : Source P w size (.string sb) sb.size (sb.data.toList.map fun b => Value.int .u8 b.toNat) := by
  subst hs
  refine ⟨fun w' => rfl, fun w' _ => ?_, by simp⟩
  have e : sb.extract 0 sb.size = sb := by simp
  simp [Builtin.firstCells, e]
  apply Array.ext'
  simp
theorem src_ok (mem : RH ρ ls s.loc s.heap w) {sz : Nat} {str : Bool} {y : AV} {yv : Value} (r : RV ρ ls y yv) {ys : List AV} {n : Nat} (h : srcCells s sz str y = some ys) (hn : lenOf y = some n) :
    ∃ vals, Source P w sz yv n vals ∧ RVs ρ ls ys vals := by
  unfold srcCells at h
  split at h
  · rename_i sb
    cases r
    split at h
    · rename_i h1
      injection h with h
      simp only [lenOf, Option.some.injEq] at hn
      subst h hn
      refine ⟨_, .mk_str sb h1, by simp [byteCells], fun i x hx => ?_⟩
      simp only [byteCells, List.getElem?_map] at hx
      cases hb : sb.data.toList[i]? with
      | none => simp [hb] at hx
      | some b =>
        simp [hb] at hx
        subst hx
        rw [List.getD_eq_getElem?_getD, List.getElem?_map, hb]
        exact .int _ _ _
    · cases h
  · obtain ⟨A, cap, vals, rfl, h1, h2, _, h4, h5⟩ := sliceCells_ok mem r h hn
    exact ⟨vals, .mk_slice h1 h4 h5, h2⟩
  · cases h
theorem append_fit {t tx ty e : TypeId} {ei : TI} (hu : P.underlying t = some (.slice e)) (he : TF P e ei) {d : TypeDesc} (hux : P.underlying tx = some d) (hd : ∀ k, d ≠ .int k)
    {A : Option Addr} {sl sc n : Nat} {y : Value} {vals : List Value} (src : Source P w ei.size y n vals) (hfit : sl + n ≤ sc) {w' : World}
    (hst : ∀ ad, A = some ad → (storeCells (ad.add (sl * ei.size)) vals).run P w = .ok () w') (hnone : A = none → w' = w) :
    (Builtin.append_ #[t, tx] ty #[.slice A sl sc, y]).run P w = .ok (.slice A (sl + n) sc) w' := by
  cases A with
  | none =>
    rw [hnone rfl]
    simp [Builtin.append_, run_underl hu, run_size' he, run_underl hux, src.len, src.cells w rfl, hfit]
  | some ad =>
    simp [Builtin.append_, run_underl hu, run_size' he, run_underl hux, src.len, src.cells w rfl, hfit, hst ad rfl]
theorem append_grow {t tx ty e : TypeId} {ei : TI} (hu : P.underlying t = some (.slice e)) (he : TF P e ei) {d : TypeDesc} (hux : P.underlying tx = some d) (hd : ∀ k, d ≠ .int k)
    {A : Option Addr} {sl sc n : Nat} {y : Value} {vals olds : List Value} (src : Source P w ei.size y n vals) (base : Source P w ei.size (.slice A sl sc) sl olds) (hgrow : sc < sl + n)
    (hsz : 0 < ei.size) (hb : (sl + n) * (ei.size + ei.bytes) ≤ maxMade) :
    ∃ (newCap : Nat) (arr : Array Value) (w' : World), (Builtin.append_ #[t, tx] ty #[.slice A sl sc, y]).run P w = .ok (.slice (some ⟨w.heap.size, 0, none⟩) (sl + n) newCap) w' ∧ sl + n ≤ newCap ∧
      arr.size = newCap * ei.size ∧ NewB w (.cells arr e (0, 0)) w' ∧ ∃ rest, arr.toList = olds ++ vals ++ rest := by
  obtain ⟨i, d', z, h1, h2, h3, h4, h5, h6, h7, h8, h9⟩ := he.info
  have hm : maxMade = 1099511627776 := rfl
  have hbytes : (sl + n) * ei.bytes ≤ maxMade := Nat.le_trans (Nat.mul_le_mul_left _ (by omega)) hb
  have hpos : 1 ≤ sl + n := by omega
  have hb1 : ei.bytes ≤ maxMade := Nat.le_trans (by have := Nat.mul_le_mul_right ei.bytes hpos; omega) hbytes
  have hcap : Builtin.nextslicecap (sl + n) sc * i.bytes ≤ 281474976710656 := by
    have hnc := nextcap_le hgrow
    rw [h4]
    have : Builtin.nextslicecap (sl + n) sc * ei.bytes ≤ (2 * (sl + n) + 192) * ei.bytes := Nat.mul_le_mul_right _ hnc
    have e : (2 * (sl + n) + 192) * ei.bytes = 2 * ((sl + n) * ei.bytes) + 192 * ei.bytes := by rw [Nat.add_mul, Nat.mul_assoc]
    omega
  have hnfit : ¬ sl + n ≤ sc := by omega
  have hncap : ¬ 281474976710656 < Builtin.nextslicecap (sl + n) sc * i.bytes := by omega
  generalize hq : Question.appendCap (sl + n) sc e = q
  have hforced : q.forced = false := by subst hq; rfl
  have hcut : ∀ x, sl + n ≤ q.cut x := by intro x; subst hq; simp [Question.cut]
  generalize hN : q.cut (w.tape w.drawn q) = N
  have hN' : sl + n ≤ N := by rw [← hN]; exact hcut _
  refine ⟨N, olds.toArray ++ (vals.toArray ++ Builtin.zeroCells z.cells (N - (sl + n))), (w.drew).alloc (.cells (olds.toArray ++ (vals.toArray ++ Builtin.zeroCells z.cells (N - (sl + n)))) e), ?_, hN', ?_, ?_, (Builtin.zeroCells z.cells (N - (sl + n))).toList, by simp⟩
  · have hneed : sl + n ≤ maxMade := Nat.le_trans (by have := Nat.mul_le_mul_left (sl + n) (show 1 ≤ ei.size + ei.bytes by omega); omega) hb
    have hmax : ¬ ((sl : Int) + n > 9223372036854775807) := by omega
    have hmax' : ¬ ((9223372036854775807 : Int) < (sl : Int) + n) := by omega
    have e1 := base.cells w.drew rfl
    have e2 := src.cells w.drew rfl
    simp [Builtin.append_, run_underl hu, run_size' he, run_underl hux, src.len, hnfit, hmax', run_typeInfo h1, hncap, hq, hforced, hN, e1, e2, run_zero h1 h5, newRow]
  · simp [Builtin.zeroCells, base.size, src.size, h8, ← Nat.add_mul]
    congr 1; omega
  · exact ⟨(NewB.push w _).sz, (NewB.push w _).old, (NewB.push w _).new, rfl, rfl⟩
theorem appz_run {t tx ty e : TypeId} {ei : TI} (hu : P.underlying t = some (.slice e)) (he : TF P e ei) {k kn : IntKind} (hux : P.underlying tx = some (.int k)) {n : Nat} (h0 : 0 < n)
    (hsz : 0 < ei.size) (hb : n * (ei.size + ei.bytes) ≤ maxMade) :
    ∃ (newCap : Nat) (arr : Array Value) (w' : World) (vals : List Value), (Builtin.append_ #[t, tx] ty #[.slice none 0 0, .int kn (n : Int)]).run P w = .ok (.slice (some ⟨w.heap.size, 0, none⟩) n newCap) w' ∧ n ≤ newCap ∧
      arr.size = newCap * ei.size ∧ NewB w (.cells arr e (0, 0)) w' ∧ (∃ rest, arr.toList = vals ++ rest) ∧ ∀ ρ ls, RVs ρ ls (List.replicate n ei.zero).flatten vals := by
  obtain ⟨i, d', z, h1, h2, h3, h4, h5, h6, h7, h8, h9⟩ := he.info
  have hm : maxMade = 1099511627776 := rfl
  have hbytes : n * ei.bytes ≤ maxMade := Nat.le_trans (Nat.mul_le_mul_left _ (by omega)) hb
  have hsize : n * ei.size ≤ maxMade := Nat.le_trans (Nat.mul_le_mul_left _ (by omega)) hb
  have hn1 : n * 1 ≤ maxMade := Nat.le_trans (Nat.mul_le_mul_left _ (by omega)) hb
  have hgrow : 0 < 0 + n := by omega
  have hcap : Builtin.nextslicecap n 0 * i.bytes ≤ 281474976710656 := by
    have hnc := nextcap_le hgrow
    rw [Nat.zero_add] at hnc
    rw [h4]
    have : Builtin.nextslicecap n 0 * ei.bytes ≤ (2 * n + 192) * ei.bytes := Nat.mul_le_mul_right _ hnc
    have e : (2 * n + 192) * ei.bytes = 2 * (n * ei.bytes) + 192 * ei.bytes := by rw [Nat.add_mul, Nat.mul_assoc]
    have hb1 : ei.bytes ≤ maxMade := Nat.le_trans (by have := Nat.mul_le_mul_right ei.bytes (show 1 ≤ n by omega); omega) hbytes
    omega
  have hwrap : IntKind.i64.wrap (n : Int) = n := wrap64_id (by omega) (by omega)
  have hnn : ¬ ((n : Int) < 0) := by omega
  have hnb : ¬ ((281474976710656 : Int) < (n : Int) * i.bytes) := by
    rw [h4, ← Int.natCast_mul]; omega
  have hncap : ¬ 281474976710656 < Builtin.nextslicecap n 0 * i.bytes := by omega
  have hmax' : ¬ ((9223372036854775807 : Int) < (n : Int)) := by omega
  have hne : n ≠ 0 := by omega
  have hse : ei.size ≠ 0 := by omega
  have hsi : i.size ≠ 0 := by omega
  generalize hq : Question.appendCap n 0 e = q
  have hforced : q.forced = false := by subst hq; rfl
  have hcut : ∀ x, n ≤ q.cut x := by intro x; subst hq; simp [Question.cut]
  generalize hN : q.cut (w.tape w.drawn q) = N
  have hN' : n ≤ N := by rw [← hN]; exact hcut _
  refine ⟨N, Builtin.zeroCells z.cells n ++ Builtin.zeroCells z.cells (N - n), (w.drew).alloc (.cells (Builtin.zeroCells z.cells n ++ Builtin.zeroCells z.cells (N - n)) e), (Builtin.zeroCells z.cells n).toList, ?_, hN', ?_, ?_, ⟨(Builtin.zeroCells z.cells (N - n)).toList, by simp⟩, ?_⟩
  · simp [Builtin.append_, run_underl hu, run_size' he, run_underl hux, Go.asInt, asIntOf, hwrap, hnn, hnb, hne, hse, hsi, hmax', run_typeInfo h1, hncap, hq, hforced, hN, run_zero h1 h5, newRow, Builtin.firstCells]
    intro h; exact absurd h (Nat.mul_ne_zero hne hse)
  · simp [Builtin.zeroCells, h8, ← Nat.add_mul]
    congr 1; omega
  · exact ⟨(NewB.push w _).sz, (NewB.push w _).old, (NewB.push w _).new, rfl, rfl⟩
  · intro ρ ls
    have hz' : RVs ρ ls ei.zero z.cells.toList := by rw [← h7]; exact RVs_map _
    have : (Builtin.zeroCells z.cells n).toList = (List.replicate n z.cells.toList).flatten := by
      unfold Builtin.zeroCells
      exact rows_eq n z.cells z.cells.size rfl (fun h => by
        rcases Nat.mul_eq_zero.1 h with h | h
        · exact .inl h
        · exact .inr h)
    rw [this]
    exact hz'.replicate n
end
end Go.AM

namespace Go.AM
section
variable {P : Program} {Γ : Glob} {ρ : Inj} {ls : List Nat} {s : St} {a : Act} {w : World}
theorem Lies.ofPrefix {cs : List AV} {vs rest : List Value} {arr : Array Value} (h : RVs ρ ls cs vs) (e : arr.toList = vs ++ rest) : Lies ρ ls arr 0 cs := fun i x hx => by
  have hi := getElem?_lt hx
  have hr := h.2 i x hx
  have hl := h.1
  have : arr.toList[i]? = vs[i]? := by rw [e, List.getElem?_append_left (by omega)]
  rw [List.getD_eq_getElem?_getD, List.getElem?_eq_getElem (by omega)] at hr
  refine ⟨vs[i]'(by omega), ?_, hr⟩
  rw [Nat.zero_add, ← Array.getElem?_toList, this, List.getElem?_eq_getElem (by omega)]
theorem base_ok (mem : RH ρ ls s.loc s.heap w) {sz : Nat} {x : AV} {xv : Value} (r : RV ρ ls x xv) {cs : List AV} {n : Nat} (h : s.sliceCells sz x = some cs) (hn : lenOf x = some n) :
    ∃ A cap vals, xv = .slice A n cap ∧ Source P w sz xv n vals ∧ RVs ρ ls cs vals := by
  obtain ⟨A, cap, vals, rfl, h1, h2, _, h4, h5⟩ := sliceCells_ok mem r h hn
  exact ⟨A, cap, vals, rfl, .mk_slice h1 h4 h5, h2⟩
theorem app_ok (mem : RH ρ ls s.loc s.heap w) {t tx ty e : TypeId} {ei : TI} (hu : P.underlying t = some (.slice e)) (he : TF P e ei) {d : TypeDesc} (hux : P.underlying tx = some d) (hd : ∀ k, d ≠ .int k)
    {x : AV} {xv yv : Value} (rx : RV ρ ls x xv) {ys : List AV} {vals : List Value} {n m : Nat} (src : Source P w ei.size yv n vals) (ry : RVs ρ ls ys vals) (hm : lenOf x = some m)
    {v : AV} {s' : St} (h : aApp s ei.size ei.bytes x ys n m = some (v, s')) :
    s'.env = s.env ∧ ∃ cv w' ρ', (Builtin.append_ #[t, tx] ty #[xv, yv]).run P w = .ok cv w' ∧ RV ρ' ls v cv ∧ RH ρ' ls s'.loc s'.heap w' ∧ Evo ρ ls s.heap w ρ' ls s'.heap w' := by
  unfold aApp at h
  split at h
  · cases h
  · rename_i hsz
    split at h
    · cases h
    · rename_i hbound
      have hpos : 0 < ei.size := by omega
      have grow : ∀ {A : Option Addr} {sl sc : Nat} {olds : List Value} {cs : List AV}, xv = .slice A sl sc → sl = m → Source P w ei.size (.slice A sl sc) sl olds → RVs ρ ls cs olds → cs.all noLp = true → ys.all noLp = true → sc < sl + n →
          ∃ cv w' ρ', (Builtin.append_ #[t, tx] ty #[xv, yv]).run P w = .ok cv w' ∧ RV ρ' ls (.gs s.heap.length 0 0 (sl + n) (sl + n) ei.size false) cv ∧ RH ρ' ls (s.push (cs ++ ys)).loc (s.push (cs ++ ys)).heap w' ∧ Evo ρ ls s.heap w ρ' ls (s.push (cs ++ ys)).heap w' := by
        intro A sl sc olds cs hxv hsl base hcs hc1 hc2 hlt
        subst hxv hsl
        obtain ⟨N, arr, w', hrun, hN, hasz, nb, rest, hrest⟩ := append_grow (ty := ty) hu he hux hd src base hlt hpos (by omega)
        have hall : RVs ρ [] (cs ++ ys) (olds ++ vals) := (hcs.noLp hc1 []).append (ry.noLp hc2 [])
        have hlen := hall.1
        have hl2 : (olds ++ vals).length = (sl + n) * ei.size := by simp [base.size, src.size, Nat.add_mul]
        have hmul := Nat.mul_le_mul_right ei.size hN
        have hres := mem.newHeap (cs := cs ++ ys) nb (.inl (by simp)) (by omega) (Lies.ofPrefix hall hrest)
        exact ⟨_, w', _, hrun, .gs _ _ _ _ _ _ _ _ _ 0 arr.size N (Inj.ins_self _ _ _ _) (Nat.le_refl _) hN (by simp) (by omega), hres.1, hres.2⟩
      cases rx with
      | nils =>
        simp only [lenOf, Option.some.injEq] at hm
        subst hm
        simp only at h
        have base : Source P w ei.size (.slice none 0 0) 0 [] := .mk_slice (by simp) (by simp) (by simp)
        split at h
        · rename_i hn
          injection h with h
          injection h with h1 h2
          subst h1 h2 hn
          have hv : vals = [] := List.eq_nil_of_length_eq_zero (by have := src.size; simpa using this)
          refine ⟨rfl, _, w, ρ, append_fit hu he hux hd src (by omega) (by simp) (fun _ => rfl), ?_, mem, .refl _ _ _ _⟩
          exact .nils _
        · rename_i hn
          split at h
          · rename_i hc
            injection h with h
            injection h with h1 h2
            subst h1 h2
            obtain ⟨cv, w', ρ', g1, g2, g3, g4⟩ := grow (cs := []) rfl rfl base ⟨rfl, fun i x hx => by simp at hx⟩ rfl hc (by omega)
            simp only [List.nil_append, Nat.zero_add] at g2 g3 g4
            exact ⟨rfl, cv, w', ρ', g1, g2, g3, g4⟩
          · cases h
      | vs _ β sz' ex xs c o cap' f h1 h2 h3 h4 r =>
        have rx : RV ρ ls (.vs β sz' ex xs) (.slice (some ⟨c, o, none⟩) xs.length cap') := .vs _ β sz' ex xs c o cap' f h1 h2 h3 h4 r
        simp only [lenOf, Option.some.injEq] at hm
        subst hm
        simp only at h
        split at h
        · rename_i hn
          injection h with h
          injection h with e1 e2
          subst e1 e2 hn
          have hv : vals = [] := List.eq_nil_of_length_eq_zero (by have := src.size; simpa using this)
          subst hv
          refine ⟨rfl, _, w, ρ, append_fit hu he hux hd src (by omega) (fun ad _ => rfl) (by simp), rx, mem, .refl _ _ _ _⟩
        · split at h
          · rename_i hex
            split at h
            · rename_i hszz
              split at h
              · rename_i hc
                split at h
                · rename_i hc'
                  injection h with h
                  injection h with e1 e2
                  subst e1 e2
                  obtain ⟨A, cap, olds, e1, hb, hr⟩ := base_ok (P := P) mem rx (sz := ei.size) (cs := xs.flatten) (by simp [St.sliceCells, hszz]) rfl
                  have hcap := h2 hex
                  obtain ⟨cv, w', ρ', g1, g2, g3, g4⟩ := grow (cs := xs.flatten) rfl rfl hb hr hc' hc (by omega)
                  exact ⟨rfl, cv, w', ρ', g1, g2, g3, g4⟩
                · cases h
              · cases h
            · cases h
          · cases h
      | vs0 _ β sz' ex ad cap' h2 =>
        have rx : RV ρ ls (.vs β sz' ex []) (.slice (some ad) 0 cap') := .vs0 _ β sz' ex ad cap' h2
        simp only [lenOf, List.length_nil, Option.some.injEq] at hm
        subst hm
        simp only at h
        split at h
        · rename_i hn
          injection h with h
          injection h with e1 e2
          subst e1 e2 hn
          have hv : vals = [] := List.eq_nil_of_length_eq_zero (by have := src.size; simpa using this)
          subst hv
          refine ⟨rfl, _, w, ρ, append_fit hu he hux hd src (by omega) (fun ad _ => rfl) (by simp), rx, mem, .refl _ _ _ _⟩
        · split at h
          · rename_i hex
            split at h
            · rename_i hszz
              split at h
              · rename_i hc
                split at h
                · injection h with h
                  injection h with e1 e2
                  subst e1 e2
                  have base : Source P w ei.size (.slice (some ad) 0 cap') 0 [] := .mk_slice (by simp) (by simp) (by simp)
                  have hcap := h2 hex
                  obtain ⟨cv, w', ρ', g1, g2, g3, g4⟩ := grow (cs := []) rfl rfl base ⟨rfl, fun i x hx => by simp at hx⟩ rfl hc (by omega)
                  simp only [List.nil_append, Nat.zero_add] at g2 g3 g4
                  simp only [List.flatten_nil, List.nil_append, Nat.zero_add]
                  exact ⟨rfl, cv, w', ρ', g1, g2, g3, g4⟩
                · cases h
              · cases h
            · cases h
          · cases h
      | vsn _ β sz' ex =>
        have rx : RV ρ ls (.vs β sz' ex []) (.slice none 0 0) := .vsn _ β sz' ex
        simp only [lenOf, List.length_nil, Option.some.injEq] at hm
        subst hm
        simp only at h
        split at h
        · rename_i hn
          injection h with h
          injection h with e1 e2
          subst e1 e2 hn
          have hv : vals = [] := List.eq_nil_of_length_eq_zero (by have := src.size; simpa using this)
          subst hv
          refine ⟨rfl, _, w, ρ, append_fit hu he hux hd src (by omega) (fun ad _ => rfl) (by simp), rx, mem, .refl _ _ _ _⟩
        · split at h
          · rename_i hex
            split at h
            · rename_i hszz
              split at h
              · rename_i hc
                split at h
                · injection h with h
                  injection h with e1 e2
                  subst e1 e2
                  have base : Source P w ei.size (.slice none 0 0) 0 [] := .mk_slice (by simp) (by simp) (by simp)
                  obtain ⟨cv, w', ρ', g1, g2, g3, g4⟩ := grow (cs := []) rfl rfl base ⟨rfl, fun i x hx => by simp at hx⟩ rfl hc (by omega)
                  simp only [List.nil_append, Nat.zero_add] at g2 g3 g4
                  simp only [List.flatten_nil, List.nil_append, Nat.zero_add]
                  exact ⟨rfl, cv, w', ρ', g1, g2, g3, g4⟩
                · cases h
              · cases h
            · cases h
          · cases h
      | gs _ b g off len cap sz' ex c o N cap' hm0 h1 h2 h3 h4 =>
        have rx : RV ρ ls (.gs b g off len cap sz' ex) (.slice (some ⟨c, o + off, none⟩) len cap') := .gs _ b g off len cap sz' ex c o N cap' hm0 h1 h2 h3 h4
        simp only [lenOf, Option.some.injEq] at hm
        subst hm
        simp only at h
        cases hb : hget s.heap b with
        | none => simp [hb] at h
        | some e0 =>
          obtain ⟨g', l⟩ := e0
          simp only [hb, Option.bind_some] at h
          split at h
          · rename_i hg
            have hg' : g' = g := hg
            subst hg'
            split at h
            · rename_i hszz
              subst hszz
              split at h
              · rename_i hc
                obtain ⟨c', o', n', arr, T, fr, q1, q2, q3, q4, q5, q6⟩ := mem.hp b g' l (hget_spec hb)
                rw [hm0] at q1
                injection q1 with q1
                injection q1 with q1 q1'
                injection q1' with q1' q1''
                subst q1 q1' q1''
                have hyl := ry.1
                have hvl := src.size
                have hcell := ry.oneCell (by rw [List.all_eq_true] at *; exact fun x hx => isCell_of_noLp (hc x hx))
                split at h
                · rename_i hfit
                  split at h
                  · rename_i hin
                    injection h with h
                    injection h with e1 e2
                    subst e1 e2
                    have hmul : (len + n) * ei.size = len * ei.size + n * ei.size := Nat.add_mul _ _ _
                    obtain ⟨w', hrun, hsb⟩ := run_storeCells' (P := P) c T fr vals (o + off + len * ei.size) 0 w arr q2 q4 (by omega) hcell
                    have hle : off + len * ei.size + ys.length ≤ l.length := by omega
                    have hlies := q6.over (cs := ys) (off := off + len * ei.size) hle (by omega) (ry.noLp hc [])
                    rw [show o + (off + len * ei.size) = o + off + len * ei.size + 0 from by omega] at hlies
                    have hres := mem.setHeap (hget_spec hb) hm0 (l' := over l (off + len * ei.size) ys) hsb (setRange_size _ _ _) q3 q4 (by rw [over_length hle]; omega) hlies
                    refine ⟨rfl, _, w', ρ, append_fit hu he hux hd src (show len + n ≤ cap' by omega) (fun ad had => ?_) (by simp), ?_, hres.1, hres.2⟩
                    · injection had with had
                      subst had
                      rw [addr_add]; exact hrun
                    · exact .gs _ _ _ _ _ _ _ _ c o N cap' hm0 hfit h2 h3 h4
                  · cases h
                · rename_i hnfit
                  cases hsub : sub l off (len * ei.size) with
                  | none => simp [hsub] at h
                  | some xs =>
                    simp only [hsub, Option.map_some, Option.some.injEq, Prod.mk.injEq] at h
                    obtain ⟨e1, e2⟩ := h
                    subst e1 e2
                    obtain ⟨s1, s2, s3⟩ := sub_spec hsub
                    by_cases hcf : len + n ≤ cap'
                    · -- in place
                      have hmul : (len + n) * ei.size = len * ei.size + n * ei.size := Nat.add_mul _ _ _
                      have hcm := Nat.mul_le_mul_right ei.size hcf
                      obtain ⟨w', hrun, hsb⟩ := run_storeCells' (P := P) c T fr vals (o + off + len * ei.size) 0 w arr q2 q4 (by omega) hcell
                      have hlies : Lies ρ [] (setRange arr (o + off + len * ei.size + 0) vals) (o + off) (xs ++ ys) := by
                        intro i x hx
                        rw [setRange_get vals arr _ _ (by omega)]
                        by_cases hi : i < xs.length
                        · rw [List.getElem?_append_left hi] at hx
                          rw [if_neg (by omega)]
                          rw [s3 i (by omega)] at hx
                          obtain ⟨y, hy, r⟩ := q6 _ x hx
                          exact ⟨y, by rw [← hy]; congr 1; omega, r⟩
                        · rw [List.getElem?_append_right (by omega)] at hx
                          have hlt := getElem?_lt hx
                          rw [if_pos (by omega)]
                          have hr := (ry.noLp hc []).2 _ x hx
                          rw [List.getD_eq_getElem?_getD, List.getElem?_eq_getElem (by omega)] at hr
                          refine ⟨vals[i - xs.length]'(by omega), ?_, hr⟩
                          rw [show o + off + i - (o + off + len * ei.size + 0) = i - xs.length from by omega, List.getElem?_eq_getElem (by omega)]
                      have hres := mem.regen (c' := c) (o' := o + off) (l' := xs ++ ys) (hget_spec hb) hm0 (.inl ⟨rfl, hsb.sz⟩) (fun x hx hne => hsb.ne x hne) hsb.eq (by unfold unfrozen at *; rw [setRange_size]; exact q4)
                        (by rw [setRange_size]; simp; omega) hlies hsb.os hsb.out
                      refine ⟨rfl, _, w', _, append_fit hu he hux hd src hcf (fun ad had => ?_) (by simp), ?_, hres.1, hres.2⟩
                      · injection had with had
                        subst had
                        rw [addr_add]; exact hrun
                      · refine .gs _ _ _ 0 _ _ _ _ c (o + off) _ cap' (Inj.ins_self _ _ _ _) (Nat.le_refl _) hcf (by simp) ?_
                        rw [setRange_size]; omega
                    · have hlm : len * ei.size ≤ l.length - off := by omega
                      have hxs : RVs ρ [] xs ((arr.toList.drop (o + off)).take (len * ei.size)) := by
                        refine ⟨by simp; omega, fun i x hx => ?_⟩
                        have hi := getElem?_lt hx
                        rw [s3 i (by omega)] at hx
                        obtain ⟨y, hy, r⟩ := q6 _ x hx
                        rw [List.getD_eq_getElem?_getD, List.getElem?_take, if_pos (by omega), List.getElem?_drop]
                        rw [show arr.toList[o + off + i]? = some y from by rw [Array.getElem?_toList, ← hy]; congr 1; omega]
                        exact r
                      have hbase : Source P w ei.size (.slice (some ⟨c, o + off, none⟩) len cap') len ((arr.toList.drop (o + off)).take (len * ei.size)) := by
                        refine .mk_slice (by simp; omega) (by simp) ?_
                        intro ad had j u hu
                        injection had with had
                        subst had
                        rw [addr_add, cell_of q2]
                        have hj := getElem?_lt hu
                        rw [List.getElem?_take, if_pos (by simp at hj; omega), List.getElem?_drop] at hu
                        simpa using hu
                      generalize holds : (arr.toList.drop (o + off)).take (len * ei.size) = olds at hxs hbase
                      obtain ⟨N', arr', w', hrun, hN, hasz, nb, rest, hrest⟩ := append_grow (ty := ty) hu he hux hd src hbase (by omega) hpos (by omega)
                      have hall : RVs ρ [] (xs ++ ys) (olds ++ vals) := hxs.append (ry.noLp hc [])
                      have hlen := hall.1
                      have hl2 : (olds ++ vals).length = (len + n) * ei.size := by simp [hbase.size, src.size, Nat.add_mul]
                      have hmul := Nat.mul_le_mul_right ei.size hN
                      have hres := mem.regen (c' := w.heap.size) (o' := 0) (l' := xs ++ ys) (hget_spec hb) hm0 (.inr ⟨rfl, nb.sz⟩) (fun x hx hne => nb.old x hx) nb.new (.inl (by simp)) (by omega) (Lies.ofPrefix hall hrest) nb.os nb.out
                      exact ⟨rfl, _, w', _, hrun, .gs _ _ _ 0 _ _ _ _ _ 0 arr'.size N' (Inj.ins_self _ _ _ _) (Nat.le_refl _) hN (by simp) (by omega), hres.1, hres.2⟩
              · cases h
            · cases h
          · cases h
      | gs0 _ b g off sz' ex c o N ad hm0 =>
        simp only [lenOf, Option.some.injEq] at hm
        subst hm
        simp only at h
        cases hb : hget s.heap b with
        | none => simp [hb] at h
        | some e0 =>
          obtain ⟨g', l⟩ := e0
          simp only [hb, Option.bind_some] at h
          split at h
          · rename_i hg
            have hg' : g' = g := hg
            subst hg'
            split at h
            · rename_i hszz
              subst hszz
              split at h
              · rename_i hc
                obtain ⟨c', o', n', arr, T, fr, q1, q2, q3, q4, q5, q6⟩ := mem.hp b g' l (hget_spec hb)
                rw [hm0] at q1
                injection q1 with q1
                injection q1 with q1 q1'
                injection q1' with q1' q1''
                subst q1 q1' q1''
                have base : Source P w ei.size (.slice (some ad) 0 0) 0 [] := .mk_slice (by simp) (by simp) (by simp)
                split at h
                · rename_i hfit
                  split at h
                  · rename_i hin
                    injection h with h
                    injection h with e1 e2
                    subst e1 e2
                    have hn : n = 0 := by omega
                    subst hn
                    have hv : vals = [] := List.eq_nil_of_length_eq_zero (by have := src.size; simpa using this)
                    subst hv
                    have hys : ys = [] := List.eq_nil_of_length_eq_zero (by have := ry.1; simpa using this)
                    subst hys
                    have hover : over l (off + 0 * ei.size) [] = l := by simp [over]
                    have hset : s.heap.set b (some (g', l)) = s.heap := by
                      apply List.ext_getElem?
                      intro i
                      by_cases hi : b = i
                      · subst hi; rw [List.getElem?_set_self (getElem?_lt (hget_spec hb)), hget_spec hb]
                      · rw [List.getElem?_set_ne hi]
                    refine ⟨rfl, _, w, ρ, append_fit hu he hux hd src (by omega) (fun ad _ => rfl) (by simp), .gs0 _ _ _ _ _ _ _ _ _ _ hm0, ?_, ?_⟩
                    · simp only [hover, hset]; exact mem
                    · simp only [hover, hset]; exact .refl _ _ _ _
                  · cases h
                · rename_i hnfit
                  cases hsub : sub l off (0 * ei.size) with
                  | none => rw [hsub] at h; cases h
                  | some xs =>
                    rw [hsub] at h
                    simp only [Option.map_some, Option.some.injEq, Prod.mk.injEq] at h
                    obtain ⟨e1, e2⟩ := h
                    subst e1 e2
                    obtain ⟨s1, s2, s3⟩ := sub_spec hsub
                    have hxs : xs = [] := List.eq_nil_of_length_eq_zero (by simpa using s2)
                    subst hxs
                    obtain ⟨N', arr', w', hrun, hN, hasz, nb, rest, hrest⟩ := append_grow (ty := ty) hu he hux hd src base (by omega) hpos (by omega)
                    have hall : RVs ρ [] ([] ++ ys) ([] ++ vals) := by simpa using ry.noLp hc []
                    have hlen := hall.1
                    have hl2 := src.size
                    have hmul := Nat.mul_le_mul_right ei.size hN
                    have hres := mem.regen (c' := w.heap.size) (o' := 0) (l' := [] ++ ys) (hget_spec hb) hm0 (.inr ⟨rfl, nb.sz⟩) (fun x hx hne => nb.old x hx) nb.new (.inl (by simp)) (by simp at *; omega) (Lies.ofPrefix hall hrest) nb.os nb.out
                    exact ⟨rfl, _, w', _, hrun, .gs _ _ _ 0 _ _ _ _ _ 0 arr'.size N' (Inj.ins_self _ _ _ _) (Nat.le_refl _) hN (by simp) (by omega), hres.1, hres.2⟩
              · cases h
            · cases h
          · cases h
      | _ => simp [lenOf] at hm <;> simp at h
end
end Go.AM

namespace Go.AM
section
variable {P : Program} {Γ : Glob} {ρ : Inj} {ls : List Nat} {s : St} {a : Act} {w : World}
theorem cvb_ok (mem : RH ρ ls s.loc s.heap w) {src dst e : TypeId} (hs : P.underlying src = some .string) (hd : P.underlying dst = some (.slice e)) (he : P.underlying e = some (.int .u8)) (v : ByteArray) :
    ∃ cv w' ρ', (convert src dst (.string v)).run P w = .ok cv w' ∧ RV ρ' ls (.gs s.heap.length 0 0 v.size v.size 1 false) cv ∧
      RH ρ' ls (s.push (byteCells v)).loc (s.push (byteCells v)).heap w' ∧ Evo ρ ls s.heap w ρ' ls (s.push (byteCells v)).heap w' := by
  generalize hq : Question.appendCap v.size 0 e = q
  have hforced : q.forced = false := by subst hq; rfl
  have hcut : ∀ x, v.size ≤ q.cut x := by intro x; subst hq; simp [Question.cut]
  generalize hN : q.cut (w.tape w.drawn q) = N
  have hN' : v.size ≤ N := by rw [← hN]; exact hcut _
  let arr : Array Value := v.data.map (fun b => Value.int .u8 b.toNat) ++ Array.replicate (N - v.size) (.int .u8 0)
  have harr : arr.size = N := by
    show (v.data.map (fun b => Value.int .u8 b.toNat) ++ Array.replicate (N - v.size) (Value.int .u8 0)).size = N
    have hvs : v.data.size = v.size := rfl
    simp; omega
  let w1 : World := (w.drew).alloc (.cells arr e)
  have nb1 : NewB w (.cells arr e (0, 0)) w1 := ⟨(NewB.push w _).sz, (NewB.push w _).old, (NewB.push w _).new, rfl, rfl⟩
  let w2 : World := w1.freeze { block := w.heap.size, off := arr.size } 1
  have nb2 : NewB w (.cells arr e (arr.size, arr.size + 1)) w2 := by
    refine ⟨by simp [w2, World.freeze, nb1.sz], fun c hc => ?_, ?_, rfl, rfl⟩
    · simp only [w2, World.freeze]
      rw [if_neg (by omega)]
      simp only [Array.getElem?_modify]
      rw [if_neg (by omega)]
      exact nb1.old c hc
    · simp only [w2, World.freeze]
      rw [if_neg (by omega)]
      simp only [Array.getElem?_modify, if_true, nb1.new, Option.map_some]
      simp
  have hrv : RVs ρ [] (byteCells v) (v.data.toList.map fun b => Value.int .u8 b.toNat) := by
    refine ⟨by simp [byteCells], fun i x hx => ?_⟩
    simp only [byteCells, List.getElem?_map] at hx
    cases hb : v.data.toList[i]? with
    | none => simp [hb] at hx
    | some b =>
      simp [hb] at hx
      subst hx
      rw [List.getD_eq_getElem?_getD, List.getElem?_map, hb]
      exact .int _ _ _
  have hlies : Lies ρ [] arr 0 (byteCells v) := Lies.ofPrefix hrv (rest := List.replicate (N - v.size) (.int .u8 0)) (by simp [arr])
  have hres := mem.newHeap nb2 (.inr (Nat.le_refl _)) (by rw [harr]; simpa [byteCells] using hN') hlies
  refine ⟨.slice (some ⟨w.heap.size, 0, none⟩) v.size N, w2, _, ?_, .gs _ _ _ _ _ _ _ _ _ 0 arr.size N (Inj.ins_self _ _ _ _) (Nat.le_refl _) hN' (by simp) (by omega), hres.1, hres.2⟩
  have hsh : w1.shape? w.heap.size = some (e, arr.size) := by simp [World.shape?, nb1.new]
  simp [convert, run_underl hs, run_underl hd, run_underl he, Conv.stringToBytes, hq, hforced, hN, newRow, markStringish]
  have hsh' : (w.drew.alloc (Obj.cells (Array.map (fun b => Value.int IntKind.u8 ↑b.toNat) v.data ++ Array.replicate (N - v.size) (Value.int IntKind.u8 0)) e)).shape? w.heap.size = some (e, arr.size) := hsh
  rw [hsh']
  rfl
theorem cvt_ok (mem : RH ρ ls s.loc s.heap w) {src dst e : TypeId} (hs : P.underlying src = some (.slice e)) (he : P.underlying e = some (.int .u8)) (hd : P.underlying dst = some .string)
    {x : AV} {xv : Value} (r : RV ρ ls x xv) {l : List UInt8} (h : (s.sliceCells 1 x).bind bytesOfCells = some l) :
    (convert src dst xv).run P w = .ok (.string ⟨l.toArray⟩) w := by
  cases hc : s.sliceCells 1 x with
  | none => simp [hc] at h
  | some cs =>
    simp only [hc, Option.bind_some] at h
    have hn : ∃ n, lenOf x = some n := by unfold St.sliceCells at hc; split at hc <;> first | (cases hc; done) | exact ⟨_, rfl⟩
    obtain ⟨n, hn⟩ := hn
    obtain ⟨A, cap, vals, rfl, h1, h2, h3, h4, h5⟩ := sliceCells_ok mem r hc hn
    rw [run_convert_bytes_string w src dst e A n cap hs he hd]
    have key : ∀ (cs : List AV) (vals : List Value) (l : List UInt8), RVs ρ ls cs vals → bytesOfCells cs = some l → ∃ ns : List Int, vals = ns.map (Value.int .u8) ∧ l = ns.map fun n => UInt8.ofNat n.toNat := by
      intro cs
      induction cs with
      | nil =>
        intro vals l hr hl
        have : vals = [] := List.eq_nil_of_length_eq_zero hr.1.symm
        subst this
        simp [bytesOfCells] at hl
        exact ⟨[], rfl, hl.symm ▸ rfl⟩
      | cons c cs ih =>
        intro vals l hr hl
        cases vals with
        | nil => have := hr.1; simp at this
        | cons v vals =>
          have h0 : RV ρ ls c v := hr.2 0 c rfl
          cases c <;> first | (simp [bytesOfCells] at hl; done) | skip
          rename_i k m
          cases k <;> first | (simp [bytesOfCells] at hl; done) | skip
          simp only [bytesOfCells, Option.map_eq_some_iff] at hl
          obtain ⟨l', hl1, hl2⟩ := hl
          obtain ⟨ns, e1, e2⟩ := ih vals l' ⟨by have := hr.1; simpa using this, fun i x hx => by have := hr.2 (i + 1) x hx; simpa using this⟩ hl1
          cases h0
          exact ⟨m :: ns, by simp [e1], by simp [← hl2, e2]⟩
    obtain ⟨ns, e1, e2⟩ := key cs vals l h2 h
    have hfold : ∀ (ns : List Int) (b : ByteArray), ns.foldl (fun r n => r.push (UInt8.ofNat n.toNat)) b = ⟨(b.data.toList ++ ns.map fun n => UInt8.ofNat n.toNat).toArray⟩ := by
      intro ns
      induction ns with
      | nil => intro b; simp
      | cons n ns ih => intro b; simp only [List.foldl_cons, ih, List.map_cons]; congr 1; simp [ByteArray.push]
    cases A with
    | none =>
      have : n = 0 := by
        rcases Nat.eq_zero_or_pos n with h | h
        · exact h
        · have := h4 (by omega); simp at this
      subst this
      have : vals = [] := List.eq_nil_of_length_eq_zero (by simpa using h1)
      subst this
      have : ns = [] := by cases ns <;> simp at e1 <;> rfl
      subst this
      subst e2
      rfl
    | some ad =>
      have hl := run_loadCells_list (P := P) (w := w) ad vals (fun j u hu => h5 ad rfl j u hu)
      rw [h1, Nat.mul_one, e1] at hl
      rw [run_bytesToString w ad n cap ns hl, hfold, e2]
      simp [ByteArray.empty, ByteArray.emptyWithCapacity]
      rfl
end
end Go.AM

namespace Go.AM
section
variable {P : Program} {Γ : Glob} {ρ : Inj} {ls : List Nat} {s : St} {a : Act} {w : World}
theorem exec_v {o : Oper} {x : Sem Value} (h : execOp a.eval o = (do pure (Next.value (← x)))) {cv : Value} {w' : World} (hx : x.run P w = .ok cv w') : (execOp a.eval o).run P w = .ok (.value cv) w' := by
  rw [h]; simp [hx]
theorem exec_u {o : Oper} {x : Sem Unit} (h : execOp a.eval o = (do x; pure Next.skip)) {w' : World} (hx : x.run P w = .ok () w') : (execOp a.eval o).run P w = .ok .skip w' := by
  rw [h]; simp [hx]
theorem undef_RV : RV ρ ls (.tup []) undef := .tup _ [] #[] rfl (fun i x h => by simp at h)
theorem StepOK.mk {o : Oper} {v : AV} {s' : St} {cv : Value} {w' : World} {ρ' : Inj} {ls' : List Nat} (he : s'.env = s.env) (h : (execOp a.eval o).run P w = .ok (.value cv) w') (r : RV ρ' ls' v cv)
    (m : RH ρ' ls' s'.loc s'.heap w') (e : Evo ρ ls s.heap w ρ' ls' s'.heap w') : StepOK P ρ ls s a w o (.val v s') :=
  ⟨he, _, cv, w', ρ', ls', h, .inl rfl, r, m, e⟩
theorem StepOK.skip {o : Oper} {s' : St} {w' : World} {ρ' : Inj} {ls' : List Nat} (he : s'.env = s.env) (h : (execOp a.eval o).run P w = .ok .skip w')
    (m : RH ρ' ls' s'.loc s'.heap w') (e : Evo ρ ls s.heap w ρ' ls' s'.heap w') : StepOK P ρ ls s a w o (.val (.tup []) s') :=
  ⟨he, _, undef, w', ρ', ls', h, .inr ⟨rfl, rfl⟩, undef_RV, m, e⟩
theorem int_inv {x : AV} {xv : Value} (r : RV ρ ls x xv) {k : IntKind} {n : Int} (e : x = .int k n) : xv = .int k n := by subst e; cases r; rfl
theorem str_inv {x : AV} {xv : Value} (r : RV ρ ls x xv) {v : ByteArray} (e : x = .str v) : xv = .string v := by subst e; cases r; rfl
theorem bool_inv {x : AV} {xv : Value} (r : RV ρ ls x xv) {b : Bool} (e : x = .bool b) : xv = .bool b := by subst e; cases r; rfl
variable {Θ : Tab}
theorem table {t : TypeId} {α : Type} {f : TI → Option α} {r : α} (tab : TabOK P Θ) (h : (Θ t).bind f = some r) : ∃ ti, TF P t ti ∧ f ti = some r ∧ Θ t = some ti := by
  cases ht : Θ t with
  | none => simp [ht] at h
  | some ti => exact ⟨ti, tab.tf ht, by simpa [ht] using h, rfl⟩
theorem table' {t : TypeId} {α : Type} {f : TI → α} {r : α} (tab : TabOK P Θ) (h : (Θ t).map f = some r) : ∃ ti, TF P t ti ∧ f ti = r := by
  cases ht : Θ t with
  | none => simp [ht] at h
  | some ti => exact ⟨ti, tab.tf ht, by simpa [ht] using h⟩
theorem elem_table {t : TypeId} {α : Type} {f : TI → Option α} {r : α} (tab : TabOK P Θ) (h : (elemOf Θ t).bind f = some r) : ∃ e ei, P.underlying t = some (.slice e) ∧ TF P e ei ∧ f ei = some r := by
  cases ht : elemOf Θ t with
  | none => simp [ht] at h
  | some ei =>
    obtain ⟨e, h1, h2⟩ := elemOf_spec tab ht
    exact ⟨e, ei, h1, h2, by simpa [ht] using h⟩
theorem elem_table' {t : TypeId} {α : Type} {f : TI → α} {r : α} (tab : TabOK P Θ) (h : (elemOf Θ t).map f = some r) : ∃ e ei, P.underlying t = some (.slice e) ∧ TF P e ei ∧ f ei = r := by
  cases ht : elemOf Θ t with
  | none => simp [ht] at h
  | some ei =>
    obtain ⟨e, h1, h2⟩ := elemOf_spec tab ht
    exact ⟨e, ei, h1, h2, by simpa [ht] using h⟩
theorem bind2 {α β : Type} {x : Option α} {f : α → Option β} {y : β} (h : x.bind f = some y) : ∃ z, x = some z ∧ f z = some y := by
  cases x with
  | none => simp at h
  | some z => exact ⟨z, rfl, by simpa using h⟩
theorem alloc_sound (rel : Rel Γ ρ ls s a w) {gl : Bool} {o : Oper} {z : List AV} {zv : Value} {T : TypeId} (hz : RVs ρ ls z zv.cells.toList)
    (h : (execOp a.eval o).run P w = .ok (.value (.pointer (some ⟨w.heap.size, 0, none⟩))) { w with heap := w.heap.push (.cells zv.cells T (0, 0)) }) :
    StepOK P ρ ls s a w o (if gl = true then (if z.all noLp then .val (.gp s.heap.length 0 0) (s.push z) else .stuck) else .val (.lp s.loc.length 0) { s with loc := s.loc ++ [z] }) := by
  split
  · split
    · rename_i hn
      obtain ⟨ρ', h1, h2, h3⟩ := box_glob rel.mem (T := T) hz hn
      have := RV.gp (ρ := ρ') ls s.heap.length 0 0 w.heap.size 0 _ h3
      exact .mk rfl h this h1 h2
    · trivial
  · obtain ⟨h1, h2⟩ := box_loc rel.mem (T := T) hz
    refine .mk rfl h (.lp _ _ _ _ ?_) h1 h2
    rw [List.getElem?_append_right (by rw [rel.mem.len]; omega), rel.mem.len]
    simp
theorem nilchk_run {x : AV} {v : Value} (r : RV ρ ls x v) (h : isNil x = some false) (o : Oper) (X : Operand) (ho : o.op = .nilCheck X) (hv : a.eval X = v) : (execOp a.eval o).run P w = .ok (.value v) w := by
  unfold execOp
  rw [ho]
  simp only [hv]
  cases r <;> simp [isNil] at h <;> rfl
theorem tupX {x : AV} {xv : Value} (r : RV ρ ls x xv) {vs : List AV} (e : x = .tup vs) {i : Nat} {v : AV} (h : vs[i]? = some v) : ∃ cv, (Instr.extract xv i).run P w = .ok cv w ∧ RV ρ ls v cv := by
  subst e
  cases r with
  | tup _ _ us h1 r =>
    have hi := getElem?_lt h
    have hr := r i v h
    refine ⟨us[i]'(by omega), ?_, ?_⟩
    · simp [Instr.extract, show i < us.size by omega]
    · simpa [Array.getD, show i < us.size by omega] using hr
theorem aggX {e : TypeId} {ei : TI} (he : TF P e ei) {cs : List AV} {vs : Array Value} (hr : RVs ρ ls cs vs.toList) {off : Nat} {v : AV} (h : (sub cs off ei.size).bind (wrapAgg ei.isAgg) = some v) :
    ∃ cv, (part e vs off).run P w = .ok cv w ∧ RV ρ ls v cv := by
  obtain ⟨us, h1, h2⟩ := bind2 h
  obtain ⟨s1, s2, s3⟩ := sub_spec h1
  have hl := hr.1
  simp at hl
  unfold wrapAgg at h2
  split at h2
  · rename_i hag
    injection h2 with h2
    subst h2
    refine ⟨.agg (vs.extract off (off + ei.size)), by simp [part, run_isAgg he, hag, run_size' he], .agg _ _ _ (by simp; omega) (fun i x hx => ?_)⟩
    have hi := getElem?_lt hx
    rw [s3 i (by omega)] at hx
    have := hr.2 _ x hx
    rw [getD_toList] at this
    have e1 : (vs.extract off (off + ei.size)).getD i default = vs.getD (off + i) default := by
      simp [Array.getD, show off + i < vs.size by omega, show i < min (off + ei.size) vs.size - off by omega]
    rw [e1]; exact this
  · rename_i x hag
    injection h2 with h2
    subst h2
    have hx : cs[off + 0]? = some x := by rw [← s3 0 (by simp at s2; omega)]; rfl
    have := hr.2 _ x hx
    rw [getD_toList] at this
    have hlt : off < vs.size := by simp at s2; omega
    refine ⟨vs[off], by simp [part, run_isAgg he, hag, hlt], ?_⟩
    simpa [Array.getD, hlt] using this
  · cases h2
theorem part_list (rel : Rel Γ ρ ls s a w) (ps : List (Nat × Operand)) : ∀ (i : Nat) p v, (ps.map fun p => (p.1, s.eval Γ (trX p.2)))[i]? = some p → (ps.map fun p => (p.1, a.eval p.2))[i]? = some v → p.1 = v.1 ∧ RV ρ ls p.2 v.2 := by
  intro i p v h1 h2
  rw [List.getElem?_map] at h1 h2
  cases h : ps[i]? with
  | none => simp [h] at h1
  | some q =>
    simp [h] at h1 h2
    subst h1 h2
    exact ⟨rfl, eval_sound rel q.2⟩
theorem mapM_spec {α β : Type} {f : α → Option β} : ∀ {l : List α} {r : List β}, l.mapM f = some r → r.length = l.length ∧ ∀ (i : Nat) x, l[i]? = some x → ∃ y, r[i]? = some y ∧ f x = some y := by
  intro l
  induction l with
  | nil => intro r h; simp at h; subst h; exact ⟨rfl, fun i x hx => by simp at hx⟩
  | cons b l ih =>
    intro r h
    rw [List.mapM_cons] at h
    cases hb : f b with
    | none => simp [hb] at h
    | some y =>
      cases hl : l.mapM f with
      | none => simp [hb, hl] at h
      | some r' =>
        simp [hb, hl] at h
        subst h
        obtain ⟨i1, i2⟩ := ih hl
        refine ⟨by simp [i1], fun i x hx => ?_⟩
        cases i with
        | zero => simp at hx; subst hx; exact ⟨y, rfl, hb⟩
        | succ i => exact i2 i x (by simpa using hx)
theorem AR.ofP_eq (x : Option (AV × St)) : (∃ v s', x = some (v, s') ∧ AR.ofP x = .val v s') ∨ (x = none ∧ AR.ofP x = .stuck) := by
  cases x with
  | none => exact .inr ⟨rfl, rfl⟩
  | some p => exact .inl ⟨p.1, p.2, rfl, rfl⟩
theorem execOp_call {o : Oper} {c : Call} (h : o.op = .call c) : execOp a.eval o = (do let d ← resolve a.eval c o.type; invoke d.target d.args) := by
  unfold execOp; rw [h]
theorem builtin_run {o : Oper} {c : Call} {b : Builtin} (h : o.op = .call c) (hb : c.callee = .builtin b) :
    ∃ cs, (execOp a.eval o).run P w = (builtin b c.argTypes o.type cs (c.args.map a.eval)).run P w := by
  refine ⟨c.args.map fun | .const _ => true | _ => false, ?_⟩
  rw [execOp_call h]
  simp [resolve, hb, invoke]
  rfl
theorem list1 {α : Type} {xs : Array α} {x : α} (h : xs.toList = [x]) : xs = #[x] := by cases xs; simp at h; subst h; rfl
theorem list2 {α : Type} {xs : Array α} {x y : α} (h : xs.toList = [x, y]) : xs = #[x, y] := by cases xs; simp at h; subst h; rfl
theorem lenKs {x : AV} {xv : Value} (r : RV ρ ls x xv) {n : Nat} (h : lenK false x = some n) : ∃ A c, xv = .slice A n c := by
  cases r
  case opq =>
    simp only [lenK] at h
    split at h <;> try (cases h; done)
    all_goals first | (rename_i he; cases he; done) | skip
    all_goals (rename_i he; injection he with he; subst he; injection h with h; subst h; exact ⟨_, _, rfl⟩)
  all_goals (simp [lenK] at h)
  all_goals (subst h; exact ⟨_, _, rfl⟩)
theorem lenKt {x : AV} {xv : Value} (r : RV ρ ls x xv) {n : Nat} (h : lenK true x = some n) : ∃ sb, xv = .string sb ∧ sb.size = n := by
  cases r
  case opq => simp [lenK] at h
  all_goals (simp [lenK] at h)
  all_goals (subst h; exact ⟨_, rfl, rfl⟩)
end
end Go.AM

namespace Go.AM
section
variable {P : Program} {Γ : Glob} {ρ : Inj} {ls : List Nat} {s : St} {a : Act} {w : World} {Θ : Tab}
theorem bi_ok {o : Oper} {c : Call} {b : Builtin} (h : o.op = .call c) (hb : c.callee = .builtin b) {cv : Value} {w' : World}
    (hrun : ∀ cs, (builtin b c.argTypes o.type cs (c.args.map a.eval)).run P w = .ok (.value cv) w') : (execOp a.eval o).run P w = .ok (.value cv) w' := by
  obtain ⟨cs, e⟩ := builtin_run (P := P) (a := a) (w := w) h hb
  rw [e]; exact hrun cs
theorem call_sound (tab : TabOK P Θ) {o : Oper} {c : Call} (ho : o.op = .call c) {i : I} (ht : trCall Θ c = some i) (rel : Rel Γ ρ ls s a w) (gl : Bool) : StepOK P ρ ls s a w o (step Γ gl s i) := by
  unfold trCall at ht
  cases hc : c.callee with
  | value f =>
    simp only [hc, Option.some.injEq] at ht
    subst ht
    simp only [step]
    have rf := eval_sound rel f
    have ra := evals_sound rel c.args.toList
    split
    · rename_i g first caps hf
      rw [hf] at rf
      cases hv : a.eval f <;> rw [hv] at rf <;> cases rf
      rename_i first' caps' h1 r1 h2 r2
      refine ⟨first'.toList ++ c.args.toList.map a.eval ++ caps'.toList, ?_, ?_⟩
      · rw [execOp_call ho]
        simp [resolve, hc, hv, Deferred.ofValue, invoke]
        congr 2
        apply Array.ext'
        simp
      · exact RVs.append (RVs.append ⟨by simpa using h1, fun i x hx => by rw [getD_toList]; exact r1 i x hx⟩ ra) ⟨by simpa using h2, fun i x hx => by rw [getD_toList]; exact r2 i x hx⟩
    · trivial
  | invoke r m => simp [hc] at ht
  | builtin b =>
    simp only [hc] at ht
    split at ht
    · -- len
      rename_i t x h1 h2
      have e1 := list1 h1
      have e2 := list1 h2
      obtain ⟨ti, tf, hti, _⟩ := table tab ht
      have rx := eval_sound rel x
      split at hti
      · rename_i hk
        injection hti with hti
        subst hti
        refine .ofO rel.mem (fun v hv => ?_)
        cases hl : lenK true (s.eval Γ (trX x)) with
        | none => simp [hl] at hv
        | some n =>
          simp [hl] at hv
          subst hv
          obtain ⟨sb, hx, hsz⟩ := lenKt rx hl
          exact ⟨.int .i64 n, bi_ok ho hc (fun cs => by simp [builtin, Builtin.len_, e1, e2, hx, run_underl (tf.kd_str hk), goInt, hsz]), .int _ _ _⟩
      · rename_i e hk
        injection hti with hti
        subst hti
        refine .ofO rel.mem (fun v hv => ?_)
        cases hl : lenK false (s.eval Γ (trX x)) with
        | none => simp [hl] at hv
        | some n =>
          simp [hl] at hv
          subst hv
          obtain ⟨A, cp, hx⟩ := lenKs rx hl
          exact ⟨.int .i64 n, bi_ok ho hc (fun cs => by simp [builtin, Builtin.len_, e1, e2, hx, run_underl (tf.kd_slice hk), goInt]), .int _ _ _⟩
      · rename_i n e hk
        injection hti with hti
        subst hti
        exact .pure rel.mem (bi_ok ho hc (fun cs => by simp [builtin, Builtin.len_, e1, e2, run_underl (tf.kd_arr hk), goInt])) (.int _ _ _)
      · cases hti
    · -- cap
      rename_i t x h1 h2
      have e1 := list1 h1
      have e2 := list1 h2
      obtain ⟨ti, tf, hti, _⟩ := table tab ht
      have rx := eval_sound rel x
      split at hti
      · rename_i e hk
        injection hti with hti
        subst hti
        simp only [step]
        split
        · rename_i hx
          rw [hx] at rx
          cases hv : a.eval x <;> rw [hv] at rx <;> cases rx
          exact .pure rel.mem (bi_ok ho hc (fun cs => by simp [builtin, Builtin.cap_, e1, e2, hv, run_underl (tf.kd_slice hk), goInt])) (.int _ _ _)
        · rename_i b g off len cap sz hx
          rw [hx] at rx
          cases hv : a.eval x <;> rw [hv] at rx <;> cases rx
          · rename_i h1 h2 h3 h4 h5
            exact .pure rel.mem (bi_ok ho hc (fun cs => by simp [builtin, Builtin.cap_, e1, e2, hv, run_underl (tf.kd_slice hk), goInt, h5 rfl])) (.int _ _ _)
          · exact .pure rel.mem (bi_ok ho hc (fun cs => by simp [builtin, Builtin.cap_, e1, e2, hv, run_underl (tf.kd_slice hk), goInt])) (.int _ _ _)
        · trivial
      · cases hti
    · -- append
      rename_i t tx x y h1 h2
      have e1 := list2 h1
      have e2 := list2 h2
      obtain ⟨e, ei, hu, he, ht⟩ := elem_table tab ht
      obtain ⟨yi, yf, ht, _⟩ := table tab ht
      have rx := eval_sound rel x
      have ry := eval_sound rel y
      have key : ∀ str d, P.underlying tx = some d → (∀ k, d ≠ .int k) → StepOK P ρ ls s a w o (step Γ gl s (.app ei.size ei.bytes ei.zero str (trX x) (trX y))) := by
        intro str d hd hk
        simp only [step]
        split
        · rename_i ys n m h3 h4 h5
          rcases AR.ofP_eq (aApp s ei.size ei.bytes (s.eval Γ (trX x)) ys n m) with ⟨v, s', h6, h7⟩ | ⟨_, h7⟩
          · rw [h7]
            obtain ⟨vals, src, rys⟩ := src_ok (P := P) rel.mem ry h3 h4
            obtain ⟨g1, cv, w', ρ', g2, g3, g4, g5⟩ := app_ok (ty := o.type) rel.mem hu he hd hk rx src rys h5 h6
            exact .mk g1 (bi_ok ho hc (fun cs => by simp [builtin, e1, e2, g2])) g3 g4 g5
          · rw [h7]; trivial
        · trivial
      split at ht
      · rename_i hk; injection ht with ht; subst ht; exact key true _ (yf.kd_str hk) (by simp)
      · rename_i e' hk; injection ht with ht; subst ht; exact key false _ (yf.kd_slice hk) (by simp)
      · rename_i k hk; injection ht with ht; subst ht
        simp only [step]
        split
        · rename_i kn n h3 h4
          rw [h3] at rx
          cases hvx : a.eval x <;> rw [hvx] at rx <;> cases rx
          have hvy := int_inv ry h4
          unfold aAppz
          split
          · rename_i hb
            obtain ⟨h0, hsz, hb⟩ := hb
            split
            · rename_i hz
              obtain ⟨m, rfl⟩ := Int.eq_ofNat_of_zero_le (show 0 ≤ n by omega)
              simp only [Int.toNat_natCast] at hb ⊢
              have h0' : 0 < m := by omega
              obtain ⟨N, arr, w', vals, hrun, hN, hasz, nb, ⟨rest, hrest⟩, hv⟩ := appz_run (w := w) (ty := o.type) (kn := kn) hu he (yf.kd_int hk) h0' hsz hb
              have hl2 := (hv ρ []).1
              have hzl : ei.zero.length = ei.size := by
                obtain ⟨z, z1, z2, z3⟩ := he.zero w ρ ls
                have := z2.1; simp at this; omega
              have hlen : (List.replicate m ei.zero).flatten.length = m * ei.size := by simp [hzl]
              have hmul := Nat.mul_le_mul_right ei.size hN
              have hall : (List.replicate m ei.zero).flatten.all noLp = true := by
                rw [List.all_eq_true] at *
                intro x hx
                obtain ⟨l, hl1, hl2⟩ := List.mem_flatten.1 hx
                rw [List.eq_of_mem_replicate hl1] at hl2
                exact hz x hl2
              have hres := rel.mem.newHeap (cs := (List.replicate m ei.zero).flatten) nb (.inl (by simp)) (by omega) (Lies.ofPrefix (hv ρ []) hrest)
              exact .mk rfl (bi_ok ho hc (fun cs => by simp [builtin, e1, e2, hvx, hvy, hrun])) (.gs _ _ _ _ _ _ _ _ _ 0 arr.size N (Inj.ins_self _ _ _ _) (Nat.le_refl _) hN (by simp) (by omega)) hres.1 hres.2
            · trivial
          · trivial
        · trivial
      · cases ht
    · -- clear
      rename_i t x h1 h2
      have e1 := list1 h1
      have e2 := list1 h2
      obtain ⟨e, ei, hu, he, ht⟩ := elem_table' tab ht
      subst ht
      have rx := eval_sound rel x
      obtain ⟨z, hz1, hz2, hz3⟩ := he.zero w ρ ls
      have hzw : ∀ w', (zeroValue e).run P w' = .ok z w' := fun w' => by
        obtain ⟨z', g1, g2, g3⟩ := he.zero w' ρ ls
        obtain ⟨i, d, z0, q1, q2, q3, q4, q5, _⟩ := he.info
        rw [run_zero q1 q5] at hz1
        injection hz1 with hz1
        subst hz1
        exact run_zero q1 q5
      simp only [step, aClr]
      split
      · rename_i hx
        rw [hx] at rx
        cases hv : a.eval x <;> rw [hv] at rx <;> cases rx
        exact ⟨rfl, _, _, w, ρ, ls, bi_ok ho hc (fun cs => by simp [builtin, Builtin.clear_, e1, e2, hv, run_underl hu]; rfl), .inl rfl, undef_RV, rel.mem, .refl _ _ _ _⟩
      · rename_i b g off len cap sz' ex hx
        rw [hx] at rx
        split
        · rename_i h0
          subst h0
          cases hv : a.eval x <;> rw [hv] at rx <;> cases rx
          · exact ⟨rfl, _, _, w, ρ, ls, bi_ok ho hc (fun cs => by simp [builtin, Builtin.clear_, e1, e2, hv, run_underl hu]; rfl), .inl rfl, undef_RV, rel.mem, .refl _ _ _ _⟩
          · exact ⟨rfl, _, _, w, ρ, ls, bi_ok ho hc (fun cs => by simp [builtin, Builtin.clear_, e1, e2, hv, run_underl hu]; rfl), .inl rfl, undef_RV, rel.mem, .refl _ _ _ _⟩
        · rename_i h0
          split
          · cases hs : s.store (.gp b g off) (List.replicate len ei.zero).flatten with
            | none => trivial
            | some s' =>
              simp only [AR.ofS]
              cases hv : a.eval x <;> rw [hv] at rx <;> cases rx
              · rename_i cap' c o' n h1 h2 h3 h4 h5
                obtain ⟨c', o'', w', g1, g2, g3, g4, g5⟩ := store_mem (P := P) rel.mem (RV.gp ls b g off c o' n h1) (hz2.replicate len) hs
                injection g1 with g1
                injection g1 with g1
                injection g1 with g1 g1'
                subst g1 g1'
                refine ⟨g3, _, _, w', ρ, ls, bi_ok ho hc (fun cs => ?_), .inl rfl, undef_RV, g4, g5⟩
                have hcells : (Builtin.zeroCells z.cells len).toList = (List.replicate len z.cells.toList).flatten := by
                  unfold Builtin.zeroCells
                  exact rows_eq len z.cells z.cells.size rfl (fun h => by
                    rcases Nat.mul_eq_zero.1 h with h | h
                    · exact .inl h
                    · exact .inr h)
                have hlen0 : len ≠ 0 := h0
                cases len with
                | zero => exact absurd rfl hlen0
                | succ len => simp [builtin, Builtin.clear_, e1, e2, hv, run_underl hu, hzw, hcells, g2]; rfl
              · exact absurd rfl h0
          · trivial
      · rename_i β sz' ex hx
        rw [hx] at rx
        cases hv : a.eval x <;> rw [hv] at rx <;> cases rx
        · exact ⟨rfl, _, _, w, ρ, ls, bi_ok ho hc (fun cs => by simp [builtin, Builtin.clear_, e1, e2, hv, run_underl hu]; rfl), .inl rfl, undef_RV, rel.mem, .refl _ _ _ _⟩
        · exact ⟨rfl, _, _, w, ρ, ls, bi_ok ho hc (fun cs => by simp [builtin, Builtin.clear_, e1, e2, hv, run_underl hu]; rfl), .inl rfl, undef_RV, rel.mem, .refl _ _ _ _⟩
        · exact ⟨rfl, _, _, w, ρ, ls, bi_ok ho hc (fun cs => by simp [builtin, Builtin.clear_, e1, e2, hv, run_underl hu]; rfl), .inl rfl, undef_RV, rel.mem, .refl _ _ _ _⟩
      · trivial
    · -- max
      injection ht with ht
      subst ht
      simp only [step]
      refine .ofO rel.mem (fun v hv => ?_)
      have ra := evals_sound rel c.args.toList
      unfold aMM at hv
      split at hv
      · rename_i k x k' y hxs
        split at hv
        · rename_i hk
          injection hv with hv
          subst hv hk
          rw [hxs] at ra
          have r0 := ra.2 0 _ rfl
          have r1 := ra.2 1 _ rfl
          have hl := ra.1
          cases hc' : c.args.toList.map a.eval with
          | nil => simp [hc'] at hl
          | cons u us =>
            cases us with
            | nil => simp [hc'] at hl
            | cons u' us =>
              cases us with
              | cons _ _ => simp [hc'] at hl
              | nil =>
                rw [hc'] at r0 r1
                have r0 : RV ρ ls (.int k x) u := r0
                have r1 : RV ρ ls (.int k y) u' := r1
                cases r0
                cases r1
                refine ⟨_, bi_ok ho hc (fun cs => ?_), .int _ _ _⟩
                simp [builtin, Builtin.max_, hc', Builtin.max2]
        · cases hv
      · cases hv
    · -- min
      injection ht with ht
      subst ht
      simp only [step]
      refine .ofO rel.mem (fun v hv => ?_)
      have ra := evals_sound rel c.args.toList
      unfold aMM at hv
      split at hv
      · rename_i k x k' y hxs
        split at hv
        · rename_i hk
          injection hv with hv
          subst hv hk
          rw [hxs] at ra
          have r0 := ra.2 0 _ rfl
          have r1 := ra.2 1 _ rfl
          have hl := ra.1
          cases hc' : c.args.toList.map a.eval with
          | nil => simp [hc'] at hl
          | cons u us =>
            cases us with
            | nil => simp [hc'] at hl
            | cons u' us =>
              cases us with
              | cons _ _ => simp [hc'] at hl
              | nil =>
                rw [hc'] at r0 r1
                have r0 : RV ρ ls (.int k x) u := r0
                have r1 : RV ρ ls (.int k y) u' := r1
                cases r0
                cases r1
                refine ⟨_, bi_ok ho hc (fun cs => ?_), .int _ _ _⟩
                simp [builtin, Builtin.min_, hc', Builtin.min2]
        · cases hv
      · cases hv
    · cases ht
end
end Go.AM

namespace Go.AM
section
variable {P : Program} {Γ : Glob} {ρ : Inj} {ls : List Nat} {s : St} {a : Act} {w : World} {Θ : Tab}
theorem run_places {fields : List Field} (h : ∀ f ∈ fields, ∃ i, P.info? f.type = some i) :
    (fields.toArray.mapM fun f => (Prod.mk f.offset <$> sizeOf f.type : Sem (Nat × Nat))).run P w = .ok (fields.map fun f => (f.offset, P.cellsOf f.type)).toArray w := by
  rw [Array.mapM_eq_mapM_toList, Sem.run_map]
  have key : ∀ fields : List Field, (∀ f ∈ fields, ∃ i, P.info? f.type = some i) →
      (fields.mapM fun f => (Prod.mk f.offset <$> sizeOf f.type : Sem (Nat × Nat))).run P w = .ok (fields.map fun f => (f.offset, P.cellsOf f.type)) w := by
    intro fields
    induction fields with
    | nil => intro _; rfl
    | cons f r ih =>
      intro h
      obtain ⟨i, hi⟩ := h f (by simp)
      rw [List.mapM_cons]
      simp only [Sem.run_bind, Sem.run_map, run_size hi, Result.andThen_ok, ih (fun f hf => h f (by simp [hf])), Sem.run_pure, List.map_cons]
      simp [Program.cellsOf, hi]
  rw [key fields h]
  rfl
theorem step_sound0 (tab : TabOK P Θ) {o : Oper} {i : I} (ht : trI0 Θ o.op = some i) (rel : Rel Γ ρ ls s a w) (gl : Bool) : StepOK P ρ ls s a w o (step Γ gl s i) := by
  obtain ⟨dst, op, type, pos, after, guard⟩ := o
  cases op <;> simp only [trI0] at ht <;> try (cases ht; done)
  case move x => injection ht with ht; subst ht; exact .pure rel.mem rfl (eval_sound rel x)
  case assign x => injection ht with ht; subst ht; exact .pure rel.mem rfl (eval_sound rel x)
  case pick c x y =>
    injection ht with ht
    subst ht
    have rc := eval_sound rel c
    simp only [step]
    split
    · rename_i t hc
      have e := bool_inv rc hc
      cases t
      · exact .pure rel.mem (exec_v (x := do pure (if ← asBool (a.eval c) then a.eval x else a.eval y)) (by simp [execOp]) (cv := a.eval y) (by simp [e, asBool])) (by simpa using eval_sound rel y)
      · exact .pure rel.mem (exec_v (x := do pure (if ← asBool (a.eval c) then a.eval x else a.eval y)) (by simp [execOp]) (cv := a.eval x) (by simp [e, asBool])) (by simpa using eval_sound rel x)
    · trivial
  case alloc e =>
    obtain ⟨ti, tf, rfl⟩ := table' tab ht
    obtain ⟨z, h1, h2, h3⟩ := tf.zero w ρ ls
    exact alloc_sound rel h2 (exec_v (by simp only [execOp] <;> rfl) (by simp [Instr.alloc, h1, newVar, newRow]; rfl))
  case box e x =>
    injection ht with ht
    subst ht
    have rx := eval_sound rel x
    simp only [step]
    split
    · rename_i cs hcs
      exact alloc_sound rel (cells_RV rx hcs) (exec_v (by simp only [execOp] <;> rfl) (by simp [Instr.box, newVar, newRow]; rfl))
    · trivial
  case build t parts =>
    obtain ⟨ti, tf, ht, _⟩ := table tab ht
    obtain ⟨i0, d, z, q1, q2, q3, q4, q5, q6, q7, q8, q9⟩ := tf.info
    have hz : RVs ρ ls ti.zero z.cells.toList := by rw [← q7]; exact RVs_map _
    have hzw : (zeroValue t).run P w = .ok z w := run_zero q1 q5
    split at ht
    · rename_i fs hk
      obtain ⟨fields, hu, hfs⟩ := tf.kd_struct hk
      split at ht
      case isFalse => cases ht
      rename_i hall
      cases hm : parts.toList.mapM fun (p : Nat × Operand) => (fs[p.1]?).bind fun f => (Θ f.2).map fun fi => (f.1, fi.size, trX p.2) with
      | none => simp [hm] at ht
      | some ps =>
        simp only [hm, Option.map_some, Option.some.injEq] at ht
        subst ht
        simp only [step]
        refine .ofO rel.mem (fun v hv => ?_)
        cases hf : fillA ti.zero (ps.map fun p => (p.1, p.2.1, s.eval Γ p.2.2)) with
        | none => simp [hf] at hv
        | some res =>
          simp only [hf, Option.map_some, Option.some.injEq] at hv
          subst hv
          obtain ⟨m1, m2⟩ := mapM_spec hm
          have hplaces : ∃ places : Array (Nat × Nat), (fields.mapM fun f => (Prod.mk f.offset <$> sizeOf f.type : Sem (Nat × Nat))).run P w = .ok places w ∧
              ∀ (i : Nat) (off : Nat) (ft : TypeId) (fi : TI), fs[i]? = some (off, ft) → Θ ft = some fi → places[i]? = some (off, fi.size) := by
            refine ⟨_, run_places (fields := fields.toList) (fun f hf => ?_), fun i off ft fi hi hfi => ?_⟩
            · rw [List.all_eq_true] at hall
              have := hall (f.offset, f.type) (by rw [hfs]; exact List.mem_map.2 ⟨f, hf, rfl⟩)
              cases hΘ : Θ f.type with
              | none => simp [hΘ] at this
              | some fi => obtain ⟨i1, g1, g2, _⟩ := (tab.tf hΘ).size; exact ⟨i1, g1⟩
            · rw [hfs, List.getElem?_map] at hi
              cases hff : fields.toList[i]? with
              | none => simp [hff] at hi
              | some f =>
                simp [hff] at hi
                obtain ⟨rfl, rfl⟩ := hi
                obtain ⟨i1, g1, g2, _⟩ := (tab.tf hfi).size
                rw [List.getElem?_toArray, List.getElem?_map, hff]
                simp [Program.cellsOf, g1, g2]
          obtain ⟨places, p1, p2⟩ := hplaces
          obtain ⟨arr', f1, f2⟩ := fill_ok (ρ := ρ) (ls := ls) (places[·]?) (ps.map fun p => (p.1, p.2.1, s.eval Γ p.2.2)) (parts.toList.map fun p => (p.1, a.eval p.2)) ti.zero z.cells res (by simp [m1]) (fun j p v hp hv => by
            rw [List.getElem?_map] at hp hv
            cases hq : parts.toList[j]? with
            | none => simp [hq] at hv
            | some q =>
              obtain ⟨y, y1, y2⟩ := m2 j q hq
              simp [hq, y1] at hp hv
              subst hp hv
              obtain ⟨f, g1, g2⟩ := bind2 y2
              cases hfi : Θ f.2 with
              | none => simp [hfi] at g2
              | some fi =>
                simp [hfi] at g2
                subst g2
                exact ⟨p2 _ f.1 f.2 fi g1 hfi, eval_sound rel q.2⟩) hz hf
          refine ⟨.agg arr', exec_v (by simp only [execOp] <;> rfl) ?_, .agg _ _ _ (by have := f2.1; simpa using this) (fun i x hx => by rw [← getD_toList]; exact f2.2 i x hx)⟩
          simp [Instr.build, hzw, run_underl hu, p1, f1]
    · rename_i n e hk
      obtain ⟨ei, he, rfl⟩ := table' tab ht
      simp only [step]
      refine .ofO rel.mem (fun v hv => ?_)
      cases hf : fillA ti.zero ((parts.toList.map fun p => (p.1 * ei.size, ei.size, trX p.2)).map fun p => (p.1, p.2.1, s.eval Γ p.2.2)) with
      | none => rw [hf] at hv; simp at hv
      | some res =>
        rw [hf] at hv
        simp only [Option.map_some, Option.some.injEq] at hv
        subst hv
        obtain ⟨arr', f1, f2⟩ := fill_ok (ρ := ρ) (ls := ls) (fun i => some (i * ei.size, ei.size)) ((parts.toList.map fun p => (p.1 * ei.size, ei.size, trX p.2)).map fun p => (p.1, p.2.1, s.eval Γ p.2.2)) (parts.toList.map fun p => (p.1, a.eval p.2)) ti.zero z.cells res (by simp) (fun j p v hp hv => by
          simp only [List.map_map, List.getElem?_map] at hp hv
          cases hq : parts.toList[j]? with
          | none => simp [hq] at hv
          | some q =>
            simp [hq] at hp hv
            subst hp hv
            exact ⟨rfl, eval_sound rel q.2⟩) hz hf
        refine ⟨.agg arr', exec_v (by simp only [execOp] <;> rfl) ?_, .agg _ _ _ (by have := f2.1; simpa using this) (fun i x hx => by rw [← getD_toList]; exact f2.2 i x hx)⟩
        simp [Instr.build, hzw, run_underl (tf.kd_arr hk), run_size' he, f1]
    · cases ht
  case buildSlice t len parts =>
    obtain ⟨e, ei, hu, he, ht⟩ := elem_table tab ht
    split at ht
    · rename_i hsz
      injection ht with ht
      subst ht
      simp only [step]
      split
      · rename_i cs hcs
        split
        · rename_i hn
          obtain ⟨arr, h1, h2⟩ := bsl_run (ρ := ρ) (ls := ls) (w := w) hu he (ps := (parts.toList.map fun p => (p.1, trX p.2)).map fun p => (p.1, s.eval Γ p.2)) (vs := parts.toList.map fun p => (p.1, a.eval p.2)) (by simp)
            (by simpa using part_list rel parts.toList) hsz (by simpa [Function.comp_def] using hcs)
          obtain ⟨ρ', g1, g2, g3⟩ := box_glob rel.mem (T := e) h2 hn
          refine .mk rfl (exec_v (by simp only [execOp] <;> rfl) (cv := .slice (some ⟨w.heap.size, 0, none⟩) len len) ?_) (.gs _ _ _ _ _ _ _ _ _ 0 arr.size len g3 (Nat.le_refl _) (Nat.le_refl _) (fun _ => rfl) ?_) g1 g2
          · have e1 : (parts.toList.map fun p => (p.1, a.eval p.2)).toArray = parts.map fun p => (p.1, a.eval p.2) := by apply Array.ext'; simp
            rw [e1] at h1
            exact h1
          · have hl := h2.1
            have hfl : ∀ (ps : List (Nat × Nat × AV)) (l r : List AV), fillA l ps = some r → r.length = l.length := by
              intro ps
              induction ps with
              | nil => intro l r h; simp [fillA] at h; rw [h]
              | cons p ps ih =>
                intro l r h
                obtain ⟨off, size, v⟩ := p
                simp only [fillA] at h
                split at h
                · split at h
                  · split at h
                    · rename_i hle
                      rw [ih _ _ h, over_length hle]
                    · cases h
                  · cases h
                · cases h
            have hl2 := hfl _ _ _ hcs
            have hzl : ei.zero.length = ei.size := by
              obtain ⟨z, z1, z2, z3⟩ := he.zero w ρ ls
              have := z2.1; simp at this; omega
            simp [hzl] at hl2
            simp at hl
            omega
        · trivial
      · trivial
    · cases ht
  case load t x =>
    obtain ⟨ti, tf, rfl⟩ := table' tab ht
    exact .ofO rel.mem (fun v hv => let ⟨cv, h1, h2⟩ := load_ok rel.mem tf (eval_sound rel x) hv; ⟨cv, exec_v (by simp only [execOp] <;> rfl) h1, h2⟩)
  case store t x y =>
    obtain ⟨ti, tf, rfl⟩ := table' tab ht
    simp only [step]
    split
    · rename_i cs hcs
      split
      · rename_i hl
        cases hs : s.store (s.eval Γ (trX x)) cs with
        | none => trivial
        | some s' =>
          have hr := cells_RV (eval_sound rel y) hcs
          obtain ⟨c, o, w', h1, h2, h3, h4, h5⟩ := store_mem (P := P) rel.mem (eval_sound rel x) hr hs
          have hl' := hr.1
          simp at hl'
          refine .skip h3 (exec_u (x := Instr.storeAt t (a.eval x) (a.eval y)) (by simp only [execOp]) ?_) h4 h5
          rw [h1]
          exact storeAt_run tf (by omega) h2
      · trivial
    · trivial
  case nilCheck x =>
    injection ht with ht
    subst ht
    simp only [step]
    split
    · rename_i hn
      exact .pure rel.mem (nilchk_run (eval_sound rel x) hn _ x rfl rfl) (eval_sound rel x)
    · trivial
  case binOp op t x y yt =>
    obtain ⟨ti, tf, ht, _⟩ := table tab ht
    obtain ⟨k, hk, ht⟩ := bind2 ht
    split at ht
    · cases ht
    · rename_i hc
      injection ht with ht
      subst ht
      refine .ofO rel.mem (fun v hv => ?_)
      obtain ⟨cv, h1, h2⟩ := bin_ok (w := w) tf hk (X := x) (Y := y) (fun e => by
        rcases Bool.eq_false_or_eq_true (Region.isConst x || Region.isConst y) with h | h
        · exact h
        · exact absurd ⟨e, by rw [h]; rfl⟩ hc) (eval_sound rel x) (eval_sound rel y) hv
      exact ⟨cv, exec_v (by simp only [execOp] <;> rfl) h1, h2⟩
  case unOp op t x =>
    injection ht with ht
    subst ht
    exact .ofO rel.mem (fun v hv => let ⟨cv, h1, h2⟩ := un_ok (P := P) (w := w) (eval_sound rel x) hv; ⟨cv, exec_v (by simp only [execOp] <;> rfl) h1, h2⟩)
  case convert src dst x =>
    obtain ⟨ai, af, ht, _⟩ := table tab ht
    obtain ⟨bi, bf, ht, _⟩ := table tab ht
    have rx := eval_sound rel x
    split at ht
    · rename_i k0 k h1 h2
      injection ht with ht
      subst ht
      simp only [step]
      split
      · rename_i k' n hx
        have e := int_inv rx hx
        exact .pure rel.mem (exec_v (by simp only [execOp] <;> rfl) (by simp [convert, run_underl (af.kd_int h1), run_underl (bf.kd_int h2), e, Conv.intToInt] <;> rfl)) (.int _ _ _)
      · trivial
    · rename_i h1 h2
      injection ht with ht
      subst ht
      simp only [step]
      split
      · rename_i v hx
        have e := str_inv rx hx
        exact .pure rel.mem (exec_v (by simp only [execOp] <;> rfl) (by simp [convert, run_underl (af.kd_str h1), run_underl (bf.kd_str h2), e] <;> rfl)) (.str _ _)
      · trivial
    · rename_i e h1 h2
      obtain ⟨ei, ef, ht, _⟩ := table tab ht
      split at ht
      · rename_i hk
        injection ht with ht
        subst ht
        simp only [step]
        split
        · rename_i v hx
          have ex := str_inv rx hx
          split
          · obtain ⟨cv, w', ρ', g1, g2, g3, g4⟩ := cvb_ok rel.mem (af.kd_str h1) (bf.kd_slice h2) (ef.kd_int hk) v
            exact .mk rfl (exec_v (x := convert src dst (a.eval x)) (by simp only [execOp]) (by rw [ex]; exact g1)) g2 g3 g4
          · trivial
        · trivial
      · cases ht
    · rename_i e h1 h2
      obtain ⟨ei, ef, ht, _⟩ := table tab ht
      split at ht
      · rename_i hk
        injection ht with ht
        subst ht
        simp only [step]
        refine .ofO rel.mem (fun v hv => ?_)
        cases hl : (s.sliceCells 1 (s.eval Γ (trX x))).bind bytesOfCells with
        | none => rw [hl] at hv; simp at hv
        | some l =>
          rw [hl] at hv
          simp at hv
          subst hv
          exact ⟨_, exec_v (by simp only [execOp] <;> rfl) (cvt_ok rel.mem (af.kd_slice h1) (ef.kd_int hk) (bf.kd_str h2) rx hl), .str _ _⟩
      · cases ht
    · cases ht
  case makeFunc fn first caps =>
    cases fn <;> simp only [] at ht <;> try (cases ht; done)
    rename_i f
    injection ht with ht
    subst ht
    have r1 := evals_sound rel first.toList
    have r2 := evals_sound rel caps.toList
    refine .pure rel.mem (exec_v (by simp only [execOp] <;> rfl) (cv := .func (.func f) (first.map a.eval) (caps.map a.eval)) (by simp [Instr.makeFunc])) (.fn _ _ _ _ _ _ ?_ ?_ (fun i x hx => ?_) (fun i x hx => ?_))
    · simp
    · simp
    · have := r1.2 i x (by simpa using hx); rw [← getD_toList]; simpa using this
    · have := r2.2 i x (by simpa using hx); rw [← getD_toList]; simpa using this
  case makeSlice t l c =>
    obtain ⟨e, ei, hu, he, ht⟩ := elem_table' tab ht
    subst ht
    simp only [step]
    split
    · rename_i k ln k' cp hl hc
      have el := int_inv (eval_sound rel l) hl
      have ec := int_inv (eval_sound rel c) hc
      unfold aMks
      split
      · rename_i hb
        obtain ⟨rfl, h0, hb⟩ := hb
        split
        · rename_i hz
          obtain ⟨arr, h1, h2⟩ := mks_run (w := w) (k := k) (k' := k') hu he h0 hb
          have hr := h2 ρ ls
          obtain ⟨ρ', g1, g2, g3⟩ := box_glob rel.mem (T := e) hr (by
            rw [List.all_eq_true] at *
            intro x hx
            obtain ⟨l, hl1, hl2⟩ := List.mem_flatten.1 hx
            rw [List.eq_of_mem_replicate hl1] at hl2
            exact hz x hl2)
          have hzl : ei.zero.length = ei.size := by
            obtain ⟨z, z1, z2, z3⟩ := he.zero w ρ ls
            have := z2.1; simp at this; omega
          have hlen := hr.1
          simp [hzl] at hlen
          refine .mk rfl (exec_v (x := Instr.makeSlice t (a.eval l) (a.eval c)) (by simp only [execOp]) (by rw [el, ec]; exact h1)) (.gs _ _ _ _ _ _ _ _ _ 0 arr.size _ g3 (Nat.le_refl _) (Nat.le_refl _) (fun _ => rfl) (by omega)) g1 g2
        · trivial
      · trivial
    · trivial
  case slice t x lo hi mx =>
    cases hsk : skOf Θ t with
    | none => simp [hsk] at ht
    | some k =>
      simp only [hsk, Option.map_some, Option.some.injEq] at ht
      subst ht
      simp only [step]
      split
      · rename_i l h m h1 h2 h3
        obtain ⟨o1, d1⟩ := bnd_OB rel h1
        have oh : OB (hi.map a.eval) h := by
          cases hi with
          | none => simp at h2; subst h2; trivial
          | some v =>
            simp only [Option.map_some] at h2
            cases hb : bnd Γ s 0 (some (trX v)) with
            | none => simp [hb] at h2
            | some n =>
              simp [hb] at h2
              subst h2
              exact (bnd_OB (lo := some v) rel hb).1
        have om : OB (mx.map a.eval) m := by
          cases mx with
          | none => simp at h3; subst h3; trivial
          | some v =>
            simp only [Option.map_some] at h3
            cases hb : bnd Γ s 0 (some (trX v)) with
            | none => simp [hb] at h3
            | some n =>
              simp [hb] at h3
              subst h3
              exact (bnd_OB (lo := some v) rel hb).1
        have el : (if lo.isSome then some l else none).getD 0 = l := by
          cases lo with
          | none => simp; exact (d1 rfl).symm
          | some _ => simp
        refine .ofO rel.mem (fun v hv => ?_)
        obtain ⟨cv, g1, g2⟩ := slice_ok (w := w) tab hsk (eval_sound rel x) o1 oh om (by rw [el]; exact hv)
        exact ⟨cv, exec_v (by simp only [execOp] <;> rfl) g1, g2⟩
      · trivial
  case fieldAddr t x f =>
    obtain ⟨ti, tf, ht, _⟩ := table tab ht
    split at ht
    · rename_i fs hk
      obtain ⟨p, hp, ht⟩ := bind2 ht
      obtain ⟨fi, ff, ht, _⟩ := table tab ht
      split at ht
      · cases ht
      · rename_i h0
        injection ht with ht
        subst ht
        refine .ofO rel.mem (fun v hv => ?_)
        obtain ⟨c, o, g1, g2⟩ := fld_ok (eval_sound rel x) hv
        exact ⟨_, exec_v (x := Instr.fieldAt t (a.eval x) f) (by simp only [execOp]) (by rw [g1]; exact fieldAt_ok tf hk hp ff h0), g2⟩
    · cases ht
  case indexAddr t x ix =>
    obtain ⟨ti, tf, ht, _⟩ := table tab ht
    split at ht
    · rename_i e hk
      obtain ⟨ei, ef, rfl⟩ := table' tab ht
      simp only [step]
      split
      · rename_i k n hn
        have en := int_inv (eval_sound rel ix) hn
        refine .ofO rel.mem (fun v hv => ?_)
        obtain ⟨cv, g1, g2⟩ := idxs_ok (P := P) rel.mem tf hk ef (eval_sound rel x) (k := k) (w := w) hv
        exact ⟨cv, exec_v (x := Instr.indexAt t (a.eval x) (a.eval ix)) (by simp only [execOp]) (by rw [en]; exact g1), g2⟩
      · trivial
    · rename_i n e hk
      obtain ⟨ei, ef, rfl⟩ := table' tab ht
      simp only [step]
      split
      · rename_i k n hn
        have en := int_inv (eval_sound rel ix) hn
        refine .ofO rel.mem (fun v hv => ?_)
        obtain ⟨cv, g1, g2⟩ := idxa_ok (P := P) tf hk ef (eval_sound rel x) (k := k) (w := w) hv
        exact ⟨cv, exec_v (x := Instr.indexAt t (a.eval x) (a.eval ix)) (by simp only [execOp]) (by rw [en]; exact g1), g2⟩
      · trivial
    · cases ht
  case index t x ix =>
    obtain ⟨ti, tf, ht, _⟩ := table tab ht
    have rx := eval_sound rel x
    have ri := eval_sound rel ix
    split at ht
    · rename_i hk
      injection ht with ht
      subst ht
      simp only [step]
      split
      · rename_i v k n hx hn
        have ex := str_inv rx hx
        have en := int_inv ri hn
        refine .ofO rel.mem (fun u hu => ?_)
        split at hu
        · rename_i h0
          cases hb : v[n.toNat]? with
          | none => simp [hb] at hu
          | some b =>
            simp [hb] at hu
            subst hu
            exact ⟨_, exec_v (x := Instr.index t (a.eval x) (a.eval ix)) (by simp only [execOp]) (by rw [ex, en]; simp [Instr.index, asIntOf, run_underl (tf.kd_str hk), h0, hb] <;> rfl), .int _ _ _⟩
        · cases hu
      · trivial
    · rename_i n e hk
      obtain ⟨ei, ef, rfl⟩ := table' tab ht
      simp only [step]
      split
      · rename_i cs k j hx hn
        have en := int_inv ri hn
        refine .ofO rel.mem (fun u hu => ?_)
        split at hu
        · rename_i h0
          rw [hx] at rx
          cases hv : a.eval x <;> rw [hv] at rx <;> cases rx
          rename_i vs h1 r
          obtain ⟨cv, g1, g2⟩ := aggX (P := P) (w := w) ef (ρ := ρ) (ls := ls) (cs := cs) (vs := vs) ⟨by simpa using h1, fun i x hx => by rw [getD_toList]; exact r i x hx⟩ hu
          exact ⟨cv, exec_v (x := Instr.index t (a.eval x) (a.eval ix)) (by simp only [execOp]) (by rw [hv, en]; simp [Instr.index, asIntOf, run_underl (tf.kd_arr hk), h0, run_size' ef, g1]), g2⟩
        · cases hu
      · trivial
    · cases ht
  case extract x i =>
    injection ht with ht
    subst ht
    simp only [step]
    split
    · rename_i vs hx
      refine .ofO rel.mem (fun v hv => ?_)
      obtain ⟨cv, g1, g2⟩ := tupX (P := P) (w := w) (eval_sound rel x) hx hv
      exact ⟨cv, exec_v (by simp only [execOp] <;> rfl) g1, g2⟩
    · trivial
  case call c => exact call_sound tab rfl ht rel gl
theorem step_sound (tab : TabOK P Θ) {o : Oper} {i : I} (ht : trI Θ o.op = some i) (rel : Rel Γ ρ ls s a w) (gl : Bool) : StepOK P ρ ls s a w o (step Γ gl s i) := by
  unfold trI at ht
  cases h0 : trI0 Θ o.op with
  | none => rw [h0] at ht; simp at ht; subst ht; simp only [step]; trivial
  | some j => rw [h0] at ht; simp at ht; subst ht; exact step_sound0 tab h0 rel gl
end
end Go.AM
