import Derived.Test.YtleddolmolkpfaaGreatAmStep9
set_option linter.unusedVariables false
set_option linter.unusedSimpArgs false
/-! Each instruction against the model's operation: the one theorem. -/
namespace Go.AM
section
variable {P : Program} {Γ : Glob} {ρ : Inj} {ls : List Nat} {s : St} {a : Act} {w : World}

theorem exec_v {o : Oper} {x : Sem Value} (h : execOp a.eval o = (do pure (Next.value (← x)))) {cv : Value} {w' : World} (hx : x.run P w = .ok cv w') : (execOp a.eval o).run P w = .ok (.value cv) w' := by
  rw [h]; simp [hx]

theorem exec_u {o : Oper} {x : Sem Unit} (h : execOp a.eval o = (do x; pure Next.skip)) {w' : World} (hx : x.run P w = .ok () w') : (execOp a.eval o).run P w = .ok .skip w' := by
  rw [h]; simp [hx]

theorem undef_RV : RV ρ ls (.tup []) undef := .tup _ [] #[] rfl (fun i x h => by simp at h)

theorem StepOK.mk {o : Oper} {v : AV} {s' : St} {cv : Value} {w' : World} {ρ' : Inj} {ls' : List Nat} (he : s'.env = s.env) (h : (execOp a.eval o).run P w = .ok (.value cv) w') (r : RV ρ' ls' v cv)
    (m : RH ρ' ls' s'.loc s'.heap w') (e : Evo ρ ls s.heap w ρ' ls' s'.heap w') : StepOK P ρ ls s a w o (.val v s') :=
  ⟨he, _, cv, w', ρ', ls', h, .inl rfl, r, m, e⟩

theorem StepOK.skip {o : Oper} {s' : St} {w' : World} {ρ' : Inj} {ls' : List Nat} (he : s'.env = s.env) (h : (execOp a.eval o).run P w = .ok .skip w')
    (m : RH ρ' ls' s'.loc s'.heap w') (e : Evo ρ ls s.heap w ρ' ls' s'.heap w') : StepOK P ρ ls s a w o (.val (.tup []) s') :=
  ⟨he, _, undef, w', ρ', ls', h, .inr ⟨rfl, rfl⟩, undef_RV, m, e⟩

theorem int_inv {x : AV} {xv : Value} (r : RV ρ ls x xv) {k : IntKind} {n : Int} (e : x = .int k n) : xv = .int k n := by subst e; cases r; rfl
theorem str_inv {x : AV} {xv : Value} (r : RV ρ ls x xv) {v : ByteArray} (e : x = .str v) : xv = .string v := by subst e; cases r; rfl
theorem bool_inv {x : AV} {xv : Value} (r : RV ρ ls x xv) {b : Bool} (e : x = .bool b) : xv = .bool b := by subst e; cases r; rfl

variable {Θ : Tab}

theorem table {t : TypeId} {α : Type} {f : TI → Option α} {r : α} (tab : TabOK P Θ) (h : (Θ t).bind f = some r) : ∃ ti, TF P t ti ∧ f ti = some r ∧ Θ t = some ti := by
  cases ht : Θ t with
  | none => simp [ht] at h
  | some ti => exact ⟨ti, tab.tf ht, by simpa [ht] using h, rfl⟩

theorem table' {t : TypeId} {α : Type} {f : TI → α} {r : α} (tab : TabOK P Θ) (h : (Θ t).map f = some r) : ∃ ti, TF P t ti ∧ f ti = r := by
  cases ht : Θ t with
  | none => simp [ht] at h
  | some ti => exact ⟨ti, tab.tf ht, by simpa [ht] using h⟩

theorem elem_table {t : TypeId} {α : Type} {f : TI → Option α} {r : α} (tab : TabOK P Θ) (h : (elemOf Θ t).bind f = some r) : ∃ e ei, P.underlying t = some (.slice e) ∧ TF P e ei ∧ f ei = some r := by
  cases ht : elemOf Θ t with
  | none => simp [ht] at h
  | some ei =>
    obtain ⟨e, h1, h2⟩ := elemOf_spec tab ht
    exact ⟨e, ei, h1, h2, by simpa [ht] using h⟩

theorem elem_table' {t : TypeId} {α : Type} {f : TI → α} {r : α} (tab : TabOK P Θ) (h : (elemOf Θ t).map f = some r) : ∃ e ei, P.underlying t = some (.slice e) ∧ TF P e ei ∧ f ei = r := by
  cases ht : elemOf Θ t with
  | none => simp [ht] at h
  | some ei =>
    obtain ⟨e, h1, h2⟩ := elemOf_spec tab ht
    exact ⟨e, ei, h1, h2, by simpa [ht] using h⟩

theorem bind2 {α β : Type} {x : Option α} {f : α → Option β} {y : β} (h : x.bind f = some y) : ∃ z, x = some z ∧ f z = some y := by
  cases x with
  | none => simp at h
  | some z => exact ⟨z, rfl, by simpa using h⟩

theorem alloc_sound (rel : Rel Γ ρ ls s a w) {gl : Bool} {o : Oper} {z : List AV} {zv : Value} {T : TypeId} (hz : RVs ρ ls z zv.cells.toList)
    (h : (execOp a.eval o).run P w = .ok (.value (.pointer (some ⟨w.heap.size, 0, none⟩))) { w with heap := w.heap.push (.cells zv.cells T (0, 0)) }) :
    StepOK P ρ ls s a w o (if gl = true then (if z.all noLp then .val (.gp s.heap.length 0 0) (s.push z) else .stuck) else .val (.lp s.loc.length 0) { s with loc := s.loc ++ [z] }) := by
  split
  · split
    · rename_i hn
      obtain ⟨ρ', h1, h2, h3⟩ := box_glob rel.mem (T := T) hz hn
      have := RV.gp (ρ := ρ') ls s.heap.length 0 0 w.heap.size 0 _ h3
      exact .mk rfl h this h1 h2
    · trivial
  · obtain ⟨h1, h2⟩ := box_loc rel.mem (T := T) hz
    refine .mk rfl h (.lp _ _ _ _ ?_) h1 h2
    rw [List.getElem?_append_right (by rw [rel.mem.len]; omega), rel.mem.len]
    simp

theorem nilchk_run {x : AV} {v : Value} (r : RV ρ ls x v) (h : isNil x = some false) (o : Oper) (X : Operand) (ho : o.op = .nilCheck X) (hv : a.eval X = v) : (execOp a.eval o).run P w = .ok (.value v) w := by
  unfold execOp
  rw [ho]
  simp only [hv]
  cases r <;> simp [isNil] at h <;> rfl

theorem tupX {x : AV} {xv : Value} (r : RV ρ ls x xv) {vs : List AV} (e : x = .tup vs) {i : Nat} {v : AV} (h : vs[i]? = some v) : ∃ cv, (Instr.extract xv i).run P w = .ok cv w ∧ RV ρ ls v cv := by
  subst e
  cases r with
  | tup _ _ us h1 r =>
    have hi := getElem?_lt h
    have hr := r i v h
    refine ⟨us[i]'(by omega), ?_, ?_⟩
    · simp [Instr.extract, show i < us.size by omega]
    · simpa [Array.getD, show i < us.size by omega] using hr

theorem aggX {e : TypeId} {ei : TI} (he : TF P e ei) {cs : List AV} {vs : Array Value} (hr : RVs ρ ls cs vs.toList) {off : Nat} {v : AV} (h : (sub cs off ei.size).bind (wrapAgg ei.isAgg) = some v) :
    ∃ cv, (part e vs off).run P w = .ok cv w ∧ RV ρ ls v cv := by
  obtain ⟨us, h1, h2⟩ := bind2 h
  obtain ⟨s1, s2, s3⟩ := sub_spec h1
  have hl := hr.1
  simp at hl
  unfold wrapAgg at h2
  split at h2
  · rename_i hag
    injection h2 with h2
    subst h2
    refine ⟨.agg (vs.extract off (off + ei.size)), by simp [part, run_isAgg he, hag, run_size' he], .agg _ _ _ (by simp; omega) (fun i x hx => ?_)⟩
    have hi := getElem?_lt hx
    rw [s3 i (by omega)] at hx
    have := hr.2 _ x hx
    rw [getD_toList] at this
    have e1 : (vs.extract off (off + ei.size)).getD i default = vs.getD (off + i) default := by
      simp [Array.getD, show off + i < vs.size by omega, show i < min (off + ei.size) vs.size - off by omega]
    rw [e1]; exact this
  · rename_i x hag
    injection h2 with h2
    subst h2
    have hx : cs[off + 0]? = some x := by rw [← s3 0 (by simp at s2; omega)]; rfl
    have := hr.2 _ x hx
    rw [getD_toList] at this
    have hlt : off < vs.size := by simp at s2; omega
    refine ⟨vs[off], by simp [part, run_isAgg he, hag, hlt], ?_⟩
    simpa [Array.getD, hlt] using this
  · cases h2

theorem part_list (rel : Rel Γ ρ ls s a w) (ps : List (Nat × Operand)) : ∀ (i : Nat) p v, (ps.map fun p => (p.1, s.eval Γ (trX p.2)))[i]? = some p → (ps.map fun p => (p.1, a.eval p.2))[i]? = some v → p.1 = v.1 ∧ RV ρ ls p.2 v.2 := by
  intro i p v h1 h2
  rw [List.getElem?_map] at h1 h2
  cases h : ps[i]? with
  | none => simp [h] at h1
  | some q =>
    simp [h] at h1 h2
    subst h1 h2
    exact ⟨rfl, eval_sound rel q.2⟩

theorem mapM_spec {α β : Type} {f : α → Option β} : ∀ {l : List α} {r : List β}, l.mapM f = some r → r.length = l.length ∧ ∀ (i : Nat) x, l[i]? = some x → ∃ y, r[i]? = some y ∧ f x = some y := by
  intro l
  induction l with
  | nil => intro r h; simp at h; subst h; exact ⟨rfl, fun i x hx => by simp at hx⟩
  | cons b l ih =>
    intro r h
    rw [List.mapM_cons] at h
    cases hb : f b with
    | none => simp [hb] at h
    | some y =>
      cases hl : l.mapM f with
      | none => simp [hb, hl] at h
      | some r' =>
        simp [hb, hl] at h
        subst h
        obtain ⟨i1, i2⟩ := ih hl
        refine ⟨by simp [i1], fun i x hx => ?_⟩
        cases i with
        | zero => simp at hx; subst hx; exact ⟨y, rfl, hb⟩
        | succ i => exact i2 i x (by simpa using hx)

theorem AR.ofP_eq (x : Option (AV × St)) : (∃ v s', x = some (v, s') ∧ AR.ofP x = .val v s') ∨ (x = none ∧ AR.ofP x = .stuck) := by
  cases x with
  | none => exact .inr ⟨rfl, rfl⟩
  | some p => exact .inl ⟨p.1, p.2, rfl, rfl⟩

theorem execOp_call {o : Oper} {c : Call} (h : o.op = .call c) : execOp a.eval o = (do let d ← resolve a.eval c o.type; invoke d.target d.args) := by
  unfold execOp; rw [h]

theorem builtin_run {o : Oper} {c : Call} {b : Builtin} (h : o.op = .call c) (hb : c.callee = .builtin b) :
    ∃ cs, (execOp a.eval o).run P w = (builtin b c.argTypes o.type cs (c.args.map a.eval)).run P w := by
  refine ⟨c.args.map fun | .const _ => true | _ => false, ?_⟩
  rw [execOp_call h]
  simp [resolve, hb, invoke]
  rfl

theorem list1 {α : Type} {xs : Array α} {x : α} (h : xs.toList = [x]) : xs = #[x] := by cases xs; simp at h; subst h; rfl
theorem list2 {α : Type} {xs : Array α} {x y : α} (h : xs.toList = [x, y]) : xs = #[x, y] := by cases xs; simp at h; subst h; rfl

theorem lenKs {x : AV} {xv : Value} (r : RV ρ ls x xv) {n : Nat} (h : lenK false x = some n) : ∃ A c, xv = .slice A n c := by
  cases r
  case opq =>
    simp only [lenK] at h
    split at h <;> try (cases h; done)
    all_goals first | (rename_i he; cases he; done) | skip
    all_goals (rename_i he; injection he with he; subst he; injection h with h; subst h; exact ⟨_, _, rfl⟩)
  all_goals (simp [lenK] at h)
  all_goals (subst h; exact ⟨_, _, rfl⟩)

theorem lenKt {x : AV} {xv : Value} (r : RV ρ ls x xv) {n : Nat} (h : lenK true x = some n) : ∃ sb, xv = .string sb ∧ sb.size = n := by
  cases r
  case opq => simp [lenK] at h
  all_goals (simp [lenK] at h)
  all_goals (subst h; exact ⟨_, rfl, rfl⟩)

theorem lenX {x : AV} {xv : Value} (r : RV ρ ls x xv) {n : Nat} (h : lenOf x = some n) : (∃ A c, xv = .slice A n c) ∨ (∃ sb, xv = .string sb ∧ sb.size = n) := by
  cases r
  case opq =>
    simp only [lenOf] at h
    split at h <;> try (cases h; done)
    all_goals first | (rename_i he; cases he; done) | skip
    all_goals (rename_i he; injection he with he; subst he; injection h with h; subst h; exact .inl ⟨_, _, rfl⟩)
  all_goals (simp [lenOf] at h)
  all_goals (subst h; first | exact .inr ⟨_, rfl, rfl⟩ | exact .inl ⟨_, _, rfl⟩)

end
end Go.AM
