import Derived.Test.YtleddolmolkpfaaGreatAmStep1
set_option linter.unusedVariables false
set_option linter.unusedSimpArgs false
/-! Each instruction against the model's operation: loads, addresses, arithmetic. -/
namespace Go.AM
section
variable {P : Program} {Γ : Glob} {ρ : Inj} {ls : List Nat} {s : St} {a : Act} {w : World}

theorem run_isAgg {t : TypeId} {ti : TI} (h : TF P t ti) : (isAgg t).run P w = .ok ti.isAgg w := by
  obtain ⟨i, d, z, h1, h2, h3, h4, h5, h6, _⟩ := h.info
  simp only [isAgg, Sem.run_bind, run_underl h2, Result.andThen_ok, TI.isAgg, ← h6]
  cases d <;> rfl

theorem TF.kd_struct {t : TypeId} {ti : TI} (h : TF P t ti) {fs} (e : ti.kd = .strct fs) : ∃ fields : Array Field, P.underlying t = some (.struct fields) ∧ fs = fields.toList.map (fun f => (f.offset, f.type)) := by
  obtain ⟨i, d, z, h1, h2, h3, h4, h5, h6, _⟩ := h.info
  rw [e] at h6
  cases d <;> simp [tkOf] at h6
  exact ⟨_, h2, h6.symm⟩

theorem TF.kd_slice {t : TypeId} {ti : TI} (h : TF P t ti) {e : TypeId} (he : ti.kd = .slice e) : P.underlying t = some (.slice e) := by
  obtain ⟨i, d, z, h1, h2, h3, h4, h5, h6, _⟩ := h.info
  rw [he] at h6
  cases d <;> simp [tkOf] at h6
  rw [h2, h6]

theorem TF.kd_arr {t : TypeId} {ti : TI} (h : TF P t ti) {n : Nat} {e : TypeId} (he : ti.kd = .arr n e) : P.underlying t = some (.array n e) := by
  obtain ⟨i, d, z, h1, h2, h3, h4, h5, h6, _⟩ := h.info
  rw [he] at h6
  cases d <;> simp [tkOf] at h6
  rw [h2, h6.1, h6.2]

theorem TF.kd_str {t : TypeId} {ti : TI} (h : TF P t ti) (he : ti.kd = .str) : P.underlying t = some .string := by
  obtain ⟨i, d, z, h1, h2, h3, h4, h5, h6, _⟩ := h.info
  rw [he] at h6
  cases d <;> simp [tkOf] at h6
  exact h2

theorem TF.kd_bool {t : TypeId} {ti : TI} (h : TF P t ti) (he : ti.kd = .bool) : P.underlying t = some .bool := by
  obtain ⟨i, d, z, h1, h2, h3, h4, h5, h6, _⟩ := h.info
  rw [he] at h6
  cases d <;> simp [tkOf] at h6
  exact h2

theorem TF.kd_int {t : TypeId} {ti : TI} (h : TF P t ti) {k : IntKind} (he : ti.kd = .int k) : P.underlying t = some (.int k) := by
  obtain ⟨i, d, z, h1, h2, h3, h4, h5, h6, _⟩ := h.info
  rw [he] at h6
  cases d <;> simp [tkOf] at h6
  rw [h2, h6]

theorem TF.kd_ptr {t : TypeId} {ti : TI} (h : TF P t ti) {e : TypeId} (he : ti.kd = .ptr e) : P.underlying t = some (.pointer e) := by
  obtain ⟨i, d, z, h1, h2, h3, h4, h5, h6, _⟩ := h.info
  rw [he] at h6
  cases d <;> simp [tkOf] at h6
  rw [h2, h6]

theorem TF.kd_fn {t : TypeId} {ti : TI} (h : TF P t ti) (he : ti.kd = .fn) : ∃ x y z, P.underlying t = some (.func x y z) := by
  obtain ⟨i, d, z, h1, h2, h3, h4, h5, h6, _⟩ := h.info
  rw [he] at h6
  cases d <;> simp [tkOf] at h6
  exact ⟨_, _, _, h2⟩

theorem TF.kd_iface {t : TypeId} {ti : TI} (h : TF P t ti) (he : ti.kd = .iface) : ∃ ms, P.underlying t = some (.interface ms) := by
  obtain ⟨i, d, z, h1, h2, h3, h4, h5, h6, _⟩ := h.info
  rw [he] at h6
  cases d <;> simp [tkOf] at h6
  exact ⟨_, h2⟩

theorem TF.size {t : TypeId} {ti : TI} (h : TF P t ti) : ∃ i, P.info? t = some i ∧ i.size = ti.size ∧ i.bytes = ti.bytes := by
  obtain ⟨i, d, z, h1, h2, h3, h4, _⟩ := h.info
  exact ⟨i, h1, h3, h4⟩

theorem run_size' {t : TypeId} {ti : TI} (h : TF P t ti) : (sizeOf t).run P w = .ok ti.size w := by
  obtain ⟨i, h1, h2, _⟩ := h.size
  rw [run_size h1, h2]

theorem elemOf_spec {Θ : Tab} (tab : TabOK P Θ) {t : TypeId} {ei : TI} (h : elemOf Θ t = some ei) : ∃ e, P.underlying t = some (.slice e) ∧ TF P e ei := by
  unfold elemOf at h
  cases ht : Θ t with
  | none => simp [ht] at h
  | some ti =>
    simp only [ht, Option.bind_some] at h
    split at h
    · rename_i e he
      exact ⟨e, (tab.tf ht).kd_slice he, tab.tf h⟩
    · cases h

/-! #### load -/

theorem load_ok (mem : RH ρ ls s.loc s.heap w) {t : TypeId} {ti : TI} (ht : TF P t ti) {x : AV} {xv : Value} (r : RV ρ ls x xv) {v : AV}
    (h : (s.cells x ti.size).bind (wrapAgg ti.isAgg) = some v) : ∃ cv, (Instr.loadAt t xv).run P w = .ok cv w ∧ RV ρ ls v cv := by
  cases hc : s.cells x ti.size with
  | none => simp [hc] at h
  | some cs =>
    simp only [hc, Option.bind_some] at h
    obtain ⟨c, o, vals, rfl, hlen, hvs, hcell⟩ := cells_sound mem r hc
    simp only [Instr.loadAt, Instr.sureAddr, loadVar, Sem.run_bind, Sem.run_pure, Result.andThen_ok, run_isAgg ht]
    unfold wrapAgg at h
    split at h
    · rename_i hag
      injection h with h
      subst h
      refine ⟨.agg vals.toArray, ?_, .agg _ _ _ (by simpa using hvs.1) (fun i x hx => ?_)⟩
      · have hl := run_loadCells_list (P := P) (w := w) ⟨c, o, none⟩ vals (fun j v hv => by rw [addr_add]; exact hcell j v hv)
        rw [hlen] at hl
        simp [hag, run_size' ht, hl]
      · have := hvs.2 i x hx
        simpa using this
    · rename_i x hag
      injection h with h
      subst h
      have h1 := hvs.1
      match vals, h1 with
      | [u], _ =>
        have hu := hcell 0 u rfl
        have hr := hvs.2 0 x rfl
        exact ⟨u, by simp [hag, run_load]; rw [show (⟨c, o, none⟩ : Addr) = ⟨c, o + 0, none⟩ from rfl, hu], hr⟩
    · cases h

/-! #### addresses -/

theorem fld_ok {x : AV} {xv : Value} (r : RV ρ ls x xv) {off : Nat} {v : AV} (h : aFld off x = some v) :
    ∃ c o, xv = .pointer (some ⟨c, o, none⟩) ∧ RV ρ ls v (.pointer (some ⟨c, o + off, none⟩)) := by
  cases r with
  | lp _ i o c hl =>
    simp only [aFld, Option.some.injEq] at h
    subst h
    exact ⟨c, o, rfl, .lp _ _ _ _ hl⟩
  | gp _ b g o c o' n hm =>
    simp only [aFld, Option.some.injEq] at h
    subst h
    exact ⟨c, o' + o, rfl, by rw [Nat.add_assoc]; exact .gp _ _ _ _ _ _ _ hm⟩
  | ip _ β cs c o f h1 h2 =>
    simp only [aFld, Option.some.injEq] at h
    subst h
    refine ⟨c, o, rfl, .ip _ _ _ _ _ (fun j => f (off + j)) (fun j x hx => ?_) (fun j x hx => ?_)⟩
    · rw [List.getElem?_drop] at hx
      obtain ⟨arr, e1, e2⟩ := h1 _ x hx
      exact ⟨arr, e1, by rw [Nat.add_assoc]; exact e2⟩
    · rw [List.getElem?_drop] at hx
      exact h2 _ x hx
  | _ => simp [aFld] at h

theorem fieldAt_ok {t : TypeId} {ti : TI} (ht : TF P t ti) {fs} (hk : ti.kd = .strct fs) {f off : Nat} {ft : TypeId} (hf : fs[f]? = some (off, ft)) {fi : TI} (hfi : TF P ft fi) (h0 : fi.size ≠ 0)
    {c o : Nat} : (Instr.fieldAt t (.pointer (some ⟨c, o, none⟩)) f).run P w = .ok (.pointer (some ⟨c, o + off, none⟩)) w := by
  obtain ⟨fields, h1, h2⟩ := ht.kd_struct hk
  subst h2
  rw [List.getElem?_map] at hf
  cases hff : fields.toList[f]? with
  | none => simp [hff] at hf
  | some fl =>
    simp [hff] at hf
    obtain ⟨rfl, rfl⟩ := hf
    have hff' : fields[f]? = some fl := by simpa using hff
    simp [Instr.fieldAt, run_underl h1, hff', Instr.sureAddr, fieldPlace, run_size' hfi, h0, addr_add]

theorem idxs_ok (mem : RH ρ ls s.loc s.heap w) {t e : TypeId} {ti ei : TI} (ht : TF P t ti) (hk : ti.kd = .slice e) (he : TF P e ei) {x : AV} {xv : Value} (r : RV ρ ls x xv) {k : IntKind} {i : Int} {v : AV}
    (h : aIdxs ei.size x i = some v) : ∃ cv, (Instr.indexAt t xv (.int k i)).run P w = .ok cv w ∧ RV ρ ls v cv := by
  have hu := ht.kd_slice hk
  cases r with
  | vs _ β sz ex xs c o cap' f h1 h2 h3 h4 r =>
    simp only [aIdxs] at h
    split at h
    · rename_i hsz
      split at h
      · rename_i h0
        cases hx : xs[i.toNat]? with
        | none => simp [hx] at h
        | some l =>
          simp [hx] at h
          subst h
          have hlt := getElem?_lt hx
          refine ⟨.pointer (some ⟨c, o + i.toNat * ei.size, none⟩), ?_, .ip _ _ _ _ _ (f i.toNat) (fun j y hy => ?_) (fun j y hy => r _ l hx j y hy)⟩
          · have hi : i < xs.length := by omega
            simp [Instr.indexAt, asIntOf, run_underl hu, h0, hi, run_size' he, addr_add]
          · obtain ⟨arr, e1, e2⟩ := h4 _ l hx j y hy
            exact ⟨arr, e1, by rw [hsz, Nat.add_assoc]; exact e2⟩
      · cases h
    · cases h
  | vs0 =>
    simp [aIdxs] at h
  | vsn =>
    simp [aIdxs] at h
  | gs _ b g off len cap sz ex c o n cap' hm h1 h2 h3 h4 =>
    simp only [aIdxs] at h
    split at h
    · split at h
      · rename_i hsz hi
        injection h with h
        subst h
        refine ⟨.pointer (some ⟨c, o + off + i.toNat * ei.size, none⟩), ?_, by rw [Nat.add_assoc]; exact .gp _ _ _ _ _ _ _ hm⟩
        simp [Instr.indexAt, asIntOf, run_underl hu, hi, run_size' he, addr_add]
      · cases h
    · cases h
  | gs0 _ b g off sz ex c o n a hm =>
    simp only [aIdxs] at h
    split at h
    · split at h
      · omega
      · cases h
    · cases h
  | _ => simp [aIdxs] at h

theorem idxa_ok {t e : TypeId} {n : Nat} {ti ei : TI} (ht : TF P t ti) (hk : ti.kd = .arr n e) (he : TF P e ei) {x : AV} {xv : Value} (r : RV ρ ls x xv) {k : IntKind} {i : Int} {v : AV}
    (h : aIdxa n ei.size x i = some v) : ∃ cv, (Instr.indexAt t xv (.int k i)).run P w = .ok cv w ∧ RV ρ ls v cv := by
  have hu := ht.kd_arr hk
  unfold aIdxa at h
  split at h
  · rename_i hi
    obtain ⟨c, o, rfl, rv⟩ := fld_ok r h
    refine ⟨_, ?_, rv⟩
    simp [Instr.indexAt, asIntOf, run_underl hu, hi, run_size' he, addr_add, Instr.sureAddr]
  · cases h

/-! #### arithmetic -/

theorem arith_ok {op : BinOp} {k : IntKind} {x y : Int} {v : AV} (hs : op ≠ .shl) (hr : op ≠ .shr) (t : TypeId) (h : aArith op k x y = some v) :
    ∃ cv, (binOp op t (.int k x) (.int k y)).run P w = .ok cv w ∧ RV ρ ls v cv := by
  cases op <;> simp only [aArith] at h <;> first
    | exact absurd rfl hs
    | exact absurd rfl hr
    | (injection h with h; subst h; exact ⟨_, by simp only [binOp, ne_eq, not_true_eq_false, if_false, Op.intArith, Op.intBits, Op.intCmp]; rfl, by constructor⟩)
    | (split at h; · cases h
       · injection h with h; subst h; rename_i h0; exact ⟨_, by simp [binOp, Op.intDiv, h0]; rfl, by constructor⟩)
    | (simp at h; done)

theorem equal_top (t : TypeId) (x y : Value) : ∃ d, Op.equal t x y = Op.equalIn (d + 1) t x y := ⟨9999, rfl⟩

theorem eqlP_ok {x y : AV} {xv yv : Value} (rx : RV ρ ls x xv) (ry : RV ρ ls y yv) {b : Bool} (h : nilEqP x y = some b) {t e : TypeId} (hd : P.underlying t = some (.pointer e)) :
    (Op.equal t xv yv).run P w = .ok b w := by
  obtain ⟨d, e0⟩ := equal_top t _ _
  rw [e0]
  simp only [Op.equalIn, Sem.run_bind, run_underl hd, Result.andThen_ok]
  cases rx <;> cases ry <;> simp [nilEqP] at h <;> subst h <;> rfl

theorem nilS_shape {x y : AV} {xv yv : Value} (rx : RV ρ ls x xv) (ry : RV ρ ls y yv) {b : Bool} (h : nilEqS x y = some b) :
    (xv = .slice none 0 0 ∧ yv = .slice none 0 0 ∧ b = true) ∨ (∃ a n c, xv = .slice none 0 0 ∧ yv = .slice (some a) n c ∧ b = false) ∨ (∃ a n c, xv = .slice (some a) n c ∧ yv = .slice none 0 0 ∧ b = false) := by
  unfold nilEqS at h
  split at h <;> first | (cases h; done) | skip
  all_goals (injection h with h; subst h)
  all_goals cases rx <;> cases ry <;> first | exact .inl ⟨rfl, rfl, rfl⟩ | exact .inr (.inl ⟨_, _, _, rfl, rfl, rfl⟩) | exact .inr (.inr ⟨_, _, _, rfl, rfl, rfl⟩)

theorem eqlS_ok {x y : AV} {xv yv : Value} (rx : RV ρ ls x xv) (ry : RV ρ ls y yv) {b : Bool} (h : nilEqS x y = some b) {t e : TypeId} (hd : P.underlying t = some (.slice e)) :
    (Op.equal t xv yv).run P w = .ok b w := by
  obtain ⟨d, e0⟩ := equal_top t _ _
  rw [e0]
  simp only [Op.equalIn, Sem.run_bind, run_underl hd, Result.andThen_ok]
  rcases nilS_shape rx ry h with ⟨rfl, rfl, rfl⟩ | ⟨a, n, c, rfl, rfl, rfl⟩ | ⟨a, n, c, rfl, rfl, rfl⟩ <;> rfl

theorem eqlF_ok {x y : AV} {xv yv : Value} (rx : RV ρ ls x xv) (ry : RV ρ ls y yv) {b : Bool} (h : nilEqF x y = some b) {t : TypeId} {u v z} (hd : P.underlying t = some (.func u v z)) :
    (Op.equal t xv yv).run P w = .ok b w := by
  obtain ⟨d, e0⟩ := equal_top t _ _
  rw [e0]
  simp only [Op.equalIn, Sem.run_bind, run_underl hd, Result.andThen_ok]
  cases rx <;> cases ry <;> simp [nilEqF] at h <;> subst h <;> rfl

theorem eqlB_ok {x y b : Bool} {t : TypeId} (hd : P.underlying t = some .bool) (h : (x == y) = b) : (Op.equal t (.bool x) (.bool y)).run P w = .ok b w := by
  obtain ⟨d, e0⟩ := equal_top t _ _
  rw [e0]
  simp only [Op.equalIn, Sem.run_bind, run_underl hd, Result.andThen_ok, h]
  rfl

theorem eqlI_ok {x y : Value} {b : Bool} {t : TypeId} {ms} (hd : P.underlying t = some (.interface ms)) (h : aEql .iface (.opq x) (.opq y) = some b) : (Op.equal t x y).run P w = .ok b w := by
  obtain ⟨d, e0⟩ := equal_top t _ _
  rw [e0]
  simp only [Op.equalIn, Sem.run_bind, run_underl hd, Result.andThen_ok]
  cases x <;> cases y <;> simp [aEql] at h <;> subst h <;> rfl

end
end Go.AM
