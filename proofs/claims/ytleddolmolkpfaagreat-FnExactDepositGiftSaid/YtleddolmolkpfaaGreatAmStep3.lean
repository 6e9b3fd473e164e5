import Derived.Test.YtleddolmolkpfaaGreatAmStep2
set_option linter.unusedVariables false
set_option linter.unusedSimpArgs false
/-! Each instruction against the model's operation: two operands, conversions, cuts. -/
namespace Go.AM
section
variable {P : Program} {Γ : Glob} {ρ : Inj} {ls : List Nat} {s : St} {a : Act} {w : World}

/-- Values at which '==' goes on to 'Op.equal'. -/
def eqVal : Value → Bool
  | .bool _ | .pointer _ | .slice _ _ _ | .func _ _ _ | .nilFunc | .agg _ | .iface _ _ | .nilIface => true
  | _ => false

theorem binOp_eql {t : TypeId} {x y : Value} (hx : eqVal x = true) (hy : eqVal y = true) {b : Bool} (h : (Op.equal t x y).run P w = .ok b w) : (binOp .eql t x y).run P w = .ok (.bool b) w := by
  cases x <;> simp [eqVal] at hx <;> cases y <;> simp [eqVal] at hy <;> simp [binOp, h]

theorem binOp_neq {t : TypeId} {x y : Value} (hx : eqVal x = true) (hy : eqVal y = true) {b : Bool} (h : (Op.equal t x y).run P w = .ok b w) : (binOp .neq t x y).run P w = .ok (.bool !b) w := by
  cases x <;> simp [eqVal] at hx <;> cases y <;> simp [eqVal] at hy <;> simp [binOp, h]

theorem eqGuard_ok {op : BinOp} {t : TypeId} {X Y : Operand} {x y : Value} (h1 : ∀ cs cs', x = .agg cs → y = .agg cs' → P.eqGuardType P.depth t = false)
    (h2 : x = .nilIface → y = .nilIface → (Region.isConst X || Region.isConst Y) = true) : (eqGuard op t X Y x y).run P w = .ok () w := by
  unfold eqGuard
  split
  · simp only [Bool.not_true, Bool.false_eq_true, if_false]
    split
    · have := h2 rfl rfl
      cases X <;> cases Y <;> simp [Region.isConst] at this <;> simp
    · simp [h1 _ _ rfl rfl]
    · rfl
  · simp only [Bool.not_true, Bool.false_eq_true, if_false]
    split
    · have := h2 rfl rfl
      cases X <;> cases Y <;> simp [Region.isConst] at this <;> simp
    · simp [h1 _ _ rfl rfl]
    · rfl
  · rfl

theorem ekOf_spec {t : TypeId} {ti : TI} (ht : TF P t ti) {k : EK} (h : ekOf ti = some k) :
    match k with
    | .num => True
    | .bool => P.underlying t = some .bool
    | .agg ks => PlainEq P t ks
    | .nilp => ∃ e, P.underlying t = some (.pointer e)
    | .nils => ∃ e, P.underlying t = some (.slice e)
    | .nilf => ∃ u v z, P.underlying t = some (.func u v z)
    | .iface => ∃ ms, P.underlying t = some (.interface ms) := by
  unfold ekOf at h
  split at h
  · injection h with h; subst h; trivial
  · injection h with h; subst h; trivial
  · rename_i hk; injection h with h; subst h; exact ht.kd_bool hk
  · rename_i fs hk
    rw [Option.map_eq_some_iff] at h
    obtain ⟨ks, hp, rfl⟩ := h
    exact ht.eq ks hp
  · rename_i e hk; injection h with h; subst h; exact ⟨e, ht.kd_ptr hk⟩
  · rename_i e hk; injection h with h; subst h; exact ⟨e, ht.kd_slice hk⟩
  · rename_i hk; injection h with h; subst h; exact ht.kd_fn hk
  · rename_i hk; injection h with h; subst h; exact ht.kd_iface hk
  · cases h

theorem aEql_ok {t : TypeId} {ti : TI} (ht : TF P t ti) {k : EK} (hk : ekOf ti = some k) {x y : AV} {xv yv : Value} (rx : RV ρ ls x xv) (ry : RV ρ ls y yv) {b : Bool} (h : aEql k x y = some b) :
    (Op.equal t xv yv).run P w = .ok b w ∧ eqVal xv = true ∧ eqVal yv = true ∧ (∀ cs cs', xv = .agg cs → yv = .agg cs' → P.eqGuardType P.depth t = false) ∧ (xv = .nilIface → k = .iface) := by
  have hs := ekOf_spec ht hk
  cases k with
  | num => simp [aEql] at h
  | bool =>
    simp only [aEql] at h
    split at h
    · injection h with h
      cases rx; cases ry
      exact ⟨eqlB_ok hs h, rfl, rfl, by simp, by simp⟩
    · cases h
  | agg ks =>
    simp only [aEql] at h
    split at h
    · cases rx with
      | agg _ _ vs h1 r =>
        cases ry with
        | agg _ _ us h1' r' =>
          refine ⟨hs.2 w ρ ls _ _ vs us b ⟨by simpa using h1, fun i x hx => by rw [getD_toList]; exact r i x hx⟩ ⟨by simpa using h1', fun i x hx => by rw [getD_toList]; exact r' i x hx⟩ h, rfl, rfl, fun _ _ _ _ => hs.1, by simp⟩
    · cases h
  | nilp =>
    obtain ⟨e, hs⟩ := hs
    refine ⟨eqlP_ok rx ry h hs, ?_, ?_, ?_, ?_⟩ <;> cases rx <;> cases ry <;> simp [aEql, nilEqP] at h <;> simp [eqVal]
  | nils =>
    obtain ⟨e, hs⟩ := hs
    refine ⟨eqlS_ok rx ry h hs, ?_, ?_, ?_, ?_⟩ <;> rcases nilS_shape rx ry h with ⟨rfl, rfl, rfl⟩ | ⟨a, n, c, rfl, rfl, rfl⟩ | ⟨a, n, c, rfl, rfl, rfl⟩ <;> simp [eqVal]
  | nilf =>
    obtain ⟨u, v, z, hs⟩ := hs
    refine ⟨eqlF_ok rx ry h hs, ?_, ?_, ?_, ?_⟩ <;> cases rx <;> cases ry <;> simp [aEql, nilEqF] at h <;> simp [eqVal]
  | iface =>
    obtain ⟨ms, hs⟩ := hs
    have hx : x = .opq xv := by cases rx <;> simp [aEql] at h <;> rfl
    subst hx
    have hy : y = .opq yv := by cases ry <;> first | rfl | (simp [aEql] at h; done) | (cases xv <;> simp [aEql] at h)
    subst hy
    refine ⟨eqlI_ok hs h, ?_, ?_, ?_, fun _ => rfl⟩ <;> cases xv <;> cases yv <;> simp [aEql] at h <;> simp [eqVal]

theorem bin_ok {op : BinOp} {t : TypeId} {ti : TI} (ht : TF P t ti) {k : EK} (hk : ekOf ti = some k) {X Y : Operand} (hc : k = .iface → (Region.isConst X || Region.isConst Y) = true)
    {x y : AV} {xv yv : Value} (rx : RV ρ ls x xv) (ry : RV ρ ls y yv) {v : AV} (h : aBin op k x y = some v) :
    ∃ cv, (do eqGuard op t X Y xv yv; binOp op t xv yv : Sem Value).run P w = .ok cv w ∧ RV ρ ls v cv := by
  unfold aBin at h
  split at h
  · rename_i kk m kk' n
    cases rx; cases ry
    have hg : (eqGuard op t X Y (.int kk m) (.int kk' n)).run P w = .ok () w := eqGuard_ok (by simp) (by simp)
    simp only [Sem.run_bind, hg, Result.andThen_ok]
    split at h
    · split at h
      · rename_i h0
        injection h with h
        subst h
        exact ⟨_, by simp [binOp, Op.shift, Int.not_lt.2 h0]; rfl, by constructor⟩
      · cases h
    · split at h
      · rename_i h0
        injection h with h
        subst h
        exact ⟨_, by simp [binOp, Op.shift, Int.not_lt.2 h0]; rfl, by constructor⟩
      · cases h
    · split at h
      · rename_i h1 h2 hkk
        subst hkk
        exact arith_ok (fun e => h1 e) (fun e => h2 e) t h
      · cases h
  · rename_i m n
    cases rx; cases ry
    have hg : (eqGuard op t X Y (.string m) (.string n)).run P w = .ok () w := eqGuard_ok (by simp) (by simp)
    simp only [Sem.run_bind, hg, Result.andThen_ok]
    split at h
    · split at h
      · cases h
      · rename_i h0
        injection h with h
        subst h
        have hm : IntKind.i64.max = 9223372036854775807 := by decide
        exact ⟨.string (m ++ n), by simp [binOp, Op.stringOp]; omega, .str _ _⟩
    · injection h with h; subst h
      exact ⟨_, by simp [binOp, Op.stringOp]; rfl, by constructor⟩
    · injection h with h; subst h
      exact ⟨_, by simp [binOp, Op.stringOp]; rfl, by constructor⟩
    · cases h
  · split at h
    · cases he : aEql k x y with
      | none => simp [he] at h
      | some b =>
        simp [he] at h
        subst h
        obtain ⟨h1, h2, h3, h4, h5⟩ := aEql_ok (w := w) ht hk rx ry he
        have hg : (eqGuard .eql t X Y xv yv).run P w = .ok () w := eqGuard_ok h4 (fun e _ => hc (h5 e))
        exact ⟨.bool b, by simp only [Sem.run_bind, hg, Result.andThen_ok, binOp_eql h2 h3 h1], .bool _ _⟩
    · cases he : aEql k x y with
      | none => simp [he] at h
      | some b =>
        simp [he] at h
        subst h
        obtain ⟨h1, h2, h3, h4, h5⟩ := aEql_ok (w := w) ht hk rx ry he
        have hg : (eqGuard .neq t X Y xv yv).run P w = .ok () w := eqGuard_ok h4 (fun e _ => hc (h5 e))
        exact ⟨.bool !b, by simp only [Sem.run_bind, hg, Result.andThen_ok, binOp_neq h2 h3 h1], .bool _ _⟩
    · cases h

theorem un_ok {op : UnOp} {x : AV} {xv : Value} (rx : RV ρ ls x xv) {v : AV} (h : aUn op x = some v) : ∃ cv, (Op.unary op xv).run P w = .ok cv w ∧ RV ρ ls v cv := by
  unfold aUn at h
  split at h
  · cases rx; injection h with h; subst h; exact ⟨_, rfl, .bool _ _⟩
  · cases rx; injection h with h; subst h; exact ⟨_, rfl, .int _ _ _⟩
  · cases h

/-! #### the cells of a slice -/

theorem sliceCells_ok (mem : RH ρ ls s.loc s.heap w) {x : AV} {xv : Value} (r : RV ρ ls x xv) {sz : Nat} {cs : List AV} (h : s.sliceCells sz x = some cs) {n : Nat} (hn : lenOf x = some n) :
    ∃ (A : Option Addr) (cap : Nat) (vals : List Value), xv = .slice A n cap ∧ vals.length = n * sz ∧ RVs ρ ls cs vals ∧ n ≤ cap ∧ (n ≠ 0 → A.isSome) ∧
      ∀ ad, A = some ad → ∀ (j : Nat) (u : Value), vals[j]? = some u → w.cell? (ad.add j) = some u := by
  cases r with
  | nils =>
    simp only [St.sliceCells, Option.some.injEq] at h
    simp only [lenOf, Option.some.injEq] at hn
    subst h hn
    exact ⟨none, 0, [], rfl, by simp, ⟨rfl, fun i x hx => by simp at hx⟩, Nat.le_refl _, by simp, by simp⟩
  | vs _ β sz' ex xs c o cap' f h1 h2 h3 h4 r =>
    simp only [St.sliceCells] at h
    simp only [lenOf, Option.some.injEq] at hn
    subst hn
    split at h
    · rename_i hsz
      injection h with h
      subst h hsz
      -- element i, cell j of the flat list
      have flat : ∀ (xs : List (List AV)), (∀ l ∈ xs, l.length = sz) → ∀ k x, xs.flatten[k]? = some x → ∃ l, xs[k / sz]? = some l ∧ l[k % sz]? = some x ∧ k / sz < xs.length ∧ 0 < sz := by
        intro xs
        induction xs with
        | nil => intro _ k x hx; simp at hx
        | cons l r ih =>
          intro hl k x hx
          have hl0 := hl l (by simp)
          rw [List.flatten_cons] at hx
          by_cases hk : k < l.length
          · rw [List.getElem?_append_left hk] at hx
            refine ⟨l, ?_, ?_, ?_, by omega⟩
            · rw [Nat.div_eq_of_lt (by omega)]; rfl
            · rw [Nat.mod_eq_of_lt (by omega)]; exact hx
            · rw [Nat.div_eq_of_lt (by omega)]; simp
          · rw [List.getElem?_append_right (by omega)] at hx
            obtain ⟨l', e1, e2, e3, e4⟩ := ih (fun l h => hl l (by simp [h])) _ x hx
            have e : k = (k - sz) + sz := by omega
            have ed : k / sz = (k - sz) / sz + 1 := by rw [e, Nat.add_div_right _ e4]; simp
            have em : k % sz = (k - sz) % sz := by rw [e, Nat.add_mod_right]; simp
            rw [hl0] at e1 e2 e3
            refine ⟨l', ?_, ?_, ?_, e4⟩
            · rw [ed]; simpa using e1
            · rw [em]; exact e2
            · rw [ed]; simp; exact e3
      have hlen : xs.flatten.length = xs.length * sz := by
        have : ∀ (ys : List (List AV)), (∀ l ∈ ys, l.length = sz) → ys.flatten.length = ys.length * sz := by
          intro ys
          induction ys with
          | nil => intro _; simp
          | cons l r ih => intro hl; rw [List.flatten_cons, List.length_append, ih (fun l h => hl l (by simp [h])), hl l (by simp), List.length_cons, Nat.succ_mul]; omega
        exact this xs (fun l hl => by obtain ⟨i, hi⟩ := List.mem_iff_getElem?.1 hl; exact h3 i l hi)
      have hmem : ∀ l ∈ xs, l.length = sz := fun l hl => by obtain ⟨i, hi⟩ := List.mem_iff_getElem?.1 hl; exact h3 i l hi
      refine ⟨_, cap', (List.range (xs.length * sz)).map fun k => f (k / sz) (k % sz), rfl, by simp, ⟨by simp [hlen], fun k x hx => ?_⟩, h1, by simp, ?_⟩
      · have hk := getElem?_lt hx
        obtain ⟨l, e1, e2, _, _⟩ := flat xs hmem k x hx
        have := r _ l e1 _ x e2
        rw [hlen] at hk
        simp [hk]
        exact this.mono (.refl _) (.nil _)
      · intro ad had k u hu
        injection had with had
        subst had
        have hk : k < xs.length * sz := by have := getElem?_lt hu; simpa using this
        simp [hk] at hu
        subst hu
        have hx : xs.flatten[k]? = some (xs.flatten[k]'(by rw [hlen]; exact hk)) := List.getElem?_eq_getElem _
        obtain ⟨l, e1, e2, e3, e4⟩ := flat xs hmem k _ hx
        obtain ⟨arr, i1, i2⟩ := h4 _ l e1 _ _ e2
        obtain ⟨T, fr, i3⟩ := mem.im β c arr i1
        rw [addr_add, cell_of i3, ← i2, Nat.div_add_mod']
    · cases h
  | vs0 _ β sz' ex ad cap' h2 =>
    simp only [St.sliceCells] at h
    simp only [lenOf, Option.some.injEq] at hn
    subst hn
    split at h
    · injection h with h
      subst h
      exact ⟨some ad, cap', [], rfl, by simp, ⟨rfl, fun i x hx => by simp at hx⟩, Nat.zero_le _, by simp, by simp⟩
    · cases h
  | vsn _ β sz' ex =>
    simp only [St.sliceCells] at h
    simp only [lenOf, Option.some.injEq] at hn
    subst hn
    split at h
    · injection h with h
      subst h
      exact ⟨none, 0, [], rfl, by simp, ⟨rfl, fun i x hx => by simp at hx⟩, Nat.zero_le _, by simp, by simp⟩
    · cases h
  | opq _ v =>
    simp only [St.sliceCells] at h
    split at h <;> try (cases h; done)
    all_goals (rename_i he; try (cases he; done))
    injection he with he
    subst he
    injection h with h
    subst h
    simp only [lenOf, Option.some.injEq] at hn
    subst hn
    exact ⟨some _, _, [], rfl, by simp, ⟨rfl, fun i x hx => by simp at hx⟩, Nat.zero_le _, by simp, by simp⟩
  | gs _ b g off len cap sz' ex c o n' cap' hm h1 h2 h3 h4 =>
    simp only [St.sliceCells] at h
    simp only [lenOf, Option.some.injEq] at hn
    subst hn
    split at h
    · rename_i hsz
      subst hsz
      cases hb : hget s.heap b with
      | none => simp [hb] at h
      | some e =>
        simp only [hb, Option.bind_some] at h
        split at h
        · rename_i hg
          have hcell : s.cells (.gp b g off) (len * sz) = some cs := by simp [St.cells, hb, hg, h]
          obtain ⟨c', o', vals, e1, e2, e3, e4⟩ := cells_sound mem (RV.gp ls b g off c o n' hm) hcell
          injection e1 with e1
          injection e1 with e1
          injection e1 with e1 e1'
          subst e1 e1'
          refine ⟨_, cap', vals, rfl, e2, e3, by omega, by simp, ?_⟩
          intro ad had j u hu
          injection had with had
          subst had
          rw [addr_add]; exact e4 j u hu
        · cases h
    · cases h
  | gs0 _ b g off sz' ex c o n' ad hm =>
    simp only [lenOf, Option.some.injEq] at hn
    subst hn
    simp only [St.sliceCells] at h
    split at h
    · cases hb : hget s.heap b with
      | none => simp [hb] at h
      | some e =>
        simp only [hb, Option.bind_some] at h
        split at h
        · obtain ⟨_, h2, _⟩ := sub_spec h
          have : cs = [] := List.eq_nil_of_length_eq_zero (by simpa using h2)
          subst this
          exact ⟨some ad, 0, [], rfl, by simp, ⟨rfl, fun i x hx => by simp at hx⟩, Nat.le_refl _, by simp, by simp⟩
        · cases h
    · cases h
  | _ => simp [St.sliceCells] at h

end
end Go.AM
