import Derived.Test.YteaebikmfmggbaaDoorAmCall
set_option linter.unusedVariables false
set_option linter.unusedSimpArgs false
namespace Go.AM
def quiet : I → Bool
  | .alloc _ | .box _ | .bsl .. | .store .. | .cvb _ | .mks .. | .app .. | .appz .. | .clr .. | .copy .. | .call .. | .bad => false
  | _ => true
def pureI : I → Bool
  | .load .. | .cvt _ => false
  | i => quiet i
def X.tm : X → List Nat | .t n => [n] | _ => []
def xsT (xs : List X) : List Nat := xs.flatMap X.tm
def oT : Option X → List Nat | some x => x.tm | none => []
def looks : I → List Nat
  | .mov x | .box x | .nilchk x | .un _ x | .cvi _ x | .cvs x | .cvb x | .cvt x | .fld _ x | .extr x _ | .len _ x | .cap x | .clr _ _ x => x.tm
  | .pick c a b => c.tm ++ (a.tm ++ b.tm)
  | .alloc _ | .lenc _ => []
  | .build _ ps => ps.flatMap fun p => p.2.2.tm
  | .bsl _ _ _ ps => ps.flatMap fun p => p.2.tm
  | .load _ _ a => a.tm
  | .store _ a v => a.tm ++ v.tm
  | .bin _ _ x y => x.tm ++ y.tm
  | .mkf _ a b => xsT a ++ xsT b
  | .mks _ _ _ l c | .appz _ _ _ l c => l.tm ++ c.tm
  | .slice _ x lo hi mx => x.tm ++ (oT lo ++ (oT hi ++ oT mx))
  | .idxs _ x i | .idxa _ _ x i | .idxstr x i | .idxagg _ _ _ x i => x.tm ++ i.tm
  | .app _ _ _ _ x y | .copy _ _ x y => x.tm ++ y.tm
  | .mm _ xs => xsT xs
  | .call f args => f.tm ++ xsT args
  | .bad => []
def looksO (os : List O) (o : O) : List Nat :=
  looks o.op ++ match o.gd with | some (j, _) => ((os[j]?).bind (·.dst)).toList | none => []
section
variable {P : Program} {Θ : Tab} {Γ : Glob}
def AR.wEnv (e : List AV) : AR → AR
  | .val v s => .val v { s with env := e }
  | r => r
theorem eval_env {s : St} {e : List AV} {x : X} (h : ∀ t ∈ x.tm, e[t]? = s.env[t]?) : ({ s with env := e } : St).eval Γ x = s.eval Γ x := by
  cases x with
  | t n => simp [St.eval, List.getD_eq_getElem?_getD, h n (by simp [X.tm])]
  | c v => rfl
  | g n => rfl
theorem evals_env {s : St} {e : List AV} {xs : List X} (h : ∀ t ∈ xsT xs, e[t]? = s.env[t]?) : xs.map (({ s with env := e } : St).eval Γ) = xs.map (s.eval Γ) :=
  List.map_congr_left fun x hx => eval_env fun t ht => h t (List.mem_flatMap.2 ⟨x, hx, ht⟩)
theorem bnd_env {s : St} {e : List AV} {d : Nat} {o : Option X} (h : ∀ t ∈ oT o, e[t]? = s.env[t]?) : bnd Γ { s with env := e } d o = bnd Γ s d o := by
  cases o with
  | none => rfl
  | some x => simp only [bnd]; rw [eval_env h]
theorem cells_env {s : St} {e : List AV} (a : AV) (n : Nat) : ({ s with env := e } : St).cells a n = s.cells a n := by cases a <;> rfl
theorem sliceCells_env {s : St} {e : List AV} (n : Nat) (a : AV) : ({ s with env := e } : St).sliceCells n a = s.sliceCells n a := by cases a <;> rfl
theorem store_env {s : St} {e : List AV} (a : AV) (cs : List AV) : ({ s with env := e } : St).store a cs = (s.store a cs).map fun s' => { s' with env := e } := by
  cases a <;> try rfl
  case lp i off =>
    simp only [St.store]
    cases s.loc[i]? with
    | none => rfl
    | some l => simp only [Option.bind_some]; split <;> (try split) <;> rfl
  case gp b g off =>
    simp only [St.store]
    cases hget s.heap b with
    | none => rfl
    | some l => simp only [Option.bind_some]; split <;> (try split) <;> (try split) <;> rfl
theorem srcCells_env {s : St} {e : List AV} (n : Nat) (b : Bool) (a : AV) : srcCells { s with env := e } n b a = srcCells s n b a := by
  cases b <;> cases a <;> rfl
theorem aAppz_env {s : St} {e : List AV} (sz bytes : Nat) (z : List AV) (n : Int) : aAppz { s with env := e } sz bytes z n = (aAppz s sz bytes z n).map fun p => (p.1, { p.2 with env := e }) := by
  unfold aAppz
  split
  · split <;> rfl
  · rfl
theorem aMks_env {s : St} {e : List AV} (sz bytes : Nat) (z : List AV) (ln cp : Int) : aMks { s with env := e } sz bytes z ln cp = (aMks s sz bytes z ln cp).map fun p => (p.1, { p.2 with env := e }) := by
  unfold aMks
  split
  · split <;> rfl
  · rfl
theorem aApp_env {s : St} {e : List AV} (sz bytes : Nat) (x : AV) (ys : List AV) (n m : Nat) : aApp { s with env := e } sz bytes x ys n m = (aApp s sz bytes x ys n m).map fun p => (p.1, { p.2 with env := e }) := by
  unfold aApp
  split
  · rfl
  split
  · rfl
  cases x <;> try rfl
  · simp only
    split
    · rfl
    split <;> rfl
  · simp only
    cases hget s.heap _ with
    | none => rfl
    | some l =>
      simp only [Option.bind_some]
      split
      · split
        · split
          · split
            · split <;> rfl
            · cases sub l.2 _ _ <;> rfl
          · rfl
        · rfl
      · rfl
  · simp only
    split
    · rfl
    split
    · split
      · split
        · split <;> rfl
        · rfl
      · rfl
    · rfl
theorem aClr_env {s : St} {e : List AV} (sz : Nat) (z : List AV) (x : AV) : aClr { s with env := e } sz z x = (aClr s sz z x).map fun s' => { s' with env := e } := by
  unfold aClr
  split
  · rfl
  · split
    · rfl
    · split
      · exact store_env _ _
      · rfl
  · rfl
  · rfl
theorem aCopy_env {s : St} {e : List AV} (sz : Nat) (x : AV) (ys : List AV) (n : Nat) : aCopy { s with env := e } sz x ys n = (aCopy s sz x ys n).map fun p => (p.1, { p.2 with env := e }) := by
  unfold aCopy
  split
  · rfl
  · split
    · rw [store_env]; simp [Option.map_map, Function.comp_def]
    · rfl
  · rfl
theorem ofO_env {s : St} {e : List AV} (o : Option AV) : AR.ofO { s with env := e } o = (AR.ofO s o).wEnv e := by cases o <;> rfl
theorem ofS_env {e : List AV} (o : Option St) : AR.ofS (o.map fun s' => { s' with env := e }) = (AR.ofS o).wEnv e := by cases o <;> rfl
theorem ofP_env {e : List AV} (o : Option (AV × St)) : AR.ofP (o.map fun p => (p.1, { p.2 with env := e })) = (AR.ofP o).wEnv e := by cases o <;> rfl
theorem step_env {s : St} {e : List AV} {gl : Bool} (i : I) (h : ∀ t ∈ looks i, e[t]? = s.env[t]?) : step Γ gl { s with env := e } i = (step Γ gl s i).wEnv e := by
  cases i <;> simp only [looks, List.mem_append] at h <;> simp only [step]
  case mov x => rw [eval_env h]; rfl
  case pick c a b =>
    rw [eval_env (x := c) fun t ht => h t (.inl ht), eval_env (x := a) fun t ht => h t (.inr (.inl ht)), eval_env (x := b) fun t ht => h t (.inr (.inr ht))]
    cases s.eval Γ c <;> rfl
  case alloc z => split <;> (try split) <;> rfl
  case box x =>
    rw [eval_env h]
    cases cellsOf (s.eval Γ x) with
    | none => rfl
    | some cs => simp only; split <;> (try split) <;> rfl
  case build z ps =>
    rw [List.map_congr_left (g := fun p : Nat × Nat × X => (p.1, p.2.1, s.eval Γ p.2.2)) fun p hp => by rw [eval_env fun t ht => h t (List.mem_flatMap.2 ⟨p, hp, ht⟩)]]
    exact ofO_env _
  case bsl sz len z ps =>
    rw [List.map_congr_left (g := fun p : Nat × X => (p.1 * sz, sz, s.eval Γ p.2)) fun p hp => by rw [eval_env fun t ht => h t (List.mem_flatMap.2 ⟨p, hp, ht⟩)]]
    cases fillA _ _ with
    | none => rfl
    | some cs => simp only; split <;> rfl
  case load n agg a => rw [eval_env h, cells_env]; exact ofO_env _
  case store n a v =>
    rw [eval_env (x := v) fun t ht => h t (.inr ht), eval_env (x := a) fun t ht => h t (.inl ht)]
    cases cellsOf (s.eval Γ v) with
    | none => rfl
    | some cs =>
      simp only
      split
      · rw [store_env]; exact ofS_env _
      · rfl
  case nilchk x =>
    rw [eval_env h]
    cases isNil (s.eval Γ x) with
    | none => rfl
    | some b => cases b <;> rfl
  case bin op ek x y => rw [eval_env (x := x) fun t ht => h t (.inl ht), eval_env (x := y) fun t ht => h t (.inr ht)]; exact ofO_env _
  case un op x => rw [eval_env h]; exact ofO_env _
  case cvi k x => rw [eval_env h]; cases s.eval Γ x <;> rfl
  case cvs x => rw [eval_env h]; cases s.eval Γ x <;> rfl
  case cvb x =>
    rw [eval_env h]
    cases s.eval Γ x <;> try rfl
    simp only
    split <;> rfl
  case cvt x => rw [eval_env h, sliceCells_env]; exact ofO_env _
  case mkf f first caps => rw [evals_env fun t ht => h t (.inl ht), evals_env fun t ht => h t (.inr ht)]; rfl
  case mks sz bytes z l c =>
    rw [eval_env (x := l) fun t ht => h t (.inl ht), eval_env (x := c) fun t ht => h t (.inr ht)]
    cases s.eval Γ l <;> try rfl
    cases s.eval Γ c <;> try rfl
    simp only
    rw [aMks_env]; exact ofP_env _
  case appz sz bytes z l c =>
    rw [eval_env (x := l) fun t ht => h t (.inl ht), eval_env (x := c) fun t ht => h t (.inr ht)]
    cases s.eval Γ l <;> try rfl
    cases s.eval Γ c <;> try rfl
    simp only
    rw [aAppz_env]; exact ofP_env _
  case slice k x lo hi mx =>
    rw [eval_env (x := x) fun t ht => h t (.inl ht), bnd_env (o := lo) fun t ht => h t (.inr (.inl ht))]
    have e1 : ∀ y, hi = some y → bnd Γ { s with env := e } 0 (some y) = bnd Γ s 0 (some y) := fun y hy => bnd_env (o := some y) fun t ht => h t (.inr (.inr (.inl (by rw [hy]; exact ht))))
    have e2 : ∀ y, mx = some y → bnd Γ { s with env := e } 0 (some y) = bnd Γ s 0 (some y) := fun y hy => bnd_env (o := some y) fun t ht => h t (.inr (.inr (.inr (by rw [hy]; exact ht))))
    cases hi <;> cases mx <;> (first | simp only [e1 _ rfl, e2 _ rfl] | simp only [e1 _ rfl] | simp only [e2 _ rfl] | dsimp only) <;> (split <;> first | exact ofO_env _ | rfl)
  case fld off x => rw [eval_env h]; exact ofO_env _
  case idxs sz x i =>
    rw [eval_env (x := x) fun t ht => h t (.inl ht), eval_env (x := i) fun t ht => h t (.inr ht)]
    cases s.eval Γ i <;> try rfl
    exact ofO_env _
  case idxa n sz x i =>
    rw [eval_env (x := x) fun t ht => h t (.inl ht), eval_env (x := i) fun t ht => h t (.inr ht)]
    cases s.eval Γ i <;> try rfl
    exact ofO_env _
  case idxstr x i =>
    rw [eval_env (x := x) fun t ht => h t (.inl ht), eval_env (x := i) fun t ht => h t (.inr ht)]
    split
    · exact ofO_env _
    · rfl
  case idxagg n sz agg x i =>
    rw [eval_env (x := x) fun t ht => h t (.inl ht), eval_env (x := i) fun t ht => h t (.inr ht)]
    split
    · exact ofO_env _
    · rfl
  case extr x i =>
    rw [eval_env h]
    cases s.eval Γ x <;> try rfl
    exact ofO_env _
  case len str x => rw [eval_env h]; exact ofO_env _
  case lenc n => rfl
  case cap x =>
    rw [eval_env h]
    split <;> first | rfl | (rename_i h1; cases h1)
  case app sz bytes z str x y =>
    rw [eval_env (x := x) fun t ht => h t (.inl ht), eval_env (x := y) fun t ht => h t (.inr ht), srcCells_env]
    split
    · rw [aApp_env]; exact ofP_env _
    · rfl
  case clr sz z x => rw [eval_env h, aClr_env]; exact ofS_env _
  case copy sz str x y =>
    rw [eval_env (x := x) fun t ht => h t (.inl ht), eval_env (x := y) fun t ht => h t (.inr ht), srcCells_env]
    split
    · rw [aCopy_env]; exact ofP_env _
    · rfl
  case mm mx xs => rw [evals_env h]; exact ofO_env _
  case bad => rfl
  case call f args =>
    rw [eval_env (x := f) fun t ht => h t (.inl ht), evals_env fun t ht => h t (.inr ht)]
    cases s.eval Γ f <;> rfl
def Mem (s s' : St) : Prop := (∀ (i : Nat) l, s.loc[i]? = some l → s'.loc[i]? = some l) ∧ ∀ b e, hget s.heap b = some e → hget s'.heap b = some e
theorem Mem.refl (s : St) : Mem s s := ⟨fun _ _ h => h, fun _ _ h => h⟩
theorem Mem.loc (s : St) (env : List AV) (l : List (List AV)) : Mem s ⟨env, s.loc ++ l, s.heap⟩ :=
  ⟨fun i x h => by rw [List.getElem?_append_left (getElem?_lt h)]; exact h, fun _ _ h => h⟩
theorem Mem.heap (s : St) (env : List AV) (l : AH) : Mem s ⟨env, s.loc, s.heap ++ l⟩ :=
  ⟨fun _ _ h => h, fun b x h => by have h := hget_spec h; exact hget_of (by rw [List.getElem?_append_left (getElem?_lt h)]; exact h)⟩
theorem Mem.env (s : St) (env : List AV) : Mem s ⟨env, s.loc, s.heap⟩ := ⟨fun _ _ h => h, fun _ _ h => h⟩
theorem cells_mem {s s' : St} (m : Mem s s') {a : AV} {n : Nat} {cs : List AV} (h : s.cells a n = some cs) : s'.cells a n = some cs := by
  cases a <;> simp only [St.cells] at h ⊢ <;> try exact h
  · obtain ⟨l, h1, h2⟩ := bind2 h
    rw [m.1 _ _ h1]; exact h2
  · obtain ⟨l, h1, h2⟩ := bind2 h
    rw [m.2 _ _ h1]; exact h2
theorem sliceCells_mem {s s' : St} (m : Mem s s') {a : AV} {n : Nat} {cs : List AV} (h : s.sliceCells n a = some cs) : s'.sliceCells n a = some cs := by
  cases a
  case opq v =>
    have e : ∀ t : St, t.sliceCells n (.opq v) = (⟨[], [], []⟩ : St).sliceCells n (.opq v) := fun t => by
      unfold St.sliceCells
      split <;> first | rfl | (rename_i he; cases he; done) | skip
    rw [e] at h ⊢; exact h
  case gs =>
    simp only [St.sliceCells] at h ⊢
    split at h
    · rename_i hs
      rw [if_pos hs]
      obtain ⟨l, h1, h2⟩ := bind2 h
      rw [m.2 _ _ h1]; exact h2
    · cases h
  all_goals (simp only [St.sliceCells] at h ⊢ <;> exact h)
theorem ofO_val {s s' : St} {o : Option AV} {v : AV} (h : AR.ofO s o = .val v s') : s' = s ∧ o = some v := by
  cases o with
  | none => simp [AR.ofO] at h
  | some x => simp [AR.ofO] at h; exact ⟨h.2.symm, by rw [h.1]⟩
theorem quiet_step {s s1 : St} {gl : Bool} {i : I} {v : AV} (hq : quiet i = true) (h : step Γ gl s i = .val v s1) :
    s1 = s ∧ ∀ s' : St, s'.env = s.env → (pureI i = true ∨ Mem s s') → step Γ gl s' i = .val v s' := by
  have ev : ∀ (s' : St), s'.env = s.env → s'.eval Γ = s.eval Γ := fun s' he => by
    funext x; cases x <;> simp [St.eval, he]
  have bn : ∀ (s' : St), s'.env = s.env → ∀ d o, bnd Γ s' d o = bnd Γ s d o := fun s' he d o => by
    cases o <;> simp [bnd, ev s' he]
  have fin : ∀ {o : Option AV}, AR.ofO s o = .val v s1 → s1 = s ∧ ∀ s' : St, AR.ofO s' o = .val v s' := fun {o} h => by
    obtain ⟨h1, h2⟩ := ofO_val h
    exact ⟨h1, fun s' => by rw [h2]; rfl⟩
  cases i <;> (try (simp only [quiet] at hq; cases hq)) <;> simp only [step] at h ⊢
  case mov x => injection h with h1 h2; exact ⟨h2.symm, fun s' he _ => by rw [ev s' he, h1]⟩
  case pick c a b =>
    cases hc : s.eval Γ c <;> simp only [hc] at h <;> try cases h
    exact ⟨rfl, fun s' he _ => by rw [ev s' he]; simp only [hc]⟩
  case build z ps => exact ⟨(fin h).1, fun s' he _ => by rw [ev s' he]; exact (fin h).2 s'⟩
  case load n agg a =>
    obtain ⟨h1, h2⟩ := ofO_val h
    refine ⟨h1, fun s' he m => ?_⟩
    obtain ⟨cs, h3, h4⟩ := bind2 h2
    rw [ev s' he, cells_mem (m.resolve_left (by simp [pureI])) h3]; simp [h4, AR.ofO]
  case nilchk x =>
    cases hc : isNil (s.eval Γ x) with
    | none => simp [hc] at h
    | some b =>
      cases b <;> simp [hc] at h
      exact ⟨h.2.symm, fun s' he _ => by rw [ev s' he, hc]; simp only; rw [h.1]⟩
  case bin op ek x y => exact ⟨(fin h).1, fun s' he _ => by rw [ev s' he]; exact (fin h).2 s'⟩
  case un op x => exact ⟨(fin h).1, fun s' he _ => by rw [ev s' he]; exact (fin h).2 s'⟩
  case cvi k x =>
    cases hc : s.eval Γ x <;> simp only [hc] at h <;> try cases h
    exact ⟨rfl, fun s' he _ => by rw [ev s' he, hc]⟩
  case cvs x =>
    cases hc : s.eval Γ x <;> simp only [hc] at h <;> try cases h
    exact ⟨rfl, fun s' he _ => by rw [ev s' he, hc]⟩
  case cvt x =>
    obtain ⟨h1, h2⟩ := ofO_val h
    refine ⟨h1, fun s' he m => ?_⟩
    cases hs : s.sliceCells 1 (s.eval Γ x) with
    | none => simp [hs] at h2
    | some cs => rw [ev s' he, sliceCells_mem (m.resolve_left (by simp [pureI])) hs]; simp only [hs] at h2; rw [h2]; rfl
  case mkf f first caps => injection h with h1 h2; exact ⟨h2.symm, fun s' he _ => by rw [ev s' he, h1]⟩
  case slice k x lo hi mx =>
    split at h
    · rename_i l h' m' e1 e2 e3
      refine ⟨(fin h).1, fun s' he _ => ?_⟩
      simp only [bn s' he, e1, e2, e3, ev s' he]
      exact (fin h).2 s'
    · cases h
  case fld off x => exact ⟨(fin h).1, fun s' he _ => by rw [ev s' he]; exact (fin h).2 s'⟩
  case idxs sz x i =>
    cases hc : s.eval Γ i <;> simp only [hc] at h <;> try cases h
    exact ⟨(fin h).1, fun s' he _ => by rw [ev s' he, hc]; exact (fin h).2 s'⟩
  case idxa n sz x i =>
    cases hc : s.eval Γ i <;> simp only [hc] at h <;> try cases h
    exact ⟨(fin h).1, fun s' he _ => by rw [ev s' he, hc]; exact (fin h).2 s'⟩
  case idxstr x i =>
    split at h
    · rename_i e1 e2
      exact ⟨(fin h).1, fun s' he _ => by rw [ev s' he, e1, e2]; exact (fin h).2 s'⟩
    · cases h
  case idxagg n sz agg x i =>
    split at h
    · rename_i e1 e2
      exact ⟨(fin h).1, fun s' he _ => by rw [ev s' he, e1, e2]; exact (fin h).2 s'⟩
    · cases h
  case extr x i =>
    cases hc : s.eval Γ x <;> simp only [hc] at h <;> try cases h
    exact ⟨(fin h).1, fun s' he _ => by rw [ev s' he, hc]; exact (fin h).2 s'⟩
  case len str x => exact ⟨(fin h).1, fun s' he _ => by rw [ev s' he]; exact (fin h).2 s'⟩
  case lenc n => injection h with h1 h2; exact ⟨h2.symm, fun s' he _ => by rw [h1]⟩
  case cap x =>
    split at h
    · rename_i e1; injection h with h1 h2; exact ⟨h2.symm, fun s' he _ => by rw [ev s' he, e1]; simp only; rw [h1]⟩
    · rename_i e1; injection h with h1 h2; exact ⟨h2.symm, fun s' he _ => by rw [ev s' he, e1]; simp only; rw [h1]⟩
    · cases h
  case mm mx xs => exact ⟨(fin h).1, fun s' he _ => by rw [ev s' he]; exact (fin h).2 s'⟩
def opA (P : Program) (Γ : Glob) (gl : Gl) (os : List O) (i : Nat) (K : St → Prop) (s : St) : Prop :=
  match os[i]? with
  | none => K s
  | some o =>
    match guardOf os s o.gd with
    | none => False
    | some t => br t
        (match step Γ (isGl gl o) s o.op with
          | .val v s' => K (s'.put o.dst v)
          | .call f args => TCall P Γ f args s fun v s' => K (s'.put o.dst v)
          | .stuck => False)
        (K (s.put o.dst (.tup [])))
def readyA (os : List O) (af : List (List Nat)) (done : List Bool) : List Nat :=
  (List.range os.length).filter fun i => !(done.getD i true) && (af.getD i []).all fun j => done.getD j false
def spreadA (af : List (List Nat)) : Nat → List Bool → List Bool
  | 0, S => S
  | k + 1, S => spreadA af k (if S.getD k false = true then (af.getD k []).foldl (fun S e => S.set e true) S else S)
def pureAt (os : List O) (i : Nat) : Bool := match os[i]? with | some o => pureI o.op | none => false
def skipAt (os : List O) (i : Nat) : Bool := match os[i]? with | some o => pureI o.op || !quiet o.op | none => false
def leadA (os : List O) (af : List (List Nat)) (done : List Bool) (i : Nat) : Bool :=
  (List.range done.length).all fun q => !(done.getD q false) || skipAt os q || (spreadA af i ((af.getD i []).foldl (fun S e => S.set e true) (List.replicate done.length false))).getD q false
def leadQ (os : List O) (af : List (List Nat)) (n i q : Nat) : Bool :=
  skipAt os q || (spreadA af i ((af.getD i []).foldl (fun S e => S.set e true) (List.replicate n false))).getD q false
def addrReg (os : List O) (q : Nat) : Option Nat := match os[q]? with | some ⟨_, _, .load _ _ (.t r)⟩ => some r | _ => none
def soleR (os : List O) (af : List (List Nat)) (q r : Nat) : Bool := (List.range os.length).all fun p => (match os[p]? with | some o => o.dst != some r | none => true) || (af.getD q []).contains p
def Safe (s s' : St) (p : AV) : Prop := ∀ n cs, s.cells p n = some cs → s'.cells p n = some cs
def KeepR (rs : List Nat) (s s' : St) : Prop := ∀ r ∈ rs, Safe s s' (s.env.getD r .any)
def KeepL (os : List O) (af : List (List Nat)) (done : List Bool) (i : Nat) (s s' : St) : Prop :=
  ∀ q, q < done.length → done.getD q false = true → leadQ os af done.length i q = false → ∃ r, addrReg os q = some r ∧ soleR os af q r = true ∧ Safe s s' (s.env.getD r .any)
def awpAny (P : Program) (Γ : Glob) (gl : Gl) (os : List O) (af : List (List Nat)) (K : St → Prop) : Nat → List Bool → St → Prop
  | 0, done, s => readyA os af done = [] ∧ K s
  | fuel + 1, done, s => (readyA os af done = [] → K s) ∧ ∀ i ∈ readyA os af done, opA P Γ gl os i (fun s' => (leadA os af done i = true ∨ Mem s s' ∨ KeepL os af done i s s') ∧ awpAny P Γ gl os af K fuel (done.set i true) s') s
theorem TCall.env {f : FuncId} {args : List AV} {s : St} {K : AV → St → Prop} (e : List AV) (h : TCall P Γ f args { s with env := e } K) : TCall P Γ f args s fun v s' => K v { s' with env := e } := by
  intro ρ ls w cargs m g ra
  obtain ⟨h1, h2⟩ := h ρ ls w cargs m g ra
  refine ⟨h1, h2.mono ?_⟩
  rintro x w' ⟨cv, v, s', ρ', ls', e1, e2, e3, e4, e5, e6⟩
  refine ⟨cv, v, { s' with env := s.env }, ρ', ls', e1, rfl, e3, e4, e5, ?_⟩
  have : ({ s' with env := e } : St) = s' := by cases s'; simp only at e2; subst e2; rfl
  simpa [this] using e6
def putE (e : List AV) (d : Option Nat) (v : AV) : List AV := match d with | some d => e.set d v | none => e
theorem put_eq (s : St) (d : Option Nat) (v : AV) : s.put d v = { s with env := putE s.env d v } := by cases d <;> rfl
theorem putE_comm (e : List AV) {d d' : Option Nat} (v v' : AV) (h : ∀ x, d = some x → d' ≠ some x) : putE (putE e d v) d' v' = putE (putE e d' v') d v := by
  cases d with
  | none => rfl
  | some d =>
    cases d' with
    | none => rfl
    | some d' =>
      have : d ≠ d' := fun hx => h d rfl (by rw [hx])
      simp only [putE]
      exact (List.set_comm _ _ this)
theorem putE_ne (e : List AV) {d : Option Nat} (v : AV) {t : Nat} (h : ∀ x, d = some x → x ≠ t) : (putE e d v)[t]? = e[t]? := by
  cases d with
  | none => rfl
  | some d => simp only [putE]; exact List.getElem?_set_ne (h d rfl)
def apartA (os : List O) (x y : O) : Bool :=
  (match x.dst with | some d => !(looksO os y).contains d && y.dst != some d | none => true) && (match y.dst with | some d => !(looksO os x).contains d | none => true)
theorem apartA_spec {os : List O} {x y : O} (h : apartA os x y = true) : (∀ d, x.dst = some d → d ∉ looksO os y) ∧ (∀ d, x.dst = some d → y.dst ≠ some d) ∧ (∀ d, y.dst = some d → d ∉ looksO os x) := by
  refine ⟨fun d hd => ?_, fun d hd => ?_, fun d hd => ?_⟩ <;> simp [apartA, hd] at h
  · exact h.1.1
  · exact h.1.2
  · exact h.2
theorem guardOf_env {os : List O} {s : St} {e : List AV} {o : O} (h : ∀ t ∈ looksO os o, e[t]? = s.env[t]?) : guardOf os { s with env := e } o.gd = guardOf os s o.gd := by
  unfold guardOf
  cases hg : o.gd with
  | none => rfl
  | some jw =>
    obtain ⟨j, want⟩ := jw
    simp only
    cases hb : (os[j]?).bind (·.dst) with
    | none => rfl
    | some d => simp only [h d (by simp [looksO, hg, hb])]
def QV (Γ : Glob) (gl : Gl) (os : List O) (o : O) (v : AV) (s : St) : Prop :=
  (guardOf os s o.gd = some true ∧ quiet o.op = true ∧ step Γ (isGl gl o) s o.op = .val v s) ∨ (guardOf os s o.gd = some false ∧ v = .tup [])
theorem QV.env {gl : Gl} {os : List O} {o : O} {v : AV} {s : St} (h : QV Γ gl os o v s) {e : List AV} (he : ∀ t ∈ looksO os o, e[t]? = s.env[t]?) : QV Γ gl os o v { s with env := e } := by
  rcases h with ⟨h1, h2, h3⟩ | ⟨h1, h2⟩
  · refine .inl ⟨by rw [guardOf_env he]; exact h1, h2, ?_⟩
    rw [step_env _ fun t ht => he t (List.mem_append_left _ ht), h3]; rfl
  · exact .inr ⟨by rw [guardOf_env he]; exact h1, h2⟩
theorem guardOf_same {os : List O} {s s' : St} (he : s'.env = s.env) (g : Option (Nat × Bool)) : guardOf os s' g = guardOf os s g := by
  unfold guardOf; rw [he]
theorem QV.mem {gl : Gl} {os : List O} {o : O} {v : AV} {s s' : St} (h : QV Γ gl os o v s) (he : s'.env = s.env) (m : pureI o.op = true ∨ Mem s s') : QV Γ gl os o v s' := by
  rcases h with ⟨h1, h2, h3⟩ | ⟨h1, h2⟩
  · exact .inl ⟨by rw [guardOf_same he]; exact h1, h2, (quiet_step h2 h3).2 s' he m⟩
  · exact .inr ⟨by rw [guardOf_same he]; exact h1, h2⟩
theorem QV.keep {gl : Gl} {os : List O} {o : O} {v : AV} {s s' : St} (h : QV Γ gl os o v s) (he : s'.env = s.env) {n : Nat} {b : Bool} {r : Nat} (ho : o.op = .load n b (.t r)) (hs : Safe s s' (s.env.getD r .any)) : QV Γ gl os o v s' := by
  rcases h with ⟨h1, h2, h3⟩ | ⟨h1, h2⟩
  · refine .inl ⟨by rw [guardOf_same he]; exact h1, h2, ?_⟩
    rw [ho] at h3 ⊢
    simp only [step, St.eval] at h3 ⊢
    obtain ⟨_, h4⟩ := ofO_val h3
    obtain ⟨cs, h5, h6⟩ := bind2 h4
    rw [he, hs n cs h5]
    simp [h6, AR.ofO]
  · exact .inr ⟨by rw [guardOf_same he]; exact h1, h2⟩
theorem QV.opA {gl : Gl} {os : List O} {i : Nat} {o : O} {v : AV} {s : St} (hi : os[i]? = some o) (h : QV Γ gl os o v s) {K : St → Prop} (hk : K (s.put o.dst v)) : Go.AM.opA P Γ gl os i K s := by
  unfold Go.AM.opA
  simp only [hi]
  rcases h with ⟨h1, h2, h3⟩ | ⟨h1, rfl⟩
  · simp only [h1, h3]; exact ⟨fun _ => hk, fun h => by cases h⟩
  · simp only [h1]; exact ⟨fun h => (by cases h), fun _ => hk⟩
theorem opA_mono {gl : Gl} {os : List O} {i : Nat} {K K' : St → Prop} {s : St} (hk : ∀ s, K s → K' s) (h : opA P Γ gl os i K s) : opA P Γ gl os i K' s := by
  unfold opA at *
  split
  · simp_all
  · rename_i o ho
    simp only [ho] at h
    split
    · rename_i hg; simp [hg] at h
    · rename_i t hg
      simp only [hg] at h
      refine ⟨fun ht => ?_, fun ht => hk _ (h.2 ht)⟩
      have h := h.1 ht
      split
      · rename_i v s' hs; rw [hs] at h; exact hk _ h
      · rename_i f args hs; rw [hs] at h; exact h.mono fun _ _ => hk _
      · rename_i hs; rw [hs] at h; exact h
theorem opA_put {gl : Gl} {os : List O} {j : Nat} {oi oj : O} {v : AV} {s : St} {K : St → Prop} (hj : os[j]? = some oj) (hap : apartA os oi oj = true) (hv : QV Γ gl os oi v s)
    (hK : ∀ s', K s' → (pureI oi.op = true ∨ Mem (s.put oi.dst v) s') ∨ ∃ (n : Nat) (b : Bool) (r : Nat), oi.op = .load n b (.t r) ∧ Safe s s' (s.env.getD r .any)) (h : opA P Γ gl os j K (s.put oi.dst v)) : opA P Γ gl os j (fun s' => QV Γ gl os oi v s' ∧ K (s'.put oi.dst v)) s := by
  obtain ⟨a1, a2, a3⟩ := apartA_spec hap
  have e1 : ∀ t ∈ looksO os oj, (putE s.env oi.dst v)[t]? = s.env[t]? := fun t ht => putE_ne _ _ fun x hx hxt => a1 x hx (hxt ▸ ht)
  have e2 : ∀ (e : List AV) (u : AV), ∀ t ∈ looksO os oi, (putE e oj.dst u)[t]? = e[t]? := fun e u t ht => putE_ne _ _ fun x hx hxt => a3 x hx (hxt ▸ ht)
  have mem : ∀ {s' : St} {u : AV}, K ({ s' with env := putE (putE s.env oj.dst u) oi.dst v } : St) → (pureI oi.op = true ∨ Mem s ({ s' with env := putE s.env oj.dst u } : St)) ∨ ∃ (n : Nat) (b : Bool) (r : Nat), oi.op = .load n b (.t r) ∧ Safe s s' (s.env.getD r .any) := fun {s' u} hk => (hK _ hk).imp (fun h => h.imp id fun this => by rw [put_eq] at this; exact ⟨this.1, this.2⟩) id
  have fin : ∀ (s' : St) (u : AV), s'.env = s.env → K (({ s' with env := putE s.env oi.dst v } : St).put oj.dst u) → QV Γ gl os oi v (s'.put oj.dst u) ∧ K ((s'.put oj.dst u).put oi.dst v) := by
    intro s' u he hk
    rw [put_eq] at hk
    simp only at hk
    rw [putE_comm _ _ _ (fun x hx => a2 x hx)] at hk
    have hm := mem (s' := s') hk
    rw [put_eq, put_eq]
    simp only [he]
    refine ⟨?_, hk⟩
    have : QV Γ gl os oi v ({ s' with env := s.env } : St) := by
      rcases hm with hm | ⟨n, b, r, q1, q2⟩
      · exact QV.mem (s' := { s' with env := s.env }) hv rfl (hm.imp id fun m => ⟨m.1, m.2⟩)
      · exact QV.keep (s' := { s' with env := s.env }) hv rfl q1 q2
    exact this.env (e2 _ _)
  unfold opA at h ⊢
  simp only [hj] at h ⊢
  rw [put_eq] at h
  rw [guardOf_env e1] at h
  rw [step_env _ fun t ht => e1 t (List.mem_append_left _ ht)] at h
  split at h
  · exact h.elim
  · rename_i t hg
    refine ⟨fun ht => ?_, fun ht => ?_⟩
    · have h := h.1 ht
      cases hs : step Γ (isGl gl oj) s oj.op with
      | val u s1 =>
        rw [hs] at h
        simp only [AR.wEnv] at h ⊢
        have he : s1.env = s.env := by
          have := step_env (Γ := Γ) (gl := isGl gl oj) (s := s) (e := s.env) oj.op (fun _ _ => rfl)
          rw [show ({ s with env := s.env } : St) = s from rfl, hs] at this
          simp only [AR.wEnv, AR.val.injEq, true_and] at this
          rw [this]
        exact fin s1 u he h
      | call f args =>
        rw [hs] at h
        simp only [AR.wEnv] at h ⊢
        intro ρ ls w cargs m g ra
        obtain ⟨h1, h2⟩ := h ρ ls w cargs m g ra
        refine ⟨h1, h2.mono ?_⟩
        rintro x w' ⟨cv, u, s', ρ', ls', q1, q2, q3, q4, q5, q6⟩
        refine ⟨cv, u, { s' with env := s.env }, ρ', ls', q1, rfl, q3, q4, q5, ?_⟩
        refine fin _ u rfl ?_
        have : ({ s' with env := putE s.env oi.dst v } : St) = s' := by cases s'; simp only at q2; subst q2; rfl
        simpa [this] using q6
      | stuck => rw [hs] at h; exact h.elim
    · have h := h.2 ht
      exact fin s _ rfl h
theorem mem_readyA {os : List O} {af : List (List Nat)} {done : List Bool} {j : Nat} : j ∈ readyA os af done ↔ j < os.length ∧ done.getD j true = false ∧ ∀ e ∈ af.getD j [], done.getD e false = true := by
  unfold readyA
  simp [List.mem_filter, List.all_eq_true]
theorem getD_set_ne' {l : List Bool} {i j : Nat} (d : Bool) (h : i ≠ j) : (l.set i true).getD j d = l.getD j d := by
  simp [List.getD_eq_getElem?_getD, List.getElem?_set_ne h]
theorem getD_set_true' {l : List Bool} {i j : Nat} (h : l.getD j false = true) : (l.set i true).getD j false = true := by
  by_cases hij : i = j
  · subst hij
    have hlt : i < l.length := by
      rcases Nat.lt_or_ge i l.length with h' | h'
      · exact h'
      · simp [List.getD_eq_getElem?_getD, List.getElem?_eq_none h'] at h
    simp [List.getD_eq_getElem?_getD, List.getElem?_set_self hlt]
  · rw [getD_set_ne' false hij]; exact h
theorem readyA_mono {os : List O} {af : List (List Nat)} {done : List Bool} {i j : Nat} (hj : j ∈ readyA os af done) (hne : j ≠ i) : j ∈ readyA os af (done.set i true) := by
  rw [mem_readyA] at *
  exact ⟨hj.1, by rw [getD_set_ne' true (Ne.symm hne)]; exact hj.2.1, fun e he => getD_set_true' (hj.2.2 e he)⟩
def freeA (os : List O) (af : List (List Nat)) (done : List Bool) (i : Nat) : Bool :=
  match os[i]? with
  | none => false
  | some oi => (List.range os.length).all fun j => j == i || done.getD j true || (af.getD j []).contains i || (match os[j]? with | some oj => apartA os oi oj | none => true)
theorem freeA_set {os : List O} {af : List (List Nat)} {done : List Bool} {i j : Nat} (h : freeA os af done i = true) : freeA os af (done.set j true) i = true := by
  unfold freeA at *
  split at h
  · cases h
  · rename_i oi hoi
    try simp only [hoi]
    rw [List.all_eq_true] at *
    intro k hk
    have := h k hk
    simp only [Bool.or_eq_true] at this ⊢
    rcases this with ((h1 | h1) | h1) | h1
    · exact .inl (.inl (.inl h1))
    · by_cases hkj : j = k
      · subst hkj
        refine .inl (.inl (.inr ?_))
        by_cases hl : j < done.length
        · simp [List.getD_eq_getElem?_getD, List.getElem?_set_self hl]
        · simp [List.getD_eq_getElem?_getD, List.getElem?_eq_none (show (done.set j true).length ≤ j by simpa using Nat.not_lt.1 hl)]
      · exact .inl (.inl (.inr (by rw [getD_set_ne' true hkj]; exact h1)))
    · exact .inl (.inr h1)
    · exact .inr h1
def ClosedA (af : List (List Nat)) (done : List Bool) : Prop := ∀ k, done.getD k false = true → ∀ e ∈ af.getD k [], done.getD e false = true
theorem closed_rep (af : List (List Nat)) (n : Nat) : ClosedA af (List.replicate n false) := by
  intro k hk
  simp only [List.getD_eq_getElem?_getD, List.getElem?_replicate] at hk
  split at hk <;> simp at hk
theorem foldl_sub {D : List Bool} : ∀ {l : List Nat} {S : List Bool}, (∀ e, S.getD e false = true → D.getD e false = true) → (∀ e ∈ l, D.getD e false = true) → ∀ e, (l.foldl (fun S e => S.set e true) S).getD e false = true → D.getD e false = true
  | [], S, h1, _, e, h => h1 e h
  | a :: l, S, h1, h2, e, h => by
    refine foldl_sub (l := l) (S := S.set a true) (fun x hx => ?_) (fun x hx => h2 x (List.mem_cons_of_mem _ hx)) e h
    by_cases hax : a = x
    · subst hax; exact h2 a (by simp)
    · rw [getD_set_ne' false hax] at hx; exact h1 x hx
theorem spread_sub {af : List (List Nat)} {D : List Bool} (hc : ClosedA af D) : ∀ {n : Nat} {S : List Bool}, (∀ e, S.getD e false = true → D.getD e false = true) → ∀ e, (spreadA af n S).getD e false = true → D.getD e false = true
  | 0, S, h1, e, h => h1 e h
  | n + 1, S, h1, e, h => by
    simp only [spreadA] at h
    refine spread_sub hc (n := n) (fun x hx => ?_) e h
    split at hx
    · rename_i hn; exact foldl_sub h1 (hc n (h1 n hn)) x hx
    · exact h1 x hx
theorem closed_set {af : List (List Nat)} {done : List Bool} {j : Nat} (hc : ClosedA af done) (hj : ∀ e ∈ af.getD j [], done.getD e false = true) : ClosedA af (done.set j true) := by
  intro k hk e he
  by_cases h : j = k
  · subst h; exact getD_set_true' (hj e he)
  · rw [getD_set_ne' false h] at hk; exact getD_set_true' (hc k hk e he)
theorem lead_not {os : List O} {af : List (List Nat)} {done : List Bool} {i j : Nat} (hp : skipAt os i = false) (hc : ClosedA af done) (hj : ∀ e ∈ af.getD j [], done.getD e false = true) (hi : done.getD i true = false) : ¬ leadA os af (done.set i true) j = true := by
  intro h
  have hil : i < done.length := by
    rcases Nat.lt_or_ge i done.length with h' | h'
    · exact h'
    · simp [List.getD_eq_getElem?_getD, List.getElem?_eq_none h'] at hi
  unfold leadA at h
  have h := List.all_eq_true.1 h i (by simpa using hil)
  have e1 : (done.set i true).getD i false = true := by simp [List.getD_eq_getElem?_getD, List.getElem?_set_self hil]
  simp only [e1, hp, Bool.not_true, Bool.false_or] at h
  have h2 := spread_sub hc (foldl_sub (fun e he => by
    simp only [List.getD_eq_getElem?_getD, List.getElem?_replicate] at he
    split at he <;> simp at he) hj) i h
  simp [List.getD_eq_getElem?_getD, List.getElem?_eq_getElem hil] at h2 hi
  rw [h2] at hi; cases hi
theorem lead_less {os : List O} {af : List (List Nat)} {done : List Bool} {i j : Nat} (h : leadA os af (done.set i true) j = true) : leadA os af done j = true := by
  unfold leadA at *
  rw [List.all_eq_true] at *
  intro q hq
  have := h q (by simpa using hq)
  by_cases hiq : i = q
  · subst hiq
    have hil : i < done.length := by simpa using hq
    have e1 : (done.set i true).getD i false = true := by simp [List.getD_eq_getElem?_getD, List.getElem?_set_self hil]
    simp only [e1, Bool.not_true, Bool.false_or, List.length_set] at this
    cases hd : done.getD i false
    · simp
    · simpa using this
  · rw [getD_set_ne' false hiq, List.length_set] at this
    exact this
theorem awpAny_first {gl : Gl} {os : List O} {af : List (List Nat)} {K : St → Prop} {i : Nat} {oi : O} {v : AV} (hi : os[i]? = some oi) (hqi : quiet oi.op = true) :
    ∀ (fuel : Nat) (done : List Bool) (s : St), ClosedA af done → freeA os af done i = true → i ∈ readyA os af done → QV Γ gl os oi v s → awpAny P Γ gl os af K fuel (done.set i true) (s.put oi.dst v) →
      awpAny P Γ gl os af K (fuel + 1) done s := by
  intro fuel
  induction fuel with
  | zero =>
    intro done s hc hf hr hv H
    refine ⟨fun h => (by rw [h] at hr; cases hr), fun j hj => ?_⟩
    by_cases hji : j = i
    · subst hji; exact hv.opA hi ⟨.inr (.inl (by rw [put_eq]; exact Mem.env _ _)), H⟩
    · have := readyA_mono hj hji
      rw [H.1] at this
      cases this
  | succ fuel ih =>
    intro done s hc hf hr hv H
    refine ⟨fun h => (by rw [h] at hr; cases hr), fun j hj => ?_⟩
    by_cases hji : j = i
    · subst hji; exact hv.opA hi ⟨.inr (.inl (by rw [put_eq]; exact Mem.env _ _)), H⟩
    · have h1 := H.2 j (readyA_mono hj hji)
      obtain ⟨hjl, hjun, hall⟩ := mem_readyA.1 hj
      have hoj : os[j]? = some os[j] := List.getElem?_eq_getElem hjl
      have hap : apartA os oi os[j] = true := by
        unfold freeA at hf
        simp only [hi] at hf
        have := List.all_eq_true.1 hf j (List.mem_range.2 hjl)
        simp only [hoj, Bool.or_eq_true, beq_iff_eq, hji, hjun, Bool.false_eq_true, false_or, or_false] at this
        rcases this with h | h
        · have h0 := hall i (by simpa using h)
          have h2 := (mem_readyA.1 hr).2.1
          rcases Nat.lt_or_ge i done.length with h' | h'
          · simp [List.getD_eq_getElem?_getD, List.getElem?_eq_getElem h'] at h0 h2; rw [h0] at h2; cases h2
          · simp [List.getD_eq_getElem?_getD, List.getElem?_eq_none h'] at h0
        · exact h
      have hiu := (mem_readyA.1 hr).2.1
      have hia := (mem_readyA.1 hr).2.2
      have hil : i < done.length := by
        rcases Nat.lt_or_ge i done.length with h' | h'
        · exact h'
        · simp [List.getD_eq_getElem?_getD, List.getElem?_eq_none h'] at hiu
      have hif : done.getD i false = false := by simpa [List.getD_eq_getElem?_getD, List.getElem?_eq_getElem hil] using hiu
      have areg : ∀ q r, addrReg os q = some r → soleR os af q r = true → (∀ e ∈ af.getD q [], done.getD e false = true) → (s.put oi.dst v).env.getD r .any = s.env.getD r .any := by
        intro q r h1 h2 h3
        rw [put_eq]
        simp only [List.getD_eq_getElem?_getD]
        rw [putE_ne]
        rintro x hx rfl
        have hilo : i < os.length := getElem?_lt hi
        have := List.all_eq_true.1 h2 i (List.mem_range.2 hilo)
        simp only [hi, hx, bne_self_eq_false, Bool.false_or] at this
        have := h3 i (by simpa using this)
        rw [hif] at this; cases this
      have h2 := opA_put hoj hap hv (fun s' h => by
        cases hp : skipAt os i with
        | true => exact .inl (.inl (by simpa [skipAt, hi, hqi] using hp))
        | false =>
          rcases h.1.resolve_left (lead_not (i := i) (j := j) hp hc hall hiu) with h | k3
          · exact .inl (.inr h)
          · have e1 : (done.set i true).getD i false = true := by simp [List.getD_eq_getElem?_getD, List.getElem?_set_self hil]
            obtain ⟨r, r1, r2, r3⟩ := k3 i (by simpa using hil) e1 (by
              cases hl : leadQ os af (done.set i true).length j i
              · rfl
              · exfalso
                simp only [leadQ, hp, Bool.false_or] at hl
                have h2 := spread_sub hc (foldl_sub (fun e he => by
                  simp only [List.getD_eq_getElem?_getD, List.getElem?_replicate] at he
                  split at he <;> simp at he) hall) i hl
                rw [hif] at h2; cases h2)
            rw [areg i r r1 r2 hia] at r3
            have hop : ∃ n b, oi.op = .load n b (.t r) := by
              unfold addrReg at r1
              rw [hi] at r1
              split at r1
              · rename_i x1 x2 n b r' hx
                injection hx with hx; subst hx
                injection r1 with r1; subst r1
                exact ⟨n, b, rfl⟩
              · cases r1
            obtain ⟨n, b, hop⟩ := hop
            rw [put_eq] at r3
            exact .inr ⟨n, b, r, hop, r3⟩) h1
      refine opA_mono (fun s' h3 => ⟨h3.2.1.imp lead_less (fun m => m.imp (fun m => by rw [put_eq, put_eq] at m; exact ⟨m.1, m.2⟩) (fun k3 q hq hdq hlq => by
        have hqi : i ≠ q := fun e => by subst e; rw [hif] at hdq; cases hdq
        obtain ⟨r, r1, r2, r3⟩ := k3 q (by simpa using hq) (by rw [getD_set_ne' false hqi]; exact hdq) (by rw [List.length_set]; exact hlq)
        exact ⟨r, r1, r2, by rw [areg q r r1 r2 (hc q hdq)] at r3; rw [put_eq, put_eq] at r3; exact r3⟩)), ih _ s' (closed_set hc hall) (freeA_set hf) (readyA_mono hr (Ne.symm hji)) h3.1 ?_⟩) h2
      rw [List.set_comm _ _ hji]
      exact h3.2.2
theorem ready_eq {ops : Array Oper} {os : List O} (hlen : os.length = ops.size) {done : List Bool} (listed : Array Bool) (hd : listed.toList = done) :
    Region.ready .any ops listed = readyA os (ops.toList.map fun o => o.after.toList.filterMap fun e => if Region.binds .any e then some e.on else none) done := by
  unfold Region.ready readyA
  rw [hlen]
  refine List.filter_congr fun i hi => ?_
  subst hd
  have hl : i < ops.size := List.mem_range.1 hi
  have : ∀ (j : Nat) (d : Bool), listed.getD j d = listed.toList.getD j d := fun j d => by simp [Array.getD_eq_getD_getElem?, List.getD_eq_getElem?_getD]
  simp only [this]
  congr 1
  simp only [List.getD_eq_getElem?_getD, List.getElem?_map, Array.getElem?_toList, Array.getElem?_eq_getElem hl, Option.map_some, Option.getD_some]
  rw [← Array.all_toList, Bool.eq_iff_iff, List.all_eq_true, List.all_eq_true]
  constructor
  · intro h x hx
    obtain ⟨e, he, hx⟩ := List.mem_filterMap.1 hx
    split at hx
    · rename_i hb
      injection hx with hx
      subst hx
      have := h e he
      simpa [hb] using this
    · cases hx
  · intro h e he
    by_cases hb : Region.binds .any e = true
    · have := h e.on (List.mem_filterMap.2 ⟨e, he, by rw [if_pos hb]⟩)
      simpa [hb] using this
    · simp [hb]
theorem opA_sound (tab : TabOK P Θ) {ops : Array Oper} {os : List O} (hos : ops.toList.mapM (trO Θ) = some os) (gl : Gl) {Q : Exit → Act → World → Prop} {K : St → Prop} {K' : Act → World → Prop}
    {i : Nat} (hil : i < os.length) {s : St} {ρ₀ ls₀ h₀ w₀} (hK : ∀ s' ρ ls a w, Evo ρ₀ ls₀ h₀ w₀ ρ ls s'.heap w → Rel Γ ρ ls s' a w → K s' → K' a w)
    {ρ ls a w} (ev : Evo ρ₀ ls₀ h₀ w₀ ρ ls s.heap w) (rel : Rel Γ ρ ls s a w) (h : opA P Γ gl os i K s) : wpOp P ops Q i K' a w := by
  obtain ⟨hlen, hget⟩ := mapM_spec hos
  have hop : i < ops.toList.length := by omega
  obtain ⟨o', ho1, ho2⟩ := hget i _ (List.getElem?_eq_getElem hop)
  have hoe : o' = os[i] := by rw [List.getElem?_eq_getElem hil] at ho1; exact (Option.some.inj ho1).symm
  subst hoe
  have hopi : ops[i]? = some ops.toList[i] := by rw [← Array.getElem?_toList, List.getElem?_eq_getElem hop]
  generalize hoo : ops.toList[i] = o at ho2 hopi
  have htr : trI Θ o.op = some os[i].op ∧ os[i].dst = o.dst ∧ os[i].gd = o.guard := by
    unfold trO at ho2
    cases hI : trI Θ o.op with
    | none => simp [hI] at ho2
    | some x => simp [hI] at ho2; rw [← ho2]; simp
  obtain ⟨ht, hd, hg⟩ := htr
  unfold opA at h
  simp only [List.getElem?_eq_getElem hil] at h
  unfold wpOp
  simp only [hopi]
  have hguard : ∀ t, guardOf os s os[i].gd = some t → Region.wanted o (yielded ops a.tmps) = t := by
    intro t hgd
    rw [hg] at hgd
    unfold guardOf at hgd
    unfold Region.wanted
    cases hog : o.guard with
    | none => simp [hog] at hgd ⊢; exact hgd
    | some jw =>
      obtain ⟨j, want⟩ := jw
      simp only [hog] at hgd ⊢
      have hdst : (os[j]?).bind (·.dst) = (ops[j]?).bind (·.dst) := by
        cases hoj : os[j]? with
        | none =>
          have : ops.toList.length ≤ j := by
            rcases Nat.lt_or_ge j ops.toList.length with h | h
            · rw [List.getElem?_eq_getElem (by omega)] at hoj; cases hoj
            · exact h
          rw [Array.getElem?_eq_none (by simpa using this)]; rfl
        | some oj =>
          have hj := getElem?_lt hoj
          obtain ⟨o2, q1, q2⟩ := hget j _ (List.getElem?_eq_getElem (show j < ops.toList.length by omega))
          rw [hoj] at q1
          injection q1 with q1
          subst q1
          have : ops[j]? = some ops.toList[j] := by rw [← Array.getElem?_toList, List.getElem?_eq_getElem]
          rw [this]
          unfold trO at q2
          rw [Option.map_eq_some_iff] at q2
          obtain ⟨x, _, q3⟩ := q2
          rw [← q3]; rfl
      rw [hdst] at hgd
      unfold yielded
      cases hb : (ops[j]?).bind (·.dst) with
      | none => rw [hb] at hgd; simp at hgd; simp [hgd]
      | some d =>
        simp only [hb, Option.bind_some] at hgd ⊢
        cases hv : s.env[d]? with
        | none =>
          have : a.tmps[d]? = none := by
            rcases Nat.lt_or_ge d s.env.length with h | h
            · rw [List.getElem?_eq_getElem h] at hv; cases hv
            · exact Array.getElem?_eq_none (by rw [← rel.size]; exact h)
          simp [hv] at hgd
          simp [this, hgd]
        | some x =>
          have hr := rel.env d x hv
          have hlt : d < a.tmps.size := by rw [← rel.size]; exact getElem?_lt hv
          have hta : a.tmps[d]? = some (a.tmps.getD d undef) := by simp [hlt]
          rw [hta]
          generalize a.tmps.getD d undef = u at hr
          cases hr <;> simp [hv] at hgd <;> (try subst hgd) <;> simp
  cases hgd : guardOf os s os[i].gd with
  | none => simp [hgd] at h
  | some t =>
    rw [hguard t hgd]
    simp only [hgd] at h
    obtain ⟨hT, hF⟩ := h
    cases t with
    | false =>
      simp only [Bool.false_eq_true, if_false]
      have hrel := put_rel rel rfl rel.mem (.refl _ _ _ _) (undef_RV (ρ := ρ) (ls := ls)) os[i].dst
      rw [← hd]
      exact hK _ ρ ls _ w (by
        have : (s.put os[i].dst (.tup [])).heap = s.heap := by cases os[i].dst <;> rfl
        rw [this]; exact ev) hrel (hF rfl)
    | true =>
      simp only [if_true]
      refine .inl ?_
      have hs := step_sound tab ht rel (isGl gl os[i])
      have hT := hT rfl
      unfold Oper.wp
      cases hst : step Γ (isGl gl os[i]) s os[i].op with
      | stuck => simp [hst] at hT
      | val v s' =>
        rw [hst] at hs
        simp only [hst] at hT
        obtain ⟨he, nx, cv, w', ρ', ls', hrun, hnx, hrv, hmem, hev⟩ := hs
        rw [hrun]
        have hrel := put_rel rel he hmem hev hrv os[i].dst
        have hnext := hK _ ρ' ls' (a.put o.dst cv) w' (by
          have : (s'.put os[i].dst v).heap = s'.heap := by cases os[i].dst <;> rfl
          rw [this]; exact ev.trans hev) (by rw [← hd]; exact hrel) hT
        rcases hnx with rfl | ⟨rfl, rfl⟩
        · exact hnext
        · exact hnext
      | call f args =>
        rw [hst] at hs
        simp only [hst] at hT
        obtain ⟨cargs, hrun, hra⟩ := hs
        obtain ⟨hcal, hcalls⟩ := hT ρ ls w cargs rel.mem rel.glob hra
        rw [hrun, run_callFunc hcal]
        simp only [Oper.upon]
        refine hcalls.mono ?_
        rintro e w' ⟨cv, v, s', ρ', ls', rfl, he, hrv, hmem, hev, hk⟩
        have hrel := put_rel rel he hmem hev hrv os[i].dst
        exact hK _ ρ' ls' (a.put o.dst cv) w' (by
          have : (s'.put os[i].dst v).heap = s'.heap := by cases os[i].dst <;> rfl
          rw [this]; exact ev.trans hev) (by rw [← hd]; exact hrel) hk
def afOf (ops : Array Oper) : List (List Nat) := ops.toList.map fun o => o.after.toList.filterMap fun e => if Region.binds .any e then some e.on else none
theorem awpAny_sound (tab : TabOK P Θ) {ops : Array Oper} {os : List O} (hos : ops.toList.mapM (trO Θ) = some os) (gl : Gl) {Q : AE → St → Prop} {ρ₀ ls₀ h₀ w₀} :
    ∀ (fuel : Nat) (listed : Array Bool) (done : List Bool) (s : St), listed.toList = done → awpAny P Γ gl os (afOf ops) (Q .normal) fuel done s → ∀ ρ ls a w, Evo ρ₀ ls₀ h₀ w₀ ρ ls s.heap w → Rel Γ ρ ls s a w →
      wpAny P .any ops (Sat Γ Q ρ₀ ls₀ h₀ w₀) fuel listed a w := by
  have hlen : os.length = ops.size := by have := (mapM_spec hos).1; simpa using this
  intro fuel
  induction fuel with
  | zero =>
    intro listed done s hd h ρ ls a w ev rel
    exact ⟨by rw [ready_eq hlen listed hd]; exact h.1, s, ρ, ls, rel, ev, h.2⟩
  | succ fuel ih =>
    intro listed done s hd h ρ ls a w ev rel
    refine ⟨fun hr => ⟨s, ρ, ls, rel, ev, h.1 (by rw [ready_eq hlen listed hd] at hr; exact hr)⟩, fun i hi => ?_⟩
    rw [ready_eq hlen listed hd] at hi
    refine opA_sound tab hos gl (mem_readyA.1 hi).1 ?_ ev rel (h.2 i hi)
    intro s' ρ' ls' a' w' ev' rel' hk
    exact ih _ _ s' (by rw [← hd]; simp) hk.2 ρ' ls' a' w' ev' rel'
theorem TC_regD (tab : TabOK P Θ) (hm : P.follows .mixedOrders = true) (gl : Gl) {os : List O} {af : List (List Nat)} {Q : AE → St → Prop} {s : St}
    (h : awpAny P Γ gl os af (Q .normal) os.length (List.replicate os.length false) s) : TC P Θ Γ (.regD os af) Q s := by
  intro code hc
  cases code with
  | region id ops draw =>
    cases draw with
    | false =>
      simp only [trC, Option.map_eq_some_iff] at hc
      obtain ⟨_, _, h⟩ := hc
      cases h
    | true =>
      simp only [trC, Option.map_eq_some_iff] at hc
      obtain ⟨os', hos, hc⟩ := hc
      injection hc with h1 h2
      subst h1
      have h2 : afOf ops = af := h2
      subst h2
      have hlen : os'.length = ops.size := by have := (mapM_spec hos).1; simpa using this
      intro ρ₀ ls₀ h₀ w₀ ρ ls a w ev rel
      refine wp_region_any hm (awpAny_sound tab hos gl ops.size _ (List.replicate os'.length false) s (by simp [hlen]) (by rw [← hlen]; exact h) ρ ls a _ ?_ ?_)
      · exact ev.trans (.heap_eq rfl rfl rfl)
      · exact ⟨rel.defers, rel.size, rel.env, rel.mem.heap_eq rfl, rel.glob⟩
  | seq x y =>
    simp only [trC] at hc
    obtain ⟨_, _, hc⟩ := bind2 hc
    rw [Option.map_eq_some_iff] at hc
    obtain ⟨_, _, h⟩ := hc
    cases h
  | cond x y z =>
    simp only [trC] at hc
    obtain ⟨_, _, hc⟩ := bind2 hc
    rw [Option.map_eq_some_iff] at hc
    obtain ⟨_, _, h⟩ := hc
    cases h
  | block id x =>
    simp only [trC, Option.map_eq_some_iff] at hc
    obtain ⟨_, _, h⟩ := hc
    cases h
  | loop x =>
    simp only [trC, Option.map_eq_some_iff] at hc
    obtain ⟨_, _, h⟩ := hc
    cases h
  | _ => simp [trC] at hc
end
end Go.AM
