import Derived.Test.YteaebikmfmggbaaDoorAmWp
import Derived.Deep.LoopGhost
set_option linter.unusedVariables false
set_option linter.unusedSimpArgs false
namespace Go.AM
section
variable {P : Program} {Θ : Tab} {Γ : Glob}
inductive RS where
  | t (n : Nat) | cell (a n : Nat) (agg : Bool)
def trR (Θ : Tab) : ResultVar → Option RS
  | .tmp t => some (.t t)
  | .cell a t => (Θ t).map fun ti => .cell a ti.size ti.isAgg
def resV (s : St) : RS → Option AV
  | .t n => some (s.env.getD n .any)
  | .cell a n agg => (s.cells (s.env.getD a .any) n).bind (wrapAgg agg)
def out1 : AV → Bool
  | .agg cs => cs.all noLp
  | v => noLp v
def outOK : AV → Bool
  | .tup vs => vs.all out1
  | v => out1 v
theorem out1_RV {ρ ls v cv} (r : RV ρ ls v cv) (hout : out1 v = true) (ls' : List Nat) : RV ρ ls' v cv := by
  cases r with
  | agg _ cs vs h1 r =>
    simp only [out1] at hout
    exact .agg _ _ _ h1 (fun i x hx => (r i x hx).noLp (List.all_eq_true.1 hout x (List.mem_of_getElem? hx)) ls')
  | any => simp [out1, noLp] at hout
  | lp => simp [out1, noLp] at hout
  | tup => simp [out1, noLp] at hout
  | bool _ b => exact .bool _ _
  | int _ k n => exact .int _ _ _
  | str => exact .str _ _
  | nilp => exact .nilp _
  | nils => exact .nils _
  | nilf => exact .nilf _
  | opq => exact .opq _ _
  | gp _ b g off c o n h1 => exact .gp _ b g off c o n h1
  | ip _ β cs c o f h1 h2 => exact .ip _ β cs c o f h1 h2
  | gs _ b g off len cap sz ex c o n cap' h h1 h2 h3 h4 => exact .gs _ b g off len cap sz ex c o n cap' h h1 h2 h3 h4
  | gs0 _ b g off sz ex c o n a h => exact .gs0 _ b g off sz ex c o n a h
  | vs _ β sz ex xs c o cap' f h1 h2 h3 h4 r => exact .vs _ β sz ex xs c o cap' f h1 h2 h3 h4 r
  | vs0 _ β sz ex a cap' h2 => exact .vs0 _ β sz ex a cap' h2
  | vsn _ β sz ex => exact .vsn _ β sz ex
  | fn _ f first caps first' caps' h1 h2 r1 r2 =>
    exact (RV.fn ls f first caps first' caps' h1 h2 r1 r2).noLp (by simpa [out1] using hout) ls'
theorem outOK_RV {ρ ls v cv} (r : RV ρ ls v cv) (h : outOK v = true) (ls' : List Nat) : RV ρ ls' v cv := by
  by_cases ht : ∃ vs, v = .tup vs
  · obtain ⟨vs, rfl⟩ := ht
    cases r with
    | tup _ cs us h1 r =>
      simp only [outOK] at h
      exact .tup _ _ _ h1 (fun i x hx => out1_RV (r i x hx) (List.all_eq_true.1 h x (List.mem_of_getElem? hx)) ls')
  · refine out1_RV r ?_ ls'
    cases v <;> first | exact absurd ⟨_, rfl⟩ ht | exact h
def outV (s : St) (rs : List RS) : Option AV :=
  match rs with
  | [r] => resV s r
  | rs => (rs.mapM (resV s)).map .tup
def retQ (rs : List RS) (K : AV → AH → Prop) : AE → St → Prop
  | .exit _, _ => False
  | _, s => match outV s rs with
    | some v => outOK v = true ∧ K v s.heap
    | none => False
theorem resV_run (tab : TabOK P Θ) {ρ ls s a w} (rel : Rel Γ ρ ls s a w) {rv : ResultVar} {r : RS} (hr : trR Θ rv = some r) {v : AV} (h : resV s r = some v) :
    ∃ cv, (match rv with | .tmp t => pure (a.tmps.getD t undef) | .cell b t => do loadVar t (← asAddr (a.tmps.getD b undef)) : Sem Value).run P w = .ok cv w ∧ RV ρ ls v cv := by
  have env : ∀ n, RV ρ ls (s.env.getD n .any) (a.tmps.getD n undef) := fun n => by
    have := eval_sound rel (.tmp n)
    exact this
  cases rv with
  | tmp t =>
    simp [trR] at hr
    subst hr
    simp [resV] at h
    subst h
    exact ⟨_, rfl, by simpa using env t⟩
  | cell b t =>
    simp only [trR] at hr
    obtain ⟨ti, tf, rfl⟩ := table' tab hr
    simp only [resV] at h
    obtain ⟨cs, h1, h2⟩ := bind2 h
    obtain ⟨c, o, vals, e1, _⟩ := cells_sound rel.mem (env b) h1
    obtain ⟨cv, g1, g2⟩ := load_ok (P := P) rel.mem tf (env b) (by rw [h1]; simpa using h2)
    refine ⟨cv, ?_, g2⟩
    simp only
    rw [e1] at g1 ⊢
    simpa [Instr.loadAt, Instr.sureAddr, asAddr] using g1
theorem results_run (tab : TabOK P Θ) {ρ ls s a w} (rel : Rel Γ ρ ls s a w) {fn : Func} {rs : List RS} (hr : fn.results.toList.mapM (trR Θ) = some rs) {v : AV} (h : outV s rs = some v) :
    ∃ cv, (results fn a.tmps).run P w = .ok cv w ∧ RV ρ ls v cv := by
  have key : ∀ (l : List ResultVar) (rs : List RS) (vs : List AV), l.mapM (trR Θ) = some rs → rs.mapM (resV s) = some vs →
      ∃ cvs : List Value, (l.mapM fun rv => (match rv with | .tmp t => pure (a.tmps.getD t undef) | .cell b t => do loadVar t (← asAddr (a.tmps.getD b undef)) : Sem Value)).run P w = .ok cvs w ∧ RVs ρ ls vs cvs := by
    intro l
    induction l with
    | nil =>
      intro rs vs h1 h2
      simp at h1
      subst h1
      simp at h2
      subst h2
      exact ⟨[], rfl, rfl, fun i x hx => by simp at hx⟩
    | cons rv l ih =>
      intro rs vs h1 h2
      rw [List.mapM_cons] at h1
      cases hrv : trR Θ rv with
      | none => simp [hrv] at h1
      | some r =>
        cases hl : l.mapM (trR Θ) with
        | none => simp [hrv, hl] at h1
        | some rs' =>
          simp [hrv, hl] at h1
          subst h1
          rw [List.mapM_cons] at h2
          cases hv : resV s r with
          | none => simp [hv] at h2
          | some v =>
            cases hvs : rs'.mapM (resV s) with
            | none => simp [hv, hvs] at h2
            | some vs' =>
              simp [hv, hvs] at h2
              subst h2
              obtain ⟨cv, e1, e2⟩ := resV_run tab rel hrv hv
              obtain ⟨cvs, e3, e4⟩ := ih rs' vs' hl hvs
              refine ⟨cv :: cvs, ?_, RVs.append (cs := [v]) (vs := [cv]) ⟨rfl, fun i x hx => by
                cases i with
                | zero => simp at hx; subst hx; exact e2
                | succ i => simp at hx⟩ e4⟩
              rw [List.mapM_cons]
              simp only [Sem.run_bind, e1, Result.andThen_ok, e3, Sem.run_pure]
  have fin : ∀ vs, rs.mapM (resV s) = some vs → ∃ cvs : List Value, RVs ρ ls vs cvs ∧ (results fn a.tmps).run P w = .ok (if h : cvs.toArray.size = 1 then cvs.toArray[0] else .tuple cvs.toArray) w := by
    intro vs hvs
    obtain ⟨cvs, e1, e2⟩ := key _ _ _ hr hvs
    refine ⟨cvs, e2, ?_⟩
    unfold results
    rw [Array.mapM_eq_mapM_toList]
    simp only [Sem.run_bind, Sem.run_map]
    exact congrArg (fun r : Result (List Value) => (r.andThen fun a w' => Result.ok a.toArray w').andThen fun a w' => Sem.run P (pure (if h : a.size = 1 then a[0] else Value.tuple a)) w') e1
  unfold outV at h
  split at h
  · rename_i r
    obtain ⟨cvs, e1, e2⟩ := fin [v] (by simp [h])
    match cvs, e1 with
    | [cv], e1 => exact ⟨cv, by rw [e2]; rfl, e1.2 0 v rfl⟩
  · rename_i rs' hne
    cases hvs : rs.mapM (resV s) with
    | none => simp [hvs] at h
    | some vs =>
      simp [hvs] at h
      subst h
      obtain ⟨cvs, e1, e2⟩ := fin vs hvs
      have hl := (mapM_spec hvs).1
      have hn : cvs.toArray.size ≠ 1 := by
        intro h1
        have : rs.length = 1 := by have := e1.1; simp at h1; omega
        obtain ⟨r, hr1⟩ := List.length_eq_one_iff.1 this
        exact hne r hr1
      refine ⟨.tuple cvs.toArray, by rw [e2, dif_neg hn], .tup _ _ _ (by simpa using e1.1) (fun i x hx => by have := e1.2 i x hx; simpa using this)⟩
theorem T_of_body (tab : TabOK P Θ) {f : FuncId} {fn : Func} {code : Code} {c : C} {rs : List RS} {args : List AV} {h : AH} {K : AV → AH → Prop}
    (hf : P.funcs[f]? = some fn) (hb : fn.body = some code) (hn : (fn.name == "runtime.NumGoroutine") = false) (hc : trC Θ code = some c) (hr : fn.results.toList.mapM (trR Θ) = some rs)
    (hw : TC P Θ Γ c (retQ rs K) ⟨args ++ List.replicate (fn.ntmps - args.length) (.tup []), [], h⟩) : T P Γ f args h K := by
  refine ⟨⟨fn, code, hf, hb, hn⟩, fun ρ w cargs hm hg ha => ?_⟩
  refine calls_of_wp hf hb ?_
  have hrel : Rel Γ ρ [] ⟨args ++ List.replicate (fn.ntmps - args.length) (.tup []), [], h⟩ { tmps := cargs.toArray ++ Array.replicate (fn.ntmps - cargs.toArray.size) undef, defers := [] } w := by
    refine ⟨rfl, by simp [ha.1], fun i x hx => ?_, hm, hg⟩
    have hl := ha.1
    by_cases hi : i < args.length
    · rw [List.getElem?_append_left hi] at hx
      have := ha.2 i x hx
      have hi' : i < cargs.length := by omega
      simp only [List.getD_eq_getElem?_getD, List.getElem?_eq_getElem hi', Option.getD_some] at this
      simp [Array.getElem?_append, hi']
      exact this
    · rw [List.getElem?_append_right (by omega)] at hx
      have hlt := getElem?_lt hx
      simp at hlt
      rw [List.getElem?_replicate, if_pos hlt] at hx
      injection hx with hx
      subst hx
      have : ¬ i < cargs.length := by omega
      simp [Array.getElem?_append, this, Array.getElem?_replicate, show i - cargs.length < fn.ntmps - cargs.length by omega]
      exact undef_RV
  refine wp_mono (hw code hc ρ [] h w ρ [] _ w (.refl _ _ _ _) hrel) ?_
  have fin : ∀ (a' : Act) (w' : World) (s' : St) (ρ' : Inj) (ls' : List Nat), Rel Γ ρ' ls' s' a' w' → Evo ρ [] h w ρ' ls' s'.heap w' → (match outV s' rs with | some v => outOK v = true ∧ K v s'.heap | none => False) →
      a'.defers = [] ∧ ∃ v, (results fn a'.tmps).run P w' = .ok v w' ∧ ∃ av cv ρ'' h', Ending.returned v = .returned cv ∧ RV ρ'' [] av cv ∧ RH ρ'' [] [] h' w' ∧ Evo ρ [] h w ρ'' [] h' w' ∧ K av h' := by
    intro a' w' s' ρ' ls' hrel hev hq
    cases ho : outV s' rs with
    | none => simp [ho] at hq
    | some v =>
      simp only [ho] at hq
      obtain ⟨cv, e1, e2⟩ := results_run tab hrel hr ho
      refine ⟨hrel.defers, cv, e1, v, cv, ρ', s'.heap, rfl, outOK_RV e2 hq.1 [], ?_, ?_, hq.2⟩
      · have m := hrel.mem
        exact ⟨m.hp, fun i cs hi => by simp at hi, rfl, fun i j c h => by simp at h, m.hh, fun _ _ _ _ _ _ _ _ _ h => by simp at h, m.im, fun _ _ _ _ _ h => by simp at h, m.imh, m.dom⟩
      · exact ⟨hev.le, .nil _, hev.sz, hev.fr, hev.own, fun i c h => by simp at h, hev.imo, hev.len, hev.os, hev.out⟩
  rintro e a' w' ⟨s', ρ', ls', hrel, hev, hq⟩
  cases e with
  | normal => exact fin a' w' s' ρ' ls' hrel hev hq
  | ret => exact fin a' w' s' ρ' ls' hrel hev hq
  | exit id => exact hq.elim
  | goto l => exact hq.elim
  | panic ch => exact hq.elim
  | outgrown => exact hq.elim
def LeV (x y : AV) : Prop := y = .any ∨ x = y ∨ ∃ b g off len cap sz, x = .gs b g off len cap sz true ∧ y = .gs b g off len cap sz false
theorem LeV.any (x : AV) : LeV x .any := .inl rfl
theorem LeV.rfl' (x : AV) : LeV x x := .inr (.inl rfl)
theorem LeV.ex (b g off len cap sz : Nat) (ex : Bool) : LeV (.gs b g off len cap sz ex) (.gs b g off len cap sz false) := by
  cases ex
  · exact .rfl' _
  · exact .inr (.inr ⟨b, g, off, len, cap, sz, rfl, rfl⟩)
theorem LeV.RV {x y : AV} (h : LeV x y) {ρ ls v} (r : RV ρ ls x v) : RV ρ ls y v := by
  rcases h with rfl | rfl | ⟨b, g, off, len, cap, sz, rfl, rfl⟩
  · exact .any _ _
  · exact r
  · cases r with
    | gs _ _ _ _ _ _ _ _ c o n cap' h h1 h2 h3 h4 => exact .gs _ b g off len cap sz false c o n cap' h h1 h2 (by simp) h4
    | gs0 _ _ _ _ _ _ c o n a h => exact .gs0 _ b g off sz false c o n a h
def LeL : List AV → List AV → Prop
  | [], [] => True
  | x :: xs, y :: ys => LeV x y ∧ LeL xs ys
  | _, _ => False
theorem LeL.spec : ∀ {xs ys : List AV}, LeL xs ys → xs.length = ys.length ∧ ∀ (i : Nat) y, ys[i]? = some y → ∃ x, xs[i]? = some x ∧ LeV x y
  | [], [], _ => ⟨rfl, fun i y h => by simp at h⟩
  | x :: xs, y :: ys, h => by
    obtain ⟨h1, h2⟩ := LeL.spec h.2
    refine ⟨by simp [h1], fun i z hz => ?_⟩
    cases i with
    | zero => simp at hz; subst hz; exact ⟨x, rfl, h.1⟩
    | succ i => exact h2 i z (by simpa using hz)
  | [], _ :: _, h => h.elim
  | _ :: _, [], h => h.elim
theorem LeL.refl : ∀ (xs : List AV), LeL xs xs
  | [] => trivial
  | x :: xs => ⟨.rfl' x, LeL.refl xs⟩
structure Le (s t : St) : Prop where
  env : LeL s.env t.env
  loc : s.loc = t.loc
  heap : s.heap = t.heap
theorem Le.refl (s : St) : Le s s := ⟨.refl _, rfl, rfl⟩
theorem Le.rel {s t : St} (h : Le s t) {ρ ls a w} (r : Rel Γ ρ ls s a w) : Rel Γ ρ ls t a w := by
  obtain ⟨h1, h2⟩ := h.env.spec
  refine ⟨r.defers, by rw [← h1]; exact r.size, fun i y hy => ?_, by rw [← h.loc, ← h.heap]; exact r.mem, r.glob⟩
  obtain ⟨x, hx, hl⟩ := h2 i y hy
  exact hl.RV (r.env i x hx)
theorem TC.le {c : C} {Q : AE → St → Prop} {s t : St} (h : Le s t) (ht : TC P Θ Γ c Q t) : TC P Θ Γ c Q s :=
  fun code hc ρ₀ ls₀ h₀ w₀ ρ ls a w ev rel => ht code hc ρ₀ ls₀ h₀ w₀ ρ ls a w (by rw [← h.heap]; exact ev) (h.rel rel)
theorem TC_loop (tab : TabOK P Θ) (gl : Gl) {c : C} {Q : AE → St → Prop} {α : Type} (μ : α → Nat) (st : α → St)
    (round : ∀ x, awp P Θ Γ gl c (thenQ (fun s' => ∃ y, μ y < μ x ∧ Le s' (st y)) Q) (st x)) : ∀ x, TC P Θ Γ (.loop c) Q (st x) := by
  intro x code hc
  cases code with
  | loop body =>
    simp only [trC] at hc
    cases hb : trC Θ body with
    | none => simp [hb] at hc
    | some cb =>
      simp [hb] at hc
      subst hc
      intro ρ₀ ls₀ h₀ w₀ ρ ls a w ev rel
      refine wp_loop_ghost (fun n a w => ∃ x ρ ls, μ x = n ∧ Evo ρ₀ ls₀ h₀ w₀ ρ ls (st x).heap w ∧ Rel Γ ρ ls (st x) a w) (μ x) ⟨x, ρ, ls, rfl, ev, rel⟩ ?_
      rintro n a w ⟨x, ρ, ls, rfl, ev, rel⟩
      refine wp_mono (awp_sound tab gl body cb _ _ hb (round x) ρ₀ ls₀ h₀ w₀ ρ ls a w ev rel) ?_
      rintro e a' w' ⟨s', ρ', ls', hrel, hev, hq⟩
      cases e <;> simp only [thenQ, Exit.then] at hq ⊢
      · obtain ⟨y, hy, hle⟩ := hq
        exact ⟨μ y, hy, y, ρ', ls', rfl, by rw [← hle.heap]; exact hev, hle.rel hrel⟩
      · exact ⟨s', ρ', ls', hrel, hev, hq⟩
      · exact ⟨s', ρ', ls', hrel, hev, hq⟩
  | skip => simp [trC] at hc
  | region id ops draw =>
    cases draw <;> simp only [trC, Option.map_eq_some_iff] at hc <;> obtain ⟨_, _, h⟩ := hc <;> cases h
  | seq x y =>
    simp only [trC] at hc
    obtain ⟨_, _, hc⟩ := bind2 hc
    rw [Option.map_eq_some_iff] at hc
    obtain ⟨_, _, h⟩ := hc
    cases h
  | cond x y z =>
    simp only [trC] at hc
    obtain ⟨_, _, hc⟩ := bind2 hc
    rw [Option.map_eq_some_iff] at hc
    obtain ⟨_, _, h⟩ := hc
    cases h
  | block id x =>
    simp only [trC, Option.map_eq_some_iff] at hc
    obtain ⟨_, _, h⟩ := hc
    cases h
  | exit => simp [trC] at hc
  | ret => simp [trC] at hc
  | _ => simp [trC] at hc
end
end Go.AM
