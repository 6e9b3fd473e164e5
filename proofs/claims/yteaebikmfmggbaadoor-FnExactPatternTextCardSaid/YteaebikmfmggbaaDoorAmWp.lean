import Derived.Test.YteaebikmfmggbaaDoorAmSteps
set_option linter.unusedVariables false
set_option linter.unusedSimpArgs false
namespace Go.AM
section
variable (P : Program) (Θ : Tab) (Γ : Glob)
def TCall (f : FuncId) (args : List AV) (s : St) (K : AV → St → Prop) : Prop :=
  ∀ ρ ls w cargs, RH ρ ls s.loc s.heap w → GOK Γ ρ → RVs ρ ls args cargs →
    Callable P f ∧ Calls P f cargs.toArray w fun e w' => ∃ cv v s' ρ' ls', e = .returned cv ∧ s'.env = s.env ∧ RV ρ' ls' v cv ∧
      RH ρ' ls' s'.loc s'.heap w' ∧ Evo ρ ls s.heap w ρ' ls' s'.heap w' ∧ K v s'
def TC (c : C) (Q : AE → St → Prop) (s : St) : Prop := ∀ code, trC Θ code = some c → TK' P Γ code Q s
abbrev Gl := List Nat
def isGl (gl : Gl) (o : O) : Bool := match o.dst with | some d => gl.contains d | none => false
def awpOps (gl : Gl) (os : List O) : List O → (St → Prop) → St → Prop
  | [], K, s => K s
  | o :: r, K, s =>
    match guardOf os s o.gd with
    | none => False
    | some t => br t
        (match step Γ (isGl gl o) s o.op with
          | .val v s' => awpOps gl os r K (s'.put o.dst v)
          | .call f args => TCall P Γ f args s fun v s' => awpOps gl os r K (s'.put o.dst v)
          | .stuck => False)
        (awpOps gl os r K (s.put o.dst (.tup [])))
def thenQ (K : St → Prop) (Q : AE → St → Prop) : AE → St → Prop
  | .normal, s => K s
  | e, s => Q e s
def blockQ (id : Nat) (Q : AE → St → Prop) : AE → St → Prop
  | .exit i, s => if i = id then Q .normal s else Q (.exit i) s
  | e, s => Q e s
def awp (gl : Gl) : C → (AE → St → Prop) → St → Prop
  | .skip, Q, s => Q .normal s
  | .reg os, Q, s => awpOps P Γ gl os os (Q .normal) s
  | .regD os af, Q, s => TC P Θ Γ (.regD os af) Q s
  | .seq a b, Q, s => awp gl a (thenQ (awp gl b Q) Q) s
  | .cond c a b, Q, s => match s.eval Γ c with | .bool t => br t (awp gl a Q s) (awp gl b Q s) | _ => False
  | .block id c, Q, s => awp gl c (blockQ id Q) s
  | .loop c, Q, s => TC P Θ Γ (.loop c) Q s
  | .exit id, Q, s => Q (.exit id) s
  | .ret, Q, s => Q .ret s
end
section
variable {P : Program} {Θ : Tab} {Γ : Glob}
theorem Sat.mono {Q Q' : AE → St → Prop} {ρ₀ ls₀ h₀ w₀} (hq : ∀ e s, Q e s → Q' e s) {e a w} (h : Sat Γ Q ρ₀ ls₀ h₀ w₀ e a w) : Sat Γ Q' ρ₀ ls₀ h₀ w₀ e a w := by
  obtain ⟨s, ρ, ls, h1, h2, h3⟩ := h
  refine ⟨s, ρ, ls, h1, h2, ?_⟩
  cases e <;> simp only at h3 ⊢ <;> first | exact hq _ _ h3 | exact h3
theorem TK'.mono {code : Code} {Q Q' : AE → St → Prop} {s : St} (h : TK' P Γ code Q s) (hq : ∀ e s, Q e s → Q' e s) : TK' P Γ code Q' s :=
  fun ρ₀ ls₀ h₀ w₀ ρ ls a w he hr => wp_mono (h ρ₀ ls₀ h₀ w₀ ρ ls a w he hr) (fun _ _ _ => Sat.mono hq)
theorem TC.mono {c : C} {Q Q' : AE → St → Prop} {s : St} (h : TC P Θ Γ c Q s) (hq : ∀ e s, Q e s → Q' e s) : TC P Θ Γ c Q' s :=
  fun code hc => (h code hc).mono hq
theorem TCall.mono {f args s} {K K' : AV → St → Prop} (h : TCall P Γ f args s K) (hk : ∀ v s', K v s' → K' v s') : TCall P Γ f args s K' :=
  fun ρ ls w cargs h1 h2 h3 => let ⟨c, hc⟩ := h ρ ls w cargs h1 h2 h3
    ⟨c, hc.mono fun _ _ ⟨cv, v, s', ρ', ls', e1, e2, e3, e4, e5, e6⟩ => ⟨cv, v, s', ρ', ls', e1, e2, e3, e4, e5, hk _ _ e6⟩⟩
theorem put_rel {ρ ls s a w} (rel : Rel Γ ρ ls s a w) {s' : St} (he : s'.env = s.env) {ρ' ls' w'} (m : RH ρ' ls' s'.loc s'.heap w') (ev : Evo ρ ls s.heap w ρ' ls' s'.heap w')
    {v : AV} {cv : Value} (rv : RV ρ' ls' v cv) (dst : Option Nat) : Rel Γ ρ' ls' (s'.put dst v) (a.put dst cv) w' := by
  have henv : ∀ (i : Nat) (x : AV), s'.env[i]? = some x → RV ρ' ls' x (a.tmps.getD i undef) := fun i x hx => (rel.env i x (he ▸ hx)).mono ev.le ev.ext
  cases dst with
  | none => exact ⟨rel.defers, (congrArg List.length he).trans rel.size, henv, m, rel.glob.mono _ ev.le⟩
  | some d =>
    refine ⟨rel.defers, ?_, ?_, m, rel.glob.mono _ ev.le⟩
    · simp [St.put, Act.put, he, rel.size]
    · intro i x hx
      simp only [St.put, Act.put] at hx ⊢
      by_cases hd : d = i
      · subst hd
        have hlt := getElem?_lt hx
        simp at hlt
        rw [List.getElem?_set_self hlt] at hx
        injection hx with hx
        subst hx
        rw [he, rel.size] at hlt
        simpa [Array.getD, hlt] using rv
      · rw [List.getElem?_set_ne hd] at hx
        have := henv i x hx
        simpa [Array.getD_eq_getD_getElem?, Array.getElem?_setIfInBounds_ne hd] using this
theorem run_callFunc {f : FuncId} {args : Array Value} {w : World} (h : Callable P f) : (callFunc f args).run P w = .ok (.enter f args) w := by
  obtain ⟨fn, c, h1, h2, h3⟩ := h
  have h3' : ¬ fn.name = "runtime.NumGoroutine" := by simpa using h3
  simp [callFunc, h1, h2, h3']
theorem ops_sound (tab : TabOK P Θ) {ops : Array Oper} {os : List O} (hos : ops.toList.mapM (trO Θ) = some os) (gl : Gl) {Q : AE → St → Prop} {K : St → Prop}
    (hK : ∀ s, K s → Q .normal s) {ρ₀ ls₀ h₀ w₀} : ∀ (n i : Nat) (s : St), i + n = os.length → awpOps P Γ gl os (os.drop i) K s → ∀ ρ ls a w, Evo ρ₀ ls₀ h₀ w₀ ρ ls s.heap w → Rel Γ ρ ls s a w →
      wpOps P ops (Sat Γ Q ρ₀ ls₀ h₀ w₀) (List.range' i n) a w := by
  obtain ⟨hlen, hget⟩ := mapM_spec hos
  intro n
  induction n with
  | zero =>
    intro i s hi h ρ ls a w ev rel
    rw [List.drop_of_length_le (by omega)] at h
    exact ⟨s, ρ, ls, rel, ev, hK _ h⟩
  | succ n ih =>
    intro i s hi h ρ ls a w ev rel
    have hil : i < os.length := by omega
    rw [List.drop_eq_getElem_cons hil] at h
    have hop : i < ops.toList.length := by omega
    obtain ⟨o', ho1, ho2⟩ := hget i _ (List.getElem?_eq_getElem hop)
    have hoe : o' = os[i] := by rw [List.getElem?_eq_getElem hil] at ho1; exact (Option.some.inj ho1).symm
    subst hoe
    have hopi : ops[i]? = some ops.toList[i] := by rw [← Array.getElem?_toList, List.getElem?_eq_getElem hop]
    generalize hoo : ops.toList[i] = o at ho2 hopi
    have htr : trI Θ o.op = some os[i].op ∧ os[i].dst = o.dst ∧ os[i].gd = o.guard := by
      unfold trO at ho2
      cases hI : trI Θ o.op with
      | none => simp [hI] at ho2
      | some x => simp [hI] at ho2; rw [← ho2]; simp
    obtain ⟨ht, hd, hg⟩ := htr
    simp only [awpOps] at h
    rw [List.range'_succ]
    simp only [wpOps, hopi]
    have hguard : ∀ t, guardOf os s os[i].gd = some t → Region.wanted o (yielded ops a.tmps) = t := by
      intro t hgd
      rw [hg] at hgd
      unfold guardOf at hgd
      unfold Region.wanted
      cases hog : o.guard with
      | none => simp [hog] at hgd ⊢; exact hgd
      | some jw =>
        obtain ⟨j, want⟩ := jw
        simp only [hog] at hgd ⊢
        have hdst : (os[j]?).bind (·.dst) = (ops[j]?).bind (·.dst) := by
          cases hoj : os[j]? with
          | none =>
            have : ops.toList.length ≤ j := by
              rcases Nat.lt_or_ge j ops.toList.length with h | h
              · rw [List.getElem?_eq_getElem (by omega)] at hoj; cases hoj
              · exact h
            rw [Array.getElem?_eq_none (by simpa using this)]; rfl
          | some oj =>
            have hj := getElem?_lt hoj
            obtain ⟨o2, q1, q2⟩ := hget j _ (List.getElem?_eq_getElem (show j < ops.toList.length by omega))
            rw [hoj] at q1
            injection q1 with q1
            subst q1
            have : ops[j]? = some ops.toList[j] := by rw [← Array.getElem?_toList, List.getElem?_eq_getElem]
            rw [this]
            unfold trO at q2
            rw [Option.map_eq_some_iff] at q2
            obtain ⟨x, _, q3⟩ := q2
            rw [← q3]; rfl
        rw [hdst] at hgd
        unfold yielded
        cases hb : (ops[j]?).bind (·.dst) with
        | none => rw [hb] at hgd; simp at hgd; simp [hgd]
        | some d =>
          simp only [hb, Option.bind_some] at hgd ⊢
          cases hv : s.env[d]? with
          | none =>
            have : a.tmps[d]? = none := by
              rcases Nat.lt_or_ge d s.env.length with h | h
              · rw [List.getElem?_eq_getElem h] at hv; cases hv
              · exact Array.getElem?_eq_none (by rw [← rel.size]; exact h)
            simp [hv] at hgd
            simp [this, hgd]
          | some x =>
            have hr := rel.env d x hv
            have hlt : d < a.tmps.size := by rw [← rel.size]; exact getElem?_lt hv
            have hta : a.tmps[d]? = some (a.tmps.getD d undef) := by simp [hlt]
            rw [hta]
            generalize a.tmps.getD d undef = u at hr
            cases hr <;> simp [hv] at hgd <;> (try subst hgd) <;> simp
    cases hgd : guardOf os s os[i].gd with
    | none => simp [hgd] at h
    | some t =>
      rw [hguard t hgd]
      simp only [hgd] at h
      obtain ⟨hT, hF⟩ := h
      cases t with
      | false =>
        simp only [Bool.false_eq_true, if_false]
        have hrel := put_rel rel rfl rel.mem (.refl _ _ _ _) (undef_RV (ρ := ρ) (ls := ls)) os[i].dst
        rw [← hd]
        exact ih (i + 1) _ (by omega) (hF rfl) ρ ls _ w (by
          have : (s.put os[i].dst (.tup [])).heap = s.heap := by cases os[i].dst <;> rfl
          rw [this]; exact ev) hrel
      | true =>
        simp only [if_true]
        refine .inl ?_
        have hs := step_sound tab ht rel (isGl gl os[i])
        have hT := hT rfl
        unfold Oper.wp
        cases hst : step Γ (isGl gl os[i]) s os[i].op with
        | stuck => simp [hst] at hT
        | val v s' =>
          rw [hst] at hs
          simp only [hst] at hT
          obtain ⟨he, nx, cv, w', ρ', ls', hrun, hnx, hrv, hmem, hev⟩ := hs
          rw [hrun]
          have hrel := put_rel rel he hmem hev hrv os[i].dst
          have hnext := ih (i + 1) _ (by omega) hT ρ' ls' (a.put o.dst cv) w' (by
            have : (s'.put os[i].dst v).heap = s'.heap := by cases os[i].dst <;> rfl
            rw [this]; exact ev.trans hev) (by rw [← hd]; exact hrel)
          rcases hnx with rfl | ⟨rfl, rfl⟩
          · exact hnext
          · exact hnext
        | call f args =>
          rw [hst] at hs
          simp only [hst] at hT
          obtain ⟨cargs, hrun, hra⟩ := hs
          obtain ⟨hcal, hcalls⟩ := hT ρ ls w cargs rel.mem rel.glob hra
          rw [hrun, run_callFunc hcal]
          simp only [Oper.upon]
          refine hcalls.mono ?_
          rintro e w' ⟨cv, v, s', ρ', ls', rfl, he, hrv, hmem, hev, hk⟩
          have hrel := put_rel rel he hmem hev hrv os[i].dst
          exact ih (i + 1) _ (by omega) hk ρ' ls' (a.put o.dst cv) w' (by
            have : (s'.put os[i].dst v).heap = s'.heap := by cases os[i].dst <;> rfl
            rw [this]; exact ev.trans hev) (by rw [← hd]; exact hrel)
theorem awp_sound (tab : TabOK P Θ) (gl : Gl) : ∀ (code : Code) (c : C) (Q : AE → St → Prop) (s : St), trC Θ code = some c → awp P Θ Γ gl c Q s → TK' P Γ code Q s := by
  intro code
  induction code with
  | skip =>
    intro c Q s hc h ρ₀ ls₀ h₀ w₀ ρ ls a w ev rel
    simp [trC] at hc
    subst hc
    exact wp_skip ⟨s, ρ, ls, rel, ev, h⟩
  | region id ops draw =>
    intro c Q s hc h
    cases draw with
    | false =>
      simp only [trC] at hc
      cases hos : ops.toList.mapM (trO Θ) with
      | none => simp [hos] at hc
      | some os =>
        simp [hos] at hc
        subst hc
        intro ρ₀ ls₀ h₀ w₀ ρ ls a w ev rel
        refine wp_region ?_
        have hlen := (mapM_spec hos).1
        have := ops_sound tab hos gl (Q := Q) (fun s h => h) (ρ₀ := ρ₀) (ls₀ := ls₀) (h₀ := h₀) (w₀ := w₀) os.length 0 s (by omega) (by simpa [awp] using h) ρ ls a w ev rel
        rw [List.range_eq_range', ← Array.length_toList, ← hlen]
        exact this
    | true =>
      simp only [trC] at hc
      cases hos : ops.toList.mapM (trO Θ) with
      | none => simp [hos] at hc
      | some os =>
        simp [hos] at hc
        subst hc
        exact h _ (by simp [trC, hos])
  | seq x y ihx ihy =>
    intro c Q s hc h
    simp only [trC] at hc
    obtain ⟨cx, hx, hc⟩ := bind2 hc
    cases hy : trC Θ y with
    | none => simp [hy] at hc
    | some cy =>
      simp [hy] at hc
      subst hc
      have hX := ihx cx _ s hx h
      intro ρ₀ ls₀ h₀ w₀ ρ ls a w ev rel
      refine wp_seq (wp_mono (hX ρ₀ ls₀ h₀ w₀ ρ ls a w ev rel) ?_)
      rintro e a' w' ⟨s', ρ', ls', hrel, hev, hq⟩
      cases e <;> simp only [Exit.then] at hq ⊢
      · exact ihy cy Q s' hy hq ρ₀ ls₀ h₀ w₀ ρ' ls' a' w' hev hrel
      · exact ⟨s', ρ', ls', hrel, hev, hq⟩
      · exact ⟨s', ρ', ls', hrel, hev, hq⟩
  | cond x y z ihy ihz =>
    intro c Q s hc h
    simp only [trC] at hc
    obtain ⟨cy, hy, hc⟩ := bind2 hc
    cases hz : trC Θ z with
    | none => simp [hz] at hc
    | some cz =>
      simp [hz] at hc
      subst hc
      intro ρ₀ ls₀ h₀ w₀ ρ ls a w ev rel
      have rx := eval_sound rel x
      simp only [awp] at h
      split at h
      · rename_i t hx
        have e := bool_inv rx hx
        refine wp_cond_split e (fun ht => ?_) (fun ht => ?_)
        · exact ihy cy Q s hy (h.1 ht) ρ₀ ls₀ h₀ w₀ ρ ls a w ev rel
        · exact ihz cz Q s hz (h.2 ht) ρ₀ ls₀ h₀ w₀ ρ ls a w ev rel
      · exact h.elim
  | block id x ih =>
    intro c Q s hc h
    simp only [trC] at hc
    cases hx : trC Θ x with
    | none => simp [hx] at hc
    | some cx =>
      simp [hx] at hc
      subst hc
      have hX := ih cx _ s hx h
      intro ρ₀ ls₀ h₀ w₀ ρ ls a w ev rel
      refine wp_block (wp_mono (hX ρ₀ ls₀ h₀ w₀ ρ ls a w ev rel) ?_)
      rintro e a' w' ⟨s', ρ', ls', hrel, hev, hq⟩
      cases e <;> simp only [Exit.inBlock] at hq ⊢
      · exact ⟨s', ρ', ls', hrel, hev, hq⟩
      · simp only [blockQ] at hq
        split
        · rename_i hid; rw [if_pos hid] at hq; exact ⟨s', ρ', ls', hrel, hev, hq⟩
        · rename_i hid; rw [if_neg hid] at hq; exact ⟨s', ρ', ls', hrel, hev, hq⟩
      · exact ⟨s', ρ', ls', hrel, hev, hq⟩
  | loop x ih =>
    intro c Q s hc h
    simp only [trC] at hc
    cases hx : trC Θ x with
    | none => simp [hx] at hc
    | some cx =>
      simp [hx] at hc
      subst hc
      exact h _ (by simp [trC, hx])
  | exit id =>
    intro c Q s hc h ρ₀ ls₀ h₀ w₀ ρ ls a w ev rel
    simp [trC] at hc
    subst hc
    exact wp_exit ⟨s, ρ, ls, rel, ev, h⟩
  | ret =>
    intro c Q s hc h ρ₀ ls₀ h₀ w₀ ρ ls a w ev rel
    simp [trC] at hc
    subst hc
    exact wp_ret ⟨s, ρ, ls, rel, ev, h⟩
  | _ => intro c Q s hc; simp [trC] at hc
theorem TC.of_awp (tab : TabOK P Θ) (gl : Gl) {c : C} {Q : AE → St → Prop} {s : St} (h : awp P Θ Γ gl c Q s) : TC P Θ Γ c Q s :=
  fun code hc => awp_sound tab gl code c Q s hc h
end
end Go.AM
