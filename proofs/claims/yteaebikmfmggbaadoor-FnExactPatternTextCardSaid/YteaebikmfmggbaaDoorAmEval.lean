import Derived.Test.YteaebikmfmggbaaDoorAmDraw
set_option linter.unusedVariables false
set_option linter.unusedSimpArgs false
namespace Go.AM
inductive D where
  | done
  | q (i : Nat) (d : D)
  | all (ds : List (Nat × D))
  | st (i : Nat) (rs : List Nat) (d : D)
  | mix (ds : List (Nat × Option (List Nat) × D))
  deriving Inhabited
def quietAt (os : List O) (i : Nat) : Bool := match os[i]? with | some o => quiet o.op | none => false
def leadA0 (os : List O) (af : List (List Nat)) (done : List Bool) (i : Nat) : Bool :=
  (List.range done.length).all fun q => !(done.getD q false) || pureAt os q || (spreadA af i ((af.getD i []).foldl (fun S e => S.set e true) (List.replicate done.length false))).getD q false
def leadQ0 (os : List O) (af : List (List Nat)) (n i q : Nat) : Bool :=
  pureAt os q || (spreadA af i ((af.getD i []).foldl (fun S e => S.set e true) (List.replicate n false))).getD q false
theorem pure_skip {os : List O} {q : Nat} (h : pureAt os q = true) : skipAt os q = true := by
  unfold pureAt at h; unfold skipAt
  split at h
  · rename_i o ho; simp [h]
  · cases h
theorem lead0 {os : List O} {af : List (List Nat)} {done : List Bool} {i : Nat} (h : leadA0 os af done i = true) : leadA os af done i = true := by
  unfold leadA0 at h; unfold leadA
  rw [List.all_eq_true] at *
  intro q hq
  have := h q hq
  simp only [Bool.or_eq_true] at this ⊢
  exact this.imp (fun h => h.imp id pure_skip) id
theorem leadQ_0 {os : List O} {af : List (List Nat)} {n i q : Nat} (h : leadQ os af n i q = false) : leadQ0 os af n i q = false := by
  unfold leadQ at h; unfold leadQ0
  rw [Bool.or_eq_false_iff] at *
  refine ⟨?_, h.2⟩
  cases hp : pureAt os q
  · rfl
  · rw [pure_skip hp] at h; cases h.1
def isApp (os : List O) (i : Nat) : Bool := match os[i]? with | some ⟨_, _, .app _ _ _ _ _ _⟩ => true | some ⟨_, _, .store _ _ _⟩ => true | some ⟨_, _, .appz _ _ _ _ _⟩ => true | some ⟨_, _, .clr _ _ _⟩ => true | _ => false
def stRegs (os : List O) (af : List (List Nat)) (done : List Bool) (i : Nat) : Option (List Nat) :=
  (((List.range done.length).filter fun q => done.getD q false && !(leadQ0 os af done.length i q)).mapM fun q => match addrReg os q with | some r => if soleR os af q r = true then some r else none | none => none)
def stRegs1 (os : List O) (af : List (List Nat)) (done : List Bool) (i : Nat) : Option (List Nat) :=
  if isApp os i = true then (((List.range done.length).filter fun q => done.getD q false && !(leadQ os af done.length i q)).mapM fun q => match addrReg os q with | some r => if soleR os af q r = true then some r else none | none => none) else none
def isStore (os : List O) (i : Nat) : Bool := match os[i]? with | some ⟨_, _, .store _ (.t _) _⟩ => true | some ⟨_, _, .app _ _ _ _ _ _⟩ => true | some ⟨_, _, .call _ _⟩ => true | _ => false
def sched (os : List O) (af : List (List Nat)) : Nat → List Bool → Option D
  | 0, done => if (readyA os af done).isEmpty = true then some .done else none
  | fuel + 1, done =>
    match (readyA os af done).find? (fun i => quietAt os i && freeA os af done i) with
    | some i => (sched os af fuel (done.set i true)).map (.q i)
    | none => if (readyA os af done).isEmpty = true then some .done else match (readyA os af done).find? (fun i => readyA os af done == [i] && leadA0 os af done i) with
      | some i => (sched os af fuel (done.set i true)).map (.q i)
      | none => match (readyA os af done).find? (fun i => readyA os af done == [i] && isStore os i && (stRegs os af done i).isSome) with
      | some i => (sched os af fuel (done.set i true)).map (.st i ((stRegs os af done i).getD []))
      | none => if ((readyA os af done).any fun i => (stRegs1 os af done i).isSome) = true then
          ((readyA os af done).mapM fun i => (sched os af fuel (done.set i true)).map fun d => (i, stRegs1 os af done i, d)).map .mix
        else ((readyA os af done).mapM fun i => (sched os af fuel (done.set i true)).map fun d => (i, d)).map .all
section
variable (P : Program) (Θ : Tab) (Γ : Glob)
def awAll (f : Nat → D → Prop) : List (Nat × D) → Prop
  | [] => True
  | (i, d) :: r => f i d ∧ awAll f r
def awMix (f : Nat → Option (List Nat) → D → Prop) : List (Nat × Option (List Nat) × D) → Prop
  | [] => True
  | (i, b, d) :: r => f i b d ∧ awMix f r
def awpT (gl : Gl) (os : List O) (K : St → Prop) : Nat → D → St → Prop
  | 0, .done, s => K s
  | _ + 1, .done, s => K s
  | n + 1, .q i d, s => opA P Γ gl os i (awpT gl os K n d) s
  | n + 1, .st i rs d, s => opA P Γ gl os i (fun s' => KeepR rs s s' ∧ awpT gl os K n d s') s
  | n + 1, .all ds, s => awAll (fun i d => opA P Γ gl os i (fun s' => Mem s s' ∧ awpT gl os K n d s') s) ds
  | n + 1, .mix ds, s => awMix (fun i b d => opA P Γ gl os i (fun s' => (match b with | some rs => KeepR rs s s' | none => Mem s s') ∧ awpT gl os K n d s') s) ds
  | 0, _, _ => False
def aw (gl : Gl) : C → (AE → St → Prop) → St → Prop
  | .skip, Q, s => Q .normal s
  | .reg os, Q, s => awpOps P Γ gl os os (Q .normal) s
  | .regD os af, Q, s => match sched os af os.length (List.replicate os.length false) with
    | some d => awpT P Γ gl os (Q .normal) os.length d s
    | none => False
  | .seq a b, Q, s => aw gl a (thenQ (aw gl b Q) Q) s
  | .cond c a b, Q, s => match s.eval Γ c with | .bool t => br t (aw gl a Q s) (aw gl b Q s) | _ => False
  | .block id c, Q, s => aw gl c (blockQ id Q) s
  | .loop c, Q, s => TC P Θ Γ (.loop c) Q s
  | .exit id, Q, s => Q (.exit id) s
  | .ret, Q, s => Q .ret s
end
section
variable {P : Program} {Θ : Tab} {Γ : Glob}
theorem mem_ready_of_find {os : List O} {af : List (List Nat)} {done : List Bool} {p : Nat → Bool} {i : Nat} (h : (readyA os af done).find? p = some i) : i ∈ readyA os af done ∧ p i = true :=
  ⟨List.mem_of_find?_eq_some h, List.find?_some h⟩
theorem opA_imp {gl : Gl} {os : List O} {i : Nat} {K : St → Prop} {s : St} (hq : quietAt os i = true) (h : opA P Γ gl os i K s) : ∃ o v, os[i]? = some o ∧ QV Γ gl os o v s ∧ K (s.put o.dst v) := by
  unfold opA at h
  unfold quietAt at hq
  cases ho : os[i]? with
  | none => simp [ho] at hq
  | some o =>
    simp only [ho] at h hq
    refine ⟨o, ?_⟩
    cases hg : guardOf os s o.gd with
    | none => simp [hg] at h
    | some t =>
      simp only [hg] at h
      cases t with
      | true =>
        have h := h.1 rfl
        cases hs : step Γ (isGl gl o) s o.op with
        | val v s' =>
          rw [hs] at h
          have := (quiet_step hq hs).1
          subst this
          exact ⟨v, rfl, .inl ⟨hg, hq, hs⟩, h⟩
        | call f args =>
          exfalso
          cases hop : o.op <;> rw [hop] at hq hs <;> (try (simp only [quiet] at hq; cases hq)) <;> simp only [step] at hs
          all_goals (first | (cases hs; done) | skip)
          all_goals (try (split at hs))
          all_goals (first | (cases hs; done) | skip)
          all_goals (unfold AR.ofO at hs; split at hs <;> cases hs)
        | stuck => rw [hs] at h; exact h.elim
      | false => exact ⟨.tup [], rfl, .inr ⟨hg, rfl⟩, h.2 rfl⟩
theorem mapM_mem {α β : Type} {f : α → Option β} : ∀ {l : List α} {r : List β}, l.mapM f = some r → ∀ x ∈ l, ∃ y ∈ r, f x = some y
  | [], _, _, x, hx => by simp at hx
  | a :: l, r, h, x, hx => by
    rw [List.mapM_cons] at h
    cases ha : f a with
    | none => simp [ha] at h
    | some b =>
      cases hl : l.mapM f with
      | none => simp [ha, hl] at h
      | some bs =>
        simp [ha, hl] at h
        subst h
        rcases List.mem_cons.1 hx with rfl | hx
        · exact ⟨b, by simp, ha⟩
        · obtain ⟨y, hy, hf⟩ := mapM_mem hl x hx
          exact ⟨y, by simp [hy], hf⟩
theorem awAll_mem {f : Nat → D → Prop} : ∀ {l : List (Nat × D)}, awAll f l → ∀ i d, (i, d) ∈ l → f i d
  | (j, e) :: r, h, i, d, hm => by
    rcases List.mem_cons.1 hm with h1 | h1
    · injection h1 with h1 h2; subst h1; subst h2; exact h.1
    · exact awAll_mem h.2 i d h1
theorem awMix_mem {f : Nat → Option (List Nat) → D → Prop} : ∀ {l : List (Nat × Option (List Nat) × D)}, awMix f l → ∀ i b d, (i, b, d) ∈ l → f i b d
  | (j, c, e) :: r, h, i, b, d, hm => by
    rcases List.mem_cons.1 hm with h1 | h1
    · simp only [Prod.mk.injEq] at h1; obtain ⟨rfl, rfl, rfl⟩ := h1; exact h.1
    · exact awMix_mem h.2 i b d h1
theorem keep_of {os : List O} {af : List (List Nat)} {done : List Bool} {i : Nat} {rs : List Nat} {s s' : St} (h : stRegs os af done i = some rs) (k : KeepR rs s s') : KeepL os af done i s s' := by
  intro q hq hd hl
  obtain ⟨r, hr, hf⟩ := mapM_mem h q (List.mem_filter.2 ⟨List.mem_range.2 hq, by rw [hd, leadQ_0 hl]; rfl⟩)
  split at hf
  · rename_i r' ha
    split at hf
    · rename_i hs
      injection hf with hf; subst hf
      exact ⟨r', ha, hs, k r' hr⟩
    · cases hf
  · cases hf
theorem keep_of1 {os : List O} {af : List (List Nat)} {done : List Bool} {i : Nat} {rs : List Nat} {s s' : St} (h : stRegs1 os af done i = some rs) (k : KeepR rs s s') : KeepL os af done i s s' := by
  unfold stRegs1 at h
  split at h
  · intro q hq hd hl
    obtain ⟨r, hr, hf⟩ := mapM_mem h q (List.mem_filter.2 ⟨List.mem_range.2 hq, by rw [hd, hl]; rfl⟩)
    split at hf
    · rename_i r' ha
      split at hf
      · rename_i hs
        injection hf with hf; subst hf
        exact ⟨r', ha, hs, k r' hr⟩
      · cases hf
    · cases hf
  · cases h
theorem awpT_sound {gl : Gl} {os : List O} {af : List (List Nat)} {K : St → Prop} : ∀ (fuel : Nat) (done : List Bool) (d : D) (s : St), ClosedA af done → sched os af fuel done = some d → awpT P Γ gl os K fuel d s → awpAny P Γ gl os af K fuel done s := by
  intro fuel
  induction fuel with
  | zero =>
    intro done d s hc hs h
    simp only [sched] at hs
    split at hs
    · rename_i he
      injection hs with hs
      subst hs
      exact ⟨by simpa using he, h⟩
    · cases hs
  | succ fuel ih =>
    intro done d s hc hs h
    simp only [sched] at hs
    split at hs
    · rename_i i hf
      obtain ⟨hr, hp⟩ := mem_ready_of_find hf
      simp only [Bool.and_eq_true] at hp
      rw [Option.map_eq_some_iff] at hs
      obtain ⟨d', hd, rfl⟩ := hs
      simp only [awpT] at h
      obtain ⟨o, v, ho, hv, hk⟩ := opA_imp hp.1 h
      exact awpAny_first ho (by simpa [quietAt, ho] using hp.1) fuel done s hc hp.2 hr hv (ih _ d' _ (closed_set hc (mem_readyA.1 hr).2.2) hd hk)
    · split at hs
      · rename_i he
        injection hs with hs
        subst hs
        have he : readyA os af done = [] := by simpa using he
        exact ⟨fun _ => h, by rw [he]; simp⟩
      · rename_i he
        split at hs
        · rename_i i hf
          obtain ⟨hr, hp⟩ := mem_ready_of_find hf
          simp only [Bool.and_eq_true, beq_iff_eq] at hp
          rw [Option.map_eq_some_iff] at hs
          obtain ⟨d', hd, rfl⟩ := hs
          simp only [awpT] at h
          refine ⟨fun hn => absurd (by simp [hn]) he, fun j hj => ?_⟩
          have hji : j = i := by rw [hp.1] at hj; simpa using hj
          subst hji
          exact opA_mono (fun s' hs => ⟨.inl (lead0 hp.2), ih _ _ s' (closed_set hc (mem_readyA.1 hr).2.2) hd hs⟩) h
        split at hs
        · rename_i i hf
          obtain ⟨hr, hp⟩ := mem_ready_of_find hf
          simp only [Bool.and_eq_true, beq_iff_eq] at hp
          rw [Option.map_eq_some_iff] at hs
          obtain ⟨d', hd, rfl⟩ := hs
          simp only [awpT] at h
          refine ⟨fun hn => absurd (by simp [hn]) he, fun j hj => ?_⟩
          have hji : j = i := by rw [hp.1.1] at hj; simpa using hj
          subst hji
          obtain ⟨rs, hrs⟩ := Option.isSome_iff_exists.1 hp.2
          rw [hrs] at h
          exact opA_mono (fun s' hs => ⟨.inr (.inr (keep_of hrs hs.1)), ih _ _ s' (closed_set hc (mem_readyA.1 hr).2.2) hd hs.2⟩) h
        split at hs
        · rw [Option.map_eq_some_iff] at hs
          obtain ⟨ds, hd, rfl⟩ := hs
          simp only [awpT] at h
          refine ⟨fun hn => absurd (by simp [hn]) he, fun i hi => ?_⟩
          obtain ⟨⟨j, b, d⟩, hm, hf⟩ := mapM_mem hd i hi
          rw [Option.map_eq_some_iff] at hf
          obtain ⟨d', h1, h2⟩ := hf
          simp only [Prod.mk.injEq] at h2
          obtain ⟨h2, h3, h4⟩ := h2
          subst h2; subst h4
          refine opA_mono (fun s' hs => ⟨?_, ih _ _ s' (closed_set hc (mem_readyA.1 hi).2.2) h1 hs.2⟩) (awMix_mem h _ _ _ hm)
          cases b with
          | some rs => exact .inr (.inr (keep_of1 h3 hs.1))
          | none => exact .inr (.inl hs.1)
        rw [Option.map_eq_some_iff] at hs
        obtain ⟨ds, hd, rfl⟩ := hs
        simp only [awpT] at h
        refine ⟨fun hn => absurd (by simp [hn]) he, fun i hi => ?_⟩
        obtain ⟨⟨j, d⟩, hm, hf⟩ := mapM_mem hd i hi
        rw [Option.map_eq_some_iff] at hf
        obtain ⟨d', h1, h2⟩ := hf
        injection h2 with h2 h3
        subst h2; subst h3
        exact opA_mono (fun s' hs => ⟨.inr (.inl hs.1), ih _ _ s' (closed_set hc (mem_readyA.1 hi).2.2) h1 hs.2⟩) (awAll_mem h _ _ hm)
theorem awpOps_mono {gl : Gl} {all : List O} : ∀ (os : List O) {K K' : St → Prop} (s : St), (∀ s, K s → K' s) → awpOps P Γ gl all os K s → awpOps P Γ gl all os K' s
  | [], _, _, s, hk, h => hk s h
  | o :: r, _, _, s, hk, h => by
    simp only [awpOps] at h ⊢
    split
    · rename_i hg; simp [hg] at h
    · rename_i t hg
      simp only [hg] at h
      refine ⟨fun ht => ?_, fun ht => awpOps_mono r _ hk (h.2 ht)⟩
      have h := h.1 ht
      split
      · rename_i hs; rw [hs] at h; exact awpOps_mono r _ hk h
      · rename_i hs; rw [hs] at h; exact h.mono fun _ s' h => awpOps_mono r _ hk h
      · rename_i hs; rw [hs] at h; exact h
theorem awp_mono {gl : Gl} : ∀ (c : C) {Q Q' : AE → St → Prop} (s : St), (∀ e s, Q e s → Q' e s) → awp P Θ Γ gl c Q s → awp P Θ Γ gl c Q' s := by
  intro c
  induction c with
  | skip => exact fun s hq h => hq _ s h
  | reg os => exact fun s hq h => awpOps_mono os s (hq _) h
  | regD os af => exact fun s hq h => h.mono hq
  | seq a b iha ihb => exact fun s hq h => iha s (fun e s he => by cases e <;> simp only [thenQ] at he ⊢ <;> first | exact ihb s hq he | exact hq _ _ he) h
  | cond c a b iha ihb =>
    intro Q Q' s hq h
    simp only [awp] at h ⊢
    split at h
    · exact ⟨fun ht => iha s hq (h.1 ht), fun ht => ihb s hq (h.2 ht)⟩
    · exact h.elim
  | block id c ih => exact fun s hq h => ih s (fun e s he => by cases e <;> simp only [blockQ] at he ⊢ <;> (try split) <;> simp_all) h
  | loop c => exact fun s hq h => h.mono hq
  | exit id => exact fun s hq h => hq _ s h
  | ret => exact fun s hq h => hq _ s h
theorem aw_sound (tab : TabOK P Θ) (hm : P.follows .mixedOrders = true) (gl : Gl) : ∀ (c : C) (Q : AE → St → Prop) (s : St), aw P Θ Γ gl c Q s → TC P Θ Γ c Q s := by
  suffices h : ∀ (c : C) (Q : AE → St → Prop) (s : St), aw P Θ Γ gl c Q s → awp P Θ Γ gl c Q s from fun c Q s ha => TC.of_awp tab gl (h c Q s ha)
  intro c
  induction c with
  | skip => exact fun _ _ h => h
  | reg os => exact fun _ _ h => h
  | regD os af =>
    intro Q s h
    simp only [aw] at h
    split at h
    · rename_i d hd
      exact TC_regD tab hm gl (awpT_sound _ _ d s (closed_rep _ _) hd h)
    · exact h.elim
  | seq a b iha ihb =>
    intro Q s h
    exact awp_mono a s (fun e s he => by cases e <;> simp only [thenQ] at he ⊢ <;> first | exact ihb Q s he | exact he) (iha _ s h)
  | cond c a b iha ihb =>
    intro Q s h
    simp only [aw, awp] at h ⊢
    split at h
    · rename_i t ht
      simp only [ht]
      exact ⟨fun ht => iha Q s (h.1 ht), fun ht => ihb Q s (h.2 ht)⟩
    · exact h.elim
  | block id c ih => exact fun Q s h => ih _ s h
  | loop c => exact fun _ _ h => h
  | exit id => exact fun _ _ h => h
  | ret => exact fun _ _ h => h
end
end Go.AM
