import Derived.Test.YtleddolmolkpfaaGreatAmLib
set_option linter.unusedVariables false
set_option linter.unusedSimpArgs false
namespace Go.AM
section
variable {P : Program} {Θ : Tab} {Γ : Glob}
theorem awAll_mono {f g : Nat → D → Prop} : ∀ {ds : List (Nat × D)}, (∀ i d, f i d → g i d) → awAll f ds → awAll g ds
  | [], _, _ => trivial
  | (_, _) :: _, h, a => ⟨h _ _ a.1, awAll_mono h a.2⟩
theorem awMix_mono {f g : Nat → Option (List Nat) → D → Prop} : ∀ {ds : List (Nat × Option (List Nat) × D)}, (∀ i b d, f i b d → g i b d) → awMix f ds → awMix g ds
  | [], _, _ => trivial
  | (_, _, _) :: _, h, a => ⟨h _ _ _ a.1, awMix_mono h a.2⟩
theorem awpT_mono {gl : Gl} {os : List O} {K K' : St → Prop} (hk : ∀ s, K s → K' s) : ∀ (n : Nat) (d : D) (s : St), awpT P Γ gl os K n d s → awpT P Γ gl os K' n d s
  | 0, .done, s, h => hk s h
  | n + 1, .done, s, h => hk s h
  | n + 1, .q i d, s, h => opA_mono (fun s' h => awpT_mono hk n d s' h) h
  | n + 1, .st i rs d, s, h => opA_mono (fun s' h => ⟨h.1, awpT_mono hk n d s' h.2⟩) h
  | n + 1, .all ds, s, h => awAll_mono (fun i d h => opA_mono (fun s' h => ⟨h.1, awpT_mono hk n d s' h.2⟩) h) h
  | n + 1, .mix ds, s, h => awMix_mono (fun i b d h => opA_mono (fun s' h => ⟨h.1, awpT_mono hk n d s' h.2⟩) h) h
  | 0, .mix _, _, h => h.elim
  | 0, .q _ _, _, h => h.elim
  | 0, .st _ _ _, _, h => h.elim
  | 0, .all _, _, h => h.elim
theorem aw_mono {gl : Gl} : ∀ (c : C) {Q Q' : AE → St → Prop} (s : St), (∀ e s, Q e s → Q' e s) → aw P Θ Γ gl c Q s → aw P Θ Γ gl c Q' s := by
  intro c
  induction c with
  | skip => exact fun s hq h => hq _ s h
  | reg os => exact fun s hq h => awpOps_mono os s (hq _) h
  | regD os af =>
    intro Q Q' s hq h
    simp only [aw] at h ⊢
    split at h
    · exact awpT_mono (hq _) _ _ s h
    · exact h.elim
  | seq a b iha ihb =>
    intro Q Q' s hq h
    exact iha s (fun e s he => by cases e <;> simp only [thenQ] at he ⊢ <;> first | exact ihb s hq he | exact hq _ s he) h
  | cond c a b iha ihb =>
    intro Q Q' s hq h
    simp only [aw] at h ⊢
    split at h
    · exact ⟨fun ht => iha s hq (h.1 ht), fun ht => ihb s hq (h.2 ht)⟩
    · exact h.elim
  | block id c ih =>
    intro Q Q' s hq h
    refine ih s (fun e s he => ?_) h
    cases e with
    | normal => exact hq _ s he
    | exit i =>
      simp only [blockQ] at he ⊢
      split at he
      · rename_i hi; rw [if_pos hi]; exact hq _ s he
      · rename_i hi; rw [if_neg hi]; exact hq _ s he
    | ret => exact hq _ s he
  | loop c => exact fun s hq h => TC.mono h hq
  | exit id => exact fun s hq h => hq _ s h
  | ret => exact fun s hq h => hq _ s h
def cutQ (R : St → Prop) (Q : AE → St → Prop) : AE → St → Prop
  | .normal, s => R s
  | e, s => Q e s
theorem q_cn (R : St → Prop) (Q : AE → St → Prop) : cutQ R Q .normal = R := rfl
theorem q_cr (R : St → Prop) (Q : AE → St → Prop) : cutQ R Q .ret = Q .ret := rfl
theorem q_ce (R : St → Prop) (Q : AE → St → Prop) (i : Nat) : cutQ R Q (.exit i) = Q (.exit i) := rfl
theorem aw_cut {gl : Gl} {a b : C} {Q : AE → St → Prop} {s : St} (R : St → Prop) (h1 : aw P Θ Γ gl a (cutQ R Q) s) (h2 : ∀ s, R s → aw P Θ Γ gl b Q s) : aw P Θ Γ gl (.seq a b) Q s :=
  aw_mono a s (fun e s he => by cases e <;> first | exact h2 s he | exact he) h1
theorem aw_cut2 {gl : Gl} {a b c : C} {Q : AE → St → Prop} {s : St} (R : St → Prop) (h1 : aw P Θ Γ gl (.seq a b) (cutQ R Q) s) (h2 : ∀ s, R s → aw P Θ Γ gl c Q s) : aw P Θ Γ gl (.seq a (.seq b c)) Q s :=
  aw_mono a s (fun e s he => by
    cases e with
    | normal => exact aw_mono b s (fun e s he => by cases e <;> first | exact h2 s he | exact he) he
    | exit i => exact he
    | ret => exact he) h1
def cutG (e : List AV) (n : Nat) : AV := e.getD n .any
theorem cutE {e : List AV} {loc : List (List AV)} {h : AH} {n : Nat} (hn : e.length = n) : (⟨e, loc, h⟩ : St) = ⟨(List.range n).map (cutG e), loc, h⟩ := by
  subst hn
  congr 1
  apply List.ext_getElem (by simp)
  intro i h1 h2
  simp [cutG, List.getD_eq_getElem?_getD, List.getElem?_eq_getElem h1]
end
theorem ECut : type_of% (And.intro @q_cn (And.intro @q_cr @q_ce)) := And.intro @q_cn (And.intro @q_cr @q_ce)
end Go.AM
