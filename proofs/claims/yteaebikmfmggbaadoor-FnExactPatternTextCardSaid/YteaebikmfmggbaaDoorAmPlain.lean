import Derived.Test.YteaebikmfmggbaaDoorAmEval
import Derived.Laws.StructEq
set_option linter.unusedVariables false
set_option linter.unusedSimpArgs false
namespace Go.AM
section
variable {P : Program}
def basicTK : TK → Bool | .int _ | .bool | .str => true | _ => false
def fieldsOK (P : Program) : List Field → Nat → List TK → Bool
  | [], _, [] => true
  | f :: fs, o, k :: ks => f.name != "_" && f.offset == o && (match P.underlying f.type with | some d => tkOf d == k && basicTK k | none => false) && fieldsOK P fs (o + 1) ks
  | _, _, _ => false
def plainOK (P : Program) (t : TypeId) (ks : List TK) : Bool :=
  !P.eqGuardType P.depth t && !P.stoodInHeld t && match P.underlying t with | some (.struct fs) => fieldsOK P fs.toList 0 ks | _ => false
theorem run_part1 {t : TypeId} {d : TypeDesc} (hu : P.underlying t = some d) (hb : basicTK (tkOf d) = true) {xs : Array Value} {off : Nat} {v : Value} (hx : xs[off]? = some v) (w : World) : (part t xs off).run P w = .ok v w := by
  cases d <;> simp [tkOf, basicTK] at hb <;> simp [part, isAgg, run_underlying hu, hx]
theorem eqFields_ok (d : Nat) {w : World} {ρ : Inj} {ls : List Nat} {xs ys : Array Value} : ∀ (fs : List Field) (o : Nat) (ks : List TK) (as bs : List AV) (r : Bool), fieldsOK P fs o ks = true →
    (∀ (i : Nat) (x : AV), as[i]? = some x → ∃ y, xs[o + i]? = some y ∧ RV ρ ls x y) → (∀ (i : Nat) (x : AV), bs[i]? = some x → ∃ y, ys[o + i]? = some y ∧ RV ρ ls x y) → aggEq ks as bs = some r →
    (Op.eqFields (d + 1) xs ys fs).run P w = .ok r w
  | [], o, [], as, bs, r, hf, ha, hb, h => by
    match as, bs, h with
    | [], [], h => simp [aggEq] at h; subst h; simp [Op.eqFields]
  | f :: fs, o, k :: ks, as, bs, r, hf, ha, hb, h => by
    match as, bs, h with
    | a :: as, b :: bs, h =>
      simp only [aggEq] at h
      obtain ⟨e, h1, h2⟩ := bind2 h
      rw [Option.map_eq_some_iff] at h2
      obtain ⟨e', h2, rfl⟩ := h2
      simp only [fieldsOK, Bool.and_eq_true, bne_iff_ne, ne_eq, beq_iff_eq] at hf
      obtain ⟨⟨⟨f1, f2⟩, f3⟩, f4⟩ := hf
      obtain ⟨y1, p1, r1⟩ := ha 0 a rfl
      obtain ⟨y2, p2, r2⟩ := hb 0 b rfl
      have ih := eqFields_ok d (w := w) fs (o + 1) ks as bs e' f4 (fun i x hx => by have := ha (i + 1) x (by simpa using hx); rwa [show o + (i + 1) = o + 1 + i by omega] at this)
        (fun i x hx => by have := hb (i + 1) x (by simpa using hx); rwa [show o + (i + 1) = o + 1 + i by omega] at this) h2
      split at f3
      · rename_i d' hu
        simp only [Bool.and_eq_true, beq_iff_eq] at f3
        obtain ⟨f3, f5⟩ := f3
        have f6 : basicTK (tkOf d') = true := by rw [f3]; exact f5
        have q1 := run_part1 hu f6 (xs := xs) (off := o) (v := y1) (by simpa using p1) w
        have q2 := run_part1 hu f6 (xs := ys) (off := o) (v := y2) (by simpa using p2) w
        have q3 : (Op.equalIn (d + 1) f.type y1 y2).run P w = .ok e w := by
          rw [← f3] at h1
          cases d' <;> simp [tkOf, basicTK] at f6 <;> simp only [tkOf] at h1 <;> unfold cellEq at h1 <;> (split at h1) <;> (try (cases h1; done)) <;> rename_i h3 <;> (try (cases h3; done))
          all_goals skip
          · injection h1 with h1; cases r1; cases r2; subst h1
            exact run_equalIn_bool' w d f.type _ _ hu
          · split at h1
            · rename_i hk
              injection h1 with h1; cases r1; cases r2; subst h1; subst hk
              exact run_equalIn_int w d f.type _ _ _ _ hu
            · cases h1
          · injection h1 with h1; cases r1; cases r2; subst h1
            exact run_equalIn_string w d f.type _ _ hu
        simp only [Op.eqFields, f1, ne_eq, not_false_eq_true, if_true, f2, Sem.run_bind, q1, q2, q3, Result.andThen_ok]
        cases e
        · simp
        · simpa using ih
      · cases f3
  | [], _, _ :: _, _, _, _, hf, _, _, _ => by simp [fieldsOK] at hf
  | _ :: _, _, [], _, _, _, hf, _, _, _ => by simp [fieldsOK] at hf
theorem plainEq_of {t : TypeId} {ks : List TK} (h : plainOK P t ks = true) : PlainEq P t ks := by
  simp only [plainOK, Bool.and_eq_true, Bool.not_eq_true'] at h
  obtain ⟨⟨h1, h2⟩, h3⟩ := h
  refine ⟨h1, fun w ρ ls as bs xs ys r ra rb ha => ?_⟩
  cases hu : P.underlying t with
  | none => simp [hu] at h3
  | some d =>
    cases d <;> simp [hu] at h3
    rename_i fs
    have hfs : P.fieldsOf t = fs := by simp [Program.fieldsOf, hu]
    unfold Op.equal
    have look : ∀ {as : List AV} {xs : Array Value}, RVs ρ ls as xs.toList → ∀ (i : Nat) (x : AV), as[i]? = some x → ∃ y, xs[0 + i]? = some y ∧ RV ρ ls x y := by
      intro as xs ra i x hx
      have hl := getElem?_lt hx
      have h := ra.2 i x hx
      have hl' : i < xs.toList.length := by rw [← ra.1]; exact hl
      have hl'' : i < xs.size := by simpa using hl'
      refine ⟨xs[i], by simp [hl''], ?_⟩
      simpa [List.getD_eq_getElem?_getD, hl''] using h
    rw [show Op.maxDepth = (Op.maxDepth - 1) + 1 from rfl, run_equalIn_struct w _ t xs ys (by rw [hfs]; exact hu) h2, hfs]
    rw [show Op.maxDepth - 1 = (Op.maxDepth - 2) + 1 from rfl]
    exact eqFields_ok _ fs.toList 0 ks as bs r h3 (look ra) (look rb) ha
def tabOf (L : List (Nat × TI)) : Tab := fun t => (L.find? fun p => p.1 == t).map (·.2)
theorem tabOK_of {L : List (Nat × TI)} (h1 : (L.map fun p => tiOf P p.1) = L.map fun p => some (p.2.kd, p.2.size, p.2.bytes, p.2.zero, true))
    (h2 : (L.all fun p => match p.2.plainEq with | none => true | some ks => plainOK P p.1 ks) = true) : TabOK P (tabOf L) := by
  intro t ti h
  unfold tabOf at h
  rw [Option.map_eq_some_iff] at h
  obtain ⟨p, hp, rfl⟩ := h
  have hm := List.mem_of_find?_eq_some hp
  have ht : p.1 = t := by simpa using List.find?_some hp
  subst ht
  refine ⟨List.map_inj_left.1 h1 p hm, fun ks hk => ?_⟩
  have := List.all_eq_true.1 h2 p hm
  simp only [hk] at this
  exact plainEq_of this
def bodyOf (f : Func) : Code := match f.body with | some c => c | none => .skip
abbrev u : AV := .tup []
end
end Go.AM
