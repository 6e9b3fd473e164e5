import Derived.Test.YtleddolmolkpfaaGreatAmStep3
set_option linter.unusedVariables false
set_option linter.unusedSimpArgs false
/-! Each instruction against the model's operation: cuts, conversions, parts. -/
namespace Go.AM
section
variable {P : Program} {Γ : Glob} {ρ : Inj} {ls : List Nat} {s : St} {a : Act} {w : World}

/-- A bound as it is written, and its number. -/
def OB : Option Value → Option Nat → Prop
  | none, none => True
  | some v, some n => ∃ k i, v = .int k i ∧ 0 ≤ i ∧ n = i.toNat
  | _, _ => False

theorem run_sliceBound {k : IntKind} {i : Int} {y : Nat} {code : BoundsCode} (h0 : 0 ≤ i) (h1 : i.toNat ≤ y) : (Instr.sliceBound (.int k i) y code).run P w = .ok i.toNat w := by
  have : 0 ≤ i ∧ i ≤ y := ⟨h0, by omega⟩
  simp [Instr.sliceBound, asIntOf, this]

theorem run_sliceBounds {isSl : Bool} {len cap : Nat} {lo hi mx : Option Value} {l h m : Option Nat} (ol : OB lo l) (oh : OB hi h) (om : OB mx m) (hm : (h.isNone && m.isSome) = false)
    (h1 : l.getD 0 ≤ h.getD len) (h2 : h.getD len ≤ m.getD cap) (h3 : m.getD cap ≤ cap) :
    (Instr.sliceBounds isSl len cap lo hi mx).run P w = .ok (l.getD 0, h.getD len, m.getD cap) w := by
  have e1 : ∀ {code}, (match mx with | some v => Instr.sliceBound v cap code | none => pure cap : Sem Nat).run P w = .ok (m.getD cap) w := by
    intro code
    cases mx <;> cases m <;> simp [OB] at om
    · rfl
    · obtain ⟨k, i, rfl, h0, rfl⟩ := om
      simp at h3
      exact run_sliceBound h0 (by omega)
  cases mx with
  | none =>
    cases m with
    | some _ => simp [OB] at om
    | none =>
      simp only [Option.getD_none] at *
      cases hi <;> cases h <;> simp [OB] at oh
      · cases lo <;> cases l <;> simp [OB] at ol
        · simp [Instr.sliceBounds]
        · obtain ⟨k, i, rfl, h0, rfl⟩ := ol
          simp at h1
          simp [Instr.sliceBounds, run_sliceBound h0 (show i.toNat ≤ len by omega)]
      · obtain ⟨k', i', rfl, h0', rfl⟩ := oh
        simp at h1 h2
        cases lo <;> cases l <;> simp [OB] at ol
        · simp [Instr.sliceBounds, run_sliceBound h0' (show i'.toNat ≤ cap by omega)]
        · obtain ⟨k, i, rfl, h0, rfl⟩ := ol
          simp at h1
          simp [Instr.sliceBounds, run_sliceBound h0' (show i'.toNat ≤ cap by omega), run_sliceBound h0 (show i.toNat ≤ i'.toNat by omega)]
  | some v =>
    cases m with
    | none => simp [OB] at om
    | some m =>
      obtain ⟨k'', i'', rfl, h0'', rfl⟩ := om
      cases hi <;> cases h <;> simp [OB] at oh
      · simp at hm
      · obtain ⟨k', i', rfl, h0', rfl⟩ := oh
        simp at h1 h2 h3
        cases lo <;> cases l <;> simp [OB] at ol
        · simp [Instr.sliceBounds, run_sliceBound h0'' (show i''.toNat ≤ cap by omega), run_sliceBound h0' (show i'.toNat ≤ i''.toNat by omega)]
        · obtain ⟨k, i, rfl, h0, rfl⟩ := ol
          simp at h1
          simp [Instr.sliceBounds, run_sliceBound h0'' (show i''.toNat ≤ cap by omega), run_sliceBound h0' (show i'.toNat ≤ i''.toNat by omega), run_sliceBound h0 (show i.toNat ≤ i'.toNat by omega)]

theorem bnd_OB (rel : Rel Γ ρ ls s a w) {lo : Option Operand} {d n : Nat} (h : bnd Γ s d (lo.map trX) = some n) :
    OB (lo.map a.eval) (if lo.isSome then some n else none) ∧ (lo = none → n = d) := by
  cases lo with
  | none => simp [bnd] at h; exact ⟨trivial, fun _ => h.symm⟩
  | some x =>
    refine ⟨?_, by simp⟩
    simp only [Option.map_some, bnd] at h
    have r := eval_sound rel x
    cases hx : s.eval Γ (trX x) <;> simp only [hx, asI] at h <;> (try (simp at h; done))
    rename_i k i
    simp only [Option.bind_some] at h
    split at h
    · rename_i h0
      injection h with h
      rw [hx] at r
      simp only [Option.map_some, Option.isSome_some, if_true, OB]
      cases hv : a.eval x <;> rw [hv] at r <;> cases r
      exact ⟨_, _, rfl, h0, h.symm⟩
    · cases h

theorem skOf_spec {Θ : Tab} (tab : TabOK P Θ) {t : TypeId} {k : SK} (h : skOf Θ t = some k) :
    match k with
    | .str => P.underlying t = some .string
    | .sl sz => ∃ e ei, P.underlying t = some (.slice e) ∧ TF P e ei ∧ ei.size = sz := by
  unfold skOf at h
  cases ht : Θ t with
  | none => simp [ht] at h
  | some ti =>
    simp only [ht, Option.bind_some] at h
    split at h
    · rename_i hk; injection h with h; subst h; exact (tab.tf ht).kd_str hk
    · rename_i e hk
      cases he : Θ e with
      | none => simp [he] at h
      | some ei =>
        simp [he] at h
        subst h
        exact ⟨e, ei, (tab.tf ht).kd_slice hk, tab.tf he, rfl⟩
    · cases h

theorem slice_ok {Θ : Tab} (tab : TabOK P Θ) {t : TypeId} {k : SK} (hk : skOf Θ t = some k) {x : AV} {xv : Value} (r : RV ρ ls x xv) {lo hi mx : Option Value} {l h m : Option Nat}
    (ol : OB lo l) (oh : OB hi h) (om : OB mx m) {v : AV} (hv : aSlice k x (l.getD 0) h m = some v) :
    ∃ cv, (Instr.sliceAt t xv lo hi mx).run P w = .ok cv w ∧ RV ρ ls v cv := by
  have hs := skOf_spec tab hk
  unfold aSlice at hv
  split at hv
  · cases hv
  · rename_i hm0
    have hm : (h.isNone && m.isSome) = false := by simpa using hm0
    cases k with
    | str =>
      cases r with
      | str _ sb =>
        simp only at hv
        split at hv
        · rename_i hmn
          split at hv
          · rename_i hle
            injection hv with hv
            subst hv
            have hmn' : m = none := by simpa using hmn
            subst hmn'
            have : mx = none := by cases mx with
              | none => rfl
              | some v => simp [OB] at om
            subst this
            have hb := run_sliceBounds (P := P) (w := w) (isSl := false) (len := sb.size) (cap := sb.size) (m := none) (mx := none) ol oh trivial (by simp) hle.1 hle.2 (by simp)
            simp only [Option.getD_none] at hb
            exact ⟨.string (sb.extract (l.getD 0) (h.getD sb.size)), by simp [Instr.sliceAt, Instr.slice, run_underl hs, hb], .str _ _⟩
          · cases hv
        · cases hv
      | _ => simp at hv
    | sl sz =>
      obtain ⟨e, ei, hu, he, hsz⟩ := hs
      subst hsz
      cases r with
      | nils =>
        simp only at hv
        split at hv
        · rename_i hz
          injection hv with hv
          subst hv
          have hb := run_sliceBounds (P := P) (w := w) (isSl := true) (len := 0) (cap := 0) ol oh om hm (by omega) (by omega) (by omega)
          refine ⟨.slice none 0 0, ?_, .nils _⟩
          simp [Instr.sliceAt, Instr.slice, run_underl hu, hb, hz, run_size' he]
        · cases hv
      | vs _ β sz' ex xs c o cap' f h1 h2 h3 h4 r =>
        simp only at hv
        split at hv
        · rename_i hszz
          split at hv
          · rename_i hle
            have hm1 : m.getD cap' ≤ cap' ∧ h.getD xs.length ≤ m.getD cap' ∧ v = .vs β ei.size (if m.isSome then true else (ex && h.getD xs.length == xs.length)) ((xs.take (h.getD xs.length)).drop (l.getD 0)) ∧ (∀ m', m = some m' → m' = h.getD xs.length) := by
              cases m with
              | none => injection hv with hv; exact ⟨by simp, by simp; omega, by simp [← hv], by simp⟩
              | some m' =>
                simp only at hv
                split at hv
                · rename_i hmm
                  injection hv with hv
                  exact ⟨by simp; omega, by simp; omega, by simp [← hv], by simpa using hmm⟩
                · cases hv
            obtain ⟨hm1, hm2, rfl, hm3⟩ := hm1
            have hb := run_sliceBounds (P := P) (w := w) (isSl := true) (len := xs.length) (cap := cap') ol oh om hm hle.1 hm2 hm1
            have run : (Instr.sliceAt t (.slice (some ⟨c, o, none⟩) xs.length cap') lo hi mx).run P w = .ok (.slice (if m.getD cap' = l.getD 0 then some ⟨c, o, none⟩ else some ⟨c, o + l.getD 0 * ei.size, none⟩) (h.getD xs.length - l.getD 0) (m.getD cap' - l.getD 0)) w := by
              simp [Instr.sliceAt, Instr.slice, run_underl hu, hb, run_size' he, addr_add]
            have hexact : (if m.isSome then true else (ex && h.getD xs.length == xs.length)) = true → m.getD cap' - l.getD 0 = h.getD xs.length - l.getD 0 := by
              intro hx
              cases m with
              | none =>
                simp at hx
                have := h2 hx.1
                simp; omega
              | some m' => have := hm3 m' rfl; simp; omega
            have hlen : ((xs.take (h.getD xs.length)).drop (l.getD 0)).length = h.getD xs.length - l.getD 0 := by simp; omega
            refine ⟨_, run, ?_⟩
            by_cases hml : m.getD cap' = l.getD 0
            · rw [if_pos hml]
              have hnil : (xs.take (h.getD xs.length)).drop (l.getD 0) = [] := List.eq_nil_of_length_eq_zero (by rw [hlen]; omega)
              rw [hnil, show h.getD xs.length - l.getD 0 = 0 by omega]
              exact .vs0 _ _ _ _ _ _ (fun _ => by omega)
            · rw [if_neg hml]
              have hget : ∀ (i : Nat) (y : List AV), ((xs.take (h.getD xs.length)).drop (l.getD 0))[i]? = some y → xs[l.getD 0 + i]? = some y := by
                intro i y hy
                rw [List.getElem?_drop, List.getElem?_take] at hy
                split at hy
                · exact hy
                · cases hy
              have hle2 : h.getD xs.length - l.getD 0 ≤ m.getD cap' - l.getD 0 := by omega
              rw [← hlen] at hle2 hexact ⊢
              refine RV.vs ls β ei.size _ _ c (o + l.getD 0 * ei.size) (m.getD cap' - l.getD 0) (fun i j => f (l.getD 0 + i) j) hle2 hexact (fun i y hy => ?_) (fun i y hy j x hx => ?_) (fun i y hy j x hx => r _ y (hget i y hy) j x hx)
              · rw [hszz]; exact h3 _ y (hget i y hy)
              · obtain ⟨arr, e1, e2⟩ := h4 _ y (hget i y hy) j x hx
                refine ⟨arr, e1, ?_⟩
                rw [← e2, hszz]; congr 1; rw [Nat.add_mul]; omega
          · cases hv
        · cases hv
      | vs0 _ β sz' ex ad cap' h2 =>
        simp only at hv
        split at hv
        · split at hv
          · rename_i hle
            simp only [List.length_nil] at hle
            have hm1 : m.getD cap' ≤ cap' ∧ h.getD 0 ≤ m.getD cap' ∧ ∃ ex', v = .vs β ei.size ex' [] ∧ (ex' = true → m.getD cap' - l.getD 0 = 0) := by
              cases m with
              | none =>
                injection hv with hv
                refine ⟨by simp, by omega, (ex && h.getD 0 == 0), by rw [← hv]; simp, fun hx => ?_⟩
                simp at hx
                have := h2 hx.1
                simp; omega
              | some m' =>
                simp only at hv
                split at hv
                · rename_i hmm
                  injection hv with hv
                  simp at hmm
                  exact ⟨by simp; omega, by simp; omega, true, by simp [← hv], fun _ => by simp; omega⟩
                · cases hv
            obtain ⟨hm1, hm2, ex', rfl, hx⟩ := hm1
            have hb := run_sliceBounds (P := P) (w := w) (isSl := true) (len := 0) (cap := cap') ol oh om hm (by omega) hm2 hm1
            have run : (Instr.sliceAt t (.slice (some ad) 0 cap') lo hi mx).run P w = .ok (.slice (some (if m.getD cap' = l.getD 0 then ad else ad.add (l.getD 0 * ei.size))) 0 (m.getD cap' - l.getD 0)) w := by
              simp [Instr.sliceAt, Instr.slice, run_underl hu, hb, run_size' he]
              refine ⟨by split <;> rfl, by omega⟩
            exact ⟨_, run, .vs0 _ _ _ _ _ _ hx⟩
          · cases hv
        · cases hv
      | vsn _ β sz' ex =>
        simp only at hv
        split at hv
        · split at hv
          · rename_i hle
            simp only [List.length_nil] at hle
            have hm1 : h.getD 0 = 0 ∧ m.getD 0 = 0 ∧ ∃ ex', v = .vs β ei.size ex' [] := by
              cases m with
              | none =>
                injection hv with hv
                exact ⟨by omega, by simp, (ex && h.getD 0 == 0), by rw [← hv]; simp⟩
              | some m' =>
                simp only at hv
                split at hv
                · rename_i hmm
                  injection hv with hv
                  simp at hmm
                  exact ⟨by omega, by simp; omega, true, by simp [← hv]⟩
                · cases hv
            obtain ⟨hh0, hm0, ex', rfl⟩ := hm1
            have hb := run_sliceBounds (P := P) (w := w) (isSl := true) (len := 0) (cap := 0) ol oh om hm (by omega) (by omega) (by omega)
            have hl0 : l.getD 0 = 0 := by omega
            refine ⟨.slice none 0 0, ?_, .vsn _ _ _ _⟩
            simp [Instr.sliceAt, Instr.slice, run_underl hu, hb, hl0, hh0, hm0, run_size' he]
          · cases hv
        · cases hv
      | gs _ b g off len cap sz' ex c o n cap' hm0 h1 h2 h3 h4 =>
        simp only at hv
        split at hv
        · rename_i hszz
          subst hszz
          split at hv
          · rename_i hle
            injection hv with hv
            subst hv
            have hm1 : m.getD cap' ≤ cap' ∧ h.getD len ≤ m.getD cap' ∧ m.getD cap ≤ m.getD cap' ∧ ((ex || m.isSome) = true → m.getD cap' = m.getD cap) := by
              cases m with
              | none => simp at hle ⊢; exact ⟨by omega, by omega, h3⟩
              | some m' => simp at hle ⊢; omega
            have hb := run_sliceBounds (P := P) (w := w) (isSl := true) (len := len) (cap := cap') ol oh om hm hle.1 hm1.2.1 hm1.1
            have run : (Instr.sliceAt t (.slice (some ⟨c, o + off, none⟩) len cap') lo hi mx).run P w = .ok (.slice (if m.getD cap' = l.getD 0 then some ⟨c, o + off, none⟩ else some ⟨c, o + (off + l.getD 0 * ei.size), none⟩) (h.getD len - l.getD 0) (m.getD cap' - l.getD 0)) w := by
              simp [Instr.sliceAt, Instr.slice, run_underl hu, hb, run_size' he, addr_add, Nat.add_assoc]
            refine ⟨_, run, ?_⟩
            by_cases hml : m.getD cap' = l.getD 0
            · rw [if_pos hml]
              rw [show h.getD len - l.getD 0 = 0 by omega, show m.getD cap' - l.getD 0 = 0 by omega, show m.getD cap - l.getD 0 = 0 by omega]
              exact .gs0 _ _ _ _ _ _ _ _ _ _ hm0
            · rw [if_neg hml]
              refine .gs _ _ _ _ _ _ _ _ _ _ _ _ hm0 (by omega) (by omega) (fun hx => by rw [hm1.2.2.2 hx]) ?_
              have : l.getD 0 * ei.size + (m.getD cap' - l.getD 0) * ei.size ≤ cap' * ei.size := by
                rw [← Nat.add_mul]; exact Nat.mul_le_mul_right _ (by omega)
              omega
          · cases hv
        · cases hv
      | gs0 _ b g off sz' ex c o n ad hm0 =>
        simp only at hv
        split at hv
        · split at hv
          · rename_i hle
            injection hv with hv
            subst hv
            have hm1 : m.getD 0 = 0 := by omega
            have hb := run_sliceBounds (P := P) (w := w) (isSl := true) (len := 0) (cap := 0) ol oh om hm hle.1 hle.2.1 hle.2.2
            have run : (Instr.sliceAt t (.slice (some ad) 0 0) lo hi mx).run P w = .ok (.slice (some (if m.getD 0 = l.getD 0 then ad else ad.add (l.getD 0 * ei.size))) 0 0) w := by
              simp [Instr.sliceAt, Instr.slice, run_underl hu, hb, run_size' he]
              refine ⟨by split <;> rfl, by omega, by omega⟩
            rw [show h.getD 0 - l.getD 0 = 0 by omega, show m.getD 0 - l.getD 0 = 0 by omega]
            exact ⟨_, run, .gs0 _ _ _ _ _ _ _ _ _ _ hm0⟩
          · cases hv
        · cases hv
      | _ => simp at hv

end
end Go.AM
