import Derived.Test.YtleddolmolkpfaaR4I1
set_option linter.unusedVariables false
set_option linter.unusedSimpArgs false
namespace Go.Proofs.Ytleddolmolkpfaa
open Go.AM
set_option linter.unusedVariables false
set_option linter.unusedSimpArgs false
variable {Γ : Glob}
/-! When a vat is right: lists, entities. -/
theorem all_false {α : Type} {l : List α} {p : α → Bool} {k : Nat} (hk : k < l.length) (h : p l[k] = false) : l.all p = false := by
  cases hh : l.all p
  · rfl
  · have := List.all_eq_true.1 hh l[k] (List.getElem_mem hk); rw [h] at this; cases this
theorem all_true {α : Type} {l : List α} {p : α → Bool} (h : ∀ (i : Nat) (hi : i < l.length), i < l.length → p l[i] = true) : l.all p = true :=
  List.all_eq_true.2 fun x hx => by obtain ⟨i, hi, rfl⟩ := List.getElem_of_mem hx; exact h i hi hi
theorem idx_any {α : Type} (p : α → Bool) (l : List α) : decide (0 ≤ idxI p l) = l.any p := by
  rcases idxI_cases p l with ⟨k, hk, e1, e2, e3⟩ | ⟨e1, e2, e3⟩
  · rw [e1]
    have h2 : l.any p = true := List.any_eq_true.2 ⟨_, List.mem_of_find?_eq_some e3, List.find?_some e3⟩
    rw [h2]; simp
  · rw [e1]
    have h2 : l.any p = false := by
      cases hh : l.any p
      · rfl
      · obtain ⟨x, hx, hp⟩ := List.any_eq_true.1 hh
        have := List.find?_eq_none.1 e2 x hx
        exact absurd hp this
    rw [h2]; rfl
theorem any_not {α : Type} (p : α → Bool) (l : List α) : (!l.any fun x => !p x) = l.all p := by
  induction l with
  | nil => rfl
  | cons x l ih => simp only [List.any_cons, List.all_cons, ← ih]; cases p x <;> simp
theorem contains_Value_T {g : FuncId} {caps : List AV} (hc : caps.all out1 = true) (hc2 : caps.all noLp1 = true) (p : DValue → Bool) (β : Bool) (l : List DValue) (hl : l.length ≤ 1048576) {h : AH} (hp : ∀ x ∈ l, T Try.prog Γ g ([] ++ ([.agg (x.c β)] ++ caps)) h fun v h' => v = .bool (p x) ∧ h' = h) :
    T Try.prog Γ Fn.slices_ContainsFunc_iimpl_Value_impl_Value [.vs β 2 false (l.map (DValue.c β)), .fn g [] caps] h fun v h' => v = .bool (l.any p) ∧ h' = h := by
  have hcall := indexFunc_D (P := Try.prog) (Γ := Γ) tabOK mixed (sz := 2) (agg := true) (fun hw => slices_IndexFunc_iimpl_Value_impl_Value_e hw) (β := β) (l := l) (c := DValue.c β) (by omega) (fun x => ⟨⟨rfl, .inl rfl⟩, rfl⟩) (g := g) (first := []) (caps := caps) hc p (h := h) hp
  refine slices_ContainsFunc_iimpl_Value_impl_Value_e (aw_sound tabOK mixed [] _ _ _ ?_)
  unfold slices_ContainsFunc_iimpl_Value_impl_Value_c
  simp only [EV, EL, EB, EF, q_bx, if_true, if_false, Bool.false_eq_true, Nat.reduceAdd, Option.bind_some, Bool.not_true, Bool.not_false, Nat.reduceBEq, slices_ContainsFunc_iimpl_Value_impl_Value_r]
  refine TCall.val (by simp only [EO, hc, hc2]) hcall ?_
  simp only [EV, EL, EB, EF, q_bx, if_true, if_false, Bool.false_eq_true, Nat.reduceAdd, Option.bind_some, Bool.not_true, Bool.not_false, Nat.reduceBEq, slices_ContainsFunc_iimpl_Value_impl_Value_r]
  rw [show decide (idxI p l ≥ 0) = l.any p from idx_any p l]
  first | exact ⟨rfl, rfl⟩ | exact rfl
theorem contains_Sent_T {g : FuncId} {caps : List AV} (hc : caps.all out1 = true) (hc2 : caps.all noLp1 = true) (p : DSent → Bool) (β : Bool) (l : List DSent) (hl : l.length ≤ 1048576) {h : AH} (hp : ∀ x ∈ l, T Try.prog Γ g ([] ++ ([.agg (x.c β)] ++ caps)) h fun v h' => v = .bool (p x) ∧ h' = h) :
    T Try.prog Γ Fn.slices_ContainsFunc_iimpl_Sent_impl_Sent [.vs β 7 false (l.map (DSent.c β)), .fn g [] caps] h fun v h' => v = .bool (l.any p) ∧ h' = h := by
  have hcall := indexFunc_D (P := Try.prog) (Γ := Γ) tabOK mixed (sz := 7) (agg := true) (fun hw => slices_IndexFunc_iimpl_Sent_impl_Sent_e hw) (β := β) (l := l) (c := DSent.c β) (by omega) (fun x => ⟨⟨rfl, .inl rfl⟩, rfl⟩) (g := g) (first := []) (caps := caps) hc p (h := h) hp
  refine slices_ContainsFunc_iimpl_Sent_impl_Sent_e (aw_sound tabOK mixed [] _ _ _ ?_)
  unfold slices_ContainsFunc_iimpl_Sent_impl_Sent_c
  simp only [EV, EL, EB, EF, q_bx, if_true, if_false, Bool.false_eq_true, Nat.reduceAdd, Option.bind_some, Bool.not_true, Bool.not_false, Nat.reduceBEq, slices_ContainsFunc_iimpl_Sent_impl_Sent_r]
  refine TCall.val (by simp only [EO, hc, hc2]) hcall ?_
  simp only [EV, EL, EB, EF, q_bx, if_true, if_false, Bool.false_eq_true, Nat.reduceAdd, Option.bind_some, Bool.not_true, Bool.not_false, Nat.reduceBEq, slices_ContainsFunc_iimpl_Sent_impl_Sent_r]
  rw [show decide (idxI p l ≥ 0) = l.any p from idx_any p l]
  first | exact ⟨rfl, rfl⟩ | exact rfl
theorem impl_AreValues_1_T (β : Bool) (x : DValue) (n : Nat) (hn : n ≤ 1048576) (H : AH) {k : Nat} (hk : hget H k = some (0, [.int .i64 n])) : T Try.prog Γ Fn.impl_AreValues_1 [.agg (x.c β), .gp k 0 0] H fun v h' => v = .bool (!valueF x n) ∧ h' = H := by
  have hc : ∀ (e : List AV) (l : List (List AV)) (off m : Nat), (St.mk e l H).cells (.gp k 0 off) m = sub [.int .i64 (n : Int)] off m := fun e l off m => cells_gp hk
  refine impl_AreValues_1_e (aw_sound tabOK mixed [] _ _ _ ?_)
  unfold impl_AreValues_1_c
  simp only [EV, EL, EB, EF, q_bx, if_true, if_false, Bool.false_eq_true, Nat.reduceAdd, Option.bind_some, Bool.not_true, Bool.not_false, Nat.reduceBEq, impl_AreValues_1_r, DValue.c, hc]
  refine TCall.val (by simp only [EO]) (impl_IsValue_T β x n hn _) ?_
  simp only [EV, EL, EB, EF, q_bx, if_true, if_false, Bool.false_eq_true, Nat.reduceAdd, Option.bind_some, Bool.not_true, Bool.not_false, Nat.reduceBEq, impl_AreValues_1_r]
  first | exact ⟨rfl, rfl⟩ | exact rfl
theorem impl_AreValues_T (β : Bool) (l : List DValue) (hl : l.length ≤ 1048576) (n : Nat) (hn : n ≤ 1048576) (h : AH) : T Try.prog Γ Fn.impl_AreValues [.vs β 2 false (l.map (DValue.c β)), .int .i64 n] h fun v h' => v = .bool (valuesF l n) ∧ h' = h := by
  refine (?_ : T Try.prog Γ Fn.impl_AreValues _ h fun v h' => v = .bool (valuesF l n) ∧ ∃ N, h' = h ++ N).drop (by rintro v h' ⟨rfl, N, rfl⟩; exact ⟨N, rfl, .bool _, rfl, rfl⟩)
  refine impl_AreValues_e (aw_sound tabOK mixed [3] _ _ _ ?_)
  unfold impl_AreValues_c
  simp only [EV, EL, EB, EF, q_bx, if_true, if_false, Bool.false_eq_true, Nat.reduceAdd, Option.bind_some, Bool.not_true, Bool.not_false, Nat.reduceBEq, impl_AreValues_r, box_g _ _ (show List.all [AV.int .i64 n] noLp = true from rfl), push_s]
  refine TCall.val (by simp only [EO]) (contains_Value_T (g := Fn.impl_AreValues_1) (caps := [.gp h.length 0 0]) rfl rfl (fun x => !valueF x n) β l hl (fun x hx => impl_AreValues_1_T β x n hn _ (hget_last _ _))) ?_
  simp only [EV, EL, EB, EF, q_bx, if_true, if_false, Bool.false_eq_true, Nat.reduceAdd, Option.bind_some, Bool.not_true, Bool.not_false, Nat.reduceBEq, impl_AreValues_r]
  exact ⟨rfl, by rw [any_not]; rfl, _, rfl⟩
theorem spec_AreValues_T (β : Bool) (l : List DValue) (hl : l.length ≤ 1048576) (n : Nat) (hn : n ≤ 1048576) (h : AH) : T Try.prog Γ Fn.spec_AreValues [.vs β 2 false (l.map (DValue.c β)), .int .i64 n] h fun v h' => v = .bool (valuesF l n) ∧ h' = h := by
  have L0 := len_vm β 2 false l (DValue.c β)
  refine spec_AreValues_e (aw_sound tabOK mixed [] _ _ _ ?_)
  unfold spec_AreValues_c
  simp only [EV, EL, EB, EF, q_bx, if_true, if_false, Bool.false_eq_true, Nat.reduceAdd, Option.bind_some, Bool.not_true, Bool.not_false, Nat.reduceBEq, spec_AreValues_r, L0]
  refine loopI tabOK mixed [] (fun k : Nat => k ≤ l.length ∧ ∀ (i : Nat) (hi : i < l.length), i < k → valueF l[i] n = true) (fun k => l.length - k)
    (fun k => spec_AreValues_s0 (.vs β 2 false (l.map (DValue.c β))) (.int .i64 n) (.int .i64 k) [] h) 0 ⟨by omega, fun i hi h => by omega⟩ ⟨by simp [spec_AreValues_s0, LeL, LeV], rfl, rfl⟩ ?_
  rintro k ⟨hk, ht⟩
  simp only [EV, EL, EB, EF, q_bx, if_true, if_false, Bool.false_eq_true, Nat.reduceAdd, Option.bind_some, Bool.not_true, Bool.not_false, Nat.reduceBEq, spec_AreValues_r, spec_AreValues_s0, L0]
  refine c_split (fun hlt => ?_) (fun hge => ?_)
  rotate_left
  · have hge : k = l.length := by simp at hge; omega
    subst hge
    simp only [EV, EL, EB, EF, q_bx, if_true, if_false, Bool.false_eq_true, Nat.reduceAdd, Option.bind_some, Bool.not_true, Bool.not_false, Nat.reduceBEq, spec_AreValues_r]
    have := all_true (p := fun x => valueF x n) ht
    first | exact ⟨rfl, by rw [valuesF, this]⟩ | rw [valuesF, this]
  have hlt : k < l.length := by simpa using hlt
  have i0 := idx_vm (β := β) (sz := 2) (ex := false) (ce := DValue.c β) hlt
  simp only [EV, EL, EB, EF, q_bx, if_true, if_false, Bool.false_eq_true, Nat.reduceAdd, Option.bind_some, Bool.not_true, Bool.not_false, Nat.reduceBEq, spec_AreValues_r, i0, DValue.c]
  refine TCall.val (by simp only [EO]) (spec_IsValue_T β l[k] n hn _) ?_
  cases hp : valueF l[k] n
  · simp only [EV, EL, EB, EF, q_bx, if_true, if_false, Bool.false_eq_true, Nat.reduceAdd, Option.bind_some, Bool.not_true, Bool.not_false, Nat.reduceBEq, spec_AreValues_r]
    have := all_false (p := fun x => valueF x n) hlt hp
    first | exact ⟨rfl, by rw [valuesF, this]⟩ | rw [valuesF, this]
  · simp only [EV, EL, EB, EF, q_bx, if_true, if_false, Bool.false_eq_true, Nat.reduceAdd, Option.bind_some, Bool.not_true, Bool.not_false, Nat.reduceBEq, spec_AreValues_r]
    exact ⟨k + 1, ⟨hlt, fun i hi hik => by
      rcases Nat.lt_or_ge i k with g | g
      · exact ht i hi g
      · have : i = k := by omega
        subst this; exact hp⟩, by omega, ⟨by rw [wN (by omega)]; simp [spec_AreValues_s0, LeL, LeV], rfl, rfl⟩⟩
theorem spec_l29Sents_T (β : Bool) (l : List DSent) (hl : l.length ≤ 1048576) (n : Nat) (hn : n ≤ 1048576) (h : AH) : T Try.prog Γ Fn.spec_l29Sents [.vs β 7 false (l.map (DSent.c β)), .int .i64 n] h fun v h' => v = .bool (sentsF l n) ∧ h' = h := by
  have L0 := len_vm β 7 false l (DSent.c β)
  refine spec_l29Sents_e (aw_sound tabOK mixed [] _ _ _ ?_)
  unfold spec_l29Sents_c
  simp only [EV, EL, EB, EF, q_bx, if_true, if_false, Bool.false_eq_true, Nat.reduceAdd, Option.bind_some, Bool.not_true, Bool.not_false, Nat.reduceBEq, spec_l29Sents_r, L0]
  refine loopI tabOK mixed [] (fun k : Nat => k ≤ l.length ∧ ∀ (i : Nat) (hi : i < l.length), i < k → (entI l[i].target n && entI l[i].result n) = true) (fun k => l.length - k)
    (fun k => spec_l29Sents_s0 (.vs β 7 false (l.map (DSent.c β))) (.int .i64 n) (.int .i64 k) [] h) 0 ⟨by omega, fun i hi h => by omega⟩ ⟨by simp [spec_l29Sents_s0, LeL, LeV], rfl, rfl⟩ ?_
  rintro k ⟨hk, ht⟩
  simp only [EV, EL, EB, EF, q_bx, if_true, if_false, Bool.false_eq_true, Nat.reduceAdd, Option.bind_some, Bool.not_true, Bool.not_false, Nat.reduceBEq, spec_l29Sents_r, spec_l29Sents_s0, L0]
  refine c_split (fun hlt => ?_) (fun hge => ?_)
  rotate_left
  · have hge : k = l.length := by simp at hge; omega
    subst hge
    simp only [EV, EL, EB, EF, q_bx, if_true, if_false, Bool.false_eq_true, Nat.reduceAdd, Option.bind_some, Bool.not_true, Bool.not_false, Nat.reduceBEq, spec_l29Sents_r]
    have := all_true (p := fun s : DSent => entI s.target n && entI s.result n) ht
    first | exact ⟨rfl, by rw [sentsF, this]⟩ | rw [sentsF, this]
  have hlt : k < l.length := by simpa using hlt
  have i0 := idx_vm (β := β) (sz := 7) (ex := false) (ce := DSent.c β) hlt
  simp only [EV, EL, EB, EF, q_bx, if_true, if_false, Bool.false_eq_true, Nat.reduceAdd, Option.bind_some, Bool.not_true, Bool.not_false, Nat.reduceBEq, spec_l29Sents_r, i0, DSent.c]
  refine TCall.val (by simp only [EO]) (spec_l1In_T _ _ _ _) ?_
  rw [inR_ent _ hn]
  cases h1 : entI l[k].target n
  · simp only [EV, EL, EB, EF, q_bx, if_true, if_false, Bool.false_eq_true, Nat.reduceAdd, Option.bind_some, Bool.not_true, Bool.not_false, Nat.reduceBEq, spec_l29Sents_r]
    have := all_false (p := fun s : DSent => entI s.target n && entI s.result n) hlt (by simp [h1])
    first | exact ⟨rfl, by rw [sentsF, this]⟩ | rw [sentsF, this]
  simp only [EV, EL, EB, EF, q_bx, if_true, if_false, Bool.false_eq_true, Nat.reduceAdd, Option.bind_some, Bool.not_true, Bool.not_false, Nat.reduceBEq, spec_l29Sents_r, i0, DSent.c]
  refine TCall.val (by simp only [EO]) (spec_l1In_T _ _ _ _) ?_
  rw [inR_ent _ hn]
  cases h2 : entI l[k].result n
  · simp only [EV, EL, EB, EF, q_bx, if_true, if_false, Bool.false_eq_true, Nat.reduceAdd, Option.bind_some, Bool.not_true, Bool.not_false, Nat.reduceBEq, spec_l29Sents_r]
    have := all_false (p := fun s : DSent => entI s.target n && entI s.result n) hlt (by simp [h2])
    first | exact ⟨rfl, by rw [sentsF, this]⟩ | rw [sentsF, this]
  have hp : (entI l[k].target n && entI l[k].result n) = true := by rw [h1, h2]; rfl
  simp only [EV, EL, EB, EF, q_bx, if_true, if_false, Bool.false_eq_true, Nat.reduceAdd, Option.bind_some, Bool.not_true, Bool.not_false, Nat.reduceBEq, spec_l29Sents_r]
  exact ⟨k + 1, ⟨hlt, fun i hi hik => by
    rcases Nat.lt_or_ge i k with g | g
    · exact ht i hi g
    · have : i = k := by omega
      subst this; exact hp⟩, by omega, ⟨by rw [wN (by omega)]; simp [spec_l29Sents_s0, LeL, LeV], rfl, rfl⟩⟩
def entriesF (l : List DQuestion) (n : Nat) : Bool := l.all fun q => entI q.promise n && inR q.id 1 999999
theorem spec_l29Entries_T (β : Bool) (l : List DQuestion) (hl : l.length ≤ 1048576) (n : Nat) (hn : n ≤ 1048576) (h : AH) : T Try.prog Γ Fn.spec_l29Entries [.vs β 2 false (l.map (DQuestion.c β)), .int .i64 n] h fun v h' => v = .bool (entriesF l n) ∧ h' = h := by
  have L0 := len_vm β 2 false l (DQuestion.c β)
  refine spec_l29Entries_e (aw_sound tabOK mixed [] _ _ _ ?_)
  unfold spec_l29Entries_c
  simp only [EV, EL, EB, EF, q_bx, if_true, if_false, Bool.false_eq_true, Nat.reduceAdd, Option.bind_some, Bool.not_true, Bool.not_false, Nat.reduceBEq, spec_l29Entries_r, L0]
  refine loopI tabOK mixed [] (fun k : Nat => k ≤ l.length ∧ ∀ (i : Nat) (hi : i < l.length), i < k → (entI l[i].promise n && inR l[i].id 1 999999) = true) (fun k => l.length - k)
    (fun k => spec_l29Entries_s0 (.vs β 2 false (l.map (DQuestion.c β))) (.int .i64 n) (.int .i64 k) [] h) 0 ⟨by omega, fun i hi h => by omega⟩ ⟨by simp [spec_l29Entries_s0, LeL, LeV], rfl, rfl⟩ ?_
  rintro k ⟨hk, ht⟩
  simp only [EV, EL, EB, EF, q_bx, if_true, if_false, Bool.false_eq_true, Nat.reduceAdd, Option.bind_some, Bool.not_true, Bool.not_false, Nat.reduceBEq, spec_l29Entries_r, spec_l29Entries_s0, L0]
  refine c_split (fun hlt => ?_) (fun hge => ?_)
  rotate_left
  · have hge : k = l.length := by simp at hge; omega
    subst hge
    simp only [EV, EL, EB, EF, q_bx, if_true, if_false, Bool.false_eq_true, Nat.reduceAdd, Option.bind_some, Bool.not_true, Bool.not_false, Nat.reduceBEq, spec_l29Entries_r]
    have := all_true (p := fun s : DQuestion => entI s.promise n && inR s.id 1 999999) ht
    first | exact ⟨rfl, by rw [entriesF, this]⟩ | rw [entriesF, this]
  have hlt : k < l.length := by simpa using hlt
  have i0 := idx_vm (β := β) (sz := 2) (ex := false) (ce := DQuestion.c β) hlt
  simp only [EV, EL, EB, EF, q_bx, if_true, if_false, Bool.false_eq_true, Nat.reduceAdd, Option.bind_some, Bool.not_true, Bool.not_false, Nat.reduceBEq, spec_l29Entries_r, i0, DQuestion.c]
  refine TCall.val (by simp only [EO]) (spec_l1In_T _ _ _ _) ?_
  rw [inR_ent _ hn]
  cases h1 : entI l[k].promise n
  · simp only [EV, EL, EB, EF, q_bx, if_true, if_false, Bool.false_eq_true, Nat.reduceAdd, Option.bind_some, Bool.not_true, Bool.not_false, Nat.reduceBEq, spec_l29Entries_r]
    have := all_false (p := fun s : DQuestion => entI s.promise n && inR s.id 1 999999) hlt (by simp [h1])
    first | exact ⟨rfl, by rw [entriesF, this]⟩ | rw [entriesF, this]
  simp only [EV, EL, EB, EF, q_bx, if_true, if_false, Bool.false_eq_true, Nat.reduceAdd, Option.bind_some, Bool.not_true, Bool.not_false, Nat.reduceBEq, spec_l29Entries_r, i0, DQuestion.c]
  refine TCall.val (by simp only [EO]) (spec_l1In_T _ _ _ _) ?_
  cases h2 : inR l[k].id 1 999999
  · simp only [EV, EL, EB, EF, q_bx, if_true, if_false, Bool.false_eq_true, Nat.reduceAdd, Option.bind_some, Bool.not_true, Bool.not_false, Nat.reduceBEq, spec_l29Entries_r]
    have := all_false (p := fun s : DQuestion => entI s.promise n && inR s.id 1 999999) hlt (by simp [h2])
    first | exact ⟨rfl, by rw [entriesF, this]⟩ | rw [entriesF, this]
  have hp : (entI l[k].promise n && inR l[k].id 1 999999) = true := by rw [h1, h2]; rfl
  simp only [EV, EL, EB, EF, q_bx, if_true, if_false, Bool.false_eq_true, Nat.reduceAdd, Option.bind_some, Bool.not_true, Bool.not_false, Nat.reduceBEq, spec_l29Entries_r]
  exact ⟨k + 1, ⟨hlt, fun i hi hik => by
    rcases Nat.lt_or_ge i k with g | g
    · exact ht i hi g
    · have : i = k := by omega
      subst this; exact hp⟩, by omega, ⟨by rw [wN (by omega)]; simp [spec_l29Entries_s0, LeL, LeV], rfl, rfl⟩⟩
theorem cells_n1 {p : AV} (h : noLp1 p = true) : cellsOf p = some [p] ∧ List.all [p] noLp = true := by
  cases p <;> simp_all [noLp1, cellsOf, noLp]
/-- Is an entity there? -/
theorem impl_entity_B (β : Bool) (v : DVat) (hv : v.entities.length ≤ 1048576) (x : Int) (H : AH) {p : AV} (hp : Ptr H p (v.c β)) :
    T Try.prog Γ Fn.impl_Vat_entity [p, .int .i64 x] H fun r h' => (aBin .eql .nilp r .nilp = some (.bool (!entI x v.entities.length)) ∧ out1 r = true) ∧ h' = H := by
  refine (impl_Vat_entity_T (Γ := Γ) β v hv x H hp).mono ?_
  rintro r h' ⟨⟨k, hk, rfl, rfl⟩ | ⟨ho, rfl⟩, rfl⟩
  · refine ⟨⟨?_, rfl⟩, rfl⟩
    have : entI (k : Int) v.entities.length = true := by simp [entI]; omega
    rw [this]; exact pe_ip _ _
  · refine ⟨⟨?_, rfl⟩, rfl⟩
    have : entI x v.entities.length = false := by
      cases hh : entI x v.entities.length
      · rfl
      · simp only [entI, Bool.and_eq_true, decide_eq_true_eq] at hh
        have := ho x.toNat (by omega)
        omega
    rw [this]; exact pe_nn
theorem impl_sentsOk_1_T (β β' : Bool) (v : DVat) (hv : v.entities.length ≤ 1048576) (s : DSent) (H : AH) {p : AV} (hp : Ptr H p (v.c β)) {k : Nat} (hk : hget H k = some (0, [p])) : T Try.prog Γ Fn.impl_Vat_sentsOk_1 [.agg (s.c β'), .gp k 0 0] H fun r h' => r = .bool (!(entI s.target v.entities.length && entI s.result v.entities.length)) ∧ h' = H := by
  have hc : ∀ (e : List AV) (l : List (List AV)) (off m : Nat), (St.mk e l H).cells (.gp k 0 off) m = sub [p] off m := fun e l off m => cells_gp hk
  refine impl_Vat_sentsOk_1_e (aw_sound tabOK mixed [] _ _ _ ?_)
  unfold impl_Vat_sentsOk_1_c
  simp only [EV, EL, EB, EF, q_bx, if_true, if_false, Bool.false_eq_true, Nat.reduceAdd, Option.bind_some, Bool.not_true, Bool.not_false, Nat.reduceBEq, impl_Vat_sentsOk_1_r, DSent.c, hc]
  refine TCall.ref (by simp only [EO, hp.out]) (impl_entity_B β v hv s.target _ hp) ?_
  rintro r H1 ⟨⟨er, ro⟩, e⟩
  replace e : H1 = H := e
  subst e
  cases h1 : entI s.target v.entities.length
  · rw [h1] at er
    simp only [EV, EL, EB, EF, q_bx, if_true, if_false, Bool.false_eq_true, Nat.reduceAdd, Option.bind_some, Bool.not_true, Bool.not_false, Nat.reduceBEq, impl_Vat_sentsOk_1_r, er]
    first | exact ⟨rfl, rfl⟩ | exact rfl
  rw [h1] at er
  simp only [EV, EL, EB, EF, q_bx, if_true, if_false, Bool.false_eq_true, Nat.reduceAdd, Option.bind_some, Bool.not_true, Bool.not_false, Nat.reduceBEq, impl_Vat_sentsOk_1_r, er, hc]
  refine TCall.ref (by simp only [EO, hp.out]) (impl_entity_B β v hv s.result _ hp) ?_
  rintro r2 H2 ⟨⟨er2, ro2⟩, e⟩
  replace e : H2 = H1 := e
  subst e
  simp only [EV, EL, EB, EF, q_bx, if_true, if_false, Bool.false_eq_true, Nat.reduceAdd, Option.bind_some, Bool.not_true, Bool.not_false, Nat.reduceBEq, impl_Vat_sentsOk_1_r, er2]
  first | exact ⟨rfl, rfl⟩ | exact rfl
theorem impl_sentsOk_T (β β' : Bool) (v : DVat) (hv : v.entities.length ≤ 1048576) (l : List DSent) (hl : l.length ≤ 1048576) (H : AH) {p : AV} (hp : Ptr H p (v.c β)) : T Try.prog Γ Fn.impl_Vat_sentsOk [p, .vs β' 7 false (l.map (DSent.c β'))] H fun r h' => r = .bool (sentsF l v.entities.length) ∧ h' = H := by
  refine (?_ : T Try.prog Γ Fn.impl_Vat_sentsOk _ H fun r h' => r = .bool (sentsF l v.entities.length) ∧ ∃ N, h' = H ++ N).drop (by rintro v h' ⟨rfl, N, rfl⟩; exact ⟨N, rfl, .bool _, rfl, rfl⟩)
  have hpc := cells_n1 hp.n1
  refine impl_Vat_sentsOk_e (aw_sound tabOK mixed [2] _ _ _ ?_)
  unfold impl_Vat_sentsOk_c
  simp only [EV, EL, EB, EF, q_bx, if_true, if_false, Bool.false_eq_true, Nat.reduceAdd, Option.bind_some, Bool.not_true, Bool.not_false, Nat.reduceBEq, impl_Vat_sentsOk_r, p_box, hpc.1, box_g _ _ hpc.2, push_s]
  refine TCall.val (by simp only [EO]) (contains_Sent_T (g := Fn.impl_Vat_sentsOk_1) (caps := [.gp H.length 0 0]) rfl rfl (fun s => !(entI s.target v.entities.length && entI s.result v.entities.length)) β' l hl (fun x hx => impl_sentsOk_1_T β β' v hv x _ (hp.grow _) (hget_last _ _))) ?_
  simp only [EV, EL, EB, EF, q_bx, if_true, if_false, Bool.false_eq_true, Nat.reduceAdd, Option.bind_some, Bool.not_true, Bool.not_false, Nat.reduceBEq, impl_Vat_sentsOk_r]
  exact ⟨rfl, by rw [any_not]; rfl, _, rfl⟩

end Go.Proofs.Ytleddolmolkpfaa
