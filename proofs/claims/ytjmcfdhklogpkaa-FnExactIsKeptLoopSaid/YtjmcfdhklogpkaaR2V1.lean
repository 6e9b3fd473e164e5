import Derived.Test.YtjmcfdhklogpkaaR2H
import Derived.Test.YtjmcfdhklogpkaaAmBox2
set_option linter.unusedVariables false
set_option linter.unusedSimpArgs false
namespace Go.Proofs.Ytjmcfdhklogpkaa
open Go.AM
set_option linter.unusedVariables false
set_option linter.unusedSimpArgs false
variable {Γ : Glob}
/-! Values, slots, links: reading. -/
def inR (n lo hi : Int) : Bool := decide (lo ≤ n) && decide (n ≤ hi)
theorem spec_l1In_T (n lo hi : Int) (h : AH) : T Try.prog Γ Fn.spec_l1In [.int .i64 n, .int .i64 lo, .int .i64 hi] h fun v h' => v = .bool (inR n lo hi) ∧ h' = h := by
  refine spec_l1In_e (aw_sound tabOK mixed [] _ _ _ ?_)
  unfold spec_l1In_c
  simp only [EV, EL, EB, EF, if_true, if_false, Bool.false_eq_true, Nat.reduceAdd, Option.bind_some, Bool.not_true, Bool.not_false, Nat.reduceBEq, spec_l1In_r]
  refine k_split (fun h1 => ?_) (fun h1 => ?_) <;> simp only [EV, EL, EB, EF, if_true, if_false, Bool.false_eq_true, Nat.reduceAdd, Option.bind_some, Bool.not_true, Bool.not_false, Nat.reduceBEq, spec_l1In_r, h1]
  · exact ⟨rfl, by simp only [inR, h1, Bool.true_and]⟩
  · exact ⟨rfl, by simp only [inR, h1, Bool.false_and]⟩
theorem impl_in_T (n lo hi : Int) (h : AH) : T Try.prog Γ Fn.impl_in [.int .i64 n, .int .i64 lo, .int .i64 hi] h fun v h' => v = .bool (inR n lo hi) ∧ h' = h := by
  refine impl_in_e (aw_sound tabOK mixed [] _ _ _ ?_)
  unfold impl_in_c
  simp only [EV, EL, EB, EF, if_true, if_false, Bool.false_eq_true, Nat.reduceAdd, Option.bind_some, Bool.not_true, Bool.not_false, Nat.reduceBEq, impl_in_r]
  refine k_split (fun h1 => ?_) (fun h1 => ?_) <;> simp only [EV, EL, EB, EF, if_true, if_false, Bool.false_eq_true, Nat.reduceAdd, Option.bind_some, Bool.not_true, Bool.not_false, Nat.reduceBEq, impl_in_r, h1]
  · exact ⟨rfl, by simp only [inR, h1, Bool.true_and]⟩
  · exact ⟨rfl, by simp only [inR, h1, Bool.false_and]⟩
theorem impl_BrokenValue_T (h : AH) : T Try.prog Γ Fn.impl_BrokenValue [] h fun v h' => v = .agg ((DValue.mk 2 0).c false) ∧ h' = h := by
  refine impl_BrokenValue_e (aw_sound tabOK mixed [] _ _ _ ?_)
  unfold impl_BrokenValue_c
  simp only [EV, EL, EB, EF, if_true, if_false, Bool.false_eq_true, Nat.reduceAdd, Option.bind_some, Bool.not_true, Bool.not_false, Nat.reduceBEq, impl_BrokenValue_r]
  first | exact ⟨rfl, rfl⟩ | exact rfl
theorem spec_BrokenValue_T (h : AH) : T Try.prog Γ Fn.spec_BrokenValue [] h fun v h' => v = .agg ((DValue.mk 2 0).c false) ∧ h' = h := by
  refine spec_BrokenValue_e (aw_sound tabOK mixed [] _ _ _ ?_)
  unfold spec_BrokenValue_c
  simp only [EV, EL, EB, EF, if_true, if_false, Bool.false_eq_true, Nat.reduceAdd, Option.bind_some, Bool.not_true, Bool.not_false, Nat.reduceBEq, spec_BrokenValue_r]
  first | exact ⟨rfl, rfl⟩ | exact rfl
theorem impl_RefValue_T (n : Int) (h : AH) : T Try.prog Γ Fn.impl_RefValue [.int .i64 n] h fun v h' => v = .agg ((DValue.mk 1 n).c false) ∧ h' = h := by
  refine impl_RefValue_e (aw_sound tabOK mixed [] _ _ _ ?_)
  unfold impl_RefValue_c
  simp only [EV, EL, EB, EF, if_true, if_false, Bool.false_eq_true, Nat.reduceAdd, Option.bind_some, Bool.not_true, Bool.not_false, Nat.reduceBEq, impl_RefValue_r]
  first | exact ⟨rfl, rfl⟩ | exact rfl
theorem spec_RefValue_T (n : Int) (h : AH) : T Try.prog Γ Fn.spec_RefValue [.int .i64 n] h fun v h' => v = .agg ((DValue.mk 1 n).c false) ∧ h' = h := by
  refine spec_RefValue_e (aw_sound tabOK mixed [] _ _ _ ?_)
  unfold spec_RefValue_c
  simp only [EV, EL, EB, EF, if_true, if_false, Bool.false_eq_true, Nat.reduceAdd, Option.bind_some, Bool.not_true, Bool.not_false, Nat.reduceBEq, spec_RefValue_r]
  first | exact ⟨rfl, rfl⟩ | exact rfl
theorem impl_Mod_T (h : AH) : T Try.prog Γ Fn.impl_Mod [.int .i64 0, .int .i64 1000000] h fun v h' => v = .int .i64 0 ∧ h' = h := by
  refine impl_Mod_e (aw_sound tabOK mixed [] _ _ _ ?_)
  unfold impl_Mod_c
  simp only [EV, EL, EB, EF, if_true, if_false, Bool.false_eq_true, Nat.reduceAdd, Option.bind_some, Bool.not_true, Bool.not_false, Nat.reduceBEq, impl_Mod_r]
  refine TCall.val (by simp only [EO]) (impl_in_T _ _ _ _) ?_
  simp only [EV, EL, EB, EF, if_true, if_false, Bool.false_eq_true, Nat.reduceAdd, Option.bind_some, Bool.not_true, Bool.not_false, Nat.reduceBEq, impl_Mod_r, show inR 1000000 1 1000000000000 = true from rfl, show aBin .rem .num (.int .i64 0) (.int .i64 1000000) = some (.int .i64 0) from rfl, show aBin .rem .num (.int .i64 1000000) (.int .i64 1000000) = some (.int .i64 0) from rfl, show IntKind.i64.wrap (0 + 1000000) = 1000000 from rfl]
  first | exact ⟨rfl, rfl⟩ | exact rfl
theorem impl_IntValue_T0 (h : AH) : T Try.prog Γ Fn.impl_IntValue [.int .i64 0] h fun v h' => v = .agg ((DValue.mk 0 0).c false) ∧ h' = h := by
  refine impl_IntValue_e (aw_sound tabOK mixed [] _ _ _ ?_)
  unfold impl_IntValue_c
  simp only [EV, EL, EB, EF, if_true, if_false, Bool.false_eq_true, Nat.reduceAdd, Option.bind_some, Bool.not_true, Bool.not_false, Nat.reduceBEq, impl_IntValue_r]
  refine TCall.val (by simp only [EO]) (impl_Mod_T _) ?_
  simp only [EV, EL, EB, EF, if_true, if_false, Bool.false_eq_true, Nat.reduceAdd, Option.bind_some, Bool.not_true, Bool.not_false, Nat.reduceBEq, impl_IntValue_r]
  first | exact ⟨rfl, rfl⟩ | exact rfl

/-- Is it one of the positions? -/
theorem inR_pos (n : Int) {m : Nat} (hm : (m : Int) < 9223372036854775807) : inR n 0 (IntKind.i64.wrap ((m : Int) - 1)) = true ↔ ∃ k : Nat, n = (k : Int) ∧ k < m := by
  rw [wrap_nat (by omega) (by omega)]
  simp only [inR, Bool.and_eq_true, decide_eq_true_eq]
  constructor
  · intro ⟨h1, h2⟩; exact ⟨n.toNat, by omega, by omega⟩
  · rintro ⟨k, rfl, hk⟩; omega

def slotF : List DValue → DValue | [] => ⟨0, 0⟩ | x :: _ => x
def slot0 (e : DEntity) : DValue := slotF e.slots

theorem slotOf_cases (l : List DValue) (hl : l.length ≤ 1048576) : (inR 0 0 (IntKind.i64.wrap ((l.length : Int) - 1)) = true ∧ ∃ h : 0 < l.length, slotF l = l[0]) ∨ (inR 0 0 (IntKind.i64.wrap ((l.length : Int) - 1)) = false ∧ slotF l = ⟨0, 0⟩) := by
  cases l with
  | nil => right; exact ⟨by decide, rfl⟩
  | cons x l => left; exact ⟨(inR_pos 0 (by simp at hl ⊢; omega)).2 ⟨0, rfl, by simp⟩, by simp, rfl⟩

theorem impl_SlotOf_T (β : Bool) (e : DEntity) (he : e.ok 1048576) (h : AH) : T Try.prog Γ Fn.impl_SlotOf [.agg (e.c β), .int .i64 0] h fun v h' => v = .agg ((slot0 e).c false) ∧ h' = h := by
  have L0 := len_vm β 2 false e.slots (DValue.c β)
  refine impl_SlotOf_e (aw_sound tabOK mixed [] _ _ _ ?_)
  unfold impl_SlotOf_c
  simp only [EV, EL, EB, EF, if_true, if_false, Bool.false_eq_true, Nat.reduceAdd, Option.bind_some, Bool.not_true, Bool.not_false, Nat.reduceBEq, impl_SlotOf_r, DEntity.c, L0]
  refine TCall.val (by simp only [EO]) (impl_in_T _ _ _ _) ?_
  rcases slotOf_cases e.slots he.1 with ⟨e1, h0, e2⟩ | ⟨e1, e2⟩
  · have i0 : aIdxs 2 (.vs β 2 false (e.slots.map (DValue.c β))) 0 = _ := idx_vm (k := 0) h0
    simp only [EV, EL, EB, EF, if_true, if_false, Bool.false_eq_true, Nat.reduceAdd, Option.bind_some, Bool.not_true, Bool.not_false, Nat.reduceBEq, impl_SlotOf_r, e1, i0, DValue.c]
    exact ⟨rfl, by rw [slot0, e2]⟩
  · simp only [EV, EL, EB, EF, if_true, if_false, Bool.false_eq_true, Nat.reduceAdd, Option.bind_some, Bool.not_true, Bool.not_false, Nat.reduceBEq, impl_SlotOf_r, e1]
    refine TCall.val (by simp only [EO]) (impl_IntValue_T0 _) ?_
    simp only [EV, EL, EB, EF, if_true, if_false, Bool.false_eq_true, Nat.reduceAdd, Option.bind_some, Bool.not_true, Bool.not_false, Nat.reduceBEq, impl_SlotOf_r, DValue.c]
    exact ⟨rfl, by rw [slot0, e2]⟩
theorem spec_SlotOf_T (β : Bool) (e : DEntity) (he : e.ok 1048576) (h : AH) : T Try.prog Γ Fn.spec_SlotOf [.agg (e.c β), .int .i64 0] h fun v h' => v = .agg ((slot0 e).c false) ∧ h' = h := by
  have L0 := len_vm β 2 false e.slots (DValue.c β)
  refine spec_SlotOf_e (aw_sound tabOK mixed [] _ _ _ ?_)
  unfold spec_SlotOf_c
  simp only [EV, EL, EB, EF, if_true, if_false, Bool.false_eq_true, Nat.reduceAdd, Option.bind_some, Bool.not_true, Bool.not_false, Nat.reduceBEq, spec_SlotOf_r, DEntity.c, L0]
  refine TCall.val (by simp only [EO]) (spec_l1In_T _ _ _ _) ?_
  rcases slotOf_cases e.slots he.1 with ⟨e1, h0, e2⟩ | ⟨e1, e2⟩
  · have i0 : aIdxs 2 (.vs β 2 false (e.slots.map (DValue.c β))) 0 = _ := idx_vm (k := 0) h0
    simp only [EV, EL, EB, EF, if_true, if_false, Bool.false_eq_true, Nat.reduceAdd, Option.bind_some, Bool.not_true, Bool.not_false, Nat.reduceBEq, spec_SlotOf_r, e1, i0, DValue.c]
    exact ⟨rfl, by rw [slot0, e2]⟩
  · simp only [EV, EL, EB, EF, if_true, if_false, Bool.false_eq_true, Nat.reduceAdd, Option.bind_some, Bool.not_true, Bool.not_false, Nat.reduceBEq, spec_SlotOf_r, e1]
    exact ⟨rfl, by rw [slot0, e2]; rfl⟩

/-- The entity with a number. -/
theorem impl_Vat_entity_T (β : Bool) (v : DVat) (hv : v.entities.length ≤ 1048576) (n : Int) (H : AH) {p : AV} (hp : Ptr H p (v.c β)) :
    T Try.prog Γ Fn.impl_Vat_entity [p, .int .i64 n] H fun r h' => ((∃ k : Nat, ∃ hk : k < v.entities.length, n = (k : Int) ∧ r = .ip β (v.entities[k].c β)) ∨ ((∀ k : Nat, n = (k : Int) → v.entities.length ≤ k) ∧ r = .nilp)) ∧ h' = H := by
  have L0 := len_vm β 12 false v.entities (DEntity.c β)
  refine impl_Vat_entity_e (aw_sound tabOK mixed [] _ _ _ ?_)
  unfold impl_Vat_entity_c
  simp only [EV, EL, EB, EF, if_true, if_false, Bool.false_eq_true, Nat.reduceAdd, Option.bind_some, Bool.not_true, Bool.not_false, Nat.reduceBEq, impl_Vat_entity_r, hp.nil, hp.fld, hp.rd, DVat.c_len, Nat.reduceLeDiff, DVat.c, L0]
  refine TCall.val (by simp only [EO]) (impl_in_T _ _ _ _) ?_
  cases e1 : inR n 0 (IntKind.i64.wrap ((v.entities.length : Int) - 1))
  · simp only [EV, EL, EB, EF, if_true, if_false, Bool.false_eq_true, Nat.reduceAdd, Option.bind_some, Bool.not_true, Bool.not_false, Nat.reduceBEq, impl_Vat_entity_r]
    refine ⟨rfl, ?_⟩
    suffices hx : ∀ k : Nat, n = (k : Int) → v.entities.length ≤ k by first | exact .inr ⟨hx, rfl⟩ | exact hx | exact .inr hx
    intro k hk
    rcases Nat.lt_or_ge k v.entities.length with h1 | h1
    · have := (inR_pos n (by omega)).2 ⟨k, hk, h1⟩
      rw [e1] at this; cases this
    · exact h1
  · obtain ⟨k, rfl, hk⟩ := (inR_pos n (by omega)).1 e1
    have i0 := idx_vm (β := β) (sz := 12) (ex := false) (ce := DEntity.c β) hk
    simp only [EV, EL, EB, EF, if_true, if_false, Bool.false_eq_true, Nat.reduceAdd, Option.bind_some, Bool.not_true, Bool.not_false, Nat.reduceBEq, impl_Vat_entity_r, hp.nil, hp.fld, hp.rd, DVat.c_len, Nat.reduceLeDiff, DVat.c, i0]
    exact ⟨rfl, .inl ⟨k, hk, rfl, rfl⟩⟩

/-- The first slot of an object. -/
def cellF (v : DVat) (i : Int) : DValue := if h : 0 ≤ i ∧ i.toNat < v.entities.length then (if (v.entities[i.toNat]).kind = 1 then slot0 v.entities[i.toNat] else ⟨2, 0⟩) else ⟨2, 0⟩
theorem cellF_in {v : DVat} {k : Nat} (hk : k < v.entities.length) : cellF v (k : Int) = if v.entities[k].kind = 1 then slot0 v.entities[k] else ⟨2, 0⟩ := by
  unfold cellF; rw [dif_pos ⟨by omega, by simpa using hk⟩]; rfl
theorem cellF_out {v : DVat} {i : Int} (h : ∀ k : Nat, i = (k : Int) → v.entities.length ≤ k) : cellF v i = ⟨2, 0⟩ := by
  unfold cellF; rw [dif_neg]; rintro ⟨h1, h2⟩; have := h i.toNat (by omega); omega

theorem impl_CellValue_T (β : Bool) (v : DVat) (hv : v.ok 1048576) (i : Int) (h : AH) : T Try.prog Γ Fn.impl_CellValue [.agg (v.c β), .int .i64 i] h fun r h' => r = .agg ((cellF v i).c false) ∧ h' = h := by
  refine (?_ : T Try.prog Γ Fn.impl_CellValue _ h fun r h' => r = .agg ((cellF v i).c false) ∧ ∃ N, h' = h ++ N).drop (by rintro v h' ⟨rfl, N, rfl⟩; exact ⟨N, rfl, .agg _ (by intro x hx; simp [DValue.c] at hx; rcases hx with rfl | rfl <;> exact .int _ _), rfl, rfl⟩)
  refine impl_CellValue_e (aw_sound tabOK mixed [2] _ _ _ ?_)
  unfold impl_CellValue_c
  simp only [EV, EL, EB, EF, if_true, if_false, Bool.false_eq_true, Nat.reduceAdd, Option.bind_some, Bool.not_true, Bool.not_false, Nat.reduceBEq, impl_CellValue_r, box_g _ _ (DVat.c_noLp β v), push_s]
  have hp : Ptr (h ++ [some (0, v.c β)]) (.gp h.length 0 0) (v.c β) := Ptr.gp0 (hget_last _ _)
  refine TCall.ref (by simp only [EO]) (impl_Vat_entity_T β v hv.1 i _ hp) ?_
  rintro r h' ⟨⟨k, hk, rfl, rfl⟩ | ⟨ho, rfl⟩, rfl⟩
  · by_cases hb : v.entities[k].kind = 1
    · simp only [EV, EL, EB, EF, if_true, if_false, Bool.false_eq_true, Nat.reduceAdd, Option.bind_some, Bool.not_true, Bool.not_false, Nat.reduceBEq, impl_CellValue_r, DEntity.c, show (v.entities[k].kind != 1) = false from by simp [hb]]
      refine TCall.val (by simp only [EO]) (impl_SlotOf_T β v.entities[k] (hv.2.1 _ (List.getElem_mem hk)) _) ?_
      simp only [EV, EL, EB, EF, if_true, if_false, Bool.false_eq_true, Nat.reduceAdd, Option.bind_some, Bool.not_true, Bool.not_false, Nat.reduceBEq, impl_CellValue_r, DValue.c]
      exact ⟨rfl, by rw [cellF_in hk, if_pos hb], _, rfl⟩
    · simp only [EV, EL, EB, EF, if_true, if_false, Bool.false_eq_true, Nat.reduceAdd, Option.bind_some, Bool.not_true, Bool.not_false, Nat.reduceBEq, impl_CellValue_r, DEntity.c, ne_int, decide_eq_false hb]
      refine TCall.val (by simp only [EO]) (impl_BrokenValue_T _) ?_
      simp only [EV, EL, EB, EF, if_true, if_false, Bool.false_eq_true, Nat.reduceAdd, Option.bind_some, Bool.not_true, Bool.not_false, Nat.reduceBEq, impl_CellValue_r, DValue.c]
      exact ⟨rfl, by rw [cellF_in hk, if_neg hb], _, rfl⟩
  · simp only [EV, EL, EB, EF, if_true, if_false, Bool.false_eq_true, Nat.reduceAdd, Option.bind_some, Bool.not_true, Bool.not_false, Nat.reduceBEq, impl_CellValue_r]
    refine TCall.val (by simp only [EO]) (impl_BrokenValue_T _) ?_
    simp only [EV, EL, EB, EF, if_true, if_false, Bool.false_eq_true, Nat.reduceAdd, Option.bind_some, Bool.not_true, Bool.not_false, Nat.reduceBEq, impl_CellValue_r, DValue.c]
    exact ⟨rfl, by rw [cellF_out ho], _, rfl⟩

theorem spec_CellValue_T (β : Bool) (v : DVat) (hv : v.ok 1048576) (i : Int) (h : AH) : T Try.prog Γ Fn.spec_CellValue [.agg (v.c β), .int .i64 i] h fun r h' => r = .agg ((cellF v i).c false) ∧ h' = h := by
  have L0 := len_vm β 12 false v.entities (DEntity.c β)
  refine spec_CellValue_e (aw_sound tabOK mixed [] _ _ _ ?_)
  unfold spec_CellValue_c
  simp only [EV, EL, EB, EF, if_true, if_false, Bool.false_eq_true, Nat.reduceAdd, Option.bind_some, Bool.not_true, Bool.not_false, Nat.reduceBEq, spec_CellValue_r, DVat.c, L0]
  refine TCall.val (by simp only [EO]) (spec_l1In_T _ _ _ _) ?_
  cases e1 : inR i 0 (IntKind.i64.wrap ((v.entities.length : Int) - 1))
  · simp only [EV, EL, EB, EF, if_true, if_false, Bool.false_eq_true, Nat.reduceAdd, Option.bind_some, Bool.not_true, Bool.not_false, Nat.reduceBEq, spec_CellValue_r]
    refine TCall.val (by simp only [EO]) (spec_BrokenValue_T _) ?_
    simp only [EV, EL, EB, EF, if_true, if_false, Bool.false_eq_true, Nat.reduceAdd, Option.bind_some, Bool.not_true, Bool.not_false, Nat.reduceBEq, spec_CellValue_r, DValue.c]
    refine ⟨rfl, ?_⟩
    rw [cellF_out (fun k hk => ?_)]
    have := hv.1
    rcases Nat.lt_or_ge k v.entities.length with h1 | h1
    · have := (inR_pos i (by omega)).2 ⟨k, hk, h1⟩
      rw [e1] at this; cases this
    · exact h1
  · have := hv.1
    obtain ⟨k, rfl, hk⟩ := (inR_pos i (by omega)).1 e1
    have i0 := idx_vm (β := β) (sz := 12) (ex := false) (ce := DEntity.c β) hk
    by_cases hb : v.entities[k].kind = 1
    · simp only [EV, EL, EB, EF, if_true, if_false, Bool.false_eq_true, Nat.reduceAdd, Option.bind_some, Bool.not_true, Bool.not_false, Nat.reduceBEq, spec_CellValue_r, i0, DEntity.c, show (v.entities[k].kind != 1) = false from by simp [hb]]
      refine TCall.val (by simp only [EO]) (spec_SlotOf_T β v.entities[k] (hv.2.1 _ (List.getElem_mem hk)) _) ?_
      simp only [EV, EL, EB, EF, if_true, if_false, Bool.false_eq_true, Nat.reduceAdd, Option.bind_some, Bool.not_true, Bool.not_false, Nat.reduceBEq, spec_CellValue_r, DValue.c]
      exact ⟨rfl, by rw [cellF_in hk, if_pos hb]⟩
    · simp only [EV, EL, EB, EF, if_true, if_false, Bool.false_eq_true, Nat.reduceAdd, Option.bind_some, Bool.not_true, Bool.not_false, Nat.reduceBEq, spec_CellValue_r, i0, DEntity.c, ne_int, decide_eq_false hb]
      refine TCall.val (by simp only [EO]) (spec_BrokenValue_T _) ?_
      simp only [EV, EL, EB, EF, if_true, if_false, Bool.false_eq_true, Nat.reduceAdd, Option.bind_some, Bool.not_true, Bool.not_false, Nat.reduceBEq, spec_CellValue_r, DValue.c]
      exact ⟨rfl, by rw [cellF_in hk, if_neg hb]⟩

end Go.Proofs.Ytjmcfdhklogpkaa
