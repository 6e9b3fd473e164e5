import Derived.Test.YtjmcfdhklogpkaaR2V4
import Derived.Test.YtjmcfdhklogpkaaAmMore1
set_option linter.unusedVariables false
set_option linter.unusedSimpArgs false
namespace Go.Proofs.Ytjmcfdhklogpkaa
open Go.AM
set_option linter.unusedVariables false
set_option linter.unusedSimpArgs false
variable {Γ : Glob}
/-! Kept promises that lead back to themselves. -/
def keptStep (v : DVat) (x : DValue) : Option DValue := if x.kind = 1 then (match (if 0 ≤ x.n then v.entities[x.n.toNat]? else none) with | some e => if e.kind = 2 ∧ e.state = 2 then some e.value else none | none => none) else none
def keptRun (v : DVat) : Nat → DValue → Bool
  | 0, _ => true
  | n + 1, x => match keptStep v x with | some y => keptRun v n y | none => false
def keptLoopF (v : DVat) : Bool := (List.range v.entities.length).any fun i => keptRun v (v.entities.length + 1) ⟨1, (i : Int)⟩

theorem kept_in {v : DVat} {x : DValue} {k : Nat} (hk : k < v.entities.length) (h1 : x.kind = 1) (h2 : x.n = (k : Int)) : keptStep v x = if v.entities[k].kind = 2 ∧ v.entities[k].state = 2 then some v.entities[k].value else none := by
  unfold keptStep; rw [if_pos h1, h2, if_pos (by omega)]; simp [hk]
theorem kept_no {v : DVat} {x : DValue} (h1 : x.kind ≠ 1) : keptStep v x = none := by unfold keptStep; rw [if_neg h1]
theorem kept_out {v : DVat} {x : DValue} (h : ∀ k : Nat, x.n = (k : Int) → v.entities.length ≤ k) : keptStep v x = none := by
  unfold keptStep
  split
  · split
    · rename_i e he
      split at he
      · have := h x.n.toNat (by omega)
        rw [List.getElem?_eq_none this] at he; cases he
      · cases he
    · rfl
  · rfl

theorem impl_Vat_refers_T (β β' : Bool) (v : DVat) (hv : v.entities.length ≤ 1048576) (x : DValue) (H : AH) {p : AV} (hp : Ptr H p (v.c β)) :
    T Try.prog Γ Fn.impl_Vat_refers [p, .agg (x.c β')] H fun r h' => ((x.kind = 1 ∧ ∃ k : Nat, ∃ hk : k < v.entities.length, x.n = (k : Int) ∧ r = .ip β (v.entities[k].c β)) ∨ ((x.kind = 1 → ∀ k : Nat, x.n = (k : Int) → v.entities.length ≤ k) ∧ r = .nilp)) ∧ h' = H := by
  refine impl_Vat_refers_e (aw_sound tabOK mixed [] _ _ _ ?_)
  unfold impl_Vat_refers_c
  by_cases h1 : x.kind = 1
  · simp only [EV, EL, EB, EF, q_bx, if_true, if_false, Bool.false_eq_true, Nat.reduceAdd, Option.bind_some, Bool.not_true, Bool.not_false, Nat.reduceBEq, impl_Vat_refers_r, DValue.c, ne_int, decide_eq_true h1]
    refine TCall.ref (by simp only [EO, hp.out]) (impl_Vat_entity_T β v hv x.n _ hp) ?_
    rintro r h' ⟨⟨k, hk, e1, rfl⟩ | ⟨ho, rfl⟩, rfl⟩
    · simp only [EV, EL, EB, EF, q_bx, if_true, if_false, Bool.false_eq_true, Nat.reduceAdd, Option.bind_some, Bool.not_true, Bool.not_false, Nat.reduceBEq, impl_Vat_refers_r]
      exact ⟨rfl, .inl ⟨h1, k, hk, e1, rfl⟩⟩
    · simp only [EV, EL, EB, EF, q_bx, if_true, if_false, Bool.false_eq_true, Nat.reduceAdd, Option.bind_some, Bool.not_true, Bool.not_false, Nat.reduceBEq, impl_Vat_refers_r]
      refine ⟨rfl, ?_⟩
      have hx : x.kind = 1 → ∀ k : Nat, x.n = (k : Int) → v.entities.length ≤ k := fun _ => ho
      first | exact .inr ⟨hx, rfl⟩ | exact hx | exact .inr hx
  · simp only [EV, EL, EB, EF, q_bx, if_true, if_false, Bool.false_eq_true, Nat.reduceAdd, Option.bind_some, Bool.not_true, Bool.not_false, Nat.reduceBEq, impl_Vat_refers_r, DValue.c, ne_int, decide_eq_false h1]
    refine ⟨rfl, ?_⟩
    have hx : x.kind = 1 → ∀ k : Nat, x.n = (k : Int) → v.entities.length ≤ k := fun e => absurd e h1
    first | exact .inr ⟨hx, rfl⟩ | exact hx | exact .inr hx

theorem kept_any {v : DVat} {k : Nat} (hk : k < v.entities.length) (h : keptRun v (v.entities.length + 1) ⟨1, (k : Int)⟩ = true) : keptLoopF v = true := by
  unfold keptLoopF; rw [List.any_eq_true]; exact ⟨k, by simpa using hk, h⟩
theorem kept_none {v : DVat} (h : ∀ i : Nat, i < v.entities.length → keptRun v (v.entities.length + 1) ⟨1, (i : Int)⟩ = false) : keptLoopF v = false := by
  unfold keptLoopF; rw [List.any_eq_false]; intro i hi; simp [h i (by simpa using hi)]

theorem impl_Vat_keptLoop_T (β : Bool) (v : DVat) (hv : v.entities.length ≤ 1048576) (H : AH) {p : AV} (hp : Ptr H p (v.c β)) : T Try.prog Γ Fn.impl_Vat_keptLoop [p] H fun r h' => r = .bool (keptLoopF v) ∧ h' = H := by
  have L0 := len_vm β 12 false v.entities (DEntity.c β)
  refine impl_Vat_keptLoop_e (aw_sound tabOK mixed [] _ _ _ ?_)
  unfold impl_Vat_keptLoop_c
  simp only [EV, EL, EB, EF, q_bx, if_true, if_false, Bool.false_eq_true, Nat.reduceAdd, Option.bind_some, Bool.not_true, Bool.not_false, Nat.reduceBEq, impl_Vat_keptLoop_r, hp.nil, hp.fld, hp.rd, DVat.c_len, Nat.reduceLeDiff, DVat.c, L0]
  refine loopI tabOK mixed [] (fun x : Nat × List (List AV) => x.1 ≤ v.entities.length ∧ ∀ i : Nat, i < x.1 → keptRun v (v.entities.length + 1) ⟨1, (i : Int)⟩ = false) (fun x => v.entities.length - x.1)
    (fun x => impl_Vat_keptLoop_s0 p (.int .i64 v.entities.length) (.int .i64 x.1) x.2 H) (0, []) ⟨by simp, fun i hi => by simp at hi⟩ ⟨by simp [impl_Vat_keptLoop_s0, LeL, LeV], rfl, rfl⟩ ?_
  rintro ⟨k, L⟩ ⟨hk, ht⟩
  simp only at hk ht
  simp only [EV, EL, EB, EF, q_bx, if_true, if_false, Bool.false_eq_true, Nat.reduceAdd, Option.bind_some, Bool.not_true, Bool.not_false, Nat.reduceBEq, impl_Vat_keptLoop_r, impl_Vat_keptLoop_s0]
  refine c_split (fun hlt => ?_) (fun hge => ?_)
  rotate_left
  · have hge : k = v.entities.length := by simp at hge; omega
    subst hge
    simp only [EV, EL, EB, EF, q_bx, if_true, if_false, Bool.false_eq_true, Nat.reduceAdd, Option.bind_some, Bool.not_true, Bool.not_false, Nat.reduceBEq, impl_Vat_keptLoop_r]
    exact ⟨rfl, by rw [kept_none ht]⟩
  have hlt : k < v.entities.length := by simpa using hlt
  simp only [EV, EL, EB, EF, q_bx, if_true, if_false, Bool.false_eq_true, Nat.reduceAdd, Option.bind_some, Bool.not_true, Bool.not_false, Nat.reduceBEq, impl_Vat_keptLoop_r]
  refine TCall.val (by simp only [EO]) (impl_RefValue_T k _) ?_
  simp only [EV, EL, EB, EF, q_bx, if_true, if_false, Bool.false_eq_true, Nat.reduceAdd, Option.bind_some, Bool.not_true, Bool.not_false, Nat.reduceBEq, impl_Vat_keptLoop_r, DValue.c]
  refine loopI tabOK mixed [] (fun y : Nat × DValue => y.1 ≤ v.entities.length + 1 ∧ keptRun v (v.entities.length + 1) ⟨1, (k : Int)⟩ = keptRun v (v.entities.length + 1 - y.1) y.2) (fun y => v.entities.length + 2 - y.1)
    (fun y => impl_Vat_keptLoop_s1 p (.lp L.length 0) (.int .i64 y.1) (.int .i64 v.entities.length) (.int .i64 k) (L ++ [[.int .i64 y.2.kind, .int .i64 y.2.n]]) H) (0, ⟨1, (k : Int)⟩) ⟨by simp, by simp⟩ ⟨by simp [impl_Vat_keptLoop_s1, LeL, LeV], rfl, rfl⟩ ?_
  rintro ⟨j, x⟩ ⟨hj, hI⟩
  simp only at hj hI
  simp only [EV, EL, EB, EF, q_bx, if_true, if_false, Bool.false_eq_true, Nat.reduceAdd, Option.bind_some, Bool.not_true, Bool.not_false, Nat.reduceBEq, impl_Vat_keptLoop_r, impl_Vat_keptLoop_s1, hp.nil, hp.fld, hp.rd, DVat.c_len, Nat.reduceLeDiff, DVat.c, L0]
  have fin : ∀ b : Bool, keptRun v (v.entities.length + 1) ⟨1, (k : Int)⟩ = b → b = false → ∀ i : Nat, i < k + 1 → keptRun v (v.entities.length + 1) ⟨1, (i : Int)⟩ = false := fun b e1 e2 i hi => by
    rcases Nat.lt_or_ge i k with g | g
    · exact ht i g
    · have : i = k := by omega
      subst this; rw [e1, e2]
  by_cases hjl : (j : Int) ≤ (v.entities.length : Int)
  rotate_left
  · have hj' : j = v.entities.length + 1 := by omega
    subst hj'
    rw [Nat.sub_self, keptRun] at hI
    simp only [EV, EL, EB, EF, q_bx, if_true, if_false, Bool.false_eq_true, Nat.reduceAdd, Option.bind_some, Bool.not_true, Bool.not_false, Nat.reduceBEq, impl_Vat_keptLoop_r, decide_eq_false hjl, hp.nil, hp.fld, hp.rd, DVat.c_len, Nat.reduceLeDiff, DVat.c, L0, show decide ((v.entities.length : Int) < ((v.entities.length + 1 : Nat) : Int)) = true from by simp; omega]
    exact ⟨rfl, by rw [kept_any hlt hI]⟩
  have hsub : v.entities.length + 1 - j = (v.entities.length - j) + 1 := by omega
  have hI : keptRun v (v.entities.length + 1) ⟨1, (k : Int)⟩ = (match keptStep v x with | some y => keptRun v (v.entities.length - j) y | none => false) := hI.trans (by rw [hsub]; rfl)
  have exits : keptStep v x = none → ∀ i : Nat, i < k + 1 → keptRun v (v.entities.length + 1) ⟨1, (i : Int)⟩ = false := fun e => by rw [e] at hI; exact fin _ hI rfl
  have hjd : decide ((v.entities.length : Int) < (j : Int)) = false := by simp; omega
  simp only [EV, EL, EB, EF, q_bx, if_true, if_false, Bool.false_eq_true, Nat.reduceAdd, Option.bind_some, Bool.not_true, Bool.not_false, Nat.reduceBEq, impl_Vat_keptLoop_r, decide_eq_true hjl]
  refine TCall.ref (by simp only [EO, hp.out]) (impl_Vat_refers_T β β v hv x _ hp) ?_
  rintro r h' ⟨⟨h1, q, hq, e1, rfl⟩ | ⟨ho, rfl⟩, rfl⟩
  rotate_left
  · have hn : keptStep v x = none := by
      by_cases h1 : x.kind = 1
      · exact kept_out (ho h1)
      · exact kept_no h1
    simp only [EV, EL, EB, EF, q_bx, if_true, if_false, Bool.false_eq_true, Nat.reduceAdd, Option.bind_some, Bool.not_true, Bool.not_false, Nat.reduceBEq, impl_Vat_keptLoop_r, hp.nil, hp.fld, hp.rd, DVat.c_len, Nat.reduceLeDiff, DVat.c, L0, hjd]
    exact ⟨(k + 1, _), ⟨by simp only; omega, exits hn⟩, by simp only; omega, ⟨by rw [wN (by omega)]; simp [impl_Vat_keptLoop_s0, LeL, LeV], rfl, rfl⟩⟩
  by_cases c1 : v.entities[q].kind = 2
  rotate_left
  · have hn : keptStep v x = none := by rw [kept_in hq h1 e1, if_neg (by simp [c1])]
    simp only [EV, EL, EB, EF, q_bx, if_true, if_false, Bool.false_eq_true, Nat.reduceAdd, Option.bind_some, Bool.not_true, Bool.not_false, Nat.reduceBEq, impl_Vat_keptLoop_r, DEntity.c, ne_int, decide_eq_false c1, hp.nil, hp.fld, hp.rd, DVat.c_len, Nat.reduceLeDiff, DVat.c, L0, hjd]
    exact ⟨(k + 1, _), ⟨by simp only; omega, exits hn⟩, by simp only; omega, ⟨by rw [wN (by omega)]; simp [impl_Vat_keptLoop_s0, LeL, LeV], rfl, rfl⟩⟩
  by_cases c2 : v.entities[q].state = 2
  rotate_left
  · have hn : keptStep v x = none := by rw [kept_in hq h1 e1, if_neg (by simp [c2])]
    simp only [EV, EL, EB, EF, q_bx, if_true, if_false, Bool.false_eq_true, Nat.reduceAdd, Option.bind_some, Bool.not_true, Bool.not_false, Nat.reduceBEq, impl_Vat_keptLoop_r, DEntity.c, ne_int, decide_eq_true c1, decide_eq_false c2, hp.nil, hp.fld, hp.rd, DVat.c_len, Nat.reduceLeDiff, DVat.c, L0, hjd]
    exact ⟨(k + 1, _), ⟨by simp only; omega, exits hn⟩, by simp only; omega, ⟨by rw [wN (by omega)]; simp [impl_Vat_keptLoop_s0, LeL, LeV], rfl, rfl⟩⟩
  have hn : keptStep v x = some v.entities[q].value := by rw [kept_in hq h1 e1, if_pos ⟨c1, c2⟩]
  rw [hn] at hI
  simp only [EV, EL, EB, EF, q_bx, if_true, if_false, Bool.false_eq_true, Nat.reduceAdd, Option.bind_some, Bool.not_true, Bool.not_false, Nat.reduceBEq, impl_Vat_keptLoop_r, DEntity.c, ne_int, decide_eq_true c1, decide_eq_true c2, dr_s, dr_0]
  refine ⟨(j + 1, v.entities[q].value), ⟨by simp only; omega, by simp only; rw [hI, show v.entities.length + 1 - (j + 1) = v.entities.length - j by omega]⟩, by simp only; omega, ⟨by rw [wN (by omega)]; simp [impl_Vat_keptLoop_s1, LeL, LeV], rfl, rfl⟩⟩

theorem impl_IsKeptLoop_T (β : Bool) (v : DVat) (hv : v.ok 1048576) (h : AH) : T Try.prog Γ Fn.impl_IsKeptLoop [.agg (v.c β)] h fun r h' => r = .bool (keptLoopF v) ∧ h' = h := by
  refine (?_ : T Try.prog Γ Fn.impl_IsKeptLoop _ h fun r h' => r = .bool (keptLoopF v) ∧ ∃ N, h' = h ++ N).drop (by rintro v h' ⟨rfl, N, rfl⟩; exact ⟨N, rfl, .bool _, rfl, rfl⟩)
  refine impl_IsKeptLoop_e (aw_sound tabOK mixed [1] _ _ _ ?_)
  unfold impl_IsKeptLoop_c
  simp only [EV, EL, EB, EF, q_bx, if_true, if_false, Bool.false_eq_true, Nat.reduceAdd, Option.bind_some, Bool.not_true, Bool.not_false, Nat.reduceBEq, impl_IsKeptLoop_r, box_g _ _ (DVat.c_noLp β v), push_s]
  refine TCall.val (by simp only [EO]) (impl_Vat_keptLoop_T β v hv.1 _ (Ptr.gp0 (hget_last _ _))) ?_
  simp only [EV, EL, EB, EF, q_bx, if_true, if_false, Bool.false_eq_true, Nat.reduceAdd, Option.bind_some, Bool.not_true, Bool.not_false, Nat.reduceBEq, impl_IsKeptLoop_r]
  exact ⟨rfl, _, rfl⟩

theorem spec_IsKeptLoop_T (β : Bool) (v : DVat) (hv : v.ok 1048576) (h : AH) : T Try.prog Γ Fn.spec_IsKeptLoop [.agg (v.c β)] h fun r h' => r = .bool (keptLoopF v) ∧ h' = h := by
  have hv := hv.1
  have L0 := len_vm β 12 false v.entities (DEntity.c β)
  refine spec_IsKeptLoop_e (aw_sound tabOK mixed [] _ _ _ ?_)
  unfold spec_IsKeptLoop_c
  simp only [EV, EL, EB, EF, q_bx, if_true, if_false, Bool.false_eq_true, Nat.reduceAdd, Option.bind_some, Bool.not_true, Bool.not_false, Nat.reduceBEq, spec_IsKeptLoop_r]
  refine loopI tabOK mixed [] (fun x : Nat × List (List AV) => x.1 ≤ v.entities.length ∧ ∀ i : Nat, i < x.1 → keptRun v (v.entities.length + 1) ⟨1, (i : Int)⟩ = false) (fun x => v.entities.length - x.1)
    (fun x => spec_IsKeptLoop_s0 (.lp ([] : List (List AV)).length 0) (.int .i64 x.1) (([] : List (List AV)) ++ v.c β :: x.2) h) (0, []) ⟨by simp, fun i hi => by simp at hi⟩ ⟨by simp [spec_IsKeptLoop_s0, LeL, LeV], rfl, rfl⟩ ?_
  rintro ⟨k, L⟩ ⟨hk, ht⟩
  simp only at hk ht
  simp only [EV, EL, EB, EF, q_bx, if_true, if_false, Bool.false_eq_true, Nat.reduceAdd, Option.bind_some, Bool.not_true, Bool.not_false, Nat.reduceBEq, spec_IsKeptLoop_r, spec_IsKeptLoop_s0, DVat.c, L0]
  refine c_split (fun hlt => ?_) (fun hge => ?_)
  rotate_left
  · have hge : k = v.entities.length := by simp at hge; omega
    subst hge
    simp only [EV, EL, EB, EF, q_bx, if_true, if_false, Bool.false_eq_true, Nat.reduceAdd, Option.bind_some, Bool.not_true, Bool.not_false, Nat.reduceBEq, spec_IsKeptLoop_r]
    exact ⟨rfl, by rw [kept_none ht]⟩
  have hlt : k < v.entities.length := by simpa using hlt
  simp only [EV, EL, EB, EF, q_bx, if_true, if_false, Bool.false_eq_true, Nat.reduceAdd, Option.bind_some, Bool.not_true, Bool.not_false, Nat.reduceBEq, spec_IsKeptLoop_r]
  refine TCall.val (by simp only [EO]) (spec_RefValue_T k _) ?_
  simp only [EV, EL, EB, EF, q_bx, if_true, if_false, Bool.false_eq_true, Nat.reduceAdd, Option.bind_some, Bool.not_true, Bool.not_false, Nat.reduceBEq, spec_IsKeptLoop_r, DValue.c]
  refine loopI tabOK mixed [] (fun y : Nat × DValue => y.1 ≤ v.entities.length ∧ keptRun v (v.entities.length + 1) ⟨1, (k : Int)⟩ = keptRun v (v.entities.length + 1 - y.1) y.2) (fun y => v.entities.length + 2 - y.1)
    (fun y => spec_IsKeptLoop_s1 (.lp ([] : List (List AV)).length 0) (.int .i64 k) (.lp (([] : List (List AV)) ++ v.c β :: L).length 0) (.int .i64 y.1) ((([] : List (List AV)) ++ v.c β :: L) ++ [[.int .i64 y.2.kind, .int .i64 y.2.n]]) h) (0, ⟨1, (k : Int)⟩) ⟨by simp, by simp⟩ ⟨by simp [spec_IsKeptLoop_s1, LeL, LeV], rfl, rfl⟩ ?_
  rintro ⟨j, x⟩ ⟨hj, hI⟩
  simp only at hj hI
  have hsub : v.entities.length + 1 - j = (v.entities.length - j) + 1 := by omega
  have hI : keptRun v (v.entities.length + 1) ⟨1, (k : Int)⟩ = (match keptStep v x with | some y => keptRun v (v.entities.length - j) y | none => false) := hI.trans (by rw [hsub]; rfl)
  have fin : keptStep v x = none → ∀ i : Nat, i < k + 1 → keptRun v (v.entities.length + 1) ⟨1, (i : Int)⟩ = false := fun e i hi => by
    rcases Nat.lt_or_ge i k with g | g
    · exact ht i g
    · have : i = k := by omega
      subst this; rw [hI, e]
  have hjl : (j : Int) ≤ (v.entities.length : Int) := by omega
  simp only [EV, EL, EB, EF, q_bx, if_true, if_false, Bool.false_eq_true, Nat.reduceAdd, Option.bind_some, Bool.not_true, Bool.not_false, Nat.reduceBEq, spec_IsKeptLoop_r, spec_IsKeptLoop_s1, lcA0, DVat.c, L0, decide_eq_true hjl]
  by_cases h1 : x.kind = 1
  rotate_left
  · simp only [EV, EL, EB, EF, q_bx, if_true, if_false, Bool.false_eq_true, Nat.reduceAdd, Option.bind_some, Bool.not_true, Bool.not_false, Nat.reduceBEq, spec_IsKeptLoop_r, lcA0, DVat.c, L0, ne_int, decide_eq_false h1]
    exact ⟨(k + 1, L ++ [[.int .i64 x.kind, .int .i64 x.n]]), ⟨by simp only; omega, fin (kept_no h1)⟩, by simp only; omega, ⟨by rw [wN (by omega)]; simp [spec_IsKeptLoop_s0, LeL, LeV], by simp [spec_IsKeptLoop_s0, DVat.c], rfl⟩⟩
  simp only [EV, EL, EB, EF, q_bx, if_true, if_false, Bool.false_eq_true, Nat.reduceAdd, Option.bind_some, Bool.not_true, Bool.not_false, Nat.reduceBEq, spec_IsKeptLoop_r, lcA0, DVat.c, L0, ne_int, decide_eq_true h1]
  refine TCall.val (by simp only [EO]) (spec_l1In_T _ _ _ _) ?_
  cases e1 : inR x.n 0 (IntKind.i64.wrap ((v.entities.length : Int) - 1))
  · have hn : keptStep v x = none := kept_out (fun q hq => by
      rcases Nat.lt_or_ge q v.entities.length with g | g
      · have := (inR_pos x.n (by omega)).2 ⟨q, hq, g⟩
        rw [e1] at this; cases this
      · exact g)
    simp only [EV, EL, EB, EF, q_bx, if_true, if_false, Bool.false_eq_true, Nat.reduceAdd, Option.bind_some, Bool.not_true, Bool.not_false, Nat.reduceBEq, spec_IsKeptLoop_r, lcA0, DVat.c, L0, ne_int, decide_eq_true h1]
    exact ⟨(k + 1, L ++ [[.int .i64 x.kind, .int .i64 x.n]]), ⟨by simp only; omega, fin hn⟩, by simp only; omega, ⟨by rw [wN (by omega)]; simp [spec_IsKeptLoop_s0, LeL, LeV], by simp [spec_IsKeptLoop_s0, DVat.c], rfl⟩⟩
  obtain ⟨q, hq0, hq⟩ := (inR_pos x.n (by omega)).1 e1
  have i0 := idx_vm (β := β) (sz := 12) (ex := false) (ce := DEntity.c β) hq
  by_cases c1 : v.entities[q].kind = 2
  rotate_left
  · have hn : keptStep v x = none := by rw [kept_in hq h1 hq0, if_neg (by simp [c1])]
    simp only [EV, EL, EB, EF, q_bx, if_true, if_false, Bool.false_eq_true, Nat.reduceAdd, Option.bind_some, Bool.not_true, Bool.not_false, Nat.reduceBEq, spec_IsKeptLoop_r, lcA0, DVat.c, L0, hq0, i0, DEntity.c, ne_int, decide_eq_false c1]
    exact ⟨(k + 1, L ++ [[.int .i64 x.kind, .int .i64 x.n]]), ⟨by simp only; omega, fin hn⟩, by simp only; omega, ⟨by rw [wN (by omega)]; simp [spec_IsKeptLoop_s0, LeL, LeV], by simp [spec_IsKeptLoop_s0, DVat.c, hq0], rfl⟩⟩
  by_cases c2 : v.entities[q].state = 2
  rotate_left
  · have hn : keptStep v x = none := by rw [kept_in hq h1 hq0, if_neg (by simp [c2])]
    simp only [EV, EL, EB, EF, q_bx, if_true, if_false, Bool.false_eq_true, Nat.reduceAdd, Option.bind_some, Bool.not_true, Bool.not_false, Nat.reduceBEq, spec_IsKeptLoop_r, lcA0, DVat.c, L0, hq0, i0, DEntity.c, ne_int, decide_eq_true c1, decide_eq_false c2]
    exact ⟨(k + 1, L ++ [[.int .i64 x.kind, .int .i64 x.n]]), ⟨by simp only; omega, fin hn⟩, by simp only; omega, ⟨by rw [wN (by omega)]; simp [spec_IsKeptLoop_s0, LeL, LeV], by simp [spec_IsKeptLoop_s0, DVat.c, hq0], rfl⟩⟩
  have hn : keptStep v x = some v.entities[q].value := by rw [kept_in hq h1 hq0, if_pos ⟨c1, c2⟩]
  rw [hn] at hI
  simp only [EV, EL, EB, EF, q_bx, if_true, if_false, Bool.false_eq_true, Nat.reduceAdd, Option.bind_some, Bool.not_true, Bool.not_false, Nat.reduceBEq, spec_IsKeptLoop_r, lcA0, DVat.c, L0, hq0, i0, DEntity.c, ne_int, decide_eq_true c1, decide_eq_true c2, beq_dec]
  by_cases hje : (j : Int) = (v.entities.length : Int)
  · simp only [EV, EL, EB, EF, q_bx, if_true, if_false, Bool.false_eq_true, Nat.reduceAdd, Option.bind_some, Bool.not_true, Bool.not_false, Nat.reduceBEq, spec_IsKeptLoop_r, decide_eq_true hje]
    refine ⟨rfl, ?_⟩
    rw [kept_any hlt (by rw [hI, show v.entities.length - j = 0 by omega]; rfl)]
  · simp only [EV, EL, EB, EF, q_bx, if_true, if_false, Bool.false_eq_true, Nat.reduceAdd, Option.bind_some, Bool.not_true, Bool.not_false, Nat.reduceBEq, spec_IsKeptLoop_r, decide_eq_false hje]
    refine ⟨(j + 1, v.entities[q].value), ⟨by simp only; omega, by simp only; rw [hI, show v.entities.length + 1 - (j + 1) = v.entities.length - j by omega]⟩, by simp only; omega, ⟨by rw [wN (by omega)]; simp [spec_IsKeptLoop_s1, LeL, LeV], rfl, rfl⟩⟩

end Go.Proofs.Ytjmcfdhklogpkaa
