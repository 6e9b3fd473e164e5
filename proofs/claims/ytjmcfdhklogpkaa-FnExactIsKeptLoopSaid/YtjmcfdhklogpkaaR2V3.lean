import Derived.Test.YtjmcfdhklogpkaaR2V2
set_option linter.unusedVariables false
set_option linter.unusedSimpArgs false
namespace Go.Proofs.Ytjmcfdhklogpkaa
open Go.AM
set_option linter.unusedVariables false
set_option linter.unusedSimpArgs false
variable {Γ : Glob}
/-! Equality of entities, vats, outputs. -/
theorem spec_EqualEntities_T (β β' : Bool) (a b : DEntity) (ha : a.ok 1073741824) (h : AH) : T Try.prog Γ Fn.spec_EqualEntities [.agg (a.c β), .agg (b.c β')] h fun v h' => v = .bool (decide (a = b)) ∧ h' = h := by
  have La := len_vm β 2 false a.askers (DAsker.c β)
  have Lb := len_vm β' 2 false b.askers (DAsker.c β')
  have hlim := ha.2.2.2
  refine spec_EqualEntities_e (aw_sound tabOK mixed [] _ _ _ ?_)
  unfold spec_EqualEntities_c
  simp only [DEntity.c]
  by_cases n1 : a.kind = b.kind
  rotate_left
  · simp only [EV, EL, EB, EF, if_true, if_false, Bool.false_eq_true, Nat.reduceAdd, Option.bind_some, Bool.not_true, Bool.not_false, Nat.reduceBEq, spec_EqualEntities_r, spec_EqualEntities_d0_q, ne_int, ne_bool, ne_str, beq_dec, La, Lb, DValue.ne, decide_eq_false n1]
    refine ⟨rfl, ?_⟩; rw [decide_eq_false (fun e => n1 (by rw [e]))]
  by_cases n2 : a.script = b.script
  rotate_left
  · simp only [EV, EL, EB, EF, if_true, if_false, Bool.false_eq_true, Nat.reduceAdd, Option.bind_some, Bool.not_true, Bool.not_false, Nat.reduceBEq, spec_EqualEntities_r, spec_EqualEntities_d0_q, ne_int, ne_bool, ne_str, beq_dec, La, Lb, DValue.ne, decide_eq_false n2, decide_eq_true n1]
    refine ⟨rfl, ?_⟩; rw [decide_eq_false (fun e => n2 (by rw [e]))]
  simp only [EV, EL, EB, EF, if_true, if_false, Bool.false_eq_true, Nat.reduceAdd, Option.bind_some, Bool.not_true, Bool.not_false, Nat.reduceBEq, spec_EqualEntities_r, spec_EqualEntities_d0_q, ne_int, ne_bool, ne_str, beq_dec, La, Lb, DValue.ne, decide_eq_true n1, decide_eq_true n2]
  refine TCall.val (by simp only [EO]) (spec_EqualValues_T β β' _ _ ha.1 _) ?_
  by_cases n3 : a.slots = b.slots
  rotate_left
  · simp only [EV, EL, EB, EF, if_true, if_false, Bool.false_eq_true, Nat.reduceAdd, Option.bind_some, Bool.not_true, Bool.not_false, Nat.reduceBEq, spec_EqualEntities_r, spec_EqualEntities_d0_q, ne_int, ne_bool, ne_str, beq_dec, La, Lb, DValue.ne, decide_eq_false n3, decide_eq_true n1, decide_eq_true n2]
    refine ⟨rfl, ?_⟩; rw [decide_eq_false (fun e => n3 (by rw [e]))]
  by_cases n4 : a.state = b.state
  rotate_left
  · simp only [EV, EL, EB, EF, if_true, if_false, Bool.false_eq_true, Nat.reduceAdd, Option.bind_some, Bool.not_true, Bool.not_false, Nat.reduceBEq, spec_EqualEntities_r, spec_EqualEntities_d0_q, ne_int, ne_bool, ne_str, beq_dec, La, Lb, DValue.ne, decide_eq_false n4, decide_eq_true n1, decide_eq_true n2, decide_eq_true n3]
    refine ⟨rfl, ?_⟩; rw [decide_eq_false (fun e => n4 (by rw [e]))]
  by_cases n5 : a.value = b.value
  rotate_left
  · simp only [EV, EL, EB, EF, if_true, if_false, Bool.false_eq_true, Nat.reduceAdd, Option.bind_some, Bool.not_true, Bool.not_false, Nat.reduceBEq, spec_EqualEntities_r, spec_EqualEntities_d0_q, ne_int, ne_bool, ne_str, beq_dec, La, Lb, DValue.ne, decide_eq_false n5, decide_eq_true n1, decide_eq_true n2, decide_eq_true n3, decide_eq_true n4]
    refine ⟨rfl, ?_⟩; rw [decide_eq_false (fun e => n5 (by rw [e]))]
  simp only [EV, EL, EB, EF, if_true, if_false, Bool.false_eq_true, Nat.reduceAdd, Option.bind_some, Bool.not_true, Bool.not_false, Nat.reduceBEq, spec_EqualEntities_r, spec_EqualEntities_d0_q, ne_int, ne_bool, ne_str, beq_dec, La, Lb, DValue.ne, decide_eq_true n1, decide_eq_true n2, decide_eq_true n3, decide_eq_true n4, decide_eq_true n5]
  refine TCall.val (by simp only [EO]) (spec_EqualSents_T β β' _ _ ha.2.1 ha.2.2.1 _) ?_
  by_cases n6 : a.queue = b.queue
  rotate_left
  · simp only [EV, EL, EB, EF, if_true, if_false, Bool.false_eq_true, Nat.reduceAdd, Option.bind_some, Bool.not_true, Bool.not_false, Nat.reduceBEq, spec_EqualEntities_r, spec_EqualEntities_d0_q, ne_int, ne_bool, ne_str, beq_dec, La, Lb, DValue.ne, decide_eq_false n6, decide_eq_true n1, decide_eq_true n2, decide_eq_true n3, decide_eq_true n4, decide_eq_true n5]
    refine ⟨rfl, ?_⟩; rw [decide_eq_false (fun e => n6 (by rw [e]))]
  by_cases n7 : (a.askers.length : Int) = (b.askers.length : Int)
  rotate_left
  · simp only [EV, EL, EB, EF, if_true, if_false, Bool.false_eq_true, Nat.reduceAdd, Option.bind_some, Bool.not_true, Bool.not_false, Nat.reduceBEq, spec_EqualEntities_r, spec_EqualEntities_d0_q, ne_int, ne_bool, ne_str, beq_dec, La, Lb, DValue.ne, decide_eq_false n7, decide_eq_true n1, decide_eq_true n2, decide_eq_true n3, decide_eq_true n4, decide_eq_true n5, decide_eq_true n6]
    refine ⟨rfl, ?_⟩; rw [decide_eq_false (fun e => n7 (by rw [e]))]
  simp only [EV, EL, EB, EF, if_true, if_false, Bool.false_eq_true, Nat.reduceAdd, Option.bind_some, Bool.not_true, Bool.not_false, Nat.reduceBEq, spec_EqualEntities_r, spec_EqualEntities_d0_q, ne_int, ne_bool, ne_str, beq_dec, La, Lb, DValue.ne, decide_eq_true n1, decide_eq_true n2, decide_eq_true n3, decide_eq_true n4, decide_eq_true n5, decide_eq_true n6, decide_eq_true n7]
  refine loopI tabOK mixed [] (fun k : Nat => k ≤ a.askers.length ∧ ∀ (i : Nat) (h1 : i < a.askers.length), i < k → ∀ h2 : i < b.askers.length, a.askers[i] = b.askers[i]) (fun k => a.askers.length - k)
    (fun k => spec_EqualEntities_s0 (.lp ([] : List (List AV)).length 0) (.lp (([] : List (List AV)).length + 1) 0) (.int .i64 k) (([] : List (List AV)) ++ [a.c β, b.c β']) h) 0 ⟨by omega, fun i hi h => by omega⟩ ⟨by simp [spec_EqualEntities_s0, LeL, LeV], rfl, rfl⟩ ?_
  rintro k ⟨hk, ht⟩
  simp only [EV, EL, EB, EF, if_true, if_false, Bool.false_eq_true, Nat.reduceAdd, Option.bind_some, Bool.not_true, Bool.not_false, Nat.reduceBEq, spec_EqualEntities_r, spec_EqualEntities_d0_q, spec_EqualEntities_s0, DEntity.c, La]
  refine c_split (fun hlt => ?_) (fun hge => ?_)
  · have hlt : k < a.askers.length := by simpa using hlt
    have hlt' : k < b.askers.length := by omega
    have i0 := idx_vm (β := β) (sz := 2) (ex := false) (ce := DAsker.c β) hlt
    have i1 := idx_vm (β := β') (sz := 2) (ex := false) (ce := DAsker.c β') hlt'
    simp only [EV, EL, EB, EF, if_true, if_false, Bool.false_eq_true, Nat.reduceAdd, Option.bind_some, Bool.not_true, Bool.not_false, Nat.reduceBEq, spec_EqualEntities_r, spec_EqualEntities_d0_q, DEntity.c, La, i0, i1, DAsker.c, DAsker.ne]
    by_cases hp : a.askers[k] = b.askers[k]
    rotate_left
    · simp only [EV, EL, EB, EF, if_true, if_false, Bool.false_eq_true, Nat.reduceAdd, Option.bind_some, Bool.not_true, Bool.not_false, Nat.reduceBEq, spec_EqualEntities_r, spec_EqualEntities_d0_q, DEntity.c, La, decide_eq_false hp, DAsker.ne]
      refine ⟨rfl, ?_⟩; rw [decide_eq_false (fun e => hp (by subst e; rfl))]
    · simp only [EV, EL, EB, EF, if_true, if_false, Bool.false_eq_true, Nat.reduceAdd, Option.bind_some, Bool.not_true, Bool.not_false, Nat.reduceBEq, spec_EqualEntities_r, spec_EqualEntities_d0_q, DEntity.c, La, decide_eq_true hp, DAsker.ne]
      exact ⟨k + 1, ⟨hlt, fun i g1 hik g2 => by
        rcases Nat.lt_or_ge i k with g | g
        · exact ht i g1 g g2
        · have : i = k := by omega
          subst this; exact hp⟩, by omega, ⟨by rw [wN (by omega)]; simp [spec_EqualEntities_s0, LeL, LeV], rfl, rfl⟩⟩
  have hge : k = a.askers.length := by simp at hge; omega
  subst hge
  have n12 : a.askers = b.askers := ext_lt (by omega) ht
  clear ht hk

  by_cases m1 : a.peer = b.peer
  rotate_left
  · simp only [EV, EL, EB, EF, if_true, if_false, Bool.false_eq_true, Nat.reduceAdd, Option.bind_some, Bool.not_true, Bool.not_false, Nat.reduceBEq, spec_EqualEntities_r, spec_EqualEntities_d0_q, ne_int, ne_bool, ne_str, beq_dec, DEntity.c, decide_eq_false m1]
    refine ⟨rfl, ?_⟩; rw [decide_eq_false (fun e => m1 (by rw [e]))]
  by_cases m2 : a.pos = b.pos
  rotate_left
  · simp only [EV, EL, EB, EF, if_true, if_false, Bool.false_eq_true, Nat.reduceAdd, Option.bind_some, Bool.not_true, Bool.not_false, Nat.reduceBEq, spec_EqualEntities_r, spec_EqualEntities_d0_q, ne_int, ne_bool, ne_str, beq_dec, DEntity.c, decide_eq_false m2, decide_eq_true m1]
    refine ⟨rfl, ?_⟩; rw [decide_eq_false (fun e => m2 (by rw [e]))]
  by_cases m3 : a.count = b.count
  rotate_left
  · simp only [EV, EL, EB, EF, if_true, if_false, Bool.false_eq_true, Nat.reduceAdd, Option.bind_some, Bool.not_true, Bool.not_false, Nat.reduceBEq, spec_EqualEntities_r, spec_EqualEntities_d0_q, ne_int, ne_bool, ne_str, beq_dec, DEntity.c, decide_eq_false m3, decide_eq_true m1, decide_eq_true m2]
    refine ⟨rfl, ?_⟩; rw [decide_eq_false (fun e => m3 (by rw [e]))]
  by_cases m4 : a.sent = b.sent
  rotate_left
  · simp only [EV, EL, EB, EF, if_true, if_false, Bool.false_eq_true, Nat.reduceAdd, Option.bind_some, Bool.not_true, Bool.not_false, Nat.reduceBEq, spec_EqualEntities_r, spec_EqualEntities_d0_q, ne_int, ne_bool, ne_str, beq_dec, DEntity.c, decide_eq_false m4, decide_eq_true m1, decide_eq_true m2, decide_eq_true m3]
    refine ⟨rfl, ?_⟩; rw [decide_eq_false (fun e => m4 (by rw [e]))]
  simp only [EV, EL, EB, EF, if_true, if_false, Bool.false_eq_true, Nat.reduceAdd, Option.bind_some, Bool.not_true, Bool.not_false, Nat.reduceBEq, spec_EqualEntities_r, spec_EqualEntities_d0_q, ne_int, ne_bool, ne_str, beq_dec, DEntity.c, decide_eq_true m1, decide_eq_true m2, decide_eq_true m3, decide_eq_true m4]
  exact ⟨rfl, by rw [decide_eq_true (by cases a; cases b; simp only [DEntity.mk.injEq]; exact ⟨n1, n2, n3, n4, n5, n6, n12, m1, m2, m3, m4⟩)]⟩

theorem spec_EqualVats_T (β β' : Bool) (a b : DVat) (ha : a.ok 1073741824) (h : AH) : T Try.prog Γ Fn.spec_EqualVats [.agg (a.c β), .agg (b.c β')] h fun v h' => v = .bool (decide (a = b)) ∧ h' = h := by
  have La := len_vm β 12 false a.entities (DEntity.c β)
  have Lb := len_vm β' 12 false b.entities (DEntity.c β')
  have La2 := len_vm β 7 false a.links (DLink.c β)
  have Lb2 := len_vm β' 7 false b.links (DLink.c β')
  have La3 := len_vm β 13 false a.out (DOutgoing.c β)
  have Lb3 := len_vm β' 13 false b.out (DOutgoing.c β')
  obtain ⟨hl1, ho1, hl2, ho2, hl3, ho3, hl4, ho4⟩ := ha
  refine spec_EqualVats_e (aw_sound tabOK mixed [] _ _ _ ?_)
  unfold spec_EqualVats_c
  simp only [DVat.c]
  by_cases n1 : a.id = b.id
  rotate_left
  · simp only [EV, EL, EB, EF, if_true, if_false, Bool.false_eq_true, Nat.reduceAdd, Option.bind_some, Bool.not_true, Bool.not_false, Nat.reduceBEq, spec_EqualVats_r, spec_EqualVats_d0_q, spec_EqualVats_d1_q, spec_EqualVats_d2_q, ne_int, ne_bool, ne_str, beq_dec, La, Lb, La2, Lb2, La3, Lb3, decide_eq_false n1]
    refine ⟨rfl, ?_⟩; rw [decide_eq_false (fun e => n1 (by rw [e]))]
  by_cases n2 : (a.entities.length : Int) = (b.entities.length : Int)
  rotate_left
  · simp only [EV, EL, EB, EF, if_true, if_false, Bool.false_eq_true, Nat.reduceAdd, Option.bind_some, Bool.not_true, Bool.not_false, Nat.reduceBEq, spec_EqualVats_r, spec_EqualVats_d0_q, spec_EqualVats_d1_q, spec_EqualVats_d2_q, ne_int, ne_bool, ne_str, beq_dec, La, Lb, La2, Lb2, La3, Lb3, decide_eq_false n2, decide_eq_true n1]
    refine ⟨rfl, ?_⟩; rw [decide_eq_false (fun e => n2 (by rw [e]))]
  simp only [EV, EL, EB, EF, if_true, if_false, Bool.false_eq_true, Nat.reduceAdd, Option.bind_some, Bool.not_true, Bool.not_false, Nat.reduceBEq, spec_EqualVats_r, spec_EqualVats_d0_q, spec_EqualVats_d1_q, spec_EqualVats_d2_q, ne_int, ne_bool, ne_str, beq_dec, La, Lb, La2, Lb2, La3, Lb3, decide_eq_true n1, decide_eq_true n2]
  refine TCall.val (by simp only [EO]) (spec_EqualSents_T β β' _ _ hl2 ho2 _) ?_
  by_cases n3 : a.loop = b.loop
  rotate_left
  · simp only [EV, EL, EB, EF, if_true, if_false, Bool.false_eq_true, Nat.reduceAdd, Option.bind_some, Bool.not_true, Bool.not_false, Nat.reduceBEq, spec_EqualVats_r, spec_EqualVats_d0_q, spec_EqualVats_d1_q, spec_EqualVats_d2_q, ne_int, ne_bool, ne_str, beq_dec, La, Lb, La2, Lb2, La3, Lb3, decide_eq_false n3, decide_eq_true n1, decide_eq_true n2]
    refine ⟨rfl, ?_⟩; rw [decide_eq_false (fun e => n3 (by rw [e]))]
  by_cases n4 : (a.links.length : Int) = (b.links.length : Int)
  rotate_left
  · simp only [EV, EL, EB, EF, if_true, if_false, Bool.false_eq_true, Nat.reduceAdd, Option.bind_some, Bool.not_true, Bool.not_false, Nat.reduceBEq, spec_EqualVats_r, spec_EqualVats_d0_q, spec_EqualVats_d1_q, spec_EqualVats_d2_q, ne_int, ne_bool, ne_str, beq_dec, La, Lb, La2, Lb2, La3, Lb3, decide_eq_false n4, decide_eq_true n1, decide_eq_true n2, decide_eq_true n3]
    refine ⟨rfl, ?_⟩; rw [decide_eq_false (fun e => n4 (by rw [e]))]
  by_cases n5 : (a.out.length : Int) = (b.out.length : Int)
  rotate_left
  · simp only [EV, EL, EB, EF, if_true, if_false, Bool.false_eq_true, Nat.reduceAdd, Option.bind_some, Bool.not_true, Bool.not_false, Nat.reduceBEq, spec_EqualVats_r, spec_EqualVats_d0_q, spec_EqualVats_d1_q, spec_EqualVats_d2_q, ne_int, ne_bool, ne_str, beq_dec, La, Lb, La2, Lb2, La3, Lb3, decide_eq_false n5, decide_eq_true n1, decide_eq_true n2, decide_eq_true n3, decide_eq_true n4]
    refine ⟨rfl, ?_⟩; rw [decide_eq_false (fun e => n5 (by rw [e]))]
  simp only [EV, EL, EB, EF, if_true, if_false, Bool.false_eq_true, Nat.reduceAdd, Option.bind_some, Bool.not_true, Bool.not_false, Nat.reduceBEq, spec_EqualVats_r, spec_EqualVats_d0_q, spec_EqualVats_d1_q, spec_EqualVats_d2_q, ne_int, ne_bool, ne_str, beq_dec, La, Lb, La2, Lb2, La3, Lb3, decide_eq_true n1, decide_eq_true n2, decide_eq_true n3, decide_eq_true n4, decide_eq_true n5]
  refine loopI tabOK mixed [] (fun k : Nat => k ≤ a.entities.length ∧ ∀ (i : Nat) (h1 : i < a.entities.length), i < k → ∀ h2 : i < b.entities.length, a.entities[i] = b.entities[i]) (fun k => a.entities.length - k)
    (fun k => spec_EqualVats_s0 (.lp ([] : List (List AV)).length 0) (.lp (([] : List (List AV)).length + 1) 0) (.int .i64 k) (([] : List (List AV)) ++ [a.c β, b.c β']) h) 0 ⟨by omega, fun i hi h => by omega⟩ ⟨by simp [spec_EqualVats_s0, LeL, LeV], rfl, rfl⟩ ?_
  rintro k ⟨hk, ht⟩
  simp only [EV, EL, EB, EF, if_true, if_false, Bool.false_eq_true, Nat.reduceAdd, Option.bind_some, Bool.not_true, Bool.not_false, Nat.reduceBEq, spec_EqualVats_r, spec_EqualVats_d0_q, spec_EqualVats_d1_q, spec_EqualVats_d2_q, spec_EqualVats_s0, DVat.c, La]
  refine c_split (fun hlt => ?_) (fun hge => ?_)
  · have hlt : k < a.entities.length := by simpa using hlt
    have hlt' : k < b.entities.length := by omega
    have i0 := idx_vm (β := β) (sz := 12) (ex := false) (ce := DEntity.c β) hlt
    have i1 := idx_vm (β := β') (sz := 12) (ex := false) (ce := DEntity.c β') hlt'
    simp only [EV, EL, EB, EF, if_true, if_false, Bool.false_eq_true, Nat.reduceAdd, Option.bind_some, Bool.not_true, Bool.not_false, Nat.reduceBEq, spec_EqualVats_r, spec_EqualVats_d0_q, spec_EqualVats_d1_q, spec_EqualVats_d2_q, DVat.c, La, i0, i1, DEntity.c]
    refine TCall.val (by simp only [EO]) (spec_EqualEntities_T β β' _ _ (ho1 _ (List.getElem_mem hlt)) _) ?_
    simp only [EV, EL, EB, EF, if_true, if_false, Bool.false_eq_true, Nat.reduceAdd, Option.bind_some, Bool.not_true, Bool.not_false, Nat.reduceBEq, spec_EqualVats_r, spec_EqualVats_d0_q, spec_EqualVats_d1_q, spec_EqualVats_d2_q, DVat.c, La]
    by_cases hp : a.entities[k] = b.entities[k]
    rotate_left
    · simp only [EV, EL, EB, EF, if_true, if_false, Bool.false_eq_true, Nat.reduceAdd, Option.bind_some, Bool.not_true, Bool.not_false, Nat.reduceBEq, spec_EqualVats_r, spec_EqualVats_d0_q, spec_EqualVats_d1_q, spec_EqualVats_d2_q, DVat.c, La, decide_eq_false hp]
      refine ⟨rfl, ?_⟩; rw [decide_eq_false (fun e => hp (by subst e; rfl))]
    · simp only [EV, EL, EB, EF, if_true, if_false, Bool.false_eq_true, Nat.reduceAdd, Option.bind_some, Bool.not_true, Bool.not_false, Nat.reduceBEq, spec_EqualVats_r, spec_EqualVats_d0_q, spec_EqualVats_d1_q, spec_EqualVats_d2_q, DVat.c, La, decide_eq_true hp]
      exact ⟨k + 1, ⟨hlt, fun i g1 hik g2 => by
        rcases Nat.lt_or_ge i k with g | g
        · exact ht i g1 g g2
        · have : i = k := by omega
          subst this; exact hp⟩, by omega, ⟨by rw [wN (by omega)]; simp [spec_EqualVats_s0, LeL, LeV], rfl, rfl⟩⟩
  have hge : k = a.entities.length := by simp at hge; omega
  subst hge
  have n12 : a.entities = b.entities := ext_lt (by omega) ht
  clear ht hk

  simp only [EV, EL, EB, EF, if_true, if_false, Bool.false_eq_true, Nat.reduceAdd, Option.bind_some, Bool.not_true, Bool.not_false, Nat.reduceBEq, spec_EqualVats_r, spec_EqualVats_d0_q, spec_EqualVats_d1_q, spec_EqualVats_d2_q]
  refine loopI tabOK mixed [] (fun k : Nat => k ≤ a.links.length ∧ ∀ (i : Nat) (h1 : i < a.links.length), i < k → ∀ h2 : i < b.links.length, a.links[i] = b.links[i]) (fun k => a.links.length - k)
    (fun k => spec_EqualVats_s1 (.lp ([] : List (List AV)).length 0) (.lp (([] : List (List AV)).length + 1) 0) (.int .i64 k) (([] : List (List AV)) ++ [a.c β, b.c β']) h) 0 ⟨by omega, fun i hi h => by omega⟩ ⟨by simp [spec_EqualVats_s1, LeL, LeV], rfl, rfl⟩ ?_
  rintro k ⟨hk, ht⟩
  simp only [EV, EL, EB, EF, if_true, if_false, Bool.false_eq_true, Nat.reduceAdd, Option.bind_some, Bool.not_true, Bool.not_false, Nat.reduceBEq, spec_EqualVats_r, spec_EqualVats_d0_q, spec_EqualVats_d1_q, spec_EqualVats_d2_q, spec_EqualVats_s1, DVat.c, La2]
  refine c_split (fun hlt => ?_) (fun hge => ?_)
  · have hlt : k < a.links.length := by simpa using hlt
    have hlt' : k < b.links.length := by omega
    have i0 := idx_vm (β := β) (sz := 7) (ex := false) (ce := DLink.c β) hlt
    have i1 := idx_vm (β := β') (sz := 7) (ex := false) (ce := DLink.c β') hlt'
    simp only [EV, EL, EB, EF, if_true, if_false, Bool.false_eq_true, Nat.reduceAdd, Option.bind_some, Bool.not_true, Bool.not_false, Nat.reduceBEq, spec_EqualVats_r, spec_EqualVats_d0_q, spec_EqualVats_d1_q, spec_EqualVats_d2_q, DVat.c, La2, i0, i1, DLink.c]
    refine TCall.val (by simp only [EO]) (spec_EqualLinks_T β β' _ _ (ho3 _ (List.getElem_mem hlt)) _) ?_
    simp only [EV, EL, EB, EF, if_true, if_false, Bool.false_eq_true, Nat.reduceAdd, Option.bind_some, Bool.not_true, Bool.not_false, Nat.reduceBEq, spec_EqualVats_r, spec_EqualVats_d0_q, spec_EqualVats_d1_q, spec_EqualVats_d2_q, DVat.c, La2]
    by_cases hp : a.links[k] = b.links[k]
    rotate_left
    · simp only [EV, EL, EB, EF, if_true, if_false, Bool.false_eq_true, Nat.reduceAdd, Option.bind_some, Bool.not_true, Bool.not_false, Nat.reduceBEq, spec_EqualVats_r, spec_EqualVats_d0_q, spec_EqualVats_d1_q, spec_EqualVats_d2_q, DVat.c, La2, decide_eq_false hp]
      refine ⟨rfl, ?_⟩; rw [decide_eq_false (fun e => hp (by subst e; rfl))]
    · simp only [EV, EL, EB, EF, if_true, if_false, Bool.false_eq_true, Nat.reduceAdd, Option.bind_some, Bool.not_true, Bool.not_false, Nat.reduceBEq, spec_EqualVats_r, spec_EqualVats_d0_q, spec_EqualVats_d1_q, spec_EqualVats_d2_q, DVat.c, La2, decide_eq_true hp]
      exact ⟨k + 1, ⟨hlt, fun i g1 hik g2 => by
        rcases Nat.lt_or_ge i k with g | g
        · exact ht i g1 g g2
        · have : i = k := by omega
          subst this; exact hp⟩, by omega, ⟨by rw [wN (by omega)]; simp [spec_EqualVats_s1, LeL, LeV], rfl, rfl⟩⟩
  have hge : k = a.links.length := by simp at hge; omega
  subst hge
  have n13 : a.links = b.links := ext_lt (by omega) ht
  clear ht hk

  simp only [EV, EL, EB, EF, if_true, if_false, Bool.false_eq_true, Nat.reduceAdd, Option.bind_some, Bool.not_true, Bool.not_false, Nat.reduceBEq, spec_EqualVats_r, spec_EqualVats_d0_q, spec_EqualVats_d1_q, spec_EqualVats_d2_q]
  refine loopI tabOK mixed [] (fun k : Nat => k ≤ a.out.length ∧ ∀ (i : Nat) (h1 : i < a.out.length), i < k → ∀ h2 : i < b.out.length, a.out[i] = b.out[i]) (fun k => a.out.length - k)
    (fun k => spec_EqualVats_s2 (.lp ([] : List (List AV)).length 0) (.lp (([] : List (List AV)).length + 1) 0) (.int .i64 k) (([] : List (List AV)) ++ [a.c β, b.c β']) h) 0 ⟨by omega, fun i hi h => by omega⟩ ⟨by simp [spec_EqualVats_s2, LeL, LeV], rfl, rfl⟩ ?_
  rintro k ⟨hk, ht⟩
  simp only [EV, EL, EB, EF, if_true, if_false, Bool.false_eq_true, Nat.reduceAdd, Option.bind_some, Bool.not_true, Bool.not_false, Nat.reduceBEq, spec_EqualVats_r, spec_EqualVats_d0_q, spec_EqualVats_d1_q, spec_EqualVats_d2_q, spec_EqualVats_s2, DVat.c, La3]
  refine c_split (fun hlt => ?_) (fun hge => ?_)
  rotate_left
  · have hge : k = a.out.length := by simp at hge; omega
    subst hge
    simp only [EV, EL, EB, EF, if_true, if_false, Bool.false_eq_true, Nat.reduceAdd, Option.bind_some, Bool.not_true, Bool.not_false, Nat.reduceBEq, spec_EqualVats_r, spec_EqualVats_d0_q, spec_EqualVats_d1_q, spec_EqualVats_d2_q]
    have n14 : a.out = b.out := ext_lt (by omega) ht
    exact ⟨rfl, by rw [decide_eq_true (by cases a; cases b; simp only [DVat.mk.injEq]; exact ⟨n1, n12, n3, n13, n14⟩)]⟩
  have hlt : k < a.out.length := by simpa using hlt
  have hlt' : k < b.out.length := by omega
  have i0 := idx_vm (β := β) (sz := 13) (ex := false) (ce := DOutgoing.c β) hlt
  have i1 := idx_vm (β := β') (sz := 13) (ex := false) (ce := DOutgoing.c β') hlt'
  have hk' := ho4 _ (List.getElem_mem hlt)
  have hne : a.out[k] ≠ b.out[k] → decide (a = b) = false := fun hxy => decide_eq_false (fun e => by subst e; exact hxy rfl)
  obtain ⟨x, hx⟩ : ∃ x, x = a.out[k] := ⟨_, rfl⟩
  obtain ⟨y, hy⟩ : ∃ y, y = b.out[k] := ⟨_, rfl⟩
  rw [← hx] at i0 hk' hne
  rw [← hy] at i1 hne
  by_cases q1 : x.to_ = y.to_
  rotate_left
  · simp only [EV, EL, EB, EF, if_true, if_false, Bool.false_eq_true, Nat.reduceAdd, Option.bind_some, Bool.not_true, Bool.not_false, Nat.reduceBEq, spec_EqualVats_r, spec_EqualVats_d0_q, spec_EqualVats_d1_q, spec_EqualVats_d2_q, DVat.c, i0, i1, DOutgoing.c, ne_int, decide_eq_false q1]
    exact ⟨rfl, by rw [hne (fun e => q1 (by rw [e]))]⟩
  simp only [EV, EL, EB, EF, if_true, if_false, Bool.false_eq_true, Nat.reduceAdd, Option.bind_some, Bool.not_true, Bool.not_false, Nat.reduceBEq, spec_EqualVats_r, spec_EqualVats_d0_q, spec_EqualVats_d1_q, spec_EqualVats_d2_q, DVat.c, i0, i1, DOutgoing.c, ne_int, decide_eq_true q1]
  refine TCall.val (by simp only [EO]) (spec_EqualMessages_T β β' x.message y.message hk' _) ?_
  by_cases q2 : x.message = y.message
  rotate_left
  · simp only [EV, EL, EB, EF, if_true, if_false, Bool.false_eq_true, Nat.reduceAdd, Option.bind_some, Bool.not_true, Bool.not_false, Nat.reduceBEq, spec_EqualVats_r, spec_EqualVats_d0_q, spec_EqualVats_d1_q, spec_EqualVats_d2_q, decide_eq_false q2]
    exact ⟨rfl, by rw [hne (fun e => q2 (by rw [e]))]⟩
  simp only [EV, EL, EB, EF, if_true, if_false, Bool.false_eq_true, Nat.reduceAdd, Option.bind_some, Bool.not_true, Bool.not_false, Nat.reduceBEq, spec_EqualVats_r, spec_EqualVats_d0_q, spec_EqualVats_d1_q, spec_EqualVats_d2_q, decide_eq_true q2]
  have hxy : x = y := by cases x; cases y; simp only [DOutgoing.mk.injEq]; exact ⟨q1, q2⟩
  refine ⟨k + 1, ⟨hlt, fun i g1 hik g2 => ?_⟩, by omega, ⟨by rw [wN (by omega)]; simp [spec_EqualVats_s2, LeL, LeV], rfl, rfl⟩⟩
  rcases Nat.lt_or_ge i k with g | g
  · exact ht i g1 g g2
  · have : i = k := by omega
    subst this; rw [← hx, ← hy]; exact hxy

theorem spec_EqualOutputs_T (β β' : Bool) (l m : List DOutgoing) (hl : l.length ≤ 1073741824) (ho : ∀ x ∈ l, x.ok 1073741824) (h : AH) : T Try.prog Γ Fn.spec_EqualOutputs [.vs β 13 false (l.map (DOutgoing.c β)), .vs β' 13 false (m.map (DOutgoing.c β'))] h fun v h' => v = .bool (decide (l = m)) ∧ h' = h := by
  refine spec_EqualOutputs_e (aw_sound tabOK mixed [] _ _ _ ?_)
  unfold spec_EqualOutputs_c
  simp only [EV, EL, EB, EF, if_true, if_false, Bool.false_eq_true, Nat.reduceAdd, Option.bind_some, Bool.not_true, Bool.not_false, Nat.reduceBEq, spec_EqualOutputs_r]
  have hw : ∀ (β : Bool) (l : List DOutgoing), Wk (.agg [.int .i64 0, .nils, .nils, .nils, .vs β 13 false (l.map (DOutgoing.c β))]) (.agg ((DVat.mk 0 [] [] [] l).c β)) := fun β l =>
    Wk.aggL ⟨.rfl _, .nil _ _ _, .nil _ _ _, .nil _ _ _, .rfl _, trivial⟩
  refine TCall.weak (args' := [.agg ((DVat.mk 0 [] [] [] l).c β), .agg ((DVat.mk 0 [] [] [] m).c β')]) ⟨hw β l, hw β' m, trivial⟩ (TCall.val (by simp only [EO, DVat.c_noLp]) (spec_EqualVats_T β β' (DVat.mk 0 [] [] [] l) (DVat.mk 0 [] [] [] m) ⟨by simp, by simp, by simp, by simp, by simp, by simp, hl, ho⟩ _) ?_)
  simp only [EV, EL, EB, EF, if_true, if_false, Bool.false_eq_true, Nat.reduceAdd, Option.bind_some, Bool.not_true, Bool.not_false, Nat.reduceBEq, spec_EqualOutputs_r]
  refine ⟨rfl, ?_⟩
  by_cases e : l = m
  · subst e; simp
  · rw [decide_eq_false e, decide_eq_false (fun e' => e (by injection e'))]

theorem impl_equalMessage_T (β β' : Bool) (a b : DMessage) (ha : a.ok 1073741824) (h : AH) : T Try.prog Γ Fn.impl_equalMessage [.agg (a.c β), .agg (b.c β')] h fun v h' => v = .bool (decide (a = b)) ∧ h' = h := by
  have hv : ∀ x y : DWire, aBin .eql (.agg [.int .i64, .int .i64]) (.agg [.int .i64 x.kind, .int .i64 x.n]) (.agg [.int .i64 y.kind, .int .i64 y.n]) = some (.bool (decide (x = y))) := fun x y => by rw [eq_agg2]; simp only [DWire.dec]
  have ht : ∀ x y : DTag, aBin .eql (.agg [.int .i64, .int .i64, .int .i64]) (.agg [.int .i64 x.vat, .int .i64 x.entity, .int .i64 x.seq]) (.agg [.int .i64 y.vat, .int .i64 y.entity, .int .i64 y.seq]) = some (.bool (decide (x = y))) := fun x y => by rw [eq_agg3]; simp only [DTag.dec]
  refine impl_equalMessage_e (aw_sound tabOK mixed [] _ _ _ ?_)
  unfold impl_equalMessage_c
  simp only [DMessage.c]
  by_cases n1 : a.kind = b.kind
  rotate_left
  · simp only [EV, EL, EB, EF, if_true, if_false, Bool.false_eq_true, Nat.reduceAdd, Option.bind_some, Bool.not_true, Bool.not_false, Nat.reduceBEq, impl_equalMessage_r, ne_int, ne_bool, ne_str, beq_dec, hv, ht, decide_eq_false n1]
    refine ⟨rfl, ?_⟩; rw [decide_eq_false (fun e => n1 (by rw [e]))]
  by_cases n2 : a.pos = b.pos
  rotate_left
  · simp only [EV, EL, EB, EF, if_true, if_false, Bool.false_eq_true, Nat.reduceAdd, Option.bind_some, Bool.not_true, Bool.not_false, Nat.reduceBEq, impl_equalMessage_r, ne_int, ne_bool, ne_str, beq_dec, hv, ht, decide_eq_false n2, decide_eq_true n1]
    refine ⟨rfl, ?_⟩; rw [decide_eq_false (fun e => n2 (by rw [e]))]
  by_cases n3 : a.answer = b.answer
  rotate_left
  · simp only [EV, EL, EB, EF, if_true, if_false, Bool.false_eq_true, Nat.reduceAdd, Option.bind_some, Bool.not_true, Bool.not_false, Nat.reduceBEq, impl_equalMessage_r, ne_int, ne_bool, ne_str, beq_dec, hv, ht, decide_eq_false n3, decide_eq_true n1, decide_eq_true n2]
    refine ⟨rfl, ?_⟩; rw [decide_eq_false (fun e => n3 (by rw [e]))]
  by_cases n4 : a.question = b.question
  rotate_left
  · simp only [EV, EL, EB, EF, if_true, if_false, Bool.false_eq_true, Nat.reduceAdd, Option.bind_some, Bool.not_true, Bool.not_false, Nat.reduceBEq, impl_equalMessage_r, ne_int, ne_bool, ne_str, beq_dec, hv, ht, decide_eq_false n4, decide_eq_true n1, decide_eq_true n2, decide_eq_true n3]
    refine ⟨rfl, ?_⟩; rw [decide_eq_false (fun e => n4 (by rw [e]))]
  by_cases n5 : a.name = b.name
  rotate_left
  · simp only [EV, EL, EB, EF, if_true, if_false, Bool.false_eq_true, Nat.reduceAdd, Option.bind_some, Bool.not_true, Bool.not_false, Nat.reduceBEq, impl_equalMessage_r, ne_int, ne_bool, ne_str, beq_dec, hv, ht, decide_eq_false n5, decide_eq_true n1, decide_eq_true n2, decide_eq_true n3, decide_eq_true n4]
    refine ⟨rfl, ?_⟩; rw [decide_eq_false (fun e => n5 (by rw [e]))]
  simp only [EV, EL, EB, EF, if_true, if_false, Bool.false_eq_true, Nat.reduceAdd, Option.bind_some, Bool.not_true, Bool.not_false, Nat.reduceBEq, impl_equalMessage_r, ne_int, ne_bool, ne_str, beq_dec, hv, ht, decide_eq_true n1, decide_eq_true n2, decide_eq_true n3, decide_eq_true n4, decide_eq_true n5]
  refine TCall.val (by simp only [EO]) (slices_Equal_Wire_T β β' _ _ ha.2 _) ?_
  by_cases n6 : a.args = b.args
  rotate_left
  · simp only [EV, EL, EB, EF, if_true, if_false, Bool.false_eq_true, Nat.reduceAdd, Option.bind_some, Bool.not_true, Bool.not_false, Nat.reduceBEq, impl_equalMessage_r, ne_int, ne_bool, ne_str, beq_dec, hv, ht, decide_eq_false n6, decide_eq_true n1, decide_eq_true n2, decide_eq_true n3, decide_eq_true n4, decide_eq_true n5]
    refine ⟨rfl, ?_⟩; rw [decide_eq_false (fun e => n6 (by rw [e]))]
  by_cases n7 : a.value = b.value
  rotate_left
  · simp only [EV, EL, EB, EF, if_true, if_false, Bool.false_eq_true, Nat.reduceAdd, Option.bind_some, Bool.not_true, Bool.not_false, Nat.reduceBEq, impl_equalMessage_r, ne_int, ne_bool, ne_str, beq_dec, hv, ht, decide_eq_false n7, decide_eq_true n1, decide_eq_true n2, decide_eq_true n3, decide_eq_true n4, decide_eq_true n5, decide_eq_true n6]
    refine ⟨rfl, ?_⟩; rw [decide_eq_false (fun e => n7 (by rw [e]))]
  by_cases n8 : a.count = b.count
  rotate_left
  · simp only [EV, EL, EB, EF, if_true, if_false, Bool.false_eq_true, Nat.reduceAdd, Option.bind_some, Bool.not_true, Bool.not_false, Nat.reduceBEq, impl_equalMessage_r, ne_int, ne_bool, ne_str, beq_dec, hv, ht, decide_eq_false n8, decide_eq_true n1, decide_eq_true n2, decide_eq_true n3, decide_eq_true n4, decide_eq_true n5, decide_eq_true n6, decide_eq_true n7]
    refine ⟨rfl, ?_⟩; rw [decide_eq_false (fun e => n8 (by rw [e]))]
  by_cases n9 : a.tag = b.tag
  rotate_left
  · simp only [EV, EL, EB, EF, if_true, if_false, Bool.false_eq_true, Nat.reduceAdd, Option.bind_some, Bool.not_true, Bool.not_false, Nat.reduceBEq, impl_equalMessage_r, ne_int, ne_bool, ne_str, beq_dec, hv, ht, decide_eq_false n9, decide_eq_true n1, decide_eq_true n2, decide_eq_true n3, decide_eq_true n4, decide_eq_true n5, decide_eq_true n6, decide_eq_true n7, decide_eq_true n8]
    refine ⟨rfl, ?_⟩; rw [decide_eq_false (fun e => n9 (by rw [e]))]
  simp only [EV, EL, EB, EF, if_true, if_false, Bool.false_eq_true, Nat.reduceAdd, Option.bind_some, Bool.not_true, Bool.not_false, Nat.reduceBEq, impl_equalMessage_r, ne_int, ne_bool, ne_str, beq_dec, hv, ht, decide_eq_true n1, decide_eq_true n2, decide_eq_true n3, decide_eq_true n4, decide_eq_true n5, decide_eq_true n6, decide_eq_true n7, decide_eq_true n8, decide_eq_true n9]
  exact ⟨rfl, by rw [decide_eq_true (by cases a; cases b; simp only [DMessage.mk.injEq]; exact ⟨n1, n2, n3, n4, n5, n6, n7, n8, n9⟩)]⟩

theorem impl_EqualOutputs_1_T (β β' : Bool) (a b : DOutgoing) (ha : a.ok 1073741824) (h : AH) : T Try.prog Γ Fn.impl_EqualOutputs_1 [.agg (a.c β), .agg (b.c β')] h fun v h' => v = .bool (decide (a = b)) ∧ h' = h := by
  refine impl_EqualOutputs_1_e (aw_sound tabOK mixed [] _ _ _ ?_)
  unfold impl_EqualOutputs_1_c
  simp only [DOutgoing.c]
  by_cases n1 : a.to_ = b.to_
  rotate_left
  · simp only [EV, EL, EB, EF, if_true, if_false, Bool.false_eq_true, Nat.reduceAdd, Option.bind_some, Bool.not_true, Bool.not_false, Nat.reduceBEq, impl_EqualOutputs_1_r, ne_int, ne_bool, ne_str, beq_dec, decide_eq_false n1]
    refine ⟨rfl, ?_⟩; rw [decide_eq_false (fun e => n1 (by rw [e]))]
  simp only [EV, EL, EB, EF, if_true, if_false, Bool.false_eq_true, Nat.reduceAdd, Option.bind_some, Bool.not_true, Bool.not_false, Nat.reduceBEq, impl_EqualOutputs_1_r, ne_int, ne_bool, ne_str, beq_dec, decide_eq_true n1]
  refine TCall.val (by simp only [EO]) (impl_equalMessage_T β β' a.message b.message ha _) ?_
  by_cases n2 : a.message = b.message
  rotate_left
  · simp only [EV, EL, EB, EF, if_true, if_false, Bool.false_eq_true, Nat.reduceAdd, Option.bind_some, Bool.not_true, Bool.not_false, Nat.reduceBEq, impl_EqualOutputs_1_r, ne_int, ne_bool, ne_str, beq_dec, decide_eq_false n2, decide_eq_true n1]
    refine ⟨rfl, ?_⟩; rw [decide_eq_false (fun e => n2 (by rw [e]))]
  simp only [EV, EL, EB, EF, if_true, if_false, Bool.false_eq_true, Nat.reduceAdd, Option.bind_some, Bool.not_true, Bool.not_false, Nat.reduceBEq, impl_EqualOutputs_1_r, ne_int, ne_bool, ne_str, beq_dec, decide_eq_true n1, decide_eq_true n2]
  exact ⟨rfl, by rw [decide_eq_true (by cases a; cases b; simp only [DOutgoing.mk.injEq]; exact ⟨n1, n2⟩)]⟩

theorem impl_EqualOutputs_T (β β' : Bool) (l m : List DOutgoing) (hl : l.length ≤ 1073741824) (ho : ∀ x ∈ l, x.ok 1073741824) (h : AH) : T Try.prog Γ Fn.impl_EqualOutputs [.vs β 13 false (l.map (DOutgoing.c β)), .vs β' 13 false (m.map (DOutgoing.c β'))] h fun v h' => v = .bool (decide (l = m)) ∧ h' = h := by
  refine impl_EqualOutputs_e (aw_sound tabOK mixed [] _ _ _ ?_)
  unfold impl_EqualOutputs_c
  simp only [EV, EL, EB, EF, if_true, if_false, Bool.false_eq_true, Nat.reduceAdd, Option.bind_some, Bool.not_true, Bool.not_false, Nat.reduceBEq, impl_EqualOutputs_r]
  have hcall := equalFunc_D (P := Try.prog) (Γ := Γ) tabOK mixed (sz := 13) (sz' := 13) rfl rfl (fun hw => slices_EqualFunc_iimpl_Outgoing_impl_Outgoing_impl_Outgoing_impl_Outgoing_e hw) (β := β) (β' := β') (l := l) (m := m) (c := DOutgoing.c β) (c' := DOutgoing.c β') (by omega) (fun x => ⟨rfl, rfl⟩) (fun x => ⟨rfl, rfl⟩)
    (g := Fn.impl_EqualOutputs_1) (first := []) (caps := []) rfl (fun x y => decide (x = y)) (h := h) (fun x hx y _ => impl_EqualOutputs_1_T β β' x y (ho x hx) h)
  refine TCall.val (by simp only [EO]) hcall ?_
  simp only [EV, EL, EB, EF, if_true, if_false, Bool.false_eq_true, Nat.reduceAdd, Option.bind_some, Bool.not_true, Bool.not_false, Nat.reduceBEq, impl_EqualOutputs_r, all2D_eq]
  first | exact ⟨rfl, rfl⟩ | exact rfl

end Go.Proofs.Ytjmcfdhklogpkaa
