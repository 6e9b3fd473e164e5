import Derived.Test.YtjmcfdhklogpkaaR2V3
set_option linter.unusedVariables false
set_option linter.unusedSimpArgs false
namespace Go.Proofs.Ytjmcfdhklogpkaa
open Go.AM
set_option linter.unusedVariables false
set_option linter.unusedSimpArgs false
variable {Γ : Glob}
/-! Shapes; links to peers; entries; where calls go; kept promises. -/
theorem impl_EqualLinks_T (β β' : Bool) (a b : DLink) (ha : a.ok 1073741824) (h : AH) : T Try.prog Γ Fn.impl_EqualLinks [.agg (a.c β), .agg (b.c β')] h fun v h' => v = .bool (decide (a = b)) ∧ h' = h := by
  refine impl_EqualLinks_e (aw_sound tabOK mixed [] _ _ _ ?_)
  unfold impl_EqualLinks_c
  simp only [DLink.c]
  by_cases n1 : a.peer = b.peer
  rotate_left
  · simp only [EV, EL, EB, EF, if_true, if_false, Bool.false_eq_true, Nat.reduceAdd, Option.bind_some, Bool.not_true, Bool.not_false, Nat.reduceBEq, impl_EqualLinks_r, ne_int, ne_bool, ne_str, beq_dec, decide_eq_false n1]
    refine ⟨rfl, ?_⟩; rw [decide_eq_false (fun e => n1 (by rw [e]))]
  by_cases n2 : a.up = b.up
  rotate_left
  · simp only [EV, EL, EB, EF, if_true, if_false, Bool.false_eq_true, Nat.reduceAdd, Option.bind_some, Bool.not_true, Bool.not_false, Nat.reduceBEq, impl_EqualLinks_r, ne_int, ne_bool, ne_str, beq_dec, decide_eq_false n2, decide_eq_true n1]
    refine ⟨rfl, ?_⟩; rw [decide_eq_false (fun e => n2 (by rw [e]))]
  simp only [EV, EL, EB, EF, if_true, if_false, Bool.false_eq_true, Nat.reduceAdd, Option.bind_some, Bool.not_true, Bool.not_false, Nat.reduceBEq, impl_EqualLinks_r, ne_int, ne_bool, ne_str, beq_dec, decide_eq_true n1, decide_eq_true n2]
  refine TCall.val (by simp only [EO]) (slices_Equal_Export_T β β' _ _ ha.1 _) ?_
  by_cases n3 : a.exports = b.exports
  rotate_left
  · simp only [EV, EL, EB, EF, if_true, if_false, Bool.false_eq_true, Nat.reduceAdd, Option.bind_some, Bool.not_true, Bool.not_false, Nat.reduceBEq, impl_EqualLinks_r, ne_int, ne_bool, ne_str, beq_dec, decide_eq_false n3, decide_eq_true n1, decide_eq_true n2]
    refine ⟨rfl, ?_⟩; rw [decide_eq_false (fun e => n3 (by rw [e]))]
  by_cases n4 : a.next = b.next
  rotate_left
  · simp only [EV, EL, EB, EF, if_true, if_false, Bool.false_eq_true, Nat.reduceAdd, Option.bind_some, Bool.not_true, Bool.not_false, Nat.reduceBEq, impl_EqualLinks_r, ne_int, ne_bool, ne_str, beq_dec, decide_eq_false n4, decide_eq_true n1, decide_eq_true n2, decide_eq_true n3]
    refine ⟨rfl, ?_⟩; rw [decide_eq_false (fun e => n4 (by rw [e]))]
  simp only [EV, EL, EB, EF, if_true, if_false, Bool.false_eq_true, Nat.reduceAdd, Option.bind_some, Bool.not_true, Bool.not_false, Nat.reduceBEq, impl_EqualLinks_r, ne_int, ne_bool, ne_str, beq_dec, decide_eq_true n1, decide_eq_true n2, decide_eq_true n3, decide_eq_true n4]
  refine TCall.val (by simp only [EO]) (slices_Equal_Question_T β β' _ _ ha.2.1 _) ?_
  by_cases n5 : a.questions = b.questions
  rotate_left
  · simp only [EV, EL, EB, EF, if_true, if_false, Bool.false_eq_true, Nat.reduceAdd, Option.bind_some, Bool.not_true, Bool.not_false, Nat.reduceBEq, impl_EqualLinks_r, ne_int, ne_bool, ne_str, beq_dec, decide_eq_false n5, decide_eq_true n1, decide_eq_true n2, decide_eq_true n3, decide_eq_true n4]
    refine ⟨rfl, ?_⟩; rw [decide_eq_false (fun e => n5 (by rw [e]))]
  by_cases n6 : a.asked = b.asked
  rotate_left
  · simp only [EV, EL, EB, EF, if_true, if_false, Bool.false_eq_true, Nat.reduceAdd, Option.bind_some, Bool.not_true, Bool.not_false, Nat.reduceBEq, impl_EqualLinks_r, ne_int, ne_bool, ne_str, beq_dec, decide_eq_false n6, decide_eq_true n1, decide_eq_true n2, decide_eq_true n3, decide_eq_true n4, decide_eq_true n5]
    refine ⟨rfl, ?_⟩; rw [decide_eq_false (fun e => n6 (by rw [e]))]
  simp only [EV, EL, EB, EF, if_true, if_false, Bool.false_eq_true, Nat.reduceAdd, Option.bind_some, Bool.not_true, Bool.not_false, Nat.reduceBEq, impl_EqualLinks_r, ne_int, ne_bool, ne_str, beq_dec, decide_eq_true n1, decide_eq_true n2, decide_eq_true n3, decide_eq_true n4, decide_eq_true n5, decide_eq_true n6]
  refine TCall.val (by simp only [EO]) (slices_Equal_Question_T β β' _ _ ha.2.2 _) ?_
  by_cases n7 : a.answers = b.answers
  rotate_left
  · simp only [EV, EL, EB, EF, if_true, if_false, Bool.false_eq_true, Nat.reduceAdd, Option.bind_some, Bool.not_true, Bool.not_false, Nat.reduceBEq, impl_EqualLinks_r, ne_int, ne_bool, ne_str, beq_dec, decide_eq_false n7, decide_eq_true n1, decide_eq_true n2, decide_eq_true n3, decide_eq_true n4, decide_eq_true n5, decide_eq_true n6]
    refine ⟨rfl, ?_⟩; rw [decide_eq_false (fun e => n7 (by rw [e]))]
  simp only [EV, EL, EB, EF, if_true, if_false, Bool.false_eq_true, Nat.reduceAdd, Option.bind_some, Bool.not_true, Bool.not_false, Nat.reduceBEq, impl_EqualLinks_r, ne_int, ne_bool, ne_str, beq_dec, decide_eq_true n1, decide_eq_true n2, decide_eq_true n3, decide_eq_true n4, decide_eq_true n5, decide_eq_true n6, decide_eq_true n7]
  exact ⟨rfl, by rw [decide_eq_true (by cases a; cases b; simp only [DLink.mk.injEq]; exact ⟨n1, n2, n3, n4, n5, n6, n7⟩)]⟩

def kindEq (x y : DEntity) : Bool := decide (x.kind = y.kind)
def sameShapeF (a b : DVat) : Bool := decide (a.id = b.id) && (all2D kindEq a.entities b.entities && decide (a.links = b.links))

theorem impl_SameShape_1_T (β β' : Bool) (a b : DEntity) (h : AH) : T Try.prog Γ Fn.impl_SameShape_1 [.agg (a.c β), .agg (b.c β')] h fun v h' => v = .bool (kindEq a b) ∧ h' = h := by
  refine impl_SameShape_1_e (aw_sound tabOK mixed [] _ _ _ ?_)
  unfold impl_SameShape_1_c
  simp only [EV, EL, EB, EF, if_true, if_false, Bool.false_eq_true, Nat.reduceAdd, Option.bind_some, Bool.not_true, Bool.not_false, Nat.reduceBEq, impl_SameShape_1_r, DEntity.c, beq_dec]
  first | exact ⟨rfl, rfl⟩ | exact rfl

theorem impl_SameShape_T (β β' : Bool) (a b : DVat) (ha : a.ok 1073741824) (h : AH) : T Try.prog Γ Fn.impl_SameShape [.agg (a.c β), .agg (b.c β')] h fun v h' => v = .bool (sameShapeF a b) ∧ h' = h := by
  refine impl_SameShape_e (aw_sound tabOK mixed [] _ _ _ ?_)
  unfold impl_SameShape_c
  simp only [DVat.c]
  by_cases n1 : a.id = b.id
  rotate_left
  · simp only [EV, EL, EB, EF, if_true, if_false, Bool.false_eq_true, Nat.reduceAdd, Option.bind_some, Bool.not_true, Bool.not_false, Nat.reduceBEq, impl_SameShape_r, beq_dec, decide_eq_false n1]
    exact ⟨rfl, by simp only [sameShapeF, decide_eq_false n1, Bool.false_and]⟩
  simp only [EV, EL, EB, EF, if_true, if_false, Bool.false_eq_true, Nat.reduceAdd, Option.bind_some, Bool.not_true, Bool.not_false, Nat.reduceBEq, impl_SameShape_r, beq_dec, decide_eq_true n1]
  have h1 := equalFunc_D (P := Try.prog) (Γ := Γ) tabOK mixed (sz := 12) (sz' := 12) rfl rfl (fun hw => slices_EqualFunc_iimpl_Entity_impl_Entity_impl_Entity_impl_Entity_e hw) (β := β) (β' := β') (l := a.entities) (m := b.entities) (c := DEntity.c β) (c' := DEntity.c β') (by have := ha.1; omega) (fun x => ⟨rfl, rfl⟩) (fun x => ⟨rfl, rfl⟩)
    (g := Fn.impl_SameShape_1) (first := []) (caps := []) rfl kindEq (h := h) (fun x hx y _ => impl_SameShape_1_T β β' x y h)
  refine TCall.val (by simp only [EO]) h1 ?_
  cases n2 : all2D kindEq a.entities b.entities
  · simp only [EV, EL, EB, EF, if_true, if_false, Bool.false_eq_true, Nat.reduceAdd, Option.bind_some, Bool.not_true, Bool.not_false, Nat.reduceBEq, impl_SameShape_r]
    exact ⟨rfl, by simp only [sameShapeF, n2, Bool.and_false, Bool.false_and]⟩
  simp only [EV, EL, EB, EF, if_true, if_false, Bool.false_eq_true, Nat.reduceAdd, Option.bind_some, Bool.not_true, Bool.not_false, Nat.reduceBEq, impl_SameShape_r]
  have h2 := equalFunc_D (P := Try.prog) (Γ := Γ) tabOK mixed (sz := 7) (sz' := 7) rfl rfl (fun hw => slices_EqualFunc_iimpl_Link_impl_Link_impl_Link_impl_Link_e hw) (β := β) (β' := β') (l := a.links) (m := b.links) (c := DLink.c β) (c' := DLink.c β') (by have := ha.2.2.2.2.1; omega) (fun x => ⟨rfl, rfl⟩) (fun x => ⟨rfl, rfl⟩)
    (g := Fn.impl_EqualLinks) (first := []) (caps := []) rfl (fun x y => decide (x = y)) (h := h) (fun x hx y _ => impl_EqualLinks_T β β' x y (ha.2.2.2.2.2.1 x hx) h)
  refine TCall.val (by simp only [EO]) h2 ?_
  simp only [EV, EL, EB, EF, if_true, if_false, Bool.false_eq_true, Nat.reduceAdd, Option.bind_some, Bool.not_true, Bool.not_false, Nat.reduceBEq, impl_SameShape_r, all2D_eq]
  exact ⟨rfl, by simp only [sameShapeF, n2, decide_eq_true n1, Bool.true_and]⟩

theorem kinds_all {l m : List DEntity} (hl : l.length = m.length) (h : ∀ (i : Nat) (h1 : i < l.length), i < l.length → ∀ h2 : i < m.length, l[i].kind = m[i].kind) : all2D kindEq l m = true :=
  all2D_true hl fun i h1 h2 => by simp only [kindEq]; exact decide_eq_true (h i h1 h1 h2)

theorem spec_SameShape_T (β β' : Bool) (a b : DVat) (ha : a.ok 1073741824) (h : AH) : T Try.prog Γ Fn.spec_SameShape [.agg (a.c β), .agg (b.c β')] h fun v h' => v = .bool (sameShapeF a b) ∧ h' = h := by
  have La := len_vm β 12 false a.entities (DEntity.c β)
  have Lb := len_vm β' 12 false b.entities (DEntity.c β')
  have La2 := len_vm β 7 false a.links (DLink.c β)
  have Lb2 := len_vm β' 7 false b.links (DLink.c β')
  obtain ⟨hl1, ho1, hl2, ho2, hl3, ho3, hl4, ho4⟩ := ha
  refine spec_SameShape_e (aw_sound tabOK mixed [] _ _ _ ?_)
  unfold spec_SameShape_c
  simp only [DVat.c]
  by_cases n1 : a.id = b.id
  rotate_left
  · simp only [EV, EL, EB, EF, if_true, if_false, Bool.false_eq_true, Nat.reduceAdd, Option.bind_some, Bool.not_true, Bool.not_false, Nat.reduceBEq, spec_SameShape_r, spec_SameShape_d0_q, spec_SameShape_d1_q, ne_int, decide_eq_false n1]
    exact ⟨rfl, by simp only [sameShapeF, decide_eq_false n1, Bool.false_and]⟩
  by_cases n2 : (a.entities.length : Int) = b.entities.length
  rotate_left
  · simp only [EV, EL, EB, EF, if_true, if_false, Bool.false_eq_true, Nat.reduceAdd, Option.bind_some, Bool.not_true, Bool.not_false, Nat.reduceBEq, spec_SameShape_r, spec_SameShape_d0_q, spec_SameShape_d1_q, ne_int, decide_eq_true n1, La, Lb, decide_eq_false n2]
    exact ⟨rfl, by simp only [sameShapeF, all2D_len (p := kindEq) (show a.entities.length ≠ b.entities.length by omega), Bool.and_false, Bool.false_and]⟩
  by_cases n3 : (a.links.length : Int) = b.links.length
  rotate_left
  · simp only [EV, EL, EB, EF, if_true, if_false, Bool.false_eq_true, Nat.reduceAdd, Option.bind_some, Bool.not_true, Bool.not_false, Nat.reduceBEq, spec_SameShape_r, spec_SameShape_d0_q, spec_SameShape_d1_q, ne_int, decide_eq_true n1, La, Lb, decide_eq_true n2, La2, Lb2, decide_eq_false n3]
    exact ⟨rfl, by simp only [sameShapeF, decide_eq_false (show a.links ≠ b.links from fun e => n3 (by rw [e])), Bool.and_false]⟩
  simp only [EV, EL, EB, EF, if_true, if_false, Bool.false_eq_true, Nat.reduceAdd, Option.bind_some, Bool.not_true, Bool.not_false, Nat.reduceBEq, spec_SameShape_r, spec_SameShape_d0_q, spec_SameShape_d1_q, ne_int, decide_eq_true n1, La, Lb, decide_eq_true n2, La2, Lb2, decide_eq_true n3]
  refine loopI tabOK mixed [] (fun k : Nat => k ≤ a.entities.length ∧ ∀ (i : Nat) (h1 : i < a.entities.length), i < k → ∀ h2 : i < b.entities.length, a.entities[i].kind = b.entities[i].kind) (fun k => a.entities.length - k)
    (fun k => spec_SameShape_s0 (.lp ([] : List (List AV)).length 0) (.lp (([] : List (List AV)).length + 1) 0) (.int .i64 k) (([] : List (List AV)) ++ [a.c β, b.c β']) h) 0 ⟨by omega, fun i hi h => by omega⟩ ⟨by simp [spec_SameShape_s0, LeL, LeV], rfl, rfl⟩ ?_
  rintro k ⟨hk, ht⟩
  simp only [EV, EL, EB, EF, if_true, if_false, Bool.false_eq_true, Nat.reduceAdd, Option.bind_some, Bool.not_true, Bool.not_false, Nat.reduceBEq, spec_SameShape_r, spec_SameShape_d0_q, spec_SameShape_d1_q, spec_SameShape_s0, DVat.c, La]
  refine c_split (fun hlt => ?_) (fun hge => ?_)
  · have hlt : k < a.entities.length := by simpa using hlt
    have hlt' : k < b.entities.length := by omega
    have i0 := idx_vm (β := β) (sz := 12) (ex := false) (ce := DEntity.c β) hlt
    have i1 := idx_vm (β := β') (sz := 12) (ex := false) (ce := DEntity.c β') hlt'
    by_cases hp : a.entities[k].kind = b.entities[k].kind
    rotate_left
    · simp only [EV, EL, EB, EF, if_true, if_false, Bool.false_eq_true, Nat.reduceAdd, Option.bind_some, Bool.not_true, Bool.not_false, Nat.reduceBEq, spec_SameShape_r, spec_SameShape_d0_q, spec_SameShape_d1_q, DVat.c, i0, i1, DEntity.c, ne_int, decide_eq_false hp]
      exact ⟨rfl, by simp only [sameShapeF, all2D_false (p := kindEq) k hlt hlt' (by simp only [kindEq, decide_eq_false hp]), Bool.and_false, Bool.false_and]⟩
    · simp only [EV, EL, EB, EF, if_true, if_false, Bool.false_eq_true, Nat.reduceAdd, Option.bind_some, Bool.not_true, Bool.not_false, Nat.reduceBEq, spec_SameShape_r, spec_SameShape_d0_q, spec_SameShape_d1_q, DVat.c, i0, i1, DEntity.c, ne_int, decide_eq_true hp]
      exact ⟨k + 1, ⟨hlt, fun i g1 hik g2 => by
        rcases Nat.lt_or_ge i k with g | g
        · exact ht i g1 g g2
        · have : i = k := by omega
          subst this; exact hp⟩, by omega, ⟨by rw [wN (by omega)]; simp [spec_SameShape_s0, LeL, LeV], rfl, rfl⟩⟩
  have hge : k = a.entities.length := by simp at hge; omega
  subst hge
  have n4 := kinds_all (by omega) ht
  clear ht hk
  simp only [EV, EL, EB, EF, if_true, if_false, Bool.false_eq_true, Nat.reduceAdd, Option.bind_some, Bool.not_true, Bool.not_false, Nat.reduceBEq, spec_SameShape_r, spec_SameShape_d0_q, spec_SameShape_d1_q]
  have hF : sameShapeF a b = decide (a.links = b.links) := by simp only [sameShapeF, n4, decide_eq_true n1, Bool.true_and]
  rw [hF]
  refine loopI tabOK mixed [] (fun k : Nat => k ≤ a.links.length ∧ ∀ (i : Nat) (h1 : i < a.links.length), i < k → ∀ h2 : i < b.links.length, a.links[i] = b.links[i]) (fun k => a.links.length - k)
    (fun k => spec_SameShape_s1 (.lp ([] : List (List AV)).length 0) (.lp (([] : List (List AV)).length + 1) 0) (.int .i64 k) (([] : List (List AV)) ++ [a.c β, b.c β']) h) 0 ⟨by omega, fun i hi h => by omega⟩ ⟨by simp [spec_SameShape_s1, LeL, LeV], rfl, rfl⟩ ?_
  rintro k ⟨hk, ht⟩
  simp only [EV, EL, EB, EF, if_true, if_false, Bool.false_eq_true, Nat.reduceAdd, Option.bind_some, Bool.not_true, Bool.not_false, Nat.reduceBEq, spec_SameShape_r, spec_SameShape_d0_q, spec_SameShape_d1_q, spec_SameShape_s1, DVat.c, La2]
  refine c_split (fun hlt => ?_) (fun hge => ?_)
  · have hlt : k < a.links.length := by simpa using hlt
    have hlt' : k < b.links.length := by omega
    have i0 := idx_vm (β := β) (sz := 7) (ex := false) (ce := DLink.c β) hlt
    have i1 := idx_vm (β := β') (sz := 7) (ex := false) (ce := DLink.c β') hlt'
    simp only [EV, EL, EB, EF, if_true, if_false, Bool.false_eq_true, Nat.reduceAdd, Option.bind_some, Bool.not_true, Bool.not_false, Nat.reduceBEq, spec_SameShape_r, spec_SameShape_d0_q, spec_SameShape_d1_q, DVat.c, i0, i1, DLink.c]
    refine TCall.val (by simp only [EO]) (spec_EqualLinks_T β β' _ _ (ho3 _ (List.getElem_mem hlt)) _) ?_
    by_cases hp : a.links[k] = b.links[k]
    rotate_left
    · simp only [EV, EL, EB, EF, if_true, if_false, Bool.false_eq_true, Nat.reduceAdd, Option.bind_some, Bool.not_true, Bool.not_false, Nat.reduceBEq, spec_SameShape_r, spec_SameShape_d0_q, spec_SameShape_d1_q, decide_eq_false hp]
      refine ⟨rfl, ?_⟩; rw [decide_eq_false (fun e => hp (by simp only [e]))]
    · simp only [EV, EL, EB, EF, if_true, if_false, Bool.false_eq_true, Nat.reduceAdd, Option.bind_some, Bool.not_true, Bool.not_false, Nat.reduceBEq, spec_SameShape_r, spec_SameShape_d0_q, spec_SameShape_d1_q, decide_eq_true hp]
      exact ⟨k + 1, ⟨hlt, fun i g1 hik g2 => by
        rcases Nat.lt_or_ge i k with g | g
        · exact ht i g1 g g2
        · have : i = k := by omega
          subst this; exact hp⟩, by omega, ⟨by rw [wN (by omega)]; simp [spec_SameShape_s1, LeL, LeV], rfl, rfl⟩⟩
  have hge : k = a.links.length := by simp at hge; omega
  subst hge
  simp only [EV, EL, EB, EF, if_true, if_false, Bool.false_eq_true, Nat.reduceAdd, Option.bind_some, Bool.not_true, Bool.not_false, Nat.reduceBEq, spec_SameShape_r, spec_SameShape_d0_q, spec_SameShape_d1_q]
  exact ⟨rfl, by rw [decide_eq_true (ext_lt (by omega) ht)]⟩

end Go.Proofs.Ytjmcfdhklogpkaa
