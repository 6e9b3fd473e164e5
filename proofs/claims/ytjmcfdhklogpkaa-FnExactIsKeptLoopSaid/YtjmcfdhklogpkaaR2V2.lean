import Derived.Test.YtjmcfdhklogpkaaR2V1
set_option linter.unusedVariables false
set_option linter.unusedSimpArgs false
namespace Go.Proofs.Ytjmcfdhklogpkaa
open Go.AM
set_option linter.unusedVariables false
set_option linter.unusedSimpArgs false
variable {Γ : Glob}
/-! Equality; links and entries. -/
theorem ne2 {α : Type} (x y : α) [Decidable (x = y)] : (!decide (x = y)) = !decide (x = y) := rfl
theorem DValue.ne (x y : DValue) : aBin .neq (.agg [.int .i64, .int .i64]) (.agg [.int .i64 x.kind, .int .i64 x.n]) (.agg [.int .i64 y.kind, .int .i64 y.n]) = some (.bool !decide (x = y)) := by rw [ne_agg2]; simp only [DValue.dec]
theorem DAsker.ne (x y : DAsker) : aBin .neq (.agg [.int .i64, .int .i64]) (.agg [.int .i64 x.peer, .int .i64 x.question]) (.agg [.int .i64 y.peer, .int .i64 y.question]) = some (.bool !decide (x = y)) := by rw [ne_agg2]; simp only [DAsker.dec]
theorem DQuestion.ne (x y : DQuestion) : aBin .neq (.agg [.int .i64, .int .i64]) (.agg [.int .i64 x.id, .int .i64 x.promise]) (.agg [.int .i64 y.id, .int .i64 y.promise]) = some (.bool !decide (x = y)) := by rw [ne_agg2]; simp only [DQuestion.dec]
theorem DWire.ne (x y : DWire) : aBin .neq (.agg [.int .i64, .int .i64]) (.agg [.int .i64 x.kind, .int .i64 x.n]) (.agg [.int .i64 y.kind, .int .i64 y.n]) = some (.bool !decide (x = y)) := by rw [ne_agg2]; simp only [DWire.dec]
theorem DTag.ne (x y : DTag) : aBin .neq (.agg [.int .i64, .int .i64, .int .i64]) (.agg [.int .i64 x.vat, .int .i64 x.entity, .int .i64 x.seq]) (.agg [.int .i64 y.vat, .int .i64 y.entity, .int .i64 y.seq]) = some (.bool !decide (x = y)) := by rw [ne_agg3]; simp only [DTag.dec]
theorem DExport.ne (x y : DExport) : aBin .neq (.agg [.int .i64, .int .i64, .int .i64]) (.agg [.int .i64 x.pos, .int .i64 x.entity, .int .i64 x.count]) (.agg [.int .i64 y.pos, .int .i64 y.entity, .int .i64 y.count]) = some (.bool !decide (x = y)) := by rw [ne_agg3]; simp only [DExport.dec]
theorem bool_b (b : Bool) : (!b) = !b := rfl

theorem spec_EqualValues_T (β β' : Bool) (l m : List DValue) (hl : l.length ≤ 1073741824) (h : AH) : T Try.prog Γ Fn.spec_EqualValues [.vs β 2 false (l.map (DValue.c β)), .vs β' 2 false (m.map (DValue.c β'))] h fun v h' => v = .bool (decide (l = m)) ∧ h' = h :=
  flatEq_D (sz := 2) (agg := true) (ek := .agg [.int .i64, .int .i64]) tabOK mixed (fun hw => spec_EqualValues_e hw) (by omega) (fun x => ⟨rfl, .inl rfl⟩) (fun x => ⟨rfl, .inl rfl⟩) (fun x y => DValue.ne x y)
theorem spec_l10Same_T (β β' : Bool) (l m : List DQuestion) (hl : l.length ≤ 1073741824) (h : AH) : T Try.prog Γ Fn.spec_l10Same [.vs β 2 false (l.map (DQuestion.c β)), .vs β' 2 false (m.map (DQuestion.c β'))] h fun v h' => v = .bool (decide (l = m)) ∧ h' = h :=
  flatEq_D (sz := 2) (agg := true) (ek := .agg [.int .i64, .int .i64]) tabOK mixed (fun hw => spec_l10Same_e hw) (by omega) (fun x => ⟨rfl, .inl rfl⟩) (fun x => ⟨rfl, .inl rfl⟩) (fun x y => DQuestion.ne x y)
theorem slices_Equal_Wire_T (β β' : Bool) (l m : List DWire) (hl : l.length ≤ 1073741824) (h : AH) : T Try.prog Γ Fn.slices_Equal_iimpl_Wire_impl_Wire [.vs β 2 false (l.map (DWire.c β)), .vs β' 2 false (m.map (DWire.c β'))] h fun v h' => v = .bool (decide (l = m)) ∧ h' = h :=
  equal_D (sz := 2) (agg := true) (ek := .agg [.int .i64, .int .i64]) tabOK mixed (fun hw => slices_Equal_iimpl_Wire_impl_Wire_e hw) (by omega) (fun x => ⟨rfl, .inl rfl⟩) (fun x => ⟨rfl, .inl rfl⟩) (fun x y => DWire.ne x y)
theorem slices_Equal_Export_T (β β' : Bool) (l m : List DExport) (hl : l.length ≤ 1073741824) (h : AH) : T Try.prog Γ Fn.slices_Equal_iimpl_Export_impl_Export [.vs β 3 false (l.map (DExport.c β)), .vs β' 3 false (m.map (DExport.c β'))] h fun v h' => v = .bool (decide (l = m)) ∧ h' = h :=
  equal_D (sz := 3) (agg := true) (ek := .agg [.int .i64, .int .i64, .int .i64]) tabOK mixed (fun hw => slices_Equal_iimpl_Export_impl_Export_e hw) (by omega) (fun x => ⟨rfl, .inl rfl⟩) (fun x => ⟨rfl, .inl rfl⟩) (fun x y => DExport.ne x y)
theorem slices_Equal_Question_T (β β' : Bool) (l m : List DQuestion) (hl : l.length ≤ 1073741824) (h : AH) : T Try.prog Γ Fn.slices_Equal_iimpl_Question_impl_Question [.vs β 2 false (l.map (DQuestion.c β)), .vs β' 2 false (m.map (DQuestion.c β'))] h fun v h' => v = .bool (decide (l = m)) ∧ h' = h :=
  equal_D (sz := 2) (agg := true) (ek := .agg [.int .i64, .int .i64]) tabOK mixed (fun hw => slices_Equal_iimpl_Question_impl_Question_e hw) (by omega) (fun x => ⟨rfl, .inl rfl⟩) (fun x => ⟨rfl, .inl rfl⟩) (fun x y => DQuestion.ne x y)

theorem ext_lt {α : Type} {l m : List α} (hl : l.length = m.length) (h : ∀ (i : Nat) (h1 : i < l.length), i < l.length → ∀ h2 : i < m.length, l[i] = m[i]) : l = m := List.ext_getElem hl fun i g1 g2 => h i g1 g1 g2

theorem spec_EqualLinks_T (β β' : Bool) (a b : DLink) (ha : a.ok 1073741824) (h : AH) : T Try.prog Γ Fn.spec_EqualLinks [.agg (a.c β), .agg (b.c β')] h fun v h' => v = .bool (decide (a = b)) ∧ h' = h := by
  have La := len_vm β 3 false a.exports (DExport.c β)
  have Lb := len_vm β' 3 false b.exports (DExport.c β')
  have hlim := ha.1
  refine spec_EqualLinks_e (aw_sound tabOK mixed [] _ _ _ ?_)
  unfold spec_EqualLinks_c
  simp only [DLink.c]
  by_cases n1 : a.peer = b.peer
  rotate_left
  · simp only [EV, EL, EB, EF, if_true, if_false, Bool.false_eq_true, Nat.reduceAdd, Option.bind_some, Bool.not_true, Bool.not_false, Nat.reduceBEq, spec_EqualLinks_r, spec_EqualLinks_d0_q, ne_int, ne_bool, ne_str, La, Lb, decide_eq_false n1]
    refine ⟨rfl, ?_⟩; rw [decide_eq_false (fun e => n1 (by rw [e]))]
  by_cases n2 : a.up = b.up
  rotate_left
  · simp only [EV, EL, EB, EF, if_true, if_false, Bool.false_eq_true, Nat.reduceAdd, Option.bind_some, Bool.not_true, Bool.not_false, Nat.reduceBEq, spec_EqualLinks_r, spec_EqualLinks_d0_q, ne_int, ne_bool, ne_str, La, Lb, decide_eq_false n2, decide_eq_true n1]
    refine ⟨rfl, ?_⟩; rw [decide_eq_false (fun e => n2 (by rw [e]))]
  by_cases n3 : a.next = b.next
  rotate_left
  · simp only [EV, EL, EB, EF, if_true, if_false, Bool.false_eq_true, Nat.reduceAdd, Option.bind_some, Bool.not_true, Bool.not_false, Nat.reduceBEq, spec_EqualLinks_r, spec_EqualLinks_d0_q, ne_int, ne_bool, ne_str, La, Lb, decide_eq_false n3, decide_eq_true n1, decide_eq_true n2]
    refine ⟨rfl, ?_⟩; rw [decide_eq_false (fun e => n3 (by rw [e]))]
  by_cases n4 : a.asked = b.asked
  rotate_left
  · simp only [EV, EL, EB, EF, if_true, if_false, Bool.false_eq_true, Nat.reduceAdd, Option.bind_some, Bool.not_true, Bool.not_false, Nat.reduceBEq, spec_EqualLinks_r, spec_EqualLinks_d0_q, ne_int, ne_bool, ne_str, La, Lb, decide_eq_false n4, decide_eq_true n1, decide_eq_true n2, decide_eq_true n3]
    refine ⟨rfl, ?_⟩; rw [decide_eq_false (fun e => n4 (by rw [e]))]
  by_cases n5 : (a.exports.length : Int) = (b.exports.length : Int)
  rotate_left
  · simp only [EV, EL, EB, EF, if_true, if_false, Bool.false_eq_true, Nat.reduceAdd, Option.bind_some, Bool.not_true, Bool.not_false, Nat.reduceBEq, spec_EqualLinks_r, spec_EqualLinks_d0_q, ne_int, ne_bool, ne_str, La, Lb, decide_eq_false n5, decide_eq_true n1, decide_eq_true n2, decide_eq_true n3, decide_eq_true n4]
    refine ⟨rfl, ?_⟩; rw [decide_eq_false (fun e => n5 (by rw [e]))]
  simp only [EV, EL, EB, EF, if_true, if_false, Bool.false_eq_true, Nat.reduceAdd, Option.bind_some, Bool.not_true, Bool.not_false, Nat.reduceBEq, spec_EqualLinks_r, spec_EqualLinks_d0_q, ne_int, ne_bool, ne_str, La, Lb, decide_eq_true n1, decide_eq_true n2, decide_eq_true n3, decide_eq_true n4, decide_eq_true n5]
  refine loopI tabOK mixed [] (fun k : Nat => k ≤ a.exports.length ∧ ∀ (i : Nat) (h1 : i < a.exports.length), i < k → ∀ h2 : i < b.exports.length, a.exports[i] = b.exports[i]) (fun k => a.exports.length - k)
    (fun k => spec_EqualLinks_s0 (.lp ([] : List (List AV)).length 0) (.lp (([] : List (List AV)).length + 1) 0) (.int .i64 k) (([] : List (List AV)) ++ [a.c β, b.c β']) h) 0 ⟨by omega, fun i hi h => by omega⟩ ⟨by simp [spec_EqualLinks_s0, LeL, LeV], rfl, rfl⟩ ?_
  rintro k ⟨hk, ht⟩
  simp only [EV, EL, EB, EF, if_true, if_false, Bool.false_eq_true, Nat.reduceAdd, Option.bind_some, Bool.not_true, Bool.not_false, Nat.reduceBEq, spec_EqualLinks_r, spec_EqualLinks_d0_q, spec_EqualLinks_s0, DLink.c, La]
  refine c_split (fun hlt => ?_) (fun hge => ?_)
  · have hlt : k < a.exports.length := by simpa using hlt
    have hlt' : k < b.exports.length := by omega
    have i0 := idx_vm (β := β) (sz := 3) (ex := false) (ce := DExport.c β) hlt
    have i1 := idx_vm (β := β') (sz := 3) (ex := false) (ce := DExport.c β') hlt'
    simp only [EV, EL, EB, EF, if_true, if_false, Bool.false_eq_true, Nat.reduceAdd, Option.bind_some, Bool.not_true, Bool.not_false, Nat.reduceBEq, spec_EqualLinks_r, spec_EqualLinks_d0_q, DLink.c, La, i0, i1, DExport.c, DExport.ne]
    by_cases hp : a.exports[k] = b.exports[k]
    rotate_left
    · simp only [EV, EL, EB, EF, if_true, if_false, Bool.false_eq_true, Nat.reduceAdd, Option.bind_some, Bool.not_true, Bool.not_false, Nat.reduceBEq, spec_EqualLinks_r, spec_EqualLinks_d0_q, DLink.c, La, decide_eq_false hp, DExport.ne]
      refine ⟨rfl, ?_⟩; rw [decide_eq_false (fun e => hp (by subst e; rfl))]
    · simp only [EV, EL, EB, EF, if_true, if_false, Bool.false_eq_true, Nat.reduceAdd, Option.bind_some, Bool.not_true, Bool.not_false, Nat.reduceBEq, spec_EqualLinks_r, spec_EqualLinks_d0_q, DLink.c, La, decide_eq_true hp, DExport.ne]
      exact ⟨k + 1, ⟨hlt, fun i g1 hik g2 => by
        rcases Nat.lt_or_ge i k with g | g
        · exact ht i g1 g g2
        · have : i = k := by omega
          subst this; exact hp⟩, by omega, ⟨by rw [wN (by omega)]; simp [spec_EqualLinks_s0, LeL, LeV], rfl, rfl⟩⟩
  have hge : k = a.exports.length := by simp at hge; omega
  subst hge
  have n6 : a.exports = b.exports := ext_lt (by omega) ht
  clear ht hk

  simp only [EV, EL, EB, EF, if_true, if_false, Bool.false_eq_true, Nat.reduceAdd, Option.bind_some, Bool.not_true, Bool.not_false, Nat.reduceBEq, spec_EqualLinks_r, spec_EqualLinks_d0_q]
  refine TCall.val (by simp only [EO]) (spec_l10Same_T β β' _ _ ha.2.1 _) ?_
  by_cases n7 : a.questions = b.questions
  rotate_left
  · simp only [EV, EL, EB, EF, if_true, if_false, Bool.false_eq_true, Nat.reduceAdd, Option.bind_some, Bool.not_true, Bool.not_false, Nat.reduceBEq, spec_EqualLinks_r, spec_EqualLinks_d0_q, decide_eq_false n7]
    refine ⟨rfl, ?_⟩; rw [decide_eq_false (fun e => n7 (by rw [e]))]
  simp only [EV, EL, EB, EF, if_true, if_false, Bool.false_eq_true, Nat.reduceAdd, Option.bind_some, Bool.not_true, Bool.not_false, Nat.reduceBEq, spec_EqualLinks_r, spec_EqualLinks_d0_q, decide_eq_true n7]
  refine TCall.val (by simp only [EO]) (spec_l10Same_T β β' _ _ ha.2.2 _) ?_
  by_cases n8 : a.answers = b.answers
  rotate_left
  · simp only [EV, EL, EB, EF, if_true, if_false, Bool.false_eq_true, Nat.reduceAdd, Option.bind_some, Bool.not_true, Bool.not_false, Nat.reduceBEq, spec_EqualLinks_r, spec_EqualLinks_d0_q, decide_eq_false n8]
    refine ⟨rfl, ?_⟩; rw [decide_eq_false (fun e => n8 (by rw [e]))]
  simp only [EV, EL, EB, EF, if_true, if_false, Bool.false_eq_true, Nat.reduceAdd, Option.bind_some, Bool.not_true, Bool.not_false, Nat.reduceBEq, spec_EqualLinks_r, spec_EqualLinks_d0_q, decide_eq_true n8]
  exact ⟨rfl, by rw [decide_eq_true (by cases a; cases b; simp only [DLink.mk.injEq]; exact ⟨n1, n2, n6, n3, n7, n4, n8⟩)]⟩

theorem spec_EqualSents_T (β β' : Bool) (l m : List DSent) (hl : l.length ≤ 1073741824) (ho : ∀ x ∈ l, x.ok 1073741824) (h : AH) : T Try.prog Γ Fn.spec_EqualSents [.vs β 7 false (l.map (DSent.c β)), .vs β' 7 false (m.map (DSent.c β'))] h fun v h' => v = .bool (decide (l = m)) ∧ h' = h := by
  have La := len_vm β 7 false l (DSent.c β)
  have Lb := len_vm β' 7 false m (DSent.c β')
  refine spec_EqualSents_e (aw_sound tabOK mixed [] _ _ _ ?_)
  unfold spec_EqualSents_c
  simp only [EV, EL, EB, EF, if_true, if_false, Bool.false_eq_true, Nat.reduceAdd, Option.bind_some, Bool.not_true, Bool.not_false, Nat.reduceBEq, spec_EqualSents_r, spec_EqualSents_d0_q, La, Lb, ne_int]
  by_cases hl0 : (l.length : Int) = (m.length : Int)
  rotate_left
  · simp only [EV, EL, EB, EF, if_true, if_false, Bool.false_eq_true, Nat.reduceAdd, Option.bind_some, Bool.not_true, Bool.not_false, Nat.reduceBEq, spec_EqualSents_r, spec_EqualSents_d0_q, decide_eq_false hl0]
    refine ⟨rfl, ?_⟩; rw [decide_eq_false (fun e => hl0 (by rw [e]))]
  simp only [EV, EL, EB, EF, if_true, if_false, Bool.false_eq_true, Nat.reduceAdd, Option.bind_some, Bool.not_true, Bool.not_false, Nat.reduceBEq, spec_EqualSents_r, spec_EqualSents_d0_q, decide_eq_true hl0]
  refine loopI tabOK mixed [] (fun k : Nat => k ≤ l.length ∧ ∀ (i : Nat) (h1 : i < l.length), i < k → ∀ h2 : i < m.length, l[i] = m[i]) (fun k => l.length - k)
    (fun k => spec_EqualSents_s0 (.vs β 7 false (l.map (DSent.c β))) (.vs β' 7 false (m.map (DSent.c β'))) (.int .i64 k) [] h) 0 ⟨by omega, fun i hi h => by omega⟩ ⟨by simp [spec_EqualSents_s0, LeL, LeV], rfl, rfl⟩ ?_
  rintro k ⟨hk, ht⟩
  simp only [EV, EL, EB, EF, if_true, if_false, Bool.false_eq_true, Nat.reduceAdd, Option.bind_some, Bool.not_true, Bool.not_false, Nat.reduceBEq, spec_EqualSents_r, spec_EqualSents_d0_q, spec_EqualSents_s0, La]
  refine c_split (fun hlt => ?_) (fun hge => ?_)
  rotate_left
  · have hge : k = l.length := by simp at hge; omega
    subst hge
    simp only [EV, EL, EB, EF, if_true, if_false, Bool.false_eq_true, Nat.reduceAdd, Option.bind_some, Bool.not_true, Bool.not_false, Nat.reduceBEq, spec_EqualSents_r, spec_EqualSents_d0_q]
    exact ⟨rfl, by rw [decide_eq_true (ext_lt (by omega) ht)]⟩
  have hlt : k < l.length := by simpa using hlt
  have hlt' : k < m.length := by omega
  have i0 := idx_vm (β := β) (sz := 7) (ex := false) (ce := DSent.c β) hlt
  have i1 := idx_vm (β := β') (sz := 7) (ex := false) (ce := DSent.c β') hlt'
  have hk' := ho _ (List.getElem_mem hlt)
  have hne : ∀ {x y : DSent}, x ≠ y → (l[k] = x → m[k] = y → decide (l = m) = false) := fun hxy e1 e2 => decide_eq_false (fun e => by subst e; exact hxy (e1.symm.trans e2))
  obtain ⟨a, ha⟩ : ∃ a, a = l[k] := ⟨_, rfl⟩
  obtain ⟨b, hb⟩ : ∃ b, b = m[k] := ⟨_, rfl⟩
  rw [← ha] at i0 hk'
  rw [← hb] at i1
  have hF : a ≠ b → decide (l = m) = false := fun hxy => hne hxy ha.symm hb.symm
  simp only [EV, EL, EB, EF, if_true, if_false, Bool.false_eq_true, Nat.reduceAdd, Option.bind_some, Bool.not_true, Bool.not_false, Nat.reduceBEq, spec_EqualSents_r, spec_EqualSents_d0_q, i0, i1, DSent.c, ne_int, ne_str, DTag.ne]
  by_cases n1 : a.target = b.target
  rotate_left
  · simp only [EV, EL, EB, EF, if_true, if_false, Bool.false_eq_true, Nat.reduceAdd, Option.bind_some, Bool.not_true, Bool.not_false, Nat.reduceBEq, spec_EqualSents_r, spec_EqualSents_d0_q, i0, i1, DSent.c, ne_int, ne_str, DTag.ne, decide_eq_false n1]
    exact ⟨rfl, by rw [hF (fun e => n1 (by rw [e]))]⟩
  by_cases n2 : a.name = b.name
  rotate_left
  · simp only [EV, EL, EB, EF, if_true, if_false, Bool.false_eq_true, Nat.reduceAdd, Option.bind_some, Bool.not_true, Bool.not_false, Nat.reduceBEq, spec_EqualSents_r, spec_EqualSents_d0_q, i0, i1, DSent.c, ne_int, ne_str, DTag.ne, decide_eq_true n1, decide_eq_false n2]
    exact ⟨rfl, by rw [hF (fun e => n2 (by rw [e]))]⟩
  simp only [EV, EL, EB, EF, if_true, if_false, Bool.false_eq_true, Nat.reduceAdd, Option.bind_some, Bool.not_true, Bool.not_false, Nat.reduceBEq, spec_EqualSents_r, spec_EqualSents_d0_q, i0, i1, DSent.c, ne_int, ne_str, DTag.ne, decide_eq_true n1, decide_eq_true n2]
  refine TCall.val (by simp only [EO]) (spec_EqualValues_T β β' _ _ hk'.2 _) ?_
  by_cases n3 : a.args = b.args
  rotate_left
  · simp only [EV, EL, EB, EF, if_true, if_false, Bool.false_eq_true, Nat.reduceAdd, Option.bind_some, Bool.not_true, Bool.not_false, Nat.reduceBEq, spec_EqualSents_r, spec_EqualSents_d0_q, i0, i1, DSent.c, ne_int, ne_str, DTag.ne, decide_eq_true n1, decide_eq_true n2, decide_eq_false n3]
    exact ⟨rfl, by rw [hF (fun e => n3 (by rw [e]))]⟩
  by_cases n4 : a.result = b.result
  rotate_left
  · simp only [EV, EL, EB, EF, if_true, if_false, Bool.false_eq_true, Nat.reduceAdd, Option.bind_some, Bool.not_true, Bool.not_false, Nat.reduceBEq, spec_EqualSents_r, spec_EqualSents_d0_q, i0, i1, DSent.c, ne_int, ne_str, DTag.ne, decide_eq_true n1, decide_eq_true n2, decide_eq_true n3, decide_eq_false n4]
    exact ⟨rfl, by rw [hF (fun e => n4 (by rw [e]))]⟩
  by_cases n5 : a.tag = b.tag
  rotate_left
  · simp only [EV, EL, EB, EF, if_true, if_false, Bool.false_eq_true, Nat.reduceAdd, Option.bind_some, Bool.not_true, Bool.not_false, Nat.reduceBEq, spec_EqualSents_r, spec_EqualSents_d0_q, i0, i1, DSent.c, ne_int, ne_str, DTag.ne, decide_eq_true n1, decide_eq_true n2, decide_eq_true n3, decide_eq_true n4, decide_eq_false n5]
    exact ⟨rfl, by rw [hF (fun e => n5 (by rw [e]))]⟩
  simp only [EV, EL, EB, EF, if_true, if_false, Bool.false_eq_true, Nat.reduceAdd, Option.bind_some, Bool.not_true, Bool.not_false, Nat.reduceBEq, spec_EqualSents_r, spec_EqualSents_d0_q, i0, i1, DSent.c, ne_int, ne_str, DTag.ne, decide_eq_true n1, decide_eq_true n2, decide_eq_true n3, decide_eq_true n4, decide_eq_true n5]
  have hab : a = b := by cases a; cases b; simp only [DSent.mk.injEq]; exact ⟨n1, n2, n3, n4, n5⟩
  refine ⟨k + 1, ⟨hlt, fun i g1 hik g2 => ?_⟩, by omega, ⟨by rw [wN (by omega)]; simp [spec_EqualSents_s0, LeL, LeV], rfl, rfl⟩⟩
  rcases Nat.lt_or_ge i k with g | g
  · exact ht i g1 g g2
  · have : i = k := by omega
    subst this; rw [← ha, ← hb]; exact hab

theorem spec_EqualMessages_T (β β' : Bool) (a b : DMessage) (ha : a.ok 1073741824) (h : AH) : T Try.prog Γ Fn.spec_EqualMessages [.agg (a.c β), .agg (b.c β')] h fun v h' => v = .bool (decide (a = b)) ∧ h' = h := by
  have La := len_vm β 2 false a.args (DWire.c β)
  have Lb := len_vm β' 2 false b.args (DWire.c β')
  have hlim := ha.2
  refine spec_EqualMessages_e (aw_sound tabOK mixed [] _ _ _ ?_)
  unfold spec_EqualMessages_c
  simp only [DMessage.c]
  by_cases n1 : a.kind = b.kind
  rotate_left
  · simp only [EV, EL, EB, EF, if_true, if_false, Bool.false_eq_true, Nat.reduceAdd, Option.bind_some, Bool.not_true, Bool.not_false, Nat.reduceBEq, spec_EqualMessages_r, spec_EqualMessages_d0_q, ne_int, ne_bool, ne_str, La, Lb, DWire.ne, DTag.ne, decide_eq_false n1]
    refine ⟨rfl, ?_⟩; rw [decide_eq_false (fun e => n1 (by rw [e]))]
  by_cases n2 : a.pos = b.pos
  rotate_left
  · simp only [EV, EL, EB, EF, if_true, if_false, Bool.false_eq_true, Nat.reduceAdd, Option.bind_some, Bool.not_true, Bool.not_false, Nat.reduceBEq, spec_EqualMessages_r, spec_EqualMessages_d0_q, ne_int, ne_bool, ne_str, La, Lb, DWire.ne, DTag.ne, decide_eq_false n2, decide_eq_true n1]
    refine ⟨rfl, ?_⟩; rw [decide_eq_false (fun e => n2 (by rw [e]))]
  by_cases n3 : a.answer = b.answer
  rotate_left
  · simp only [EV, EL, EB, EF, if_true, if_false, Bool.false_eq_true, Nat.reduceAdd, Option.bind_some, Bool.not_true, Bool.not_false, Nat.reduceBEq, spec_EqualMessages_r, spec_EqualMessages_d0_q, ne_int, ne_bool, ne_str, La, Lb, DWire.ne, DTag.ne, decide_eq_false n3, decide_eq_true n1, decide_eq_true n2]
    refine ⟨rfl, ?_⟩; rw [decide_eq_false (fun e => n3 (by rw [e]))]
  by_cases n4 : a.question = b.question
  rotate_left
  · simp only [EV, EL, EB, EF, if_true, if_false, Bool.false_eq_true, Nat.reduceAdd, Option.bind_some, Bool.not_true, Bool.not_false, Nat.reduceBEq, spec_EqualMessages_r, spec_EqualMessages_d0_q, ne_int, ne_bool, ne_str, La, Lb, DWire.ne, DTag.ne, decide_eq_false n4, decide_eq_true n1, decide_eq_true n2, decide_eq_true n3]
    refine ⟨rfl, ?_⟩; rw [decide_eq_false (fun e => n4 (by rw [e]))]
  by_cases n5 : a.name = b.name
  rotate_left
  · simp only [EV, EL, EB, EF, if_true, if_false, Bool.false_eq_true, Nat.reduceAdd, Option.bind_some, Bool.not_true, Bool.not_false, Nat.reduceBEq, spec_EqualMessages_r, spec_EqualMessages_d0_q, ne_int, ne_bool, ne_str, La, Lb, DWire.ne, DTag.ne, decide_eq_false n5, decide_eq_true n1, decide_eq_true n2, decide_eq_true n3, decide_eq_true n4]
    refine ⟨rfl, ?_⟩; rw [decide_eq_false (fun e => n5 (by rw [e]))]
  by_cases n6 : a.value = b.value
  rotate_left
  · simp only [EV, EL, EB, EF, if_true, if_false, Bool.false_eq_true, Nat.reduceAdd, Option.bind_some, Bool.not_true, Bool.not_false, Nat.reduceBEq, spec_EqualMessages_r, spec_EqualMessages_d0_q, ne_int, ne_bool, ne_str, La, Lb, DWire.ne, DTag.ne, decide_eq_false n6, decide_eq_true n1, decide_eq_true n2, decide_eq_true n3, decide_eq_true n4, decide_eq_true n5]
    refine ⟨rfl, ?_⟩; rw [decide_eq_false (fun e => n6 (by rw [e]))]
  by_cases n7 : a.count = b.count
  rotate_left
  · simp only [EV, EL, EB, EF, if_true, if_false, Bool.false_eq_true, Nat.reduceAdd, Option.bind_some, Bool.not_true, Bool.not_false, Nat.reduceBEq, spec_EqualMessages_r, spec_EqualMessages_d0_q, ne_int, ne_bool, ne_str, La, Lb, DWire.ne, DTag.ne, decide_eq_false n7, decide_eq_true n1, decide_eq_true n2, decide_eq_true n3, decide_eq_true n4, decide_eq_true n5, decide_eq_true n6]
    refine ⟨rfl, ?_⟩; rw [decide_eq_false (fun e => n7 (by rw [e]))]
  by_cases n8 : a.tag = b.tag
  rotate_left
  · simp only [EV, EL, EB, EF, if_true, if_false, Bool.false_eq_true, Nat.reduceAdd, Option.bind_some, Bool.not_true, Bool.not_false, Nat.reduceBEq, spec_EqualMessages_r, spec_EqualMessages_d0_q, ne_int, ne_bool, ne_str, La, Lb, DWire.ne, DTag.ne, decide_eq_false n8, decide_eq_true n1, decide_eq_true n2, decide_eq_true n3, decide_eq_true n4, decide_eq_true n5, decide_eq_true n6, decide_eq_true n7]
    refine ⟨rfl, ?_⟩; rw [decide_eq_false (fun e => n8 (by rw [e]))]
  by_cases n9 : (a.args.length : Int) = (b.args.length : Int)
  rotate_left
  · simp only [EV, EL, EB, EF, if_true, if_false, Bool.false_eq_true, Nat.reduceAdd, Option.bind_some, Bool.not_true, Bool.not_false, Nat.reduceBEq, spec_EqualMessages_r, spec_EqualMessages_d0_q, ne_int, ne_bool, ne_str, La, Lb, DWire.ne, DTag.ne, decide_eq_false n9, decide_eq_true n1, decide_eq_true n2, decide_eq_true n3, decide_eq_true n4, decide_eq_true n5, decide_eq_true n6, decide_eq_true n7, decide_eq_true n8]
    refine ⟨rfl, ?_⟩; rw [decide_eq_false (fun e => n9 (by rw [e]))]
  simp only [EV, EL, EB, EF, if_true, if_false, Bool.false_eq_true, Nat.reduceAdd, Option.bind_some, Bool.not_true, Bool.not_false, Nat.reduceBEq, spec_EqualMessages_r, spec_EqualMessages_d0_q, ne_int, ne_bool, ne_str, La, Lb, DWire.ne, DTag.ne, decide_eq_true n1, decide_eq_true n2, decide_eq_true n3, decide_eq_true n4, decide_eq_true n5, decide_eq_true n6, decide_eq_true n7, decide_eq_true n8, decide_eq_true n9]
  refine loopI tabOK mixed [] (fun k : Nat => k ≤ a.args.length ∧ ∀ (i : Nat) (h1 : i < a.args.length), i < k → ∀ h2 : i < b.args.length, a.args[i] = b.args[i]) (fun k => a.args.length - k)
    (fun k => spec_EqualMessages_s0 (.lp ([] : List (List AV)).length 0) (.lp (([] : List (List AV)).length + 1) 0) (.int .i64 k) (([] : List (List AV)) ++ [a.c β, b.c β']) h) 0 ⟨by omega, fun i hi h => by omega⟩ ⟨by simp [spec_EqualMessages_s0, LeL, LeV], rfl, rfl⟩ ?_
  rintro k ⟨hk, ht⟩
  simp only [EV, EL, EB, EF, if_true, if_false, Bool.false_eq_true, Nat.reduceAdd, Option.bind_some, Bool.not_true, Bool.not_false, Nat.reduceBEq, spec_EqualMessages_r, spec_EqualMessages_d0_q, spec_EqualMessages_s0, DMessage.c, La]
  refine c_split (fun hlt => ?_) (fun hge => ?_)
  · have hlt : k < a.args.length := by simpa using hlt
    have hlt' : k < b.args.length := by omega
    have i0 := idx_vm (β := β) (sz := 2) (ex := false) (ce := DWire.c β) hlt
    have i1 := idx_vm (β := β') (sz := 2) (ex := false) (ce := DWire.c β') hlt'
    simp only [EV, EL, EB, EF, if_true, if_false, Bool.false_eq_true, Nat.reduceAdd, Option.bind_some, Bool.not_true, Bool.not_false, Nat.reduceBEq, spec_EqualMessages_r, spec_EqualMessages_d0_q, DMessage.c, La, i0, i1, DWire.c, DWire.ne]
    by_cases hp : a.args[k] = b.args[k]
    rotate_left
    · simp only [EV, EL, EB, EF, if_true, if_false, Bool.false_eq_true, Nat.reduceAdd, Option.bind_some, Bool.not_true, Bool.not_false, Nat.reduceBEq, spec_EqualMessages_r, spec_EqualMessages_d0_q, DMessage.c, La, decide_eq_false hp, DWire.ne]
      refine ⟨rfl, ?_⟩; rw [decide_eq_false (fun e => hp (by subst e; rfl))]
    · simp only [EV, EL, EB, EF, if_true, if_false, Bool.false_eq_true, Nat.reduceAdd, Option.bind_some, Bool.not_true, Bool.not_false, Nat.reduceBEq, spec_EqualMessages_r, spec_EqualMessages_d0_q, DMessage.c, La, decide_eq_true hp, DWire.ne]
      exact ⟨k + 1, ⟨hlt, fun i g1 hik g2 => by
        rcases Nat.lt_or_ge i k with g | g
        · exact ht i g1 g g2
        · have : i = k := by omega
          subst this; exact hp⟩, by omega, ⟨by rw [wN (by omega)]; simp [spec_EqualMessages_s0, LeL, LeV], rfl, rfl⟩⟩
  have hge : k = a.args.length := by simp at hge; omega
  subst hge
  have n10 : a.args = b.args := ext_lt (by omega) ht
  clear ht hk

  simp only [EV, EL, EB, EF, if_true, if_false, Bool.false_eq_true, Nat.reduceAdd, Option.bind_some, Bool.not_true, Bool.not_false, Nat.reduceBEq, spec_EqualMessages_r, spec_EqualMessages_d0_q]
  exact ⟨rfl, by rw [decide_eq_true (by cases a; cases b; simp only [DMessage.mk.injEq]; exact ⟨n1, n2, n3, n4, n5, n10, n6, n7, n8⟩)]⟩

end Go.Proofs.Ytjmcfdhklogpkaa
