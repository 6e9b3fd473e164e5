import Derived.Test.YtleddolmolkpfaaR4I4
set_option linter.unusedVariables false
set_option linter.unusedSimpArgs false
namespace Go.Proofs.Ytleddolmolkpfaa
open Go.AM
set_option linter.unusedVariables false
set_option linter.unusedSimpArgs false
variable {Γ : Glob}
/-! When a vat is right. -/
def kind0 (v : DVat) : Int := match v.entities[0]? with | some e => e.kind | none => 0
def entOk (n : Nat) (e : DEntity) : Bool := isEntityF e n && sentsF e.queue n
def isVatF (v : DVat) : Bool :=
  inR v.id 1 4 && (inR v.entities.length 1 200 && (decide (kind0 v = 1) && (decide ((v.loop.length : Int) ≤ 60) && (sentsF v.loop v.entities.length && (v.entities.all (entOk v.entities.length) && v.links.all (fun l => linkF l v.entities.length))))))
theorem kind0_at {v : DVat} (h : 0 < v.entities.length) : kind0 v = v.entities[0].kind := by
  unfold kind0; rw [List.getElem?_eq_getElem h]
theorem impl_isVat_T (β : Bool) (v : DVat) (hv : v.ok 1048576) (H : AH) {p : AV} (hp : Ptr H p (v.c β)) : T Try.prog Γ Fn.impl_Vat_isVat [p] H fun r h' => r = .bool (isVatF v) ∧ h' = H := by
  have L0 := len_vm β 12 false v.entities (DEntity.c β)
  have L1 := len_vm β 7 false v.loop (DSent.c β)
  have L2 := len_vm β 7 false v.links (DLink.c β)
  have hvl := hv.1
  refine impl_Vat_isVat_e (aw_sound tabOK mixed [] _ _ _ ?_)
  unfold impl_Vat_isVat_c
  simp only [EV, EL, EB, EF, q_bx, if_true, if_false, Bool.false_eq_true, Nat.reduceAdd, Option.bind_some, Bool.not_true, Bool.not_false, Nat.reduceBEq, impl_Vat_isVat_r, impl_Vat_isVat_d0_q, hp.nil, hp.fld, hp.rd, DVat.c_len, Nat.reduceLeDiff, DVat.c]
  refine TCall.val (by simp only [EO]) (impl_in_T _ _ _ _) ?_
  cases h1 : inR v.id 1 4
  · simp only [EV, EL, EB, EF, q_bx, if_true, if_false, Bool.false_eq_true, Nat.reduceAdd, Option.bind_some, Bool.not_true, Bool.not_false, Nat.reduceBEq, impl_Vat_isVat_r, impl_Vat_isVat_d0_q]
    first | exact ⟨rfl, by simp [isVatF, h1], rfl⟩ | exact ⟨rfl, by simp [isVatF, h1]⟩ | simp [isVatF, h1]
  simp only [EV, EL, EB, EF, q_bx, if_true, if_false, Bool.false_eq_true, Nat.reduceAdd, Option.bind_some, Bool.not_true, Bool.not_false, Nat.reduceBEq, impl_Vat_isVat_r, impl_Vat_isVat_d0_q, hp.nil, hp.fld, hp.rd, DVat.c_len, Nat.reduceLeDiff, DVat.c, L0]
  refine TCall.val (by simp only [EO]) (impl_in_T _ _ _ _) ?_
  cases h2 : inR (v.entities.length : Int) 1 200
  · simp only [EV, EL, EB, EF, q_bx, if_true, if_false, Bool.false_eq_true, Nat.reduceAdd, Option.bind_some, Bool.not_true, Bool.not_false, Nat.reduceBEq, impl_Vat_isVat_r, impl_Vat_isVat_d0_q]
    first | exact ⟨rfl, by simp [isVatF, h1, h2], rfl⟩ | exact ⟨rfl, by simp [isVatF, h1, h2]⟩ | simp [isVatF, h1, h2]
  have hpos : 0 < v.entities.length := by simp [inR] at h2; omega
  have k0 := kind0_at hpos
  have i0 : aIdxs 12 (.vs β 12 false (v.entities.map (DEntity.c β))) 0 = _ := idx_vm (k := 0) hpos
  by_cases h3 : v.entities[0].kind = 1
  rotate_left
  · simp only [EV, EL, EB, EF, q_bx, if_true, if_false, Bool.false_eq_true, Nat.reduceAdd, Option.bind_some, Bool.not_true, Bool.not_false, Nat.reduceBEq, impl_Vat_isVat_r, impl_Vat_isVat_d0_q, hp.nil, hp.fld, hp.rd, DVat.c_len, Nat.reduceLeDiff, DVat.c, L0, i0, DEntity.c, ne_int, decide_eq_false h3]
    first | exact ⟨rfl, by simp [isVatF, h1, h2, k0, h3], rfl⟩ | exact ⟨rfl, by simp [isVatF, h1, h2, k0, h3]⟩ | simp [isVatF, h1, h2, k0, h3]
  by_cases h4 : (v.loop.length : Int) > 60
  · simp only [EV, EL, EB, EF, q_bx, if_true, if_false, Bool.false_eq_true, Nat.reduceAdd, Option.bind_some, Bool.not_true, Bool.not_false, Nat.reduceBEq, impl_Vat_isVat_r, impl_Vat_isVat_d0_q, hp.nil, hp.fld, hp.rd, DVat.c_len, Nat.reduceLeDiff, DVat.c, L0, i0, DEntity.c, ne_int, decide_eq_true h3, L1, decide_eq_true h4]
    have h4' : ¬ (v.loop.length : Int) ≤ 60 := by omega
    first | exact ⟨rfl, by simp [isVatF, h1, h2, k0, h3, h4'], rfl⟩ | exact ⟨rfl, by simp [isVatF, h1, h2, k0, h3, h4']⟩ | simp [isVatF, h1, h2, k0, h3, h4']
  have h4' : (v.loop.length : Int) ≤ 60 := by omega
  simp only [EV, EL, EB, EF, q_bx, if_true, if_false, Bool.false_eq_true, Nat.reduceAdd, Option.bind_some, Bool.not_true, Bool.not_false, Nat.reduceBEq, impl_Vat_isVat_r, impl_Vat_isVat_d0_q, hp.nil, hp.fld, hp.rd, DVat.c_len, Nat.reduceLeDiff, DVat.c, L0, i0, DEntity.c, ne_int, decide_eq_true h3, L1, decide_eq_false h4]
  refine TCall.val (by simp only [EO, hp.out]) (impl_sentsOk_T β β v hvl v.loop hv.2.2.1 _ hp) ?_
  cases h5 : sentsF v.loop v.entities.length
  · simp only [EV, EL, EB, EF, q_bx, if_true, if_false, Bool.false_eq_true, Nat.reduceAdd, Option.bind_some, Bool.not_true, Bool.not_false, Nat.reduceBEq, impl_Vat_isVat_r, impl_Vat_isVat_d0_q]
    first | exact ⟨rfl, by simp [isVatF, h5], rfl⟩ | exact ⟨rfl, by simp [isVatF, h5]⟩ | simp [isVatF, h5]
  simp only [EV, EL, EB, EF, q_bx, if_true, if_false, Bool.false_eq_true, Nat.reduceAdd, Option.bind_some, Bool.not_true, Bool.not_false, Nat.reduceBEq, impl_Vat_isVat_r, impl_Vat_isVat_d0_q, hp.nil, hp.fld, hp.rd, DVat.c_len, Nat.reduceLeDiff, DVat.c, L0]
  refine loopI tabOK mixed [] (fun x : Nat × List (List AV) => x.1 ≤ v.entities.length ∧ ∀ (i : Nat) (hi : i < v.entities.length), i < x.1 → entOk v.entities.length v.entities[i] = true) (fun x => v.entities.length - x.1)
    (fun x => impl_Vat_isVat_s0 p (.vs β 12 false (v.entities.map (DEntity.c β))) (.int .i64 v.entities.length) (.int .i64 x.1) x.2 H) (0, _) ⟨by simp, fun i hi h => by simp at h⟩ ⟨by simp [impl_Vat_isVat_s0, LeL, LeV], rfl, rfl⟩ ?_
  rintro ⟨k, L⟩ ⟨hk, ht⟩
  simp only at hk ht
  simp only [EV, EL, EB, EF, q_bx, if_true, if_false, Bool.false_eq_true, Nat.reduceAdd, Option.bind_some, Bool.not_true, Bool.not_false, Nat.reduceBEq, impl_Vat_isVat_r, impl_Vat_isVat_d0_q, impl_Vat_isVat_s0]
  refine c_split (fun hlt => ?_) (fun hge => ?_)
  · have hlt : k < v.entities.length := by simpa using hlt
    have ik := idx_vm (β := β) (sz := 12) (ex := false) (ce := DEntity.c β) hlt
    have he := hv.2.1 _ (List.getElem_mem hlt)
    have af : entOk v.entities.length v.entities[k] = false → isVatF v = false := fun h => by
      have := all_false (p := entOk v.entities.length) hlt h
      simp [isVatF, this]
    simp only [EV, EL, EB, EF, q_bx, if_true, if_false, Bool.false_eq_true, Nat.reduceAdd, Option.bind_some, Bool.not_true, Bool.not_false, Nat.reduceBEq, impl_Vat_isVat_r, impl_Vat_isVat_d0_q, ik, DEntity.c, EB2, hp.nil, hp.fld, hp.rd, DVat.c_len, Nat.reduceLeDiff, DVat.c, L0]
    refine TCall.val (by simp only [EO]) (impl_IsEntity_T β v.entities[k] he _ hvl _) ?_
    cases g1 : isEntityF v.entities[k] v.entities.length
    · simp only [EV, EL, EB, EF, q_bx, if_true, if_false, Bool.false_eq_true, Nat.reduceAdd, Option.bind_some, Bool.not_true, Bool.not_false, Nat.reduceBEq, impl_Vat_isVat_r, impl_Vat_isVat_d0_q]
      have ax := af (by simp [entOk, g1])
      first | exact ⟨rfl, by rw [ax], rfl⟩ | exact ⟨rfl, by rw [ax]⟩ | rw [ax]
    simp only [EV, EL, EB, EF, q_bx, if_true, if_false, Bool.false_eq_true, Nat.reduceAdd, Option.bind_some, Bool.not_true, Bool.not_false, Nat.reduceBEq, impl_Vat_isVat_r, impl_Vat_isVat_d0_q, DEntity.c, EB2]
    refine TCall.val (by simp only [EO, hp.out]) (impl_sentsOk_T β β v hvl v.entities[k].queue he.2.1 _ hp) ?_
    cases g2 : sentsF v.entities[k].queue v.entities.length
    · simp only [EV, EL, EB, EF, q_bx, if_true, if_false, Bool.false_eq_true, Nat.reduceAdd, Option.bind_some, Bool.not_true, Bool.not_false, Nat.reduceBEq, impl_Vat_isVat_r, impl_Vat_isVat_d0_q]
      have ax := af (by simp [entOk, g1, g2])
      first | exact ⟨rfl, by rw [ax], rfl⟩ | exact ⟨rfl, by rw [ax]⟩ | rw [ax]
    simp only [EV, EL, EB, EF, q_bx, if_true, if_false, Bool.false_eq_true, Nat.reduceAdd, Option.bind_some, Bool.not_true, Bool.not_false, Nat.reduceBEq, impl_Vat_isVat_r, impl_Vat_isVat_d0_q]
    exact ⟨(k + 1, _), ⟨hlt, fin_lt ht hlt (by simp [entOk, g1, g2])⟩, by simp only; omega, ⟨by rw [wN (by omega)]; simp [impl_Vat_isVat_s0, LeL, LeV], rfl, rfl⟩⟩
  have hge : k = v.entities.length := by simp at hge; omega
  subst hge
  have hE := all_true (p := entOk v.entities.length) ht
  have hll : v.links.length ≤ 1048576 := hv.2.2.2.2.1
  simp only [EV, EL, EB, EF, q_bx, if_true, if_false, Bool.false_eq_true, Nat.reduceAdd, Option.bind_some, Bool.not_true, Bool.not_false, Nat.reduceBEq, impl_Vat_isVat_r, impl_Vat_isVat_d0_q, hp.nil, hp.fld, hp.rd, DVat.c_len, Nat.reduceLeDiff, DVat.c, L2]
  refine loopI tabOK mixed [] (fun x : Nat × List (List AV) => x.1 ≤ v.links.length ∧ ∀ (i : Nat) (hi : i < v.links.length), i < x.1 → linkF v.links[i] v.entities.length = true) (fun x => v.links.length - x.1)
    (fun x => impl_Vat_isVat_s1 p (.int .i64 v.links.length) (.int .i64 x.1) x.2 H) (0, _) ⟨by simp, fun i hi h => by simp at h⟩ ⟨by simp [impl_Vat_isVat_s1, LeL, LeV], rfl, rfl⟩ ?_
  rintro ⟨k, L⟩ ⟨hk, ht⟩
  simp only at hk ht
  simp only [EV, EL, EB, EF, q_bx, if_true, if_false, Bool.false_eq_true, Nat.reduceAdd, Option.bind_some, Bool.not_true, Bool.not_false, Nat.reduceBEq, impl_Vat_isVat_r, impl_Vat_isVat_d0_q, impl_Vat_isVat_s1]
  refine c_split (fun hlt => ?_) (fun hge => ?_)
  · have hlt : k < v.links.length := by simpa using hlt
    have ik := idx_vm (β := β) (sz := 7) (ex := false) (ce := DLink.c β) hlt
    simp only [EV, EL, EB, EF, q_bx, if_true, if_false, Bool.false_eq_true, Nat.reduceAdd, Option.bind_some, Bool.not_true, Bool.not_false, Nat.reduceBEq, impl_Vat_isVat_r, impl_Vat_isVat_d0_q, ik, hp.nil, hp.fld, hp.rd, DVat.c_len, Nat.reduceLeDiff, DVat.c]
    refine TCall.val (by simp only [EO, hp.out]) (impl_linkOk_T β β v hvl v.links[k] (hv.2.2.2.2.2.1 _ (List.getElem_mem hlt)) _ hp (Ptr.ip _ _ _)) ?_
    cases g1 : linkF v.links[k] v.entities.length
    · simp only [EV, EL, EB, EF, q_bx, if_true, if_false, Bool.false_eq_true, Nat.reduceAdd, Option.bind_some, Bool.not_true, Bool.not_false, Nat.reduceBEq, impl_Vat_isVat_r, impl_Vat_isVat_d0_q]
      have hx := all_false (p := fun l => linkF l v.entities.length) hlt g1
      have ax : isVatF v = false := by simp [isVatF, hx]
      first | exact ⟨rfl, by rw [ax], rfl⟩ | exact ⟨rfl, by rw [ax]⟩ | rw [ax]
    simp only [EV, EL, EB, EF, q_bx, if_true, if_false, Bool.false_eq_true, Nat.reduceAdd, Option.bind_some, Bool.not_true, Bool.not_false, Nat.reduceBEq, impl_Vat_isVat_r, impl_Vat_isVat_d0_q]
    exact ⟨(k + 1, _), ⟨hlt, fin_lt (p := fun l => linkF l v.entities.length) ht hlt g1⟩, by simp only; omega, ⟨by rw [wN (by omega)]; simp [impl_Vat_isVat_s1, LeL, LeV], rfl, rfl⟩⟩
  have hge : k = v.links.length := by simp at hge; omega
  subst hge
  have hL := all_true (p := fun l => linkF l v.entities.length) ht
  simp only [EV, EL, EB, EF, q_bx, if_true, if_false, Bool.false_eq_true, Nat.reduceAdd, Option.bind_some, Bool.not_true, Bool.not_false, Nat.reduceBEq, impl_Vat_isVat_r, impl_Vat_isVat_d0_q]
  have ax : isVatF v = true := by simp only [isVatF, h1, h2, k0, h3, h4', h5, hE, hL, decide_true, Bool.and_self]
  first | exact ⟨rfl, by rw [ax], rfl⟩ | exact ⟨rfl, by rw [ax]⟩ | rw [ax]
theorem impl_IsVat_T (β : Bool) (v : DVat) (hv : v.ok 1048576) (h : AH) : T Try.prog Γ Fn.impl_IsVat [.agg (v.c β)] h fun r h' => r = .bool (isVatF v) ∧ h' = h := by
  refine (?_ : T Try.prog Γ Fn.impl_IsVat _ h fun r h' => r = .bool (isVatF v) ∧ ∃ N, h' = h ++ N).drop (by rintro v h' ⟨rfl, N, rfl⟩; exact ⟨N, rfl, .bool _, rfl, rfl⟩)
  refine impl_IsVat_e (aw_sound tabOK mixed [1] _ _ _ ?_)
  unfold impl_IsVat_c
  simp only [EV, EL, EB, EF, q_bx, if_true, if_false, Bool.false_eq_true, Nat.reduceAdd, Option.bind_some, Bool.not_true, Bool.not_false, Nat.reduceBEq, impl_IsVat_r, box_g _ _ (show List.all (DVat.c β v) noLp = true from rfl), push_s]
  refine TCall.val (by simp only [EO]) (impl_isVat_T β v hv _ (Ptr.gp0 (hget_last _ _))) ?_
  simp only [EV, EL, EB, EF, q_bx, if_true, if_false, Bool.false_eq_true, Nat.reduceAdd, Option.bind_some, Bool.not_true, Bool.not_false, Nat.reduceBEq, impl_IsVat_r]
  first | exact ⟨rfl, rfl, _, rfl⟩ | exact ⟨rfl, _, rfl⟩
theorem cells_at {e : List AV} {L : List (List AV)} {h : AH} {i off n : Nat} {z : List AV} (hi : L[i]? = some z) : (St.mk e L h).cells (.lp i off) n = sub z off n := by
  simp only [St.cells, hi, Option.bind_some]
/-- The reference's order. -/
def linkS (l : DLink) (n : Nat) : Bool := l.exports.all (exportOk n) && (entriesF l.questions n && (entriesF l.answers n && (inR l.peer 1 4 && (inR l.next 0 999999 && inR l.asked 0 999999))))
theorem entries_eq (l : List DQuestion) (n : Nat) : entriesF l n = l.all (entryOk n) := by
  unfold entriesF entryOk; congr 1; funext q; exact Bool.and_comm _ _
theorem linkS_eq (l : DLink) (n : Nat) : linkS l n = linkF l n := by
  simp only [linkS, linkF, entries_eq, List.all_append]
  cases l.exports.all (exportOk n) <;> cases l.questions.all (entryOk n) <;> cases l.answers.all (entryOk n) <;> cases inR l.peer 1 4 <;> cases inR l.next 0 999999 <;> cases inR l.asked 0 999999 <;> rfl
set_option maxHeartbeats 1000000 in
set_option maxRecDepth 10000 in
theorem spec_IsVat_T (β : Bool) (v : DVat) (hv : v.ok 1048576) (h : AH) : T Try.prog Γ Fn.spec_IsVat [.agg (v.c β)] h fun r h' => r = .bool (isVatF v) ∧ h' = h := by
  have L0 := len_vm β 12 false v.entities (DEntity.c β)
  have L1 := len_vm β 7 false v.loop (DSent.c β)
  have L2 := len_vm β 7 false v.links (DLink.c β)
  have hvl := hv.1
  have hll : v.links.length ≤ 1048576 := hv.2.2.2.2.1
  have hwn : IntKind.i64.wrap ((v.entities.length : Int) - 1) = IntKind.i64.wrap ((v.entities.length : Int) - 1) := rfl
  refine spec_IsVat_e (aw_sound tabOK mixed [] _ _ _ ?_)
  unfold spec_IsVat_c
  simp only [EV, EL, EB, EF, q_bx, if_true, if_false, Bool.false_eq_true, Nat.reduceAdd, Option.bind_some, Bool.not_true, Bool.not_false, Nat.reduceBEq, spec_IsVat_r, DVat.c, L0]
  refine TCall.val (by simp only [EO]) (spec_l1In_T _ _ _ _) ?_
  cases h1 : inR v.id 1 4
  · simp only [EV, EL, EB, EF, q_bx, if_true, if_false, Bool.false_eq_true, Nat.reduceAdd, Option.bind_some, Bool.not_true, Bool.not_false, Nat.reduceBEq, spec_IsVat_r]
    first | exact ⟨rfl, by simp [isVatF, h1], rfl⟩ | exact ⟨rfl, by simp [isVatF, h1]⟩ | simp [isVatF, h1]
  simp only [EV, EL, EB, EF, q_bx, if_true, if_false, Bool.false_eq_true, Nat.reduceAdd, Option.bind_some, Bool.not_true, Bool.not_false, Nat.reduceBEq, spec_IsVat_r, DVat.c, L0]
  refine TCall.val (by simp only [EO]) (spec_l1In_T _ _ _ _) ?_
  cases h2 : inR (v.entities.length : Int) 1 200
  · simp only [EV, EL, EB, EF, q_bx, if_true, if_false, Bool.false_eq_true, Nat.reduceAdd, Option.bind_some, Bool.not_true, Bool.not_false, Nat.reduceBEq, spec_IsVat_r]
    first | exact ⟨rfl, by simp [isVatF, h1, h2], rfl⟩ | exact ⟨rfl, by simp [isVatF, h1, h2]⟩ | simp [isVatF, h1, h2]
  have hpos : 0 < v.entities.length := by simp [inR] at h2; omega
  have k0 := kind0_at hpos
  have i0 : aIdxs 12 (.vs β 12 false (v.entities.map (DEntity.c β))) 0 = _ := idx_vm (k := 0) hpos
  by_cases h3 : v.entities[0].kind = 1
  rotate_left
  · simp only [EV, EL, EB, EF, q_bx, if_true, if_false, Bool.false_eq_true, Nat.reduceAdd, Option.bind_some, Bool.not_true, Bool.not_false, Nat.reduceBEq, spec_IsVat_r, DVat.c, L0, i0, DEntity.c, ne_int, decide_eq_false h3]
    first | exact ⟨rfl, by simp [isVatF, h1, h2, k0, h3], rfl⟩ | exact ⟨rfl, by simp [isVatF, h1, h2, k0, h3]⟩ | simp [isVatF, h1, h2, k0, h3]
  by_cases h4 : (v.loop.length : Int) > 60
  · simp only [EV, EL, EB, EF, q_bx, if_true, if_false, Bool.false_eq_true, Nat.reduceAdd, Option.bind_some, Bool.not_true, Bool.not_false, Nat.reduceBEq, spec_IsVat_r, DVat.c, L0, i0, DEntity.c, ne_int, decide_eq_true h3, L1, decide_eq_true h4]
    have h4' : ¬ (v.loop.length : Int) ≤ 60 := by omega
    first | exact ⟨rfl, by simp [isVatF, h1, h2, k0, h3, h4'], rfl⟩ | exact ⟨rfl, by simp [isVatF, h1, h2, k0, h3, h4']⟩ | simp [isVatF, h1, h2, k0, h3, h4']
  have h4' : (v.loop.length : Int) ≤ 60 := by omega
  simp only [EV, EL, EB, EF, q_bx, if_true, if_false, Bool.false_eq_true, Nat.reduceAdd, Option.bind_some, Bool.not_true, Bool.not_false, Nat.reduceBEq, spec_IsVat_r, DVat.c, L0, i0, DEntity.c, ne_int, decide_eq_true h3, L1, decide_eq_false h4]
  refine TCall.val (by simp only [EO]) (spec_l29Sents_T β v.loop hv.2.2.1 _ hvl _) ?_
  cases h5 : sentsF v.loop v.entities.length
  · simp only [EV, EL, EB, EF, q_bx, if_true, if_false, Bool.false_eq_true, Nat.reduceAdd, Option.bind_some, Bool.not_true, Bool.not_false, Nat.reduceBEq, spec_IsVat_r]
    first | exact ⟨rfl, by simp [isVatF, h5], rfl⟩ | exact ⟨rfl, by simp [isVatF, h5]⟩ | simp [isVatF, h5]
  simp only [EV, EL, EB, EF, q_bx, if_true, if_false, Bool.false_eq_true, Nat.reduceAdd, Option.bind_some, Bool.not_true, Bool.not_false, Nat.reduceBEq, spec_IsVat_r]
  refine loopI tabOK mixed [] (fun k : Nat => k ≤ v.entities.length ∧ ∀ (i : Nat) (hi : i < v.entities.length), i < k → entOk v.entities.length v.entities[i] = true) (fun k => v.entities.length - k)
    (fun k => spec_IsVat_s0 (.lp ([] : List (List AV)).length 0) (.int .i64 v.entities.length) (.int .i64 k) (([] : List (List AV)) ++ [v.c β]) h) 0 ⟨by omega, fun i hi h => by omega⟩ ⟨by simp [spec_IsVat_s0, LeL, LeV], rfl, rfl⟩ ?_
  rintro k ⟨hk, ht⟩
  simp only [EV, EL, EB, EF, q_bx, if_true, if_false, Bool.false_eq_true, Nat.reduceAdd, Option.bind_some, Bool.not_true, Bool.not_false, Nat.reduceBEq, spec_IsVat_r, spec_IsVat_s0]
  refine c_split (fun hlt => ?_) (fun hge => ?_)
  · have hlt : k < v.entities.length := by simpa using hlt
    have ik := idx_vm (β := β) (sz := 12) (ex := false) (ce := DEntity.c β) hlt
    have he := hv.2.1 _ (List.getElem_mem hlt)
    have af : entOk v.entities.length v.entities[k] = false → isVatF v = false := fun h => by
      have := all_false (p := entOk v.entities.length) hlt h
      simp [isVatF, this]
    simp only [EV, EL, EB, EF, q_bx, if_true, if_false, Bool.false_eq_true, Nat.reduceAdd, Option.bind_some, Bool.not_true, Bool.not_false, Nat.reduceBEq, spec_IsVat_r, DVat.c, ik, DEntity.c]
    refine TCall.val (by simp only [EO]) (spec_IsEntity_T β v.entities[k] he _ hvl _) ?_
    cases g1 : isEntityF v.entities[k] v.entities.length
    · simp only [EV, EL, EB, EF, q_bx, if_true, if_false, Bool.false_eq_true, Nat.reduceAdd, Option.bind_some, Bool.not_true, Bool.not_false, Nat.reduceBEq, spec_IsVat_r]
      have ax := af (by simp [entOk, g1])
      first | exact ⟨rfl, by rw [ax], rfl⟩ | exact ⟨rfl, by rw [ax]⟩ | rw [ax]
    simp only [EV, EL, EB, EF, q_bx, if_true, if_false, Bool.false_eq_true, Nat.reduceAdd, Option.bind_some, Bool.not_true, Bool.not_false, Nat.reduceBEq, spec_IsVat_r, DVat.c, ik, DEntity.c]
    refine TCall.val (by simp only [EO]) (spec_l29Sents_T β v.entities[k].queue he.2.1 _ hvl _) ?_
    cases g2 : sentsF v.entities[k].queue v.entities.length
    · simp only [EV, EL, EB, EF, q_bx, if_true, if_false, Bool.false_eq_true, Nat.reduceAdd, Option.bind_some, Bool.not_true, Bool.not_false, Nat.reduceBEq, spec_IsVat_r]
      have ax := af (by simp [entOk, g1, g2])
      first | exact ⟨rfl, by rw [ax], rfl⟩ | exact ⟨rfl, by rw [ax]⟩ | rw [ax]
    simp only [EV, EL, EB, EF, q_bx, if_true, if_false, Bool.false_eq_true, Nat.reduceAdd, Option.bind_some, Bool.not_true, Bool.not_false, Nat.reduceBEq, spec_IsVat_r]
    exact ⟨k + 1, ⟨hlt, fin_lt ht hlt (by simp [entOk, g1, g2])⟩, by omega, ⟨by rw [wN (by omega)]; simp [spec_IsVat_s0, LeL, LeV], rfl, rfl⟩⟩
  have hge : k = v.entities.length := by simp at hge; omega
  subst hge
  have hE := all_true (p := entOk v.entities.length) ht
  simp only [EV, EL, EB, EF, q_bx, if_true, if_false, Bool.false_eq_true, Nat.reduceAdd, Option.bind_some, Bool.not_true, Bool.not_false, Nat.reduceBEq, spec_IsVat_r]
  refine loopI tabOK mixed [] (fun x : Nat × List (List AV) => x.1 ≤ v.links.length ∧ (∀ (i : Nat) (hi : i < v.links.length), i < x.1 → linkF v.links[i] v.entities.length = true) ∧ x.2[([] : List (List AV)).length]? = some (v.c β)) (fun x => v.links.length - x.1)
    (fun x => spec_IsVat_s1 (.lp ([] : List (List AV)).length 0) (.int .i64 v.entities.length) (.int .i64 x.1) x.2 h) (0, ([] : List (List AV)) ++ [v.c β]) ⟨by simp, fun i hi h => by simp at h, rfl⟩ ⟨by simp [spec_IsVat_s1, LeL, LeV], rfl, rfl⟩ ?_
  rintro ⟨k, L⟩ ⟨hk, ht, hL⟩
  simp only at hk ht hL
  have cL : ∀ (e : List AV) (h : AH) (off n : Nat), (St.mk e L h).cells (.lp ([] : List (List AV)).length off) n = sub (v.c β) off n := fun e h off n => cells_at hL
  simp only [EV, EL, EB, EF, q_bx, if_true, if_false, Bool.false_eq_true, Nat.reduceAdd, Option.bind_some, Bool.not_true, Bool.not_false, Nat.reduceBEq, spec_IsVat_r, spec_IsVat_s1, cL, DVat.c, L2]
  refine c_split (fun hlt => ?_) (fun hge => ?_)
  rotate_left
  · have hge : k = v.links.length := by simp at hge; omega
    subst hge
    have hA := all_true (p := fun l => linkF l v.entities.length) ht
    simp only [EV, EL, EB, EF, q_bx, if_true, if_false, Bool.false_eq_true, Nat.reduceAdd, Option.bind_some, Bool.not_true, Bool.not_false, Nat.reduceBEq, spec_IsVat_r]
    have ax : isVatF v = true := by simp only [isVatF, h1, h2, k0, h3, h4', h5, hE, hA, decide_true, Bool.and_self]
    first | exact ⟨rfl, by rw [ax], rfl⟩ | exact ⟨rfl, by rw [ax]⟩ | rw [ax]
  have hlt : k < v.links.length := by simpa using hlt
  have ik := idx_vm (β := β) (sz := 7) (ex := false) (ce := DLink.c β) hlt
  have hlk := hv.2.2.2.2.2.1 _ (List.getElem_mem hlt)
  have af : linkS v.links[k] v.entities.length = false → isVatF v = false := fun h => by
    rw [linkS_eq] at h
    have := all_false (p := fun l => linkF l v.entities.length) hlt h
    simp [isVatF, this]
  generalize hl : v.links[k] = l at *
  have L3 := len_vm β 3 false l.exports (DExport.c β)
  have hel := hlk.1
  simp only [EV, EL, EB, EF, q_bx, if_true, if_false, Bool.false_eq_true, Nat.reduceAdd, Option.bind_some, Bool.not_true, Bool.not_false, Nat.reduceBEq, spec_IsVat_r, cL, DVat.c, ik, DLink.c, EB2]
  have hLl : ([] : List (List AV)).length < L.length := getElem?_lt hL
  refine loopI tabOK mixed [] (fun y : Nat × List (List AV) => y.1 ≤ l.exports.length ∧ (∀ (i : Nat) (hi : i < l.exports.length), i < y.1 → exportOk v.entities.length l.exports[i] = true) ∧ y.2[([] : List (List AV)).length]? = some (v.c β) ∧ y.2[L.length]? = some (l.c β)) (fun y => l.exports.length - y.1)
    (fun y => spec_IsVat_s2 (.lp ([] : List (List AV)).length 0) (.int .i64 v.entities.length) (.int .i64 k) (.lp L.length 0) (.int .i64 y.1) y.2 h) (0, L ++ [l.c β]) ⟨by simp, fun i hi h => by simp at h, by simp only; rw [List.getElem?_append_left hLl]; exact hL, by simp⟩ ⟨by simp [spec_IsVat_s2, LeL, LeV], rfl, rfl⟩ ?_
  rintro ⟨j, M⟩ ⟨hj, hj2, hM, hM2⟩
  simp only at hj hj2 hM hM2
  have cM : ∀ (e : List AV) (h : AH) (off n : Nat), (St.mk e M h).cells (.lp ([] : List (List AV)).length off) n = sub (v.c β) off n := fun e h off n => cells_at hM
  have cM2 : ∀ (e : List AV) (h : AH) (off n : Nat), (St.mk e M h).cells (.lp L.length off) n = sub (l.c β) off n := fun e h off n => cells_at hM2
  simp only [EV, EL, EB, EF, q_bx, if_true, if_false, Bool.false_eq_true, Nat.reduceAdd, Option.bind_some, Bool.not_true, Bool.not_false, Nat.reduceBEq, spec_IsVat_r, spec_IsVat_s2, cM2, DLink.c, L3]
  refine c_split (fun hlt2 => ?_) (fun hge2 => ?_)
  · have hlt2 : j < l.exports.length := by simpa using hlt2
    have ij := idx_vm (β := β) (sz := 3) (ex := false) (ce := DExport.c β) hlt2
    have af2 : exportOk v.entities.length l.exports[j] = false → isVatF v = false := fun h => af (by
      have := all_false (p := exportOk v.entities.length) hlt2 h
      simp [linkS, this])
    simp only [EV, EL, EB, EF, q_bx, if_true, if_false, Bool.false_eq_true, Nat.reduceAdd, Option.bind_some, Bool.not_true, Bool.not_false, Nat.reduceBEq, spec_IsVat_r, cM2, DLink.c, ij, DExport.c, EB2]
    refine TCall.val (by simp only [EO]) (spec_l1In_T _ _ _ _) ?_
    rw [inR_ent _ hvl]
    cases g1 : entI l.exports[j].entity v.entities.length
    · simp only [EV, EL, EB, EF, q_bx, if_true, if_false, Bool.false_eq_true, Nat.reduceAdd, Option.bind_some, Bool.not_true, Bool.not_false, Nat.reduceBEq, spec_IsVat_r]
      have ax := af2 (by simp [exportOk, g1])
      first | exact ⟨rfl, by rw [ax], rfl⟩ | exact ⟨rfl, by rw [ax]⟩ | rw [ax]
    simp only [EV, EL, EB, EF, q_bx, if_true, if_false, Bool.false_eq_true, Nat.reduceAdd, Option.bind_some, Bool.not_true, Bool.not_false, Nat.reduceBEq, spec_IsVat_r, DExport.c, EB2]
    refine TCall.val (by simp only [EO]) (spec_l1In_T _ _ _ _) ?_
    cases g2 : inR l.exports[j].pos 1 999999
    · simp only [EV, EL, EB, EF, q_bx, if_true, if_false, Bool.false_eq_true, Nat.reduceAdd, Option.bind_some, Bool.not_true, Bool.not_false, Nat.reduceBEq, spec_IsVat_r]
      have ax := af2 (by simp [exportOk, g1, g2])
      first | exact ⟨rfl, by rw [ax], rfl⟩ | exact ⟨rfl, by rw [ax]⟩ | rw [ax]
    simp only [EV, EL, EB, EF, q_bx, if_true, if_false, Bool.false_eq_true, Nat.reduceAdd, Option.bind_some, Bool.not_true, Bool.not_false, Nat.reduceBEq, spec_IsVat_r, DExport.c, EB2]
    refine TCall.val (by simp only [EO]) (spec_l1In_T _ _ _ _) ?_
    cases g3 : inR l.exports[j].count 1 999999
    · simp only [EV, EL, EB, EF, q_bx, if_true, if_false, Bool.false_eq_true, Nat.reduceAdd, Option.bind_some, Bool.not_true, Bool.not_false, Nat.reduceBEq, spec_IsVat_r]
      have ax := af2 (by simp [exportOk, g1, g2, g3])
      first | exact ⟨rfl, by rw [ax], rfl⟩ | exact ⟨rfl, by rw [ax]⟩ | rw [ax]
    simp only [EV, EL, EB, EF, q_bx, if_true, if_false, Bool.false_eq_true, Nat.reduceAdd, Option.bind_some, Bool.not_true, Bool.not_false, Nat.reduceBEq, spec_IsVat_r]
    have hMl : L.length < M.length := getElem?_lt hM2
    exact ⟨(j + 1, _), ⟨hlt2, fin_lt hj2 hlt2 (by simp [exportOk, g1, g2, g3]), by simp only; rw [List.getElem?_append_left (by omega)]; exact hM, by simp only; rw [List.getElem?_append_left hMl]; exact hM2⟩, by simp only; omega, ⟨by rw [wN (by omega)]; simp [spec_IsVat_s2, LeL, LeV], rfl, rfl⟩⟩
  have hge2 : j = l.exports.length := by simp at hge2; omega
  subst hge2
  have hX := all_true (p := exportOk v.entities.length) hj2
  simp only [EV, EL, EB, EF, q_bx, if_true, if_false, Bool.false_eq_true, Nat.reduceAdd, Option.bind_some, Bool.not_true, Bool.not_false, Nat.reduceBEq, spec_IsVat_r, cM2, DLink.c]
  refine TCall.val (by simp only [EO]) (spec_l29Entries_T β l.questions hlk.2.1 _ hvl _) ?_
  cases e1 : entriesF l.questions v.entities.length
  · simp only [EV, EL, EB, EF, q_bx, if_true, if_false, Bool.false_eq_true, Nat.reduceAdd, Option.bind_some, Bool.not_true, Bool.not_false, Nat.reduceBEq, spec_IsVat_r]
    have ax := af (by simp [linkS, e1])
    first | exact ⟨rfl, by rw [ax], rfl⟩ | exact ⟨rfl, by rw [ax]⟩ | rw [ax]
  simp only [EV, EL, EB, EF, q_bx, if_true, if_false, Bool.false_eq_true, Nat.reduceAdd, Option.bind_some, Bool.not_true, Bool.not_false, Nat.reduceBEq, spec_IsVat_r, cM2, DLink.c]
  refine TCall.val (by simp only [EO]) (spec_l29Entries_T β l.answers hlk.2.2 _ hvl _) ?_
  cases e2 : entriesF l.answers v.entities.length
  · simp only [EV, EL, EB, EF, q_bx, if_true, if_false, Bool.false_eq_true, Nat.reduceAdd, Option.bind_some, Bool.not_true, Bool.not_false, Nat.reduceBEq, spec_IsVat_r]
    have ax := af (by simp [linkS, e2])
    first | exact ⟨rfl, by rw [ax], rfl⟩ | exact ⟨rfl, by rw [ax]⟩ | rw [ax]
  simp only [EV, EL, EB, EF, q_bx, if_true, if_false, Bool.false_eq_true, Nat.reduceAdd, Option.bind_some, Bool.not_true, Bool.not_false, Nat.reduceBEq, spec_IsVat_r, cM2, DLink.c]
  refine TCall.val (by simp only [EO]) (spec_l1In_T _ _ _ _) ?_
  cases e3 : inR l.peer 1 4
  · simp only [EV, EL, EB, EF, q_bx, if_true, if_false, Bool.false_eq_true, Nat.reduceAdd, Option.bind_some, Bool.not_true, Bool.not_false, Nat.reduceBEq, spec_IsVat_r]
    have ax := af (by simp [linkS, e3])
    first | exact ⟨rfl, by rw [ax], rfl⟩ | exact ⟨rfl, by rw [ax]⟩ | rw [ax]
  simp only [EV, EL, EB, EF, q_bx, if_true, if_false, Bool.false_eq_true, Nat.reduceAdd, Option.bind_some, Bool.not_true, Bool.not_false, Nat.reduceBEq, spec_IsVat_r, cM2, DLink.c]
  refine TCall.val (by simp only [EO]) (spec_l1In_T _ _ _ _) ?_
  cases e4 : inR l.next 0 999999
  · simp only [EV, EL, EB, EF, q_bx, if_true, if_false, Bool.false_eq_true, Nat.reduceAdd, Option.bind_some, Bool.not_true, Bool.not_false, Nat.reduceBEq, spec_IsVat_r]
    have ax := af (by simp [linkS, e4])
    first | exact ⟨rfl, by rw [ax], rfl⟩ | exact ⟨rfl, by rw [ax]⟩ | rw [ax]
  simp only [EV, EL, EB, EF, q_bx, if_true, if_false, Bool.false_eq_true, Nat.reduceAdd, Option.bind_some, Bool.not_true, Bool.not_false, Nat.reduceBEq, spec_IsVat_r, cM2, DLink.c]
  refine TCall.val (by simp only [EO]) (spec_l1In_T _ _ _ _) ?_
  cases e5 : inR l.asked 0 999999
  · simp only [EV, EL, EB, EF, q_bx, if_true, if_false, Bool.false_eq_true, Nat.reduceAdd, Option.bind_some, Bool.not_true, Bool.not_false, Nat.reduceBEq, spec_IsVat_r]
    have ax := af (by simp [linkS, e5])
    first | exact ⟨rfl, by rw [ax], rfl⟩ | exact ⟨rfl, by rw [ax]⟩ | rw [ax]
  simp only [EV, EL, EB, EF, q_bx, if_true, if_false, Bool.false_eq_true, Nat.reduceAdd, Option.bind_some, Bool.not_true, Bool.not_false, Nat.reduceBEq, spec_IsVat_r]
  have hgood : linkF l v.entities.length = true := by rw [← linkS_eq]; simp [linkS, hX, e1, e2, e3, e4, e5]
  exact ⟨(k + 1, _), ⟨hlt, fin_lt (p := fun l => linkF l v.entities.length) ht hlt (by rw [hl]; exact hgood), hM⟩, by simp only; omega, ⟨by rw [wN (by omega)]; simp [spec_IsVat_s1, LeL, LeV], rfl, rfl⟩⟩

end Go.Proofs.Ytleddolmolkpfaa
