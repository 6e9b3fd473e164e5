import Derived.Test.YtleddolmolkpfaaGreatCodeAcceptGift
import Derived.Test.YtleddolmolkpfaaGreatAmSz
set_option linter.unusedVariables false
set_option linter.unusedSimpArgs false
namespace Go.Proofs.YtleddolmolkpfaaGreat
open Go.AM
set_option linter.unusedVariables false
set_option linter.unusedSimpArgs false
variable {Γ : Glob}
theorem laws_toValue_T (β : Bool) (x : DValue) (h : AH) : T Tryz.prog Γ Fn.laws_toValue [.agg (x.c β)] h fun v h' => v = .agg (x.c false) ∧ h' = h := by
  refine laws_toValue_e (aw_sound tabOK mixed [] _ _ _ ?_)
  unfold laws_toValue_c DValue.c
  simp only [EV, EL, EB, if_true, if_false, Bool.false_eq_true, Nat.reduceAdd, Option.bind_some, laws_toValue_r]
  exact rfl
theorem laws_toValueS_T (β : Bool) (l : List DValue) (hl : l.length ≤ 1048576) (h : AH) : T Tryz.prog Γ Fn.laws_toValueS [.vs β 2 false (l.map (DValue.c β))] h (Fresh h [.c (.sl 2 (l.map DValue.cd))]) :=
  toS_own (szs := 2) (sz := 2) (bytes := 16) (z := [.int .i64 0, .int .i64 0]) (f := Fn.laws_toValue) tabOK mixed (fun hw => laws_toValueS_e hw) (by simp [maxMade]; omega) rfl rfl (fun x _ => ⟨rfl, rfl⟩) (fun x _ => rfl) (fun x hx H => (laws_toValue_T β x H).flat (cs := x.cd) (by simp [DValue.cd, CD.flat]) (by rw [DValue.c_eq]))
theorem laws_szValueS_T (β : Bool) (l : List DValue) (hl : l.length ≤ maxLen) (left : Int) (h0 : 0 ≤ left) (h1 : left ≤ 1048576) (h : AH) : T Tryz.prog Γ Fn.laws_szValueS [.vs β 2 false (l.map (DValue.c β)), .int .i64 left] h fun v h' => v = .int .i64 (szN l left) ∧ h' = h :=
  szF_T tabOK mixed (fun hw => laws_szValueS_e hw) h0 h1 hl
theorem laws_eqValue_T (β β' : Bool) (x y : DValue) (h : AH) : T Tryz.prog Γ Fn.laws_eqValue [.agg (x.c β), .agg (y.c β')] h fun v h' => v = .bool (decide (x = y)) ∧ h' = h := by
  refine laws_eqValue_e (aw_sound tabOK mixed [] _ _ _ ?_)
  unfold laws_eqValue_c DValue.c
  simp only [EV, EL, EB, if_true, if_false, Bool.false_eq_true, Nat.reduceAdd, Option.bind_some, laws_eqValue_r, ne_int, ne_bool, ne_str]
  by_cases n1 : x.kind = y.kind
  rotate_left
  · simp only [EV, EL, EB, if_true, if_false, Bool.false_eq_true, Nat.reduceAdd, Option.bind_some, laws_eqValue_r, decide_eq_false n1, Bool.not_false]
    exact ⟨rfl, by rw [decide_eq_false (fun e => n1 (by rw [e]))]⟩
  simp only [EV, EL, EB, if_true, if_false, Bool.false_eq_true, Nat.reduceAdd, Option.bind_some, laws_eqValue_r, decide_eq_true n1, Bool.not_true, ne_int, ne_bool, ne_str]
  by_cases n2 : x.n = y.n
  rotate_left
  · simp only [EV, EL, EB, if_true, if_false, Bool.false_eq_true, Nat.reduceAdd, Option.bind_some, laws_eqValue_r, decide_eq_false n2, Bool.not_false]
    exact ⟨rfl, by rw [decide_eq_false (fun e => n2 (by rw [e]))]⟩
  simp only [EV, EL, EB, if_true, if_false, Bool.false_eq_true, Nat.reduceAdd, Option.bind_some, laws_eqValue_r, decide_eq_true n2, Bool.not_true, ne_int, ne_bool, ne_str]
  exact ⟨rfl, by rw [decide_eq_true (by cases x; cases y; simp only [DValue.mk.injEq]; exact ⟨n1, n2⟩)]⟩
theorem laws_eqValueS_T (β β' : Bool) (l m : List DValue) (hl : l.length ≤ 1073741824) (h : AH) : T Tryz.prog Γ Fn.laws_eqValueS [.vs β 2 false (l.map (DValue.c β)), .vs β' 2 false (m.map (DValue.c β'))] h fun v h' => v = .bool (decide (l = m)) ∧ h' = h :=
  eqS_D (f := Fn.laws_eqValue) tabOK mixed (fun hw => laws_eqValueS_e hw) (by omega) (fun x => ⟨rfl, rfl⟩) (fun x => ⟨rfl, rfl⟩) (fun x hx y _ => laws_eqValue_T β β' x y h)
theorem laws_toTag_T (β : Bool) (x : DTag) (h : AH) : T Tryz.prog Γ Fn.laws_toTag [.agg (x.c β)] h fun v h' => v = .agg (x.c false) ∧ h' = h := by
  refine laws_toTag_e (aw_sound tabOK mixed [] _ _ _ ?_)
  unfold laws_toTag_c DTag.c
  simp only [EV, EL, EB, if_true, if_false, Bool.false_eq_true, Nat.reduceAdd, Option.bind_some, laws_toTag_r]
  exact rfl
theorem laws_eqTag_T (β β' : Bool) (x y : DTag) (h : AH) : T Tryz.prog Γ Fn.laws_eqTag [.agg (x.c β), .agg (y.c β')] h fun v h' => v = .bool (decide (x = y)) ∧ h' = h := by
  refine laws_eqTag_e (aw_sound tabOK mixed [] _ _ _ ?_)
  unfold laws_eqTag_c DTag.c
  simp only [EV, EL, EB, if_true, if_false, Bool.false_eq_true, Nat.reduceAdd, Option.bind_some, laws_eqTag_r, ne_int, ne_bool, ne_str]
  by_cases n1 : x.vat = y.vat
  rotate_left
  · simp only [EV, EL, EB, if_true, if_false, Bool.false_eq_true, Nat.reduceAdd, Option.bind_some, laws_eqTag_r, decide_eq_false n1, Bool.not_false]
    exact ⟨rfl, by rw [decide_eq_false (fun e => n1 (by rw [e]))]⟩
  simp only [EV, EL, EB, if_true, if_false, Bool.false_eq_true, Nat.reduceAdd, Option.bind_some, laws_eqTag_r, decide_eq_true n1, Bool.not_true, ne_int, ne_bool, ne_str]
  by_cases n2 : x.entity = y.entity
  rotate_left
  · simp only [EV, EL, EB, if_true, if_false, Bool.false_eq_true, Nat.reduceAdd, Option.bind_some, laws_eqTag_r, decide_eq_false n2, Bool.not_false]
    exact ⟨rfl, by rw [decide_eq_false (fun e => n2 (by rw [e]))]⟩
  simp only [EV, EL, EB, if_true, if_false, Bool.false_eq_true, Nat.reduceAdd, Option.bind_some, laws_eqTag_r, decide_eq_true n2, Bool.not_true, ne_int, ne_bool, ne_str]
  by_cases n3 : x.seq = y.seq
  rotate_left
  · simp only [EV, EL, EB, if_true, if_false, Bool.false_eq_true, Nat.reduceAdd, Option.bind_some, laws_eqTag_r, decide_eq_false n3, Bool.not_false]
    exact ⟨rfl, by rw [decide_eq_false (fun e => n3 (by rw [e]))]⟩
  simp only [EV, EL, EB, if_true, if_false, Bool.false_eq_true, Nat.reduceAdd, Option.bind_some, laws_eqTag_r, decide_eq_true n3, Bool.not_true, ne_int, ne_bool, ne_str]
  exact ⟨rfl, by rw [decide_eq_true (by cases x; cases y; simp only [DTag.mk.injEq]; exact ⟨n1, n2, n3⟩)]⟩
theorem laws_toSent_T (β : Bool) (x : DSent) (hx : x.ok 1048576) (h : AH) : T Tryz.prog Γ Fn.laws_toSent [.agg (x.c β)] h (Fresh h [.a x.cd]) := by
  refine T.freshA (laws_toSent_e (aw_sound tabOK mixed [] _ _ _ ?_))
  unfold laws_toSent_c DSent.c
  simp only [EV, EL, EB, if_true, if_false, Bool.false_eq_true, Nat.reduceAdd, Option.bind_some, laws_toSent_r]
  refine TCall.ref (by simp only [EO]) (laws_toValueS_T β x.args (hx.2) _) ?_
  intro v1 h1 q1
  obtain ⟨n1, f1, rfl, o1, nd1, b1⟩ := q1.one
  obtain ⟨c1a, c1b, c1c, c1d⟩ := o1.cell
  simp only [EV, EL, EB, if_true, if_false, Bool.false_eq_true, Nat.reduceAdd, Option.bind_some, c1a, c1b, c1c, c1d, laws_toSent_r]
  refine TCall.val (by simp only [EO]) (laws_toTag_T β x.tag _) ?_
  simp only [EV, EL, EB, if_true, if_false, Bool.false_eq_true, Nat.reduceAdd, Option.bind_some, DTag.c, c1a, c1b, c1c, c1d, laws_toSent_r]
  refine ⟨by simp only [EO, outOK, c1a, c1b, c1c, c1d], _, n1, _, rfl, by simp, (.i (.s (.o o1 (.i (.i (.i (.i .nil))))))), ?_, ?_⟩
  · simpa using nd1
  · simpa using b1
theorem laws_toSentS_T (β : Bool) (l : List DSent) (hl : l.length ≤ 1048576) (ho : ∀ x ∈ l, x.ok 1048576) (h : AH) : T Tryz.prog Γ Fn.laws_toSentS [.vs β 7 false (l.map (DSent.c β))] h (Fresh h [.c (.sl 7 (l.map DSent.cd))]) :=
  toS_own (szs := 7) (sz := 7) (bytes := 80) (z := [.int .i64 0, .str ⟨#[]⟩, .nils, .int .i64 0, .int .i64 0, .int .i64 0, .int .i64 0]) (f := Fn.laws_toSent) tabOK mixed (fun hw => laws_toSentS_e hw) (by simp [maxMade]; omega) rfl rfl (fun x _ => ⟨rfl, rfl⟩) (fun x _ => rfl) (fun x hx H => laws_toSent_T β x (ho x hx) H)
theorem laws_szSent_T (β : Bool) (x : DSent) (hx : x.ok maxLen) (left : Int) (h0 : 0 ≤ left) (h1 : left ≤ 1048576) (h : AH) : T Tryz.prog Γ Fn.laws_szSent [.agg (x.c β), .int .i64 left] h fun v h' => v = .int .i64 (x.szf left) ∧ h' = h := by
  have hml : maxLen ≤ 9223372036854775807 := by decide
  refine laws_szSent_e (aw_sound tabOK mixed [] _ _ _ ?_)
  unfold laws_szSent_c DSent.c
  simp only [EV, EL, EB, if_true, if_false, Bool.false_eq_true, Nat.reduceAdd, Option.bind_some, laws_szSent_r, len_str]
  have hs1 := hx.1
  rw [wrap_nat (by omega) (by omega)]
  by_cases n1 : (left - (x.name.size : Int)) < 0
  · simp only [EV, EL, EB, if_true, if_false, Bool.false_eq_true, Nat.reduceAdd, Option.bind_some, laws_szSent_r, decide_eq_true n1]
    exact ⟨rfl, by simp only [DSent.szf, n1, if_true, if_false]⟩
  simp only [EV, EL, EB, if_true, if_false, Bool.false_eq_true, Nat.reduceAdd, Option.bind_some, laws_szSent_r, decide_eq_false n1, len_str]
  refine TCall.val (by simp only [EO]) (laws_szValueS_T β x.args (hx.2) _ (by omega) (by omega) _) ?_
  simp only [EV, EL, EB, if_true, if_false, Bool.false_eq_true, Nat.reduceAdd, Option.bind_some, laws_szSent_r, len_str]
  by_cases n2 : (szN x.args (left - (x.name.size : Int))) < 0
  · simp only [EV, EL, EB, if_true, if_false, Bool.false_eq_true, Nat.reduceAdd, Option.bind_some, laws_szSent_r, decide_eq_true n2]
    exact ⟨rfl, by simp only [DSent.szf, n2, if_true, if_false, n1]⟩
  simp only [EV, EL, EB, if_true, if_false, Bool.false_eq_true, Nat.reduceAdd, Option.bind_some, laws_szSent_r, decide_eq_false n2, len_str]
  have q2 := (szN_ok (Int.not_lt.1 n2)).2
  exact ⟨rfl, by simp only [DSent.szf, if_false, n1, n2]⟩
theorem laws_szSentS_T (β : Bool) (l : List DSent) (hl : l.length ≤ maxLen) (ho : ∀ x ∈ l, x.ok maxLen) (left : Int) (h0 : 0 ≤ left) (h1 : left ≤ 1048576) (h : AH) : T Tryz.prog Γ Fn.laws_szSentS [.vs β 7 false (l.map (DSent.c β)), .int .i64 left] h fun v h' => v = .int .i64 (szL DSent.szf l left) ∧ h' = h :=
  szS_T (f := Fn.laws_szSent) tabOK mixed (fun hw => laws_szSentS_e hw) h0 h1 hl (fun x => ⟨rfl, rfl⟩) (fun x left a b c => (DSent.szf_ok x left a b c).2) (fun x hx left a b => laws_szSent_T β x (ho x hx) left a b h)
theorem laws_eqSent_T (β β' : Bool) (x y : DSent) (hx : x.ok 1073741824) (h : AH) : T Tryz.prog Γ Fn.laws_eqSent [.agg (x.c β), .agg (y.c β')] h fun v h' => v = .bool (decide (x = y)) ∧ h' = h := by
  refine laws_eqSent_e (aw_sound tabOK mixed [] _ _ _ ?_)
  unfold laws_eqSent_c DSent.c
  simp only [EV, EL, EB, if_true, if_false, Bool.false_eq_true, Nat.reduceAdd, Option.bind_some, laws_eqSent_r, ne_int, ne_bool, ne_str]
  by_cases n1 : x.target = y.target
  rotate_left
  · simp only [EV, EL, EB, if_true, if_false, Bool.false_eq_true, Nat.reduceAdd, Option.bind_some, laws_eqSent_r, decide_eq_false n1, Bool.not_false]
    exact ⟨rfl, by rw [decide_eq_false (fun e => n1 (by rw [e]))]⟩
  simp only [EV, EL, EB, if_true, if_false, Bool.false_eq_true, Nat.reduceAdd, Option.bind_some, laws_eqSent_r, decide_eq_true n1, Bool.not_true, ne_int, ne_bool, ne_str]
  by_cases n2 : x.name = y.name
  rotate_left
  · simp only [EV, EL, EB, if_true, if_false, Bool.false_eq_true, Nat.reduceAdd, Option.bind_some, laws_eqSent_r, decide_eq_false n2, Bool.not_false]
    exact ⟨rfl, by rw [decide_eq_false (fun e => n2 (by rw [e]))]⟩
  simp only [EV, EL, EB, if_true, if_false, Bool.false_eq_true, Nat.reduceAdd, Option.bind_some, laws_eqSent_r, decide_eq_true n2, Bool.not_true, ne_int, ne_bool, ne_str]
  refine TCall.val (by simp only [EO]) (laws_eqValueS_T β β' x.args y.args (hx.2) _) ?_
  simp only [EV, EL, EB, if_true, if_false, Bool.false_eq_true, Nat.reduceAdd, Option.bind_some, laws_eqSent_r, ne_int, ne_bool, ne_str]
  by_cases n3 : x.args = y.args
  rotate_left
  · simp only [EV, EL, EB, if_true, if_false, Bool.false_eq_true, Nat.reduceAdd, Option.bind_some, laws_eqSent_r, decide_eq_false n3, Bool.not_false]
    exact ⟨rfl, by rw [decide_eq_false (fun e => n3 (by rw [e]))]⟩
  simp only [EV, EL, EB, if_true, if_false, Bool.false_eq_true, Nat.reduceAdd, Option.bind_some, laws_eqSent_r, decide_eq_true n3, Bool.not_true, ne_int, ne_bool, ne_str]
  by_cases n4 : x.result = y.result
  rotate_left
  · simp only [EV, EL, EB, if_true, if_false, Bool.false_eq_true, Nat.reduceAdd, Option.bind_some, laws_eqSent_r, decide_eq_false n4, Bool.not_false]
    exact ⟨rfl, by rw [decide_eq_false (fun e => n4 (by rw [e]))]⟩
  simp only [EV, EL, EB, if_true, if_false, Bool.false_eq_true, Nat.reduceAdd, Option.bind_some, laws_eqSent_r, decide_eq_true n4, Bool.not_true, ne_int, ne_bool, ne_str]
  refine TCall.val (by simp only [EO]) (laws_eqTag_T β β' x.tag y.tag _) ?_
  simp only [EV, EL, EB, if_true, if_false, Bool.false_eq_true, Nat.reduceAdd, Option.bind_some, laws_eqSent_r, ne_int, ne_bool, ne_str]
  by_cases n5 : x.tag = y.tag
  rotate_left
  · simp only [EV, EL, EB, if_true, if_false, Bool.false_eq_true, Nat.reduceAdd, Option.bind_some, laws_eqSent_r, decide_eq_false n5, Bool.not_false]
    exact ⟨rfl, by rw [decide_eq_false (fun e => n5 (by rw [e]))]⟩
  simp only [EV, EL, EB, if_true, if_false, Bool.false_eq_true, Nat.reduceAdd, Option.bind_some, laws_eqSent_r, decide_eq_true n5, Bool.not_true, ne_int, ne_bool, ne_str]
  exact ⟨rfl, by rw [decide_eq_true (by cases x; cases y; simp only [DSent.mk.injEq]; exact ⟨n1, n2, n3, n4, n5⟩)]⟩
theorem laws_eqSentS_T (β β' : Bool) (l m : List DSent) (hl : l.length ≤ 1073741824) (ho : ∀ x ∈ l, x.ok 1073741824) (h : AH) : T Tryz.prog Γ Fn.laws_eqSentS [.vs β 7 false (l.map (DSent.c β)), .vs β' 7 false (m.map (DSent.c β'))] h fun v h' => v = .bool (decide (l = m)) ∧ h' = h :=
  eqS_D (f := Fn.laws_eqSent) tabOK mixed (fun hw => laws_eqSentS_e hw) (by omega) (fun x => ⟨rfl, rfl⟩) (fun x => ⟨rfl, rfl⟩) (fun x hx y _ => laws_eqSent_T β β' x y (ho x hx) h)
theorem laws_toAsker_T (β : Bool) (x : DAsker) (h : AH) : T Tryz.prog Γ Fn.laws_toAsker [.agg (x.c β)] h fun v h' => v = .agg (x.c false) ∧ h' = h := by
  refine laws_toAsker_e (aw_sound tabOK mixed [] _ _ _ ?_)
  unfold laws_toAsker_c DAsker.c
  simp only [EV, EL, EB, if_true, if_false, Bool.false_eq_true, Nat.reduceAdd, Option.bind_some, laws_toAsker_r]
  exact rfl
theorem laws_toAskerS_T (β : Bool) (l : List DAsker) (hl : l.length ≤ 1048576) (h : AH) : T Tryz.prog Γ Fn.laws_toAskerS [.vs β 2 false (l.map (DAsker.c β))] h (Fresh h [.c (.sl 2 (l.map DAsker.cd))]) :=
  toS_own (szs := 2) (sz := 2) (bytes := 16) (z := [.int .i64 0, .int .i64 0]) (f := Fn.laws_toAsker) tabOK mixed (fun hw => laws_toAskerS_e hw) (by simp [maxMade]; omega) rfl rfl (fun x _ => ⟨rfl, rfl⟩) (fun x _ => rfl) (fun x hx H => (laws_toAsker_T β x H).flat (cs := x.cd) (by simp [DAsker.cd, CD.flat]) (by rw [DAsker.c_eq]))
theorem laws_szAskerS_T (β : Bool) (l : List DAsker) (hl : l.length ≤ maxLen) (left : Int) (h0 : 0 ≤ left) (h1 : left ≤ 1048576) (h : AH) : T Tryz.prog Γ Fn.laws_szAskerS [.vs β 2 false (l.map (DAsker.c β)), .int .i64 left] h fun v h' => v = .int .i64 (szN l left) ∧ h' = h :=
  szF_T tabOK mixed (fun hw => laws_szAskerS_e hw) h0 h1 hl
theorem laws_eqAsker_T (β β' : Bool) (x y : DAsker) (h : AH) : T Tryz.prog Γ Fn.laws_eqAsker [.agg (x.c β), .agg (y.c β')] h fun v h' => v = .bool (decide (x = y)) ∧ h' = h := by
  refine laws_eqAsker_e (aw_sound tabOK mixed [] _ _ _ ?_)
  unfold laws_eqAsker_c DAsker.c
  simp only [EV, EL, EB, if_true, if_false, Bool.false_eq_true, Nat.reduceAdd, Option.bind_some, laws_eqAsker_r, ne_int, ne_bool, ne_str]
  by_cases n1 : x.peer = y.peer
  rotate_left
  · simp only [EV, EL, EB, if_true, if_false, Bool.false_eq_true, Nat.reduceAdd, Option.bind_some, laws_eqAsker_r, decide_eq_false n1, Bool.not_false]
    exact ⟨rfl, by rw [decide_eq_false (fun e => n1 (by rw [e]))]⟩
  simp only [EV, EL, EB, if_true, if_false, Bool.false_eq_true, Nat.reduceAdd, Option.bind_some, laws_eqAsker_r, decide_eq_true n1, Bool.not_true, ne_int, ne_bool, ne_str]
  by_cases n2 : x.question = y.question
  rotate_left
  · simp only [EV, EL, EB, if_true, if_false, Bool.false_eq_true, Nat.reduceAdd, Option.bind_some, laws_eqAsker_r, decide_eq_false n2, Bool.not_false]
    exact ⟨rfl, by rw [decide_eq_false (fun e => n2 (by rw [e]))]⟩
  simp only [EV, EL, EB, if_true, if_false, Bool.false_eq_true, Nat.reduceAdd, Option.bind_some, laws_eqAsker_r, decide_eq_true n2, Bool.not_true, ne_int, ne_bool, ne_str]
  exact ⟨rfl, by rw [decide_eq_true (by cases x; cases y; simp only [DAsker.mk.injEq]; exact ⟨n1, n2⟩)]⟩
theorem laws_eqAskerS_T (β β' : Bool) (l m : List DAsker) (hl : l.length ≤ 1073741824) (h : AH) : T Tryz.prog Γ Fn.laws_eqAskerS [.vs β 2 false (l.map (DAsker.c β)), .vs β' 2 false (m.map (DAsker.c β'))] h fun v h' => v = .bool (decide (l = m)) ∧ h' = h :=
  eqS_D (f := Fn.laws_eqAsker) tabOK mixed (fun hw => laws_eqAskerS_e hw) (by omega) (fun x => ⟨rfl, rfl⟩) (fun x => ⟨rfl, rfl⟩) (fun x hx y _ => laws_eqAsker_T β β' x y h)
theorem laws_toEntity_T (β : Bool) (x : DEntity) (hx : x.ok 1048576) (h : AH) : T Tryz.prog Γ Fn.laws_toEntity [.agg (x.c β)] h (Fresh h [.a x.cd]) := by
  refine T.freshA (laws_toEntity_e (aw_sound tabOK mixed [] _ _ _ ?_))
  unfold laws_toEntity_c DEntity.c
  simp only [EV, EL, EB, if_true, if_false, Bool.false_eq_true, Nat.reduceAdd, Option.bind_some, laws_toEntity_r]
  refine TCall.ref (by simp only [EO]) (laws_toValueS_T β x.slots (hx.1) _) ?_
  intro v1 h1 q1
  obtain ⟨n1, f1, rfl, o1, nd1, b1⟩ := q1.one
  obtain ⟨c1a, c1b, c1c, c1d⟩ := o1.cell
  simp only [EV, EL, EB, if_true, if_false, Bool.false_eq_true, Nat.reduceAdd, Option.bind_some, c1a, c1b, c1c, c1d, laws_toEntity_r]
  refine TCall.val (by simp only [EO]) (laws_toValue_T β x.value _) ?_
  simp only [EV, EL, EB, if_true, if_false, Bool.false_eq_true, Nat.reduceAdd, Option.bind_some, DValue.c, c1a, c1b, c1c, c1d, laws_toEntity_r]
  refine TCall.ref (by simp only [EO]) (laws_toSentS_T β x.queue (hx.2.1) (hx.2.2.1) _) ?_
  intro v2 h2 q2
  obtain ⟨n2, f2, rfl, o2, nd2, b2⟩ := q2.one
  obtain ⟨c2a, c2b, c2c, c2d⟩ := o2.cell
  simp only [EV, EL, EB, if_true, if_false, Bool.false_eq_true, Nat.reduceAdd, Option.bind_some, c1a, c1b, c1c, c1d, c2a, c2b, c2c, c2d, laws_toEntity_r]
  refine TCall.ref (by simp only [EO]) (laws_toAskerS_T β x.askers (hx.2.2.2) _) ?_
  intro v3 h3 q3
  obtain ⟨n3, f3, rfl, o3, nd3, b3⟩ := q3.one
  obtain ⟨c3a, c3b, c3c, c3d⟩ := o3.cell
  simp only [EV, EL, EB, if_true, if_false, Bool.false_eq_true, Nat.reduceAdd, Option.bind_some, c1a, c1b, c1c, c1d, c2a, c2b, c2c, c2d, c3a, c3b, c3c, c3d, laws_toEntity_r]
  refine ⟨by simp only [EO, outOK, c1a, c1b, c1c, c1d, c2a, c2b, c2c, c2d, c3a, c3b, c3c, c3d], _, n1 ++ n2 ++ n3, _, rfl, by simp, (.i (.i (.o o1.grow.grow (.i (.i (.i (.o o2.grow (.o o3 (.i (.i (.i (.i .nil)))))))))))), ?_, ?_⟩
  · simp only [List.append_nil]
    exact nodup_app nd1 (nodup_app nd2 (nd3) (fun b hb => o2.lt b hb) (fun b hb => by (try simp only [List.mem_append] at hb); first | (have := b3 b hb; simp only [List.length_append] at this ⊢; omega))) (fun b hb => o1.lt b hb) (fun b hb => by (try simp only [List.mem_append] at hb); rcases hb with hb | hb <;> first | (have := b2 b hb; simp only [List.length_append] at this ⊢; omega) | (have := b3 b hb; simp only [List.length_append] at this ⊢; omega))
  · intro b hb
    simp only [List.append_nil, List.mem_append] at hb
    rcases hb with hb | hb | hb <;> first | (have := b1 b hb; simp only [List.length_append] at this ⊢; omega) | (have := b2 b hb; simp only [List.length_append] at this ⊢; omega) | (have := b3 b hb; simp only [List.length_append] at this ⊢; omega)
theorem laws_toEntityS_T (β : Bool) (l : List DEntity) (hl : l.length ≤ 1048576) (ho : ∀ x ∈ l, x.ok 1048576) (h : AH) : T Tryz.prog Γ Fn.laws_toEntityS [.vs β 12 false (l.map (DEntity.c β))] h (Fresh h [.c (.sl 12 (l.map DEntity.cd))]) :=
  toS_own (szs := 12) (sz := 12) (bytes := 144) (z := [.int .i64 0, .int .i64 0, .nils, .int .i64 0, .int .i64 0, .int .i64 0, .nils, .nils, .int .i64 0, .int .i64 0, .int .i64 0, .int .i64 0]) (f := Fn.laws_toEntity) tabOK mixed (fun hw => laws_toEntityS_e hw) (by simp [maxMade]; omega) rfl rfl (fun x _ => ⟨rfl, rfl⟩) (fun x _ => rfl) (fun x hx H => laws_toEntity_T β x (ho x hx) H)
theorem laws_szEntity_T (β : Bool) (x : DEntity) (hx : x.ok maxLen) (left : Int) (h0 : 0 ≤ left) (h1 : left ≤ 1048576) (h : AH) : T Tryz.prog Γ Fn.laws_szEntity [.agg (x.c β), .int .i64 left] h fun v h' => v = .int .i64 (x.szf left) ∧ h' = h := by
  have hml : maxLen ≤ 9223372036854775807 := by decide
  refine laws_szEntity_e (aw_sound tabOK mixed [] _ _ _ ?_)
  unfold laws_szEntity_c DEntity.c
  simp only [EV, EL, EB, if_true, if_false, Bool.false_eq_true, Nat.reduceAdd, Option.bind_some, laws_szEntity_r, len_str]
  refine TCall.val (by simp only [EO]) (laws_szValueS_T β x.slots (hx.1) _ (by omega) (by omega) _) ?_
  simp only [EV, EL, EB, if_true, if_false, Bool.false_eq_true, Nat.reduceAdd, Option.bind_some, laws_szEntity_r, len_str]
  by_cases n1 : (szN x.slots left) < 0
  · simp only [EV, EL, EB, if_true, if_false, Bool.false_eq_true, Nat.reduceAdd, Option.bind_some, laws_szEntity_r, decide_eq_true n1]
    exact ⟨rfl, by simp only [DEntity.szf, n1, if_true, if_false]⟩
  simp only [EV, EL, EB, if_true, if_false, Bool.false_eq_true, Nat.reduceAdd, Option.bind_some, laws_szEntity_r, decide_eq_false n1, len_str]
  have q1 := (szN_ok (Int.not_lt.1 n1)).2
  refine TCall.val (by simp only [EO]) (laws_szSentS_T β x.queue (hx.2.1) (hx.2.2.1) _ (by omega) (by omega) _) ?_
  simp only [EV, EL, EB, if_true, if_false, Bool.false_eq_true, Nat.reduceAdd, Option.bind_some, laws_szEntity_r, len_str]
  by_cases n2 : (szL DSent.szf x.queue (szN x.slots left)) < 0
  · simp only [EV, EL, EB, if_true, if_false, Bool.false_eq_true, Nat.reduceAdd, Option.bind_some, laws_szEntity_r, decide_eq_true n2]
    exact ⟨rfl, by simp only [DEntity.szf, n2, if_true, if_false, n1]⟩
  simp only [EV, EL, EB, if_true, if_false, Bool.false_eq_true, Nat.reduceAdd, Option.bind_some, laws_szEntity_r, decide_eq_false n2, len_str]
  have q2 := (szL_ok (Q := DSent.ok 1048576) (B := 1048576) (fun x left a b c => DSent.szf_ok x left a b c) (by omega) (by omega) (Int.not_lt.1 n2)).2
  refine TCall.val (by simp only [EO]) (laws_szAskerS_T β x.askers (hx.2.2.2) _ (by omega) (by omega) _) ?_
  simp only [EV, EL, EB, if_true, if_false, Bool.false_eq_true, Nat.reduceAdd, Option.bind_some, laws_szEntity_r, len_str]
  by_cases n3 : (szN x.askers (szL DSent.szf x.queue (szN x.slots left))) < 0
  · simp only [EV, EL, EB, if_true, if_false, Bool.false_eq_true, Nat.reduceAdd, Option.bind_some, laws_szEntity_r, decide_eq_true n3]
    exact ⟨rfl, by simp only [DEntity.szf, n3, if_true, if_false, n1, n2]⟩
  simp only [EV, EL, EB, if_true, if_false, Bool.false_eq_true, Nat.reduceAdd, Option.bind_some, laws_szEntity_r, decide_eq_false n3, len_str]
  have q3 := (szN_ok (Int.not_lt.1 n3)).2
  exact ⟨rfl, by simp only [DEntity.szf, if_false, n1, n2, n3]⟩
theorem laws_szEntityS_T (β : Bool) (l : List DEntity) (hl : l.length ≤ maxLen) (ho : ∀ x ∈ l, x.ok maxLen) (left : Int) (h0 : 0 ≤ left) (h1 : left ≤ 1048576) (h : AH) : T Tryz.prog Γ Fn.laws_szEntityS [.vs β 12 false (l.map (DEntity.c β)), .int .i64 left] h fun v h' => v = .int .i64 (szL DEntity.szf l left) ∧ h' = h :=
  szS_T (f := Fn.laws_szEntity) tabOK mixed (fun hw => laws_szEntityS_e hw) h0 h1 hl (fun x => ⟨rfl, rfl⟩) (fun x left a b c => (DEntity.szf_ok x left a b c).2) (fun x hx left a b => laws_szEntity_T β x (ho x hx) left a b h)
theorem laws_eqEntity_T (β β' : Bool) (x y : DEntity) (hx : x.ok 1073741824) (h : AH) : T Tryz.prog Γ Fn.laws_eqEntity [.agg (x.c β), .agg (y.c β')] h fun v h' => v = .bool (decide (x = y)) ∧ h' = h := by
  refine laws_eqEntity_e (aw_sound tabOK mixed [] _ _ _ ?_)
  unfold laws_eqEntity_c DEntity.c
  simp only [EV, EL, EB, if_true, if_false, Bool.false_eq_true, Nat.reduceAdd, Option.bind_some, laws_eqEntity_r, ne_int, ne_bool, ne_str]
  by_cases n1 : x.kind = y.kind
  rotate_left
  · simp only [EV, EL, EB, if_true, if_false, Bool.false_eq_true, Nat.reduceAdd, Option.bind_some, laws_eqEntity_r, decide_eq_false n1, Bool.not_false]
    exact ⟨rfl, by rw [decide_eq_false (fun e => n1 (by rw [e]))]⟩
  simp only [EV, EL, EB, if_true, if_false, Bool.false_eq_true, Nat.reduceAdd, Option.bind_some, laws_eqEntity_r, decide_eq_true n1, Bool.not_true, ne_int, ne_bool, ne_str]
  by_cases n2 : x.script = y.script
  rotate_left
  · simp only [EV, EL, EB, if_true, if_false, Bool.false_eq_true, Nat.reduceAdd, Option.bind_some, laws_eqEntity_r, decide_eq_false n2, Bool.not_false]
    exact ⟨rfl, by rw [decide_eq_false (fun e => n2 (by rw [e]))]⟩
  simp only [EV, EL, EB, if_true, if_false, Bool.false_eq_true, Nat.reduceAdd, Option.bind_some, laws_eqEntity_r, decide_eq_true n2, Bool.not_true, ne_int, ne_bool, ne_str]
  refine TCall.val (by simp only [EO]) (laws_eqValueS_T β β' x.slots y.slots (hx.1) _) ?_
  simp only [EV, EL, EB, if_true, if_false, Bool.false_eq_true, Nat.reduceAdd, Option.bind_some, laws_eqEntity_r, ne_int, ne_bool, ne_str]
  by_cases n3 : x.slots = y.slots
  rotate_left
  · simp only [EV, EL, EB, if_true, if_false, Bool.false_eq_true, Nat.reduceAdd, Option.bind_some, laws_eqEntity_r, decide_eq_false n3, Bool.not_false]
    exact ⟨rfl, by rw [decide_eq_false (fun e => n3 (by rw [e]))]⟩
  simp only [EV, EL, EB, if_true, if_false, Bool.false_eq_true, Nat.reduceAdd, Option.bind_some, laws_eqEntity_r, decide_eq_true n3, Bool.not_true, ne_int, ne_bool, ne_str]
  by_cases n4 : x.state = y.state
  rotate_left
  · simp only [EV, EL, EB, if_true, if_false, Bool.false_eq_true, Nat.reduceAdd, Option.bind_some, laws_eqEntity_r, decide_eq_false n4, Bool.not_false]
    exact ⟨rfl, by rw [decide_eq_false (fun e => n4 (by rw [e]))]⟩
  simp only [EV, EL, EB, if_true, if_false, Bool.false_eq_true, Nat.reduceAdd, Option.bind_some, laws_eqEntity_r, decide_eq_true n4, Bool.not_true, ne_int, ne_bool, ne_str]
  refine TCall.val (by simp only [EO]) (laws_eqValue_T β β' x.value y.value _) ?_
  simp only [EV, EL, EB, if_true, if_false, Bool.false_eq_true, Nat.reduceAdd, Option.bind_some, laws_eqEntity_r, ne_int, ne_bool, ne_str]
  by_cases n5 : x.value = y.value
  rotate_left
  · simp only [EV, EL, EB, if_true, if_false, Bool.false_eq_true, Nat.reduceAdd, Option.bind_some, laws_eqEntity_r, decide_eq_false n5, Bool.not_false]
    exact ⟨rfl, by rw [decide_eq_false (fun e => n5 (by rw [e]))]⟩
  simp only [EV, EL, EB, if_true, if_false, Bool.false_eq_true, Nat.reduceAdd, Option.bind_some, laws_eqEntity_r, decide_eq_true n5, Bool.not_true, ne_int, ne_bool, ne_str]
  refine TCall.val (by simp only [EO]) (laws_eqSentS_T β β' x.queue y.queue (hx.2.1) (hx.2.2.1) _) ?_
  simp only [EV, EL, EB, if_true, if_false, Bool.false_eq_true, Nat.reduceAdd, Option.bind_some, laws_eqEntity_r, ne_int, ne_bool, ne_str]
  by_cases n6 : x.queue = y.queue
  rotate_left
  · simp only [EV, EL, EB, if_true, if_false, Bool.false_eq_true, Nat.reduceAdd, Option.bind_some, laws_eqEntity_r, decide_eq_false n6, Bool.not_false]
    exact ⟨rfl, by rw [decide_eq_false (fun e => n6 (by rw [e]))]⟩
  simp only [EV, EL, EB, if_true, if_false, Bool.false_eq_true, Nat.reduceAdd, Option.bind_some, laws_eqEntity_r, decide_eq_true n6, Bool.not_true, ne_int, ne_bool, ne_str]
  refine TCall.val (by simp only [EO]) (laws_eqAskerS_T β β' x.askers y.askers (hx.2.2.2) _) ?_
  simp only [EV, EL, EB, if_true, if_false, Bool.false_eq_true, Nat.reduceAdd, Option.bind_some, laws_eqEntity_r, ne_int, ne_bool, ne_str]
  by_cases n7 : x.askers = y.askers
  rotate_left
  · simp only [EV, EL, EB, if_true, if_false, Bool.false_eq_true, Nat.reduceAdd, Option.bind_some, laws_eqEntity_r, decide_eq_false n7, Bool.not_false]
    exact ⟨rfl, by rw [decide_eq_false (fun e => n7 (by rw [e]))]⟩
  simp only [EV, EL, EB, if_true, if_false, Bool.false_eq_true, Nat.reduceAdd, Option.bind_some, laws_eqEntity_r, decide_eq_true n7, Bool.not_true, ne_int, ne_bool, ne_str]
  by_cases n8 : x.peer = y.peer
  rotate_left
  · simp only [EV, EL, EB, if_true, if_false, Bool.false_eq_true, Nat.reduceAdd, Option.bind_some, laws_eqEntity_r, decide_eq_false n8, Bool.not_false]
    exact ⟨rfl, by rw [decide_eq_false (fun e => n8 (by rw [e]))]⟩
  simp only [EV, EL, EB, if_true, if_false, Bool.false_eq_true, Nat.reduceAdd, Option.bind_some, laws_eqEntity_r, decide_eq_true n8, Bool.not_true, ne_int, ne_bool, ne_str]
  by_cases n9 : x.pos = y.pos
  rotate_left
  · simp only [EV, EL, EB, if_true, if_false, Bool.false_eq_true, Nat.reduceAdd, Option.bind_some, laws_eqEntity_r, decide_eq_false n9, Bool.not_false]
    exact ⟨rfl, by rw [decide_eq_false (fun e => n9 (by rw [e]))]⟩
  simp only [EV, EL, EB, if_true, if_false, Bool.false_eq_true, Nat.reduceAdd, Option.bind_some, laws_eqEntity_r, decide_eq_true n9, Bool.not_true, ne_int, ne_bool, ne_str]
  by_cases n10 : x.count = y.count
  rotate_left
  · simp only [EV, EL, EB, if_true, if_false, Bool.false_eq_true, Nat.reduceAdd, Option.bind_some, laws_eqEntity_r, decide_eq_false n10, Bool.not_false]
    exact ⟨rfl, by rw [decide_eq_false (fun e => n10 (by rw [e]))]⟩
  simp only [EV, EL, EB, if_true, if_false, Bool.false_eq_true, Nat.reduceAdd, Option.bind_some, laws_eqEntity_r, decide_eq_true n10, Bool.not_true, ne_int, ne_bool, ne_str]
  by_cases n11 : x.sent = y.sent
  rotate_left
  · simp only [EV, EL, EB, if_true, if_false, Bool.false_eq_true, Nat.reduceAdd, Option.bind_some, laws_eqEntity_r, decide_eq_false n11, Bool.not_false]
    exact ⟨rfl, by rw [decide_eq_false (fun e => n11 (by rw [e]))]⟩
  simp only [EV, EL, EB, if_true, if_false, Bool.false_eq_true, Nat.reduceAdd, Option.bind_some, laws_eqEntity_r, decide_eq_true n11, Bool.not_true, ne_int, ne_bool, ne_str]
  exact ⟨rfl, by rw [decide_eq_true (by cases x; cases y; simp only [DEntity.mk.injEq]; exact ⟨n1, n2, n3, n4, n5, n6, n7, n8, n9, n10, n11⟩)]⟩
theorem laws_eqEntityS_T (β β' : Bool) (l m : List DEntity) (hl : l.length ≤ 1073741824) (ho : ∀ x ∈ l, x.ok 1073741824) (h : AH) : T Tryz.prog Γ Fn.laws_eqEntityS [.vs β 12 false (l.map (DEntity.c β)), .vs β' 12 false (m.map (DEntity.c β'))] h fun v h' => v = .bool (decide (l = m)) ∧ h' = h :=
  eqS_D (f := Fn.laws_eqEntity) tabOK mixed (fun hw => laws_eqEntityS_e hw) (by omega) (fun x => ⟨rfl, rfl⟩) (fun x => ⟨rfl, rfl⟩) (fun x hx y _ => laws_eqEntity_T β β' x y (ho x hx) h)
theorem laws_toExport_T (β : Bool) (x : DExport) (h : AH) : T Tryz.prog Γ Fn.laws_toExport [.agg (x.c β)] h fun v h' => v = .agg (x.c false) ∧ h' = h := by
  refine laws_toExport_e (aw_sound tabOK mixed [] _ _ _ ?_)
  unfold laws_toExport_c DExport.c
  simp only [EV, EL, EB, if_true, if_false, Bool.false_eq_true, Nat.reduceAdd, Option.bind_some, laws_toExport_r]
  exact rfl
theorem laws_toExportS_T (β : Bool) (l : List DExport) (hl : l.length ≤ 1048576) (h : AH) : T Tryz.prog Γ Fn.laws_toExportS [.vs β 3 false (l.map (DExport.c β))] h (Fresh h [.c (.sl 3 (l.map DExport.cd))]) :=
  toS_own (szs := 3) (sz := 3) (bytes := 24) (z := [.int .i64 0, .int .i64 0, .int .i64 0]) (f := Fn.laws_toExport) tabOK mixed (fun hw => laws_toExportS_e hw) (by simp [maxMade]; omega) rfl rfl (fun x _ => ⟨rfl, rfl⟩) (fun x _ => rfl) (fun x hx H => (laws_toExport_T β x H).flat (cs := x.cd) (by simp [DExport.cd, CD.flat]) (by rw [DExport.c_eq]))
theorem laws_szExportS_T (β : Bool) (l : List DExport) (hl : l.length ≤ maxLen) (left : Int) (h0 : 0 ≤ left) (h1 : left ≤ 1048576) (h : AH) : T Tryz.prog Γ Fn.laws_szExportS [.vs β 3 false (l.map (DExport.c β)), .int .i64 left] h fun v h' => v = .int .i64 (szN l left) ∧ h' = h :=
  szF_T tabOK mixed (fun hw => laws_szExportS_e hw) h0 h1 hl
theorem laws_eqExport_T (β β' : Bool) (x y : DExport) (h : AH) : T Tryz.prog Γ Fn.laws_eqExport [.agg (x.c β), .agg (y.c β')] h fun v h' => v = .bool (decide (x = y)) ∧ h' = h := by
  refine laws_eqExport_e (aw_sound tabOK mixed [] _ _ _ ?_)
  unfold laws_eqExport_c DExport.c
  simp only [EV, EL, EB, if_true, if_false, Bool.false_eq_true, Nat.reduceAdd, Option.bind_some, laws_eqExport_r, ne_int, ne_bool, ne_str]
  by_cases n1 : x.pos = y.pos
  rotate_left
  · simp only [EV, EL, EB, if_true, if_false, Bool.false_eq_true, Nat.reduceAdd, Option.bind_some, laws_eqExport_r, decide_eq_false n1, Bool.not_false]
    exact ⟨rfl, by rw [decide_eq_false (fun e => n1 (by rw [e]))]⟩
  simp only [EV, EL, EB, if_true, if_false, Bool.false_eq_true, Nat.reduceAdd, Option.bind_some, laws_eqExport_r, decide_eq_true n1, Bool.not_true, ne_int, ne_bool, ne_str]
  by_cases n2 : x.entity = y.entity
  rotate_left
  · simp only [EV, EL, EB, if_true, if_false, Bool.false_eq_true, Nat.reduceAdd, Option.bind_some, laws_eqExport_r, decide_eq_false n2, Bool.not_false]
    exact ⟨rfl, by rw [decide_eq_false (fun e => n2 (by rw [e]))]⟩
  simp only [EV, EL, EB, if_true, if_false, Bool.false_eq_true, Nat.reduceAdd, Option.bind_some, laws_eqExport_r, decide_eq_true n2, Bool.not_true, ne_int, ne_bool, ne_str]
  by_cases n3 : x.count = y.count
  rotate_left
  · simp only [EV, EL, EB, if_true, if_false, Bool.false_eq_true, Nat.reduceAdd, Option.bind_some, laws_eqExport_r, decide_eq_false n3, Bool.not_false]
    exact ⟨rfl, by rw [decide_eq_false (fun e => n3 (by rw [e]))]⟩
  simp only [EV, EL, EB, if_true, if_false, Bool.false_eq_true, Nat.reduceAdd, Option.bind_some, laws_eqExport_r, decide_eq_true n3, Bool.not_true, ne_int, ne_bool, ne_str]
  exact ⟨rfl, by rw [decide_eq_true (by cases x; cases y; simp only [DExport.mk.injEq]; exact ⟨n1, n2, n3⟩)]⟩
theorem laws_eqExportS_T (β β' : Bool) (l m : List DExport) (hl : l.length ≤ 1073741824) (h : AH) : T Tryz.prog Γ Fn.laws_eqExportS [.vs β 3 false (l.map (DExport.c β)), .vs β' 3 false (m.map (DExport.c β'))] h fun v h' => v = .bool (decide (l = m)) ∧ h' = h :=
  eqS_D (f := Fn.laws_eqExport) tabOK mixed (fun hw => laws_eqExportS_e hw) (by omega) (fun x => ⟨rfl, rfl⟩) (fun x => ⟨rfl, rfl⟩) (fun x hx y _ => laws_eqExport_T β β' x y h)
theorem laws_toQuestion_T (β : Bool) (x : DQuestion) (h : AH) : T Tryz.prog Γ Fn.laws_toQuestion [.agg (x.c β)] h fun v h' => v = .agg (x.c false) ∧ h' = h := by
  refine laws_toQuestion_e (aw_sound tabOK mixed [] _ _ _ ?_)
  unfold laws_toQuestion_c DQuestion.c
  simp only [EV, EL, EB, if_true, if_false, Bool.false_eq_true, Nat.reduceAdd, Option.bind_some, laws_toQuestion_r]
  exact rfl
theorem laws_toQuestionS_T (β : Bool) (l : List DQuestion) (hl : l.length ≤ 1048576) (h : AH) : T Tryz.prog Γ Fn.laws_toQuestionS [.vs β 2 false (l.map (DQuestion.c β))] h (Fresh h [.c (.sl 2 (l.map DQuestion.cd))]) :=
  toS_own (szs := 2) (sz := 2) (bytes := 16) (z := [.int .i64 0, .int .i64 0]) (f := Fn.laws_toQuestion) tabOK mixed (fun hw => laws_toQuestionS_e hw) (by simp [maxMade]; omega) rfl rfl (fun x _ => ⟨rfl, rfl⟩) (fun x _ => rfl) (fun x hx H => (laws_toQuestion_T β x H).flat (cs := x.cd) (by simp [DQuestion.cd, CD.flat]) (by rw [DQuestion.c_eq]))
theorem laws_szQuestionS_T (β : Bool) (l : List DQuestion) (hl : l.length ≤ maxLen) (left : Int) (h0 : 0 ≤ left) (h1 : left ≤ 1048576) (h : AH) : T Tryz.prog Γ Fn.laws_szQuestionS [.vs β 2 false (l.map (DQuestion.c β)), .int .i64 left] h fun v h' => v = .int .i64 (szN l left) ∧ h' = h :=
  szF_T tabOK mixed (fun hw => laws_szQuestionS_e hw) h0 h1 hl
theorem laws_eqQuestion_T (β β' : Bool) (x y : DQuestion) (h : AH) : T Tryz.prog Γ Fn.laws_eqQuestion [.agg (x.c β), .agg (y.c β')] h fun v h' => v = .bool (decide (x = y)) ∧ h' = h := by
  refine laws_eqQuestion_e (aw_sound tabOK mixed [] _ _ _ ?_)
  unfold laws_eqQuestion_c DQuestion.c
  simp only [EV, EL, EB, if_true, if_false, Bool.false_eq_true, Nat.reduceAdd, Option.bind_some, laws_eqQuestion_r, ne_int, ne_bool, ne_str]
  by_cases n1 : x.id = y.id
  rotate_left
  · simp only [EV, EL, EB, if_true, if_false, Bool.false_eq_true, Nat.reduceAdd, Option.bind_some, laws_eqQuestion_r, decide_eq_false n1, Bool.not_false]
    exact ⟨rfl, by rw [decide_eq_false (fun e => n1 (by rw [e]))]⟩
  simp only [EV, EL, EB, if_true, if_false, Bool.false_eq_true, Nat.reduceAdd, Option.bind_some, laws_eqQuestion_r, decide_eq_true n1, Bool.not_true, ne_int, ne_bool, ne_str]
  by_cases n2 : x.promise = y.promise
  rotate_left
  · simp only [EV, EL, EB, if_true, if_false, Bool.false_eq_true, Nat.reduceAdd, Option.bind_some, laws_eqQuestion_r, decide_eq_false n2, Bool.not_false]
    exact ⟨rfl, by rw [decide_eq_false (fun e => n2 (by rw [e]))]⟩
  simp only [EV, EL, EB, if_true, if_false, Bool.false_eq_true, Nat.reduceAdd, Option.bind_some, laws_eqQuestion_r, decide_eq_true n2, Bool.not_true, ne_int, ne_bool, ne_str]
  exact ⟨rfl, by rw [decide_eq_true (by cases x; cases y; simp only [DQuestion.mk.injEq]; exact ⟨n1, n2⟩)]⟩
theorem laws_eqQuestionS_T (β β' : Bool) (l m : List DQuestion) (hl : l.length ≤ 1073741824) (h : AH) : T Tryz.prog Γ Fn.laws_eqQuestionS [.vs β 2 false (l.map (DQuestion.c β)), .vs β' 2 false (m.map (DQuestion.c β'))] h fun v h' => v = .bool (decide (l = m)) ∧ h' = h :=
  eqS_D (f := Fn.laws_eqQuestion) tabOK mixed (fun hw => laws_eqQuestionS_e hw) (by omega) (fun x => ⟨rfl, rfl⟩) (fun x => ⟨rfl, rfl⟩) (fun x hx y _ => laws_eqQuestion_T β β' x y h)
theorem laws_toLink_T (β : Bool) (x : DLink) (hx : x.ok 1048576) (h : AH) : T Tryz.prog Γ Fn.laws_toLink [.agg (x.c β)] h (Fresh h [.a x.cd]) := by
  refine T.freshA (laws_toLink_e (aw_sound tabOK mixed [] _ _ _ ?_))
  unfold laws_toLink_c DLink.c
  simp only [EV, EL, EB, if_true, if_false, Bool.false_eq_true, Nat.reduceAdd, Option.bind_some, laws_toLink_r]
  refine TCall.ref (by simp only [EO]) (laws_toExportS_T β x.exports (hx.1) _) ?_
  intro v1 h1 q1
  obtain ⟨n1, f1, rfl, o1, nd1, b1⟩ := q1.one
  obtain ⟨c1a, c1b, c1c, c1d⟩ := o1.cell
  simp only [EV, EL, EB, if_true, if_false, Bool.false_eq_true, Nat.reduceAdd, Option.bind_some, c1a, c1b, c1c, c1d, laws_toLink_r]
  refine TCall.ref (by simp only [EO]) (laws_toQuestionS_T β x.questions (hx.2.1) _) ?_
  intro v2 h2 q2
  obtain ⟨n2, f2, rfl, o2, nd2, b2⟩ := q2.one
  obtain ⟨c2a, c2b, c2c, c2d⟩ := o2.cell
  simp only [EV, EL, EB, if_true, if_false, Bool.false_eq_true, Nat.reduceAdd, Option.bind_some, c1a, c1b, c1c, c1d, c2a, c2b, c2c, c2d, laws_toLink_r]
  refine TCall.ref (by simp only [EO]) (laws_toQuestionS_T β x.answers (hx.2.2) _) ?_
  intro v3 h3 q3
  obtain ⟨n3, f3, rfl, o3, nd3, b3⟩ := q3.one
  obtain ⟨c3a, c3b, c3c, c3d⟩ := o3.cell
  simp only [EV, EL, EB, if_true, if_false, Bool.false_eq_true, Nat.reduceAdd, Option.bind_some, c1a, c1b, c1c, c1d, c2a, c2b, c2c, c2d, c3a, c3b, c3c, c3d, laws_toLink_r]
  refine ⟨by simp only [EO, outOK, c1a, c1b, c1c, c1d, c2a, c2b, c2c, c2d, c3a, c3b, c3c, c3d], _, n1 ++ n2 ++ n3, _, rfl, by simp, (.i (.b (.o o1.grow.grow (.i (.o o2.grow (.i (.o o3 .nil))))))), ?_, ?_⟩
  · simp only [List.append_nil]
    exact nodup_app nd1 (nodup_app nd2 (nd3) (fun b hb => o2.lt b hb) (fun b hb => by (try simp only [List.mem_append] at hb); first | (have := b3 b hb; simp only [List.length_append] at this ⊢; omega))) (fun b hb => o1.lt b hb) (fun b hb => by (try simp only [List.mem_append] at hb); rcases hb with hb | hb <;> first | (have := b2 b hb; simp only [List.length_append] at this ⊢; omega) | (have := b3 b hb; simp only [List.length_append] at this ⊢; omega))
  · intro b hb
    simp only [List.append_nil, List.mem_append] at hb
    rcases hb with hb | hb | hb <;> first | (have := b1 b hb; simp only [List.length_append] at this ⊢; omega) | (have := b2 b hb; simp only [List.length_append] at this ⊢; omega) | (have := b3 b hb; simp only [List.length_append] at this ⊢; omega)
theorem laws_toLinkS_T (β : Bool) (l : List DLink) (hl : l.length ≤ 1048576) (ho : ∀ x ∈ l, x.ok 1048576) (h : AH) : T Tryz.prog Γ Fn.laws_toLinkS [.vs β 7 false (l.map (DLink.c β))] h (Fresh h [.c (.sl 7 (l.map DLink.cd))]) :=
  toS_own (szs := 7) (sz := 7) (bytes := 104) (z := [.int .i64 0, .bool false, .nils, .int .i64 0, .nils, .int .i64 0, .nils]) (f := Fn.laws_toLink) tabOK mixed (fun hw => laws_toLinkS_e hw) (by simp [maxMade]; omega) rfl rfl (fun x _ => ⟨rfl, rfl⟩) (fun x _ => rfl) (fun x hx H => laws_toLink_T β x (ho x hx) H)
theorem laws_szLink_T (β : Bool) (x : DLink) (hx : x.ok maxLen) (left : Int) (h0 : 0 ≤ left) (h1 : left ≤ 1048576) (h : AH) : T Tryz.prog Γ Fn.laws_szLink [.agg (x.c β), .int .i64 left] h fun v h' => v = .int .i64 (x.szf left) ∧ h' = h := by
  have hml : maxLen ≤ 9223372036854775807 := by decide
  refine laws_szLink_e (aw_sound tabOK mixed [] _ _ _ ?_)
  unfold laws_szLink_c DLink.c
  simp only [EV, EL, EB, if_true, if_false, Bool.false_eq_true, Nat.reduceAdd, Option.bind_some, laws_szLink_r, len_str]
  refine TCall.val (by simp only [EO]) (laws_szExportS_T β x.exports (hx.1) _ (by omega) (by omega) _) ?_
  simp only [EV, EL, EB, if_true, if_false, Bool.false_eq_true, Nat.reduceAdd, Option.bind_some, laws_szLink_r, len_str]
  by_cases n1 : (szN x.exports left) < 0
  · simp only [EV, EL, EB, if_true, if_false, Bool.false_eq_true, Nat.reduceAdd, Option.bind_some, laws_szLink_r, decide_eq_true n1]
    exact ⟨rfl, by simp only [DLink.szf, n1, if_true, if_false]⟩
  simp only [EV, EL, EB, if_true, if_false, Bool.false_eq_true, Nat.reduceAdd, Option.bind_some, laws_szLink_r, decide_eq_false n1, len_str]
  have q1 := (szN_ok (Int.not_lt.1 n1)).2
  refine TCall.val (by simp only [EO]) (laws_szQuestionS_T β x.questions (hx.2.1) _ (by omega) (by omega) _) ?_
  simp only [EV, EL, EB, if_true, if_false, Bool.false_eq_true, Nat.reduceAdd, Option.bind_some, laws_szLink_r, len_str]
  by_cases n2 : (szN x.questions (szN x.exports left)) < 0
  · simp only [EV, EL, EB, if_true, if_false, Bool.false_eq_true, Nat.reduceAdd, Option.bind_some, laws_szLink_r, decide_eq_true n2]
    exact ⟨rfl, by simp only [DLink.szf, n2, if_true, if_false, n1]⟩
  simp only [EV, EL, EB, if_true, if_false, Bool.false_eq_true, Nat.reduceAdd, Option.bind_some, laws_szLink_r, decide_eq_false n2, len_str]
  have q2 := (szN_ok (Int.not_lt.1 n2)).2
  refine TCall.val (by simp only [EO]) (laws_szQuestionS_T β x.answers (hx.2.2) _ (by omega) (by omega) _) ?_
  simp only [EV, EL, EB, if_true, if_false, Bool.false_eq_true, Nat.reduceAdd, Option.bind_some, laws_szLink_r, len_str]
  by_cases n3 : (szN x.answers (szN x.questions (szN x.exports left))) < 0
  · simp only [EV, EL, EB, if_true, if_false, Bool.false_eq_true, Nat.reduceAdd, Option.bind_some, laws_szLink_r, decide_eq_true n3]
    exact ⟨rfl, by simp only [DLink.szf, n3, if_true, if_false, n1, n2]⟩
  simp only [EV, EL, EB, if_true, if_false, Bool.false_eq_true, Nat.reduceAdd, Option.bind_some, laws_szLink_r, decide_eq_false n3, len_str]
  have q3 := (szN_ok (Int.not_lt.1 n3)).2
  exact ⟨rfl, by simp only [DLink.szf, if_false, n1, n2, n3]⟩
theorem laws_szLinkS_T (β : Bool) (l : List DLink) (hl : l.length ≤ maxLen) (ho : ∀ x ∈ l, x.ok maxLen) (left : Int) (h0 : 0 ≤ left) (h1 : left ≤ 1048576) (h : AH) : T Tryz.prog Γ Fn.laws_szLinkS [.vs β 7 false (l.map (DLink.c β)), .int .i64 left] h fun v h' => v = .int .i64 (szL DLink.szf l left) ∧ h' = h :=
  szS_T (f := Fn.laws_szLink) tabOK mixed (fun hw => laws_szLinkS_e hw) h0 h1 hl (fun x => ⟨rfl, rfl⟩) (fun x left a b c => (DLink.szf_ok x left a b c).2) (fun x hx left a b => laws_szLink_T β x (ho x hx) left a b h)
theorem laws_eqLink_T (β β' : Bool) (x y : DLink) (hx : x.ok 1073741824) (h : AH) : T Tryz.prog Γ Fn.laws_eqLink [.agg (x.c β), .agg (y.c β')] h fun v h' => v = .bool (decide (x = y)) ∧ h' = h := by
  refine laws_eqLink_e (aw_sound tabOK mixed [] _ _ _ ?_)
  unfold laws_eqLink_c DLink.c
  simp only [EV, EL, EB, if_true, if_false, Bool.false_eq_true, Nat.reduceAdd, Option.bind_some, laws_eqLink_r, ne_int, ne_bool, ne_str]
  by_cases n1 : x.peer = y.peer
  rotate_left
  · simp only [EV, EL, EB, if_true, if_false, Bool.false_eq_true, Nat.reduceAdd, Option.bind_some, laws_eqLink_r, decide_eq_false n1, Bool.not_false]
    exact ⟨rfl, by rw [decide_eq_false (fun e => n1 (by rw [e]))]⟩
  simp only [EV, EL, EB, if_true, if_false, Bool.false_eq_true, Nat.reduceAdd, Option.bind_some, laws_eqLink_r, decide_eq_true n1, Bool.not_true, ne_int, ne_bool, ne_str]
  by_cases n2 : x.up = y.up
  rotate_left
  · simp only [EV, EL, EB, if_true, if_false, Bool.false_eq_true, Nat.reduceAdd, Option.bind_some, laws_eqLink_r, decide_eq_false n2, Bool.not_false]
    exact ⟨rfl, by rw [decide_eq_false (fun e => n2 (by rw [e]))]⟩
  simp only [EV, EL, EB, if_true, if_false, Bool.false_eq_true, Nat.reduceAdd, Option.bind_some, laws_eqLink_r, decide_eq_true n2, Bool.not_true, ne_int, ne_bool, ne_str]
  refine TCall.val (by simp only [EO]) (laws_eqExportS_T β β' x.exports y.exports (hx.1) _) ?_
  simp only [EV, EL, EB, if_true, if_false, Bool.false_eq_true, Nat.reduceAdd, Option.bind_some, laws_eqLink_r, ne_int, ne_bool, ne_str]
  by_cases n3 : x.exports = y.exports
  rotate_left
  · simp only [EV, EL, EB, if_true, if_false, Bool.false_eq_true, Nat.reduceAdd, Option.bind_some, laws_eqLink_r, decide_eq_false n3, Bool.not_false]
    exact ⟨rfl, by rw [decide_eq_false (fun e => n3 (by rw [e]))]⟩
  simp only [EV, EL, EB, if_true, if_false, Bool.false_eq_true, Nat.reduceAdd, Option.bind_some, laws_eqLink_r, decide_eq_true n3, Bool.not_true, ne_int, ne_bool, ne_str]
  by_cases n4 : x.next = y.next
  rotate_left
  · simp only [EV, EL, EB, if_true, if_false, Bool.false_eq_true, Nat.reduceAdd, Option.bind_some, laws_eqLink_r, decide_eq_false n4, Bool.not_false]
    exact ⟨rfl, by rw [decide_eq_false (fun e => n4 (by rw [e]))]⟩
  simp only [EV, EL, EB, if_true, if_false, Bool.false_eq_true, Nat.reduceAdd, Option.bind_some, laws_eqLink_r, decide_eq_true n4, Bool.not_true, ne_int, ne_bool, ne_str]
  refine TCall.val (by simp only [EO]) (laws_eqQuestionS_T β β' x.questions y.questions (hx.2.1) _) ?_
  simp only [EV, EL, EB, if_true, if_false, Bool.false_eq_true, Nat.reduceAdd, Option.bind_some, laws_eqLink_r, ne_int, ne_bool, ne_str]
  by_cases n5 : x.questions = y.questions
  rotate_left
  · simp only [EV, EL, EB, if_true, if_false, Bool.false_eq_true, Nat.reduceAdd, Option.bind_some, laws_eqLink_r, decide_eq_false n5, Bool.not_false]
    exact ⟨rfl, by rw [decide_eq_false (fun e => n5 (by rw [e]))]⟩
  simp only [EV, EL, EB, if_true, if_false, Bool.false_eq_true, Nat.reduceAdd, Option.bind_some, laws_eqLink_r, decide_eq_true n5, Bool.not_true, ne_int, ne_bool, ne_str]
  by_cases n6 : x.asked = y.asked
  rotate_left
  · simp only [EV, EL, EB, if_true, if_false, Bool.false_eq_true, Nat.reduceAdd, Option.bind_some, laws_eqLink_r, decide_eq_false n6, Bool.not_false]
    exact ⟨rfl, by rw [decide_eq_false (fun e => n6 (by rw [e]))]⟩
  simp only [EV, EL, EB, if_true, if_false, Bool.false_eq_true, Nat.reduceAdd, Option.bind_some, laws_eqLink_r, decide_eq_true n6, Bool.not_true, ne_int, ne_bool, ne_str]
  refine TCall.val (by simp only [EO]) (laws_eqQuestionS_T β β' x.answers y.answers (hx.2.2) _) ?_
  simp only [EV, EL, EB, if_true, if_false, Bool.false_eq_true, Nat.reduceAdd, Option.bind_some, laws_eqLink_r, ne_int, ne_bool, ne_str]
  by_cases n7 : x.answers = y.answers
  rotate_left
  · simp only [EV, EL, EB, if_true, if_false, Bool.false_eq_true, Nat.reduceAdd, Option.bind_some, laws_eqLink_r, decide_eq_false n7, Bool.not_false]
    exact ⟨rfl, by rw [decide_eq_false (fun e => n7 (by rw [e]))]⟩
  simp only [EV, EL, EB, if_true, if_false, Bool.false_eq_true, Nat.reduceAdd, Option.bind_some, laws_eqLink_r, decide_eq_true n7, Bool.not_true, ne_int, ne_bool, ne_str]
  exact ⟨rfl, by rw [decide_eq_true (by cases x; cases y; simp only [DLink.mk.injEq]; exact ⟨n1, n2, n3, n4, n5, n6, n7⟩)]⟩
theorem laws_eqLinkS_T (β β' : Bool) (l m : List DLink) (hl : l.length ≤ 1073741824) (ho : ∀ x ∈ l, x.ok 1073741824) (h : AH) : T Tryz.prog Γ Fn.laws_eqLinkS [.vs β 7 false (l.map (DLink.c β)), .vs β' 7 false (m.map (DLink.c β'))] h fun v h' => v = .bool (decide (l = m)) ∧ h' = h :=
  eqS_D (f := Fn.laws_eqLink) tabOK mixed (fun hw => laws_eqLinkS_e hw) (by omega) (fun x => ⟨rfl, rfl⟩) (fun x => ⟨rfl, rfl⟩) (fun x hx y _ => laws_eqLink_T β β' x y (ho x hx) h)
theorem laws_toWire_T (β : Bool) (x : DWire) (h : AH) : T Tryz.prog Γ Fn.laws_toWire [.agg (x.c β)] h fun v h' => v = .agg (x.c false) ∧ h' = h := by
  refine laws_toWire_e (aw_sound tabOK mixed [] _ _ _ ?_)
  unfold laws_toWire_c DWire.c
  simp only [EV, EL, EB, if_true, if_false, Bool.false_eq_true, Nat.reduceAdd, Option.bind_some, laws_toWire_r]
  exact rfl
theorem laws_toWireS_T (β : Bool) (l : List DWire) (hl : l.length ≤ 1048576) (h : AH) : T Tryz.prog Γ Fn.laws_toWireS [.vs β 2 false (l.map (DWire.c β))] h (Fresh h [.c (.sl 2 (l.map DWire.cd))]) :=
  toS_own (szs := 2) (sz := 2) (bytes := 16) (z := [.int .i64 0, .int .i64 0]) (f := Fn.laws_toWire) tabOK mixed (fun hw => laws_toWireS_e hw) (by simp [maxMade]; omega) rfl rfl (fun x _ => ⟨rfl, rfl⟩) (fun x _ => rfl) (fun x hx H => (laws_toWire_T β x H).flat (cs := x.cd) (by simp [DWire.cd, CD.flat]) (by rw [DWire.c_eq]))
theorem laws_szWireS_T (β : Bool) (l : List DWire) (hl : l.length ≤ maxLen) (left : Int) (h0 : 0 ≤ left) (h1 : left ≤ 1048576) (h : AH) : T Tryz.prog Γ Fn.laws_szWireS [.vs β 2 false (l.map (DWire.c β)), .int .i64 left] h fun v h' => v = .int .i64 (szN l left) ∧ h' = h :=
  szF_T tabOK mixed (fun hw => laws_szWireS_e hw) h0 h1 hl
theorem laws_eqWire_T (β β' : Bool) (x y : DWire) (h : AH) : T Tryz.prog Γ Fn.laws_eqWire [.agg (x.c β), .agg (y.c β')] h fun v h' => v = .bool (decide (x = y)) ∧ h' = h := by
  refine laws_eqWire_e (aw_sound tabOK mixed [] _ _ _ ?_)
  unfold laws_eqWire_c DWire.c
  simp only [EV, EL, EB, if_true, if_false, Bool.false_eq_true, Nat.reduceAdd, Option.bind_some, laws_eqWire_r, ne_int, ne_bool, ne_str]
  by_cases n1 : x.kind = y.kind
  rotate_left
  · simp only [EV, EL, EB, if_true, if_false, Bool.false_eq_true, Nat.reduceAdd, Option.bind_some, laws_eqWire_r, decide_eq_false n1, Bool.not_false]
    exact ⟨rfl, by rw [decide_eq_false (fun e => n1 (by rw [e]))]⟩
  simp only [EV, EL, EB, if_true, if_false, Bool.false_eq_true, Nat.reduceAdd, Option.bind_some, laws_eqWire_r, decide_eq_true n1, Bool.not_true, ne_int, ne_bool, ne_str]
  by_cases n2 : x.n = y.n
  rotate_left
  · simp only [EV, EL, EB, if_true, if_false, Bool.false_eq_true, Nat.reduceAdd, Option.bind_some, laws_eqWire_r, decide_eq_false n2, Bool.not_false]
    exact ⟨rfl, by rw [decide_eq_false (fun e => n2 (by rw [e]))]⟩
  simp only [EV, EL, EB, if_true, if_false, Bool.false_eq_true, Nat.reduceAdd, Option.bind_some, laws_eqWire_r, decide_eq_true n2, Bool.not_true, ne_int, ne_bool, ne_str]
  exact ⟨rfl, by rw [decide_eq_true (by cases x; cases y; simp only [DWire.mk.injEq]; exact ⟨n1, n2⟩)]⟩
theorem laws_eqWireS_T (β β' : Bool) (l m : List DWire) (hl : l.length ≤ 1073741824) (h : AH) : T Tryz.prog Γ Fn.laws_eqWireS [.vs β 2 false (l.map (DWire.c β)), .vs β' 2 false (m.map (DWire.c β'))] h fun v h' => v = .bool (decide (l = m)) ∧ h' = h :=
  eqS_D (f := Fn.laws_eqWire) tabOK mixed (fun hw => laws_eqWireS_e hw) (by omega) (fun x => ⟨rfl, rfl⟩) (fun x => ⟨rfl, rfl⟩) (fun x hx y _ => laws_eqWire_T β β' x y h)
theorem laws_toMessage_T (β : Bool) (x : DMessage) (hx : x.ok 1048576) (h : AH) : T Tryz.prog Γ Fn.laws_toMessage [.agg (x.c β)] h (Fresh h [.a x.cd]) := by
  refine T.freshA (laws_toMessage_e (aw_sound tabOK mixed [] _ _ _ ?_))
  unfold laws_toMessage_c DMessage.c
  simp only [EV, EL, EB, if_true, if_false, Bool.false_eq_true, Nat.reduceAdd, Option.bind_some, laws_toMessage_r]
  refine TCall.ref (by simp only [EO]) (laws_toWireS_T β x.args (hx.2) _) ?_
  intro v1 h1 q1
  obtain ⟨n1, f1, rfl, o1, nd1, b1⟩ := q1.one
  obtain ⟨c1a, c1b, c1c, c1d⟩ := o1.cell
  simp only [EV, EL, EB, if_true, if_false, Bool.false_eq_true, Nat.reduceAdd, Option.bind_some, c1a, c1b, c1c, c1d, laws_toMessage_r]
  refine TCall.val (by simp only [EO]) (laws_toWire_T β x.value _) ?_
  simp only [EV, EL, EB, if_true, if_false, Bool.false_eq_true, Nat.reduceAdd, Option.bind_some, DWire.c, c1a, c1b, c1c, c1d, laws_toMessage_r]
  refine TCall.val (by simp only [EO]) (laws_toTag_T β x.tag _) ?_
  simp only [EV, EL, EB, if_true, if_false, Bool.false_eq_true, Nat.reduceAdd, Option.bind_some, DTag.c, c1a, c1b, c1c, c1d, laws_toMessage_r]
  refine ⟨by simp only [EO, outOK, c1a, c1b, c1c, c1d], _, n1, _, rfl, by simp, (.i (.i (.i (.i (.s (.o o1 (.i (.i (.i (.i (.i (.i .nil)))))))))))), ?_, ?_⟩
  · simpa using nd1
  · simpa using b1
theorem laws_szMessage_T (β : Bool) (x : DMessage) (hx : x.ok maxLen) (left : Int) (h0 : 0 ≤ left) (h1 : left ≤ 1048576) (h : AH) : T Tryz.prog Γ Fn.laws_szMessage [.agg (x.c β), .int .i64 left] h fun v h' => v = .int .i64 (x.szf left) ∧ h' = h := by
  have hml : maxLen ≤ 9223372036854775807 := by decide
  refine laws_szMessage_e (aw_sound tabOK mixed [] _ _ _ ?_)
  unfold laws_szMessage_c DMessage.c
  simp only [EV, EL, EB, if_true, if_false, Bool.false_eq_true, Nat.reduceAdd, Option.bind_some, laws_szMessage_r, len_str]
  have hs1 := hx.1
  rw [wrap_nat (by omega) (by omega)]
  by_cases n1 : (left - (x.name.size : Int)) < 0
  · simp only [EV, EL, EB, if_true, if_false, Bool.false_eq_true, Nat.reduceAdd, Option.bind_some, laws_szMessage_r, decide_eq_true n1]
    exact ⟨rfl, by simp only [DMessage.szf, n1, if_true, if_false]⟩
  simp only [EV, EL, EB, if_true, if_false, Bool.false_eq_true, Nat.reduceAdd, Option.bind_some, laws_szMessage_r, decide_eq_false n1, len_str]
  refine TCall.val (by simp only [EO]) (laws_szWireS_T β x.args (hx.2) _ (by omega) (by omega) _) ?_
  simp only [EV, EL, EB, if_true, if_false, Bool.false_eq_true, Nat.reduceAdd, Option.bind_some, laws_szMessage_r, len_str]
  by_cases n2 : (szN x.args (left - (x.name.size : Int))) < 0
  · simp only [EV, EL, EB, if_true, if_false, Bool.false_eq_true, Nat.reduceAdd, Option.bind_some, laws_szMessage_r, decide_eq_true n2]
    exact ⟨rfl, by simp only [DMessage.szf, n2, if_true, if_false, n1]⟩
  simp only [EV, EL, EB, if_true, if_false, Bool.false_eq_true, Nat.reduceAdd, Option.bind_some, laws_szMessage_r, decide_eq_false n2, len_str]
  have q2 := (szN_ok (Int.not_lt.1 n2)).2
  exact ⟨rfl, by simp only [DMessage.szf, if_false, n1, n2]⟩
theorem laws_eqMessage_T (β β' : Bool) (x y : DMessage) (hx : x.ok 1073741824) (h : AH) : T Tryz.prog Γ Fn.laws_eqMessage [.agg (x.c β), .agg (y.c β')] h fun v h' => v = .bool (decide (x = y)) ∧ h' = h := by
  refine laws_eqMessage_e (aw_sound tabOK mixed [] _ _ _ ?_)
  unfold laws_eqMessage_c DMessage.c
  simp only [EV, EL, EB, if_true, if_false, Bool.false_eq_true, Nat.reduceAdd, Option.bind_some, laws_eqMessage_r, ne_int, ne_bool, ne_str]
  by_cases n1 : x.kind = y.kind
  rotate_left
  · simp only [EV, EL, EB, if_true, if_false, Bool.false_eq_true, Nat.reduceAdd, Option.bind_some, laws_eqMessage_r, decide_eq_false n1, Bool.not_false]
    exact ⟨rfl, by rw [decide_eq_false (fun e => n1 (by rw [e]))]⟩
  simp only [EV, EL, EB, if_true, if_false, Bool.false_eq_true, Nat.reduceAdd, Option.bind_some, laws_eqMessage_r, decide_eq_true n1, Bool.not_true, ne_int, ne_bool, ne_str]
  by_cases n2 : x.pos = y.pos
  rotate_left
  · simp only [EV, EL, EB, if_true, if_false, Bool.false_eq_true, Nat.reduceAdd, Option.bind_some, laws_eqMessage_r, decide_eq_false n2, Bool.not_false]
    exact ⟨rfl, by rw [decide_eq_false (fun e => n2 (by rw [e]))]⟩
  simp only [EV, EL, EB, if_true, if_false, Bool.false_eq_true, Nat.reduceAdd, Option.bind_some, laws_eqMessage_r, decide_eq_true n2, Bool.not_true, ne_int, ne_bool, ne_str]
  by_cases n3 : x.answer = y.answer
  rotate_left
  · simp only [EV, EL, EB, if_true, if_false, Bool.false_eq_true, Nat.reduceAdd, Option.bind_some, laws_eqMessage_r, decide_eq_false n3, Bool.not_false]
    exact ⟨rfl, by rw [decide_eq_false (fun e => n3 (by rw [e]))]⟩
  simp only [EV, EL, EB, if_true, if_false, Bool.false_eq_true, Nat.reduceAdd, Option.bind_some, laws_eqMessage_r, decide_eq_true n3, Bool.not_true, ne_int, ne_bool, ne_str]
  by_cases n4 : x.question = y.question
  rotate_left
  · simp only [EV, EL, EB, if_true, if_false, Bool.false_eq_true, Nat.reduceAdd, Option.bind_some, laws_eqMessage_r, decide_eq_false n4, Bool.not_false]
    exact ⟨rfl, by rw [decide_eq_false (fun e => n4 (by rw [e]))]⟩
  simp only [EV, EL, EB, if_true, if_false, Bool.false_eq_true, Nat.reduceAdd, Option.bind_some, laws_eqMessage_r, decide_eq_true n4, Bool.not_true, ne_int, ne_bool, ne_str]
  by_cases n5 : x.name = y.name
  rotate_left
  · simp only [EV, EL, EB, if_true, if_false, Bool.false_eq_true, Nat.reduceAdd, Option.bind_some, laws_eqMessage_r, decide_eq_false n5, Bool.not_false]
    exact ⟨rfl, by rw [decide_eq_false (fun e => n5 (by rw [e]))]⟩
  simp only [EV, EL, EB, if_true, if_false, Bool.false_eq_true, Nat.reduceAdd, Option.bind_some, laws_eqMessage_r, decide_eq_true n5, Bool.not_true, ne_int, ne_bool, ne_str]
  refine TCall.val (by simp only [EO]) (laws_eqWireS_T β β' x.args y.args (hx.2) _) ?_
  simp only [EV, EL, EB, if_true, if_false, Bool.false_eq_true, Nat.reduceAdd, Option.bind_some, laws_eqMessage_r, ne_int, ne_bool, ne_str]
  by_cases n6 : x.args = y.args
  rotate_left
  · simp only [EV, EL, EB, if_true, if_false, Bool.false_eq_true, Nat.reduceAdd, Option.bind_some, laws_eqMessage_r, decide_eq_false n6, Bool.not_false]
    exact ⟨rfl, by rw [decide_eq_false (fun e => n6 (by rw [e]))]⟩
  simp only [EV, EL, EB, if_true, if_false, Bool.false_eq_true, Nat.reduceAdd, Option.bind_some, laws_eqMessage_r, decide_eq_true n6, Bool.not_true, ne_int, ne_bool, ne_str]
  refine TCall.val (by simp only [EO]) (laws_eqWire_T β β' x.value y.value _) ?_
  simp only [EV, EL, EB, if_true, if_false, Bool.false_eq_true, Nat.reduceAdd, Option.bind_some, laws_eqMessage_r, ne_int, ne_bool, ne_str]
  by_cases n7 : x.value = y.value
  rotate_left
  · simp only [EV, EL, EB, if_true, if_false, Bool.false_eq_true, Nat.reduceAdd, Option.bind_some, laws_eqMessage_r, decide_eq_false n7, Bool.not_false]
    exact ⟨rfl, by rw [decide_eq_false (fun e => n7 (by rw [e]))]⟩
  simp only [EV, EL, EB, if_true, if_false, Bool.false_eq_true, Nat.reduceAdd, Option.bind_some, laws_eqMessage_r, decide_eq_true n7, Bool.not_true, ne_int, ne_bool, ne_str]
  by_cases n8 : x.count = y.count
  rotate_left
  · simp only [EV, EL, EB, if_true, if_false, Bool.false_eq_true, Nat.reduceAdd, Option.bind_some, laws_eqMessage_r, decide_eq_false n8, Bool.not_false]
    exact ⟨rfl, by rw [decide_eq_false (fun e => n8 (by rw [e]))]⟩
  simp only [EV, EL, EB, if_true, if_false, Bool.false_eq_true, Nat.reduceAdd, Option.bind_some, laws_eqMessage_r, decide_eq_true n8, Bool.not_true, ne_int, ne_bool, ne_str]
  refine TCall.val (by simp only [EO]) (laws_eqTag_T β β' x.tag y.tag _) ?_
  simp only [EV, EL, EB, if_true, if_false, Bool.false_eq_true, Nat.reduceAdd, Option.bind_some, laws_eqMessage_r, ne_int, ne_bool, ne_str]
  by_cases n9 : x.tag = y.tag
  rotate_left
  · simp only [EV, EL, EB, if_true, if_false, Bool.false_eq_true, Nat.reduceAdd, Option.bind_some, laws_eqMessage_r, decide_eq_false n9, Bool.not_false]
    exact ⟨rfl, by rw [decide_eq_false (fun e => n9 (by rw [e]))]⟩
  simp only [EV, EL, EB, if_true, if_false, Bool.false_eq_true, Nat.reduceAdd, Option.bind_some, laws_eqMessage_r, decide_eq_true n9, Bool.not_true, ne_int, ne_bool, ne_str]
  exact ⟨rfl, by rw [decide_eq_true (by cases x; cases y; simp only [DMessage.mk.injEq]; exact ⟨n1, n2, n3, n4, n5, n6, n7, n8, n9⟩)]⟩
theorem laws_toOutgoing_T (β : Bool) (x : DOutgoing) (hx : x.ok 1048576) (h : AH) : T Tryz.prog Γ Fn.laws_toOutgoing [.agg (x.c β)] h (Fresh h [.a x.cd]) := by
  refine T.freshA (laws_toOutgoing_e (aw_sound tabOK mixed [] _ _ _ ?_))
  unfold laws_toOutgoing_c DOutgoing.c
  simp only [EV, EL, EB, if_true, if_false, Bool.false_eq_true, Nat.reduceAdd, Option.bind_some, laws_toOutgoing_r]
  refine TCall.ref (by simp only [EO]) (laws_toMessage_T β x.message (hx) _) ?_
  intro v1 h1 q1
  obtain ⟨as1, n1, f1, rfl, rfl, o1, nd1, b1⟩ := q1.oneA
  simp only [DMessage.cd, ownL_c, ownL_n, own_i, own_b, own_s] at o1
  obtain ⟨_, _, _, _, rfl, rfl, ⟨rfl, rfl⟩, ⟨_, _, _, _, rfl, rfl, ⟨rfl, rfl⟩, ⟨_, _, _, _, rfl, rfl, ⟨rfl, rfl⟩, ⟨_, _, _, _, rfl, rfl, ⟨rfl, rfl⟩, ⟨_, _, _, _, rfl, rfl, ⟨rfl, rfl⟩, ⟨w5, _, e5, _, rfl, rfl, u5, ⟨_, _, _, _, rfl, rfl, ⟨rfl, rfl⟩, ⟨_, _, _, _, rfl, rfl, ⟨rfl, rfl⟩, ⟨_, _, _, _, rfl, rfl, ⟨rfl, rfl⟩, ⟨_, _, _, _, rfl, rfl, ⟨rfl, rfl⟩, ⟨_, _, _, _, rfl, rfl, ⟨rfl, rfl⟩, ⟨_, _, _, _, rfl, rfl, ⟨rfl, rfl⟩, ⟨rfl, rfl⟩⟩⟩⟩⟩⟩⟩⟩⟩⟩⟩⟩⟩ := o1
  obtain ⟨g5a, g5b, g5c, g5d⟩ := u5.cell
  simp only [EV, EL, EB, if_true, if_false, Bool.false_eq_true, Nat.reduceAdd, Option.bind_some, g5a, g5b, g5c, g5d, laws_toOutgoing_r]
  exact ⟨by simp only [EO, outOK, g5a, g5b, g5c, g5d], _, n1, _, rfl, rfl, (.i (.i (.i (.i (.i (.s (.o u5 (.i (.i (.i (.i (.i (.i .nil))))))))))))), by simpa using nd1, by simpa using b1⟩
theorem laws_toOutgoingS_T (β : Bool) (l : List DOutgoing) (hl : l.length ≤ 1048576) (ho : ∀ x ∈ l, x.ok 1048576) (h : AH) : T Tryz.prog Γ Fn.laws_toOutgoingS [.vs β 13 false (l.map (DOutgoing.c β))] h (Fresh h [.c (.sl 13 (l.map DOutgoing.cd))]) :=
  toS_own (szs := 13) (sz := 13) (bytes := 128) (z := [.int .i64 0, .int .i64 0, .int .i64 0, .int .i64 0, .int .i64 0, .str ⟨#[]⟩, .nils, .int .i64 0, .int .i64 0, .int .i64 0, .int .i64 0, .int .i64 0, .int .i64 0]) (f := Fn.laws_toOutgoing) tabOK mixed (fun hw => laws_toOutgoingS_e hw) (by simp [maxMade]; omega) rfl rfl (fun x _ => ⟨rfl, rfl⟩) (fun x _ => rfl) (fun x hx H => laws_toOutgoing_T β x (ho x hx) H)
theorem laws_szOutgoing_T (β : Bool) (x : DOutgoing) (hx : x.ok maxLen) (left : Int) (h0 : 0 ≤ left) (h1 : left ≤ 1048576) (h : AH) : T Tryz.prog Γ Fn.laws_szOutgoing [.agg (x.c β), .int .i64 left] h fun v h' => v = .int .i64 (x.szf left) ∧ h' = h := by
  have hml : maxLen ≤ 9223372036854775807 := by decide
  refine laws_szOutgoing_e (aw_sound tabOK mixed [] _ _ _ ?_)
  unfold laws_szOutgoing_c DOutgoing.c
  simp only [EV, EL, EB, if_true, if_false, Bool.false_eq_true, Nat.reduceAdd, Option.bind_some, laws_szOutgoing_r, len_str]
  refine TCall.val (by simp only [EO]) (laws_szMessage_T β x.message (hx) _ (by omega) (by omega) _) ?_
  simp only [EV, EL, EB, if_true, if_false, Bool.false_eq_true, Nat.reduceAdd, Option.bind_some, laws_szOutgoing_r, len_str]
  by_cases n1 : (x.message.szf left) < 0
  · simp only [EV, EL, EB, if_true, if_false, Bool.false_eq_true, Nat.reduceAdd, Option.bind_some, laws_szOutgoing_r, decide_eq_true n1]
    exact ⟨rfl, by simp only [DOutgoing.szf, n1, if_true, if_false]⟩
  simp only [EV, EL, EB, if_true, if_false, Bool.false_eq_true, Nat.reduceAdd, Option.bind_some, laws_szOutgoing_r, decide_eq_false n1, len_str]
  have q1 := (DMessage.szf_ok _ _ (by omega) (by omega) (Int.not_lt.1 n1)).2
  exact ⟨rfl, by simp only [DOutgoing.szf, if_false, n1]⟩
theorem laws_szOutgoingS_T (β : Bool) (l : List DOutgoing) (hl : l.length ≤ maxLen) (ho : ∀ x ∈ l, x.ok maxLen) (left : Int) (h0 : 0 ≤ left) (h1 : left ≤ 1048576) (h : AH) : T Tryz.prog Γ Fn.laws_szOutgoingS [.vs β 13 false (l.map (DOutgoing.c β)), .int .i64 left] h fun v h' => v = .int .i64 (szL DOutgoing.szf l left) ∧ h' = h :=
  szS_T (f := Fn.laws_szOutgoing) tabOK mixed (fun hw => laws_szOutgoingS_e hw) h0 h1 hl (fun x => ⟨rfl, rfl⟩) (fun x left a b c => (DOutgoing.szf_ok x left a b c).2) (fun x hx left a b => laws_szOutgoing_T β x (ho x hx) left a b h)
theorem laws_eqOutgoing_T (β β' : Bool) (x y : DOutgoing) (hx : x.ok 1073741824) (h : AH) : T Tryz.prog Γ Fn.laws_eqOutgoing [.agg (x.c β), .agg (y.c β')] h fun v h' => v = .bool (decide (x = y)) ∧ h' = h := by
  refine laws_eqOutgoing_e (aw_sound tabOK mixed [] _ _ _ ?_)
  unfold laws_eqOutgoing_c DOutgoing.c
  simp only [EV, EL, EB, if_true, if_false, Bool.false_eq_true, Nat.reduceAdd, Option.bind_some, laws_eqOutgoing_r, ne_int, ne_bool, ne_str]
  by_cases n1 : x.to_ = y.to_
  rotate_left
  · simp only [EV, EL, EB, if_true, if_false, Bool.false_eq_true, Nat.reduceAdd, Option.bind_some, laws_eqOutgoing_r, decide_eq_false n1, Bool.not_false]
    exact ⟨rfl, by rw [decide_eq_false (fun e => n1 (by rw [e]))]⟩
  simp only [EV, EL, EB, if_true, if_false, Bool.false_eq_true, Nat.reduceAdd, Option.bind_some, laws_eqOutgoing_r, decide_eq_true n1, Bool.not_true, ne_int, ne_bool, ne_str]
  refine TCall.val (by simp only [EO]) (laws_eqMessage_T β β' x.message y.message (hx) _) ?_
  simp only [EV, EL, EB, if_true, if_false, Bool.false_eq_true, Nat.reduceAdd, Option.bind_some, laws_eqOutgoing_r, ne_int, ne_bool, ne_str]
  by_cases n2 : x.message = y.message
  rotate_left
  · simp only [EV, EL, EB, if_true, if_false, Bool.false_eq_true, Nat.reduceAdd, Option.bind_some, laws_eqOutgoing_r, decide_eq_false n2, Bool.not_false]
    exact ⟨rfl, by rw [decide_eq_false (fun e => n2 (by rw [e]))]⟩
  simp only [EV, EL, EB, if_true, if_false, Bool.false_eq_true, Nat.reduceAdd, Option.bind_some, laws_eqOutgoing_r, decide_eq_true n2, Bool.not_true, ne_int, ne_bool, ne_str]
  exact ⟨rfl, by rw [decide_eq_true (by cases x; cases y; simp only [DOutgoing.mk.injEq]; exact ⟨n1, n2⟩)]⟩
theorem laws_eqOutgoingS_T (β β' : Bool) (l m : List DOutgoing) (hl : l.length ≤ 1073741824) (ho : ∀ x ∈ l, x.ok 1073741824) (h : AH) : T Tryz.prog Γ Fn.laws_eqOutgoingS [.vs β 13 false (l.map (DOutgoing.c β)), .vs β' 13 false (m.map (DOutgoing.c β'))] h fun v h' => v = .bool (decide (l = m)) ∧ h' = h :=
  eqS_D (f := Fn.laws_eqOutgoing) tabOK mixed (fun hw => laws_eqOutgoingS_e hw) (by omega) (fun x => ⟨rfl, rfl⟩) (fun x => ⟨rfl, rfl⟩) (fun x hx y _ => laws_eqOutgoing_T β β' x y (ho x hx) h)
theorem laws_toVat_T (β : Bool) (x : DVat) (hx : x.ok 1048576) (h : AH) : T Tryz.prog Γ Fn.laws_toVat [.agg (x.c β)] h (Fresh h [.a x.cd]) := by
  refine T.freshA (laws_toVat_e (aw_sound tabOK mixed [] _ _ _ ?_))
  unfold laws_toVat_c DVat.c
  simp only [EV, EL, EB, if_true, if_false, Bool.false_eq_true, Nat.reduceAdd, Option.bind_some, laws_toVat_r]
  refine TCall.ref (by simp only [EO]) (laws_toEntityS_T β x.entities (hx.1) (hx.2.1) _) ?_
  intro v1 h1 q1
  obtain ⟨n1, f1, rfl, o1, nd1, b1⟩ := q1.one
  obtain ⟨c1a, c1b, c1c, c1d⟩ := o1.cell
  simp only [EV, EL, EB, if_true, if_false, Bool.false_eq_true, Nat.reduceAdd, Option.bind_some, c1a, c1b, c1c, c1d, laws_toVat_r]
  refine TCall.ref (by simp only [EO]) (laws_toSentS_T β x.loop (hx.2.2.1) (hx.2.2.2.1) _) ?_
  intro v2 h2 q2
  obtain ⟨n2, f2, rfl, o2, nd2, b2⟩ := q2.one
  obtain ⟨c2a, c2b, c2c, c2d⟩ := o2.cell
  simp only [EV, EL, EB, if_true, if_false, Bool.false_eq_true, Nat.reduceAdd, Option.bind_some, c1a, c1b, c1c, c1d, c2a, c2b, c2c, c2d, laws_toVat_r]
  refine TCall.ref (by simp only [EO]) (laws_toLinkS_T β x.links (hx.2.2.2.2.1) (hx.2.2.2.2.2.1) _) ?_
  intro v3 h3 q3
  obtain ⟨n3, f3, rfl, o3, nd3, b3⟩ := q3.one
  obtain ⟨c3a, c3b, c3c, c3d⟩ := o3.cell
  simp only [EV, EL, EB, if_true, if_false, Bool.false_eq_true, Nat.reduceAdd, Option.bind_some, c1a, c1b, c1c, c1d, c2a, c2b, c2c, c2d, c3a, c3b, c3c, c3d, laws_toVat_r]
  refine TCall.ref (by simp only [EO]) (laws_toOutgoingS_T β x.out (hx.2.2.2.2.2.2.1) (hx.2.2.2.2.2.2.2) _) ?_
  intro v4 h4 q4
  obtain ⟨n4, f4, rfl, o4, nd4, b4⟩ := q4.one
  obtain ⟨c4a, c4b, c4c, c4d⟩ := o4.cell
  simp only [EV, EL, EB, if_true, if_false, Bool.false_eq_true, Nat.reduceAdd, Option.bind_some, c1a, c1b, c1c, c1d, c2a, c2b, c2c, c2d, c3a, c3b, c3c, c3d, c4a, c4b, c4c, c4d, laws_toVat_r]
  refine ⟨by simp only [EO, outOK, c1a, c1b, c1c, c1d, c2a, c2b, c2c, c2d, c3a, c3b, c3c, c3d, c4a, c4b, c4c, c4d], _, n1 ++ n2 ++ n3 ++ n4, _, rfl, by simp, (.i (.o o1.grow.grow.grow (.o o2.grow.grow (.o o3.grow (.o o4 .nil))))), ?_, ?_⟩
  · simp only [List.append_nil]
    exact nodup_app nd1 (nodup_app nd2 (nodup_app nd3 (nd4) (fun b hb => o3.lt b hb) (fun b hb => by (try simp only [List.mem_append] at hb); first | (have := b4 b hb; simp only [List.length_append] at this ⊢; omega))) (fun b hb => o2.lt b hb) (fun b hb => by (try simp only [List.mem_append] at hb); rcases hb with hb | hb <;> first | (have := b3 b hb; simp only [List.length_append] at this ⊢; omega) | (have := b4 b hb; simp only [List.length_append] at this ⊢; omega))) (fun b hb => o1.lt b hb) (fun b hb => by (try simp only [List.mem_append] at hb); rcases hb with hb | hb | hb <;> first | (have := b2 b hb; simp only [List.length_append] at this ⊢; omega) | (have := b3 b hb; simp only [List.length_append] at this ⊢; omega) | (have := b4 b hb; simp only [List.length_append] at this ⊢; omega))
  · intro b hb
    simp only [List.append_nil, List.mem_append] at hb
    rcases hb with hb | hb | hb | hb <;> first | (have := b1 b hb; simp only [List.length_append] at this ⊢; omega) | (have := b2 b hb; simp only [List.length_append] at this ⊢; omega) | (have := b3 b hb; simp only [List.length_append] at this ⊢; omega) | (have := b4 b hb; simp only [List.length_append] at this ⊢; omega)
theorem laws_toVat_V (β : Bool) (x : DVat) (hx : x.ok 1048576) (h : AH) : T Tryz.prog Γ Fn.laws_toVat [.agg (x.c β)] h fun v h' => v = .agg (x.c false) ∧ h' = h := by
  have := (laws_toVat_T (Γ := Γ) β x hx h).valA; rwa [DVat.c_eq] at this
theorem laws_szVat_T (β : Bool) (x : DVat) (hx : x.ok maxLen) (left : Int) (h0 : 0 ≤ left) (h1 : left ≤ 1048576) (h : AH) : T Tryz.prog Γ Fn.laws_szVat [.agg (x.c β), .int .i64 left] h fun v h' => v = .int .i64 (x.szf left) ∧ h' = h := by
  have hml : maxLen ≤ 9223372036854775807 := by decide
  refine laws_szVat_e (aw_sound tabOK mixed [] _ _ _ ?_)
  unfold laws_szVat_c DVat.c
  simp only [EV, EL, EB, if_true, if_false, Bool.false_eq_true, Nat.reduceAdd, Option.bind_some, laws_szVat_r, len_str]
  refine TCall.val (by simp only [EO]) (laws_szEntityS_T β x.entities (hx.1) (hx.2.1) _ (by omega) (by omega) _) ?_
  simp only [EV, EL, EB, if_true, if_false, Bool.false_eq_true, Nat.reduceAdd, Option.bind_some, laws_szVat_r, len_str]
  by_cases n1 : (szL DEntity.szf x.entities left) < 0
  · simp only [EV, EL, EB, if_true, if_false, Bool.false_eq_true, Nat.reduceAdd, Option.bind_some, laws_szVat_r, decide_eq_true n1]
    exact ⟨rfl, by simp only [DVat.szf, n1, if_true, if_false]⟩
  simp only [EV, EL, EB, if_true, if_false, Bool.false_eq_true, Nat.reduceAdd, Option.bind_some, laws_szVat_r, decide_eq_false n1, len_str]
  have q1 := (szL_ok (Q := DEntity.ok 1048576) (B := 1048576) (fun x left a b c => DEntity.szf_ok x left a b c) (by omega) (by omega) (Int.not_lt.1 n1)).2
  refine TCall.val (by simp only [EO]) (laws_szSentS_T β x.loop (hx.2.2.1) (hx.2.2.2.1) _ (by omega) (by omega) _) ?_
  simp only [EV, EL, EB, if_true, if_false, Bool.false_eq_true, Nat.reduceAdd, Option.bind_some, laws_szVat_r, len_str]
  by_cases n2 : (szL DSent.szf x.loop (szL DEntity.szf x.entities left)) < 0
  · simp only [EV, EL, EB, if_true, if_false, Bool.false_eq_true, Nat.reduceAdd, Option.bind_some, laws_szVat_r, decide_eq_true n2]
    exact ⟨rfl, by simp only [DVat.szf, n2, if_true, if_false, n1]⟩
  simp only [EV, EL, EB, if_true, if_false, Bool.false_eq_true, Nat.reduceAdd, Option.bind_some, laws_szVat_r, decide_eq_false n2, len_str]
  have q2 := (szL_ok (Q := DSent.ok 1048576) (B := 1048576) (fun x left a b c => DSent.szf_ok x left a b c) (by omega) (by omega) (Int.not_lt.1 n2)).2
  refine TCall.val (by simp only [EO]) (laws_szLinkS_T β x.links (hx.2.2.2.2.1) (hx.2.2.2.2.2.1) _ (by omega) (by omega) _) ?_
  simp only [EV, EL, EB, if_true, if_false, Bool.false_eq_true, Nat.reduceAdd, Option.bind_some, laws_szVat_r, len_str]
  by_cases n3 : (szL DLink.szf x.links (szL DSent.szf x.loop (szL DEntity.szf x.entities left))) < 0
  · simp only [EV, EL, EB, if_true, if_false, Bool.false_eq_true, Nat.reduceAdd, Option.bind_some, laws_szVat_r, decide_eq_true n3]
    exact ⟨rfl, by simp only [DVat.szf, n3, if_true, if_false, n1, n2]⟩
  simp only [EV, EL, EB, if_true, if_false, Bool.false_eq_true, Nat.reduceAdd, Option.bind_some, laws_szVat_r, decide_eq_false n3, len_str]
  have q3 := (szL_ok (Q := DLink.ok 1048576) (B := 1048576) (fun x left a b c => DLink.szf_ok x left a b c) (by omega) (by omega) (Int.not_lt.1 n3)).2
  refine TCall.val (by simp only [EO]) (laws_szOutgoingS_T β x.out (hx.2.2.2.2.2.2.1) (hx.2.2.2.2.2.2.2) _ (by omega) (by omega) _) ?_
  simp only [EV, EL, EB, if_true, if_false, Bool.false_eq_true, Nat.reduceAdd, Option.bind_some, laws_szVat_r, len_str]
  by_cases n4 : (szL DOutgoing.szf x.out (szL DLink.szf x.links (szL DSent.szf x.loop (szL DEntity.szf x.entities left)))) < 0
  · simp only [EV, EL, EB, if_true, if_false, Bool.false_eq_true, Nat.reduceAdd, Option.bind_some, laws_szVat_r, decide_eq_true n4]
    exact ⟨rfl, by simp only [DVat.szf, n4, if_true, if_false, n1, n2, n3]⟩
  simp only [EV, EL, EB, if_true, if_false, Bool.false_eq_true, Nat.reduceAdd, Option.bind_some, laws_szVat_r, decide_eq_false n4, len_str]
  have q4 := (szL_ok (Q := DOutgoing.ok 1048576) (B := 1048576) (fun x left a b c => DOutgoing.szf_ok x left a b c) (by omega) (by omega) (Int.not_lt.1 n4)).2
  exact ⟨rfl, by simp only [DVat.szf, if_false, n1, n2, n3, n4]⟩
theorem laws_eqVat_T (β β' : Bool) (x y : DVat) (hx : x.ok 1073741824) (h : AH) : T Tryz.prog Γ Fn.laws_eqVat [.agg (x.c β), .agg (y.c β')] h fun v h' => v = .bool (decide (x = y)) ∧ h' = h := by
  refine laws_eqVat_e (aw_sound tabOK mixed [] _ _ _ ?_)
  unfold laws_eqVat_c DVat.c
  simp only [EV, EL, EB, if_true, if_false, Bool.false_eq_true, Nat.reduceAdd, Option.bind_some, laws_eqVat_r, ne_int, ne_bool, ne_str]
  by_cases n1 : x.id = y.id
  rotate_left
  · simp only [EV, EL, EB, if_true, if_false, Bool.false_eq_true, Nat.reduceAdd, Option.bind_some, laws_eqVat_r, decide_eq_false n1, Bool.not_false]
    exact ⟨rfl, by rw [decide_eq_false (fun e => n1 (by rw [e]))]⟩
  simp only [EV, EL, EB, if_true, if_false, Bool.false_eq_true, Nat.reduceAdd, Option.bind_some, laws_eqVat_r, decide_eq_true n1, Bool.not_true, ne_int, ne_bool, ne_str]
  refine TCall.val (by simp only [EO]) (laws_eqEntityS_T β β' x.entities y.entities (hx.1) (hx.2.1) _) ?_
  simp only [EV, EL, EB, if_true, if_false, Bool.false_eq_true, Nat.reduceAdd, Option.bind_some, laws_eqVat_r, ne_int, ne_bool, ne_str]
  by_cases n2 : x.entities = y.entities
  rotate_left
  · simp only [EV, EL, EB, if_true, if_false, Bool.false_eq_true, Nat.reduceAdd, Option.bind_some, laws_eqVat_r, decide_eq_false n2, Bool.not_false]
    exact ⟨rfl, by rw [decide_eq_false (fun e => n2 (by rw [e]))]⟩
  simp only [EV, EL, EB, if_true, if_false, Bool.false_eq_true, Nat.reduceAdd, Option.bind_some, laws_eqVat_r, decide_eq_true n2, Bool.not_true, ne_int, ne_bool, ne_str]
  refine TCall.val (by simp only [EO]) (laws_eqSentS_T β β' x.loop y.loop (hx.2.2.1) (hx.2.2.2.1) _) ?_
  simp only [EV, EL, EB, if_true, if_false, Bool.false_eq_true, Nat.reduceAdd, Option.bind_some, laws_eqVat_r, ne_int, ne_bool, ne_str]
  by_cases n3 : x.loop = y.loop
  rotate_left
  · simp only [EV, EL, EB, if_true, if_false, Bool.false_eq_true, Nat.reduceAdd, Option.bind_some, laws_eqVat_r, decide_eq_false n3, Bool.not_false]
    exact ⟨rfl, by rw [decide_eq_false (fun e => n3 (by rw [e]))]⟩
  simp only [EV, EL, EB, if_true, if_false, Bool.false_eq_true, Nat.reduceAdd, Option.bind_some, laws_eqVat_r, decide_eq_true n3, Bool.not_true, ne_int, ne_bool, ne_str]
  refine TCall.val (by simp only [EO]) (laws_eqLinkS_T β β' x.links y.links (hx.2.2.2.2.1) (hx.2.2.2.2.2.1) _) ?_
  simp only [EV, EL, EB, if_true, if_false, Bool.false_eq_true, Nat.reduceAdd, Option.bind_some, laws_eqVat_r, ne_int, ne_bool, ne_str]
  by_cases n4 : x.links = y.links
  rotate_left
  · simp only [EV, EL, EB, if_true, if_false, Bool.false_eq_true, Nat.reduceAdd, Option.bind_some, laws_eqVat_r, decide_eq_false n4, Bool.not_false]
    exact ⟨rfl, by rw [decide_eq_false (fun e => n4 (by rw [e]))]⟩
  simp only [EV, EL, EB, if_true, if_false, Bool.false_eq_true, Nat.reduceAdd, Option.bind_some, laws_eqVat_r, decide_eq_true n4, Bool.not_true, ne_int, ne_bool, ne_str]
  refine TCall.val (by simp only [EO]) (laws_eqOutgoingS_T β β' x.out y.out (hx.2.2.2.2.2.2.1) (hx.2.2.2.2.2.2.2) _) ?_
  simp only [EV, EL, EB, if_true, if_false, Bool.false_eq_true, Nat.reduceAdd, Option.bind_some, laws_eqVat_r, ne_int, ne_bool, ne_str]
  by_cases n5 : x.out = y.out
  rotate_left
  · simp only [EV, EL, EB, if_true, if_false, Bool.false_eq_true, Nat.reduceAdd, Option.bind_some, laws_eqVat_r, decide_eq_false n5, Bool.not_false]
    exact ⟨rfl, by rw [decide_eq_false (fun e => n5 (by rw [e]))]⟩
  simp only [EV, EL, EB, if_true, if_false, Bool.false_eq_true, Nat.reduceAdd, Option.bind_some, laws_eqVat_r, decide_eq_true n5, Bool.not_true, ne_int, ne_bool, ne_str]
  exact ⟨rfl, by rw [decide_eq_true (by cases x; cases y; simp only [DVat.mk.injEq]; exact ⟨n1, n2, n3, n4, n5⟩)]⟩
theorem laws_toGift_T (β : Bool) (x : DGift) (h : AH) : T Tryz.prog Γ Fn.laws_toGift [.agg (x.c β)] h fun v h' => v = .agg (x.c false) ∧ h' = h := by
  refine laws_toGift_e (aw_sound tabOK mixed [] _ _ _ ?_)
  unfold laws_toGift_c DGift.c
  simp only [EV, EL, EB, if_true, if_false, Bool.false_eq_true, Nat.reduceAdd, Option.bind_some, laws_toGift_r]
  exact rfl
theorem laws_toGiftS_T (β : Bool) (l : List DGift) (hl : l.length ≤ 1048576) (h : AH) : T Tryz.prog Γ Fn.laws_toGiftS [.vs β 4 false (l.map (DGift.c β))] h (Fresh h [.c (.sl 4 (l.map DGift.cd))]) :=
  toS_own (szs := 4) (sz := 4) (bytes := 32) (z := [.int .i64 0, .int .i64 0, .int .i64 0, .int .i64 0]) (f := Fn.laws_toGift) tabOK mixed (fun hw => laws_toGiftS_e hw) (by simp [maxMade]; omega) rfl rfl (fun x _ => ⟨rfl, rfl⟩) (fun x _ => rfl) (fun x hx H => (laws_toGift_T β x H).flat (cs := x.cd) (by simp [DGift.cd, CD.flat]) (by rw [DGift.c_eq]))
theorem laws_toGiftS_V (β : Bool) (l : List DGift) (hl : l.length ≤ 1048576) (h : AH) : T Tryz.prog Γ Fn.laws_toGiftS [.vs β 4 false (l.map (DGift.c β))] h fun v h' => v = .vs false 4 false (l.map (DGift.c false)) ∧ h' = h := by
  have := (laws_toGiftS_T (Γ := Γ) β l hl h).valC; rw [CD.av_sl, List.map_map] at this; simpa only [Function.comp_def, DGift.c_eq] using this
theorem laws_szGiftS_T (β : Bool) (l : List DGift) (hl : l.length ≤ maxLen) (left : Int) (h0 : 0 ≤ left) (h1 : left ≤ 1048576) (h : AH) : T Tryz.prog Γ Fn.laws_szGiftS [.vs β 4 false (l.map (DGift.c β)), .int .i64 left] h fun v h' => v = .int .i64 (szN l left) ∧ h' = h :=
  szF_T tabOK mixed (fun hw => laws_szGiftS_e hw) h0 h1 hl
theorem laws_eqGift_T (β β' : Bool) (x y : DGift) (h : AH) : T Tryz.prog Γ Fn.laws_eqGift [.agg (x.c β), .agg (y.c β')] h fun v h' => v = .bool (decide (x = y)) ∧ h' = h := by
  refine laws_eqGift_e (aw_sound tabOK mixed [] _ _ _ ?_)
  unfold laws_eqGift_c DGift.c
  simp only [EV, EL, EB, if_true, if_false, Bool.false_eq_true, Nat.reduceAdd, Option.bind_some, laws_eqGift_r, ne_int, ne_bool, ne_str]
  by_cases n1 : x.nonce = y.nonce
  rotate_left
  · simp only [EV, EL, EB, if_true, if_false, Bool.false_eq_true, Nat.reduceAdd, Option.bind_some, laws_eqGift_r, decide_eq_false n1, Bool.not_false]
    exact ⟨rfl, by rw [decide_eq_false (fun e => n1 (by rw [e]))]⟩
  simp only [EV, EL, EB, if_true, if_false, Bool.false_eq_true, Nat.reduceAdd, Option.bind_some, laws_eqGift_r, decide_eq_true n1, Bool.not_true, ne_int, ne_bool, ne_str]
  by_cases n2 : x.giver = y.giver
  rotate_left
  · simp only [EV, EL, EB, if_true, if_false, Bool.false_eq_true, Nat.reduceAdd, Option.bind_some, laws_eqGift_r, decide_eq_false n2, Bool.not_false]
    exact ⟨rfl, by rw [decide_eq_false (fun e => n2 (by rw [e]))]⟩
  simp only [EV, EL, EB, if_true, if_false, Bool.false_eq_true, Nat.reduceAdd, Option.bind_some, laws_eqGift_r, decide_eq_true n2, Bool.not_true, ne_int, ne_bool, ne_str]
  by_cases n3 : x.taker = y.taker
  rotate_left
  · simp only [EV, EL, EB, if_true, if_false, Bool.false_eq_true, Nat.reduceAdd, Option.bind_some, laws_eqGift_r, decide_eq_false n3, Bool.not_false]
    exact ⟨rfl, by rw [decide_eq_false (fun e => n3 (by rw [e]))]⟩
  simp only [EV, EL, EB, if_true, if_false, Bool.false_eq_true, Nat.reduceAdd, Option.bind_some, laws_eqGift_r, decide_eq_true n3, Bool.not_true, ne_int, ne_bool, ne_str]
  by_cases n4 : x.entity = y.entity
  rotate_left
  · simp only [EV, EL, EB, if_true, if_false, Bool.false_eq_true, Nat.reduceAdd, Option.bind_some, laws_eqGift_r, decide_eq_false n4, Bool.not_false]
    exact ⟨rfl, by rw [decide_eq_false (fun e => n4 (by rw [e]))]⟩
  simp only [EV, EL, EB, if_true, if_false, Bool.false_eq_true, Nat.reduceAdd, Option.bind_some, laws_eqGift_r, decide_eq_true n4, Bool.not_true, ne_int, ne_bool, ne_str]
  exact ⟨rfl, by rw [decide_eq_true (by cases x; cases y; simp only [DGift.mk.injEq]; exact ⟨n1, n2, n3, n4⟩)]⟩
theorem laws_eqGiftS_T (β β' : Bool) (l m : List DGift) (hl : l.length ≤ 1073741824) (h : AH) : T Tryz.prog Γ Fn.laws_eqGiftS [.vs β 4 false (l.map (DGift.c β)), .vs β' 4 false (m.map (DGift.c β'))] h fun v h' => v = .bool (decide (l = m)) ∧ h' = h :=
  eqS_D (f := Fn.laws_eqGift) tabOK mixed (fun hw => laws_eqGiftS_e hw) (by omega) (fun x => ⟨rfl, rfl⟩) (fun x => ⟨rfl, rfl⟩) (fun x hx y _ => laws_eqGift_T β β' x y h)
end Go.Proofs.YtleddolmolkpfaaGreat

