import Derived.Test.YtjohoameeeaafaaCodeFnByteStrings
import Derived.Test.YtjohoameeeaafaaAmSz
set_option linter.unusedVariables false
set_option linter.unusedSimpArgs false
namespace Go.Proofs.Ytjohoameeeaafaa
open Go.AM
set_option linter.unusedVariables false
set_option linter.unusedSimpArgs false
variable {Γ : Glob}
theorem laws_toValue_T (β : Bool) (x : DValue) (h : AH) : T Try.prog Γ Fn.laws_toValue [.agg (x.c β)] h fun v h' => v = .agg (x.c false) ∧ h' = h := by
  refine laws_toValue_e (aw_sound tabOK mixed [] _ _ _ ?_)
  unfold laws_toValue_c DValue.c
  simp only [EV, EL, EB, if_true, if_false, Bool.false_eq_true, Nat.reduceAdd, Option.bind_some, laws_toValue_r]
  exact rfl
theorem laws_eqValue_T (β β' : Bool) (x y : DValue) (h : AH) : T Try.prog Γ Fn.laws_eqValue [.agg (x.c β), .agg (y.c β')] h fun v h' => v = .bool (decide (x = y)) ∧ h' = h := by
  refine laws_eqValue_e (aw_sound tabOK mixed [] _ _ _ ?_)
  unfold laws_eqValue_c DValue.c
  simp only [EV, EL, EB, if_true, if_false, Bool.false_eq_true, Nat.reduceAdd, Option.bind_some, laws_eqValue_r, ne_int, ne_bool, ne_str]
  by_cases n1 : x.kind = y.kind
  rotate_left
  · simp only [EV, EL, EB, if_true, if_false, Bool.false_eq_true, Nat.reduceAdd, Option.bind_some, laws_eqValue_r, decide_eq_false n1, Bool.not_false]
    exact ⟨rfl, by rw [decide_eq_false (fun e => n1 (by rw [e]))]⟩
  simp only [EV, EL, EB, if_true, if_false, Bool.false_eq_true, Nat.reduceAdd, Option.bind_some, laws_eqValue_r, decide_eq_true n1, Bool.not_true, ne_int, ne_bool, ne_str]
  by_cases n2 : x.n = y.n
  rotate_left
  · simp only [EV, EL, EB, if_true, if_false, Bool.false_eq_true, Nat.reduceAdd, Option.bind_some, laws_eqValue_r, decide_eq_false n2, Bool.not_false]
    exact ⟨rfl, by rw [decide_eq_false (fun e => n2 (by rw [e]))]⟩
  simp only [EV, EL, EB, if_true, if_false, Bool.false_eq_true, Nat.reduceAdd, Option.bind_some, laws_eqValue_r, decide_eq_true n2, Bool.not_true, ne_int, ne_bool, ne_str]
  exact ⟨rfl, by rw [decide_eq_true (by cases x; cases y; simp only [DValue.mk.injEq]; exact ⟨n1, n2⟩)]⟩
theorem laws_eqTag_T (β β' : Bool) (x y : DTag) (h : AH) : T Try.prog Γ Fn.laws_eqTag [.agg (x.c β), .agg (y.c β')] h fun v h' => v = .bool (decide (x = y)) ∧ h' = h := by
  refine laws_eqTag_e (aw_sound tabOK mixed [] _ _ _ ?_)
  unfold laws_eqTag_c DTag.c
  simp only [EV, EL, EB, if_true, if_false, Bool.false_eq_true, Nat.reduceAdd, Option.bind_some, laws_eqTag_r, ne_int, ne_bool, ne_str]
  by_cases n1 : x.vat = y.vat
  rotate_left
  · simp only [EV, EL, EB, if_true, if_false, Bool.false_eq_true, Nat.reduceAdd, Option.bind_some, laws_eqTag_r, decide_eq_false n1, Bool.not_false]
    exact ⟨rfl, by rw [decide_eq_false (fun e => n1 (by rw [e]))]⟩
  simp only [EV, EL, EB, if_true, if_false, Bool.false_eq_true, Nat.reduceAdd, Option.bind_some, laws_eqTag_r, decide_eq_true n1, Bool.not_true, ne_int, ne_bool, ne_str]
  by_cases n2 : x.entity = y.entity
  rotate_left
  · simp only [EV, EL, EB, if_true, if_false, Bool.false_eq_true, Nat.reduceAdd, Option.bind_some, laws_eqTag_r, decide_eq_false n2, Bool.not_false]
    exact ⟨rfl, by rw [decide_eq_false (fun e => n2 (by rw [e]))]⟩
  simp only [EV, EL, EB, if_true, if_false, Bool.false_eq_true, Nat.reduceAdd, Option.bind_some, laws_eqTag_r, decide_eq_true n2, Bool.not_true, ne_int, ne_bool, ne_str]
  by_cases n3 : x.seq = y.seq
  rotate_left
  · simp only [EV, EL, EB, if_true, if_false, Bool.false_eq_true, Nat.reduceAdd, Option.bind_some, laws_eqTag_r, decide_eq_false n3, Bool.not_false]
    exact ⟨rfl, by rw [decide_eq_false (fun e => n3 (by rw [e]))]⟩
  simp only [EV, EL, EB, if_true, if_false, Bool.false_eq_true, Nat.reduceAdd, Option.bind_some, laws_eqTag_r, decide_eq_true n3, Bool.not_true, ne_int, ne_bool, ne_str]
  exact ⟨rfl, by rw [decide_eq_true (by cases x; cases y; simp only [DTag.mk.injEq]; exact ⟨n1, n2, n3⟩)]⟩
theorem laws_toExport_T (β : Bool) (x : DExport) (h : AH) : T Try.prog Γ Fn.laws_toExport [.agg (x.c β)] h fun v h' => v = .agg (x.c false) ∧ h' = h := by
  refine laws_toExport_e (aw_sound tabOK mixed [] _ _ _ ?_)
  unfold laws_toExport_c DExport.c
  simp only [EV, EL, EB, if_true, if_false, Bool.false_eq_true, Nat.reduceAdd, Option.bind_some, laws_toExport_r]
  exact rfl
theorem laws_toExportS_T (β : Bool) (l : List DExport) (hl : l.length ≤ 1048576) (h : AH) : T Try.prog Γ Fn.laws_toExportS [.vs β 3 false (l.map (DExport.c β))] h (Fresh h [.c (.sl 3 (l.map DExport.cd))]) :=
  toS_own (szs := 3) (sz := 3) (bytes := 24) (z := [.int .i64 0, .int .i64 0, .int .i64 0]) (f := Fn.laws_toExport) tabOK mixed (fun hw => laws_toExportS_e hw) (by simp [maxMade]; omega) rfl rfl (fun x _ => ⟨rfl, rfl⟩) (fun x _ => rfl) (fun x hx H => (laws_toExport_T β x H).flat (cs := x.cd) (by simp [DExport.cd, CD.flat]) (by rw [DExport.c_eq]))
theorem laws_toExportS_V (β : Bool) (l : List DExport) (hl : l.length ≤ 1048576) (h : AH) : T Try.prog Γ Fn.laws_toExportS [.vs β 3 false (l.map (DExport.c β))] h fun v h' => v = .vs false 3 false (l.map (DExport.c false)) ∧ h' = h := by
  have := (laws_toExportS_T (Γ := Γ) β l hl h).valC; rw [CD.av_sl, List.map_map] at this; simpa only [Function.comp_def, DExport.c_eq] using this
theorem laws_szExportS_T (β : Bool) (l : List DExport) (hl : l.length ≤ maxLen) (left : Int) (h0 : 0 ≤ left) (h1 : left ≤ 1048576) (h : AH) : T Try.prog Γ Fn.laws_szExportS [.vs β 3 false (l.map (DExport.c β)), .int .i64 left] h fun v h' => v = .int .i64 (szN l left) ∧ h' = h :=
  szF_T tabOK mixed (fun hw => laws_szExportS_e hw) h0 h1 hl
theorem laws_eqExport_T (β β' : Bool) (x y : DExport) (h : AH) : T Try.prog Γ Fn.laws_eqExport [.agg (x.c β), .agg (y.c β')] h fun v h' => v = .bool (decide (x = y)) ∧ h' = h := by
  refine laws_eqExport_e (aw_sound tabOK mixed [] _ _ _ ?_)
  unfold laws_eqExport_c DExport.c
  simp only [EV, EL, EB, if_true, if_false, Bool.false_eq_true, Nat.reduceAdd, Option.bind_some, laws_eqExport_r, ne_int, ne_bool, ne_str]
  by_cases n1 : x.pos = y.pos
  rotate_left
  · simp only [EV, EL, EB, if_true, if_false, Bool.false_eq_true, Nat.reduceAdd, Option.bind_some, laws_eqExport_r, decide_eq_false n1, Bool.not_false]
    exact ⟨rfl, by rw [decide_eq_false (fun e => n1 (by rw [e]))]⟩
  simp only [EV, EL, EB, if_true, if_false, Bool.false_eq_true, Nat.reduceAdd, Option.bind_some, laws_eqExport_r, decide_eq_true n1, Bool.not_true, ne_int, ne_bool, ne_str]
  by_cases n2 : x.entity = y.entity
  rotate_left
  · simp only [EV, EL, EB, if_true, if_false, Bool.false_eq_true, Nat.reduceAdd, Option.bind_some, laws_eqExport_r, decide_eq_false n2, Bool.not_false]
    exact ⟨rfl, by rw [decide_eq_false (fun e => n2 (by rw [e]))]⟩
  simp only [EV, EL, EB, if_true, if_false, Bool.false_eq_true, Nat.reduceAdd, Option.bind_some, laws_eqExport_r, decide_eq_true n2, Bool.not_true, ne_int, ne_bool, ne_str]
  by_cases n3 : x.count = y.count
  rotate_left
  · simp only [EV, EL, EB, if_true, if_false, Bool.false_eq_true, Nat.reduceAdd, Option.bind_some, laws_eqExport_r, decide_eq_false n3, Bool.not_false]
    exact ⟨rfl, by rw [decide_eq_false (fun e => n3 (by rw [e]))]⟩
  simp only [EV, EL, EB, if_true, if_false, Bool.false_eq_true, Nat.reduceAdd, Option.bind_some, laws_eqExport_r, decide_eq_true n3, Bool.not_true, ne_int, ne_bool, ne_str]
  exact ⟨rfl, by rw [decide_eq_true (by cases x; cases y; simp only [DExport.mk.injEq]; exact ⟨n1, n2, n3⟩)]⟩
theorem laws_eqExportS_T (β β' : Bool) (l m : List DExport) (hl : l.length ≤ 1073741824) (h : AH) : T Try.prog Γ Fn.laws_eqExportS [.vs β 3 false (l.map (DExport.c β)), .vs β' 3 false (m.map (DExport.c β'))] h fun v h' => v = .bool (decide (l = m)) ∧ h' = h :=
  eqS_D (f := Fn.laws_eqExport) tabOK mixed (fun hw => laws_eqExportS_e hw) (by omega) (fun x => ⟨rfl, rfl⟩) (fun x => ⟨rfl, rfl⟩) (fun x hx y _ => laws_eqExport_T β β' x y h)
theorem laws_toQuestion_T (β : Bool) (x : DQuestion) (h : AH) : T Try.prog Γ Fn.laws_toQuestion [.agg (x.c β)] h fun v h' => v = .agg (x.c false) ∧ h' = h := by
  refine laws_toQuestion_e (aw_sound tabOK mixed [] _ _ _ ?_)
  unfold laws_toQuestion_c DQuestion.c
  simp only [EV, EL, EB, if_true, if_false, Bool.false_eq_true, Nat.reduceAdd, Option.bind_some, laws_toQuestion_r]
  exact rfl
theorem laws_toQuestionS_T (β : Bool) (l : List DQuestion) (hl : l.length ≤ 1048576) (h : AH) : T Try.prog Γ Fn.laws_toQuestionS [.vs β 2 false (l.map (DQuestion.c β))] h (Fresh h [.c (.sl 2 (l.map DQuestion.cd))]) :=
  toS_own (szs := 2) (sz := 2) (bytes := 16) (z := [.int .i64 0, .int .i64 0]) (f := Fn.laws_toQuestion) tabOK mixed (fun hw => laws_toQuestionS_e hw) (by simp [maxMade]; omega) rfl rfl (fun x _ => ⟨rfl, rfl⟩) (fun x _ => rfl) (fun x hx H => (laws_toQuestion_T β x H).flat (cs := x.cd) (by simp [DQuestion.cd, CD.flat]) (by rw [DQuestion.c_eq]))
theorem laws_toQuestionS_V (β : Bool) (l : List DQuestion) (hl : l.length ≤ 1048576) (h : AH) : T Try.prog Γ Fn.laws_toQuestionS [.vs β 2 false (l.map (DQuestion.c β))] h fun v h' => v = .vs false 2 false (l.map (DQuestion.c false)) ∧ h' = h := by
  have := (laws_toQuestionS_T (Γ := Γ) β l hl h).valC; rw [CD.av_sl, List.map_map] at this; simpa only [Function.comp_def, DQuestion.c_eq] using this
theorem laws_szQuestionS_T (β : Bool) (l : List DQuestion) (hl : l.length ≤ maxLen) (left : Int) (h0 : 0 ≤ left) (h1 : left ≤ 1048576) (h : AH) : T Try.prog Γ Fn.laws_szQuestionS [.vs β 2 false (l.map (DQuestion.c β)), .int .i64 left] h fun v h' => v = .int .i64 (szN l left) ∧ h' = h :=
  szF_T tabOK mixed (fun hw => laws_szQuestionS_e hw) h0 h1 hl
theorem laws_eqQuestion_T (β β' : Bool) (x y : DQuestion) (h : AH) : T Try.prog Γ Fn.laws_eqQuestion [.agg (x.c β), .agg (y.c β')] h fun v h' => v = .bool (decide (x = y)) ∧ h' = h := by
  refine laws_eqQuestion_e (aw_sound tabOK mixed [] _ _ _ ?_)
  unfold laws_eqQuestion_c DQuestion.c
  simp only [EV, EL, EB, if_true, if_false, Bool.false_eq_true, Nat.reduceAdd, Option.bind_some, laws_eqQuestion_r, ne_int, ne_bool, ne_str]
  by_cases n1 : x.id = y.id
  rotate_left
  · simp only [EV, EL, EB, if_true, if_false, Bool.false_eq_true, Nat.reduceAdd, Option.bind_some, laws_eqQuestion_r, decide_eq_false n1, Bool.not_false]
    exact ⟨rfl, by rw [decide_eq_false (fun e => n1 (by rw [e]))]⟩
  simp only [EV, EL, EB, if_true, if_false, Bool.false_eq_true, Nat.reduceAdd, Option.bind_some, laws_eqQuestion_r, decide_eq_true n1, Bool.not_true, ne_int, ne_bool, ne_str]
  by_cases n2 : x.promise = y.promise
  rotate_left
  · simp only [EV, EL, EB, if_true, if_false, Bool.false_eq_true, Nat.reduceAdd, Option.bind_some, laws_eqQuestion_r, decide_eq_false n2, Bool.not_false]
    exact ⟨rfl, by rw [decide_eq_false (fun e => n2 (by rw [e]))]⟩
  simp only [EV, EL, EB, if_true, if_false, Bool.false_eq_true, Nat.reduceAdd, Option.bind_some, laws_eqQuestion_r, decide_eq_true n2, Bool.not_true, ne_int, ne_bool, ne_str]
  exact ⟨rfl, by rw [decide_eq_true (by cases x; cases y; simp only [DQuestion.mk.injEq]; exact ⟨n1, n2⟩)]⟩
theorem laws_eqQuestionS_T (β β' : Bool) (l m : List DQuestion) (hl : l.length ≤ 1073741824) (h : AH) : T Try.prog Γ Fn.laws_eqQuestionS [.vs β 2 false (l.map (DQuestion.c β)), .vs β' 2 false (m.map (DQuestion.c β'))] h fun v h' => v = .bool (decide (l = m)) ∧ h' = h :=
  eqS_D (f := Fn.laws_eqQuestion) tabOK mixed (fun hw => laws_eqQuestionS_e hw) (by omega) (fun x => ⟨rfl, rfl⟩) (fun x => ⟨rfl, rfl⟩) (fun x hx y _ => laws_eqQuestion_T β β' x y h)
theorem laws_toLink_T (β : Bool) (x : DLink) (hx : x.ok 1048576) (h : AH) : T Try.prog Γ Fn.laws_toLink [.agg (x.c β)] h (Fresh h [.a x.cd]) := by
  refine T.freshA (laws_toLink_e (aw_sound tabOK mixed [] _ _ _ ?_))
  unfold laws_toLink_c DLink.c
  simp only [EV, EL, EB, if_true, if_false, Bool.false_eq_true, Nat.reduceAdd, Option.bind_some, laws_toLink_r]
  refine TCall.ref (by simp only [EO]) (laws_toExportS_T β x.exports (hx.1) _) ?_
  intro v1 h1 q1
  obtain ⟨n1, f1, rfl, o1, nd1, b1⟩ := q1.one
  obtain ⟨c1a, c1b, c1c, c1d⟩ := o1.cell
  simp only [EV, EL, EB, if_true, if_false, Bool.false_eq_true, Nat.reduceAdd, Option.bind_some, c1a, c1b, c1c, c1d, laws_toLink_r]
  refine TCall.ref (by simp only [EO]) (laws_toQuestionS_T β x.questions (hx.2.1) _) ?_
  intro v2 h2 q2
  obtain ⟨n2, f2, rfl, o2, nd2, b2⟩ := q2.one
  obtain ⟨c2a, c2b, c2c, c2d⟩ := o2.cell
  simp only [EV, EL, EB, if_true, if_false, Bool.false_eq_true, Nat.reduceAdd, Option.bind_some, c1a, c1b, c1c, c1d, c2a, c2b, c2c, c2d, laws_toLink_r]
  refine TCall.ref (by simp only [EO]) (laws_toQuestionS_T β x.answers (hx.2.2) _) ?_
  intro v3 h3 q3
  obtain ⟨n3, f3, rfl, o3, nd3, b3⟩ := q3.one
  obtain ⟨c3a, c3b, c3c, c3d⟩ := o3.cell
  simp only [EV, EL, EB, if_true, if_false, Bool.false_eq_true, Nat.reduceAdd, Option.bind_some, c1a, c1b, c1c, c1d, c2a, c2b, c2c, c2d, c3a, c3b, c3c, c3d, laws_toLink_r]
  refine ⟨by simp only [EO, outOK, c1a, c1b, c1c, c1d, c2a, c2b, c2c, c2d, c3a, c3b, c3c, c3d], _, n1 ++ n2 ++ n3, _, rfl, by simp, (.i (.b (.o o1.grow.grow (.i (.o o2.grow (.i (.o o3 .nil))))))), ?_, ?_⟩
  · simp only [List.append_nil]
    exact nodup_app nd1 (nodup_app nd2 (nd3) (fun b hb => o2.lt b hb) (fun b hb => by (try simp only [List.mem_append] at hb); first | (have := b3 b hb; simp only [List.length_append] at this ⊢; omega))) (fun b hb => o1.lt b hb) (fun b hb => by (try simp only [List.mem_append] at hb); rcases hb with hb | hb <;> first | (have := b2 b hb; simp only [List.length_append] at this ⊢; omega) | (have := b3 b hb; simp only [List.length_append] at this ⊢; omega))
  · intro b hb
    simp only [List.append_nil, List.mem_append] at hb
    rcases hb with hb | hb | hb <;> first | (have := b1 b hb; simp only [List.length_append] at this ⊢; omega) | (have := b2 b hb; simp only [List.length_append] at this ⊢; omega) | (have := b3 b hb; simp only [List.length_append] at this ⊢; omega)
theorem laws_toLink_V (β : Bool) (x : DLink) (hx : x.ok 1048576) (h : AH) : T Try.prog Γ Fn.laws_toLink [.agg (x.c β)] h fun v h' => v = .agg (x.c false) ∧ h' = h := by
  have := (laws_toLink_T (Γ := Γ) β x hx h).valA; rwa [DLink.c_eq] at this
theorem laws_szLink_T (β : Bool) (x : DLink) (hx : x.ok maxLen) (left : Int) (h0 : 0 ≤ left) (h1 : left ≤ 1048576) (h : AH) : T Try.prog Γ Fn.laws_szLink [.agg (x.c β), .int .i64 left] h fun v h' => v = .int .i64 (x.szf left) ∧ h' = h := by
  have hml : maxLen ≤ 9223372036854775807 := by decide
  refine laws_szLink_e (aw_sound tabOK mixed [] _ _ _ ?_)
  unfold laws_szLink_c DLink.c
  simp only [EV, EL, EB, if_true, if_false, Bool.false_eq_true, Nat.reduceAdd, Option.bind_some, laws_szLink_r, len_str]
  refine TCall.val (by simp only [EO]) (laws_szExportS_T β x.exports (hx.1) _ (by omega) (by omega) _) ?_
  simp only [EV, EL, EB, if_true, if_false, Bool.false_eq_true, Nat.reduceAdd, Option.bind_some, laws_szLink_r, len_str]
  by_cases n1 : (szN x.exports left) < 0
  · simp only [EV, EL, EB, if_true, if_false, Bool.false_eq_true, Nat.reduceAdd, Option.bind_some, laws_szLink_r, decide_eq_true n1]
    exact ⟨rfl, by simp only [DLink.szf, n1, if_true, if_false]⟩
  simp only [EV, EL, EB, if_true, if_false, Bool.false_eq_true, Nat.reduceAdd, Option.bind_some, laws_szLink_r, decide_eq_false n1, len_str]
  have q1 := (szN_ok (Int.not_lt.1 n1)).2
  refine TCall.val (by simp only [EO]) (laws_szQuestionS_T β x.questions (hx.2.1) _ (by omega) (by omega) _) ?_
  simp only [EV, EL, EB, if_true, if_false, Bool.false_eq_true, Nat.reduceAdd, Option.bind_some, laws_szLink_r, len_str]
  by_cases n2 : (szN x.questions (szN x.exports left)) < 0
  · simp only [EV, EL, EB, if_true, if_false, Bool.false_eq_true, Nat.reduceAdd, Option.bind_some, laws_szLink_r, decide_eq_true n2]
    exact ⟨rfl, by simp only [DLink.szf, n2, if_true, if_false, n1]⟩
  simp only [EV, EL, EB, if_true, if_false, Bool.false_eq_true, Nat.reduceAdd, Option.bind_some, laws_szLink_r, decide_eq_false n2, len_str]
  have q2 := (szN_ok (Int.not_lt.1 n2)).2
  refine TCall.val (by simp only [EO]) (laws_szQuestionS_T β x.answers (hx.2.2) _ (by omega) (by omega) _) ?_
  simp only [EV, EL, EB, if_true, if_false, Bool.false_eq_true, Nat.reduceAdd, Option.bind_some, laws_szLink_r, len_str]
  by_cases n3 : (szN x.answers (szN x.questions (szN x.exports left))) < 0
  · simp only [EV, EL, EB, if_true, if_false, Bool.false_eq_true, Nat.reduceAdd, Option.bind_some, laws_szLink_r, decide_eq_true n3]
    exact ⟨rfl, by simp only [DLink.szf, n3, if_true, if_false, n1, n2]⟩
  simp only [EV, EL, EB, if_true, if_false, Bool.false_eq_true, Nat.reduceAdd, Option.bind_some, laws_szLink_r, decide_eq_false n3, len_str]
  have q3 := (szN_ok (Int.not_lt.1 n3)).2
  exact ⟨rfl, by simp only [DLink.szf, if_false, n1, n2, n3]⟩
theorem laws_eqLink_T (β β' : Bool) (x y : DLink) (hx : x.ok 1073741824) (h : AH) : T Try.prog Γ Fn.laws_eqLink [.agg (x.c β), .agg (y.c β')] h fun v h' => v = .bool (decide (x = y)) ∧ h' = h := by
  refine laws_eqLink_e (aw_sound tabOK mixed [] _ _ _ ?_)
  unfold laws_eqLink_c DLink.c
  simp only [EV, EL, EB, if_true, if_false, Bool.false_eq_true, Nat.reduceAdd, Option.bind_some, laws_eqLink_r, ne_int, ne_bool, ne_str]
  by_cases n1 : x.peer = y.peer
  rotate_left
  · simp only [EV, EL, EB, if_true, if_false, Bool.false_eq_true, Nat.reduceAdd, Option.bind_some, laws_eqLink_r, decide_eq_false n1, Bool.not_false]
    exact ⟨rfl, by rw [decide_eq_false (fun e => n1 (by rw [e]))]⟩
  simp only [EV, EL, EB, if_true, if_false, Bool.false_eq_true, Nat.reduceAdd, Option.bind_some, laws_eqLink_r, decide_eq_true n1, Bool.not_true, ne_int, ne_bool, ne_str]
  by_cases n2 : x.up = y.up
  rotate_left
  · simp only [EV, EL, EB, if_true, if_false, Bool.false_eq_true, Nat.reduceAdd, Option.bind_some, laws_eqLink_r, decide_eq_false n2, Bool.not_false]
    exact ⟨rfl, by rw [decide_eq_false (fun e => n2 (by rw [e]))]⟩
  simp only [EV, EL, EB, if_true, if_false, Bool.false_eq_true, Nat.reduceAdd, Option.bind_some, laws_eqLink_r, decide_eq_true n2, Bool.not_true, ne_int, ne_bool, ne_str]
  refine TCall.val (by simp only [EO]) (laws_eqExportS_T β β' x.exports y.exports (hx.1) _) ?_
  simp only [EV, EL, EB, if_true, if_false, Bool.false_eq_true, Nat.reduceAdd, Option.bind_some, laws_eqLink_r, ne_int, ne_bool, ne_str]
  by_cases n3 : x.exports = y.exports
  rotate_left
  · simp only [EV, EL, EB, if_true, if_false, Bool.false_eq_true, Nat.reduceAdd, Option.bind_some, laws_eqLink_r, decide_eq_false n3, Bool.not_false]
    exact ⟨rfl, by rw [decide_eq_false (fun e => n3 (by rw [e]))]⟩
  simp only [EV, EL, EB, if_true, if_false, Bool.false_eq_true, Nat.reduceAdd, Option.bind_some, laws_eqLink_r, decide_eq_true n3, Bool.not_true, ne_int, ne_bool, ne_str]
  by_cases n4 : x.next = y.next
  rotate_left
  · simp only [EV, EL, EB, if_true, if_false, Bool.false_eq_true, Nat.reduceAdd, Option.bind_some, laws_eqLink_r, decide_eq_false n4, Bool.not_false]
    exact ⟨rfl, by rw [decide_eq_false (fun e => n4 (by rw [e]))]⟩
  simp only [EV, EL, EB, if_true, if_false, Bool.false_eq_true, Nat.reduceAdd, Option.bind_some, laws_eqLink_r, decide_eq_true n4, Bool.not_true, ne_int, ne_bool, ne_str]
  refine TCall.val (by simp only [EO]) (laws_eqQuestionS_T β β' x.questions y.questions (hx.2.1) _) ?_
  simp only [EV, EL, EB, if_true, if_false, Bool.false_eq_true, Nat.reduceAdd, Option.bind_some, laws_eqLink_r, ne_int, ne_bool, ne_str]
  by_cases n5 : x.questions = y.questions
  rotate_left
  · simp only [EV, EL, EB, if_true, if_false, Bool.false_eq_true, Nat.reduceAdd, Option.bind_some, laws_eqLink_r, decide_eq_false n5, Bool.not_false]
    exact ⟨rfl, by rw [decide_eq_false (fun e => n5 (by rw [e]))]⟩
  simp only [EV, EL, EB, if_true, if_false, Bool.false_eq_true, Nat.reduceAdd, Option.bind_some, laws_eqLink_r, decide_eq_true n5, Bool.not_true, ne_int, ne_bool, ne_str]
  by_cases n6 : x.asked = y.asked
  rotate_left
  · simp only [EV, EL, EB, if_true, if_false, Bool.false_eq_true, Nat.reduceAdd, Option.bind_some, laws_eqLink_r, decide_eq_false n6, Bool.not_false]
    exact ⟨rfl, by rw [decide_eq_false (fun e => n6 (by rw [e]))]⟩
  simp only [EV, EL, EB, if_true, if_false, Bool.false_eq_true, Nat.reduceAdd, Option.bind_some, laws_eqLink_r, decide_eq_true n6, Bool.not_true, ne_int, ne_bool, ne_str]
  refine TCall.val (by simp only [EO]) (laws_eqQuestionS_T β β' x.answers y.answers (hx.2.2) _) ?_
  simp only [EV, EL, EB, if_true, if_false, Bool.false_eq_true, Nat.reduceAdd, Option.bind_some, laws_eqLink_r, ne_int, ne_bool, ne_str]
  by_cases n7 : x.answers = y.answers
  rotate_left
  · simp only [EV, EL, EB, if_true, if_false, Bool.false_eq_true, Nat.reduceAdd, Option.bind_some, laws_eqLink_r, decide_eq_false n7, Bool.not_false]
    exact ⟨rfl, by rw [decide_eq_false (fun e => n7 (by rw [e]))]⟩
  simp only [EV, EL, EB, if_true, if_false, Bool.false_eq_true, Nat.reduceAdd, Option.bind_some, laws_eqLink_r, decide_eq_true n7, Bool.not_true, ne_int, ne_bool, ne_str]
  exact ⟨rfl, by rw [decide_eq_true (by cases x; cases y; simp only [DLink.mk.injEq]; exact ⟨n1, n2, n3, n4, n5, n6, n7⟩)]⟩
theorem laws_eqWire_T (β β' : Bool) (x y : DWire) (h : AH) : T Try.prog Γ Fn.laws_eqWire [.agg (x.c β), .agg (y.c β')] h fun v h' => v = .bool (decide (x = y)) ∧ h' = h := by
  refine laws_eqWire_e (aw_sound tabOK mixed [] _ _ _ ?_)
  unfold laws_eqWire_c DWire.c
  simp only [EV, EL, EB, if_true, if_false, Bool.false_eq_true, Nat.reduceAdd, Option.bind_some, laws_eqWire_r, ne_int, ne_bool, ne_str]
  by_cases n1 : x.kind = y.kind
  rotate_left
  · simp only [EV, EL, EB, if_true, if_false, Bool.false_eq_true, Nat.reduceAdd, Option.bind_some, laws_eqWire_r, decide_eq_false n1, Bool.not_false]
    exact ⟨rfl, by rw [decide_eq_false (fun e => n1 (by rw [e]))]⟩
  simp only [EV, EL, EB, if_true, if_false, Bool.false_eq_true, Nat.reduceAdd, Option.bind_some, laws_eqWire_r, decide_eq_true n1, Bool.not_true, ne_int, ne_bool, ne_str]
  by_cases n2 : x.n = y.n
  rotate_left
  · simp only [EV, EL, EB, if_true, if_false, Bool.false_eq_true, Nat.reduceAdd, Option.bind_some, laws_eqWire_r, decide_eq_false n2, Bool.not_false]
    exact ⟨rfl, by rw [decide_eq_false (fun e => n2 (by rw [e]))]⟩
  simp only [EV, EL, EB, if_true, if_false, Bool.false_eq_true, Nat.reduceAdd, Option.bind_some, laws_eqWire_r, decide_eq_true n2, Bool.not_true, ne_int, ne_bool, ne_str]
  exact ⟨rfl, by rw [decide_eq_true (by cases x; cases y; simp only [DWire.mk.injEq]; exact ⟨n1, n2⟩)]⟩
theorem laws_eqWireS_T (β β' : Bool) (l m : List DWire) (hl : l.length ≤ 1073741824) (h : AH) : T Try.prog Γ Fn.laws_eqWireS [.vs β 2 false (l.map (DWire.c β)), .vs β' 2 false (m.map (DWire.c β'))] h fun v h' => v = .bool (decide (l = m)) ∧ h' = h :=
  eqS_D (f := Fn.laws_eqWire) tabOK mixed (fun hw => laws_eqWireS_e hw) (by omega) (fun x => ⟨rfl, rfl⟩) (fun x => ⟨rfl, rfl⟩) (fun x hx y _ => laws_eqWire_T β β' x y h)
theorem laws_eqMessage_T (β β' : Bool) (x y : DMessage) (hx : x.ok 1073741824) (h : AH) : T Try.prog Γ Fn.laws_eqMessage [.agg (x.c β), .agg (y.c β')] h fun v h' => v = .bool (decide (x = y)) ∧ h' = h := by
  refine laws_eqMessage_e (aw_sound tabOK mixed [] _ _ _ ?_)
  unfold laws_eqMessage_c DMessage.c
  simp only [EV, EL, EB, if_true, if_false, Bool.false_eq_true, Nat.reduceAdd, Option.bind_some, laws_eqMessage_r, ne_int, ne_bool, ne_str]
  by_cases n1 : x.kind = y.kind
  rotate_left
  · simp only [EV, EL, EB, if_true, if_false, Bool.false_eq_true, Nat.reduceAdd, Option.bind_some, laws_eqMessage_r, decide_eq_false n1, Bool.not_false]
    exact ⟨rfl, by rw [decide_eq_false (fun e => n1 (by rw [e]))]⟩
  simp only [EV, EL, EB, if_true, if_false, Bool.false_eq_true, Nat.reduceAdd, Option.bind_some, laws_eqMessage_r, decide_eq_true n1, Bool.not_true, ne_int, ne_bool, ne_str]
  by_cases n2 : x.pos = y.pos
  rotate_left
  · simp only [EV, EL, EB, if_true, if_false, Bool.false_eq_true, Nat.reduceAdd, Option.bind_some, laws_eqMessage_r, decide_eq_false n2, Bool.not_false]
    exact ⟨rfl, by rw [decide_eq_false (fun e => n2 (by rw [e]))]⟩
  simp only [EV, EL, EB, if_true, if_false, Bool.false_eq_true, Nat.reduceAdd, Option.bind_some, laws_eqMessage_r, decide_eq_true n2, Bool.not_true, ne_int, ne_bool, ne_str]
  by_cases n3 : x.answer = y.answer
  rotate_left
  · simp only [EV, EL, EB, if_true, if_false, Bool.false_eq_true, Nat.reduceAdd, Option.bind_some, laws_eqMessage_r, decide_eq_false n3, Bool.not_false]
    exact ⟨rfl, by rw [decide_eq_false (fun e => n3 (by rw [e]))]⟩
  simp only [EV, EL, EB, if_true, if_false, Bool.false_eq_true, Nat.reduceAdd, Option.bind_some, laws_eqMessage_r, decide_eq_true n3, Bool.not_true, ne_int, ne_bool, ne_str]
  by_cases n4 : x.question = y.question
  rotate_left
  · simp only [EV, EL, EB, if_true, if_false, Bool.false_eq_true, Nat.reduceAdd, Option.bind_some, laws_eqMessage_r, decide_eq_false n4, Bool.not_false]
    exact ⟨rfl, by rw [decide_eq_false (fun e => n4 (by rw [e]))]⟩
  simp only [EV, EL, EB, if_true, if_false, Bool.false_eq_true, Nat.reduceAdd, Option.bind_some, laws_eqMessage_r, decide_eq_true n4, Bool.not_true, ne_int, ne_bool, ne_str]
  by_cases n5 : x.name = y.name
  rotate_left
  · simp only [EV, EL, EB, if_true, if_false, Bool.false_eq_true, Nat.reduceAdd, Option.bind_some, laws_eqMessage_r, decide_eq_false n5, Bool.not_false]
    exact ⟨rfl, by rw [decide_eq_false (fun e => n5 (by rw [e]))]⟩
  simp only [EV, EL, EB, if_true, if_false, Bool.false_eq_true, Nat.reduceAdd, Option.bind_some, laws_eqMessage_r, decide_eq_true n5, Bool.not_true, ne_int, ne_bool, ne_str]
  refine TCall.val (by simp only [EO]) (laws_eqWireS_T β β' x.args y.args (hx.2) _) ?_
  simp only [EV, EL, EB, if_true, if_false, Bool.false_eq_true, Nat.reduceAdd, Option.bind_some, laws_eqMessage_r, ne_int, ne_bool, ne_str]
  by_cases n6 : x.args = y.args
  rotate_left
  · simp only [EV, EL, EB, if_true, if_false, Bool.false_eq_true, Nat.reduceAdd, Option.bind_some, laws_eqMessage_r, decide_eq_false n6, Bool.not_false]
    exact ⟨rfl, by rw [decide_eq_false (fun e => n6 (by rw [e]))]⟩
  simp only [EV, EL, EB, if_true, if_false, Bool.false_eq_true, Nat.reduceAdd, Option.bind_some, laws_eqMessage_r, decide_eq_true n6, Bool.not_true, ne_int, ne_bool, ne_str]
  refine TCall.val (by simp only [EO]) (laws_eqWire_T β β' x.value y.value _) ?_
  simp only [EV, EL, EB, if_true, if_false, Bool.false_eq_true, Nat.reduceAdd, Option.bind_some, laws_eqMessage_r, ne_int, ne_bool, ne_str]
  by_cases n7 : x.value = y.value
  rotate_left
  · simp only [EV, EL, EB, if_true, if_false, Bool.false_eq_true, Nat.reduceAdd, Option.bind_some, laws_eqMessage_r, decide_eq_false n7, Bool.not_false]
    exact ⟨rfl, by rw [decide_eq_false (fun e => n7 (by rw [e]))]⟩
  simp only [EV, EL, EB, if_true, if_false, Bool.false_eq_true, Nat.reduceAdd, Option.bind_some, laws_eqMessage_r, decide_eq_true n7, Bool.not_true, ne_int, ne_bool, ne_str]
  by_cases n8 : x.count = y.count
  rotate_left
  · simp only [EV, EL, EB, if_true, if_false, Bool.false_eq_true, Nat.reduceAdd, Option.bind_some, laws_eqMessage_r, decide_eq_false n8, Bool.not_false]
    exact ⟨rfl, by rw [decide_eq_false (fun e => n8 (by rw [e]))]⟩
  simp only [EV, EL, EB, if_true, if_false, Bool.false_eq_true, Nat.reduceAdd, Option.bind_some, laws_eqMessage_r, decide_eq_true n8, Bool.not_true, ne_int, ne_bool, ne_str]
  refine TCall.val (by simp only [EO]) (laws_eqTag_T β β' x.tag y.tag _) ?_
  simp only [EV, EL, EB, if_true, if_false, Bool.false_eq_true, Nat.reduceAdd, Option.bind_some, laws_eqMessage_r, ne_int, ne_bool, ne_str]
  by_cases n9 : x.tag = y.tag
  rotate_left
  · simp only [EV, EL, EB, if_true, if_false, Bool.false_eq_true, Nat.reduceAdd, Option.bind_some, laws_eqMessage_r, decide_eq_false n9, Bool.not_false]
    exact ⟨rfl, by rw [decide_eq_false (fun e => n9 (by rw [e]))]⟩
  simp only [EV, EL, EB, if_true, if_false, Bool.false_eq_true, Nat.reduceAdd, Option.bind_some, laws_eqMessage_r, decide_eq_true n9, Bool.not_true, ne_int, ne_bool, ne_str]
  exact ⟨rfl, by rw [decide_eq_true (by cases x; cases y; simp only [DMessage.mk.injEq]; exact ⟨n1, n2, n3, n4, n5, n6, n7, n8, n9⟩)]⟩
theorem laws_toGift_T (β : Bool) (x : DGift) (h : AH) : T Try.prog Γ Fn.laws_toGift [.agg (x.c β)] h fun v h' => v = .agg (x.c false) ∧ h' = h := by
  refine laws_toGift_e (aw_sound tabOK mixed [] _ _ _ ?_)
  unfold laws_toGift_c DGift.c
  simp only [EV, EL, EB, if_true, if_false, Bool.false_eq_true, Nat.reduceAdd, Option.bind_some, laws_toGift_r]
  exact rfl
theorem laws_toGiftS_T (β : Bool) (l : List DGift) (hl : l.length ≤ 1048576) (h : AH) : T Try.prog Γ Fn.laws_toGiftS [.vs β 4 false (l.map (DGift.c β))] h (Fresh h [.c (.sl 4 (l.map DGift.cd))]) :=
  toS_own (szs := 4) (sz := 4) (bytes := 32) (z := [.int .i64 0, .int .i64 0, .int .i64 0, .int .i64 0]) (f := Fn.laws_toGift) tabOK mixed (fun hw => laws_toGiftS_e hw) (by simp [maxMade]; omega) rfl rfl (fun x _ => ⟨rfl, rfl⟩) (fun x _ => rfl) (fun x hx H => (laws_toGift_T β x H).flat (cs := x.cd) (by simp [DGift.cd, CD.flat]) (by rw [DGift.c_eq]))
theorem laws_toGiftS_V (β : Bool) (l : List DGift) (hl : l.length ≤ 1048576) (h : AH) : T Try.prog Γ Fn.laws_toGiftS [.vs β 4 false (l.map (DGift.c β))] h fun v h' => v = .vs false 4 false (l.map (DGift.c false)) ∧ h' = h := by
  have := (laws_toGiftS_T (Γ := Γ) β l hl h).valC; rw [CD.av_sl, List.map_map] at this; simpa only [Function.comp_def, DGift.c_eq] using this
theorem laws_szGiftS_T (β : Bool) (l : List DGift) (hl : l.length ≤ maxLen) (left : Int) (h0 : 0 ≤ left) (h1 : left ≤ 1048576) (h : AH) : T Try.prog Γ Fn.laws_szGiftS [.vs β 4 false (l.map (DGift.c β)), .int .i64 left] h fun v h' => v = .int .i64 (szN l left) ∧ h' = h :=
  szF_T tabOK mixed (fun hw => laws_szGiftS_e hw) h0 h1 hl
theorem laws_eqGift_T (β β' : Bool) (x y : DGift) (h : AH) : T Try.prog Γ Fn.laws_eqGift [.agg (x.c β), .agg (y.c β')] h fun v h' => v = .bool (decide (x = y)) ∧ h' = h := by
  refine laws_eqGift_e (aw_sound tabOK mixed [] _ _ _ ?_)
  unfold laws_eqGift_c DGift.c
  simp only [EV, EL, EB, if_true, if_false, Bool.false_eq_true, Nat.reduceAdd, Option.bind_some, laws_eqGift_r, ne_int, ne_bool, ne_str]
  by_cases n1 : x.nonce = y.nonce
  rotate_left
  · simp only [EV, EL, EB, if_true, if_false, Bool.false_eq_true, Nat.reduceAdd, Option.bind_some, laws_eqGift_r, decide_eq_false n1, Bool.not_false]
    exact ⟨rfl, by rw [decide_eq_false (fun e => n1 (by rw [e]))]⟩
  simp only [EV, EL, EB, if_true, if_false, Bool.false_eq_true, Nat.reduceAdd, Option.bind_some, laws_eqGift_r, decide_eq_true n1, Bool.not_true, ne_int, ne_bool, ne_str]
  by_cases n2 : x.giver = y.giver
  rotate_left
  · simp only [EV, EL, EB, if_true, if_false, Bool.false_eq_true, Nat.reduceAdd, Option.bind_some, laws_eqGift_r, decide_eq_false n2, Bool.not_false]
    exact ⟨rfl, by rw [decide_eq_false (fun e => n2 (by rw [e]))]⟩
  simp only [EV, EL, EB, if_true, if_false, Bool.false_eq_true, Nat.reduceAdd, Option.bind_some, laws_eqGift_r, decide_eq_true n2, Bool.not_true, ne_int, ne_bool, ne_str]
  by_cases n3 : x.taker = y.taker
  rotate_left
  · simp only [EV, EL, EB, if_true, if_false, Bool.false_eq_true, Nat.reduceAdd, Option.bind_some, laws_eqGift_r, decide_eq_false n3, Bool.not_false]
    exact ⟨rfl, by rw [decide_eq_false (fun e => n3 (by rw [e]))]⟩
  simp only [EV, EL, EB, if_true, if_false, Bool.false_eq_true, Nat.reduceAdd, Option.bind_some, laws_eqGift_r, decide_eq_true n3, Bool.not_true, ne_int, ne_bool, ne_str]
  by_cases n4 : x.entity = y.entity
  rotate_left
  · simp only [EV, EL, EB, if_true, if_false, Bool.false_eq_true, Nat.reduceAdd, Option.bind_some, laws_eqGift_r, decide_eq_false n4, Bool.not_false]
    exact ⟨rfl, by rw [decide_eq_false (fun e => n4 (by rw [e]))]⟩
  simp only [EV, EL, EB, if_true, if_false, Bool.false_eq_true, Nat.reduceAdd, Option.bind_some, laws_eqGift_r, decide_eq_true n4, Bool.not_true, ne_int, ne_bool, ne_str]
  exact ⟨rfl, by rw [decide_eq_true (by cases x; cases y; simp only [DGift.mk.injEq]; exact ⟨n1, n2, n3, n4⟩)]⟩
theorem laws_eqGiftS_T (β β' : Bool) (l m : List DGift) (hl : l.length ≤ 1073741824) (h : AH) : T Try.prog Γ Fn.laws_eqGiftS [.vs β 4 false (l.map (DGift.c β)), .vs β' 4 false (m.map (DGift.c β'))] h fun v h' => v = .bool (decide (l = m)) ∧ h' = h :=
  eqS_D (f := Fn.laws_eqGift) tabOK mixed (fun hw => laws_eqGiftS_e hw) (by omega) (fun x => ⟨rfl, rfl⟩) (fun x => ⟨rfl, rfl⟩) (fun x hx y _ => laws_eqGift_T β β' x y h)
theorem laws_toBox_T (β : Bool) (x : DBox) (h : AH) : T Try.prog Γ Fn.laws_toBox [.agg (x.c β)] h fun v h' => v = .agg (x.c false) ∧ h' = h := by
  refine laws_toBox_e (aw_sound tabOK mixed [] _ _ _ ?_)
  unfold laws_toBox_c DBox.c
  simp only [EV, EL, EB, if_true, if_false, Bool.false_eq_true, Nat.reduceAdd, Option.bind_some, laws_toBox_r]
  refine TCall.val (by simp only [EO]) (laws_toValue_T β x.value _) ?_
  simp only [EV, EL, EB, if_true, if_false, Bool.false_eq_true, Nat.reduceAdd, Option.bind_some, DValue.c, laws_toBox_r]
  exact rfl
theorem laws_toBoxS_T (β : Bool) (l : List DBox) (hl : l.length ≤ 1048576) (h : AH) : T Try.prog Γ Fn.laws_toBoxS [.vs β 4 false (l.map (DBox.c β))] h (Fresh h [.c (.sl 4 (l.map DBox.cd))]) :=
  toS_own (szs := 4) (sz := 4) (bytes := 32) (z := [.int .i64 0, .int .i64 0, .int .i64 0, .int .i64 0]) (f := Fn.laws_toBox) tabOK mixed (fun hw => laws_toBoxS_e hw) (by simp [maxMade]; omega) rfl rfl (fun x _ => ⟨rfl, rfl⟩) (fun x _ => rfl) (fun x hx H => (laws_toBox_T β x H).flat (cs := x.cd) (by simp [DBox.cd, CD.flat]) (by rw [DBox.c_eq]))
theorem laws_toBoxS_V (β : Bool) (l : List DBox) (hl : l.length ≤ 1048576) (h : AH) : T Try.prog Γ Fn.laws_toBoxS [.vs β 4 false (l.map (DBox.c β))] h fun v h' => v = .vs false 4 false (l.map (DBox.c false)) ∧ h' = h := by
  have := (laws_toBoxS_T (Γ := Γ) β l hl h).valC; rw [CD.av_sl, List.map_map] at this; simpa only [Function.comp_def, DBox.c_eq] using this
theorem laws_szBoxS_T (β : Bool) (l : List DBox) (hl : l.length ≤ maxLen) (left : Int) (h0 : 0 ≤ left) (h1 : left ≤ 1048576) (h : AH) : T Try.prog Γ Fn.laws_szBoxS [.vs β 4 false (l.map (DBox.c β)), .int .i64 left] h fun v h' => v = .int .i64 (szN l left) ∧ h' = h :=
  szF_T tabOK mixed (fun hw => laws_szBoxS_e hw) h0 h1 hl
theorem laws_eqBox_T (β β' : Bool) (x y : DBox) (h : AH) : T Try.prog Γ Fn.laws_eqBox [.agg (x.c β), .agg (y.c β')] h fun v h' => v = .bool (decide (x = y)) ∧ h' = h := by
  refine laws_eqBox_e (aw_sound tabOK mixed [] _ _ _ ?_)
  unfold laws_eqBox_c DBox.c
  simp only [EV, EL, EB, if_true, if_false, Bool.false_eq_true, Nat.reduceAdd, Option.bind_some, laws_eqBox_r, ne_int, ne_bool, ne_str]
  by_cases n1 : x.id = y.id
  rotate_left
  · simp only [EV, EL, EB, if_true, if_false, Bool.false_eq_true, Nat.reduceAdd, Option.bind_some, laws_eqBox_r, decide_eq_false n1, Bool.not_false]
    exact ⟨rfl, by rw [decide_eq_false (fun e => n1 (by rw [e]))]⟩
  simp only [EV, EL, EB, if_true, if_false, Bool.false_eq_true, Nat.reduceAdd, Option.bind_some, laws_eqBox_r, decide_eq_true n1, Bool.not_true, ne_int, ne_bool, ne_str]
  by_cases n2 : x.brand = y.brand
  rotate_left
  · simp only [EV, EL, EB, if_true, if_false, Bool.false_eq_true, Nat.reduceAdd, Option.bind_some, laws_eqBox_r, decide_eq_false n2, Bool.not_false]
    exact ⟨rfl, by rw [decide_eq_false (fun e => n2 (by rw [e]))]⟩
  simp only [EV, EL, EB, if_true, if_false, Bool.false_eq_true, Nat.reduceAdd, Option.bind_some, laws_eqBox_r, decide_eq_true n2, Bool.not_true, ne_int, ne_bool, ne_str]
  refine TCall.val (by simp only [EO]) (laws_eqValue_T β β' x.value y.value _) ?_
  simp only [EV, EL, EB, if_true, if_false, Bool.false_eq_true, Nat.reduceAdd, Option.bind_some, laws_eqBox_r, ne_int, ne_bool, ne_str]
  by_cases n3 : x.value = y.value
  rotate_left
  · simp only [EV, EL, EB, if_true, if_false, Bool.false_eq_true, Nat.reduceAdd, Option.bind_some, laws_eqBox_r, decide_eq_false n3, Bool.not_false]
    exact ⟨rfl, by rw [decide_eq_false (fun e => n3 (by rw [e]))]⟩
  simp only [EV, EL, EB, if_true, if_false, Bool.false_eq_true, Nat.reduceAdd, Option.bind_some, laws_eqBox_r, decide_eq_true n3, Bool.not_true, ne_int, ne_bool, ne_str]
  exact ⟨rfl, by rw [decide_eq_true (by cases x; cases y; simp only [DBox.mk.injEq]; exact ⟨n1, n2, n3⟩)]⟩
theorem laws_eqBoxS_T (β β' : Bool) (l m : List DBox) (hl : l.length ≤ 1073741824) (h : AH) : T Try.prog Γ Fn.laws_eqBoxS [.vs β 4 false (l.map (DBox.c β)), .vs β' 4 false (m.map (DBox.c β'))] h fun v h' => v = .bool (decide (l = m)) ∧ h' = h :=
  eqS_D (f := Fn.laws_eqBox) tabOK mixed (fun hw => laws_eqBoxS_e hw) (by omega) (fun x => ⟨rfl, rfl⟩) (fun x => ⟨rfl, rfl⟩) (fun x hx y _ => laws_eqBox_T β β' x y h)
end Go.Proofs.Ytjohoameeeaafaa
