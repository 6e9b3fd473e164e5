import Derived.Test.YtleddolmolkpfaaGreatCodeForgeIn
import Derived.Test.YtleddolmolkpfaaGreatAmSz
set_option linter.unusedVariables false
set_option linter.unusedSimpArgs false
namespace Go.Proofs.YtleddolmolkpfaaGreat
open Go.AM
set_option linter.unusedVariables false
set_option linter.unusedSimpArgs false
variable {Γ : Glob}
theorem kcq_T (β : Bool) (x : DValue) (h : AH) : T Tryz.prog Γ Fn.kcq [.agg (x.c β)] h fun v h' => v = .agg (x.c false) ∧ h' = h := by
  refine kcq_e (aw_sound tabOK mixed [] _ _ _ ?_)
  unfold kcq_c DValue.c
  simp only [EY, if_true, if_false, Nat.reduceAdd, Option.bind_some, kcq_r]
  exact rfl
theorem kcr_T (β : Bool) (l : List DValue) (hl : l.length ≤ 1048576) (h : AH) : T Tryz.prog Γ Fn.kcr [.vs β 2 false (l.map (DValue.c β))] h (Fresh h [.c (.sl 2 (l.map DValue.cd))]) :=
  toS_own (szs := 2) (sz := 2) (bytes := 16) (z := [.int .i64 0, .int .i64 0]) (f := Fn.kcq) tabOK mixed (fun hw => kcr_e hw) (by simp [maxMade]; omega) rfl rfl (fun x _ => ⟨rfl, rfl⟩) (fun x _ => rfl) (fun x hx H => (kcq_T β x H).flat (cs := x.cd) (by simp [DValue.cd, CD.flat]) (by rw [DValue.c_eq]))
theorem kbU_T (β : Bool) (l : List DValue) (hl : l.length ≤ maxLen) (left : Int) (h0 : 0 ≤ left) (h1 : left ≤ 1048576) (h : AH) : T Tryz.prog Γ Fn.kbU [.vs β 2 false (l.map (DValue.c β)), .int .i64 left] h fun v h' => v = .int .i64 (szN l left) ∧ h' = h :=
  szF_T tabOK mixed (fun hw => kbU_e hw) h0 h1 hl
theorem kaR_T (β β' : Bool) (x y : DValue) (h : AH) : T Tryz.prog Γ Fn.kaR [.agg (x.c β), .agg (y.c β')] h fun v h' => v = .bool (decide (x = y)) ∧ h' = h := by
  refine kaR_e (aw_sound tabOK mixed [] _ _ _ ?_)
  unfold kaR_c DValue.c
  simp only [EY, if_true, if_false, Nat.reduceAdd, Option.bind_some, kaR_r, ne_int, ne_bool, ne_str]
  by_cases n1 : x.kind = y.kind
  rotate_left
  · simp only [EY, if_true, if_false, Nat.reduceAdd, Option.bind_some, kaR_r, decide_eq_false n1, Bool.not_false]
    exact ⟨rfl, by rw [decide_eq_false (fun e => n1 (by rw [e]))]⟩
  simp only [EY, if_true, if_false, Nat.reduceAdd, Option.bind_some, kaR_r, decide_eq_true n1, Bool.not_true, ne_int, ne_bool, ne_str]
  by_cases n2 : x.n = y.n
  rotate_left
  · simp only [EY, if_true, if_false, Nat.reduceAdd, Option.bind_some, kaR_r, decide_eq_false n2, Bool.not_false]
    exact ⟨rfl, by rw [decide_eq_false (fun e => n2 (by rw [e]))]⟩
  simp only [EY, if_true, if_false, Nat.reduceAdd, Option.bind_some, kaR_r, decide_eq_true n2, Bool.not_true, ne_int, ne_bool, ne_str]
  exact ⟨rfl, by rw [decide_eq_true (by cases x; cases y; simp only [DValue.mk.injEq]; exact ⟨n1, n2⟩)]⟩
theorem kaS_T (β β' : Bool) (l m : List DValue) (hl : l.length ≤ 1073741824) (h : AH) : T Tryz.prog Γ Fn.kaS [.vs β 2 false (l.map (DValue.c β)), .vs β' 2 false (m.map (DValue.c β'))] h fun v h' => v = .bool (decide (l = m)) ∧ h' = h :=
  eqS_D (f := Fn.kaR) tabOK mixed (fun hw => kaS_e hw) (by omega) (fun x => ⟨rfl, rfl⟩) (fun x => ⟨rfl, rfl⟩) (fun x hx y _ => kaR_T β β' x y h)
theorem kcp_T (β : Bool) (x : DTag) (h : AH) : T Tryz.prog Γ Fn.kcp [.agg (x.c β)] h fun v h' => v = .agg (x.c false) ∧ h' = h := by
  refine kcp_e (aw_sound tabOK mixed [] _ _ _ ?_)
  unfold kcp_c DTag.c
  simp only [EY, if_true, if_false, Nat.reduceAdd, Option.bind_some, kcp_r]
  exact rfl
theorem kaQ_T (β β' : Bool) (x y : DTag) (h : AH) : T Tryz.prog Γ Fn.kaQ [.agg (x.c β), .agg (y.c β')] h fun v h' => v = .bool (decide (x = y)) ∧ h' = h := by
  refine kaQ_e (aw_sound tabOK mixed [] _ _ _ ?_)
  unfold kaQ_c DTag.c
  simp only [EY, if_true, if_false, Nat.reduceAdd, Option.bind_some, kaQ_r, ne_int, ne_bool, ne_str]
  by_cases n1 : x.vat = y.vat
  rotate_left
  · simp only [EY, if_true, if_false, Nat.reduceAdd, Option.bind_some, kaQ_r, decide_eq_false n1, Bool.not_false]
    exact ⟨rfl, by rw [decide_eq_false (fun e => n1 (by rw [e]))]⟩
  simp only [EY, if_true, if_false, Nat.reduceAdd, Option.bind_some, kaQ_r, decide_eq_true n1, Bool.not_true, ne_int, ne_bool, ne_str]
  by_cases n2 : x.entity = y.entity
  rotate_left
  · simp only [EY, if_true, if_false, Nat.reduceAdd, Option.bind_some, kaQ_r, decide_eq_false n2, Bool.not_false]
    exact ⟨rfl, by rw [decide_eq_false (fun e => n2 (by rw [e]))]⟩
  simp only [EY, if_true, if_false, Nat.reduceAdd, Option.bind_some, kaQ_r, decide_eq_true n2, Bool.not_true, ne_int, ne_bool, ne_str]
  by_cases n3 : x.seq = y.seq
  rotate_left
  · simp only [EY, if_true, if_false, Nat.reduceAdd, Option.bind_some, kaQ_r, decide_eq_false n3, Bool.not_false]
    exact ⟨rfl, by rw [decide_eq_false (fun e => n3 (by rw [e]))]⟩
  simp only [EY, if_true, if_false, Nat.reduceAdd, Option.bind_some, kaQ_r, decide_eq_true n3, Bool.not_true, ne_int, ne_bool, ne_str]
  exact ⟨rfl, by rw [decide_eq_true (by cases x; cases y; simp only [DTag.mk.injEq]; exact ⟨n1, n2, n3⟩)]⟩
theorem kcn_T (β : Bool) (x : DSent) (hx : x.ok 1048576) (h : AH) : T Tryz.prog Γ Fn.kcn [.agg (x.c β)] h (Fresh h [.a x.cd]) := by
  refine T.freshA (kcn_e (aw_sound tabOK mixed [] _ _ _ ?_))
  unfold kcn_c DSent.c
  simp only [EY, if_true, if_false, Nat.reduceAdd, Option.bind_some, kcn_r]
  refine TCall.ref (by simp only [EO]) (kcr_T β x.args (hx.2) _) ?_
  intro v1 h1 q1
  obtain ⟨n1, f1, rfl, o1, nd1, b1⟩ := q1.one
  obtain ⟨c1a, c1b, c1c, c1d⟩ := o1.cell
  simp only [EY, if_true, if_false, Nat.reduceAdd, Option.bind_some, c1a, c1b, c1c, c1d, kcn_r]
  refine TCall.val (by simp only [EO]) (kcp_T β x.tag _) ?_
  simp only [EY, if_true, if_false, Nat.reduceAdd, Option.bind_some, DTag.c, c1a, c1b, c1c, c1d, kcn_r]
  refine ⟨by simp only [EO, outOK, c1a, c1b, c1c, c1d], _, n1, _, rfl, by simp, (.i (.s (.o o1 (.i (.i (.i (.i .nil))))))), ?_, ?_⟩
  · simpa using nd1
  · simpa using b1
theorem kco_T (β : Bool) (l : List DSent) (hl : l.length ≤ 1048576) (ho : ∀ x ∈ l, x.ok 1048576) (h : AH) : T Tryz.prog Γ Fn.kco [.vs β 7 false (l.map (DSent.c β))] h (Fresh h [.c (.sl 7 (l.map DSent.cd))]) :=
  toS_own (szs := 7) (sz := 7) (bytes := 80) (z := [.int .i64 0, .str ⟨#[]⟩, .nils, .int .i64 0, .int .i64 0, .int .i64 0, .int .i64 0]) (f := Fn.kcn) tabOK mixed (fun hw => kco_e hw) (by simp [maxMade]; omega) rfl rfl (fun x _ => ⟨rfl, rfl⟩) (fun x _ => rfl) (fun x hx H => kcn_T β x (ho x hx) H)
theorem kbS_T (β : Bool) (x : DSent) (hx : x.ok maxLen) (left : Int) (h0 : 0 ≤ left) (h1 : left ≤ 1048576) (h : AH) : T Tryz.prog Γ Fn.kbS [.agg (x.c β), .int .i64 left] h fun v h' => v = .int .i64 (x.szf left) ∧ h' = h := by
  have hml : maxLen ≤ 9223372036854775807 := by decide
  refine kbS_e (aw_sound tabOK mixed [] _ _ _ ?_)
  unfold kbS_c DSent.c
  simp only [EY, if_true, if_false, Nat.reduceAdd, Option.bind_some, kbS_r, len_str]
  have hs1 : x.name.size ≤ maxLen := hx.1
  rw [wrap_nat (by omega) (by omega)]
  by_cases n1 : (left - (x.name.size : Int)) < 0
  · simp only [EY, if_true, if_false, Nat.reduceAdd, Option.bind_some, kbS_r, decide_eq_true n1]
    exact ⟨rfl, by simp only [DSent.szf, n1, if_true, if_false]⟩
  simp only [EY, if_true, if_false, Nat.reduceAdd, Option.bind_some, kbS_r, decide_eq_false n1, len_str]
  refine TCall.val (by simp only [EO]) (kbU_T β x.args (hx.2) _ (by omega) (by omega) _) ?_
  simp only [EY, if_true, if_false, Nat.reduceAdd, Option.bind_some, kbS_r, len_str]
  by_cases n2 : (szN x.args (left - (x.name.size : Int))) < 0
  · simp only [EY, if_true, if_false, Nat.reduceAdd, Option.bind_some, kbS_r, decide_eq_true n2]
    exact ⟨rfl, by simp only [DSent.szf, n2, if_true, if_false, n1]⟩
  simp only [EY, if_true, if_false, Nat.reduceAdd, Option.bind_some, kbS_r, decide_eq_false n2, len_str]
  have q2 := (szN_ok (Int.not_lt.1 n2)).2
  exact ⟨rfl, by simp only [DSent.szf, if_false, n1, n2]⟩
theorem kbT_T (β : Bool) (l : List DSent) (hl : l.length ≤ maxLen) (ho : ∀ x ∈ l, x.ok maxLen) (left : Int) (h0 : 0 ≤ left) (h1 : left ≤ 1048576) (h : AH) : T Tryz.prog Γ Fn.kbT [.vs β 7 false (l.map (DSent.c β)), .int .i64 left] h fun v h' => v = .int .i64 (szL DSent.szf l left) ∧ h' = h :=
  szS_T (f := Fn.kbS) tabOK mixed (fun hw => kbT_e hw) h0 h1 hl (fun x => ⟨rfl, rfl⟩) (fun x left a b c => (DSent.szf_ok x left a b c).2) (fun x hx left a b => kbS_T β x (ho x hx) left a b h)
theorem kaO_T (β β' : Bool) (x y : DSent) (hx : x.ok 1073741824) (h : AH) : T Tryz.prog Γ Fn.kaO [.agg (x.c β), .agg (y.c β')] h fun v h' => v = .bool (decide (x = y)) ∧ h' = h := by
  refine kaO_e (aw_sound tabOK mixed [] _ _ _ ?_)
  unfold kaO_c DSent.c
  simp only [EY, if_true, if_false, Nat.reduceAdd, Option.bind_some, kaO_r, ne_int, ne_bool, ne_str]
  by_cases n1 : x.target = y.target
  rotate_left
  · simp only [EY, if_true, if_false, Nat.reduceAdd, Option.bind_some, kaO_r, decide_eq_false n1, Bool.not_false]
    exact ⟨rfl, by rw [decide_eq_false (fun e => n1 (by rw [e]))]⟩
  simp only [EY, if_true, if_false, Nat.reduceAdd, Option.bind_some, kaO_r, decide_eq_true n1, Bool.not_true, ne_int, ne_bool, ne_str]
  by_cases n2 : x.name = y.name
  rotate_left
  · simp only [EY, if_true, if_false, Nat.reduceAdd, Option.bind_some, kaO_r, decide_eq_false n2, Bool.not_false]
    exact ⟨rfl, by rw [decide_eq_false (fun e => n2 (by rw [e]))]⟩
  simp only [EY, if_true, if_false, Nat.reduceAdd, Option.bind_some, kaO_r, decide_eq_true n2, Bool.not_true, ne_int, ne_bool, ne_str]
  refine TCall.val (by simp only [EO]) (kaS_T β β' x.args y.args (hx.2) _) ?_
  simp only [EY, if_true, if_false, Nat.reduceAdd, Option.bind_some, kaO_r, ne_int, ne_bool, ne_str]
  by_cases n3 : x.args = y.args
  rotate_left
  · simp only [EY, if_true, if_false, Nat.reduceAdd, Option.bind_some, kaO_r, decide_eq_false n3, Bool.not_false]
    exact ⟨rfl, by rw [decide_eq_false (fun e => n3 (by rw [e]))]⟩
  simp only [EY, if_true, if_false, Nat.reduceAdd, Option.bind_some, kaO_r, decide_eq_true n3, Bool.not_true, ne_int, ne_bool, ne_str]
  by_cases n4 : x.result = y.result
  rotate_left
  · simp only [EY, if_true, if_false, Nat.reduceAdd, Option.bind_some, kaO_r, decide_eq_false n4, Bool.not_false]
    exact ⟨rfl, by rw [decide_eq_false (fun e => n4 (by rw [e]))]⟩
  simp only [EY, if_true, if_false, Nat.reduceAdd, Option.bind_some, kaO_r, decide_eq_true n4, Bool.not_true, ne_int, ne_bool, ne_str]
  refine TCall.val (by simp only [EO]) (kaQ_T β β' x.tag y.tag _) ?_
  simp only [EY, if_true, if_false, Nat.reduceAdd, Option.bind_some, kaO_r, ne_int, ne_bool, ne_str]
  by_cases n5 : x.tag = y.tag
  rotate_left
  · simp only [EY, if_true, if_false, Nat.reduceAdd, Option.bind_some, kaO_r, decide_eq_false n5, Bool.not_false]
    exact ⟨rfl, by rw [decide_eq_false (fun e => n5 (by rw [e]))]⟩
  simp only [EY, if_true, if_false, Nat.reduceAdd, Option.bind_some, kaO_r, decide_eq_true n5, Bool.not_true, ne_int, ne_bool, ne_str]
  exact ⟨rfl, by rw [decide_eq_true (by cases x; cases y; simp only [DSent.mk.injEq]; exact ⟨n1, n2, n3, n4, n5⟩)]⟩
theorem kaP_T (β β' : Bool) (l m : List DSent) (hl : l.length ≤ 1073741824) (ho : ∀ x ∈ l, x.ok 1073741824) (h : AH) : T Tryz.prog Γ Fn.kaP [.vs β 7 false (l.map (DSent.c β)), .vs β' 7 false (m.map (DSent.c β'))] h fun v h' => v = .bool (decide (l = m)) ∧ h' = h :=
  eqS_D (f := Fn.kaO) tabOK mixed (fun hw => kaP_e hw) (by omega) (fun x => ⟨rfl, rfl⟩) (fun x => ⟨rfl, rfl⟩) (fun x hx y _ => kaO_T β β' x y (ho x hx) h)
theorem kbZ_T (β : Bool) (x : DAsker) (h : AH) : T Tryz.prog Γ Fn.kbZ [.agg (x.c β)] h fun v h' => v = .agg (x.c false) ∧ h' = h := by
  refine kbZ_e (aw_sound tabOK mixed [] _ _ _ ?_)
  unfold kbZ_c DAsker.c
  simp only [EY, if_true, if_false, Nat.reduceAdd, Option.bind_some, kbZ_r]
  exact rfl
theorem kb0_T (β : Bool) (l : List DAsker) (hl : l.length ≤ 1048576) (h : AH) : T Tryz.prog Γ Fn.kb0 [.vs β 2 false (l.map (DAsker.c β))] h (Fresh h [.c (.sl 2 (l.map DAsker.cd))]) :=
  toS_own (szs := 2) (sz := 2) (bytes := 16) (z := [.int .i64 0, .int .i64 0]) (f := Fn.kbZ) tabOK mixed (fun hw => kb0_e hw) (by simp [maxMade]; omega) rfl rfl (fun x _ => ⟨rfl, rfl⟩) (fun x _ => rfl) (fun x hx H => (kbZ_T β x H).flat (cs := x.cd) (by simp [DAsker.cd, CD.flat]) (by rw [DAsker.c_eq]))
theorem kby_T (β : Bool) (l : List DAsker) (hl : l.length ≤ maxLen) (left : Int) (h0 : 0 ≤ left) (h1 : left ≤ 1048576) (h : AH) : T Tryz.prog Γ Fn.kby [.vs β 2 false (l.map (DAsker.c β)), .int .i64 left] h fun v h' => v = .int .i64 (szN l left) ∧ h' = h :=
  szF_T tabOK mixed (fun hw => kby_e hw) h0 h1 hl
theorem kaq_T (β β' : Bool) (x y : DAsker) (h : AH) : T Tryz.prog Γ Fn.kaq [.agg (x.c β), .agg (y.c β')] h fun v h' => v = .bool (decide (x = y)) ∧ h' = h := by
  refine kaq_e (aw_sound tabOK mixed [] _ _ _ ?_)
  unfold kaq_c DAsker.c
  simp only [EY, if_true, if_false, Nat.reduceAdd, Option.bind_some, kaq_r, ne_int, ne_bool, ne_str]
  by_cases n1 : x.peer = y.peer
  rotate_left
  · simp only [EY, if_true, if_false, Nat.reduceAdd, Option.bind_some, kaq_r, decide_eq_false n1, Bool.not_false]
    exact ⟨rfl, by rw [decide_eq_false (fun e => n1 (by rw [e]))]⟩
  simp only [EY, if_true, if_false, Nat.reduceAdd, Option.bind_some, kaq_r, decide_eq_true n1, Bool.not_true, ne_int, ne_bool, ne_str]
  by_cases n2 : x.question = y.question
  rotate_left
  · simp only [EY, if_true, if_false, Nat.reduceAdd, Option.bind_some, kaq_r, decide_eq_false n2, Bool.not_false]
    exact ⟨rfl, by rw [decide_eq_false (fun e => n2 (by rw [e]))]⟩
  simp only [EY, if_true, if_false, Nat.reduceAdd, Option.bind_some, kaq_r, decide_eq_true n2, Bool.not_true, ne_int, ne_bool, ne_str]
  exact ⟨rfl, by rw [decide_eq_true (by cases x; cases y; simp only [DAsker.mk.injEq]; exact ⟨n1, n2⟩)]⟩
theorem kar_T (β β' : Bool) (l m : List DAsker) (hl : l.length ≤ 1073741824) (h : AH) : T Tryz.prog Γ Fn.kar [.vs β 2 false (l.map (DAsker.c β)), .vs β' 2 false (m.map (DAsker.c β'))] h fun v h' => v = .bool (decide (l = m)) ∧ h' = h :=
  eqS_D (f := Fn.kaq) tabOK mixed (fun hw => kar_e hw) (by omega) (fun x => ⟨rfl, rfl⟩) (fun x => ⟨rfl, rfl⟩) (fun x hx y _ => kaq_T β β' x y h)
theorem kb3_T (β : Bool) (x : DEntity) (hx : x.ok 1048576) (h : AH) : T Tryz.prog Γ Fn.kb3 [.agg (x.c β)] h (Fresh h [.a x.cd]) := by
  refine T.freshA (kb3_e (aw_sound tabOK mixed [] _ _ _ ?_))
  unfold kb3_c DEntity.c
  simp only [EY, if_true, if_false, Nat.reduceAdd, Option.bind_some, kb3_r]
  refine TCall.ref (by simp only [EO]) (kcr_T β x.slots (hx.1) _) ?_
  intro v1 h1 q1
  obtain ⟨n1, f1, rfl, o1, nd1, b1⟩ := q1.one
  obtain ⟨c1a, c1b, c1c, c1d⟩ := o1.cell
  simp only [EY, if_true, if_false, Nat.reduceAdd, Option.bind_some, c1a, c1b, c1c, c1d, kb3_r]
  refine TCall.val (by simp only [EO]) (kcq_T β x.value _) ?_
  simp only [EY, if_true, if_false, Nat.reduceAdd, Option.bind_some, DValue.c, c1a, c1b, c1c, c1d, kb3_r]
  refine TCall.ref (by simp only [EO]) (kco_T β x.queue (hx.2.1) (hx.2.2.1) _) ?_
  intro v2 h2 q2
  obtain ⟨n2, f2, rfl, o2, nd2, b2⟩ := q2.one
  obtain ⟨c2a, c2b, c2c, c2d⟩ := o2.cell
  simp only [EY, if_true, if_false, Nat.reduceAdd, Option.bind_some, c1a, c1b, c1c, c1d, c2a, c2b, c2c, c2d, kb3_r]
  refine TCall.ref (by simp only [EO]) (kb0_T β x.askers (hx.2.2.2) _) ?_
  intro v3 h3 q3
  obtain ⟨n3, f3, rfl, o3, nd3, b3⟩ := q3.one
  obtain ⟨c3a, c3b, c3c, c3d⟩ := o3.cell
  simp only [EY, if_true, if_false, Nat.reduceAdd, Option.bind_some, c1a, c1b, c1c, c1d, c2a, c2b, c2c, c2d, c3a, c3b, c3c, c3d, kb3_r]
  refine ⟨by simp only [EO, outOK, c1a, c1b, c1c, c1d, c2a, c2b, c2c, c2d, c3a, c3b, c3c, c3d], _, n1 ++ n2 ++ n3, _, rfl, by simp, (.i (.i (.o o1.grow.grow (.i (.i (.i (.o o2.grow (.o o3 (.i (.i (.i (.i .nil)))))))))))), ?_, ?_⟩
  · simp only [List.append_nil]
    exact nodup_app nd1 (nodup_app nd2 (nd3) (fun b hb => o2.lt b hb) (fun b hb => by (try simp only [List.mem_append] at hb); first | (have := b3 b hb; simp only [List.length_append] at this ⊢; omega))) (fun b hb => o1.lt b hb) (fun b hb => by (try simp only [List.mem_append] at hb); rcases hb with hb | hb <;> first | (have := b2 b hb; simp only [List.length_append] at this ⊢; omega) | (have := b3 b hb; simp only [List.length_append] at this ⊢; omega))
  · intro b hb
    simp only [List.append_nil, List.mem_append] at hb
    rcases hb with hb | hb | hb <;> first | (have := b1 b hb; simp only [List.length_append] at this ⊢; omega) | (have := b2 b hb; simp only [List.length_append] at this ⊢; omega) | (have := b3 b hb; simp only [List.length_append] at this ⊢; omega)
theorem kb4_T (β : Bool) (l : List DEntity) (hl : l.length ≤ 1048576) (ho : ∀ x ∈ l, x.ok 1048576) (h : AH) : T Tryz.prog Γ Fn.kb4 [.vs β 12 false (l.map (DEntity.c β))] h (Fresh h [.c (.sl 12 (l.map DEntity.cd))]) :=
  toS_own (szs := 12) (sz := 12) (bytes := 144) (z := [.int .i64 0, .int .i64 0, .nils, .int .i64 0, .int .i64 0, .int .i64 0, .nils, .nils, .int .i64 0, .int .i64 0, .int .i64 0, .int .i64 0]) (f := Fn.kb3) tabOK mixed (fun hw => kb4_e hw) (by simp [maxMade]; omega) rfl rfl (fun x _ => ⟨rfl, rfl⟩) (fun x _ => rfl) (fun x hx H => kb3_T β x (ho x hx) H)
theorem kbB_T (β : Bool) (x : DEntity) (hx : x.ok maxLen) (left : Int) (h0 : 0 ≤ left) (h1 : left ≤ 1048576) (h : AH) : T Tryz.prog Γ Fn.kbB [.agg (x.c β), .int .i64 left] h fun v h' => v = .int .i64 (x.szf left) ∧ h' = h := by
  have hml : maxLen ≤ 9223372036854775807 := by decide
  refine kbB_e (aw_sound tabOK mixed [] _ _ _ ?_)
  unfold kbB_c DEntity.c
  simp only [EY, if_true, if_false, Nat.reduceAdd, Option.bind_some, kbB_r, len_str]
  refine TCall.val (by simp only [EO]) (kbU_T β x.slots (hx.1) _ (by omega) (by omega) _) ?_
  simp only [EY, if_true, if_false, Nat.reduceAdd, Option.bind_some, kbB_r, len_str]
  by_cases n1 : (szN x.slots left) < 0
  · simp only [EY, if_true, if_false, Nat.reduceAdd, Option.bind_some, kbB_r, decide_eq_true n1]
    exact ⟨rfl, by simp only [DEntity.szf, n1, if_true, if_false]⟩
  simp only [EY, if_true, if_false, Nat.reduceAdd, Option.bind_some, kbB_r, decide_eq_false n1, len_str]
  have q1 := (szN_ok (Int.not_lt.1 n1)).2
  refine TCall.val (by simp only [EO]) (kbT_T β x.queue (hx.2.1) (hx.2.2.1) _ (by omega) (by omega) _) ?_
  simp only [EY, if_true, if_false, Nat.reduceAdd, Option.bind_some, kbB_r, len_str]
  by_cases n2 : (szL DSent.szf x.queue (szN x.slots left)) < 0
  · simp only [EY, if_true, if_false, Nat.reduceAdd, Option.bind_some, kbB_r, decide_eq_true n2]
    exact ⟨rfl, by simp only [DEntity.szf, n2, if_true, if_false, n1]⟩
  simp only [EY, if_true, if_false, Nat.reduceAdd, Option.bind_some, kbB_r, decide_eq_false n2, len_str]
  have q2 := (szL_ok (Q := DSent.ok 1048576) (B := 1048576) (fun x left a b c => DSent.szf_ok x left a b c) (by omega) (by omega) (Int.not_lt.1 n2)).2
  refine TCall.val (by simp only [EO]) (kby_T β x.askers (hx.2.2.2) _ (by omega) (by omega) _) ?_
  simp only [EY, if_true, if_false, Nat.reduceAdd, Option.bind_some, kbB_r, len_str]
  by_cases n3 : (szN x.askers (szL DSent.szf x.queue (szN x.slots left))) < 0
  · simp only [EY, if_true, if_false, Nat.reduceAdd, Option.bind_some, kbB_r, decide_eq_true n3]
    exact ⟨rfl, by simp only [DEntity.szf, n3, if_true, if_false, n1, n2]⟩
  simp only [EY, if_true, if_false, Nat.reduceAdd, Option.bind_some, kbB_r, decide_eq_false n3, len_str]
  have q3 := (szN_ok (Int.not_lt.1 n3)).2
  exact ⟨rfl, by simp only [DEntity.szf, if_false, n1, n2, n3]⟩
theorem kbC_T (β : Bool) (l : List DEntity) (hl : l.length ≤ maxLen) (ho : ∀ x ∈ l, x.ok maxLen) (left : Int) (h0 : 0 ≤ left) (h1 : left ≤ 1048576) (h : AH) : T Tryz.prog Γ Fn.kbC [.vs β 12 false (l.map (DEntity.c β)), .int .i64 left] h fun v h' => v = .int .i64 (szL DEntity.szf l left) ∧ h' = h :=
  szS_T (f := Fn.kbB) tabOK mixed (fun hw => kbC_e hw) h0 h1 hl (fun x => ⟨rfl, rfl⟩) (fun x left a b c => (DEntity.szf_ok x left a b c).2) (fun x hx left a b => kbB_T β x (ho x hx) left a b h)
theorem kau_T (β β' : Bool) (x y : DEntity) (hx : x.ok 1073741824) (h : AH) : T Tryz.prog Γ Fn.kau [.agg (x.c β), .agg (y.c β')] h fun v h' => v = .bool (decide (x = y)) ∧ h' = h := by
  refine kau_e (aw_sound tabOK mixed [] _ _ _ ?_)
  unfold kau_c DEntity.c
  simp only [EY, if_true, if_false, Nat.reduceAdd, Option.bind_some, kau_r, ne_int, ne_bool, ne_str]
  by_cases n1 : x.kind = y.kind
  rotate_left
  · simp only [EY, if_true, if_false, Nat.reduceAdd, Option.bind_some, kau_r, decide_eq_false n1, Bool.not_false]
    exact ⟨rfl, by rw [decide_eq_false (fun e => n1 (by rw [e]))]⟩
  simp only [EY, if_true, if_false, Nat.reduceAdd, Option.bind_some, kau_r, decide_eq_true n1, Bool.not_true, ne_int, ne_bool, ne_str]
  by_cases n2 : x.script = y.script
  rotate_left
  · simp only [EY, if_true, if_false, Nat.reduceAdd, Option.bind_some, kau_r, decide_eq_false n2, Bool.not_false]
    exact ⟨rfl, by rw [decide_eq_false (fun e => n2 (by rw [e]))]⟩
  simp only [EY, if_true, if_false, Nat.reduceAdd, Option.bind_some, kau_r, decide_eq_true n2, Bool.not_true, ne_int, ne_bool, ne_str]
  refine TCall.val (by simp only [EO]) (kaS_T β β' x.slots y.slots (hx.1) _) ?_
  simp only [EY, if_true, if_false, Nat.reduceAdd, Option.bind_some, kau_r, ne_int, ne_bool, ne_str]
  by_cases n3 : x.slots = y.slots
  rotate_left
  · simp only [EY, if_true, if_false, Nat.reduceAdd, Option.bind_some, kau_r, decide_eq_false n3, Bool.not_false]
    exact ⟨rfl, by rw [decide_eq_false (fun e => n3 (by rw [e]))]⟩
  simp only [EY, if_true, if_false, Nat.reduceAdd, Option.bind_some, kau_r, decide_eq_true n3, Bool.not_true, ne_int, ne_bool, ne_str]
  by_cases n4 : x.state = y.state
  rotate_left
  · simp only [EY, if_true, if_false, Nat.reduceAdd, Option.bind_some, kau_r, decide_eq_false n4, Bool.not_false]
    exact ⟨rfl, by rw [decide_eq_false (fun e => n4 (by rw [e]))]⟩
  simp only [EY, if_true, if_false, Nat.reduceAdd, Option.bind_some, kau_r, decide_eq_true n4, Bool.not_true, ne_int, ne_bool, ne_str]
  refine TCall.val (by simp only [EO]) (kaR_T β β' x.value y.value _) ?_
  simp only [EY, if_true, if_false, Nat.reduceAdd, Option.bind_some, kau_r, ne_int, ne_bool, ne_str]
  by_cases n5 : x.value = y.value
  rotate_left
  · simp only [EY, if_true, if_false, Nat.reduceAdd, Option.bind_some, kau_r, decide_eq_false n5, Bool.not_false]
    exact ⟨rfl, by rw [decide_eq_false (fun e => n5 (by rw [e]))]⟩
  simp only [EY, if_true, if_false, Nat.reduceAdd, Option.bind_some, kau_r, decide_eq_true n5, Bool.not_true, ne_int, ne_bool, ne_str]
  refine TCall.val (by simp only [EO]) (kaP_T β β' x.queue y.queue (hx.2.1) (hx.2.2.1) _) ?_
  simp only [EY, if_true, if_false, Nat.reduceAdd, Option.bind_some, kau_r, ne_int, ne_bool, ne_str]
  by_cases n6 : x.queue = y.queue
  rotate_left
  · simp only [EY, if_true, if_false, Nat.reduceAdd, Option.bind_some, kau_r, decide_eq_false n6, Bool.not_false]
    exact ⟨rfl, by rw [decide_eq_false (fun e => n6 (by rw [e]))]⟩
  simp only [EY, if_true, if_false, Nat.reduceAdd, Option.bind_some, kau_r, decide_eq_true n6, Bool.not_true, ne_int, ne_bool, ne_str]
  refine TCall.val (by simp only [EO]) (kar_T β β' x.askers y.askers (hx.2.2.2) _) ?_
  simp only [EY, if_true, if_false, Nat.reduceAdd, Option.bind_some, kau_r, ne_int, ne_bool, ne_str]
  by_cases n7 : x.askers = y.askers
  rotate_left
  · simp only [EY, if_true, if_false, Nat.reduceAdd, Option.bind_some, kau_r, decide_eq_false n7, Bool.not_false]
    exact ⟨rfl, by rw [decide_eq_false (fun e => n7 (by rw [e]))]⟩
  simp only [EY, if_true, if_false, Nat.reduceAdd, Option.bind_some, kau_r, decide_eq_true n7, Bool.not_true, ne_int, ne_bool, ne_str]
  by_cases n8 : x.peer = y.peer
  rotate_left
  · simp only [EY, if_true, if_false, Nat.reduceAdd, Option.bind_some, kau_r, decide_eq_false n8, Bool.not_false]
    exact ⟨rfl, by rw [decide_eq_false (fun e => n8 (by rw [e]))]⟩
  simp only [EY, if_true, if_false, Nat.reduceAdd, Option.bind_some, kau_r, decide_eq_true n8, Bool.not_true, ne_int, ne_bool, ne_str]
  by_cases n9 : x.pos = y.pos
  rotate_left
  · simp only [EY, if_true, if_false, Nat.reduceAdd, Option.bind_some, kau_r, decide_eq_false n9, Bool.not_false]
    exact ⟨rfl, by rw [decide_eq_false (fun e => n9 (by rw [e]))]⟩
  simp only [EY, if_true, if_false, Nat.reduceAdd, Option.bind_some, kau_r, decide_eq_true n9, Bool.not_true, ne_int, ne_bool, ne_str]
  by_cases n10 : x.count = y.count
  rotate_left
  · simp only [EY, if_true, if_false, Nat.reduceAdd, Option.bind_some, kau_r, decide_eq_false n10, Bool.not_false]
    exact ⟨rfl, by rw [decide_eq_false (fun e => n10 (by rw [e]))]⟩
  simp only [EY, if_true, if_false, Nat.reduceAdd, Option.bind_some, kau_r, decide_eq_true n10, Bool.not_true, ne_int, ne_bool, ne_str]
  by_cases n11 : x.sent = y.sent
  rotate_left
  · simp only [EY, if_true, if_false, Nat.reduceAdd, Option.bind_some, kau_r, decide_eq_false n11, Bool.not_false]
    exact ⟨rfl, by rw [decide_eq_false (fun e => n11 (by rw [e]))]⟩
  simp only [EY, if_true, if_false, Nat.reduceAdd, Option.bind_some, kau_r, decide_eq_true n11, Bool.not_true, ne_int, ne_bool, ne_str]
  exact ⟨rfl, by rw [decide_eq_true (by cases x; cases y; simp only [DEntity.mk.injEq]; exact ⟨n1, n2, n3, n4, n5, n6, n7, n8, n9, n10, n11⟩)]⟩
theorem kav_T (β β' : Bool) (l m : List DEntity) (hl : l.length ≤ 1073741824) (ho : ∀ x ∈ l, x.ok 1073741824) (h : AH) : T Tryz.prog Γ Fn.kav [.vs β 12 false (l.map (DEntity.c β)), .vs β' 12 false (m.map (DEntity.c β'))] h fun v h' => v = .bool (decide (l = m)) ∧ h' = h :=
  eqS_D (f := Fn.kau) tabOK mixed (fun hw => kav_e hw) (by omega) (fun x => ⟨rfl, rfl⟩) (fun x => ⟨rfl, rfl⟩) (fun x hx y _ => kau_T β β' x y (ho x hx) h)
theorem kb5_T (β : Bool) (x : DExport) (h : AH) : T Tryz.prog Γ Fn.kb5 [.agg (x.c β)] h fun v h' => v = .agg (x.c false) ∧ h' = h := by
  refine kb5_e (aw_sound tabOK mixed [] _ _ _ ?_)
  unfold kb5_c DExport.c
  simp only [EY, if_true, if_false, Nat.reduceAdd, Option.bind_some, kb5_r]
  exact rfl
theorem kb6_T (β : Bool) (l : List DExport) (hl : l.length ≤ 1048576) (h : AH) : T Tryz.prog Γ Fn.kb6 [.vs β 3 false (l.map (DExport.c β))] h (Fresh h [.c (.sl 3 (l.map DExport.cd))]) :=
  toS_own (szs := 3) (sz := 3) (bytes := 24) (z := [.int .i64 0, .int .i64 0, .int .i64 0]) (f := Fn.kb5) tabOK mixed (fun hw => kb6_e hw) (by simp [maxMade]; omega) rfl rfl (fun x _ => ⟨rfl, rfl⟩) (fun x _ => rfl) (fun x hx H => (kb5_T β x H).flat (cs := x.cd) (by simp [DExport.cd, CD.flat]) (by rw [DExport.c_eq]))
theorem kbD_T (β : Bool) (l : List DExport) (hl : l.length ≤ maxLen) (left : Int) (h0 : 0 ≤ left) (h1 : left ≤ 1048576) (h : AH) : T Tryz.prog Γ Fn.kbD [.vs β 3 false (l.map (DExport.c β)), .int .i64 left] h fun v h' => v = .int .i64 (szN l left) ∧ h' = h :=
  szF_T tabOK mixed (fun hw => kbD_e hw) h0 h1 hl
theorem kaw_T (β β' : Bool) (x y : DExport) (h : AH) : T Tryz.prog Γ Fn.kaw [.agg (x.c β), .agg (y.c β')] h fun v h' => v = .bool (decide (x = y)) ∧ h' = h := by
  refine kaw_e (aw_sound tabOK mixed [] _ _ _ ?_)
  unfold kaw_c DExport.c
  simp only [EY, if_true, if_false, Nat.reduceAdd, Option.bind_some, kaw_r, ne_int, ne_bool, ne_str]
  by_cases n1 : x.pos = y.pos
  rotate_left
  · simp only [EY, if_true, if_false, Nat.reduceAdd, Option.bind_some, kaw_r, decide_eq_false n1, Bool.not_false]
    exact ⟨rfl, by rw [decide_eq_false (fun e => n1 (by rw [e]))]⟩
  simp only [EY, if_true, if_false, Nat.reduceAdd, Option.bind_some, kaw_r, decide_eq_true n1, Bool.not_true, ne_int, ne_bool, ne_str]
  by_cases n2 : x.entity = y.entity
  rotate_left
  · simp only [EY, if_true, if_false, Nat.reduceAdd, Option.bind_some, kaw_r, decide_eq_false n2, Bool.not_false]
    exact ⟨rfl, by rw [decide_eq_false (fun e => n2 (by rw [e]))]⟩
  simp only [EY, if_true, if_false, Nat.reduceAdd, Option.bind_some, kaw_r, decide_eq_true n2, Bool.not_true, ne_int, ne_bool, ne_str]
  by_cases n3 : x.count = y.count
  rotate_left
  · simp only [EY, if_true, if_false, Nat.reduceAdd, Option.bind_some, kaw_r, decide_eq_false n3, Bool.not_false]
    exact ⟨rfl, by rw [decide_eq_false (fun e => n3 (by rw [e]))]⟩
  simp only [EY, if_true, if_false, Nat.reduceAdd, Option.bind_some, kaw_r, decide_eq_true n3, Bool.not_true, ne_int, ne_bool, ne_str]
  exact ⟨rfl, by rw [decide_eq_true (by cases x; cases y; simp only [DExport.mk.injEq]; exact ⟨n1, n2, n3⟩)]⟩
theorem kax_T (β β' : Bool) (l m : List DExport) (hl : l.length ≤ 1073741824) (h : AH) : T Tryz.prog Γ Fn.kax [.vs β 3 false (l.map (DExport.c β)), .vs β' 3 false (m.map (DExport.c β'))] h fun v h' => v = .bool (decide (l = m)) ∧ h' = h :=
  eqS_D (f := Fn.kaw) tabOK mixed (fun hw => kax_e hw) (by omega) (fun x => ⟨rfl, rfl⟩) (fun x => ⟨rfl, rfl⟩) (fun x hx y _ => kaw_T β β' x y h)
theorem kcj_T (β : Bool) (x : DQuestion) (h : AH) : T Tryz.prog Γ Fn.kcj [.agg (x.c β)] h fun v h' => v = .agg (x.c false) ∧ h' = h := by
  refine kcj_e (aw_sound tabOK mixed [] _ _ _ ?_)
  unfold kcj_c DQuestion.c
  simp only [EY, if_true, if_false, Nat.reduceAdd, Option.bind_some, kcj_r]
  exact rfl
theorem kck_T (β : Bool) (l : List DQuestion) (hl : l.length ≤ 1048576) (h : AH) : T Tryz.prog Γ Fn.kck [.vs β 2 false (l.map (DQuestion.c β))] h (Fresh h [.c (.sl 2 (l.map DQuestion.cd))]) :=
  toS_own (szs := 2) (sz := 2) (bytes := 16) (z := [.int .i64 0, .int .i64 0]) (f := Fn.kcj) tabOK mixed (fun hw => kck_e hw) (by simp [maxMade]; omega) rfl rfl (fun x _ => ⟨rfl, rfl⟩) (fun x _ => rfl) (fun x hx H => (kcj_T β x H).flat (cs := x.cd) (by simp [DQuestion.cd, CD.flat]) (by rw [DQuestion.c_eq]))
theorem kbP_T (β : Bool) (l : List DQuestion) (hl : l.length ≤ maxLen) (left : Int) (h0 : 0 ≤ left) (h1 : left ≤ 1048576) (h : AH) : T Tryz.prog Γ Fn.kbP [.vs β 2 false (l.map (DQuestion.c β)), .int .i64 left] h fun v h' => v = .int .i64 (szN l left) ∧ h' = h :=
  szF_T tabOK mixed (fun hw => kbP_e hw) h0 h1 hl
theorem kaK_T (β β' : Bool) (x y : DQuestion) (h : AH) : T Tryz.prog Γ Fn.kaK [.agg (x.c β), .agg (y.c β')] h fun v h' => v = .bool (decide (x = y)) ∧ h' = h := by
  refine kaK_e (aw_sound tabOK mixed [] _ _ _ ?_)
  unfold kaK_c DQuestion.c
  simp only [EY, if_true, if_false, Nat.reduceAdd, Option.bind_some, kaK_r, ne_int, ne_bool, ne_str]
  by_cases n1 : x.id = y.id
  rotate_left
  · simp only [EY, if_true, if_false, Nat.reduceAdd, Option.bind_some, kaK_r, decide_eq_false n1, Bool.not_false]
    exact ⟨rfl, by rw [decide_eq_false (fun e => n1 (by rw [e]))]⟩
  simp only [EY, if_true, if_false, Nat.reduceAdd, Option.bind_some, kaK_r, decide_eq_true n1, Bool.not_true, ne_int, ne_bool, ne_str]
  by_cases n2 : x.promise = y.promise
  rotate_left
  · simp only [EY, if_true, if_false, Nat.reduceAdd, Option.bind_some, kaK_r, decide_eq_false n2, Bool.not_false]
    exact ⟨rfl, by rw [decide_eq_false (fun e => n2 (by rw [e]))]⟩
  simp only [EY, if_true, if_false, Nat.reduceAdd, Option.bind_some, kaK_r, decide_eq_true n2, Bool.not_true, ne_int, ne_bool, ne_str]
  exact ⟨rfl, by rw [decide_eq_true (by cases x; cases y; simp only [DQuestion.mk.injEq]; exact ⟨n1, n2⟩)]⟩
theorem kaL_T (β β' : Bool) (l m : List DQuestion) (hl : l.length ≤ 1073741824) (h : AH) : T Tryz.prog Γ Fn.kaL [.vs β 2 false (l.map (DQuestion.c β)), .vs β' 2 false (m.map (DQuestion.c β'))] h fun v h' => v = .bool (decide (l = m)) ∧ h' = h :=
  eqS_D (f := Fn.kaK) tabOK mixed (fun hw => kaL_e hw) (by omega) (fun x => ⟨rfl, rfl⟩) (fun x => ⟨rfl, rfl⟩) (fun x hx y _ => kaK_T β β' x y h)
theorem kb9_T (β : Bool) (x : DLink) (hx : x.ok 1048576) (h : AH) : T Tryz.prog Γ Fn.kb9 [.agg (x.c β)] h (Fresh h [.a x.cd]) := by
  refine T.freshA (kb9_e (aw_sound tabOK mixed [] _ _ _ ?_))
  unfold kb9_c DLink.c
  simp only [EY, if_true, if_false, Nat.reduceAdd, Option.bind_some, kb9_r]
  refine TCall.ref (by simp only [EO]) (kb6_T β x.exports (hx.1) _) ?_
  intro v1 h1 q1
  obtain ⟨n1, f1, rfl, o1, nd1, b1⟩ := q1.one
  obtain ⟨c1a, c1b, c1c, c1d⟩ := o1.cell
  simp only [EY, if_true, if_false, Nat.reduceAdd, Option.bind_some, c1a, c1b, c1c, c1d, kb9_r]
  refine TCall.ref (by simp only [EO]) (kck_T β x.questions (hx.2.1) _) ?_
  intro v2 h2 q2
  obtain ⟨n2, f2, rfl, o2, nd2, b2⟩ := q2.one
  obtain ⟨c2a, c2b, c2c, c2d⟩ := o2.cell
  simp only [EY, if_true, if_false, Nat.reduceAdd, Option.bind_some, c1a, c1b, c1c, c1d, c2a, c2b, c2c, c2d, kb9_r]
  refine TCall.ref (by simp only [EO]) (kck_T β x.answers (hx.2.2) _) ?_
  intro v3 h3 q3
  obtain ⟨n3, f3, rfl, o3, nd3, b3⟩ := q3.one
  obtain ⟨c3a, c3b, c3c, c3d⟩ := o3.cell
  simp only [EY, if_true, if_false, Nat.reduceAdd, Option.bind_some, c1a, c1b, c1c, c1d, c2a, c2b, c2c, c2d, c3a, c3b, c3c, c3d, kb9_r]
  refine ⟨by simp only [EO, outOK, c1a, c1b, c1c, c1d, c2a, c2b, c2c, c2d, c3a, c3b, c3c, c3d], _, n1 ++ n2 ++ n3, _, rfl, by simp, (.i (.b (.o o1.grow.grow (.i (.o o2.grow (.i (.o o3 .nil))))))), ?_, ?_⟩
  · simp only [List.append_nil]
    exact nodup_app nd1 (nodup_app nd2 (nd3) (fun b hb => o2.lt b hb) (fun b hb => by (try simp only [List.mem_append] at hb); first | (have := b3 b hb; simp only [List.length_append] at this ⊢; omega))) (fun b hb => o1.lt b hb) (fun b hb => by (try simp only [List.mem_append] at hb); rcases hb with hb | hb <;> first | (have := b2 b hb; simp only [List.length_append] at this ⊢; omega) | (have := b3 b hb; simp only [List.length_append] at this ⊢; omega))
  · intro b hb
    simp only [List.append_nil, List.mem_append] at hb
    rcases hb with hb | hb | hb <;> first | (have := b1 b hb; simp only [List.length_append] at this ⊢; omega) | (have := b2 b hb; simp only [List.length_append] at this ⊢; omega) | (have := b3 b hb; simp only [List.length_append] at this ⊢; omega)
theorem kca_T (β : Bool) (l : List DLink) (hl : l.length ≤ 1048576) (ho : ∀ x ∈ l, x.ok 1048576) (h : AH) : T Tryz.prog Γ Fn.kca [.vs β 7 false (l.map (DLink.c β))] h (Fresh h [.c (.sl 7 (l.map DLink.cd))]) :=
  toS_own (szs := 7) (sz := 7) (bytes := 104) (z := [.int .i64 0, .bool false, .nils, .int .i64 0, .nils, .int .i64 0, .nils]) (f := Fn.kb9) tabOK mixed (fun hw => kca_e hw) (by simp [maxMade]; omega) rfl rfl (fun x _ => ⟨rfl, rfl⟩) (fun x _ => rfl) (fun x hx H => kb9_T β x (ho x hx) H)
theorem kbG_T (β : Bool) (x : DLink) (hx : x.ok maxLen) (left : Int) (h0 : 0 ≤ left) (h1 : left ≤ 1048576) (h : AH) : T Tryz.prog Γ Fn.kbG [.agg (x.c β), .int .i64 left] h fun v h' => v = .int .i64 (x.szf left) ∧ h' = h := by
  have hml : maxLen ≤ 9223372036854775807 := by decide
  refine kbG_e (aw_sound tabOK mixed [] _ _ _ ?_)
  unfold kbG_c DLink.c
  simp only [EY, if_true, if_false, Nat.reduceAdd, Option.bind_some, kbG_r, len_str]
  refine TCall.val (by simp only [EO]) (kbD_T β x.exports (hx.1) _ (by omega) (by omega) _) ?_
  simp only [EY, if_true, if_false, Nat.reduceAdd, Option.bind_some, kbG_r, len_str]
  by_cases n1 : (szN x.exports left) < 0
  · simp only [EY, if_true, if_false, Nat.reduceAdd, Option.bind_some, kbG_r, decide_eq_true n1]
    exact ⟨rfl, by simp only [DLink.szf, n1, if_true, if_false]⟩
  simp only [EY, if_true, if_false, Nat.reduceAdd, Option.bind_some, kbG_r, decide_eq_false n1, len_str]
  have q1 := (szN_ok (Int.not_lt.1 n1)).2
  refine TCall.val (by simp only [EO]) (kbP_T β x.questions (hx.2.1) _ (by omega) (by omega) _) ?_
  simp only [EY, if_true, if_false, Nat.reduceAdd, Option.bind_some, kbG_r, len_str]
  by_cases n2 : (szN x.questions (szN x.exports left)) < 0
  · simp only [EY, if_true, if_false, Nat.reduceAdd, Option.bind_some, kbG_r, decide_eq_true n2]
    exact ⟨rfl, by simp only [DLink.szf, n2, if_true, if_false, n1]⟩
  simp only [EY, if_true, if_false, Nat.reduceAdd, Option.bind_some, kbG_r, decide_eq_false n2, len_str]
  have q2 := (szN_ok (Int.not_lt.1 n2)).2
  refine TCall.val (by simp only [EO]) (kbP_T β x.answers (hx.2.2) _ (by omega) (by omega) _) ?_
  simp only [EY, if_true, if_false, Nat.reduceAdd, Option.bind_some, kbG_r, len_str]
  by_cases n3 : (szN x.answers (szN x.questions (szN x.exports left))) < 0
  · simp only [EY, if_true, if_false, Nat.reduceAdd, Option.bind_some, kbG_r, decide_eq_true n3]
    exact ⟨rfl, by simp only [DLink.szf, n3, if_true, if_false, n1, n2]⟩
  simp only [EY, if_true, if_false, Nat.reduceAdd, Option.bind_some, kbG_r, decide_eq_false n3, len_str]
  have q3 := (szN_ok (Int.not_lt.1 n3)).2
  exact ⟨rfl, by simp only [DLink.szf, if_false, n1, n2, n3]⟩
theorem kbH_T (β : Bool) (l : List DLink) (hl : l.length ≤ maxLen) (ho : ∀ x ∈ l, x.ok maxLen) (left : Int) (h0 : 0 ≤ left) (h1 : left ≤ 1048576) (h : AH) : T Tryz.prog Γ Fn.kbH [.vs β 7 false (l.map (DLink.c β)), .int .i64 left] h fun v h' => v = .int .i64 (szL DLink.szf l left) ∧ h' = h :=
  szS_T (f := Fn.kbG) tabOK mixed (fun hw => kbH_e hw) h0 h1 hl (fun x => ⟨rfl, rfl⟩) (fun x left a b c => (DLink.szf_ok x left a b c).2) (fun x hx left a b => kbG_T β x (ho x hx) left a b h)
theorem kaA_T (β β' : Bool) (x y : DLink) (hx : x.ok 1073741824) (h : AH) : T Tryz.prog Γ Fn.kaA [.agg (x.c β), .agg (y.c β')] h fun v h' => v = .bool (decide (x = y)) ∧ h' = h := by
  refine kaA_e (aw_sound tabOK mixed [] _ _ _ ?_)
  unfold kaA_c DLink.c
  simp only [EY, if_true, if_false, Nat.reduceAdd, Option.bind_some, kaA_r, ne_int, ne_bool, ne_str]
  by_cases n1 : x.peer = y.peer
  rotate_left
  · simp only [EY, if_true, if_false, Nat.reduceAdd, Option.bind_some, kaA_r, decide_eq_false n1, Bool.not_false]
    exact ⟨rfl, by rw [decide_eq_false (fun e => n1 (by rw [e]))]⟩
  simp only [EY, if_true, if_false, Nat.reduceAdd, Option.bind_some, kaA_r, decide_eq_true n1, Bool.not_true, ne_int, ne_bool, ne_str]
  by_cases n2 : x.up = y.up
  rotate_left
  · simp only [EY, if_true, if_false, Nat.reduceAdd, Option.bind_some, kaA_r, decide_eq_false n2, Bool.not_false]
    exact ⟨rfl, by rw [decide_eq_false (fun e => n2 (by rw [e]))]⟩
  simp only [EY, if_true, if_false, Nat.reduceAdd, Option.bind_some, kaA_r, decide_eq_true n2, Bool.not_true, ne_int, ne_bool, ne_str]
  refine TCall.val (by simp only [EO]) (kax_T β β' x.exports y.exports (hx.1) _) ?_
  simp only [EY, if_true, if_false, Nat.reduceAdd, Option.bind_some, kaA_r, ne_int, ne_bool, ne_str]
  by_cases n3 : x.exports = y.exports
  rotate_left
  · simp only [EY, if_true, if_false, Nat.reduceAdd, Option.bind_some, kaA_r, decide_eq_false n3, Bool.not_false]
    exact ⟨rfl, by rw [decide_eq_false (fun e => n3 (by rw [e]))]⟩
  simp only [EY, if_true, if_false, Nat.reduceAdd, Option.bind_some, kaA_r, decide_eq_true n3, Bool.not_true, ne_int, ne_bool, ne_str]
  by_cases n4 : x.next = y.next
  rotate_left
  · simp only [EY, if_true, if_false, Nat.reduceAdd, Option.bind_some, kaA_r, decide_eq_false n4, Bool.not_false]
    exact ⟨rfl, by rw [decide_eq_false (fun e => n4 (by rw [e]))]⟩
  simp only [EY, if_true, if_false, Nat.reduceAdd, Option.bind_some, kaA_r, decide_eq_true n4, Bool.not_true, ne_int, ne_bool, ne_str]
  refine TCall.val (by simp only [EO]) (kaL_T β β' x.questions y.questions (hx.2.1) _) ?_
  simp only [EY, if_true, if_false, Nat.reduceAdd, Option.bind_some, kaA_r, ne_int, ne_bool, ne_str]
  by_cases n5 : x.questions = y.questions
  rotate_left
  · simp only [EY, if_true, if_false, Nat.reduceAdd, Option.bind_some, kaA_r, decide_eq_false n5, Bool.not_false]
    exact ⟨rfl, by rw [decide_eq_false (fun e => n5 (by rw [e]))]⟩
  simp only [EY, if_true, if_false, Nat.reduceAdd, Option.bind_some, kaA_r, decide_eq_true n5, Bool.not_true, ne_int, ne_bool, ne_str]
  by_cases n6 : x.asked = y.asked
  rotate_left
  · simp only [EY, if_true, if_false, Nat.reduceAdd, Option.bind_some, kaA_r, decide_eq_false n6, Bool.not_false]
    exact ⟨rfl, by rw [decide_eq_false (fun e => n6 (by rw [e]))]⟩
  simp only [EY, if_true, if_false, Nat.reduceAdd, Option.bind_some, kaA_r, decide_eq_true n6, Bool.not_true, ne_int, ne_bool, ne_str]
  refine TCall.val (by simp only [EO]) (kaL_T β β' x.answers y.answers (hx.2.2) _) ?_
  simp only [EY, if_true, if_false, Nat.reduceAdd, Option.bind_some, kaA_r, ne_int, ne_bool, ne_str]
  by_cases n7 : x.answers = y.answers
  rotate_left
  · simp only [EY, if_true, if_false, Nat.reduceAdd, Option.bind_some, kaA_r, decide_eq_false n7, Bool.not_false]
    exact ⟨rfl, by rw [decide_eq_false (fun e => n7 (by rw [e]))]⟩
  simp only [EY, if_true, if_false, Nat.reduceAdd, Option.bind_some, kaA_r, decide_eq_true n7, Bool.not_true, ne_int, ne_bool, ne_str]
  exact ⟨rfl, by rw [decide_eq_true (by cases x; cases y; simp only [DLink.mk.injEq]; exact ⟨n1, n2, n3, n4, n5, n6, n7⟩)]⟩
theorem kaB_T (β β' : Bool) (l m : List DLink) (hl : l.length ≤ 1073741824) (ho : ∀ x ∈ l, x.ok 1073741824) (h : AH) : T Tryz.prog Γ Fn.kaB [.vs β 7 false (l.map (DLink.c β)), .vs β' 7 false (m.map (DLink.c β'))] h fun v h' => v = .bool (decide (l = m)) ∧ h' = h :=
  eqS_D (f := Fn.kaA) tabOK mixed (fun hw => kaB_e hw) (by omega) (fun x => ⟨rfl, rfl⟩) (fun x => ⟨rfl, rfl⟩) (fun x hx y _ => kaA_T β β' x y (ho x hx) h)
theorem kcu_T (β : Bool) (x : DWire) (h : AH) : T Tryz.prog Γ Fn.kcu [.agg (x.c β)] h fun v h' => v = .agg (x.c false) ∧ h' = h := by
  refine kcu_e (aw_sound tabOK mixed [] _ _ _ ?_)
  unfold kcu_c DWire.c
  simp only [EY, if_true, if_false, Nat.reduceAdd, Option.bind_some, kcu_r]
  exact rfl
theorem kcv_T (β : Bool) (l : List DWire) (hl : l.length ≤ 1048576) (h : AH) : T Tryz.prog Γ Fn.kcv [.vs β 2 false (l.map (DWire.c β))] h (Fresh h [.c (.sl 2 (l.map DWire.cd))]) :=
  toS_own (szs := 2) (sz := 2) (bytes := 16) (z := [.int .i64 0, .int .i64 0]) (f := Fn.kcu) tabOK mixed (fun hw => kcv_e hw) (by simp [maxMade]; omega) rfl rfl (fun x _ => ⟨rfl, rfl⟩) (fun x _ => rfl) (fun x hx H => (kcu_T β x H).flat (cs := x.cd) (by simp [DWire.cd, CD.flat]) (by rw [DWire.c_eq]))
theorem kbX_T (β : Bool) (l : List DWire) (hl : l.length ≤ maxLen) (left : Int) (h0 : 0 ≤ left) (h1 : left ≤ 1048576) (h : AH) : T Tryz.prog Γ Fn.kbX [.vs β 2 false (l.map (DWire.c β)), .int .i64 left] h fun v h' => v = .int .i64 (szN l left) ∧ h' = h :=
  szF_T tabOK mixed (fun hw => kbX_e hw) h0 h1 hl
theorem kaV_T (β β' : Bool) (x y : DWire) (h : AH) : T Tryz.prog Γ Fn.kaV [.agg (x.c β), .agg (y.c β')] h fun v h' => v = .bool (decide (x = y)) ∧ h' = h := by
  refine kaV_e (aw_sound tabOK mixed [] _ _ _ ?_)
  unfold kaV_c DWire.c
  simp only [EY, if_true, if_false, Nat.reduceAdd, Option.bind_some, kaV_r, ne_int, ne_bool, ne_str]
  by_cases n1 : x.kind = y.kind
  rotate_left
  · simp only [EY, if_true, if_false, Nat.reduceAdd, Option.bind_some, kaV_r, decide_eq_false n1, Bool.not_false]
    exact ⟨rfl, by rw [decide_eq_false (fun e => n1 (by rw [e]))]⟩
  simp only [EY, if_true, if_false, Nat.reduceAdd, Option.bind_some, kaV_r, decide_eq_true n1, Bool.not_true, ne_int, ne_bool, ne_str]
  by_cases n2 : x.n = y.n
  rotate_left
  · simp only [EY, if_true, if_false, Nat.reduceAdd, Option.bind_some, kaV_r, decide_eq_false n2, Bool.not_false]
    exact ⟨rfl, by rw [decide_eq_false (fun e => n2 (by rw [e]))]⟩
  simp only [EY, if_true, if_false, Nat.reduceAdd, Option.bind_some, kaV_r, decide_eq_true n2, Bool.not_true, ne_int, ne_bool, ne_str]
  exact ⟨rfl, by rw [decide_eq_true (by cases x; cases y; simp only [DWire.mk.injEq]; exact ⟨n1, n2⟩)]⟩
theorem kaW_T (β β' : Bool) (l m : List DWire) (hl : l.length ≤ 1073741824) (h : AH) : T Tryz.prog Γ Fn.kaW [.vs β 2 false (l.map (DWire.c β)), .vs β' 2 false (m.map (DWire.c β'))] h fun v h' => v = .bool (decide (l = m)) ∧ h' = h :=
  eqS_D (f := Fn.kaV) tabOK mixed (fun hw => kaW_e hw) (by omega) (fun x => ⟨rfl, rfl⟩) (fun x => ⟨rfl, rfl⟩) (fun x hx y _ => kaV_T β β' x y h)
theorem kcb_T (β : Bool) (x : DMessage) (hx : x.ok 1048576) (h : AH) : T Tryz.prog Γ Fn.kcb [.agg (x.c β)] h (Fresh h [.a x.cd]) := by
  refine T.freshA (kcb_e (aw_sound tabOK mixed [] _ _ _ ?_))
  unfold kcb_c DMessage.c
  simp only [EY, if_true, if_false, Nat.reduceAdd, Option.bind_some, kcb_r]
  refine TCall.ref (by simp only [EO]) (kcv_T β x.args (hx.2) _) ?_
  intro v1 h1 q1
  obtain ⟨n1, f1, rfl, o1, nd1, b1⟩ := q1.one
  obtain ⟨c1a, c1b, c1c, c1d⟩ := o1.cell
  simp only [EY, if_true, if_false, Nat.reduceAdd, Option.bind_some, c1a, c1b, c1c, c1d, kcb_r]
  refine TCall.val (by simp only [EO]) (kcu_T β x.value _) ?_
  simp only [EY, if_true, if_false, Nat.reduceAdd, Option.bind_some, DWire.c, c1a, c1b, c1c, c1d, kcb_r]
  refine TCall.val (by simp only [EO]) (kcp_T β x.tag _) ?_
  simp only [EY, if_true, if_false, Nat.reduceAdd, Option.bind_some, DTag.c, c1a, c1b, c1c, c1d, kcb_r]
  refine ⟨by simp only [EO, outOK, c1a, c1b, c1c, c1d], _, n1, _, rfl, by simp, (.i (.i (.i (.i (.s (.o o1 (.i (.i (.i (.i (.i (.i .nil)))))))))))), ?_, ?_⟩
  · simpa using nd1
  · simpa using b1
theorem kcb_V (β : Bool) (x : DMessage) (hx : x.ok 1048576) (h : AH) : T Tryz.prog Γ Fn.kcb [.agg (x.c β)] h fun v h' => v = .agg (x.c false) ∧ h' = h := by
  have := (kcb_T (Γ := Γ) β x hx h).valA; rwa [DMessage.c_eq] at this
theorem kcc_T (β : Bool) (l : List DMessage) (hl : l.length ≤ 1048576) (ho : ∀ x ∈ l, x.ok 1048576) (h : AH) : T Tryz.prog Γ Fn.kcc [.vs β 12 false (l.map (DMessage.c β))] h (Fresh h [.c (.sl 12 (l.map DMessage.cd))]) :=
  toS_own (szs := 12) (sz := 12) (bytes := 120) (z := [.int .i64 0, .int .i64 0, .int .i64 0, .int .i64 0, .str ⟨#[]⟩, .nils, .int .i64 0, .int .i64 0, .int .i64 0, .int .i64 0, .int .i64 0, .int .i64 0]) (f := Fn.kcb) tabOK mixed (fun hw => kcc_e hw) (by simp [maxMade]; omega) rfl rfl (fun x _ => ⟨rfl, rfl⟩) (fun x _ => rfl) (fun x hx H => kcb_T β x (ho x hx) H)
theorem kbI_T (β : Bool) (x : DMessage) (hx : x.ok maxLen) (left : Int) (h0 : 0 ≤ left) (h1 : left ≤ 1048576) (h : AH) : T Tryz.prog Γ Fn.kbI [.agg (x.c β), .int .i64 left] h fun v h' => v = .int .i64 (x.szf left) ∧ h' = h := by
  have hml : maxLen ≤ 9223372036854775807 := by decide
  refine kbI_e (aw_sound tabOK mixed [] _ _ _ ?_)
  unfold kbI_c DMessage.c
  simp only [EY, if_true, if_false, Nat.reduceAdd, Option.bind_some, kbI_r, len_str]
  have hs1 : x.name.size ≤ maxLen := hx.1
  rw [wrap_nat (by omega) (by omega)]
  by_cases n1 : (left - (x.name.size : Int)) < 0
  · simp only [EY, if_true, if_false, Nat.reduceAdd, Option.bind_some, kbI_r, decide_eq_true n1]
    exact ⟨rfl, by simp only [DMessage.szf, n1, if_true, if_false]⟩
  simp only [EY, if_true, if_false, Nat.reduceAdd, Option.bind_some, kbI_r, decide_eq_false n1, len_str]
  refine TCall.val (by simp only [EO]) (kbX_T β x.args (hx.2) _ (by omega) (by omega) _) ?_
  simp only [EY, if_true, if_false, Nat.reduceAdd, Option.bind_some, kbI_r, len_str]
  by_cases n2 : (szN x.args (left - (x.name.size : Int))) < 0
  · simp only [EY, if_true, if_false, Nat.reduceAdd, Option.bind_some, kbI_r, decide_eq_true n2]
    exact ⟨rfl, by simp only [DMessage.szf, n2, if_true, if_false, n1]⟩
  simp only [EY, if_true, if_false, Nat.reduceAdd, Option.bind_some, kbI_r, decide_eq_false n2, len_str]
  have q2 := (szN_ok (Int.not_lt.1 n2)).2
  exact ⟨rfl, by simp only [DMessage.szf, if_false, n1, n2]⟩
theorem kbJ_T (β : Bool) (l : List DMessage) (hl : l.length ≤ maxLen) (ho : ∀ x ∈ l, x.ok maxLen) (left : Int) (h0 : 0 ≤ left) (h1 : left ≤ 1048576) (h : AH) : T Tryz.prog Γ Fn.kbJ [.vs β 12 false (l.map (DMessage.c β)), .int .i64 left] h fun v h' => v = .int .i64 (szL DMessage.szf l left) ∧ h' = h :=
  szS_T (f := Fn.kbI) tabOK mixed (fun hw => kbJ_e hw) h0 h1 hl (fun x => ⟨rfl, rfl⟩) (fun x left a b c => (DMessage.szf_ok x left a b c).2) (fun x hx left a b => kbI_T β x (ho x hx) left a b h)
theorem kaC_T (β β' : Bool) (x y : DMessage) (hx : x.ok 1073741824) (h : AH) : T Tryz.prog Γ Fn.kaC [.agg (x.c β), .agg (y.c β')] h fun v h' => v = .bool (decide (x = y)) ∧ h' = h := by
  refine kaC_e (aw_sound tabOK mixed [] _ _ _ ?_)
  unfold kaC_c DMessage.c
  simp only [EY, if_true, if_false, Nat.reduceAdd, Option.bind_some, kaC_r, ne_int, ne_bool, ne_str]
  by_cases n1 : x.kind = y.kind
  rotate_left
  · simp only [EY, if_true, if_false, Nat.reduceAdd, Option.bind_some, kaC_r, decide_eq_false n1, Bool.not_false]
    exact ⟨rfl, by rw [decide_eq_false (fun e => n1 (by rw [e]))]⟩
  simp only [EY, if_true, if_false, Nat.reduceAdd, Option.bind_some, kaC_r, decide_eq_true n1, Bool.not_true, ne_int, ne_bool, ne_str]
  by_cases n2 : x.pos = y.pos
  rotate_left
  · simp only [EY, if_true, if_false, Nat.reduceAdd, Option.bind_some, kaC_r, decide_eq_false n2, Bool.not_false]
    exact ⟨rfl, by rw [decide_eq_false (fun e => n2 (by rw [e]))]⟩
  simp only [EY, if_true, if_false, Nat.reduceAdd, Option.bind_some, kaC_r, decide_eq_true n2, Bool.not_true, ne_int, ne_bool, ne_str]
  by_cases n3 : x.answer = y.answer
  rotate_left
  · simp only [EY, if_true, if_false, Nat.reduceAdd, Option.bind_some, kaC_r, decide_eq_false n3, Bool.not_false]
    exact ⟨rfl, by rw [decide_eq_false (fun e => n3 (by rw [e]))]⟩
  simp only [EY, if_true, if_false, Nat.reduceAdd, Option.bind_some, kaC_r, decide_eq_true n3, Bool.not_true, ne_int, ne_bool, ne_str]
  by_cases n4 : x.question = y.question
  rotate_left
  · simp only [EY, if_true, if_false, Nat.reduceAdd, Option.bind_some, kaC_r, decide_eq_false n4, Bool.not_false]
    exact ⟨rfl, by rw [decide_eq_false (fun e => n4 (by rw [e]))]⟩
  simp only [EY, if_true, if_false, Nat.reduceAdd, Option.bind_some, kaC_r, decide_eq_true n4, Bool.not_true, ne_int, ne_bool, ne_str]
  by_cases n5 : x.name = y.name
  rotate_left
  · simp only [EY, if_true, if_false, Nat.reduceAdd, Option.bind_some, kaC_r, decide_eq_false n5, Bool.not_false]
    exact ⟨rfl, by rw [decide_eq_false (fun e => n5 (by rw [e]))]⟩
  simp only [EY, if_true, if_false, Nat.reduceAdd, Option.bind_some, kaC_r, decide_eq_true n5, Bool.not_true, ne_int, ne_bool, ne_str]
  refine TCall.val (by simp only [EO]) (kaW_T β β' x.args y.args (hx.2) _) ?_
  simp only [EY, if_true, if_false, Nat.reduceAdd, Option.bind_some, kaC_r, ne_int, ne_bool, ne_str]
  by_cases n6 : x.args = y.args
  rotate_left
  · simp only [EY, if_true, if_false, Nat.reduceAdd, Option.bind_some, kaC_r, decide_eq_false n6, Bool.not_false]
    exact ⟨rfl, by rw [decide_eq_false (fun e => n6 (by rw [e]))]⟩
  simp only [EY, if_true, if_false, Nat.reduceAdd, Option.bind_some, kaC_r, decide_eq_true n6, Bool.not_true, ne_int, ne_bool, ne_str]
  refine TCall.val (by simp only [EO]) (kaV_T β β' x.value y.value _) ?_
  simp only [EY, if_true, if_false, Nat.reduceAdd, Option.bind_some, kaC_r, ne_int, ne_bool, ne_str]
  by_cases n7 : x.value = y.value
  rotate_left
  · simp only [EY, if_true, if_false, Nat.reduceAdd, Option.bind_some, kaC_r, decide_eq_false n7, Bool.not_false]
    exact ⟨rfl, by rw [decide_eq_false (fun e => n7 (by rw [e]))]⟩
  simp only [EY, if_true, if_false, Nat.reduceAdd, Option.bind_some, kaC_r, decide_eq_true n7, Bool.not_true, ne_int, ne_bool, ne_str]
  by_cases n8 : x.count = y.count
  rotate_left
  · simp only [EY, if_true, if_false, Nat.reduceAdd, Option.bind_some, kaC_r, decide_eq_false n8, Bool.not_false]
    exact ⟨rfl, by rw [decide_eq_false (fun e => n8 (by rw [e]))]⟩
  simp only [EY, if_true, if_false, Nat.reduceAdd, Option.bind_some, kaC_r, decide_eq_true n8, Bool.not_true, ne_int, ne_bool, ne_str]
  refine TCall.val (by simp only [EO]) (kaQ_T β β' x.tag y.tag _) ?_
  simp only [EY, if_true, if_false, Nat.reduceAdd, Option.bind_some, kaC_r, ne_int, ne_bool, ne_str]
  by_cases n9 : x.tag = y.tag
  rotate_left
  · simp only [EY, if_true, if_false, Nat.reduceAdd, Option.bind_some, kaC_r, decide_eq_false n9, Bool.not_false]
    exact ⟨rfl, by rw [decide_eq_false (fun e => n9 (by rw [e]))]⟩
  simp only [EY, if_true, if_false, Nat.reduceAdd, Option.bind_some, kaC_r, decide_eq_true n9, Bool.not_true, ne_int, ne_bool, ne_str]
  exact ⟨rfl, by rw [decide_eq_true (by cases x; cases y; simp only [DMessage.mk.injEq]; exact ⟨n1, n2, n3, n4, n5, n6, n7, n8, n9⟩)]⟩
theorem kaD_T (β β' : Bool) (l m : List DMessage) (hl : l.length ≤ 1073741824) (ho : ∀ x ∈ l, x.ok 1073741824) (h : AH) : T Tryz.prog Γ Fn.kaD [.vs β 12 false (l.map (DMessage.c β)), .vs β' 12 false (m.map (DMessage.c β'))] h fun v h' => v = .bool (decide (l = m)) ∧ h' = h :=
  eqS_D (f := Fn.kaC) tabOK mixed (fun hw => kaD_e hw) (by omega) (fun x => ⟨rfl, rfl⟩) (fun x => ⟨rfl, rfl⟩) (fun x hx y _ => kaC_T β β' x y (ho x hx) h)
theorem kch_T (β : Bool) (x : DOutgoing) (hx : x.ok 1048576) (h : AH) : T Tryz.prog Γ Fn.kch [.agg (x.c β)] h (Fresh h [.a x.cd]) := by
  refine T.freshA (kch_e (aw_sound tabOK mixed [] _ _ _ ?_))
  unfold kch_c DOutgoing.c
  simp only [EY, if_true, if_false, Nat.reduceAdd, Option.bind_some, kch_r]
  refine TCall.ref (by simp only [EO]) (kcb_T β x.message (hx) _) ?_
  intro v1 h1 q1
  obtain ⟨as1, n1, f1, rfl, rfl, o1, nd1, b1⟩ := q1.oneA
  simp only [DMessage.cd, ownL_c, ownL_n, own_i, own_b, own_s] at o1
  obtain ⟨_, _, _, _, rfl, rfl, ⟨rfl, rfl⟩, ⟨_, _, _, _, rfl, rfl, ⟨rfl, rfl⟩, ⟨_, _, _, _, rfl, rfl, ⟨rfl, rfl⟩, ⟨_, _, _, _, rfl, rfl, ⟨rfl, rfl⟩, ⟨_, _, _, _, rfl, rfl, ⟨rfl, rfl⟩, ⟨w5, _, e5, _, rfl, rfl, u5, ⟨_, _, _, _, rfl, rfl, ⟨rfl, rfl⟩, ⟨_, _, _, _, rfl, rfl, ⟨rfl, rfl⟩, ⟨_, _, _, _, rfl, rfl, ⟨rfl, rfl⟩, ⟨_, _, _, _, rfl, rfl, ⟨rfl, rfl⟩, ⟨_, _, _, _, rfl, rfl, ⟨rfl, rfl⟩, ⟨_, _, _, _, rfl, rfl, ⟨rfl, rfl⟩, ⟨rfl, rfl⟩⟩⟩⟩⟩⟩⟩⟩⟩⟩⟩⟩⟩ := o1
  obtain ⟨g5a, g5b, g5c, g5d⟩ := u5.cell
  simp only [EY, if_true, if_false, Nat.reduceAdd, Option.bind_some, g5a, g5b, g5c, g5d, kch_r]
  exact ⟨by simp only [EO, outOK, g5a, g5b, g5c, g5d], _, n1, _, rfl, rfl, (.i (.i (.i (.i (.i (.s (.o u5 (.i (.i (.i (.i (.i (.i .nil))))))))))))), by simpa using nd1, by simpa using b1⟩
theorem kci_T (β : Bool) (l : List DOutgoing) (hl : l.length ≤ 1048576) (ho : ∀ x ∈ l, x.ok 1048576) (h : AH) : T Tryz.prog Γ Fn.kci [.vs β 13 false (l.map (DOutgoing.c β))] h (Fresh h [.c (.sl 13 (l.map DOutgoing.cd))]) :=
  toS_own (szs := 13) (sz := 13) (bytes := 128) (z := [.int .i64 0, .int .i64 0, .int .i64 0, .int .i64 0, .int .i64 0, .str ⟨#[]⟩, .nils, .int .i64 0, .int .i64 0, .int .i64 0, .int .i64 0, .int .i64 0, .int .i64 0]) (f := Fn.kch) tabOK mixed (fun hw => kci_e hw) (by simp [maxMade]; omega) rfl rfl (fun x _ => ⟨rfl, rfl⟩) (fun x _ => rfl) (fun x hx H => kch_T β x (ho x hx) H)
theorem kbN_T (β : Bool) (x : DOutgoing) (hx : x.ok maxLen) (left : Int) (h0 : 0 ≤ left) (h1 : left ≤ 1048576) (h : AH) : T Tryz.prog Γ Fn.kbN [.agg (x.c β), .int .i64 left] h fun v h' => v = .int .i64 (x.szf left) ∧ h' = h := by
  have hml : maxLen ≤ 9223372036854775807 := by decide
  refine kbN_e (aw_sound tabOK mixed [] _ _ _ ?_)
  unfold kbN_c DOutgoing.c
  simp only [EY, if_true, if_false, Nat.reduceAdd, Option.bind_some, kbN_r, len_str]
  refine TCall.val (by simp only [EO]) (kbI_T β x.message (hx) _ (by omega) (by omega) _) ?_
  simp only [EY, if_true, if_false, Nat.reduceAdd, Option.bind_some, kbN_r, len_str]
  by_cases n1 : (x.message.szf left) < 0
  · simp only [EY, if_true, if_false, Nat.reduceAdd, Option.bind_some, kbN_r, decide_eq_true n1]
    exact ⟨rfl, by simp only [DOutgoing.szf, n1, if_true, if_false]⟩
  simp only [EY, if_true, if_false, Nat.reduceAdd, Option.bind_some, kbN_r, decide_eq_false n1, len_str]
  have q1 := (DMessage.szf_ok _ _ (by omega) (by omega) (Int.not_lt.1 n1)).2
  exact ⟨rfl, by simp only [DOutgoing.szf, if_false, n1]⟩
theorem kbO_T (β : Bool) (l : List DOutgoing) (hl : l.length ≤ maxLen) (ho : ∀ x ∈ l, x.ok maxLen) (left : Int) (h0 : 0 ≤ left) (h1 : left ≤ 1048576) (h : AH) : T Tryz.prog Γ Fn.kbO [.vs β 13 false (l.map (DOutgoing.c β)), .int .i64 left] h fun v h' => v = .int .i64 (szL DOutgoing.szf l left) ∧ h' = h :=
  szS_T (f := Fn.kbN) tabOK mixed (fun hw => kbO_e hw) h0 h1 hl (fun x => ⟨rfl, rfl⟩) (fun x left a b c => (DOutgoing.szf_ok x left a b c).2) (fun x hx left a b => kbN_T β x (ho x hx) left a b h)
theorem kaI_T (β β' : Bool) (x y : DOutgoing) (hx : x.ok 1073741824) (h : AH) : T Tryz.prog Γ Fn.kaI [.agg (x.c β), .agg (y.c β')] h fun v h' => v = .bool (decide (x = y)) ∧ h' = h := by
  refine kaI_e (aw_sound tabOK mixed [] _ _ _ ?_)
  unfold kaI_c DOutgoing.c
  simp only [EY, if_true, if_false, Nat.reduceAdd, Option.bind_some, kaI_r, ne_int, ne_bool, ne_str]
  by_cases n1 : x.to_ = y.to_
  rotate_left
  · simp only [EY, if_true, if_false, Nat.reduceAdd, Option.bind_some, kaI_r, decide_eq_false n1, Bool.not_false]
    exact ⟨rfl, by rw [decide_eq_false (fun e => n1 (by rw [e]))]⟩
  simp only [EY, if_true, if_false, Nat.reduceAdd, Option.bind_some, kaI_r, decide_eq_true n1, Bool.not_true, ne_int, ne_bool, ne_str]
  refine TCall.val (by simp only [EO]) (kaC_T β β' x.message y.message (hx) _) ?_
  simp only [EY, if_true, if_false, Nat.reduceAdd, Option.bind_some, kaI_r, ne_int, ne_bool, ne_str]
  by_cases n2 : x.message = y.message
  rotate_left
  · simp only [EY, if_true, if_false, Nat.reduceAdd, Option.bind_some, kaI_r, decide_eq_false n2, Bool.not_false]
    exact ⟨rfl, by rw [decide_eq_false (fun e => n2 (by rw [e]))]⟩
  simp only [EY, if_true, if_false, Nat.reduceAdd, Option.bind_some, kaI_r, decide_eq_true n2, Bool.not_true, ne_int, ne_bool, ne_str]
  exact ⟨rfl, by rw [decide_eq_true (by cases x; cases y; simp only [DOutgoing.mk.injEq]; exact ⟨n1, n2⟩)]⟩
theorem kaJ_T (β β' : Bool) (l m : List DOutgoing) (hl : l.length ≤ 1073741824) (ho : ∀ x ∈ l, x.ok 1073741824) (h : AH) : T Tryz.prog Γ Fn.kaJ [.vs β 13 false (l.map (DOutgoing.c β)), .vs β' 13 false (m.map (DOutgoing.c β'))] h fun v h' => v = .bool (decide (l = m)) ∧ h' = h :=
  eqS_D (f := Fn.kaI) tabOK mixed (fun hw => kaJ_e hw) (by omega) (fun x => ⟨rfl, rfl⟩) (fun x => ⟨rfl, rfl⟩) (fun x hx y _ => kaI_T β β' x y (ho x hx) h)
theorem kcs_T (β : Bool) (x : DVat) (hx : x.ok 1048576) (h : AH) : T Tryz.prog Γ Fn.kcs [.agg (x.c β)] h (Fresh h [.a x.cd]) := by
  refine T.freshA (kcs_e (aw_sound tabOK mixed [] _ _ _ ?_))
  unfold kcs_c DVat.c
  simp only [EY, if_true, if_false, Nat.reduceAdd, Option.bind_some, kcs_r]
  refine TCall.ref (by simp only [EO]) (kb4_T β x.entities (hx.1) (hx.2.1) _) ?_
  intro v1 h1 q1
  obtain ⟨n1, f1, rfl, o1, nd1, b1⟩ := q1.one
  obtain ⟨c1a, c1b, c1c, c1d⟩ := o1.cell
  simp only [EY, if_true, if_false, Nat.reduceAdd, Option.bind_some, c1a, c1b, c1c, c1d, kcs_r]
  refine TCall.ref (by simp only [EO]) (kco_T β x.loop (hx.2.2.1) (hx.2.2.2.1) _) ?_
  intro v2 h2 q2
  obtain ⟨n2, f2, rfl, o2, nd2, b2⟩ := q2.one
  obtain ⟨c2a, c2b, c2c, c2d⟩ := o2.cell
  simp only [EY, if_true, if_false, Nat.reduceAdd, Option.bind_some, c1a, c1b, c1c, c1d, c2a, c2b, c2c, c2d, kcs_r]
  refine TCall.ref (by simp only [EO]) (kca_T β x.links (hx.2.2.2.2.1) (hx.2.2.2.2.2.1) _) ?_
  intro v3 h3 q3
  obtain ⟨n3, f3, rfl, o3, nd3, b3⟩ := q3.one
  obtain ⟨c3a, c3b, c3c, c3d⟩ := o3.cell
  simp only [EY, if_true, if_false, Nat.reduceAdd, Option.bind_some, c1a, c1b, c1c, c1d, c2a, c2b, c2c, c2d, c3a, c3b, c3c, c3d, kcs_r]
  refine TCall.ref (by simp only [EO]) (kci_T β x.out (hx.2.2.2.2.2.2.1) (hx.2.2.2.2.2.2.2) _) ?_
  intro v4 h4 q4
  obtain ⟨n4, f4, rfl, o4, nd4, b4⟩ := q4.one
  obtain ⟨c4a, c4b, c4c, c4d⟩ := o4.cell
  simp only [EY, if_true, if_false, Nat.reduceAdd, Option.bind_some, c1a, c1b, c1c, c1d, c2a, c2b, c2c, c2d, c3a, c3b, c3c, c3d, c4a, c4b, c4c, c4d, kcs_r]
  refine ⟨by simp only [EO, outOK, c1a, c1b, c1c, c1d, c2a, c2b, c2c, c2d, c3a, c3b, c3c, c3d, c4a, c4b, c4c, c4d], _, n1 ++ n2 ++ n3 ++ n4, _, rfl, by simp, (.i (.o o1.grow.grow.grow (.o o2.grow.grow (.o o3.grow (.o o4 .nil))))), ?_, ?_⟩
  · simp only [List.append_nil]
    exact nodup_app nd1 (nodup_app nd2 (nodup_app nd3 (nd4) (fun b hb => o3.lt b hb) (fun b hb => by (try simp only [List.mem_append] at hb); first | (have := b4 b hb; simp only [List.length_append] at this ⊢; omega))) (fun b hb => o2.lt b hb) (fun b hb => by (try simp only [List.mem_append] at hb); rcases hb with hb | hb <;> first | (have := b3 b hb; simp only [List.length_append] at this ⊢; omega) | (have := b4 b hb; simp only [List.length_append] at this ⊢; omega))) (fun b hb => o1.lt b hb) (fun b hb => by (try simp only [List.mem_append] at hb); rcases hb with hb | hb | hb <;> first | (have := b2 b hb; simp only [List.length_append] at this ⊢; omega) | (have := b3 b hb; simp only [List.length_append] at this ⊢; omega) | (have := b4 b hb; simp only [List.length_append] at this ⊢; omega))
  · intro b hb
    simp only [List.append_nil, List.mem_append] at hb
    rcases hb with hb | hb | hb | hb <;> first | (have := b1 b hb; simp only [List.length_append] at this ⊢; omega) | (have := b2 b hb; simp only [List.length_append] at this ⊢; omega) | (have := b3 b hb; simp only [List.length_append] at this ⊢; omega) | (have := b4 b hb; simp only [List.length_append] at this ⊢; omega)
theorem kct_T (β : Bool) (l : List DVat) (hl : l.length ≤ 1048576) (ho : ∀ x ∈ l, x.ok 1048576) (h : AH) : T Tryz.prog Γ Fn.kct [.vs β 5 false (l.map (DVat.c β))] h (Fresh h [.c (.sl 5 (l.map DVat.cd))]) :=
  toS_own (szs := 5) (sz := 5) (bytes := 104) (z := [.int .i64 0, .nils, .nils, .nils, .nils]) (f := Fn.kcs) tabOK mixed (fun hw => kct_e hw) (by simp [maxMade]; omega) rfl rfl (fun x _ => ⟨rfl, rfl⟩) (fun x _ => rfl) (fun x hx H => kcs_T β x (ho x hx) H)
theorem kbV_T (β : Bool) (x : DVat) (hx : x.ok maxLen) (left : Int) (h0 : 0 ≤ left) (h1 : left ≤ 1048576) (h : AH) : T Tryz.prog Γ Fn.kbV [.agg (x.c β), .int .i64 left] h fun v h' => v = .int .i64 (x.szf left) ∧ h' = h := by
  have hml : maxLen ≤ 9223372036854775807 := by decide
  refine kbV_e (aw_sound tabOK mixed [] _ _ _ ?_)
  unfold kbV_c DVat.c
  simp only [EY, if_true, if_false, Nat.reduceAdd, Option.bind_some, kbV_r, len_str]
  refine TCall.val (by simp only [EO]) (kbC_T β x.entities (hx.1) (hx.2.1) _ (by omega) (by omega) _) ?_
  simp only [EY, if_true, if_false, Nat.reduceAdd, Option.bind_some, kbV_r, len_str]
  by_cases n1 : (szL DEntity.szf x.entities left) < 0
  · simp only [EY, if_true, if_false, Nat.reduceAdd, Option.bind_some, kbV_r, decide_eq_true n1]
    exact ⟨rfl, by simp only [DVat.szf, n1, if_true, if_false]⟩
  simp only [EY, if_true, if_false, Nat.reduceAdd, Option.bind_some, kbV_r, decide_eq_false n1, len_str]
  have q1 := (szL_ok (Q := DEntity.ok 1048576) (B := 1048576) (fun x left a b c => DEntity.szf_ok x left a b c) (by omega) (by omega) (Int.not_lt.1 n1)).2
  refine TCall.val (by simp only [EO]) (kbT_T β x.loop (hx.2.2.1) (hx.2.2.2.1) _ (by omega) (by omega) _) ?_
  simp only [EY, if_true, if_false, Nat.reduceAdd, Option.bind_some, kbV_r, len_str]
  by_cases n2 : (szL DSent.szf x.loop (szL DEntity.szf x.entities left)) < 0
  · simp only [EY, if_true, if_false, Nat.reduceAdd, Option.bind_some, kbV_r, decide_eq_true n2]
    exact ⟨rfl, by simp only [DVat.szf, n2, if_true, if_false, n1]⟩
  simp only [EY, if_true, if_false, Nat.reduceAdd, Option.bind_some, kbV_r, decide_eq_false n2, len_str]
  have q2 := (szL_ok (Q := DSent.ok 1048576) (B := 1048576) (fun x left a b c => DSent.szf_ok x left a b c) (by omega) (by omega) (Int.not_lt.1 n2)).2
  refine TCall.val (by simp only [EO]) (kbH_T β x.links (hx.2.2.2.2.1) (hx.2.2.2.2.2.1) _ (by omega) (by omega) _) ?_
  simp only [EY, if_true, if_false, Nat.reduceAdd, Option.bind_some, kbV_r, len_str]
  by_cases n3 : (szL DLink.szf x.links (szL DSent.szf x.loop (szL DEntity.szf x.entities left))) < 0
  · simp only [EY, if_true, if_false, Nat.reduceAdd, Option.bind_some, kbV_r, decide_eq_true n3]
    exact ⟨rfl, by simp only [DVat.szf, n3, if_true, if_false, n1, n2]⟩
  simp only [EY, if_true, if_false, Nat.reduceAdd, Option.bind_some, kbV_r, decide_eq_false n3, len_str]
  have q3 := (szL_ok (Q := DLink.ok 1048576) (B := 1048576) (fun x left a b c => DLink.szf_ok x left a b c) (by omega) (by omega) (Int.not_lt.1 n3)).2
  refine TCall.val (by simp only [EO]) (kbO_T β x.out (hx.2.2.2.2.2.2.1) (hx.2.2.2.2.2.2.2) _ (by omega) (by omega) _) ?_
  simp only [EY, if_true, if_false, Nat.reduceAdd, Option.bind_some, kbV_r, len_str]
  by_cases n4 : (szL DOutgoing.szf x.out (szL DLink.szf x.links (szL DSent.szf x.loop (szL DEntity.szf x.entities left)))) < 0
  · simp only [EY, if_true, if_false, Nat.reduceAdd, Option.bind_some, kbV_r, decide_eq_true n4]
    exact ⟨rfl, by simp only [DVat.szf, n4, if_true, if_false, n1, n2, n3]⟩
  simp only [EY, if_true, if_false, Nat.reduceAdd, Option.bind_some, kbV_r, decide_eq_false n4, len_str]
  have q4 := (szL_ok (Q := DOutgoing.ok 1048576) (B := 1048576) (fun x left a b c => DOutgoing.szf_ok x left a b c) (by omega) (by omega) (Int.not_lt.1 n4)).2
  exact ⟨rfl, by simp only [DVat.szf, if_false, n1, n2, n3, n4]⟩
theorem kbW_T (β : Bool) (l : List DVat) (hl : l.length ≤ maxLen) (ho : ∀ x ∈ l, x.ok maxLen) (left : Int) (h0 : 0 ≤ left) (h1 : left ≤ 1048576) (h : AH) : T Tryz.prog Γ Fn.kbW [.vs β 5 false (l.map (DVat.c β)), .int .i64 left] h fun v h' => v = .int .i64 (szL DVat.szf l left) ∧ h' = h :=
  szS_T (f := Fn.kbV) tabOK mixed (fun hw => kbW_e hw) h0 h1 hl (fun x => ⟨rfl, rfl⟩) (fun x left a b c => (DVat.szf_ok x left a b c).2) (fun x hx left a b => kbV_T β x (ho x hx) left a b h)
theorem kaT_T (β β' : Bool) (x y : DVat) (hx : x.ok 1073741824) (h : AH) : T Tryz.prog Γ Fn.kaT [.agg (x.c β), .agg (y.c β')] h fun v h' => v = .bool (decide (x = y)) ∧ h' = h := by
  refine kaT_e (aw_sound tabOK mixed [] _ _ _ ?_)
  unfold kaT_c DVat.c
  simp only [EY, if_true, if_false, Nat.reduceAdd, Option.bind_some, kaT_r, ne_int, ne_bool, ne_str]
  by_cases n1 : x.id = y.id
  rotate_left
  · simp only [EY, if_true, if_false, Nat.reduceAdd, Option.bind_some, kaT_r, decide_eq_false n1, Bool.not_false]
    exact ⟨rfl, by rw [decide_eq_false (fun e => n1 (by rw [e]))]⟩
  simp only [EY, if_true, if_false, Nat.reduceAdd, Option.bind_some, kaT_r, decide_eq_true n1, Bool.not_true, ne_int, ne_bool, ne_str]
  refine TCall.val (by simp only [EO]) (kav_T β β' x.entities y.entities (hx.1) (hx.2.1) _) ?_
  simp only [EY, if_true, if_false, Nat.reduceAdd, Option.bind_some, kaT_r, ne_int, ne_bool, ne_str]
  by_cases n2 : x.entities = y.entities
  rotate_left
  · simp only [EY, if_true, if_false, Nat.reduceAdd, Option.bind_some, kaT_r, decide_eq_false n2, Bool.not_false]
    exact ⟨rfl, by rw [decide_eq_false (fun e => n2 (by rw [e]))]⟩
  simp only [EY, if_true, if_false, Nat.reduceAdd, Option.bind_some, kaT_r, decide_eq_true n2, Bool.not_true, ne_int, ne_bool, ne_str]
  refine TCall.val (by simp only [EO]) (kaP_T β β' x.loop y.loop (hx.2.2.1) (hx.2.2.2.1) _) ?_
  simp only [EY, if_true, if_false, Nat.reduceAdd, Option.bind_some, kaT_r, ne_int, ne_bool, ne_str]
  by_cases n3 : x.loop = y.loop
  rotate_left
  · simp only [EY, if_true, if_false, Nat.reduceAdd, Option.bind_some, kaT_r, decide_eq_false n3, Bool.not_false]
    exact ⟨rfl, by rw [decide_eq_false (fun e => n3 (by rw [e]))]⟩
  simp only [EY, if_true, if_false, Nat.reduceAdd, Option.bind_some, kaT_r, decide_eq_true n3, Bool.not_true, ne_int, ne_bool, ne_str]
  refine TCall.val (by simp only [EO]) (kaB_T β β' x.links y.links (hx.2.2.2.2.1) (hx.2.2.2.2.2.1) _) ?_
  simp only [EY, if_true, if_false, Nat.reduceAdd, Option.bind_some, kaT_r, ne_int, ne_bool, ne_str]
  by_cases n4 : x.links = y.links
  rotate_left
  · simp only [EY, if_true, if_false, Nat.reduceAdd, Option.bind_some, kaT_r, decide_eq_false n4, Bool.not_false]
    exact ⟨rfl, by rw [decide_eq_false (fun e => n4 (by rw [e]))]⟩
  simp only [EY, if_true, if_false, Nat.reduceAdd, Option.bind_some, kaT_r, decide_eq_true n4, Bool.not_true, ne_int, ne_bool, ne_str]
  refine TCall.val (by simp only [EO]) (kaJ_T β β' x.out y.out (hx.2.2.2.2.2.2.1) (hx.2.2.2.2.2.2.2) _) ?_
  simp only [EY, if_true, if_false, Nat.reduceAdd, Option.bind_some, kaT_r, ne_int, ne_bool, ne_str]
  by_cases n5 : x.out = y.out
  rotate_left
  · simp only [EY, if_true, if_false, Nat.reduceAdd, Option.bind_some, kaT_r, decide_eq_false n5, Bool.not_false]
    exact ⟨rfl, by rw [decide_eq_false (fun e => n5 (by rw [e]))]⟩
  simp only [EY, if_true, if_false, Nat.reduceAdd, Option.bind_some, kaT_r, decide_eq_true n5, Bool.not_true, ne_int, ne_bool, ne_str]
  exact ⟨rfl, by rw [decide_eq_true (by cases x; cases y; simp only [DVat.mk.injEq]; exact ⟨n1, n2, n3, n4, n5⟩)]⟩
theorem kaU_T (β β' : Bool) (l m : List DVat) (hl : l.length ≤ 1073741824) (ho : ∀ x ∈ l, x.ok 1073741824) (h : AH) : T Tryz.prog Γ Fn.kaU [.vs β 5 false (l.map (DVat.c β)), .vs β' 5 false (m.map (DVat.c β'))] h fun v h' => v = .bool (decide (l = m)) ∧ h' = h :=
  eqS_D (f := Fn.kaT) tabOK mixed (fun hw => kaU_e hw) (by omega) (fun x => ⟨rfl, rfl⟩) (fun x => ⟨rfl, rfl⟩) (fun x hx y _ => kaT_T β β' x y (ho x hx) h)
theorem kb7_T (β : Bool) (x : DInstr) (h : AH) : T Tryz.prog Γ Fn.kb7 [.agg (x.c β)] h fun v h' => v = .agg (x.c false) ∧ h' = h := by
  refine kb7_e (aw_sound tabOK mixed [] _ _ _ ?_)
  unfold kb7_c DInstr.c
  simp only [EY, if_true, if_false, Nat.reduceAdd, Option.bind_some, kb7_r]
  exact rfl
theorem kb8_T (β : Bool) (l : List DInstr) (hl : l.length ≤ 1048576) (h : AH) : T Tryz.prog Γ Fn.kb8 [.vs β 6 false (l.map (DInstr.c β))] h (Fresh h [.c (.sl 6 (l.map DInstr.cd))]) :=
  toS_own (szs := 6) (sz := 6) (bytes := 56) (z := [.int .i64 0, .int .i64 0, .int .i64 0, .int .i64 0, .int .i64 0, .str ⟨#[]⟩]) (f := Fn.kb7) tabOK mixed (fun hw => kb8_e hw) (by simp [maxMade]; omega) rfl rfl (fun x _ => ⟨rfl, rfl⟩) (fun x _ => rfl) (fun x hx H => (kb7_T β x H).flat (cs := x.cd) (by simp [DInstr.cd, CD.flat]) (by rw [DInstr.c_eq]))
theorem kbE_T (β : Bool) (x : DInstr) (hx : x.ok maxLen) (left : Int) (h0 : 0 ≤ left) (h1 : left ≤ 1048576) (h : AH) : T Tryz.prog Γ Fn.kbE [.agg (x.c β), .int .i64 left] h fun v h' => v = .int .i64 (x.szf left) ∧ h' = h := by
  have hml : maxLen ≤ 9223372036854775807 := by decide
  refine kbE_e (aw_sound tabOK mixed [] _ _ _ ?_)
  unfold kbE_c DInstr.c
  simp only [EY, if_true, if_false, Nat.reduceAdd, Option.bind_some, kbE_r, len_str]
  have hs1 : x.name.size ≤ maxLen := hx
  rw [wrap_nat (by omega) (by omega)]
  by_cases n1 : (left - (x.name.size : Int)) < 0
  · simp only [EY, if_true, if_false, Nat.reduceAdd, Option.bind_some, kbE_r, decide_eq_true n1]
    exact ⟨rfl, by simp only [DInstr.szf, n1, if_true, if_false]⟩
  simp only [EY, if_true, if_false, Nat.reduceAdd, Option.bind_some, kbE_r, decide_eq_false n1, len_str]
  exact ⟨rfl, by simp only [DInstr.szf, if_false, n1]⟩
theorem kbF_T (β : Bool) (l : List DInstr) (hl : l.length ≤ maxLen) (ho : ∀ x ∈ l, x.ok maxLen) (left : Int) (h0 : 0 ≤ left) (h1 : left ≤ 1048576) (h : AH) : T Tryz.prog Γ Fn.kbF [.vs β 6 false (l.map (DInstr.c β)), .int .i64 left] h fun v h' => v = .int .i64 (szL DInstr.szf l left) ∧ h' = h :=
  szS_T (f := Fn.kbE) tabOK mixed (fun hw => kbF_e hw) h0 h1 hl (fun x => ⟨rfl, rfl⟩) (fun x left a b c => (DInstr.szf_ok x left a b c).2) (fun x hx left a b => kbE_T β x (ho x hx) left a b h)
theorem kay_T (β β' : Bool) (x y : DInstr) (hx : x.ok 1073741824) (h : AH) : T Tryz.prog Γ Fn.kay [.agg (x.c β), .agg (y.c β')] h fun v h' => v = .bool (decide (x = y)) ∧ h' = h := by
  refine kay_e (aw_sound tabOK mixed [] _ _ _ ?_)
  unfold kay_c DInstr.c
  simp only [EY, if_true, if_false, Nat.reduceAdd, Option.bind_some, kay_r, ne_int, ne_bool, ne_str]
  by_cases n1 : x.op = y.op
  rotate_left
  · simp only [EY, if_true, if_false, Nat.reduceAdd, Option.bind_some, kay_r, decide_eq_false n1, Bool.not_false]
    exact ⟨rfl, by rw [decide_eq_false (fun e => n1 (by rw [e]))]⟩
  simp only [EY, if_true, if_false, Nat.reduceAdd, Option.bind_some, kay_r, decide_eq_true n1, Bool.not_true, ne_int, ne_bool, ne_str]
  by_cases n2 : x.a = y.a
  rotate_left
  · simp only [EY, if_true, if_false, Nat.reduceAdd, Option.bind_some, kay_r, decide_eq_false n2, Bool.not_false]
    exact ⟨rfl, by rw [decide_eq_false (fun e => n2 (by rw [e]))]⟩
  simp only [EY, if_true, if_false, Nat.reduceAdd, Option.bind_some, kay_r, decide_eq_true n2, Bool.not_true, ne_int, ne_bool, ne_str]
  by_cases n3 : x.b = y.b
  rotate_left
  · simp only [EY, if_true, if_false, Nat.reduceAdd, Option.bind_some, kay_r, decide_eq_false n3, Bool.not_false]
    exact ⟨rfl, by rw [decide_eq_false (fun e => n3 (by rw [e]))]⟩
  simp only [EY, if_true, if_false, Nat.reduceAdd, Option.bind_some, kay_r, decide_eq_true n3, Bool.not_true, ne_int, ne_bool, ne_str]
  by_cases n4 : x.c_ = y.c_
  rotate_left
  · simp only [EY, if_true, if_false, Nat.reduceAdd, Option.bind_some, kay_r, decide_eq_false n4, Bool.not_false]
    exact ⟨rfl, by rw [decide_eq_false (fun e => n4 (by rw [e]))]⟩
  simp only [EY, if_true, if_false, Nat.reduceAdd, Option.bind_some, kay_r, decide_eq_true n4, Bool.not_true, ne_int, ne_bool, ne_str]
  by_cases n5 : x.d = y.d
  rotate_left
  · simp only [EY, if_true, if_false, Nat.reduceAdd, Option.bind_some, kay_r, decide_eq_false n5, Bool.not_false]
    exact ⟨rfl, by rw [decide_eq_false (fun e => n5 (by rw [e]))]⟩
  simp only [EY, if_true, if_false, Nat.reduceAdd, Option.bind_some, kay_r, decide_eq_true n5, Bool.not_true, ne_int, ne_bool, ne_str]
  by_cases n6 : x.name = y.name
  rotate_left
  · simp only [EY, if_true, if_false, Nat.reduceAdd, Option.bind_some, kay_r, decide_eq_false n6, Bool.not_false]
    exact ⟨rfl, by rw [decide_eq_false (fun e => n6 (by rw [e]))]⟩
  simp only [EY, if_true, if_false, Nat.reduceAdd, Option.bind_some, kay_r, decide_eq_true n6, Bool.not_true, ne_int, ne_bool, ne_str]
  exact ⟨rfl, by rw [decide_eq_true (by cases x; cases y; simp only [DInstr.mk.injEq]; exact ⟨n1, n2, n3, n4, n5, n6⟩)]⟩
theorem kaz_T (β β' : Bool) (l m : List DInstr) (hl : l.length ≤ 1073741824) (ho : ∀ x ∈ l, x.ok 1073741824) (h : AH) : T Tryz.prog Γ Fn.kaz [.vs β 6 false (l.map (DInstr.c β)), .vs β' 6 false (m.map (DInstr.c β'))] h fun v h' => v = .bool (decide (l = m)) ∧ h' = h :=
  eqS_D (f := Fn.kay) tabOK mixed (fun hw => kaz_e hw) (by omega) (fun x => ⟨rfl, rfl⟩) (fun x => ⟨rfl, rfl⟩) (fun x hx y _ => kay_T β β' x y (ho x hx) h)
theorem kcd_T (β : Bool) (x : DMethod) (hx : x.ok 1048576) (h : AH) : T Tryz.prog Γ Fn.kcd [.agg (x.c β)] h (Fresh h [.a x.cd]) := by
  refine T.freshA (kcd_e (aw_sound tabOK mixed [] _ _ _ ?_))
  unfold kcd_c DMethod.c
  simp only [EY, if_true, if_false, Nat.reduceAdd, Option.bind_some, kcd_r]
  refine TCall.ref (by simp only [EO]) (kb8_T β x.code (hx.2.1) _) ?_
  intro v1 h1 q1
  obtain ⟨n1, f1, rfl, o1, nd1, b1⟩ := q1.one
  obtain ⟨c1a, c1b, c1c, c1d⟩ := o1.cell
  simp only [EY, if_true, if_false, Nat.reduceAdd, Option.bind_some, c1a, c1b, c1c, c1d, kcd_r]
  refine ⟨by simp only [EO, outOK, c1a, c1b, c1c, c1d], _, n1, _, rfl, by simp, (.s (.o o1 .nil)), ?_, ?_⟩
  · simpa using nd1
  · simpa using b1
theorem kce_T (β : Bool) (l : List DMethod) (hl : l.length ≤ 1048576) (ho : ∀ x ∈ l, x.ok 1048576) (h : AH) : T Tryz.prog Γ Fn.kce [.vs β 2 false (l.map (DMethod.c β))] h (Fresh h [.c (.sl 2 (l.map DMethod.cd))]) :=
  toS_own (szs := 2) (sz := 2) (bytes := 40) (z := [.str ⟨#[]⟩, .nils]) (f := Fn.kcd) tabOK mixed (fun hw => kce_e hw) (by simp [maxMade]; omega) rfl rfl (fun x _ => ⟨rfl, rfl⟩) (fun x _ => rfl) (fun x hx H => kcd_T β x (ho x hx) H)
theorem kbK_T (β : Bool) (x : DMethod) (hx : x.ok maxLen) (left : Int) (h0 : 0 ≤ left) (h1 : left ≤ 1048576) (h : AH) : T Tryz.prog Γ Fn.kbK [.agg (x.c β), .int .i64 left] h fun v h' => v = .int .i64 (x.szf left) ∧ h' = h := by
  have hml : maxLen ≤ 9223372036854775807 := by decide
  refine kbK_e (aw_sound tabOK mixed [] _ _ _ ?_)
  unfold kbK_c DMethod.c
  simp only [EY, if_true, if_false, Nat.reduceAdd, Option.bind_some, kbK_r, len_str]
  have hs1 : x.name.size ≤ maxLen := hx.1
  rw [wrap_nat (by omega) (by omega)]
  by_cases n1 : (left - (x.name.size : Int)) < 0
  · simp only [EY, if_true, if_false, Nat.reduceAdd, Option.bind_some, kbK_r, decide_eq_true n1]
    exact ⟨rfl, by simp only [DMethod.szf, n1, if_true, if_false]⟩
  simp only [EY, if_true, if_false, Nat.reduceAdd, Option.bind_some, kbK_r, decide_eq_false n1, len_str]
  refine TCall.val (by simp only [EO]) (kbF_T β x.code (hx.2.1) (hx.2.2) _ (by omega) (by omega) _) ?_
  simp only [EY, if_true, if_false, Nat.reduceAdd, Option.bind_some, kbK_r, len_str]
  by_cases n2 : (szL DInstr.szf x.code (left - (x.name.size : Int))) < 0
  · simp only [EY, if_true, if_false, Nat.reduceAdd, Option.bind_some, kbK_r, decide_eq_true n2]
    exact ⟨rfl, by simp only [DMethod.szf, n2, if_true, if_false, n1]⟩
  simp only [EY, if_true, if_false, Nat.reduceAdd, Option.bind_some, kbK_r, decide_eq_false n2, len_str]
  have q2 := (szL_ok (Q := DInstr.ok 1048576) (B := 1048576) (fun x left a b c => DInstr.szf_ok x left a b c) (by omega) (by omega) (Int.not_lt.1 n2)).2
  exact ⟨rfl, by simp only [DMethod.szf, if_false, n1, n2]⟩
theorem kbL_T (β : Bool) (l : List DMethod) (hl : l.length ≤ maxLen) (ho : ∀ x ∈ l, x.ok maxLen) (left : Int) (h0 : 0 ≤ left) (h1 : left ≤ 1048576) (h : AH) : T Tryz.prog Γ Fn.kbL [.vs β 2 false (l.map (DMethod.c β)), .int .i64 left] h fun v h' => v = .int .i64 (szL DMethod.szf l left) ∧ h' = h :=
  szS_T (f := Fn.kbK) tabOK mixed (fun hw => kbL_e hw) h0 h1 hl (fun x => ⟨rfl, rfl⟩) (fun x left a b c => (DMethod.szf_ok x left a b c).2) (fun x hx left a b => kbK_T β x (ho x hx) left a b h)
theorem kaE_T (β β' : Bool) (x y : DMethod) (hx : x.ok 1073741824) (h : AH) : T Tryz.prog Γ Fn.kaE [.agg (x.c β), .agg (y.c β')] h fun v h' => v = .bool (decide (x = y)) ∧ h' = h := by
  refine kaE_e (aw_sound tabOK mixed [] _ _ _ ?_)
  unfold kaE_c DMethod.c
  simp only [EY, if_true, if_false, Nat.reduceAdd, Option.bind_some, kaE_r, ne_int, ne_bool, ne_str]
  by_cases n1 : x.name = y.name
  rotate_left
  · simp only [EY, if_true, if_false, Nat.reduceAdd, Option.bind_some, kaE_r, decide_eq_false n1, Bool.not_false]
    exact ⟨rfl, by rw [decide_eq_false (fun e => n1 (by rw [e]))]⟩
  simp only [EY, if_true, if_false, Nat.reduceAdd, Option.bind_some, kaE_r, decide_eq_true n1, Bool.not_true, ne_int, ne_bool, ne_str]
  refine TCall.val (by simp only [EO]) (kaz_T β β' x.code y.code (hx.2.1) (hx.2.2) _) ?_
  simp only [EY, if_true, if_false, Nat.reduceAdd, Option.bind_some, kaE_r, ne_int, ne_bool, ne_str]
  by_cases n2 : x.code = y.code
  rotate_left
  · simp only [EY, if_true, if_false, Nat.reduceAdd, Option.bind_some, kaE_r, decide_eq_false n2, Bool.not_false]
    exact ⟨rfl, by rw [decide_eq_false (fun e => n2 (by rw [e]))]⟩
  simp only [EY, if_true, if_false, Nat.reduceAdd, Option.bind_some, kaE_r, decide_eq_true n2, Bool.not_true, ne_int, ne_bool, ne_str]
  exact ⟨rfl, by rw [decide_eq_true (by cases x; cases y; simp only [DMethod.mk.injEq]; exact ⟨n1, n2⟩)]⟩
theorem kaF_T (β β' : Bool) (l m : List DMethod) (hl : l.length ≤ 1073741824) (ho : ∀ x ∈ l, x.ok 1073741824) (h : AH) : T Tryz.prog Γ Fn.kaF [.vs β 2 false (l.map (DMethod.c β)), .vs β' 2 false (m.map (DMethod.c β'))] h fun v h' => v = .bool (decide (l = m)) ∧ h' = h :=
  eqS_D (f := Fn.kaE) tabOK mixed (fun hw => kaF_e hw) (by omega) (fun x => ⟨rfl, rfl⟩) (fun x => ⟨rfl, rfl⟩) (fun x hx y _ => kaE_T β β' x y (ho x hx) h)
theorem kcl_T (β : Bool) (x : DScript) (hx : x.ok 1048576) (h : AH) : T Tryz.prog Γ Fn.kcl [.agg (x.c β)] h (Fresh h [.a x.cd]) := by
  refine T.freshA (kcl_e (aw_sound tabOK mixed [] _ _ _ ?_))
  unfold kcl_c DScript.c
  simp only [EY, if_true, if_false, Nat.reduceAdd, Option.bind_some, kcl_r]
  refine TCall.ref (by simp only [EO]) (kce_T β x.methods (hx.2.1) (hx.2.2) _) ?_
  intro v1 h1 q1
  obtain ⟨n1, f1, rfl, o1, nd1, b1⟩ := q1.one
  obtain ⟨c1a, c1b, c1c, c1d⟩ := o1.cell
  simp only [EY, if_true, if_false, Nat.reduceAdd, Option.bind_some, c1a, c1b, c1c, c1d, kcl_r]
  refine ⟨by simp only [EO, outOK, c1a, c1b, c1c, c1d], _, n1, _, rfl, by simp, (.s (.o o1 .nil)), ?_, ?_⟩
  · simpa using nd1
  · simpa using b1
theorem kcm_T (β : Bool) (l : List DScript) (hl : l.length ≤ 1048576) (ho : ∀ x ∈ l, x.ok 1048576) (h : AH) : T Tryz.prog Γ Fn.kcm [.vs β 2 false (l.map (DScript.c β))] h (Fresh h [.c (.sl 2 (l.map DScript.cd))]) :=
  toS_own (szs := 2) (sz := 2) (bytes := 40) (z := [.str ⟨#[]⟩, .nils]) (f := Fn.kcl) tabOK mixed (fun hw => kcm_e hw) (by simp [maxMade]; omega) rfl rfl (fun x _ => ⟨rfl, rfl⟩) (fun x _ => rfl) (fun x hx H => kcl_T β x (ho x hx) H)
theorem kbQ_T (β : Bool) (x : DScript) (hx : x.ok maxLen) (left : Int) (h0 : 0 ≤ left) (h1 : left ≤ 1048576) (h : AH) : T Tryz.prog Γ Fn.kbQ [.agg (x.c β), .int .i64 left] h fun v h' => v = .int .i64 (x.szf left) ∧ h' = h := by
  have hml : maxLen ≤ 9223372036854775807 := by decide
  refine kbQ_e (aw_sound tabOK mixed [] _ _ _ ?_)
  unfold kbQ_c DScript.c
  simp only [EY, if_true, if_false, Nat.reduceAdd, Option.bind_some, kbQ_r, len_str]
  have hs1 : x.name.size ≤ maxLen := hx.1
  rw [wrap_nat (by omega) (by omega)]
  by_cases n1 : (left - (x.name.size : Int)) < 0
  · simp only [EY, if_true, if_false, Nat.reduceAdd, Option.bind_some, kbQ_r, decide_eq_true n1]
    exact ⟨rfl, by simp only [DScript.szf, n1, if_true, if_false]⟩
  simp only [EY, if_true, if_false, Nat.reduceAdd, Option.bind_some, kbQ_r, decide_eq_false n1, len_str]
  refine TCall.val (by simp only [EO]) (kbL_T β x.methods (hx.2.1) (hx.2.2) _ (by omega) (by omega) _) ?_
  simp only [EY, if_true, if_false, Nat.reduceAdd, Option.bind_some, kbQ_r, len_str]
  by_cases n2 : (szL DMethod.szf x.methods (left - (x.name.size : Int))) < 0
  · simp only [EY, if_true, if_false, Nat.reduceAdd, Option.bind_some, kbQ_r, decide_eq_true n2]
    exact ⟨rfl, by simp only [DScript.szf, n2, if_true, if_false, n1]⟩
  simp only [EY, if_true, if_false, Nat.reduceAdd, Option.bind_some, kbQ_r, decide_eq_false n2, len_str]
  have q2 := (szL_ok (Q := DMethod.ok 1048576) (B := 1048576) (fun x left a b c => DMethod.szf_ok x left a b c) (by omega) (by omega) (Int.not_lt.1 n2)).2
  exact ⟨rfl, by simp only [DScript.szf, if_false, n1, n2]⟩
theorem kbR_T (β : Bool) (l : List DScript) (hl : l.length ≤ maxLen) (ho : ∀ x ∈ l, x.ok maxLen) (left : Int) (h0 : 0 ≤ left) (h1 : left ≤ 1048576) (h : AH) : T Tryz.prog Γ Fn.kbR [.vs β 2 false (l.map (DScript.c β)), .int .i64 left] h fun v h' => v = .int .i64 (szL DScript.szf l left) ∧ h' = h :=
  szS_T (f := Fn.kbQ) tabOK mixed (fun hw => kbR_e hw) h0 h1 hl (fun x => ⟨rfl, rfl⟩) (fun x left a b c => (DScript.szf_ok x left a b c).2) (fun x hx left a b => kbQ_T β x (ho x hx) left a b h)
theorem kaM_T (β β' : Bool) (x y : DScript) (hx : x.ok 1073741824) (h : AH) : T Tryz.prog Γ Fn.kaM [.agg (x.c β), .agg (y.c β')] h fun v h' => v = .bool (decide (x = y)) ∧ h' = h := by
  refine kaM_e (aw_sound tabOK mixed [] _ _ _ ?_)
  unfold kaM_c DScript.c
  simp only [EY, if_true, if_false, Nat.reduceAdd, Option.bind_some, kaM_r, ne_int, ne_bool, ne_str]
  by_cases n1 : x.name = y.name
  rotate_left
  · simp only [EY, if_true, if_false, Nat.reduceAdd, Option.bind_some, kaM_r, decide_eq_false n1, Bool.not_false]
    exact ⟨rfl, by rw [decide_eq_false (fun e => n1 (by rw [e]))]⟩
  simp only [EY, if_true, if_false, Nat.reduceAdd, Option.bind_some, kaM_r, decide_eq_true n1, Bool.not_true, ne_int, ne_bool, ne_str]
  refine TCall.val (by simp only [EO]) (kaF_T β β' x.methods y.methods (hx.2.1) (hx.2.2) _) ?_
  simp only [EY, if_true, if_false, Nat.reduceAdd, Option.bind_some, kaM_r, ne_int, ne_bool, ne_str]
  by_cases n2 : x.methods = y.methods
  rotate_left
  · simp only [EY, if_true, if_false, Nat.reduceAdd, Option.bind_some, kaM_r, decide_eq_false n2, Bool.not_false]
    exact ⟨rfl, by rw [decide_eq_false (fun e => n2 (by rw [e]))]⟩
  simp only [EY, if_true, if_false, Nat.reduceAdd, Option.bind_some, kaM_r, decide_eq_true n2, Bool.not_true, ne_int, ne_bool, ne_str]
  exact ⟨rfl, by rw [decide_eq_true (by cases x; cases y; simp only [DScript.mk.injEq]; exact ⟨n1, n2⟩)]⟩
theorem kaN_T (β β' : Bool) (l m : List DScript) (hl : l.length ≤ 1073741824) (ho : ∀ x ∈ l, x.ok 1073741824) (h : AH) : T Tryz.prog Γ Fn.kaN [.vs β 2 false (l.map (DScript.c β)), .vs β' 2 false (m.map (DScript.c β'))] h fun v h' => v = .bool (decide (l = m)) ∧ h' = h :=
  eqS_D (f := Fn.kaM) tabOK mixed (fun hw => kaN_e hw) (by omega) (fun x => ⟨rfl, rfl⟩) (fun x => ⟨rfl, rfl⟩) (fun x hx y _ => kaM_T β β' x y (ho x hx) h)
theorem kb1_T (β : Bool) (x : DChannel) (hx : x.ok 1048576) (h : AH) : T Tryz.prog Γ Fn.kb1 [.agg (x.c β)] h (Fresh h [.a x.cd]) := by
  refine T.freshA (kb1_e (aw_sound tabOK mixed [] _ _ _ ?_))
  unfold kb1_c DChannel.c
  simp only [EY, if_true, if_false, Nat.reduceAdd, Option.bind_some, kb1_r]
  refine TCall.ref (by simp only [EO]) (kcc_T β x.list (hx.1) (hx.2) _) ?_
  intro v1 h1 q1
  obtain ⟨n1, f1, rfl, o1, nd1, b1⟩ := q1.one
  obtain ⟨c1a, c1b, c1c, c1d⟩ := o1.cell
  simp only [EY, if_true, if_false, Nat.reduceAdd, Option.bind_some, c1a, c1b, c1c, c1d, kb1_r]
  refine ⟨by simp only [EO, outOK, c1a, c1b, c1c, c1d], _, n1, _, rfl, by simp, (.i (.i (.o o1 .nil))), ?_, ?_⟩
  · simpa using nd1
  · simpa using b1
theorem kb2_T (β : Bool) (l : List DChannel) (hl : l.length ≤ 1048576) (ho : ∀ x ∈ l, x.ok 1048576) (h : AH) : T Tryz.prog Γ Fn.kb2 [.vs β 3 false (l.map (DChannel.c β))] h (Fresh h [.c (.sl 3 (l.map DChannel.cd))]) :=
  toS_own (szs := 3) (sz := 3) (bytes := 40) (z := [.int .i64 0, .int .i64 0, .nils]) (f := Fn.kb1) tabOK mixed (fun hw => kb2_e hw) (by simp [maxMade]; omega) rfl rfl (fun x _ => ⟨rfl, rfl⟩) (fun x _ => rfl) (fun x hx H => kb1_T β x (ho x hx) H)
theorem kbz_T (β : Bool) (x : DChannel) (hx : x.ok maxLen) (left : Int) (h0 : 0 ≤ left) (h1 : left ≤ 1048576) (h : AH) : T Tryz.prog Γ Fn.kbz [.agg (x.c β), .int .i64 left] h fun v h' => v = .int .i64 (x.szf left) ∧ h' = h := by
  have hml : maxLen ≤ 9223372036854775807 := by decide
  refine kbz_e (aw_sound tabOK mixed [] _ _ _ ?_)
  unfold kbz_c DChannel.c
  simp only [EY, if_true, if_false, Nat.reduceAdd, Option.bind_some, kbz_r, len_str]
  refine TCall.val (by simp only [EO]) (kbJ_T β x.list (hx.1) (hx.2) _ (by omega) (by omega) _) ?_
  simp only [EY, if_true, if_false, Nat.reduceAdd, Option.bind_some, kbz_r, len_str]
  by_cases n1 : (szL DMessage.szf x.list left) < 0
  · simp only [EY, if_true, if_false, Nat.reduceAdd, Option.bind_some, kbz_r, decide_eq_true n1]
    exact ⟨rfl, by simp only [DChannel.szf, n1, if_true, if_false]⟩
  simp only [EY, if_true, if_false, Nat.reduceAdd, Option.bind_some, kbz_r, decide_eq_false n1, len_str]
  have q1 := (szL_ok (Q := DMessage.ok 1048576) (B := 1048576) (fun x left a b c => DMessage.szf_ok x left a b c) (by omega) (by omega) (Int.not_lt.1 n1)).2
  exact ⟨rfl, by simp only [DChannel.szf, if_false, n1]⟩
theorem kbA_T (β : Bool) (l : List DChannel) (hl : l.length ≤ maxLen) (ho : ∀ x ∈ l, x.ok maxLen) (left : Int) (h0 : 0 ≤ left) (h1 : left ≤ 1048576) (h : AH) : T Tryz.prog Γ Fn.kbA [.vs β 3 false (l.map (DChannel.c β)), .int .i64 left] h fun v h' => v = .int .i64 (szL DChannel.szf l left) ∧ h' = h :=
  szS_T (f := Fn.kbz) tabOK mixed (fun hw => kbA_e hw) h0 h1 hl (fun x => ⟨rfl, rfl⟩) (fun x left a b c => (DChannel.szf_ok x left a b c).2) (fun x hx left a b => kbz_T β x (ho x hx) left a b h)
theorem kas_T (β β' : Bool) (x y : DChannel) (hx : x.ok 1073741824) (h : AH) : T Tryz.prog Γ Fn.kas [.agg (x.c β), .agg (y.c β')] h fun v h' => v = .bool (decide (x = y)) ∧ h' = h := by
  refine kas_e (aw_sound tabOK mixed [] _ _ _ ?_)
  unfold kas_c DChannel.c
  simp only [EY, if_true, if_false, Nat.reduceAdd, Option.bind_some, kas_r, ne_int, ne_bool, ne_str]
  by_cases n1 : x.frm = y.frm
  rotate_left
  · simp only [EY, if_true, if_false, Nat.reduceAdd, Option.bind_some, kas_r, decide_eq_false n1, Bool.not_false]
    exact ⟨rfl, by rw [decide_eq_false (fun e => n1 (by rw [e]))]⟩
  simp only [EY, if_true, if_false, Nat.reduceAdd, Option.bind_some, kas_r, decide_eq_true n1, Bool.not_true, ne_int, ne_bool, ne_str]
  by_cases n2 : x.to_ = y.to_
  rotate_left
  · simp only [EY, if_true, if_false, Nat.reduceAdd, Option.bind_some, kas_r, decide_eq_false n2, Bool.not_false]
    exact ⟨rfl, by rw [decide_eq_false (fun e => n2 (by rw [e]))]⟩
  simp only [EY, if_true, if_false, Nat.reduceAdd, Option.bind_some, kas_r, decide_eq_true n2, Bool.not_true, ne_int, ne_bool, ne_str]
  refine TCall.val (by simp only [EO]) (kaD_T β β' x.list y.list (hx.1) (hx.2) _) ?_
  simp only [EY, if_true, if_false, Nat.reduceAdd, Option.bind_some, kas_r, ne_int, ne_bool, ne_str]
  by_cases n3 : x.list = y.list
  rotate_left
  · simp only [EY, if_true, if_false, Nat.reduceAdd, Option.bind_some, kas_r, decide_eq_false n3, Bool.not_false]
    exact ⟨rfl, by rw [decide_eq_false (fun e => n3 (by rw [e]))]⟩
  simp only [EY, if_true, if_false, Nat.reduceAdd, Option.bind_some, kas_r, decide_eq_true n3, Bool.not_true, ne_int, ne_bool, ne_str]
  exact ⟨rfl, by rw [decide_eq_true (by cases x; cases y; simp only [DChannel.mk.injEq]; exact ⟨n1, n2, n3⟩)]⟩
theorem kat_T (β β' : Bool) (l m : List DChannel) (hl : l.length ≤ 1073741824) (ho : ∀ x ∈ l, x.ok 1073741824) (h : AH) : T Tryz.prog Γ Fn.kat [.vs β 3 false (l.map (DChannel.c β)), .vs β' 3 false (m.map (DChannel.c β'))] h fun v h' => v = .bool (decide (l = m)) ∧ h' = h :=
  eqS_D (f := Fn.kas) tabOK mixed (fun hw => kat_e hw) (by omega) (fun x => ⟨rfl, rfl⟩) (fun x => ⟨rfl, rfl⟩) (fun x hx y _ => kas_T β β' x y (ho x hx) h)
theorem kcf_T (β : Bool) (x : DNote) (h : AH) : T Tryz.prog Γ Fn.kcf [.agg (x.c β)] h fun v h' => v = .agg (x.c false) ∧ h' = h := by
  refine kcf_e (aw_sound tabOK mixed [] _ _ _ ?_)
  unfold kcf_c DNote.c
  simp only [EY, if_true, if_false, Nat.reduceAdd, Option.bind_some, kcf_r]
  refine TCall.val (by simp only [EO]) (kcp_T β x.tag _) ?_
  simp only [EY, if_true, if_false, Nat.reduceAdd, Option.bind_some, DTag.c, kcf_r]
  exact rfl
theorem kcg_T (β : Bool) (l : List DNote) (hl : l.length ≤ 1048576) (h : AH) : T Tryz.prog Γ Fn.kcg [.vs β 6 false (l.map (DNote.c β))] h (Fresh h [.c (.sl 6 (l.map DNote.cd))]) :=
  toS_own (szs := 6) (sz := 6) (bytes := 48) (z := [.int .i64 0, .int .i64 0, .int .i64 0, .int .i64 0, .int .i64 0, .int .i64 0]) (f := Fn.kcf) tabOK mixed (fun hw => kcg_e hw) (by simp [maxMade]; omega) rfl rfl (fun x _ => ⟨rfl, rfl⟩) (fun x _ => rfl) (fun x hx H => (kcf_T β x H).flat (cs := x.cd) (by simp [DNote.cd, CD.flat]) (by rw [DNote.c_eq]))
theorem kbM_T (β : Bool) (l : List DNote) (hl : l.length ≤ maxLen) (left : Int) (h0 : 0 ≤ left) (h1 : left ≤ 1048576) (h : AH) : T Tryz.prog Γ Fn.kbM [.vs β 6 false (l.map (DNote.c β)), .int .i64 left] h fun v h' => v = .int .i64 (szN l left) ∧ h' = h :=
  szF_T tabOK mixed (fun hw => kbM_e hw) h0 h1 hl
theorem kaG_T (β β' : Bool) (x y : DNote) (h : AH) : T Tryz.prog Γ Fn.kaG [.agg (x.c β), .agg (y.c β')] h fun v h' => v = .bool (decide (x = y)) ∧ h' = h := by
  refine kaG_e (aw_sound tabOK mixed [] _ _ _ ?_)
  unfold kaG_c DNote.c
  simp only [EY, if_true, if_false, Nat.reduceAdd, Option.bind_some, kaG_r, ne_int, ne_bool, ne_str]
  by_cases n1 : x.kind = y.kind
  rotate_left
  · simp only [EY, if_true, if_false, Nat.reduceAdd, Option.bind_some, kaG_r, decide_eq_false n1, Bool.not_false]
    exact ⟨rfl, by rw [decide_eq_false (fun e => n1 (by rw [e]))]⟩
  simp only [EY, if_true, if_false, Nat.reduceAdd, Option.bind_some, kaG_r, decide_eq_true n1, Bool.not_true, ne_int, ne_bool, ne_str]
  by_cases n2 : x.vat = y.vat
  rotate_left
  · simp only [EY, if_true, if_false, Nat.reduceAdd, Option.bind_some, kaG_r, decide_eq_false n2, Bool.not_false]
    exact ⟨rfl, by rw [decide_eq_false (fun e => n2 (by rw [e]))]⟩
  simp only [EY, if_true, if_false, Nat.reduceAdd, Option.bind_some, kaG_r, decide_eq_true n2, Bool.not_true, ne_int, ne_bool, ne_str]
  by_cases n3 : x.entity = y.entity
  rotate_left
  · simp only [EY, if_true, if_false, Nat.reduceAdd, Option.bind_some, kaG_r, decide_eq_false n3, Bool.not_false]
    exact ⟨rfl, by rw [decide_eq_false (fun e => n3 (by rw [e]))]⟩
  simp only [EY, if_true, if_false, Nat.reduceAdd, Option.bind_some, kaG_r, decide_eq_true n3, Bool.not_true, ne_int, ne_bool, ne_str]
  refine TCall.val (by simp only [EO]) (kaQ_T β β' x.tag y.tag _) ?_
  simp only [EY, if_true, if_false, Nat.reduceAdd, Option.bind_some, kaG_r, ne_int, ne_bool, ne_str]
  by_cases n4 : x.tag = y.tag
  rotate_left
  · simp only [EY, if_true, if_false, Nat.reduceAdd, Option.bind_some, kaG_r, decide_eq_false n4, Bool.not_false]
    exact ⟨rfl, by rw [decide_eq_false (fun e => n4 (by rw [e]))]⟩
  simp only [EY, if_true, if_false, Nat.reduceAdd, Option.bind_some, kaG_r, decide_eq_true n4, Bool.not_true, ne_int, ne_bool, ne_str]
  exact ⟨rfl, by rw [decide_eq_true (by cases x; cases y; simp only [DNote.mk.injEq]; exact ⟨n1, n2, n3, n4⟩)]⟩
theorem kaH_T (β β' : Bool) (l m : List DNote) (hl : l.length ≤ 1073741824) (h : AH) : T Tryz.prog Γ Fn.kaH [.vs β 6 false (l.map (DNote.c β)), .vs β' 6 false (m.map (DNote.c β'))] h fun v h' => v = .bool (decide (l = m)) ∧ h' = h :=
  eqS_D (f := Fn.kaG) tabOK mixed (fun hw => kaH_e hw) (by omega) (fun x => ⟨rfl, rfl⟩) (fun x => ⟨rfl, rfl⟩) (fun x hx y _ => kaG_T β β' x y h)
theorem kcw_T (β : Bool) (x : DWorld) (hx : x.ok 1048576) (h : AH) : T Tryz.prog Γ Fn.kcw [.agg (x.c β)] h (Fresh h [.a x.cd]) := by
  refine T.freshA (kcw_e (aw_sound tabOK mixed [] _ _ _ ?_))
  unfold kcw_c DWorld.c
  simp only [EY, if_true, if_false, Nat.reduceAdd, Option.bind_some, kcw_r]
  refine TCall.ref (by simp only [EO]) (kcm_T β x.library (hx.1) (hx.2.1) _) ?_
  intro v1 h1 q1
  obtain ⟨n1, f1, rfl, o1, nd1, b1⟩ := q1.one
  obtain ⟨c1a, c1b, c1c, c1d⟩ := o1.cell
  simp only [EY, if_true, if_false, Nat.reduceAdd, Option.bind_some, c1a, c1b, c1c, c1d, kcw_r]
  refine TCall.ref (by simp only [EO]) (kct_T β x.vats (hx.2.2.1) (hx.2.2.2.1) _) ?_
  intro v2 h2 q2
  obtain ⟨n2, f2, rfl, o2, nd2, b2⟩ := q2.one
  obtain ⟨c2a, c2b, c2c, c2d⟩ := o2.cell
  simp only [EY, if_true, if_false, Nat.reduceAdd, Option.bind_some, c1a, c1b, c1c, c1d, c2a, c2b, c2c, c2d, kcw_r]
  refine TCall.ref (by simp only [EO]) (kb2_T β x.channels (hx.2.2.2.2.1) (hx.2.2.2.2.2.1) _) ?_
  intro v3 h3 q3
  obtain ⟨n3, f3, rfl, o3, nd3, b3⟩ := q3.one
  obtain ⟨c3a, c3b, c3c, c3d⟩ := o3.cell
  simp only [EY, if_true, if_false, Nat.reduceAdd, Option.bind_some, c1a, c1b, c1c, c1d, c2a, c2b, c2c, c2d, c3a, c3b, c3c, c3d, kcw_r]
  refine TCall.ref (by simp only [EO]) (kcg_T β x.notes (hx.2.2.2.2.2.2) _) ?_
  intro v4 h4 q4
  obtain ⟨n4, f4, rfl, o4, nd4, b4⟩ := q4.one
  obtain ⟨c4a, c4b, c4c, c4d⟩ := o4.cell
  simp only [EY, if_true, if_false, Nat.reduceAdd, Option.bind_some, c1a, c1b, c1c, c1d, c2a, c2b, c2c, c2d, c3a, c3b, c3c, c3d, c4a, c4b, c4c, c4d, kcw_r]
  refine ⟨by simp only [EO, outOK, c1a, c1b, c1c, c1d, c2a, c2b, c2c, c2d, c3a, c3b, c3c, c3d, c4a, c4b, c4c, c4d], _, n1 ++ n2 ++ n3 ++ n4, _, rfl, by simp, (.o o1.grow.grow.grow (.o o2.grow.grow (.o o3.grow (.o o4 (.i .nil))))), ?_, ?_⟩
  · simp only [List.append_nil]
    exact nodup_app nd1 (nodup_app nd2 (nodup_app nd3 (nd4) (fun b hb => o3.lt b hb) (fun b hb => by (try simp only [List.mem_append] at hb); first | (have := b4 b hb; simp only [List.length_append] at this ⊢; omega))) (fun b hb => o2.lt b hb) (fun b hb => by (try simp only [List.mem_append] at hb); rcases hb with hb | hb <;> first | (have := b3 b hb; simp only [List.length_append] at this ⊢; omega) | (have := b4 b hb; simp only [List.length_append] at this ⊢; omega))) (fun b hb => o1.lt b hb) (fun b hb => by (try simp only [List.mem_append] at hb); rcases hb with hb | hb | hb <;> first | (have := b2 b hb; simp only [List.length_append] at this ⊢; omega) | (have := b3 b hb; simp only [List.length_append] at this ⊢; omega) | (have := b4 b hb; simp only [List.length_append] at this ⊢; omega))
  · intro b hb
    simp only [List.append_nil, List.mem_append] at hb
    rcases hb with hb | hb | hb | hb <;> first | (have := b1 b hb; simp only [List.length_append] at this ⊢; omega) | (have := b2 b hb; simp only [List.length_append] at this ⊢; omega) | (have := b3 b hb; simp only [List.length_append] at this ⊢; omega) | (have := b4 b hb; simp only [List.length_append] at this ⊢; omega)
theorem kcw_V (β : Bool) (x : DWorld) (hx : x.ok 1048576) (h : AH) : T Tryz.prog Γ Fn.kcw [.agg (x.c β)] h fun v h' => v = .agg (x.c false) ∧ h' = h := by
  have := (kcw_T (Γ := Γ) β x hx h).valA; rwa [DWorld.c_eq] at this
theorem kbY_T (β : Bool) (x : DWorld) (hx : x.ok maxLen) (left : Int) (h0 : 0 ≤ left) (h1 : left ≤ 1048576) (h : AH) : T Tryz.prog Γ Fn.kbY [.agg (x.c β), .int .i64 left] h fun v h' => v = .int .i64 (x.szf left) ∧ h' = h := by
  have hml : maxLen ≤ 9223372036854775807 := by decide
  refine kbY_e (aw_sound tabOK mixed [] _ _ _ ?_)
  unfold kbY_c DWorld.c
  simp only [EY, if_true, if_false, Nat.reduceAdd, Option.bind_some, kbY_r, len_str]
  refine TCall.val (by simp only [EO]) (kbR_T β x.library (hx.1) (hx.2.1) _ (by omega) (by omega) _) ?_
  simp only [EY, if_true, if_false, Nat.reduceAdd, Option.bind_some, kbY_r, len_str]
  by_cases n1 : (szL DScript.szf x.library left) < 0
  · simp only [EY, if_true, if_false, Nat.reduceAdd, Option.bind_some, kbY_r, decide_eq_true n1]
    exact ⟨rfl, by simp only [DWorld.szf, n1, if_true, if_false]⟩
  simp only [EY, if_true, if_false, Nat.reduceAdd, Option.bind_some, kbY_r, decide_eq_false n1, len_str]
  have q1 := (szL_ok (Q := DScript.ok 1048576) (B := 1048576) (fun x left a b c => DScript.szf_ok x left a b c) (by omega) (by omega) (Int.not_lt.1 n1)).2
  refine TCall.val (by simp only [EO]) (kbW_T β x.vats (hx.2.2.1) (hx.2.2.2.1) _ (by omega) (by omega) _) ?_
  simp only [EY, if_true, if_false, Nat.reduceAdd, Option.bind_some, kbY_r, len_str]
  by_cases n2 : (szL DVat.szf x.vats (szL DScript.szf x.library left)) < 0
  · simp only [EY, if_true, if_false, Nat.reduceAdd, Option.bind_some, kbY_r, decide_eq_true n2]
    exact ⟨rfl, by simp only [DWorld.szf, n2, if_true, if_false, n1]⟩
  simp only [EY, if_true, if_false, Nat.reduceAdd, Option.bind_some, kbY_r, decide_eq_false n2, len_str]
  have q2 := (szL_ok (Q := DVat.ok 1048576) (B := 1048576) (fun x left a b c => DVat.szf_ok x left a b c) (by omega) (by omega) (Int.not_lt.1 n2)).2
  refine TCall.val (by simp only [EO]) (kbA_T β x.channels (hx.2.2.2.2.1) (hx.2.2.2.2.2.1) _ (by omega) (by omega) _) ?_
  simp only [EY, if_true, if_false, Nat.reduceAdd, Option.bind_some, kbY_r, len_str]
  by_cases n3 : (szL DChannel.szf x.channels (szL DVat.szf x.vats (szL DScript.szf x.library left))) < 0
  · simp only [EY, if_true, if_false, Nat.reduceAdd, Option.bind_some, kbY_r, decide_eq_true n3]
    exact ⟨rfl, by simp only [DWorld.szf, n3, if_true, if_false, n1, n2]⟩
  simp only [EY, if_true, if_false, Nat.reduceAdd, Option.bind_some, kbY_r, decide_eq_false n3, len_str]
  have q3 := (szL_ok (Q := DChannel.ok 1048576) (B := 1048576) (fun x left a b c => DChannel.szf_ok x left a b c) (by omega) (by omega) (Int.not_lt.1 n3)).2
  refine TCall.val (by simp only [EO]) (kbM_T β x.notes (hx.2.2.2.2.2.2) _ (by omega) (by omega) _) ?_
  simp only [EY, if_true, if_false, Nat.reduceAdd, Option.bind_some, kbY_r, len_str]
  by_cases n4 : (szN x.notes (szL DChannel.szf x.channels (szL DVat.szf x.vats (szL DScript.szf x.library left)))) < 0
  · simp only [EY, if_true, if_false, Nat.reduceAdd, Option.bind_some, kbY_r, decide_eq_true n4]
    exact ⟨rfl, by simp only [DWorld.szf, n4, if_true, if_false, n1, n2, n3]⟩
  simp only [EY, if_true, if_false, Nat.reduceAdd, Option.bind_some, kbY_r, decide_eq_false n4, len_str]
  have q4 := (szN_ok (Int.not_lt.1 n4)).2
  exact ⟨rfl, by simp only [DWorld.szf, if_false, n1, n2, n3, n4]⟩
theorem kaX_T (β β' : Bool) (x y : DWorld) (hx : x.ok 1073741824) (h : AH) : T Tryz.prog Γ Fn.kaX [.agg (x.c β), .agg (y.c β')] h fun v h' => v = .bool (decide (x = y)) ∧ h' = h := by
  refine kaX_e (aw_sound tabOK mixed [] _ _ _ ?_)
  unfold kaX_c DWorld.c
  simp only [EY, if_true, if_false, Nat.reduceAdd, Option.bind_some, kaX_r, ne_int, ne_bool, ne_str]
  refine TCall.val (by simp only [EO]) (kaN_T β β' x.library y.library (hx.1) (hx.2.1) _) ?_
  simp only [EY, if_true, if_false, Nat.reduceAdd, Option.bind_some, kaX_r, ne_int, ne_bool, ne_str]
  by_cases n1 : x.library = y.library
  rotate_left
  · simp only [EY, if_true, if_false, Nat.reduceAdd, Option.bind_some, kaX_r, decide_eq_false n1, Bool.not_false]
    exact ⟨rfl, by rw [decide_eq_false (fun e => n1 (by rw [e]))]⟩
  simp only [EY, if_true, if_false, Nat.reduceAdd, Option.bind_some, kaX_r, decide_eq_true n1, Bool.not_true, ne_int, ne_bool, ne_str]
  refine TCall.val (by simp only [EO]) (kaU_T β β' x.vats y.vats (hx.2.2.1) (hx.2.2.2.1) _) ?_
  simp only [EY, if_true, if_false, Nat.reduceAdd, Option.bind_some, kaX_r, ne_int, ne_bool, ne_str]
  by_cases n2 : x.vats = y.vats
  rotate_left
  · simp only [EY, if_true, if_false, Nat.reduceAdd, Option.bind_some, kaX_r, decide_eq_false n2, Bool.not_false]
    exact ⟨rfl, by rw [decide_eq_false (fun e => n2 (by rw [e]))]⟩
  simp only [EY, if_true, if_false, Nat.reduceAdd, Option.bind_some, kaX_r, decide_eq_true n2, Bool.not_true, ne_int, ne_bool, ne_str]
  refine TCall.val (by simp only [EO]) (kat_T β β' x.channels y.channels (hx.2.2.2.2.1) (hx.2.2.2.2.2.1) _) ?_
  simp only [EY, if_true, if_false, Nat.reduceAdd, Option.bind_some, kaX_r, ne_int, ne_bool, ne_str]
  by_cases n3 : x.channels = y.channels
  rotate_left
  · simp only [EY, if_true, if_false, Nat.reduceAdd, Option.bind_some, kaX_r, decide_eq_false n3, Bool.not_false]
    exact ⟨rfl, by rw [decide_eq_false (fun e => n3 (by rw [e]))]⟩
  simp only [EY, if_true, if_false, Nat.reduceAdd, Option.bind_some, kaX_r, decide_eq_true n3, Bool.not_true, ne_int, ne_bool, ne_str]
  refine TCall.val (by simp only [EO]) (kaH_T β β' x.notes y.notes (hx.2.2.2.2.2.2) _) ?_
  simp only [EY, if_true, if_false, Nat.reduceAdd, Option.bind_some, kaX_r, ne_int, ne_bool, ne_str]
  by_cases n4 : x.notes = y.notes
  rotate_left
  · simp only [EY, if_true, if_false, Nat.reduceAdd, Option.bind_some, kaX_r, decide_eq_false n4, Bool.not_false]
    exact ⟨rfl, by rw [decide_eq_false (fun e => n4 (by rw [e]))]⟩
  simp only [EY, if_true, if_false, Nat.reduceAdd, Option.bind_some, kaX_r, decide_eq_true n4, Bool.not_true, ne_int, ne_bool, ne_str]
  by_cases n5 : x.strays = y.strays
  rotate_left
  · simp only [EY, if_true, if_false, Nat.reduceAdd, Option.bind_some, kaX_r, decide_eq_false n5, Bool.not_false]
    exact ⟨rfl, by rw [decide_eq_false (fun e => n5 (by rw [e]))]⟩
  simp only [EY, if_true, if_false, Nat.reduceAdd, Option.bind_some, kaX_r, decide_eq_true n5, Bool.not_true, ne_int, ne_bool, ne_str]
  exact ⟨rfl, by rw [decide_eq_true (by cases x; cases y; simp only [DWorld.mk.injEq]; exact ⟨n1, n2, n3, n4, n5⟩)]⟩
end Go.Proofs.YtleddolmolkpfaaGreat
