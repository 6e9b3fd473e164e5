import Derived.Test.YtccjhmhkfnnmaaaGreatCodeMayTouch
import Derived.Test.YtccjhmhkfnnmaaaGreatAmSz
set_option linter.unusedVariables false
set_option linter.unusedSimpArgs false
namespace Go.Proofs.YtccjhmhkfnnmaaaGreat
open Go.AM
set_option linter.unusedVariables false
set_option linter.unusedSimpArgs false
variable {Γ : Glob}
theorem kbs_T (β : Bool) (x : DValue) (h : AH) : T Tryz.prog Γ Fn.kbs [.agg (x.c β)] h fun v h' => v = .agg (x.c false) ∧ h' = h := by
  refine kbs_e (aw_sound tabOK mixed [] _ _ _ ?_)
  unfold kbs_c DValue.c
  simp only [EY, if_true, if_false, Nat.reduceAdd, Option.bind_some, kbs_r]
  exact rfl
theorem kbt_T (β : Bool) (l : List DValue) (hl : l.length ≤ 1048576) (h : AH) : T Tryz.prog Γ Fn.kbt [.vs β 2 false (l.map (DValue.c β))] h (Fresh h [.c (.sl 2 (l.map DValue.cd))]) :=
  toS_own (szs := 2) (sz := 2) (bytes := 16) (z := [.int .i64 0, .int .i64 0]) (f := Fn.kbs) tabOK mixed (fun hw => kbt_e hw) (by simp [maxMade]; omega) rfl rfl (fun x _ => ⟨rfl, rfl⟩) (fun x _ => rfl) (fun x hx H => (kbs_T β x H).flat (cs := x.cd) (by simp [DValue.cd, CD.flat]) (by rw [DValue.c_eq]))
theorem ka9_T (β : Bool) (l : List DValue) (hl : l.length ≤ maxLen) (left : Int) (h0 : 0 ≤ left) (h1 : left ≤ 1048576) (h : AH) : T Tryz.prog Γ Fn.ka9 [.vs β 2 false (l.map (DValue.c β)), .int .i64 left] h fun v h' => v = .int .i64 (szN l left) ∧ h' = h :=
  szF_T tabOK mixed (fun hw => ka9_e hw) h0 h1 hl
theorem kaF_T (β β' : Bool) (x y : DValue) (h : AH) : T Tryz.prog Γ Fn.kaF [.agg (x.c β), .agg (y.c β')] h fun v h' => v = .bool (decide (x = y)) ∧ h' = h := by
  refine kaF_e (aw_sound tabOK mixed [] _ _ _ ?_)
  unfold kaF_c DValue.c
  simp only [EY, if_true, if_false, Nat.reduceAdd, Option.bind_some, kaF_r, ne_int, ne_bool, ne_str]
  by_cases n1 : x.kind = y.kind
  rotate_left
  · simp only [EY, if_true, if_false, Nat.reduceAdd, Option.bind_some, kaF_r, decide_eq_false n1, Bool.not_false]
    exact ⟨rfl, by rw [decide_eq_false (fun e => n1 (by rw [e]))]⟩
  simp only [EY, if_true, if_false, Nat.reduceAdd, Option.bind_some, kaF_r, decide_eq_true n1, Bool.not_true, ne_int, ne_bool, ne_str]
  by_cases n2 : x.n = y.n
  rotate_left
  · simp only [EY, if_true, if_false, Nat.reduceAdd, Option.bind_some, kaF_r, decide_eq_false n2, Bool.not_false]
    exact ⟨rfl, by rw [decide_eq_false (fun e => n2 (by rw [e]))]⟩
  simp only [EY, if_true, if_false, Nat.reduceAdd, Option.bind_some, kaF_r, decide_eq_true n2, Bool.not_true, ne_int, ne_bool, ne_str]
  exact ⟨rfl, by rw [decide_eq_true (by cases x; cases y; simp only [DValue.mk.injEq]; exact ⟨n1, n2⟩)]⟩
theorem kaG_T (β β' : Bool) (l m : List DValue) (hl : l.length ≤ 1073741824) (h : AH) : T Tryz.prog Γ Fn.kaG [.vs β 2 false (l.map (DValue.c β)), .vs β' 2 false (m.map (DValue.c β'))] h fun v h' => v = .bool (decide (l = m)) ∧ h' = h :=
  eqS_D (f := Fn.kaF) tabOK mixed (fun hw => kaG_e hw) (by omega) (fun x => ⟨rfl, rfl⟩) (fun x => ⟨rfl, rfl⟩) (fun x hx y _ => kaF_T β β' x y h)
theorem kbr_T (β : Bool) (x : DTag) (h : AH) : T Tryz.prog Γ Fn.kbr [.agg (x.c β)] h fun v h' => v = .agg (x.c false) ∧ h' = h := by
  refine kbr_e (aw_sound tabOK mixed [] _ _ _ ?_)
  unfold kbr_c DTag.c
  simp only [EY, if_true, if_false, Nat.reduceAdd, Option.bind_some, kbr_r]
  exact rfl
theorem kaE_T (β β' : Bool) (x y : DTag) (h : AH) : T Tryz.prog Γ Fn.kaE [.agg (x.c β), .agg (y.c β')] h fun v h' => v = .bool (decide (x = y)) ∧ h' = h := by
  refine kaE_e (aw_sound tabOK mixed [] _ _ _ ?_)
  unfold kaE_c DTag.c
  simp only [EY, if_true, if_false, Nat.reduceAdd, Option.bind_some, kaE_r, ne_int, ne_bool, ne_str]
  by_cases n1 : x.vat = y.vat
  rotate_left
  · simp only [EY, if_true, if_false, Nat.reduceAdd, Option.bind_some, kaE_r, decide_eq_false n1, Bool.not_false]
    exact ⟨rfl, by rw [decide_eq_false (fun e => n1 (by rw [e]))]⟩
  simp only [EY, if_true, if_false, Nat.reduceAdd, Option.bind_some, kaE_r, decide_eq_true n1, Bool.not_true, ne_int, ne_bool, ne_str]
  by_cases n2 : x.entity = y.entity
  rotate_left
  · simp only [EY, if_true, if_false, Nat.reduceAdd, Option.bind_some, kaE_r, decide_eq_false n2, Bool.not_false]
    exact ⟨rfl, by rw [decide_eq_false (fun e => n2 (by rw [e]))]⟩
  simp only [EY, if_true, if_false, Nat.reduceAdd, Option.bind_some, kaE_r, decide_eq_true n2, Bool.not_true, ne_int, ne_bool, ne_str]
  by_cases n3 : x.seq = y.seq
  rotate_left
  · simp only [EY, if_true, if_false, Nat.reduceAdd, Option.bind_some, kaE_r, decide_eq_false n3, Bool.not_false]
    exact ⟨rfl, by rw [decide_eq_false (fun e => n3 (by rw [e]))]⟩
  simp only [EY, if_true, if_false, Nat.reduceAdd, Option.bind_some, kaE_r, decide_eq_true n3, Bool.not_true, ne_int, ne_bool, ne_str]
  exact ⟨rfl, by rw [decide_eq_true (by cases x; cases y; simp only [DTag.mk.injEq]; exact ⟨n1, n2, n3⟩)]⟩
theorem kbp_T (β : Bool) (x : DSent) (hx : x.ok 1048576) (h : AH) : T Tryz.prog Γ Fn.kbp [.agg (x.c β)] h (Fresh h [.a x.cd]) := by
  refine T.freshA (kbp_e (aw_sound tabOK mixed [] _ _ _ ?_))
  unfold kbp_c DSent.c
  simp only [EY, if_true, if_false, Nat.reduceAdd, Option.bind_some, kbp_r]
  refine TCall.ref (by simp only [EO]) (kbt_T β x.args (hx.2) _) ?_
  intro v1 h1 q1
  obtain ⟨n1, f1, rfl, o1, nd1, b1⟩ := q1.one
  obtain ⟨c1a, c1b, c1c, c1d⟩ := o1.cell
  simp only [EY, if_true, if_false, Nat.reduceAdd, Option.bind_some, c1a, c1b, c1c, c1d, kbp_r]
  refine TCall.val (by simp only [EO]) (kbr_T β x.tag _) ?_
  simp only [EY, if_true, if_false, Nat.reduceAdd, Option.bind_some, DTag.c, c1a, c1b, c1c, c1d, kbp_r]
  refine ⟨by simp only [EO, outOK, c1a, c1b, c1c, c1d], _, n1, _, rfl, by simp, (.i (.s (.o o1 (.i (.i (.i (.i .nil))))))), ?_, ?_⟩
  · simpa using nd1
  · simpa using b1
theorem kbq_T (β : Bool) (l : List DSent) (hl : l.length ≤ 1048576) (ho : ∀ x ∈ l, x.ok 1048576) (h : AH) : T Tryz.prog Γ Fn.kbq [.vs β 7 false (l.map (DSent.c β))] h (Fresh h [.c (.sl 7 (l.map DSent.cd))]) :=
  toS_own (szs := 7) (sz := 7) (bytes := 80) (z := [.int .i64 0, .str ⟨#[]⟩, .nils, .int .i64 0, .int .i64 0, .int .i64 0, .int .i64 0]) (f := Fn.kbp) tabOK mixed (fun hw => kbq_e hw) (by simp [maxMade]; omega) rfl rfl (fun x _ => ⟨rfl, rfl⟩) (fun x _ => rfl) (fun x hx H => kbp_T β x (ho x hx) H)
theorem ka7_T (β : Bool) (x : DSent) (hx : x.ok maxLen) (left : Int) (h0 : 0 ≤ left) (h1 : left ≤ 1048576) (h : AH) : T Tryz.prog Γ Fn.ka7 [.agg (x.c β), .int .i64 left] h fun v h' => v = .int .i64 (x.szf left) ∧ h' = h := by
  have hml : maxLen ≤ 9223372036854775807 := by decide
  refine ka7_e (aw_sound tabOK mixed [] _ _ _ ?_)
  unfold ka7_c DSent.c
  simp only [EY, if_true, if_false, Nat.reduceAdd, Option.bind_some, ka7_r, len_str]
  have hs1 : x.name.size ≤ maxLen := hx.1
  rw [wrap_nat (by omega) (by omega)]
  by_cases n1 : (left - (x.name.size : Int)) < 0
  · simp only [EY, if_true, if_false, Nat.reduceAdd, Option.bind_some, ka7_r, decide_eq_true n1]
    exact ⟨rfl, by simp only [DSent.szf, n1, if_true, if_false]⟩
  simp only [EY, if_true, if_false, Nat.reduceAdd, Option.bind_some, ka7_r, decide_eq_false n1, len_str]
  refine TCall.val (by simp only [EO]) (ka9_T β x.args (hx.2) _ (by omega) (by omega) _) ?_
  simp only [EY, if_true, if_false, Nat.reduceAdd, Option.bind_some, ka7_r, len_str]
  by_cases n2 : (szN x.args (left - (x.name.size : Int))) < 0
  · simp only [EY, if_true, if_false, Nat.reduceAdd, Option.bind_some, ka7_r, decide_eq_true n2]
    exact ⟨rfl, by simp only [DSent.szf, n2, if_true, if_false, n1]⟩
  simp only [EY, if_true, if_false, Nat.reduceAdd, Option.bind_some, ka7_r, decide_eq_false n2, len_str]
  have q2 := (szN_ok (Int.not_lt.1 n2)).2
  exact ⟨rfl, by simp only [DSent.szf, if_false, n1, n2]⟩
theorem ka8_T (β : Bool) (l : List DSent) (hl : l.length ≤ maxLen) (ho : ∀ x ∈ l, x.ok maxLen) (left : Int) (h0 : 0 ≤ left) (h1 : left ≤ 1048576) (h : AH) : T Tryz.prog Γ Fn.ka8 [.vs β 7 false (l.map (DSent.c β)), .int .i64 left] h fun v h' => v = .int .i64 (szL DSent.szf l left) ∧ h' = h :=
  szS_T (f := Fn.ka7) tabOK mixed (fun hw => ka8_e hw) h0 h1 hl (fun x => ⟨rfl, rfl⟩) (fun x left a b c => (DSent.szf_ok x left a b c).2) (fun x hx left a b => ka7_T β x (ho x hx) left a b h)
theorem kaC_T (β β' : Bool) (x y : DSent) (hx : x.ok 1073741824) (h : AH) : T Tryz.prog Γ Fn.kaC [.agg (x.c β), .agg (y.c β')] h fun v h' => v = .bool (decide (x = y)) ∧ h' = h := by
  refine kaC_e (aw_sound tabOK mixed [] _ _ _ ?_)
  unfold kaC_c DSent.c
  simp only [EY, if_true, if_false, Nat.reduceAdd, Option.bind_some, kaC_r, ne_int, ne_bool, ne_str]
  by_cases n1 : x.target = y.target
  rotate_left
  · simp only [EY, if_true, if_false, Nat.reduceAdd, Option.bind_some, kaC_r, decide_eq_false n1, Bool.not_false]
    exact ⟨rfl, by rw [decide_eq_false (fun e => n1 (by rw [e]))]⟩
  simp only [EY, if_true, if_false, Nat.reduceAdd, Option.bind_some, kaC_r, decide_eq_true n1, Bool.not_true, ne_int, ne_bool, ne_str]
  by_cases n2 : x.name = y.name
  rotate_left
  · simp only [EY, if_true, if_false, Nat.reduceAdd, Option.bind_some, kaC_r, decide_eq_false n2, Bool.not_false]
    exact ⟨rfl, by rw [decide_eq_false (fun e => n2 (by rw [e]))]⟩
  simp only [EY, if_true, if_false, Nat.reduceAdd, Option.bind_some, kaC_r, decide_eq_true n2, Bool.not_true, ne_int, ne_bool, ne_str]
  refine TCall.val (by simp only [EO]) (kaG_T β β' x.args y.args (hx.2) _) ?_
  simp only [EY, if_true, if_false, Nat.reduceAdd, Option.bind_some, kaC_r, ne_int, ne_bool, ne_str]
  by_cases n3 : x.args = y.args
  rotate_left
  · simp only [EY, if_true, if_false, Nat.reduceAdd, Option.bind_some, kaC_r, decide_eq_false n3, Bool.not_false]
    exact ⟨rfl, by rw [decide_eq_false (fun e => n3 (by rw [e]))]⟩
  simp only [EY, if_true, if_false, Nat.reduceAdd, Option.bind_some, kaC_r, decide_eq_true n3, Bool.not_true, ne_int, ne_bool, ne_str]
  by_cases n4 : x.result = y.result
  rotate_left
  · simp only [EY, if_true, if_false, Nat.reduceAdd, Option.bind_some, kaC_r, decide_eq_false n4, Bool.not_false]
    exact ⟨rfl, by rw [decide_eq_false (fun e => n4 (by rw [e]))]⟩
  simp only [EY, if_true, if_false, Nat.reduceAdd, Option.bind_some, kaC_r, decide_eq_true n4, Bool.not_true, ne_int, ne_bool, ne_str]
  refine TCall.val (by simp only [EO]) (kaE_T β β' x.tag y.tag _) ?_
  simp only [EY, if_true, if_false, Nat.reduceAdd, Option.bind_some, kaC_r, ne_int, ne_bool, ne_str]
  by_cases n5 : x.tag = y.tag
  rotate_left
  · simp only [EY, if_true, if_false, Nat.reduceAdd, Option.bind_some, kaC_r, decide_eq_false n5, Bool.not_false]
    exact ⟨rfl, by rw [decide_eq_false (fun e => n5 (by rw [e]))]⟩
  simp only [EY, if_true, if_false, Nat.reduceAdd, Option.bind_some, kaC_r, decide_eq_true n5, Bool.not_true, ne_int, ne_bool, ne_str]
  exact ⟨rfl, by rw [decide_eq_true (by cases x; cases y; simp only [DSent.mk.injEq]; exact ⟨n1, n2, n3, n4, n5⟩)]⟩
theorem kaD_T (β β' : Bool) (l m : List DSent) (hl : l.length ≤ 1073741824) (ho : ∀ x ∈ l, x.ok 1073741824) (h : AH) : T Tryz.prog Γ Fn.kaD [.vs β 7 false (l.map (DSent.c β)), .vs β' 7 false (m.map (DSent.c β'))] h fun v h' => v = .bool (decide (l = m)) ∧ h' = h :=
  eqS_D (f := Fn.kaC) tabOK mixed (fun hw => kaD_e hw) (by omega) (fun x => ⟨rfl, rfl⟩) (fun x => ⟨rfl, rfl⟩) (fun x hx y _ => kaC_T β β' x y (ho x hx) h)
theorem kbc_T (β : Bool) (x : DAsker) (h : AH) : T Tryz.prog Γ Fn.kbc [.agg (x.c β)] h fun v h' => v = .agg (x.c false) ∧ h' = h := by
  refine kbc_e (aw_sound tabOK mixed [] _ _ _ ?_)
  unfold kbc_c DAsker.c
  simp only [EY, if_true, if_false, Nat.reduceAdd, Option.bind_some, kbc_r]
  exact rfl
theorem kbd_T (β : Bool) (l : List DAsker) (hl : l.length ≤ 1048576) (h : AH) : T Tryz.prog Γ Fn.kbd [.vs β 2 false (l.map (DAsker.c β))] h (Fresh h [.c (.sl 2 (l.map DAsker.cd))]) :=
  toS_own (szs := 2) (sz := 2) (bytes := 16) (z := [.int .i64 0, .int .i64 0]) (f := Fn.kbc) tabOK mixed (fun hw => kbd_e hw) (by simp [maxMade]; omega) rfl rfl (fun x _ => ⟨rfl, rfl⟩) (fun x _ => rfl) (fun x hx H => (kbc_T β x H).flat (cs := x.cd) (by simp [DAsker.cd, CD.flat]) (by rw [DAsker.c_eq]))
theorem kaX_T (β : Bool) (l : List DAsker) (hl : l.length ≤ maxLen) (left : Int) (h0 : 0 ≤ left) (h1 : left ≤ 1048576) (h : AH) : T Tryz.prog Γ Fn.kaX [.vs β 2 false (l.map (DAsker.c β)), .int .i64 left] h fun v h' => v = .int .i64 (szN l left) ∧ h' = h :=
  szF_T tabOK mixed (fun hw => kaX_e hw) h0 h1 hl
theorem kao_T (β β' : Bool) (x y : DAsker) (h : AH) : T Tryz.prog Γ Fn.kao [.agg (x.c β), .agg (y.c β')] h fun v h' => v = .bool (decide (x = y)) ∧ h' = h := by
  refine kao_e (aw_sound tabOK mixed [] _ _ _ ?_)
  unfold kao_c DAsker.c
  simp only [EY, if_true, if_false, Nat.reduceAdd, Option.bind_some, kao_r, ne_int, ne_bool, ne_str]
  by_cases n1 : x.peer = y.peer
  rotate_left
  · simp only [EY, if_true, if_false, Nat.reduceAdd, Option.bind_some, kao_r, decide_eq_false n1, Bool.not_false]
    exact ⟨rfl, by rw [decide_eq_false (fun e => n1 (by rw [e]))]⟩
  simp only [EY, if_true, if_false, Nat.reduceAdd, Option.bind_some, kao_r, decide_eq_true n1, Bool.not_true, ne_int, ne_bool, ne_str]
  by_cases n2 : x.question = y.question
  rotate_left
  · simp only [EY, if_true, if_false, Nat.reduceAdd, Option.bind_some, kao_r, decide_eq_false n2, Bool.not_false]
    exact ⟨rfl, by rw [decide_eq_false (fun e => n2 (by rw [e]))]⟩
  simp only [EY, if_true, if_false, Nat.reduceAdd, Option.bind_some, kao_r, decide_eq_true n2, Bool.not_true, ne_int, ne_bool, ne_str]
  exact ⟨rfl, by rw [decide_eq_true (by cases x; cases y; simp only [DAsker.mk.injEq]; exact ⟨n1, n2⟩)]⟩
theorem kap_T (β β' : Bool) (l m : List DAsker) (hl : l.length ≤ 1073741824) (h : AH) : T Tryz.prog Γ Fn.kap [.vs β 2 false (l.map (DAsker.c β)), .vs β' 2 false (m.map (DAsker.c β'))] h fun v h' => v = .bool (decide (l = m)) ∧ h' = h :=
  eqS_D (f := Fn.kao) tabOK mixed (fun hw => kap_e hw) (by omega) (fun x => ⟨rfl, rfl⟩) (fun x => ⟨rfl, rfl⟩) (fun x hx y _ => kao_T β β' x y h)
theorem kbe_T (β : Bool) (x : DEntity) (hx : x.ok 1048576) (h : AH) : T Tryz.prog Γ Fn.kbe [.agg (x.c β)] h (Fresh h [.a x.cd]) := by
  refine T.freshA (kbe_e (aw_sound tabOK mixed [] _ _ _ ?_))
  unfold kbe_c DEntity.c
  simp only [EY, if_true, if_false, Nat.reduceAdd, Option.bind_some, kbe_r]
  refine TCall.ref (by simp only [EO]) (kbt_T β x.slots (hx.1) _) ?_
  intro v1 h1 q1
  obtain ⟨n1, f1, rfl, o1, nd1, b1⟩ := q1.one
  obtain ⟨c1a, c1b, c1c, c1d⟩ := o1.cell
  simp only [EY, if_true, if_false, Nat.reduceAdd, Option.bind_some, c1a, c1b, c1c, c1d, kbe_r]
  refine TCall.val (by simp only [EO]) (kbs_T β x.value _) ?_
  simp only [EY, if_true, if_false, Nat.reduceAdd, Option.bind_some, DValue.c, c1a, c1b, c1c, c1d, kbe_r]
  refine TCall.ref (by simp only [EO]) (kbq_T β x.queue (hx.2.1) (hx.2.2.1) _) ?_
  intro v2 h2 q2
  obtain ⟨n2, f2, rfl, o2, nd2, b2⟩ := q2.one
  obtain ⟨c2a, c2b, c2c, c2d⟩ := o2.cell
  simp only [EY, if_true, if_false, Nat.reduceAdd, Option.bind_some, c1a, c1b, c1c, c1d, c2a, c2b, c2c, c2d, kbe_r]
  refine TCall.ref (by simp only [EO]) (kbd_T β x.askers (hx.2.2.2) _) ?_
  intro v3 h3 q3
  obtain ⟨n3, f3, rfl, o3, nd3, b3⟩ := q3.one
  obtain ⟨c3a, c3b, c3c, c3d⟩ := o3.cell
  simp only [EY, if_true, if_false, Nat.reduceAdd, Option.bind_some, c1a, c1b, c1c, c1d, c2a, c2b, c2c, c2d, c3a, c3b, c3c, c3d, kbe_r]
  refine ⟨by simp only [EO, outOK, c1a, c1b, c1c, c1d, c2a, c2b, c2c, c2d, c3a, c3b, c3c, c3d], _, n1 ++ n2 ++ n3, _, rfl, by simp, (.i (.i (.o o1.grow.grow (.i (.i (.i (.o o2.grow (.o o3 (.i (.i (.i (.i .nil)))))))))))), ?_, ?_⟩
  · simp only [List.append_nil]
    exact nodup_app nd1 (nodup_app nd2 (nd3) (fun b hb => o2.lt b hb) (fun b hb => by (try simp only [List.mem_append] at hb); first | (have := b3 b hb; simp only [List.length_append] at this ⊢; omega))) (fun b hb => o1.lt b hb) (fun b hb => by (try simp only [List.mem_append] at hb); rcases hb with hb | hb <;> first | (have := b2 b hb; simp only [List.length_append] at this ⊢; omega) | (have := b3 b hb; simp only [List.length_append] at this ⊢; omega))
  · intro b hb
    simp only [List.append_nil, List.mem_append] at hb
    rcases hb with hb | hb | hb <;> first | (have := b1 b hb; simp only [List.length_append] at this ⊢; omega) | (have := b2 b hb; simp only [List.length_append] at this ⊢; omega) | (have := b3 b hb; simp only [List.length_append] at this ⊢; omega)
theorem kbf_T (β : Bool) (l : List DEntity) (hl : l.length ≤ 1048576) (ho : ∀ x ∈ l, x.ok 1048576) (h : AH) : T Tryz.prog Γ Fn.kbf [.vs β 12 false (l.map (DEntity.c β))] h (Fresh h [.c (.sl 12 (l.map DEntity.cd))]) :=
  toS_own (szs := 12) (sz := 12) (bytes := 144) (z := [.int .i64 0, .int .i64 0, .nils, .int .i64 0, .int .i64 0, .int .i64 0, .nils, .nils, .int .i64 0, .int .i64 0, .int .i64 0, .int .i64 0]) (f := Fn.kbe) tabOK mixed (fun hw => kbf_e hw) (by simp [maxMade]; omega) rfl rfl (fun x _ => ⟨rfl, rfl⟩) (fun x _ => rfl) (fun x hx H => kbe_T β x (ho x hx) H)
theorem kaY_T (β : Bool) (x : DEntity) (hx : x.ok maxLen) (left : Int) (h0 : 0 ≤ left) (h1 : left ≤ 1048576) (h : AH) : T Tryz.prog Γ Fn.kaY [.agg (x.c β), .int .i64 left] h fun v h' => v = .int .i64 (x.szf left) ∧ h' = h := by
  have hml : maxLen ≤ 9223372036854775807 := by decide
  refine kaY_e (aw_sound tabOK mixed [] _ _ _ ?_)
  unfold kaY_c DEntity.c
  simp only [EY, if_true, if_false, Nat.reduceAdd, Option.bind_some, kaY_r, len_str]
  refine TCall.val (by simp only [EO]) (ka9_T β x.slots (hx.1) _ (by omega) (by omega) _) ?_
  simp only [EY, if_true, if_false, Nat.reduceAdd, Option.bind_some, kaY_r, len_str]
  by_cases n1 : (szN x.slots left) < 0
  · simp only [EY, if_true, if_false, Nat.reduceAdd, Option.bind_some, kaY_r, decide_eq_true n1]
    exact ⟨rfl, by simp only [DEntity.szf, n1, if_true, if_false]⟩
  simp only [EY, if_true, if_false, Nat.reduceAdd, Option.bind_some, kaY_r, decide_eq_false n1, len_str]
  have q1 := (szN_ok (Int.not_lt.1 n1)).2
  refine TCall.val (by simp only [EO]) (ka8_T β x.queue (hx.2.1) (hx.2.2.1) _ (by omega) (by omega) _) ?_
  simp only [EY, if_true, if_false, Nat.reduceAdd, Option.bind_some, kaY_r, len_str]
  by_cases n2 : (szL DSent.szf x.queue (szN x.slots left)) < 0
  · simp only [EY, if_true, if_false, Nat.reduceAdd, Option.bind_some, kaY_r, decide_eq_true n2]
    exact ⟨rfl, by simp only [DEntity.szf, n2, if_true, if_false, n1]⟩
  simp only [EY, if_true, if_false, Nat.reduceAdd, Option.bind_some, kaY_r, decide_eq_false n2, len_str]
  have q2 := (szL_ok (Q := DSent.ok 1048576) (B := 1048576) (fun x left a b c => DSent.szf_ok x left a b c) (by omega) (by omega) (Int.not_lt.1 n2)).2
  refine TCall.val (by simp only [EO]) (kaX_T β x.askers (hx.2.2.2) _ (by omega) (by omega) _) ?_
  simp only [EY, if_true, if_false, Nat.reduceAdd, Option.bind_some, kaY_r, len_str]
  by_cases n3 : (szN x.askers (szL DSent.szf x.queue (szN x.slots left))) < 0
  · simp only [EY, if_true, if_false, Nat.reduceAdd, Option.bind_some, kaY_r, decide_eq_true n3]
    exact ⟨rfl, by simp only [DEntity.szf, n3, if_true, if_false, n1, n2]⟩
  simp only [EY, if_true, if_false, Nat.reduceAdd, Option.bind_some, kaY_r, decide_eq_false n3, len_str]
  have q3 := (szN_ok (Int.not_lt.1 n3)).2
  exact ⟨rfl, by simp only [DEntity.szf, if_false, n1, n2, n3]⟩
theorem kaZ_T (β : Bool) (l : List DEntity) (hl : l.length ≤ maxLen) (ho : ∀ x ∈ l, x.ok maxLen) (left : Int) (h0 : 0 ≤ left) (h1 : left ≤ 1048576) (h : AH) : T Tryz.prog Γ Fn.kaZ [.vs β 12 false (l.map (DEntity.c β)), .int .i64 left] h fun v h' => v = .int .i64 (szL DEntity.szf l left) ∧ h' = h :=
  szS_T (f := Fn.kaY) tabOK mixed (fun hw => kaZ_e hw) h0 h1 hl (fun x => ⟨rfl, rfl⟩) (fun x left a b c => (DEntity.szf_ok x left a b c).2) (fun x hx left a b => kaY_T β x (ho x hx) left a b h)
theorem kaq_T (β β' : Bool) (x y : DEntity) (hx : x.ok 1073741824) (h : AH) : T Tryz.prog Γ Fn.kaq [.agg (x.c β), .agg (y.c β')] h fun v h' => v = .bool (decide (x = y)) ∧ h' = h := by
  refine kaq_e (aw_sound tabOK mixed [] _ _ _ ?_)
  unfold kaq_c DEntity.c
  simp only [EY, if_true, if_false, Nat.reduceAdd, Option.bind_some, kaq_r, ne_int, ne_bool, ne_str]
  by_cases n1 : x.kind = y.kind
  rotate_left
  · simp only [EY, if_true, if_false, Nat.reduceAdd, Option.bind_some, kaq_r, decide_eq_false n1, Bool.not_false]
    exact ⟨rfl, by rw [decide_eq_false (fun e => n1 (by rw [e]))]⟩
  simp only [EY, if_true, if_false, Nat.reduceAdd, Option.bind_some, kaq_r, decide_eq_true n1, Bool.not_true, ne_int, ne_bool, ne_str]
  by_cases n2 : x.script = y.script
  rotate_left
  · simp only [EY, if_true, if_false, Nat.reduceAdd, Option.bind_some, kaq_r, decide_eq_false n2, Bool.not_false]
    exact ⟨rfl, by rw [decide_eq_false (fun e => n2 (by rw [e]))]⟩
  simp only [EY, if_true, if_false, Nat.reduceAdd, Option.bind_some, kaq_r, decide_eq_true n2, Bool.not_true, ne_int, ne_bool, ne_str]
  refine TCall.val (by simp only [EO]) (kaG_T β β' x.slots y.slots (hx.1) _) ?_
  simp only [EY, if_true, if_false, Nat.reduceAdd, Option.bind_some, kaq_r, ne_int, ne_bool, ne_str]
  by_cases n3 : x.slots = y.slots
  rotate_left
  · simp only [EY, if_true, if_false, Nat.reduceAdd, Option.bind_some, kaq_r, decide_eq_false n3, Bool.not_false]
    exact ⟨rfl, by rw [decide_eq_false (fun e => n3 (by rw [e]))]⟩
  simp only [EY, if_true, if_false, Nat.reduceAdd, Option.bind_some, kaq_r, decide_eq_true n3, Bool.not_true, ne_int, ne_bool, ne_str]
  by_cases n4 : x.state = y.state
  rotate_left
  · simp only [EY, if_true, if_false, Nat.reduceAdd, Option.bind_some, kaq_r, decide_eq_false n4, Bool.not_false]
    exact ⟨rfl, by rw [decide_eq_false (fun e => n4 (by rw [e]))]⟩
  simp only [EY, if_true, if_false, Nat.reduceAdd, Option.bind_some, kaq_r, decide_eq_true n4, Bool.not_true, ne_int, ne_bool, ne_str]
  refine TCall.val (by simp only [EO]) (kaF_T β β' x.value y.value _) ?_
  simp only [EY, if_true, if_false, Nat.reduceAdd, Option.bind_some, kaq_r, ne_int, ne_bool, ne_str]
  by_cases n5 : x.value = y.value
  rotate_left
  · simp only [EY, if_true, if_false, Nat.reduceAdd, Option.bind_some, kaq_r, decide_eq_false n5, Bool.not_false]
    exact ⟨rfl, by rw [decide_eq_false (fun e => n5 (by rw [e]))]⟩
  simp only [EY, if_true, if_false, Nat.reduceAdd, Option.bind_some, kaq_r, decide_eq_true n5, Bool.not_true, ne_int, ne_bool, ne_str]
  refine TCall.val (by simp only [EO]) (kaD_T β β' x.queue y.queue (hx.2.1) (hx.2.2.1) _) ?_
  simp only [EY, if_true, if_false, Nat.reduceAdd, Option.bind_some, kaq_r, ne_int, ne_bool, ne_str]
  by_cases n6 : x.queue = y.queue
  rotate_left
  · simp only [EY, if_true, if_false, Nat.reduceAdd, Option.bind_some, kaq_r, decide_eq_false n6, Bool.not_false]
    exact ⟨rfl, by rw [decide_eq_false (fun e => n6 (by rw [e]))]⟩
  simp only [EY, if_true, if_false, Nat.reduceAdd, Option.bind_some, kaq_r, decide_eq_true n6, Bool.not_true, ne_int, ne_bool, ne_str]
  refine TCall.val (by simp only [EO]) (kap_T β β' x.askers y.askers (hx.2.2.2) _) ?_
  simp only [EY, if_true, if_false, Nat.reduceAdd, Option.bind_some, kaq_r, ne_int, ne_bool, ne_str]
  by_cases n7 : x.askers = y.askers
  rotate_left
  · simp only [EY, if_true, if_false, Nat.reduceAdd, Option.bind_some, kaq_r, decide_eq_false n7, Bool.not_false]
    exact ⟨rfl, by rw [decide_eq_false (fun e => n7 (by rw [e]))]⟩
  simp only [EY, if_true, if_false, Nat.reduceAdd, Option.bind_some, kaq_r, decide_eq_true n7, Bool.not_true, ne_int, ne_bool, ne_str]
  by_cases n8 : x.peer = y.peer
  rotate_left
  · simp only [EY, if_true, if_false, Nat.reduceAdd, Option.bind_some, kaq_r, decide_eq_false n8, Bool.not_false]
    exact ⟨rfl, by rw [decide_eq_false (fun e => n8 (by rw [e]))]⟩
  simp only [EY, if_true, if_false, Nat.reduceAdd, Option.bind_some, kaq_r, decide_eq_true n8, Bool.not_true, ne_int, ne_bool, ne_str]
  by_cases n9 : x.pos = y.pos
  rotate_left
  · simp only [EY, if_true, if_false, Nat.reduceAdd, Option.bind_some, kaq_r, decide_eq_false n9, Bool.not_false]
    exact ⟨rfl, by rw [decide_eq_false (fun e => n9 (by rw [e]))]⟩
  simp only [EY, if_true, if_false, Nat.reduceAdd, Option.bind_some, kaq_r, decide_eq_true n9, Bool.not_true, ne_int, ne_bool, ne_str]
  by_cases n10 : x.count = y.count
  rotate_left
  · simp only [EY, if_true, if_false, Nat.reduceAdd, Option.bind_some, kaq_r, decide_eq_false n10, Bool.not_false]
    exact ⟨rfl, by rw [decide_eq_false (fun e => n10 (by rw [e]))]⟩
  simp only [EY, if_true, if_false, Nat.reduceAdd, Option.bind_some, kaq_r, decide_eq_true n10, Bool.not_true, ne_int, ne_bool, ne_str]
  by_cases n11 : x.sent = y.sent
  rotate_left
  · simp only [EY, if_true, if_false, Nat.reduceAdd, Option.bind_some, kaq_r, decide_eq_false n11, Bool.not_false]
    exact ⟨rfl, by rw [decide_eq_false (fun e => n11 (by rw [e]))]⟩
  simp only [EY, if_true, if_false, Nat.reduceAdd, Option.bind_some, kaq_r, decide_eq_true n11, Bool.not_true, ne_int, ne_bool, ne_str]
  exact ⟨rfl, by rw [decide_eq_true (by cases x; cases y; simp only [DEntity.mk.injEq]; exact ⟨n1, n2, n3, n4, n5, n6, n7, n8, n9, n10, n11⟩)]⟩
theorem kar_T (β β' : Bool) (l m : List DEntity) (hl : l.length ≤ 1073741824) (ho : ∀ x ∈ l, x.ok 1073741824) (h : AH) : T Tryz.prog Γ Fn.kar [.vs β 12 false (l.map (DEntity.c β)), .vs β' 12 false (m.map (DEntity.c β'))] h fun v h' => v = .bool (decide (l = m)) ∧ h' = h :=
  eqS_D (f := Fn.kaq) tabOK mixed (fun hw => kar_e hw) (by omega) (fun x => ⟨rfl, rfl⟩) (fun x => ⟨rfl, rfl⟩) (fun x hx y _ => kaq_T β β' x y (ho x hx) h)
theorem kbg_T (β : Bool) (x : DExport) (h : AH) : T Tryz.prog Γ Fn.kbg [.agg (x.c β)] h fun v h' => v = .agg (x.c false) ∧ h' = h := by
  refine kbg_e (aw_sound tabOK mixed [] _ _ _ ?_)
  unfold kbg_c DExport.c
  simp only [EY, if_true, if_false, Nat.reduceAdd, Option.bind_some, kbg_r]
  exact rfl
theorem kbh_T (β : Bool) (l : List DExport) (hl : l.length ≤ 1048576) (h : AH) : T Tryz.prog Γ Fn.kbh [.vs β 3 false (l.map (DExport.c β))] h (Fresh h [.c (.sl 3 (l.map DExport.cd))]) :=
  toS_own (szs := 3) (sz := 3) (bytes := 24) (z := [.int .i64 0, .int .i64 0, .int .i64 0]) (f := Fn.kbg) tabOK mixed (fun hw => kbh_e hw) (by simp [maxMade]; omega) rfl rfl (fun x _ => ⟨rfl, rfl⟩) (fun x _ => rfl) (fun x hx H => (kbg_T β x H).flat (cs := x.cd) (by simp [DExport.cd, CD.flat]) (by rw [DExport.c_eq]))
theorem ka0_T (β : Bool) (l : List DExport) (hl : l.length ≤ maxLen) (left : Int) (h0 : 0 ≤ left) (h1 : left ≤ 1048576) (h : AH) : T Tryz.prog Γ Fn.ka0 [.vs β 3 false (l.map (DExport.c β)), .int .i64 left] h fun v h' => v = .int .i64 (szN l left) ∧ h' = h :=
  szF_T tabOK mixed (fun hw => ka0_e hw) h0 h1 hl
theorem kas_T (β β' : Bool) (x y : DExport) (h : AH) : T Tryz.prog Γ Fn.kas [.agg (x.c β), .agg (y.c β')] h fun v h' => v = .bool (decide (x = y)) ∧ h' = h := by
  refine kas_e (aw_sound tabOK mixed [] _ _ _ ?_)
  unfold kas_c DExport.c
  simp only [EY, if_true, if_false, Nat.reduceAdd, Option.bind_some, kas_r, ne_int, ne_bool, ne_str]
  by_cases n1 : x.pos = y.pos
  rotate_left
  · simp only [EY, if_true, if_false, Nat.reduceAdd, Option.bind_some, kas_r, decide_eq_false n1, Bool.not_false]
    exact ⟨rfl, by rw [decide_eq_false (fun e => n1 (by rw [e]))]⟩
  simp only [EY, if_true, if_false, Nat.reduceAdd, Option.bind_some, kas_r, decide_eq_true n1, Bool.not_true, ne_int, ne_bool, ne_str]
  by_cases n2 : x.entity = y.entity
  rotate_left
  · simp only [EY, if_true, if_false, Nat.reduceAdd, Option.bind_some, kas_r, decide_eq_false n2, Bool.not_false]
    exact ⟨rfl, by rw [decide_eq_false (fun e => n2 (by rw [e]))]⟩
  simp only [EY, if_true, if_false, Nat.reduceAdd, Option.bind_some, kas_r, decide_eq_true n2, Bool.not_true, ne_int, ne_bool, ne_str]
  by_cases n3 : x.count = y.count
  rotate_left
  · simp only [EY, if_true, if_false, Nat.reduceAdd, Option.bind_some, kas_r, decide_eq_false n3, Bool.not_false]
    exact ⟨rfl, by rw [decide_eq_false (fun e => n3 (by rw [e]))]⟩
  simp only [EY, if_true, if_false, Nat.reduceAdd, Option.bind_some, kas_r, decide_eq_true n3, Bool.not_true, ne_int, ne_bool, ne_str]
  exact ⟨rfl, by rw [decide_eq_true (by cases x; cases y; simp only [DExport.mk.injEq]; exact ⟨n1, n2, n3⟩)]⟩
theorem kat_T (β β' : Bool) (l m : List DExport) (hl : l.length ≤ 1073741824) (h : AH) : T Tryz.prog Γ Fn.kat [.vs β 3 false (l.map (DExport.c β)), .vs β' 3 false (m.map (DExport.c β'))] h fun v h' => v = .bool (decide (l = m)) ∧ h' = h :=
  eqS_D (f := Fn.kas) tabOK mixed (fun hw => kat_e hw) (by omega) (fun x => ⟨rfl, rfl⟩) (fun x => ⟨rfl, rfl⟩) (fun x hx y _ => kas_T β β' x y h)
theorem kbn_T (β : Bool) (x : DQuestion) (h : AH) : T Tryz.prog Γ Fn.kbn [.agg (x.c β)] h fun v h' => v = .agg (x.c false) ∧ h' = h := by
  refine kbn_e (aw_sound tabOK mixed [] _ _ _ ?_)
  unfold kbn_c DQuestion.c
  simp only [EY, if_true, if_false, Nat.reduceAdd, Option.bind_some, kbn_r]
  exact rfl
theorem kbo_T (β : Bool) (l : List DQuestion) (hl : l.length ≤ 1048576) (h : AH) : T Tryz.prog Γ Fn.kbo [.vs β 2 false (l.map (DQuestion.c β))] h (Fresh h [.c (.sl 2 (l.map DQuestion.cd))]) :=
  toS_own (szs := 2) (sz := 2) (bytes := 16) (z := [.int .i64 0, .int .i64 0]) (f := Fn.kbn) tabOK mixed (fun hw => kbo_e hw) (by simp [maxMade]; omega) rfl rfl (fun x _ => ⟨rfl, rfl⟩) (fun x _ => rfl) (fun x hx H => (kbn_T β x H).flat (cs := x.cd) (by simp [DQuestion.cd, CD.flat]) (by rw [DQuestion.c_eq]))
theorem ka6_T (β : Bool) (l : List DQuestion) (hl : l.length ≤ maxLen) (left : Int) (h0 : 0 ≤ left) (h1 : left ≤ 1048576) (h : AH) : T Tryz.prog Γ Fn.ka6 [.vs β 2 false (l.map (DQuestion.c β)), .int .i64 left] h fun v h' => v = .int .i64 (szN l left) ∧ h' = h :=
  szF_T tabOK mixed (fun hw => ka6_e hw) h0 h1 hl
theorem kaA_T (β β' : Bool) (x y : DQuestion) (h : AH) : T Tryz.prog Γ Fn.kaA [.agg (x.c β), .agg (y.c β')] h fun v h' => v = .bool (decide (x = y)) ∧ h' = h := by
  refine kaA_e (aw_sound tabOK mixed [] _ _ _ ?_)
  unfold kaA_c DQuestion.c
  simp only [EY, if_true, if_false, Nat.reduceAdd, Option.bind_some, kaA_r, ne_int, ne_bool, ne_str]
  by_cases n1 : x.id = y.id
  rotate_left
  · simp only [EY, if_true, if_false, Nat.reduceAdd, Option.bind_some, kaA_r, decide_eq_false n1, Bool.not_false]
    exact ⟨rfl, by rw [decide_eq_false (fun e => n1 (by rw [e]))]⟩
  simp only [EY, if_true, if_false, Nat.reduceAdd, Option.bind_some, kaA_r, decide_eq_true n1, Bool.not_true, ne_int, ne_bool, ne_str]
  by_cases n2 : x.promise = y.promise
  rotate_left
  · simp only [EY, if_true, if_false, Nat.reduceAdd, Option.bind_some, kaA_r, decide_eq_false n2, Bool.not_false]
    exact ⟨rfl, by rw [decide_eq_false (fun e => n2 (by rw [e]))]⟩
  simp only [EY, if_true, if_false, Nat.reduceAdd, Option.bind_some, kaA_r, decide_eq_true n2, Bool.not_true, ne_int, ne_bool, ne_str]
  exact ⟨rfl, by rw [decide_eq_true (by cases x; cases y; simp only [DQuestion.mk.injEq]; exact ⟨n1, n2⟩)]⟩
theorem kaB_T (β β' : Bool) (l m : List DQuestion) (hl : l.length ≤ 1073741824) (h : AH) : T Tryz.prog Γ Fn.kaB [.vs β 2 false (l.map (DQuestion.c β)), .vs β' 2 false (m.map (DQuestion.c β'))] h fun v h' => v = .bool (decide (l = m)) ∧ h' = h :=
  eqS_D (f := Fn.kaA) tabOK mixed (fun hw => kaB_e hw) (by omega) (fun x => ⟨rfl, rfl⟩) (fun x => ⟨rfl, rfl⟩) (fun x hx y _ => kaA_T β β' x y h)
theorem kbi_T (β : Bool) (x : DLink) (hx : x.ok 1048576) (h : AH) : T Tryz.prog Γ Fn.kbi [.agg (x.c β)] h (Fresh h [.a x.cd]) := by
  refine T.freshA (kbi_e (aw_sound tabOK mixed [] _ _ _ ?_))
  unfold kbi_c DLink.c
  simp only [EY, if_true, if_false, Nat.reduceAdd, Option.bind_some, kbi_r]
  refine TCall.ref (by simp only [EO]) (kbh_T β x.exports (hx.1) _) ?_
  intro v1 h1 q1
  obtain ⟨n1, f1, rfl, o1, nd1, b1⟩ := q1.one
  obtain ⟨c1a, c1b, c1c, c1d⟩ := o1.cell
  simp only [EY, if_true, if_false, Nat.reduceAdd, Option.bind_some, c1a, c1b, c1c, c1d, kbi_r]
  refine TCall.ref (by simp only [EO]) (kbo_T β x.questions (hx.2.1) _) ?_
  intro v2 h2 q2
  obtain ⟨n2, f2, rfl, o2, nd2, b2⟩ := q2.one
  obtain ⟨c2a, c2b, c2c, c2d⟩ := o2.cell
  simp only [EY, if_true, if_false, Nat.reduceAdd, Option.bind_some, c1a, c1b, c1c, c1d, c2a, c2b, c2c, c2d, kbi_r]
  refine TCall.ref (by simp only [EO]) (kbo_T β x.answers (hx.2.2) _) ?_
  intro v3 h3 q3
  obtain ⟨n3, f3, rfl, o3, nd3, b3⟩ := q3.one
  obtain ⟨c3a, c3b, c3c, c3d⟩ := o3.cell
  simp only [EY, if_true, if_false, Nat.reduceAdd, Option.bind_some, c1a, c1b, c1c, c1d, c2a, c2b, c2c, c2d, c3a, c3b, c3c, c3d, kbi_r]
  refine ⟨by simp only [EO, outOK, c1a, c1b, c1c, c1d, c2a, c2b, c2c, c2d, c3a, c3b, c3c, c3d], _, n1 ++ n2 ++ n3, _, rfl, by simp, (.i (.b (.o o1.grow.grow (.i (.o o2.grow (.i (.o o3 .nil))))))), ?_, ?_⟩
  · simp only [List.append_nil]
    exact nodup_app nd1 (nodup_app nd2 (nd3) (fun b hb => o2.lt b hb) (fun b hb => by (try simp only [List.mem_append] at hb); first | (have := b3 b hb; simp only [List.length_append] at this ⊢; omega))) (fun b hb => o1.lt b hb) (fun b hb => by (try simp only [List.mem_append] at hb); rcases hb with hb | hb <;> first | (have := b2 b hb; simp only [List.length_append] at this ⊢; omega) | (have := b3 b hb; simp only [List.length_append] at this ⊢; omega))
  · intro b hb
    simp only [List.append_nil, List.mem_append] at hb
    rcases hb with hb | hb | hb <;> first | (have := b1 b hb; simp only [List.length_append] at this ⊢; omega) | (have := b2 b hb; simp only [List.length_append] at this ⊢; omega) | (have := b3 b hb; simp only [List.length_append] at this ⊢; omega)
theorem kbj_T (β : Bool) (l : List DLink) (hl : l.length ≤ 1048576) (ho : ∀ x ∈ l, x.ok 1048576) (h : AH) : T Tryz.prog Γ Fn.kbj [.vs β 7 false (l.map (DLink.c β))] h (Fresh h [.c (.sl 7 (l.map DLink.cd))]) :=
  toS_own (szs := 7) (sz := 7) (bytes := 104) (z := [.int .i64 0, .bool false, .nils, .int .i64 0, .nils, .int .i64 0, .nils]) (f := Fn.kbi) tabOK mixed (fun hw => kbj_e hw) (by simp [maxMade]; omega) rfl rfl (fun x _ => ⟨rfl, rfl⟩) (fun x _ => rfl) (fun x hx H => kbi_T β x (ho x hx) H)
theorem ka1_T (β : Bool) (x : DLink) (hx : x.ok maxLen) (left : Int) (h0 : 0 ≤ left) (h1 : left ≤ 1048576) (h : AH) : T Tryz.prog Γ Fn.ka1 [.agg (x.c β), .int .i64 left] h fun v h' => v = .int .i64 (x.szf left) ∧ h' = h := by
  have hml : maxLen ≤ 9223372036854775807 := by decide
  refine ka1_e (aw_sound tabOK mixed [] _ _ _ ?_)
  unfold ka1_c DLink.c
  simp only [EY, if_true, if_false, Nat.reduceAdd, Option.bind_some, ka1_r, len_str]
  refine TCall.val (by simp only [EO]) (ka0_T β x.exports (hx.1) _ (by omega) (by omega) _) ?_
  simp only [EY, if_true, if_false, Nat.reduceAdd, Option.bind_some, ka1_r, len_str]
  by_cases n1 : (szN x.exports left) < 0
  · simp only [EY, if_true, if_false, Nat.reduceAdd, Option.bind_some, ka1_r, decide_eq_true n1]
    exact ⟨rfl, by simp only [DLink.szf, n1, if_true, if_false]⟩
  simp only [EY, if_true, if_false, Nat.reduceAdd, Option.bind_some, ka1_r, decide_eq_false n1, len_str]
  have q1 := (szN_ok (Int.not_lt.1 n1)).2
  refine TCall.val (by simp only [EO]) (ka6_T β x.questions (hx.2.1) _ (by omega) (by omega) _) ?_
  simp only [EY, if_true, if_false, Nat.reduceAdd, Option.bind_some, ka1_r, len_str]
  by_cases n2 : (szN x.questions (szN x.exports left)) < 0
  · simp only [EY, if_true, if_false, Nat.reduceAdd, Option.bind_some, ka1_r, decide_eq_true n2]
    exact ⟨rfl, by simp only [DLink.szf, n2, if_true, if_false, n1]⟩
  simp only [EY, if_true, if_false, Nat.reduceAdd, Option.bind_some, ka1_r, decide_eq_false n2, len_str]
  have q2 := (szN_ok (Int.not_lt.1 n2)).2
  refine TCall.val (by simp only [EO]) (ka6_T β x.answers (hx.2.2) _ (by omega) (by omega) _) ?_
  simp only [EY, if_true, if_false, Nat.reduceAdd, Option.bind_some, ka1_r, len_str]
  by_cases n3 : (szN x.answers (szN x.questions (szN x.exports left))) < 0
  · simp only [EY, if_true, if_false, Nat.reduceAdd, Option.bind_some, ka1_r, decide_eq_true n3]
    exact ⟨rfl, by simp only [DLink.szf, n3, if_true, if_false, n1, n2]⟩
  simp only [EY, if_true, if_false, Nat.reduceAdd, Option.bind_some, ka1_r, decide_eq_false n3, len_str]
  have q3 := (szN_ok (Int.not_lt.1 n3)).2
  exact ⟨rfl, by simp only [DLink.szf, if_false, n1, n2, n3]⟩
theorem ka2_T (β : Bool) (l : List DLink) (hl : l.length ≤ maxLen) (ho : ∀ x ∈ l, x.ok maxLen) (left : Int) (h0 : 0 ≤ left) (h1 : left ≤ 1048576) (h : AH) : T Tryz.prog Γ Fn.ka2 [.vs β 7 false (l.map (DLink.c β)), .int .i64 left] h fun v h' => v = .int .i64 (szL DLink.szf l left) ∧ h' = h :=
  szS_T (f := Fn.ka1) tabOK mixed (fun hw => ka2_e hw) h0 h1 hl (fun x => ⟨rfl, rfl⟩) (fun x left a b c => (DLink.szf_ok x left a b c).2) (fun x hx left a b => ka1_T β x (ho x hx) left a b h)
theorem kav_T (β β' : Bool) (x y : DLink) (hx : x.ok 1073741824) (h : AH) : T Tryz.prog Γ Fn.kav [.agg (x.c β), .agg (y.c β')] h fun v h' => v = .bool (decide (x = y)) ∧ h' = h := by
  refine kav_e (aw_sound tabOK mixed [] _ _ _ ?_)
  unfold kav_c DLink.c
  simp only [EY, if_true, if_false, Nat.reduceAdd, Option.bind_some, kav_r, ne_int, ne_bool, ne_str]
  by_cases n1 : x.peer = y.peer
  rotate_left
  · simp only [EY, if_true, if_false, Nat.reduceAdd, Option.bind_some, kav_r, decide_eq_false n1, Bool.not_false]
    exact ⟨rfl, by rw [decide_eq_false (fun e => n1 (by rw [e]))]⟩
  simp only [EY, if_true, if_false, Nat.reduceAdd, Option.bind_some, kav_r, decide_eq_true n1, Bool.not_true, ne_int, ne_bool, ne_str]
  by_cases n2 : x.up = y.up
  rotate_left
  · simp only [EY, if_true, if_false, Nat.reduceAdd, Option.bind_some, kav_r, decide_eq_false n2, Bool.not_false]
    exact ⟨rfl, by rw [decide_eq_false (fun e => n2 (by rw [e]))]⟩
  simp only [EY, if_true, if_false, Nat.reduceAdd, Option.bind_some, kav_r, decide_eq_true n2, Bool.not_true, ne_int, ne_bool, ne_str]
  refine TCall.val (by simp only [EO]) (kat_T β β' x.exports y.exports (hx.1) _) ?_
  simp only [EY, if_true, if_false, Nat.reduceAdd, Option.bind_some, kav_r, ne_int, ne_bool, ne_str]
  by_cases n3 : x.exports = y.exports
  rotate_left
  · simp only [EY, if_true, if_false, Nat.reduceAdd, Option.bind_some, kav_r, decide_eq_false n3, Bool.not_false]
    exact ⟨rfl, by rw [decide_eq_false (fun e => n3 (by rw [e]))]⟩
  simp only [EY, if_true, if_false, Nat.reduceAdd, Option.bind_some, kav_r, decide_eq_true n3, Bool.not_true, ne_int, ne_bool, ne_str]
  by_cases n4 : x.next = y.next
  rotate_left
  · simp only [EY, if_true, if_false, Nat.reduceAdd, Option.bind_some, kav_r, decide_eq_false n4, Bool.not_false]
    exact ⟨rfl, by rw [decide_eq_false (fun e => n4 (by rw [e]))]⟩
  simp only [EY, if_true, if_false, Nat.reduceAdd, Option.bind_some, kav_r, decide_eq_true n4, Bool.not_true, ne_int, ne_bool, ne_str]
  refine TCall.val (by simp only [EO]) (kaB_T β β' x.questions y.questions (hx.2.1) _) ?_
  simp only [EY, if_true, if_false, Nat.reduceAdd, Option.bind_some, kav_r, ne_int, ne_bool, ne_str]
  by_cases n5 : x.questions = y.questions
  rotate_left
  · simp only [EY, if_true, if_false, Nat.reduceAdd, Option.bind_some, kav_r, decide_eq_false n5, Bool.not_false]
    exact ⟨rfl, by rw [decide_eq_false (fun e => n5 (by rw [e]))]⟩
  simp only [EY, if_true, if_false, Nat.reduceAdd, Option.bind_some, kav_r, decide_eq_true n5, Bool.not_true, ne_int, ne_bool, ne_str]
  by_cases n6 : x.asked = y.asked
  rotate_left
  · simp only [EY, if_true, if_false, Nat.reduceAdd, Option.bind_some, kav_r, decide_eq_false n6, Bool.not_false]
    exact ⟨rfl, by rw [decide_eq_false (fun e => n6 (by rw [e]))]⟩
  simp only [EY, if_true, if_false, Nat.reduceAdd, Option.bind_some, kav_r, decide_eq_true n6, Bool.not_true, ne_int, ne_bool, ne_str]
  refine TCall.val (by simp only [EO]) (kaB_T β β' x.answers y.answers (hx.2.2) _) ?_
  simp only [EY, if_true, if_false, Nat.reduceAdd, Option.bind_some, kav_r, ne_int, ne_bool, ne_str]
  by_cases n7 : x.answers = y.answers
  rotate_left
  · simp only [EY, if_true, if_false, Nat.reduceAdd, Option.bind_some, kav_r, decide_eq_false n7, Bool.not_false]
    exact ⟨rfl, by rw [decide_eq_false (fun e => n7 (by rw [e]))]⟩
  simp only [EY, if_true, if_false, Nat.reduceAdd, Option.bind_some, kav_r, decide_eq_true n7, Bool.not_true, ne_int, ne_bool, ne_str]
  exact ⟨rfl, by rw [decide_eq_true (by cases x; cases y; simp only [DLink.mk.injEq]; exact ⟨n1, n2, n3, n4, n5, n6, n7⟩)]⟩
theorem kaw_T (β β' : Bool) (l m : List DLink) (hl : l.length ≤ 1073741824) (ho : ∀ x ∈ l, x.ok 1073741824) (h : AH) : T Tryz.prog Γ Fn.kaw [.vs β 7 false (l.map (DLink.c β)), .vs β' 7 false (m.map (DLink.c β'))] h fun v h' => v = .bool (decide (l = m)) ∧ h' = h :=
  eqS_D (f := Fn.kav) tabOK mixed (fun hw => kaw_e hw) (by omega) (fun x => ⟨rfl, rfl⟩) (fun x => ⟨rfl, rfl⟩) (fun x hx y _ => kav_T β β' x y (ho x hx) h)
theorem kbv_T (β : Bool) (x : DWire) (h : AH) : T Tryz.prog Γ Fn.kbv [.agg (x.c β)] h fun v h' => v = .agg (x.c false) ∧ h' = h := by
  refine kbv_e (aw_sound tabOK mixed [] _ _ _ ?_)
  unfold kbv_c DWire.c
  simp only [EY, if_true, if_false, Nat.reduceAdd, Option.bind_some, kbv_r]
  exact rfl
theorem kbw_T (β : Bool) (l : List DWire) (hl : l.length ≤ 1048576) (h : AH) : T Tryz.prog Γ Fn.kbw [.vs β 2 false (l.map (DWire.c β))] h (Fresh h [.c (.sl 2 (l.map DWire.cd))]) :=
  toS_own (szs := 2) (sz := 2) (bytes := 16) (z := [.int .i64 0, .int .i64 0]) (f := Fn.kbv) tabOK mixed (fun hw => kbw_e hw) (by simp [maxMade]; omega) rfl rfl (fun x _ => ⟨rfl, rfl⟩) (fun x _ => rfl) (fun x hx H => (kbv_T β x H).flat (cs := x.cd) (by simp [DWire.cd, CD.flat]) (by rw [DWire.c_eq]))
theorem kbb_T (β : Bool) (l : List DWire) (hl : l.length ≤ maxLen) (left : Int) (h0 : 0 ≤ left) (h1 : left ≤ 1048576) (h : AH) : T Tryz.prog Γ Fn.kbb [.vs β 2 false (l.map (DWire.c β)), .int .i64 left] h fun v h' => v = .int .i64 (szN l left) ∧ h' = h :=
  szF_T tabOK mixed (fun hw => kbb_e hw) h0 h1 hl
theorem kaI_T (β β' : Bool) (x y : DWire) (h : AH) : T Tryz.prog Γ Fn.kaI [.agg (x.c β), .agg (y.c β')] h fun v h' => v = .bool (decide (x = y)) ∧ h' = h := by
  refine kaI_e (aw_sound tabOK mixed [] _ _ _ ?_)
  unfold kaI_c DWire.c
  simp only [EY, if_true, if_false, Nat.reduceAdd, Option.bind_some, kaI_r, ne_int, ne_bool, ne_str]
  by_cases n1 : x.kind = y.kind
  rotate_left
  · simp only [EY, if_true, if_false, Nat.reduceAdd, Option.bind_some, kaI_r, decide_eq_false n1, Bool.not_false]
    exact ⟨rfl, by rw [decide_eq_false (fun e => n1 (by rw [e]))]⟩
  simp only [EY, if_true, if_false, Nat.reduceAdd, Option.bind_some, kaI_r, decide_eq_true n1, Bool.not_true, ne_int, ne_bool, ne_str]
  by_cases n2 : x.n = y.n
  rotate_left
  · simp only [EY, if_true, if_false, Nat.reduceAdd, Option.bind_some, kaI_r, decide_eq_false n2, Bool.not_false]
    exact ⟨rfl, by rw [decide_eq_false (fun e => n2 (by rw [e]))]⟩
  simp only [EY, if_true, if_false, Nat.reduceAdd, Option.bind_some, kaI_r, decide_eq_true n2, Bool.not_true, ne_int, ne_bool, ne_str]
  exact ⟨rfl, by rw [decide_eq_true (by cases x; cases y; simp only [DWire.mk.injEq]; exact ⟨n1, n2⟩)]⟩
theorem kaJ_T (β β' : Bool) (l m : List DWire) (hl : l.length ≤ 1073741824) (h : AH) : T Tryz.prog Γ Fn.kaJ [.vs β 2 false (l.map (DWire.c β)), .vs β' 2 false (m.map (DWire.c β'))] h fun v h' => v = .bool (decide (l = m)) ∧ h' = h :=
  eqS_D (f := Fn.kaI) tabOK mixed (fun hw => kaJ_e hw) (by omega) (fun x => ⟨rfl, rfl⟩) (fun x => ⟨rfl, rfl⟩) (fun x hx y _ => kaI_T β β' x y h)
theorem kbk_T (β : Bool) (x : DMessage) (hx : x.ok 1048576) (h : AH) : T Tryz.prog Γ Fn.kbk [.agg (x.c β)] h (Fresh h [.a x.cd]) := by
  refine T.freshA (kbk_e (aw_sound tabOK mixed [] _ _ _ ?_))
  unfold kbk_c DMessage.c
  simp only [EY, if_true, if_false, Nat.reduceAdd, Option.bind_some, kbk_r]
  refine TCall.ref (by simp only [EO]) (kbw_T β x.args (hx.2) _) ?_
  intro v1 h1 q1
  obtain ⟨n1, f1, rfl, o1, nd1, b1⟩ := q1.one
  obtain ⟨c1a, c1b, c1c, c1d⟩ := o1.cell
  simp only [EY, if_true, if_false, Nat.reduceAdd, Option.bind_some, c1a, c1b, c1c, c1d, kbk_r]
  refine TCall.val (by simp only [EO]) (kbv_T β x.value _) ?_
  simp only [EY, if_true, if_false, Nat.reduceAdd, Option.bind_some, DWire.c, c1a, c1b, c1c, c1d, kbk_r]
  refine TCall.val (by simp only [EO]) (kbr_T β x.tag _) ?_
  simp only [EY, if_true, if_false, Nat.reduceAdd, Option.bind_some, DTag.c, c1a, c1b, c1c, c1d, kbk_r]
  refine ⟨by simp only [EO, outOK, c1a, c1b, c1c, c1d], _, n1, _, rfl, by simp, (.i (.i (.i (.i (.s (.o o1 (.i (.i (.i (.i (.i (.i .nil)))))))))))), ?_, ?_⟩
  · simpa using nd1
  · simpa using b1
theorem ka3_T (β : Bool) (x : DMessage) (hx : x.ok maxLen) (left : Int) (h0 : 0 ≤ left) (h1 : left ≤ 1048576) (h : AH) : T Tryz.prog Γ Fn.ka3 [.agg (x.c β), .int .i64 left] h fun v h' => v = .int .i64 (x.szf left) ∧ h' = h := by
  have hml : maxLen ≤ 9223372036854775807 := by decide
  refine ka3_e (aw_sound tabOK mixed [] _ _ _ ?_)
  unfold ka3_c DMessage.c
  simp only [EY, if_true, if_false, Nat.reduceAdd, Option.bind_some, ka3_r, len_str]
  have hs1 : x.name.size ≤ maxLen := hx.1
  rw [wrap_nat (by omega) (by omega)]
  by_cases n1 : (left - (x.name.size : Int)) < 0
  · simp only [EY, if_true, if_false, Nat.reduceAdd, Option.bind_some, ka3_r, decide_eq_true n1]
    exact ⟨rfl, by simp only [DMessage.szf, n1, if_true, if_false]⟩
  simp only [EY, if_true, if_false, Nat.reduceAdd, Option.bind_some, ka3_r, decide_eq_false n1, len_str]
  refine TCall.val (by simp only [EO]) (kbb_T β x.args (hx.2) _ (by omega) (by omega) _) ?_
  simp only [EY, if_true, if_false, Nat.reduceAdd, Option.bind_some, ka3_r, len_str]
  by_cases n2 : (szN x.args (left - (x.name.size : Int))) < 0
  · simp only [EY, if_true, if_false, Nat.reduceAdd, Option.bind_some, ka3_r, decide_eq_true n2]
    exact ⟨rfl, by simp only [DMessage.szf, n2, if_true, if_false, n1]⟩
  simp only [EY, if_true, if_false, Nat.reduceAdd, Option.bind_some, ka3_r, decide_eq_false n2, len_str]
  have q2 := (szN_ok (Int.not_lt.1 n2)).2
  exact ⟨rfl, by simp only [DMessage.szf, if_false, n1, n2]⟩
theorem kax_T (β β' : Bool) (x y : DMessage) (hx : x.ok 1073741824) (h : AH) : T Tryz.prog Γ Fn.kax [.agg (x.c β), .agg (y.c β')] h fun v h' => v = .bool (decide (x = y)) ∧ h' = h := by
  refine kax_e (aw_sound tabOK mixed [] _ _ _ ?_)
  unfold kax_c DMessage.c
  simp only [EY, if_true, if_false, Nat.reduceAdd, Option.bind_some, kax_r, ne_int, ne_bool, ne_str]
  by_cases n1 : x.kind = y.kind
  rotate_left
  · simp only [EY, if_true, if_false, Nat.reduceAdd, Option.bind_some, kax_r, decide_eq_false n1, Bool.not_false]
    exact ⟨rfl, by rw [decide_eq_false (fun e => n1 (by rw [e]))]⟩
  simp only [EY, if_true, if_false, Nat.reduceAdd, Option.bind_some, kax_r, decide_eq_true n1, Bool.not_true, ne_int, ne_bool, ne_str]
  by_cases n2 : x.pos = y.pos
  rotate_left
  · simp only [EY, if_true, if_false, Nat.reduceAdd, Option.bind_some, kax_r, decide_eq_false n2, Bool.not_false]
    exact ⟨rfl, by rw [decide_eq_false (fun e => n2 (by rw [e]))]⟩
  simp only [EY, if_true, if_false, Nat.reduceAdd, Option.bind_some, kax_r, decide_eq_true n2, Bool.not_true, ne_int, ne_bool, ne_str]
  by_cases n3 : x.answer = y.answer
  rotate_left
  · simp only [EY, if_true, if_false, Nat.reduceAdd, Option.bind_some, kax_r, decide_eq_false n3, Bool.not_false]
    exact ⟨rfl, by rw [decide_eq_false (fun e => n3 (by rw [e]))]⟩
  simp only [EY, if_true, if_false, Nat.reduceAdd, Option.bind_some, kax_r, decide_eq_true n3, Bool.not_true, ne_int, ne_bool, ne_str]
  by_cases n4 : x.question = y.question
  rotate_left
  · simp only [EY, if_true, if_false, Nat.reduceAdd, Option.bind_some, kax_r, decide_eq_false n4, Bool.not_false]
    exact ⟨rfl, by rw [decide_eq_false (fun e => n4 (by rw [e]))]⟩
  simp only [EY, if_true, if_false, Nat.reduceAdd, Option.bind_some, kax_r, decide_eq_true n4, Bool.not_true, ne_int, ne_bool, ne_str]
  by_cases n5 : x.name = y.name
  rotate_left
  · simp only [EY, if_true, if_false, Nat.reduceAdd, Option.bind_some, kax_r, decide_eq_false n5, Bool.not_false]
    exact ⟨rfl, by rw [decide_eq_false (fun e => n5 (by rw [e]))]⟩
  simp only [EY, if_true, if_false, Nat.reduceAdd, Option.bind_some, kax_r, decide_eq_true n5, Bool.not_true, ne_int, ne_bool, ne_str]
  refine TCall.val (by simp only [EO]) (kaJ_T β β' x.args y.args (hx.2) _) ?_
  simp only [EY, if_true, if_false, Nat.reduceAdd, Option.bind_some, kax_r, ne_int, ne_bool, ne_str]
  by_cases n6 : x.args = y.args
  rotate_left
  · simp only [EY, if_true, if_false, Nat.reduceAdd, Option.bind_some, kax_r, decide_eq_false n6, Bool.not_false]
    exact ⟨rfl, by rw [decide_eq_false (fun e => n6 (by rw [e]))]⟩
  simp only [EY, if_true, if_false, Nat.reduceAdd, Option.bind_some, kax_r, decide_eq_true n6, Bool.not_true, ne_int, ne_bool, ne_str]
  refine TCall.val (by simp only [EO]) (kaI_T β β' x.value y.value _) ?_
  simp only [EY, if_true, if_false, Nat.reduceAdd, Option.bind_some, kax_r, ne_int, ne_bool, ne_str]
  by_cases n7 : x.value = y.value
  rotate_left
  · simp only [EY, if_true, if_false, Nat.reduceAdd, Option.bind_some, kax_r, decide_eq_false n7, Bool.not_false]
    exact ⟨rfl, by rw [decide_eq_false (fun e => n7 (by rw [e]))]⟩
  simp only [EY, if_true, if_false, Nat.reduceAdd, Option.bind_some, kax_r, decide_eq_true n7, Bool.not_true, ne_int, ne_bool, ne_str]
  by_cases n8 : x.count = y.count
  rotate_left
  · simp only [EY, if_true, if_false, Nat.reduceAdd, Option.bind_some, kax_r, decide_eq_false n8, Bool.not_false]
    exact ⟨rfl, by rw [decide_eq_false (fun e => n8 (by rw [e]))]⟩
  simp only [EY, if_true, if_false, Nat.reduceAdd, Option.bind_some, kax_r, decide_eq_true n8, Bool.not_true, ne_int, ne_bool, ne_str]
  refine TCall.val (by simp only [EO]) (kaE_T β β' x.tag y.tag _) ?_
  simp only [EY, if_true, if_false, Nat.reduceAdd, Option.bind_some, kax_r, ne_int, ne_bool, ne_str]
  by_cases n9 : x.tag = y.tag
  rotate_left
  · simp only [EY, if_true, if_false, Nat.reduceAdd, Option.bind_some, kax_r, decide_eq_false n9, Bool.not_false]
    exact ⟨rfl, by rw [decide_eq_false (fun e => n9 (by rw [e]))]⟩
  simp only [EY, if_true, if_false, Nat.reduceAdd, Option.bind_some, kax_r, decide_eq_true n9, Bool.not_true, ne_int, ne_bool, ne_str]
  exact ⟨rfl, by rw [decide_eq_true (by cases x; cases y; simp only [DMessage.mk.injEq]; exact ⟨n1, n2, n3, n4, n5, n6, n7, n8, n9⟩)]⟩
theorem kbl_T (β : Bool) (x : DOutgoing) (hx : x.ok 1048576) (h : AH) : T Tryz.prog Γ Fn.kbl [.agg (x.c β)] h (Fresh h [.a x.cd]) := by
  refine T.freshA (kbl_e (aw_sound tabOK mixed [] _ _ _ ?_))
  unfold kbl_c DOutgoing.c
  simp only [EY, if_true, if_false, Nat.reduceAdd, Option.bind_some, kbl_r]
  refine TCall.ref (by simp only [EO]) (kbk_T β x.message (hx) _) ?_
  intro v1 h1 q1
  obtain ⟨as1, n1, f1, rfl, rfl, o1, nd1, b1⟩ := q1.oneA
  simp only [DMessage.cd, ownL_c, ownL_n, own_i, own_b, own_s] at o1
  obtain ⟨_, _, _, _, rfl, rfl, ⟨rfl, rfl⟩, ⟨_, _, _, _, rfl, rfl, ⟨rfl, rfl⟩, ⟨_, _, _, _, rfl, rfl, ⟨rfl, rfl⟩, ⟨_, _, _, _, rfl, rfl, ⟨rfl, rfl⟩, ⟨_, _, _, _, rfl, rfl, ⟨rfl, rfl⟩, ⟨w5, _, e5, _, rfl, rfl, u5, ⟨_, _, _, _, rfl, rfl, ⟨rfl, rfl⟩, ⟨_, _, _, _, rfl, rfl, ⟨rfl, rfl⟩, ⟨_, _, _, _, rfl, rfl, ⟨rfl, rfl⟩, ⟨_, _, _, _, rfl, rfl, ⟨rfl, rfl⟩, ⟨_, _, _, _, rfl, rfl, ⟨rfl, rfl⟩, ⟨_, _, _, _, rfl, rfl, ⟨rfl, rfl⟩, ⟨rfl, rfl⟩⟩⟩⟩⟩⟩⟩⟩⟩⟩⟩⟩⟩ := o1
  obtain ⟨g5a, g5b, g5c, g5d⟩ := u5.cell
  simp only [EY, if_true, if_false, Nat.reduceAdd, Option.bind_some, g5a, g5b, g5c, g5d, kbl_r]
  exact ⟨by simp only [EO, outOK, g5a, g5b, g5c, g5d], _, n1, _, rfl, rfl, (.i (.i (.i (.i (.i (.s (.o u5 (.i (.i (.i (.i (.i (.i .nil))))))))))))), by simpa using nd1, by simpa using b1⟩
theorem kbm_T (β : Bool) (l : List DOutgoing) (hl : l.length ≤ 1048576) (ho : ∀ x ∈ l, x.ok 1048576) (h : AH) : T Tryz.prog Γ Fn.kbm [.vs β 13 false (l.map (DOutgoing.c β))] h (Fresh h [.c (.sl 13 (l.map DOutgoing.cd))]) :=
  toS_own (szs := 13) (sz := 13) (bytes := 128) (z := [.int .i64 0, .int .i64 0, .int .i64 0, .int .i64 0, .int .i64 0, .str ⟨#[]⟩, .nils, .int .i64 0, .int .i64 0, .int .i64 0, .int .i64 0, .int .i64 0, .int .i64 0]) (f := Fn.kbl) tabOK mixed (fun hw => kbm_e hw) (by simp [maxMade]; omega) rfl rfl (fun x _ => ⟨rfl, rfl⟩) (fun x _ => rfl) (fun x hx H => kbl_T β x (ho x hx) H)
theorem ka4_T (β : Bool) (x : DOutgoing) (hx : x.ok maxLen) (left : Int) (h0 : 0 ≤ left) (h1 : left ≤ 1048576) (h : AH) : T Tryz.prog Γ Fn.ka4 [.agg (x.c β), .int .i64 left] h fun v h' => v = .int .i64 (x.szf left) ∧ h' = h := by
  have hml : maxLen ≤ 9223372036854775807 := by decide
  refine ka4_e (aw_sound tabOK mixed [] _ _ _ ?_)
  unfold ka4_c DOutgoing.c
  simp only [EY, if_true, if_false, Nat.reduceAdd, Option.bind_some, ka4_r, len_str]
  refine TCall.val (by simp only [EO]) (ka3_T β x.message (hx) _ (by omega) (by omega) _) ?_
  simp only [EY, if_true, if_false, Nat.reduceAdd, Option.bind_some, ka4_r, len_str]
  by_cases n1 : (x.message.szf left) < 0
  · simp only [EY, if_true, if_false, Nat.reduceAdd, Option.bind_some, ka4_r, decide_eq_true n1]
    exact ⟨rfl, by simp only [DOutgoing.szf, n1, if_true, if_false]⟩
  simp only [EY, if_true, if_false, Nat.reduceAdd, Option.bind_some, ka4_r, decide_eq_false n1, len_str]
  have q1 := (DMessage.szf_ok _ _ (by omega) (by omega) (Int.not_lt.1 n1)).2
  exact ⟨rfl, by simp only [DOutgoing.szf, if_false, n1]⟩
theorem ka5_T (β : Bool) (l : List DOutgoing) (hl : l.length ≤ maxLen) (ho : ∀ x ∈ l, x.ok maxLen) (left : Int) (h0 : 0 ≤ left) (h1 : left ≤ 1048576) (h : AH) : T Tryz.prog Γ Fn.ka5 [.vs β 13 false (l.map (DOutgoing.c β)), .int .i64 left] h fun v h' => v = .int .i64 (szL DOutgoing.szf l left) ∧ h' = h :=
  szS_T (f := Fn.ka4) tabOK mixed (fun hw => ka5_e hw) h0 h1 hl (fun x => ⟨rfl, rfl⟩) (fun x left a b c => (DOutgoing.szf_ok x left a b c).2) (fun x hx left a b => ka4_T β x (ho x hx) left a b h)
theorem kay_T (β β' : Bool) (x y : DOutgoing) (hx : x.ok 1073741824) (h : AH) : T Tryz.prog Γ Fn.kay [.agg (x.c β), .agg (y.c β')] h fun v h' => v = .bool (decide (x = y)) ∧ h' = h := by
  refine kay_e (aw_sound tabOK mixed [] _ _ _ ?_)
  unfold kay_c DOutgoing.c
  simp only [EY, if_true, if_false, Nat.reduceAdd, Option.bind_some, kay_r, ne_int, ne_bool, ne_str]
  by_cases n1 : x.to_ = y.to_
  rotate_left
  · simp only [EY, if_true, if_false, Nat.reduceAdd, Option.bind_some, kay_r, decide_eq_false n1, Bool.not_false]
    exact ⟨rfl, by rw [decide_eq_false (fun e => n1 (by rw [e]))]⟩
  simp only [EY, if_true, if_false, Nat.reduceAdd, Option.bind_some, kay_r, decide_eq_true n1, Bool.not_true, ne_int, ne_bool, ne_str]
  refine TCall.val (by simp only [EO]) (kax_T β β' x.message y.message (hx) _) ?_
  simp only [EY, if_true, if_false, Nat.reduceAdd, Option.bind_some, kay_r, ne_int, ne_bool, ne_str]
  by_cases n2 : x.message = y.message
  rotate_left
  · simp only [EY, if_true, if_false, Nat.reduceAdd, Option.bind_some, kay_r, decide_eq_false n2, Bool.not_false]
    exact ⟨rfl, by rw [decide_eq_false (fun e => n2 (by rw [e]))]⟩
  simp only [EY, if_true, if_false, Nat.reduceAdd, Option.bind_some, kay_r, decide_eq_true n2, Bool.not_true, ne_int, ne_bool, ne_str]
  exact ⟨rfl, by rw [decide_eq_true (by cases x; cases y; simp only [DOutgoing.mk.injEq]; exact ⟨n1, n2⟩)]⟩
theorem kaz_T (β β' : Bool) (l m : List DOutgoing) (hl : l.length ≤ 1073741824) (ho : ∀ x ∈ l, x.ok 1073741824) (h : AH) : T Tryz.prog Γ Fn.kaz [.vs β 13 false (l.map (DOutgoing.c β)), .vs β' 13 false (m.map (DOutgoing.c β'))] h fun v h' => v = .bool (decide (l = m)) ∧ h' = h :=
  eqS_D (f := Fn.kay) tabOK mixed (fun hw => kaz_e hw) (by omega) (fun x => ⟨rfl, rfl⟩) (fun x => ⟨rfl, rfl⟩) (fun x hx y _ => kay_T β β' x y (ho x hx) h)
theorem kbu_T (β : Bool) (x : DVat) (hx : x.ok 1048576) (h : AH) : T Tryz.prog Γ Fn.kbu [.agg (x.c β)] h (Fresh h [.a x.cd]) := by
  refine T.freshA (kbu_e (aw_sound tabOK mixed [] _ _ _ ?_))
  unfold kbu_c DVat.c
  simp only [EY, if_true, if_false, Nat.reduceAdd, Option.bind_some, kbu_r]
  refine TCall.ref (by simp only [EO]) (kbf_T β x.entities (hx.1) (hx.2.1) _) ?_
  intro v1 h1 q1
  obtain ⟨n1, f1, rfl, o1, nd1, b1⟩ := q1.one
  obtain ⟨c1a, c1b, c1c, c1d⟩ := o1.cell
  simp only [EY, if_true, if_false, Nat.reduceAdd, Option.bind_some, c1a, c1b, c1c, c1d, kbu_r]
  refine TCall.ref (by simp only [EO]) (kbq_T β x.loop (hx.2.2.1) (hx.2.2.2.1) _) ?_
  intro v2 h2 q2
  obtain ⟨n2, f2, rfl, o2, nd2, b2⟩ := q2.one
  obtain ⟨c2a, c2b, c2c, c2d⟩ := o2.cell
  simp only [EY, if_true, if_false, Nat.reduceAdd, Option.bind_some, c1a, c1b, c1c, c1d, c2a, c2b, c2c, c2d, kbu_r]
  refine TCall.ref (by simp only [EO]) (kbj_T β x.links (hx.2.2.2.2.1) (hx.2.2.2.2.2.1) _) ?_
  intro v3 h3 q3
  obtain ⟨n3, f3, rfl, o3, nd3, b3⟩ := q3.one
  obtain ⟨c3a, c3b, c3c, c3d⟩ := o3.cell
  simp only [EY, if_true, if_false, Nat.reduceAdd, Option.bind_some, c1a, c1b, c1c, c1d, c2a, c2b, c2c, c2d, c3a, c3b, c3c, c3d, kbu_r]
  refine TCall.ref (by simp only [EO]) (kbm_T β x.out (hx.2.2.2.2.2.2.1) (hx.2.2.2.2.2.2.2) _) ?_
  intro v4 h4 q4
  obtain ⟨n4, f4, rfl, o4, nd4, b4⟩ := q4.one
  obtain ⟨c4a, c4b, c4c, c4d⟩ := o4.cell
  simp only [EY, if_true, if_false, Nat.reduceAdd, Option.bind_some, c1a, c1b, c1c, c1d, c2a, c2b, c2c, c2d, c3a, c3b, c3c, c3d, c4a, c4b, c4c, c4d, kbu_r]
  refine ⟨by simp only [EO, outOK, c1a, c1b, c1c, c1d, c2a, c2b, c2c, c2d, c3a, c3b, c3c, c3d, c4a, c4b, c4c, c4d], _, n1 ++ n2 ++ n3 ++ n4, _, rfl, by simp, (.i (.o o1.grow.grow.grow (.o o2.grow.grow (.o o3.grow (.o o4 .nil))))), ?_, ?_⟩
  · simp only [List.append_nil]
    exact nodup_app nd1 (nodup_app nd2 (nodup_app nd3 (nd4) (fun b hb => o3.lt b hb) (fun b hb => by (try simp only [List.mem_append] at hb); first | (have := b4 b hb; simp only [List.length_append] at this ⊢; omega))) (fun b hb => o2.lt b hb) (fun b hb => by (try simp only [List.mem_append] at hb); rcases hb with hb | hb <;> first | (have := b3 b hb; simp only [List.length_append] at this ⊢; omega) | (have := b4 b hb; simp only [List.length_append] at this ⊢; omega))) (fun b hb => o1.lt b hb) (fun b hb => by (try simp only [List.mem_append] at hb); rcases hb with hb | hb | hb <;> first | (have := b2 b hb; simp only [List.length_append] at this ⊢; omega) | (have := b3 b hb; simp only [List.length_append] at this ⊢; omega) | (have := b4 b hb; simp only [List.length_append] at this ⊢; omega))
  · intro b hb
    simp only [List.append_nil, List.mem_append] at hb
    rcases hb with hb | hb | hb | hb <;> first | (have := b1 b hb; simp only [List.length_append] at this ⊢; omega) | (have := b2 b hb; simp only [List.length_append] at this ⊢; omega) | (have := b3 b hb; simp only [List.length_append] at this ⊢; omega) | (have := b4 b hb; simp only [List.length_append] at this ⊢; omega)
theorem kbu_V (β : Bool) (x : DVat) (hx : x.ok 1048576) (h : AH) : T Tryz.prog Γ Fn.kbu [.agg (x.c β)] h fun v h' => v = .agg (x.c false) ∧ h' = h := by
  have := (kbu_T (Γ := Γ) β x hx h).valA; rwa [DVat.c_eq] at this
theorem kba_T (β : Bool) (x : DVat) (hx : x.ok maxLen) (left : Int) (h0 : 0 ≤ left) (h1 : left ≤ 1048576) (h : AH) : T Tryz.prog Γ Fn.kba [.agg (x.c β), .int .i64 left] h fun v h' => v = .int .i64 (x.szf left) ∧ h' = h := by
  have hml : maxLen ≤ 9223372036854775807 := by decide
  refine kba_e (aw_sound tabOK mixed [] _ _ _ ?_)
  unfold kba_c DVat.c
  simp only [EY, if_true, if_false, Nat.reduceAdd, Option.bind_some, kba_r, len_str]
  refine TCall.val (by simp only [EO]) (kaZ_T β x.entities (hx.1) (hx.2.1) _ (by omega) (by omega) _) ?_
  simp only [EY, if_true, if_false, Nat.reduceAdd, Option.bind_some, kba_r, len_str]
  by_cases n1 : (szL DEntity.szf x.entities left) < 0
  · simp only [EY, if_true, if_false, Nat.reduceAdd, Option.bind_some, kba_r, decide_eq_true n1]
    exact ⟨rfl, by simp only [DVat.szf, n1, if_true, if_false]⟩
  simp only [EY, if_true, if_false, Nat.reduceAdd, Option.bind_some, kba_r, decide_eq_false n1, len_str]
  have q1 := (szL_ok (Q := DEntity.ok 1048576) (B := 1048576) (fun x left a b c => DEntity.szf_ok x left a b c) (by omega) (by omega) (Int.not_lt.1 n1)).2
  refine TCall.val (by simp only [EO]) (ka8_T β x.loop (hx.2.2.1) (hx.2.2.2.1) _ (by omega) (by omega) _) ?_
  simp only [EY, if_true, if_false, Nat.reduceAdd, Option.bind_some, kba_r, len_str]
  by_cases n2 : (szL DSent.szf x.loop (szL DEntity.szf x.entities left)) < 0
  · simp only [EY, if_true, if_false, Nat.reduceAdd, Option.bind_some, kba_r, decide_eq_true n2]
    exact ⟨rfl, by simp only [DVat.szf, n2, if_true, if_false, n1]⟩
  simp only [EY, if_true, if_false, Nat.reduceAdd, Option.bind_some, kba_r, decide_eq_false n2, len_str]
  have q2 := (szL_ok (Q := DSent.ok 1048576) (B := 1048576) (fun x left a b c => DSent.szf_ok x left a b c) (by omega) (by omega) (Int.not_lt.1 n2)).2
  refine TCall.val (by simp only [EO]) (ka2_T β x.links (hx.2.2.2.2.1) (hx.2.2.2.2.2.1) _ (by omega) (by omega) _) ?_
  simp only [EY, if_true, if_false, Nat.reduceAdd, Option.bind_some, kba_r, len_str]
  by_cases n3 : (szL DLink.szf x.links (szL DSent.szf x.loop (szL DEntity.szf x.entities left))) < 0
  · simp only [EY, if_true, if_false, Nat.reduceAdd, Option.bind_some, kba_r, decide_eq_true n3]
    exact ⟨rfl, by simp only [DVat.szf, n3, if_true, if_false, n1, n2]⟩
  simp only [EY, if_true, if_false, Nat.reduceAdd, Option.bind_some, kba_r, decide_eq_false n3, len_str]
  have q3 := (szL_ok (Q := DLink.ok 1048576) (B := 1048576) (fun x left a b c => DLink.szf_ok x left a b c) (by omega) (by omega) (Int.not_lt.1 n3)).2
  refine TCall.val (by simp only [EO]) (ka5_T β x.out (hx.2.2.2.2.2.2.1) (hx.2.2.2.2.2.2.2) _ (by omega) (by omega) _) ?_
  simp only [EY, if_true, if_false, Nat.reduceAdd, Option.bind_some, kba_r, len_str]
  by_cases n4 : (szL DOutgoing.szf x.out (szL DLink.szf x.links (szL DSent.szf x.loop (szL DEntity.szf x.entities left)))) < 0
  · simp only [EY, if_true, if_false, Nat.reduceAdd, Option.bind_some, kba_r, decide_eq_true n4]
    exact ⟨rfl, by simp only [DVat.szf, n4, if_true, if_false, n1, n2, n3]⟩
  simp only [EY, if_true, if_false, Nat.reduceAdd, Option.bind_some, kba_r, decide_eq_false n4, len_str]
  have q4 := (szL_ok (Q := DOutgoing.ok 1048576) (B := 1048576) (fun x left a b c => DOutgoing.szf_ok x left a b c) (by omega) (by omega) (Int.not_lt.1 n4)).2
  exact ⟨rfl, by simp only [DVat.szf, if_false, n1, n2, n3, n4]⟩
theorem kaH_T (β β' : Bool) (x y : DVat) (hx : x.ok 1073741824) (h : AH) : T Tryz.prog Γ Fn.kaH [.agg (x.c β), .agg (y.c β')] h fun v h' => v = .bool (decide (x = y)) ∧ h' = h := by
  refine kaH_e (aw_sound tabOK mixed [] _ _ _ ?_)
  unfold kaH_c DVat.c
  simp only [EY, if_true, if_false, Nat.reduceAdd, Option.bind_some, kaH_r, ne_int, ne_bool, ne_str]
  by_cases n1 : x.id = y.id
  rotate_left
  · simp only [EY, if_true, if_false, Nat.reduceAdd, Option.bind_some, kaH_r, decide_eq_false n1, Bool.not_false]
    exact ⟨rfl, by rw [decide_eq_false (fun e => n1 (by rw [e]))]⟩
  simp only [EY, if_true, if_false, Nat.reduceAdd, Option.bind_some, kaH_r, decide_eq_true n1, Bool.not_true, ne_int, ne_bool, ne_str]
  refine TCall.val (by simp only [EO]) (kar_T β β' x.entities y.entities (hx.1) (hx.2.1) _) ?_
  simp only [EY, if_true, if_false, Nat.reduceAdd, Option.bind_some, kaH_r, ne_int, ne_bool, ne_str]
  by_cases n2 : x.entities = y.entities
  rotate_left
  · simp only [EY, if_true, if_false, Nat.reduceAdd, Option.bind_some, kaH_r, decide_eq_false n2, Bool.not_false]
    exact ⟨rfl, by rw [decide_eq_false (fun e => n2 (by rw [e]))]⟩
  simp only [EY, if_true, if_false, Nat.reduceAdd, Option.bind_some, kaH_r, decide_eq_true n2, Bool.not_true, ne_int, ne_bool, ne_str]
  refine TCall.val (by simp only [EO]) (kaD_T β β' x.loop y.loop (hx.2.2.1) (hx.2.2.2.1) _) ?_
  simp only [EY, if_true, if_false, Nat.reduceAdd, Option.bind_some, kaH_r, ne_int, ne_bool, ne_str]
  by_cases n3 : x.loop = y.loop
  rotate_left
  · simp only [EY, if_true, if_false, Nat.reduceAdd, Option.bind_some, kaH_r, decide_eq_false n3, Bool.not_false]
    exact ⟨rfl, by rw [decide_eq_false (fun e => n3 (by rw [e]))]⟩
  simp only [EY, if_true, if_false, Nat.reduceAdd, Option.bind_some, kaH_r, decide_eq_true n3, Bool.not_true, ne_int, ne_bool, ne_str]
  refine TCall.val (by simp only [EO]) (kaw_T β β' x.links y.links (hx.2.2.2.2.1) (hx.2.2.2.2.2.1) _) ?_
  simp only [EY, if_true, if_false, Nat.reduceAdd, Option.bind_some, kaH_r, ne_int, ne_bool, ne_str]
  by_cases n4 : x.links = y.links
  rotate_left
  · simp only [EY, if_true, if_false, Nat.reduceAdd, Option.bind_some, kaH_r, decide_eq_false n4, Bool.not_false]
    exact ⟨rfl, by rw [decide_eq_false (fun e => n4 (by rw [e]))]⟩
  simp only [EY, if_true, if_false, Nat.reduceAdd, Option.bind_some, kaH_r, decide_eq_true n4, Bool.not_true, ne_int, ne_bool, ne_str]
  refine TCall.val (by simp only [EO]) (kaz_T β β' x.out y.out (hx.2.2.2.2.2.2.1) (hx.2.2.2.2.2.2.2) _) ?_
  simp only [EY, if_true, if_false, Nat.reduceAdd, Option.bind_some, kaH_r, ne_int, ne_bool, ne_str]
  by_cases n5 : x.out = y.out
  rotate_left
  · simp only [EY, if_true, if_false, Nat.reduceAdd, Option.bind_some, kaH_r, decide_eq_false n5, Bool.not_false]
    exact ⟨rfl, by rw [decide_eq_false (fun e => n5 (by rw [e]))]⟩
  simp only [EY, if_true, if_false, Nat.reduceAdd, Option.bind_some, kaH_r, decide_eq_true n5, Bool.not_true, ne_int, ne_bool, ne_str]
  exact ⟨rfl, by rw [decide_eq_true (by cases x; cases y; simp only [DVat.mk.injEq]; exact ⟨n1, n2, n3, n4, n5⟩)]⟩
end Go.Proofs.YtccjhmhkfnnmaaaGreat
