import Derived.Test.YtjohoameeeaafaaR1M
import Derived.Test.YtjohoameeeaafaaAmMore2
set_option linter.unusedVariables false
set_option linter.unusedSimpArgs false
namespace Go.Proofs.Ytjohoameeeaafaa
open Go.AM
set_option linter.unusedVariables false
set_option linter.unusedSimpArgs false
variable {Γ : Glob}
/-! Boxes: sealing one. -/
def inR (n lo hi : Int) : Bool := decide (lo ≤ n) && decide (n ≤ hi)
theorem spec_l1In_T (n lo hi : Int) (h : AH) : T Try.prog Γ Fn.spec_l1In [.int .i64 n, .int .i64 lo, .int .i64 hi] h fun v h' => v = .bool (inR n lo hi) ∧ h' = h := by
  refine spec_l1In_e (aw_sound tabOK mixed [] _ _ _ ?_)
  unfold spec_l1In_c
  by_cases c1 : lo ≤ n <;> by_cases c2 : n ≤ hi <;> (simp only [EV, EL, EB, EF, q_bx, if_true, if_false, Bool.false_eq_true, Nat.reduceAdd, Option.bind_some, Bool.not_true, Bool.not_false, Nat.reduceBEq, spec_l1In_r, c1, c2, decide_true, decide_false]; first | exact ⟨rfl, by simp [inR, c1, c2]⟩ | simp [inR, c1, c2])
theorem impl_in_T (n lo hi : Int) (h : AH) : T Try.prog Γ Fn.impl_in [.int .i64 n, .int .i64 lo, .int .i64 hi] h fun v h' => v = .bool (inR n lo hi) ∧ h' = h := by
  refine impl_in_e (aw_sound tabOK mixed [] _ _ _ ?_)
  unfold impl_in_c
  by_cases c1 : lo ≤ n <;> by_cases c2 : n ≤ hi <;> (simp only [EV, EL, EB, EF, q_bx, if_true, if_false, Bool.false_eq_true, Nat.reduceAdd, Option.bind_some, Bool.not_true, Bool.not_false, Nat.reduceBEq, impl_in_r, c1, c2, decide_true, decide_false]; first | exact ⟨rfl, by simp [inR, c1, c2]⟩ | simp [inR, c1, c2])
theorem impl_named_T (n : Int) (h : AH) : T Try.prog Γ Fn.impl_named [.int .i64 n] h fun v h' => v = .bool (inR n 1 999999) ∧ h' = h := by
  refine impl_named_e (aw_sound tabOK mixed [] _ _ _ ?_)
  unfold impl_named_c
  simp only [EV, EL, EB, EF, q_bx, if_true, if_false, Bool.false_eq_true, Nat.reduceAdd, Option.bind_some, Bool.not_true, Bool.not_false, Nat.reduceBEq, impl_named_r]
  refine TCall.val (by simp only [EO]) (impl_in_T _ _ _ _) ?_
  simp only [EV, EL, EB, EF, q_bx, if_true, if_false, Bool.false_eq_true, Nat.reduceAdd, Option.bind_some, Bool.not_true, Bool.not_false, Nat.reduceBEq, impl_named_r]
  first | exact ⟨rfl, rfl⟩ | exact rfl

def goodB (b : DBox) : Bool := inR b.brand 1 999999 && inR b.value.kind 0 2
def boxesGo : Int → List DBox → Bool
  | _, [] => true
  | id, b :: r => if b.id ≤ id then false else if goodB b then boxesGo b.id r else false
def areBoxesF (l : List DBox) : Bool := boxesGo 0 l && decide (l.length ≤ 12)
theorem boxesGo_app : ∀ (l m : List DBox) (id : Int), boxesGo id (l ++ m) = true → boxesGo id l = true
  | [], m, id, _ => rfl
  | b :: l, m, id, h => by
    simp only [List.cons_append, boxesGo] at h ⊢
    split
    · rename_i g; rw [if_pos g] at h; cases h
    · rename_i g; rw [if_neg g] at h
      split
      · rename_i g2; rw [if_pos g2] at h; exact boxesGo_app l m b.id h
      · rename_i g2; rw [if_neg g2] at h; cases h
theorem areBoxes_app {l m : List DBox} (h : areBoxesF (l ++ m) = true) : areBoxesF l = true := by
  simp only [areBoxesF, Bool.and_eq_true, decide_eq_true_eq, List.length_append] at h ⊢
  exact ⟨boxesGo_app l m 0 h.1, by omega⟩

theorem impl_areBoxes_T (β : Bool) (l : List DBox) (hl : l.length ≤ 1048577) (h : AH) : T Try.prog Γ Fn.impl_areBoxes [.vs β 4 false (l.map (DBox.c β))] h fun v h' => v = .bool (areBoxesF l) ∧ h' = h := by
  have L0 := len_vm β 4 false l (DBox.c β)
  generalize e0 : AV.vs β 4 false (l.map (DBox.c β)) = a0 at *
  refine impl_areBoxes_e (aw_sound tabOK mixed [] _ _ _ ?_)
  unfold impl_areBoxes_c
  simp only [EV, EL, EB, EF, q_bx, if_true, if_false, Bool.false_eq_true, Nat.reduceAdd, Option.bind_some, Bool.not_true, Bool.not_false, Nat.reduceBEq, impl_areBoxes_r, L0]
  refine loopI tabOK mixed [] (fun x : Nat × Int × List (List AV) => x.1 ≤ l.length ∧ boxesGo 0 l = boxesGo x.2.1 (l.drop x.1)) (fun x => l.length - x.1)
    (fun x => impl_areBoxes_s0 a0 (.int .i64 x.2.1) a0 (.int .i64 l.length) (.int .i64 x.1) x.2.2 h) (0, 0, []) ⟨by simp, by simp⟩ ⟨by simp [impl_areBoxes_s0, LeL, LeV], rfl, rfl⟩ ?_
  rintro ⟨k, id, L⟩ ⟨hk, ht⟩
  simp only at hk ht
  simp only [EV, EL, EB, EF, q_bx, if_true, if_false, Bool.false_eq_true, Nat.reduceAdd, Option.bind_some, Bool.not_true, Bool.not_false, Nat.reduceBEq, impl_areBoxes_r, impl_areBoxes_s0]
  refine c_split (fun hlt => ?_) (fun hge => ?_)
  rotate_left
  · have hge : k = l.length := by simp at hge; omega
    subst hge
    rw [List.drop_length, boxesGo] at ht
    simp only [EV, EL, EB, EF, q_bx, if_true, if_false, Bool.false_eq_true, Nat.reduceAdd, Option.bind_some, Bool.not_true, Bool.not_false, Nat.reduceBEq, impl_areBoxes_r, L0]
    refine ⟨rfl, ?_⟩
    have e12 : decide ((l.length : Int) ≤ 12) = decide (l.length ≤ 12) := by rw [decide_eq_decide]; omega
    simp only [areBoxesF, ht, Bool.true_and, e12]
  have hlt : k < l.length := by simpa using hlt
  have i0 := idx_vm (β := β) (sz := 4) (ex := false) (ce := DBox.c β) hlt
  rw [e0] at i0
  rw [List.drop_eq_getElem_cons hlt, boxesGo] at ht
  by_cases c1 : l[k].id ≤ id
  · rw [if_pos c1] at ht
    simp only [EV, EL, EB, EF, q_bx, if_true, if_false, Bool.false_eq_true, Nat.reduceAdd, Option.bind_some, Bool.not_true, Bool.not_false, Nat.reduceBEq, impl_areBoxes_r, i0, DBox.c, decide_eq_true c1]
    first | exact ⟨rfl, by simp only [areBoxesF, ht, Bool.false_and]⟩ | simp only [areBoxesF, ht, Bool.false_and]
  rw [if_neg c1] at ht
  simp only [EV, EL, EB, EF, q_bx, if_true, if_false, Bool.false_eq_true, Nat.reduceAdd, Option.bind_some, Bool.not_true, Bool.not_false, Nat.reduceBEq, impl_areBoxes_r, i0, DBox.c, decide_eq_false c1]
  refine TCall.val (by simp only [EO]) (impl_named_T _ _) ?_
  cases c2 : inR l[k].brand 1 999999
  · simp only [goodB, c2, Bool.false_and, Bool.false_eq_true, if_false] at ht
    simp only [EV, EL, EB, EF, q_bx, if_true, if_false, Bool.false_eq_true, Nat.reduceAdd, Option.bind_some, Bool.not_true, Bool.not_false, Nat.reduceBEq, impl_areBoxes_r, i0, DBox.c]
    first | exact ⟨rfl, by simp only [areBoxesF, ht, Bool.false_and]⟩ | simp only [areBoxesF, ht, Bool.false_and]
  simp only [EV, EL, EB, EF, q_bx, if_true, if_false, Bool.false_eq_true, Nat.reduceAdd, Option.bind_some, Bool.not_true, Bool.not_false, Nat.reduceBEq, impl_areBoxes_r, i0, DBox.c]
  refine TCall.val (by simp only [EO]) (impl_in_T _ _ _ _) ?_
  cases c3 : inR l[k].value.kind 0 2
  · simp only [goodB, c2, c3, Bool.and_false, Bool.false_eq_true, if_false] at ht
    simp only [EV, EL, EB, EF, q_bx, if_true, if_false, Bool.false_eq_true, Nat.reduceAdd, Option.bind_some, Bool.not_true, Bool.not_false, Nat.reduceBEq, impl_areBoxes_r, i0, DBox.c]
    first | exact ⟨rfl, by simp only [areBoxesF, ht, Bool.false_and]⟩ | simp only [areBoxesF, ht, Bool.false_and]
  simp only [goodB, c2, c3, Bool.and_self, if_true] at ht
  simp only [EV, EL, EB, EF, q_bx, if_true, if_false, Bool.false_eq_true, Nat.reduceAdd, Option.bind_some, Bool.not_true, Bool.not_false, Nat.reduceBEq, impl_areBoxes_r, i0, DBox.c]
  exact ⟨(k + 1, l[k].id, _), ⟨hlt, ht⟩, by simp only; omega, ⟨by rw [wN (by omega)]; simp [impl_areBoxes_s0, LeL, LeV], rfl, rfl⟩⟩

def prevId (l : List DBox) (k : Nat) : Int := if k = 0 then 0 else match l[k - 1]? with | some b => b.id | none => 0
theorem prevId_s {l : List DBox} {k : Nat} (hk : k < l.length) : prevId l (k + 1) = l[k].id := by
  unfold prevId; rw [if_neg (by omega)]; simp [hk]

theorem spec_AreBoxes_T (β : Bool) (l : List DBox) (hl : l.length ≤ 1048577) (h : AH) : T Try.prog Γ Fn.spec_AreBoxes [.vs β 4 false (l.map (DBox.c β))] h fun v h' => v = .bool (areBoxesF l) ∧ h' = h := by
  have L0 := len_vm β 4 false l (DBox.c β)
  generalize e0 : AV.vs β 4 false (l.map (DBox.c β)) = a0 at *
  refine spec_AreBoxes_e (aw_sound tabOK mixed [] _ _ _ ?_)
  unfold spec_AreBoxes_c
  simp only [EV, EL, EB, EF, q_bx, if_true, if_false, Bool.false_eq_true, Nat.reduceAdd, Option.bind_some, Bool.not_true, Bool.not_false, Nat.reduceBEq, spec_AreBoxes_r, spec_AreBoxes_d0_q, L0]
  refine loopI tabOK mixed [] (fun x : Nat × List (List AV) => x.1 ≤ l.length ∧ 0 ≤ prevId l x.1 ∧ (0 < x.1 → 1 ≤ prevId l x.1) ∧ boxesGo 0 l = boxesGo (prevId l x.1) (l.drop x.1)) (fun x => l.length - x.1)
    (fun x => spec_AreBoxes_s0 a0 (.int .i64 x.1) x.2 h) (0, []) ⟨by simp, by simp [prevId], by simp, by simp [prevId]⟩ ⟨by simp [spec_AreBoxes_s0, LeL, LeV], rfl, rfl⟩ ?_
  rintro ⟨k, L⟩ ⟨hk, p0, p1, ht⟩
  simp only at hk p0 p1 ht
  simp only [EV, EL, EB, EF, q_bx, if_true, if_false, Bool.false_eq_true, Nat.reduceAdd, Option.bind_some, Bool.not_true, Bool.not_false, Nat.reduceBEq, spec_AreBoxes_r, spec_AreBoxes_d0_q, spec_AreBoxes_s0, L0]
  refine c_split (fun hlt => ?_) (fun hge => ?_)
  rotate_left
  · have hge : k = l.length := by simp at hge; omega
    subst hge
    rw [List.drop_length, boxesGo] at ht
    simp only [EV, EL, EB, EF, q_bx, if_true, if_false, Bool.false_eq_true, Nat.reduceAdd, Option.bind_some, Bool.not_true, Bool.not_false, Nat.reduceBEq, spec_AreBoxes_r, spec_AreBoxes_d0_q, L0]
    refine ⟨rfl, ?_⟩
    have e12 : decide ((l.length : Int) ≤ 12) = decide (l.length ≤ 12) := by rw [decide_eq_decide]; omega
    simp only [areBoxesF, ht, Bool.true_and, e12]
  have hlt : k < l.length := by simpa using hlt
  have i0 := idx_vm (β := β) (sz := 4) (ex := false) (ce := DBox.c β) hlt
  rw [e0] at i0
  rw [List.drop_eq_getElem_cons hlt, boxesGo] at ht
  by_cases b1 : l[k].id < 1
  · rw [if_pos (by rcases Nat.eq_zero_or_pos k with g | g; · subst g; simp only [prevId] at p0 ⊢; simp; omega
                   · have := p1 g; omega)] at ht
    simp only [EV, EL, EB, EF, q_bx, if_true, if_false, Bool.false_eq_true, Nat.reduceAdd, Option.bind_some, Bool.not_true, Bool.not_false, Nat.reduceBEq, spec_AreBoxes_r, spec_AreBoxes_d0_q, i0, DBox.c, decide_eq_true b1]
    first | exact ⟨rfl, by simp only [areBoxesF, ht, Bool.false_and]⟩ | simp only [areBoxesF, ht, Bool.false_and]
  rcases Nat.eq_zero_or_pos k with g0 | g0
  · have e00 : prevId l k = 0 := by rw [g0]; rfl
    have hd0 : decide ((k : Int) > 0) = false := by rw [g0]; rfl
    rw [e00, if_neg (by omega)] at ht
    simp only [EV, EL, EB, EF, q_bx, if_true, if_false, Bool.false_eq_true, Nat.reduceAdd, Option.bind_some, Bool.not_true, Bool.not_false, Nat.reduceBEq, spec_AreBoxes_r, spec_AreBoxes_d0_q, i0, DBox.c, decide_eq_false b1, hd0]
    refine TCall.val (by simp only [EO]) (spec_l1In_T _ _ _ _) ?_
    cases c2 : inR l[k].brand 1 999999
    · simp only [goodB, c2, Bool.false_and, Bool.false_eq_true, if_false] at ht
      simp only [EV, EL, EB, EF, q_bx, if_true, if_false, Bool.false_eq_true, Nat.reduceAdd, Option.bind_some, Bool.not_true, Bool.not_false, Nat.reduceBEq, spec_AreBoxes_r, spec_AreBoxes_d0_q, i0, DBox.c]
      first | exact ⟨rfl, by simp only [areBoxesF, ht, Bool.false_and]⟩ | simp only [areBoxesF, ht, Bool.false_and]
    simp only [EV, EL, EB, EF, q_bx, if_true, if_false, Bool.false_eq_true, Nat.reduceAdd, Option.bind_some, Bool.not_true, Bool.not_false, Nat.reduceBEq, spec_AreBoxes_r, spec_AreBoxes_d0_q, i0, DBox.c]
    refine TCall.val (by simp only [EO]) (spec_l1In_T _ _ _ _) ?_
    cases c3 : inR l[k].value.kind 0 2
    · simp only [goodB, c2, c3, Bool.and_false, Bool.false_eq_true, if_false] at ht
      simp only [EV, EL, EB, EF, q_bx, if_true, if_false, Bool.false_eq_true, Nat.reduceAdd, Option.bind_some, Bool.not_true, Bool.not_false, Nat.reduceBEq, spec_AreBoxes_r, spec_AreBoxes_d0_q, i0, DBox.c]
      first | exact ⟨rfl, by simp only [areBoxesF, ht, Bool.false_and]⟩ | simp only [areBoxesF, ht, Bool.false_and]
    simp only [goodB, c2, c3, Bool.and_self, if_true] at ht
    simp only [EV, EL, EB, EF, q_bx, if_true, if_false, Bool.false_eq_true, Nat.reduceAdd, Option.bind_some, Bool.not_true, Bool.not_false, Nat.reduceBEq, spec_AreBoxes_r, spec_AreBoxes_d0_q, i0, DBox.c]
    exact ⟨(k + 1, _), ⟨hlt, by simp only; rw [prevId_s hlt]; omega, fun _ => by simp only; rw [prevId_s hlt]; omega, by simp only; rw [prevId_s hlt]; exact ht⟩, by simp only; omega, ⟨by rw [wN (by omega)]; simp [spec_AreBoxes_s0, LeL, LeV], rfl, rfl⟩⟩
  have hw : IntKind.i64.wrap ((k : Int) - 1) = ((k - 1 : Nat) : Int) := by rw [show (k : Int) - 1 = ((k - 1 : Nat) : Int) by omega]; exact wrap_nat (by omega) (by omega)
  have hk1 : k - 1 < l.length := by omega
  have i1 := idx_vm (β := β) (sz := 4) (ex := false) (ce := DBox.c β) hk1
  rw [e0] at i1
  have ep : prevId l k = l[k - 1].id := by unfold prevId; rw [if_neg (by omega)]; simp [hk1]
  have hkp : decide ((k : Int) > 0) = true := decide_eq_true (by omega)
  by_cases b2 : l[k - 1].id ≥ l[k].id
  · rw [if_pos (by rw [ep]; exact b2)] at ht
    simp only [EV, EL, EB, EF, q_bx, if_true, if_false, Bool.false_eq_true, Nat.reduceAdd, Option.bind_some, Bool.not_true, Bool.not_false, Nat.reduceBEq, spec_AreBoxes_r, spec_AreBoxes_d0_q, i0, DBox.c, decide_eq_false b1, hkp, hw, i1, decide_eq_true b2]
    first | exact ⟨rfl, by simp only [areBoxesF, ht, Bool.false_and]⟩ | simp only [areBoxesF, ht, Bool.false_and]
  rw [if_neg (by rw [ep]; exact b2)] at ht
  simp only [EV, EL, EB, EF, q_bx, if_true, if_false, Bool.false_eq_true, Nat.reduceAdd, Option.bind_some, Bool.not_true, Bool.not_false, Nat.reduceBEq, spec_AreBoxes_r, spec_AreBoxes_d0_q, i0, DBox.c, decide_eq_false b1, hkp, hw, i1, decide_eq_false b2]
  refine TCall.val (by simp only [EO]) (spec_l1In_T _ _ _ _) ?_
  cases c2 : inR l[k].brand 1 999999
  · simp only [goodB, c2, Bool.false_and, Bool.false_eq_true, if_false] at ht
    simp only [EV, EL, EB, EF, q_bx, if_true, if_false, Bool.false_eq_true, Nat.reduceAdd, Option.bind_some, Bool.not_true, Bool.not_false, Nat.reduceBEq, spec_AreBoxes_r, spec_AreBoxes_d0_q, i0, DBox.c]
    first | exact ⟨rfl, by simp only [areBoxesF, ht, Bool.false_and]⟩ | simp only [areBoxesF, ht, Bool.false_and]
  simp only [EV, EL, EB, EF, q_bx, if_true, if_false, Bool.false_eq_true, Nat.reduceAdd, Option.bind_some, Bool.not_true, Bool.not_false, Nat.reduceBEq, spec_AreBoxes_r, spec_AreBoxes_d0_q, i0, DBox.c]
  refine TCall.val (by simp only [EO]) (spec_l1In_T _ _ _ _) ?_
  cases c3 : inR l[k].value.kind 0 2
  · simp only [goodB, c2, c3, Bool.and_false, Bool.false_eq_true, if_false] at ht
    simp only [EV, EL, EB, EF, q_bx, if_true, if_false, Bool.false_eq_true, Nat.reduceAdd, Option.bind_some, Bool.not_true, Bool.not_false, Nat.reduceBEq, spec_AreBoxes_r, spec_AreBoxes_d0_q, i0, DBox.c]
    first | exact ⟨rfl, by simp only [areBoxesF, ht, Bool.false_and]⟩ | simp only [areBoxesF, ht, Bool.false_and]
  simp only [goodB, c2, c3, Bool.and_self, if_true] at ht
  simp only [EV, EL, EB, EF, q_bx, if_true, if_false, Bool.false_eq_true, Nat.reduceAdd, Option.bind_some, Bool.not_true, Bool.not_false, Nat.reduceBEq, spec_AreBoxes_r, spec_AreBoxes_d0_q, i0, DBox.c]
  exact ⟨(k + 1, _), ⟨hlt, by simp only; rw [prevId_s hlt]; omega, fun _ => by simp only; rw [prevId_s hlt]; omega, by simp only; rw [prevId_s hlt]; exact ht⟩, by simp only; omega, ⟨by rw [wN (by omega)]; simp [spec_AreBoxes_s0, LeL, LeV], rfl, rfl⟩⟩

theorem clone_Box (β : Bool) (l : List DBox) (hl : l.length ≤ 1048577) (h : AH) : T Try.prog Γ Fn.slices_Clone_iimpl_Box_impl_Box [.vs β 4 false (l.map (DBox.c β))] h (Fresh h [.c (.sl 4 (l.map DBox.cd))]) :=
  clone_D tabOK mixed (fun hw => slices_Clone_iimpl_Box_impl_Box_e hw) (by omega) (by simp only [maxMade]; omega) (fun x => ⟨rfl, rfl⟩) (fun x => (DBox.c_eq false x).symm)
theorem spec_l32Copy_T (β : Bool) (l : List DBox) (hl : l.length ≤ 1048577) (h : AH) : T Try.prog Γ Fn.spec_l32Copy [.vs β 4 false (l.map (DBox.c β))] h (Fresh h [.c (.sl 4 (l.map DBox.cd))]) := by
  refine T.freshC ?_
  refine spec_l32Copy_e (aw_sound tabOK mixed [] _ _ _ ?_)
  unfold spec_l32Copy_c
  obtain ⟨w, H1, fw, eb, ow, nw, hfw, hlw, hmw⟩ := app_vs (bytes := 32) (bsl0_own h 4) (by simp) (by omega) (β := β) (l := l) (c := DBox.c β) (fun x => ⟨rfl, rfl⟩) (fun x => (DBox.c_eq false x).symm) (by simp only [List.length_nil, maxMade]; omega)
  simp only [EV, EL, EB, EF, q_bx, if_true, if_false, Bool.false_eq_true, Nat.reduceAdd, Option.bind_some, Bool.not_true, Bool.not_false, Nat.reduceBEq, spec_l32Copy_r, EA, eb]
  have ew : HExt h H1 := (HExt.app h [some (0, [])]).upd hlw hfw (by simp)
  obtain ⟨N, rfl⟩ := ew.out
  refine ⟨ow.outOK, N, fw, rfl, ow, nw, fun c hc => ?_⟩
  rcases hmw c hc with g | g
  · simp at g; omega
  · simp at g; omega

def sealId (l : List DBox) : Int := match l[l.length - 1]? with | some b => IntKind.i64.wrap (b.id + 1) | none => 1
def sealF (l : List DBox) (brand : Int) (x : DValue) : List DBox × Int := if areBoxesF (l ++ [DBox.mk (sealId l) brand x]) = true then (l ++ [DBox.mk (sealId l) brand x], sealId l) else (l, -1)
theorem sealF_len (l : List DBox) (brand : Int) (x : DValue) : (sealF l brand x).1.length ≤ l.length + 1 := by unfold sealF; split <;> simp

theorem impl_SealIn_T (β β' : Bool) (l : List DBox) (hl : l.length ≤ 1048576) (brand : Int) (x : DValue) (h : AH) : T Try.prog Γ Fn.impl_SealIn [.vs β 4 false (l.map (DBox.c β)), .int .i64 brand, .agg (x.c β')] h (Fresh h [.c (.sl 4 ((sealF l brand x).1.map DBox.cd)), .c (.i .i64 (sealF l brand x).2)]) := by
  have L0 := len_vm β 4 false l (DBox.c β)
  have fin : ∀ (id : Int), id = sealId l → ∀ (w' src : AV) (H1 : AH) (fw fs : List Nat), Own H1 w' (.sl 4 (l.map DBox.cd)) fw → fw.Nodup → (∀ c ∈ fw, h.length ≤ c) → HExt h H1 → Own H1 src (.sl 4 [DBox.cd (DBox.mk id brand x)]) fs →
      ∃ v' H' fp', (∀ e L, appK ⟨e, L, H1⟩ 4 32 w' (srcCells ⟨e, L, H1⟩ 4 false src) (lenOf src) (lenOf w') = .val v' ⟨e, L, H'⟩) ∧
        Own H' v' (.sl 4 ((l ++ [DBox.mk (sealId l) brand x]).map DBox.cd)) fp' ∧ fp'.Nodup ∧ (∀ c ∈ fp', h.length ≤ c) ∧ HExt h H' := by
    rintro id rfl w' src H1 fw fs ow nw bw ew os
    obtain ⟨v', H', fp', ea, o', nd', hf', hl', hm'⟩ := app_list (bytes := 32) ow nw (by omega) os rfl (by simp only [List.length_map, List.length_cons, List.length_nil, maxMade]; omega)
    refine ⟨v', H', fp', ea, by rw [List.map_append]; exact o', nd', fun c hc => ?_, ew.upd hl' hf' bw⟩
    have := ew.len
    rcases hm' c hc with g | g
    · exact bw c g
    · omega
  have row : ∀ (H : AH) (id : Int), OwnL H [.int .i64 id, .int .i64 brand, .int .i64 x.kind, .int .i64 x.n] (DBox.cd (DBox.mk id brand x)) [] := fun H id => .i (.i (.i (.i .nil)))
  refine T.freshC2 rfl ?_
  refine impl_SealIn_e (aw_sound tabOK mixed [] _ _ _ ?_)
  unfold impl_SealIn_c
  rcases Nat.eq_zero_or_pos l.length with g0 | g0
  · have hid : (1 : Int) = sealId l := by unfold sealId; rw [List.getElem?_eq_none (by omega)]
    have hd : decide ((l.length : Int) > 0) = false := by rw [g0]; rfl
    simp only [EV, EL, EB, EF, q_bx, if_true, if_false, Bool.false_eq_true, Nat.reduceAdd, Option.bind_some, Bool.not_true, Bool.not_false, Nat.reduceBEq, impl_SealIn_r, impl_SealIn_d0_q, EB2, ER, EA, L0, hd, DValue.c]
    refine ⟨?_, ?_⟩
    · refine TCall.ref (by simp only [EO]) (clone_Box β l (by omega) _) ?_
      rintro w H1 fr
      replace fr : Fresh h _ _ _ := fr
      obtain ⟨fw, ow, nw, bw, ew⟩ := fr.c1
      obtain ⟨v', H', fp', ea, o', nd', b', e'⟩ := fin _ hid w _ _ fw _ ow.grow nw bw (ew.trans (HExt.app _ _)) (bsl1_own (sz := 4) H1 rfl (row H1 _))
      obtain ⟨c1, c2, c3, c4⟩ := o'.cell
      simp only [EV, EL, EB, EF, q_bx, if_true, if_false, Bool.false_eq_true, Nat.reduceAdd, Option.bind_some, Bool.not_true, Bool.not_false, Nat.reduceBEq, impl_SealIn_r, impl_SealIn_d0_q, EB2, ER, EA, DValue.c, ea]
      refine ⟨ew.mem _ _ _, ?_⟩
      refine TCall.see (by simp only [EO, c4]) (snap_c (Own.see (DBox.c_eq true) o') snap_n) (fun h => impl_areBoxes_T true (l ++ [DBox.mk (sealId l) brand x]) (by simp; omega) h) (.bool _) ?_
      cases cb : areBoxesF (l ++ [DBox.mk (sealId l) brand x])
      · simp only [EV, EL, EB, EF, q_bx, if_true, if_false, Bool.false_eq_true, Nat.reduceAdd, Option.bind_some, Bool.not_true, Bool.not_false, Nat.reduceBEq, impl_SealIn_r, impl_SealIn_d0_q, EB2, ER, EA, DValue.c, L0]
        refine TCall.ref (by simp only [EO]) (clone_Box β l (by omega) _) ?_
        rintro w2 H2 fr
        replace fr : Fresh H' _ _ _ := fr
        obtain ⟨f2, o2, n2, b2, e2⟩ := fr.c1
        obtain ⟨c1, c2, c3, c4⟩ := o2.cell
        simp only [EV, EL, EB, EF, q_bx, if_true, if_false, Bool.false_eq_true, Nat.reduceAdd, Option.bind_some, Bool.not_true, Bool.not_false, Nat.reduceBEq, impl_SealIn_r, impl_SealIn_d0_q, EB2, ER, EA, DValue.c, c1, c2, c3, c4]
        obtain ⟨N, rfl⟩ := (e'.trans e2).out
        have es : sealF l brand x = (l, -1) := by simp [sealF, cb]
        refine ⟨by simp only [List.all_cons, List.all_nil, c4]; rfl, w2, N, f2, by rw [es, CD.av_i], rfl, by rw [es]; exact o2, n2, fun c hc => by have := b2 c hc; have := e'.len; omega⟩
      have es : sealF l brand x = (l ++ [DBox.mk (sealId l) brand x], sealId l) := by simp [sealF, cb]
      simp only [EV, EL, EB, EF, q_bx, if_true, if_false, Bool.false_eq_true, Nat.reduceAdd, Option.bind_some, Bool.not_true, Bool.not_false, Nat.reduceBEq, impl_SealIn_r, impl_SealIn_d0_q, EB2, ER, EA, DValue.c, c1, c2, c3, c4]
      obtain ⟨N, rfl⟩ := e'.out
      refine ⟨by simp only [List.all_cons, List.all_nil, c4]; rfl, v', N, fp', by rw [es, CD.av_i, ← hid], rfl, by rw [es]; exact o', nd', b'⟩
    · refine TCall.ref (by simp only [EO]) (clone_Box β l (by omega) _) ?_
      rintro w H1 fr
      replace fr : Fresh (h ++ _) _ _ _ := fr
      obtain ⟨fw, ow, nw, bw, ew⟩ := fr.c1
      obtain ⟨v', H', fp', ea, o', nd', b', e'⟩ := fin _ hid w _ _ fw _ ow nw (fun c hc => by have := bw c hc; simp at this; omega) ((HExt.app h _).trans ew) ((bsl1_own (sz := 4) h rfl (row h _)).ext ew)
      obtain ⟨c1, c2, c3, c4⟩ := o'.cell
      simp only [EV, EL, EB, EF, q_bx, if_true, if_false, Bool.false_eq_true, Nat.reduceAdd, Option.bind_some, Bool.not_true, Bool.not_false, Nat.reduceBEq, impl_SealIn_r, impl_SealIn_d0_q, EB2, ER, EA, DValue.c, ea]
      refine ⟨ew.mem _ _ _, ?_⟩
      refine TCall.see (by simp only [EO, c4]) (snap_c (Own.see (DBox.c_eq true) o') snap_n) (fun h => impl_areBoxes_T true (l ++ [DBox.mk (sealId l) brand x]) (by simp; omega) h) (.bool _) ?_
      cases cb : areBoxesF (l ++ [DBox.mk (sealId l) brand x])
      · simp only [EV, EL, EB, EF, q_bx, if_true, if_false, Bool.false_eq_true, Nat.reduceAdd, Option.bind_some, Bool.not_true, Bool.not_false, Nat.reduceBEq, impl_SealIn_r, impl_SealIn_d0_q, EB2, ER, EA, DValue.c, L0]
        refine TCall.ref (by simp only [EO]) (clone_Box β l (by omega) _) ?_
        rintro w2 H2 fr
        replace fr : Fresh H' _ _ _ := fr
        obtain ⟨f2, o2, n2, b2, e2⟩ := fr.c1
        obtain ⟨c1, c2, c3, c4⟩ := o2.cell
        simp only [EV, EL, EB, EF, q_bx, if_true, if_false, Bool.false_eq_true, Nat.reduceAdd, Option.bind_some, Bool.not_true, Bool.not_false, Nat.reduceBEq, impl_SealIn_r, impl_SealIn_d0_q, EB2, ER, EA, DValue.c, c1, c2, c3, c4]
        obtain ⟨N, rfl⟩ := (e'.trans e2).out
        have es : sealF l brand x = (l, -1) := by simp [sealF, cb]
        refine ⟨by simp only [List.all_cons, List.all_nil, c4]; rfl, w2, N, f2, by rw [es, CD.av_i], rfl, by rw [es]; exact o2, n2, fun c hc => by have := b2 c hc; have := e'.len; omega⟩
      have es : sealF l brand x = (l ++ [DBox.mk (sealId l) brand x], sealId l) := by simp [sealF, cb]
      simp only [EV, EL, EB, EF, q_bx, if_true, if_false, Bool.false_eq_true, Nat.reduceAdd, Option.bind_some, Bool.not_true, Bool.not_false, Nat.reduceBEq, impl_SealIn_r, impl_SealIn_d0_q, EB2, ER, EA, DValue.c, c1, c2, c3, c4]
      obtain ⟨N, rfl⟩ := e'.out
      refine ⟨by simp only [List.all_cons, List.all_nil, c4]; rfl, v', N, fp', by rw [es, CD.av_i, ← hid], rfl, by rw [es]; exact o', nd', b'⟩
  have hk1 : l.length - 1 < l.length := by omega
  have hid : IntKind.i64.wrap (l[l.length - 1].id + 1) = sealId l := by unfold sealId; rw [List.getElem?_eq_getElem hk1]
  have hd : decide ((l.length : Int) > 0) = true := decide_eq_true (by omega)
  have hw : IntKind.i64.wrap ((l.length : Int) - 1) = ((l.length - 1 : Nat) : Int) := by rw [show (l.length : Int) - 1 = ((l.length - 1 : Nat) : Int) by omega]; exact wrap_nat (by omega) (by omega)
  have i1 := idx_vm (β := β) (sz := 4) (ex := false) (ce := DBox.c β) hk1
  simp only [EV, EL, EB, EF, q_bx, if_true, if_false, Bool.false_eq_true, Nat.reduceAdd, Option.bind_some, Bool.not_true, Bool.not_false, Nat.reduceBEq, impl_SealIn_r, impl_SealIn_d0_q, EB2, ER, EA, L0, hd, hw, i1, DBox.c, DValue.c]
  refine ⟨?_, ?_⟩
  · refine TCall.ref (by simp only [EO]) (clone_Box β l (by omega) _) ?_
    rintro w H1 fr
    replace fr : Fresh h _ _ _ := fr
    obtain ⟨fw, ow, nw, bw, ew⟩ := fr.c1
    obtain ⟨v', H', fp', ea, o', nd', b', e'⟩ := fin _ hid w _ _ fw _ ow.grow nw bw (ew.trans (HExt.app _ _)) (bsl1_own (sz := 4) H1 rfl (row H1 _))
    obtain ⟨c1, c2, c3, c4⟩ := o'.cell
    simp only [EV, EL, EB, EF, q_bx, if_true, if_false, Bool.false_eq_true, Nat.reduceAdd, Option.bind_some, Bool.not_true, Bool.not_false, Nat.reduceBEq, impl_SealIn_r, impl_SealIn_d0_q, EB2, ER, EA, DValue.c, ea]
    refine ⟨ew.mem _ _ _, ?_⟩
    refine TCall.see (by simp only [EO, c4]) (snap_c (Own.see (DBox.c_eq true) o') snap_n) (fun h => impl_areBoxes_T true (l ++ [DBox.mk (sealId l) brand x]) (by simp; omega) h) (.bool _) ?_
    cases cb : areBoxesF (l ++ [DBox.mk (sealId l) brand x])
    · simp only [EV, EL, EB, EF, q_bx, if_true, if_false, Bool.false_eq_true, Nat.reduceAdd, Option.bind_some, Bool.not_true, Bool.not_false, Nat.reduceBEq, impl_SealIn_r, impl_SealIn_d0_q, EB2, ER, EA, DValue.c, L0]
      refine TCall.ref (by simp only [EO]) (clone_Box β l (by omega) _) ?_
      rintro w2 H2 fr
      replace fr : Fresh H' _ _ _ := fr
      obtain ⟨f2, o2, n2, b2, e2⟩ := fr.c1
      obtain ⟨c1, c2, c3, c4⟩ := o2.cell
      simp only [EV, EL, EB, EF, q_bx, if_true, if_false, Bool.false_eq_true, Nat.reduceAdd, Option.bind_some, Bool.not_true, Bool.not_false, Nat.reduceBEq, impl_SealIn_r, impl_SealIn_d0_q, EB2, ER, EA, DValue.c, c1, c2, c3, c4]
      obtain ⟨N, rfl⟩ := (e'.trans e2).out
      have es : sealF l brand x = (l, -1) := by simp [sealF, cb]
      refine ⟨by simp only [List.all_cons, List.all_nil, c4]; rfl, w2, N, f2, by rw [es, CD.av_i], rfl, by rw [es]; exact o2, n2, fun c hc => by have := b2 c hc; have := e'.len; omega⟩
    have es : sealF l brand x = (l ++ [DBox.mk (sealId l) brand x], sealId l) := by simp [sealF, cb]
    simp only [EV, EL, EB, EF, q_bx, if_true, if_false, Bool.false_eq_true, Nat.reduceAdd, Option.bind_some, Bool.not_true, Bool.not_false, Nat.reduceBEq, impl_SealIn_r, impl_SealIn_d0_q, EB2, ER, EA, DValue.c, c1, c2, c3, c4]
    obtain ⟨N, rfl⟩ := e'.out
    refine ⟨by simp only [List.all_cons, List.all_nil, c4]; rfl, v', N, fp', by rw [es, CD.av_i, ← hid], rfl, by rw [es]; exact o', nd', b'⟩
  · refine TCall.ref (by simp only [EO]) (clone_Box β l (by omega) _) ?_
    rintro w H1 fr
    replace fr : Fresh (h ++ _) _ _ _ := fr
    obtain ⟨fw, ow, nw, bw, ew⟩ := fr.c1
    obtain ⟨v', H', fp', ea, o', nd', b', e'⟩ := fin _ hid w _ _ fw _ ow nw (fun c hc => by have := bw c hc; simp at this; omega) ((HExt.app h _).trans ew) ((bsl1_own (sz := 4) h rfl (row h _)).ext ew)
    obtain ⟨c1, c2, c3, c4⟩ := o'.cell
    simp only [EV, EL, EB, EF, q_bx, if_true, if_false, Bool.false_eq_true, Nat.reduceAdd, Option.bind_some, Bool.not_true, Bool.not_false, Nat.reduceBEq, impl_SealIn_r, impl_SealIn_d0_q, EB2, ER, EA, DValue.c, ea]
    refine ⟨ew.mem _ _ _, ?_⟩
    refine TCall.see (by simp only [EO, c4]) (snap_c (Own.see (DBox.c_eq true) o') snap_n) (fun h => impl_areBoxes_T true (l ++ [DBox.mk (sealId l) brand x]) (by simp; omega) h) (.bool _) ?_
    cases cb : areBoxesF (l ++ [DBox.mk (sealId l) brand x])
    · simp only [EV, EL, EB, EF, q_bx, if_true, if_false, Bool.false_eq_true, Nat.reduceAdd, Option.bind_some, Bool.not_true, Bool.not_false, Nat.reduceBEq, impl_SealIn_r, impl_SealIn_d0_q, EB2, ER, EA, DValue.c, L0]
      refine TCall.ref (by simp only [EO]) (clone_Box β l (by omega) _) ?_
      rintro w2 H2 fr
      replace fr : Fresh H' _ _ _ := fr
      obtain ⟨f2, o2, n2, b2, e2⟩ := fr.c1
      obtain ⟨c1, c2, c3, c4⟩ := o2.cell
      simp only [EV, EL, EB, EF, q_bx, if_true, if_false, Bool.false_eq_true, Nat.reduceAdd, Option.bind_some, Bool.not_true, Bool.not_false, Nat.reduceBEq, impl_SealIn_r, impl_SealIn_d0_q, EB2, ER, EA, DValue.c, c1, c2, c3, c4]
      obtain ⟨N, rfl⟩ := (e'.trans e2).out
      have es : sealF l brand x = (l, -1) := by simp [sealF, cb]
      refine ⟨by simp only [List.all_cons, List.all_nil, c4]; rfl, w2, N, f2, by rw [es, CD.av_i], rfl, by rw [es]; exact o2, n2, fun c hc => by have := b2 c hc; have := e'.len; omega⟩
    have es : sealF l brand x = (l ++ [DBox.mk (sealId l) brand x], sealId l) := by simp [sealF, cb]
    simp only [EV, EL, EB, EF, q_bx, if_true, if_false, Bool.false_eq_true, Nat.reduceAdd, Option.bind_some, Bool.not_true, Bool.not_false, Nat.reduceBEq, impl_SealIn_r, impl_SealIn_d0_q, EB2, ER, EA, DValue.c, c1, c2, c3, c4]
    obtain ⟨N, rfl⟩ := e'.out
    refine ⟨by simp only [List.all_cons, List.all_nil, c4]; rfl, v', N, fp', by rw [es, CD.av_i, ← hid], rfl, by rw [es]; exact o', nd', b'⟩

theorem spec_SealIn_T (β β' : Bool) (l : List DBox) (hl : l.length ≤ 1048576) (brand : Int) (x : DValue) (h : AH) : T Try.prog Γ Fn.spec_SealIn [.vs β 4 false (l.map (DBox.c β)), .int .i64 brand, .agg (x.c β')] h (Fresh h [.c (.sl 4 ((sealF l brand x).1.map DBox.cd)), .c (.i .i64 (sealF l brand x).2)]) := by
  have L0 := len_vm β 4 false l (DBox.c β)
  have fin : ∀ (id : Int), id = sealId l → ∀ (w' src : AV) (H1 : AH) (fw fs : List Nat), Own H1 w' (.sl 4 (l.map DBox.cd)) fw → fw.Nodup → (∀ c ∈ fw, h.length ≤ c) → HExt h H1 → Own H1 src (.sl 4 [DBox.cd (DBox.mk id brand x)]) fs →
      ∃ v' H' fp', (∀ e L, appK ⟨e, L, H1⟩ 4 32 w' (srcCells ⟨e, L, H1⟩ 4 false src) (lenOf src) (lenOf w') = .val v' ⟨e, L, H'⟩) ∧
        Own H' v' (.sl 4 ((l ++ [DBox.mk (sealId l) brand x]).map DBox.cd)) fp' ∧ fp'.Nodup ∧ (∀ c ∈ fp', h.length ≤ c) ∧ HExt h H' := by
    rintro id rfl w' src H1 fw fs ow nw bw ew os
    obtain ⟨v', H', fp', ea, o', nd', hf', hl', hm'⟩ := app_list (bytes := 32) ow nw (by omega) os rfl (by simp only [List.length_map, List.length_cons, List.length_nil, maxMade]; omega)
    refine ⟨v', H', fp', ea, by rw [List.map_append]; exact o', nd', fun c hc => ?_, ew.upd hl' hf' bw⟩
    have := ew.len
    rcases hm' c hc with g | g
    · exact bw c g
    · omega
  have row : ∀ (H : AH) (id : Int), OwnL H [.int .i64 id, .int .i64 brand, .int .i64 x.kind, .int .i64 x.n] (DBox.cd (DBox.mk id brand x)) [] := fun H id => .i (.i (.i (.i .nil)))
  refine T.freshC2 rfl ?_
  refine spec_SealIn_e (aw_sound tabOK mixed [] _ _ _ ?_)
  unfold spec_SealIn_c
  rcases Nat.eq_zero_or_pos l.length with g0 | g0
  · have hid : (1 : Int) = sealId l := by unfold sealId; rw [List.getElem?_eq_none (by omega)]
    have hd : decide ((l.length : Int) > 0) = false := by rw [g0]; rfl
    simp only [EV, EL, EB, EF, q_bx, if_true, if_false, Bool.false_eq_true, Nat.reduceAdd, Option.bind_some, Bool.not_true, Bool.not_false, Nat.reduceBEq, spec_SealIn_r, spec_SealIn_d0_q, EB2, ER, EA, L0, hd, DValue.c]
    refine ⟨?_, ?_⟩
    · refine TCall.ref (by simp only [EO]) (spec_l32Copy_T β l (by omega) _) ?_
      rintro w H1 fr
      replace fr : Fresh h _ _ _ := fr
      obtain ⟨fw, ow, nw, bw, ew⟩ := fr.c1
      obtain ⟨v', H', fp', ea, o', nd', b', e'⟩ := fin _ hid w _ _ fw _ ow.grow nw bw (ew.trans (HExt.app _ _)) (bsl1_own (sz := 4) H1 rfl (row H1 _))
      obtain ⟨c1, c2, c3, c4⟩ := o'.cell
      simp only [EV, EL, EB, EF, q_bx, if_true, if_false, Bool.false_eq_true, Nat.reduceAdd, Option.bind_some, Bool.not_true, Bool.not_false, Nat.reduceBEq, spec_SealIn_r, spec_SealIn_d0_q, EB2, ER, EA, DValue.c, ea]
      refine ⟨ew.mem _ _ _, ?_⟩
      refine TCall.val (by simp only [EO]) (spec_AreBoxes_T β l (by omega) _) ?_
      cases ca : areBoxesF l
      · have cb : areBoxesF (l ++ [DBox.mk (sealId l) brand x]) = false := by
          cases g : areBoxesF (l ++ [DBox.mk (sealId l) brand x])
          · rfl
          · rw [areBoxes_app g] at ca; cases ca
        simp only [EV, EL, EB, EF, q_bx, if_true, if_false, Bool.false_eq_true, Nat.reduceAdd, Option.bind_some, Bool.not_true, Bool.not_false, Nat.reduceBEq, spec_SealIn_r, spec_SealIn_d0_q, EB2, ER, EA, DValue.c, L0]
        refine TCall.ref (by simp only [EO]) (spec_l32Copy_T β l (by omega) _) ?_
        rintro w2 H2 fr
        replace fr : Fresh H' _ _ _ := fr
        obtain ⟨f2, o2, n2, b2, e2⟩ := fr.c1
        obtain ⟨c1, c2, c3, c4⟩ := o2.cell
        simp only [EV, EL, EB, EF, q_bx, if_true, if_false, Bool.false_eq_true, Nat.reduceAdd, Option.bind_some, Bool.not_true, Bool.not_false, Nat.reduceBEq, spec_SealIn_r, spec_SealIn_d0_q, EB2, ER, EA, DValue.c, c1, c2, c3, c4]
        obtain ⟨N, rfl⟩ := (e'.trans e2).out
        have es : sealF l brand x = (l, -1) := by simp [sealF, cb]
        refine ⟨by simp only [List.all_cons, List.all_nil, c4]; rfl, w2, N, f2, by rw [es, CD.av_i], rfl, by rw [es]; exact o2, n2, fun c hc => by have := b2 c hc; have := e'.len; omega⟩
      simp only [EV, EL, EB, EF, q_bx, if_true, if_false, Bool.false_eq_true, Nat.reduceAdd, Option.bind_some, Bool.not_true, Bool.not_false, Nat.reduceBEq, spec_SealIn_r, spec_SealIn_d0_q, EB2, ER, EA, DValue.c, L0]
      refine TCall.see (by simp only [EO, c4]) (snap_c (Own.see (DBox.c_eq true) o') snap_n) (fun h => spec_AreBoxes_T true (l ++ [DBox.mk (sealId l) brand x]) (by simp; omega) h) (.bool _) ?_
      cases cb : areBoxesF (l ++ [DBox.mk (sealId l) brand x])
      · simp only [EV, EL, EB, EF, q_bx, if_true, if_false, Bool.false_eq_true, Nat.reduceAdd, Option.bind_some, Bool.not_true, Bool.not_false, Nat.reduceBEq, spec_SealIn_r, spec_SealIn_d0_q, EB2, ER, EA, DValue.c, L0]
        refine TCall.ref (by simp only [EO]) (spec_l32Copy_T β l (by omega) _) ?_
        rintro w2 H2 fr
        replace fr : Fresh H' _ _ _ := fr
        obtain ⟨f2, o2, n2, b2, e2⟩ := fr.c1
        obtain ⟨c1, c2, c3, c4⟩ := o2.cell
        simp only [EV, EL, EB, EF, q_bx, if_true, if_false, Bool.false_eq_true, Nat.reduceAdd, Option.bind_some, Bool.not_true, Bool.not_false, Nat.reduceBEq, spec_SealIn_r, spec_SealIn_d0_q, EB2, ER, EA, DValue.c, c1, c2, c3, c4]
        obtain ⟨N, rfl⟩ := (e'.trans e2).out
        have es : sealF l brand x = (l, -1) := by simp [sealF, cb]
        refine ⟨by simp only [List.all_cons, List.all_nil, c4]; rfl, w2, N, f2, by rw [es, CD.av_i], rfl, by rw [es]; exact o2, n2, fun c hc => by have := b2 c hc; have := e'.len; omega⟩
      have es : sealF l brand x = (l ++ [DBox.mk (sealId l) brand x], sealId l) := by simp [sealF, cb]
      simp only [EV, EL, EB, EF, q_bx, if_true, if_false, Bool.false_eq_true, Nat.reduceAdd, Option.bind_some, Bool.not_true, Bool.not_false, Nat.reduceBEq, spec_SealIn_r, spec_SealIn_d0_q, EB2, ER, EA, DValue.c, c1, c2, c3, c4]
      obtain ⟨N, rfl⟩ := e'.out
      refine ⟨by simp only [List.all_cons, List.all_nil, c4]; rfl, v', N, fp', by rw [es, CD.av_i, ← hid], rfl, by rw [es]; exact o', nd', b'⟩
    · refine TCall.ref (by simp only [EO]) (spec_l32Copy_T β l (by omega) _) ?_
      rintro w H1 fr
      replace fr : Fresh (h ++ _) _ _ _ := fr
      obtain ⟨fw, ow, nw, bw, ew⟩ := fr.c1
      obtain ⟨v', H', fp', ea, o', nd', b', e'⟩ := fin _ hid w _ _ fw _ ow nw (fun c hc => by have := bw c hc; simp at this; omega) ((HExt.app h _).trans ew) ((bsl1_own (sz := 4) h rfl (row h _)).ext ew)
      obtain ⟨c1, c2, c3, c4⟩ := o'.cell
      simp only [EV, EL, EB, EF, q_bx, if_true, if_false, Bool.false_eq_true, Nat.reduceAdd, Option.bind_some, Bool.not_true, Bool.not_false, Nat.reduceBEq, spec_SealIn_r, spec_SealIn_d0_q, EB2, ER, EA, DValue.c, ea]
      refine ⟨ew.mem _ _ _, ?_⟩
      refine TCall.val (by simp only [EO]) (spec_AreBoxes_T β l (by omega) _) ?_
      cases ca : areBoxesF l
      · have cb : areBoxesF (l ++ [DBox.mk (sealId l) brand x]) = false := by
          cases g : areBoxesF (l ++ [DBox.mk (sealId l) brand x])
          · rfl
          · rw [areBoxes_app g] at ca; cases ca
        simp only [EV, EL, EB, EF, q_bx, if_true, if_false, Bool.false_eq_true, Nat.reduceAdd, Option.bind_some, Bool.not_true, Bool.not_false, Nat.reduceBEq, spec_SealIn_r, spec_SealIn_d0_q, EB2, ER, EA, DValue.c, L0]
        refine TCall.ref (by simp only [EO]) (spec_l32Copy_T β l (by omega) _) ?_
        rintro w2 H2 fr
        replace fr : Fresh H' _ _ _ := fr
        obtain ⟨f2, o2, n2, b2, e2⟩ := fr.c1
        obtain ⟨c1, c2, c3, c4⟩ := o2.cell
        simp only [EV, EL, EB, EF, q_bx, if_true, if_false, Bool.false_eq_true, Nat.reduceAdd, Option.bind_some, Bool.not_true, Bool.not_false, Nat.reduceBEq, spec_SealIn_r, spec_SealIn_d0_q, EB2, ER, EA, DValue.c, c1, c2, c3, c4]
        obtain ⟨N, rfl⟩ := (e'.trans e2).out
        have es : sealF l brand x = (l, -1) := by simp [sealF, cb]
        refine ⟨by simp only [List.all_cons, List.all_nil, c4]; rfl, w2, N, f2, by rw [es, CD.av_i], rfl, by rw [es]; exact o2, n2, fun c hc => by have := b2 c hc; have := e'.len; omega⟩
      simp only [EV, EL, EB, EF, q_bx, if_true, if_false, Bool.false_eq_true, Nat.reduceAdd, Option.bind_some, Bool.not_true, Bool.not_false, Nat.reduceBEq, spec_SealIn_r, spec_SealIn_d0_q, EB2, ER, EA, DValue.c, L0]
      refine TCall.see (by simp only [EO, c4]) (snap_c (Own.see (DBox.c_eq true) o') snap_n) (fun h => spec_AreBoxes_T true (l ++ [DBox.mk (sealId l) brand x]) (by simp; omega) h) (.bool _) ?_
      cases cb : areBoxesF (l ++ [DBox.mk (sealId l) brand x])
      · simp only [EV, EL, EB, EF, q_bx, if_true, if_false, Bool.false_eq_true, Nat.reduceAdd, Option.bind_some, Bool.not_true, Bool.not_false, Nat.reduceBEq, spec_SealIn_r, spec_SealIn_d0_q, EB2, ER, EA, DValue.c, L0]
        refine TCall.ref (by simp only [EO]) (spec_l32Copy_T β l (by omega) _) ?_
        rintro w2 H2 fr
        replace fr : Fresh H' _ _ _ := fr
        obtain ⟨f2, o2, n2, b2, e2⟩ := fr.c1
        obtain ⟨c1, c2, c3, c4⟩ := o2.cell
        simp only [EV, EL, EB, EF, q_bx, if_true, if_false, Bool.false_eq_true, Nat.reduceAdd, Option.bind_some, Bool.not_true, Bool.not_false, Nat.reduceBEq, spec_SealIn_r, spec_SealIn_d0_q, EB2, ER, EA, DValue.c, c1, c2, c3, c4]
        obtain ⟨N, rfl⟩ := (e'.trans e2).out
        have es : sealF l brand x = (l, -1) := by simp [sealF, cb]
        refine ⟨by simp only [List.all_cons, List.all_nil, c4]; rfl, w2, N, f2, by rw [es, CD.av_i], rfl, by rw [es]; exact o2, n2, fun c hc => by have := b2 c hc; have := e'.len; omega⟩
      have es : sealF l brand x = (l ++ [DBox.mk (sealId l) brand x], sealId l) := by simp [sealF, cb]
      simp only [EV, EL, EB, EF, q_bx, if_true, if_false, Bool.false_eq_true, Nat.reduceAdd, Option.bind_some, Bool.not_true, Bool.not_false, Nat.reduceBEq, spec_SealIn_r, spec_SealIn_d0_q, EB2, ER, EA, DValue.c, c1, c2, c3, c4]
      obtain ⟨N, rfl⟩ := e'.out
      refine ⟨by simp only [List.all_cons, List.all_nil, c4]; rfl, v', N, fp', by rw [es, CD.av_i, ← hid], rfl, by rw [es]; exact o', nd', b'⟩
  have hk1 : l.length - 1 < l.length := by omega
  have hid : IntKind.i64.wrap (l[l.length - 1].id + 1) = sealId l := by unfold sealId; rw [List.getElem?_eq_getElem hk1]
  have hd : decide ((l.length : Int) > 0) = true := decide_eq_true (by omega)
  have hw : IntKind.i64.wrap ((l.length : Int) - 1) = ((l.length - 1 : Nat) : Int) := by rw [show (l.length : Int) - 1 = ((l.length - 1 : Nat) : Int) by omega]; exact wrap_nat (by omega) (by omega)
  have i1 := idx_vm (β := β) (sz := 4) (ex := false) (ce := DBox.c β) hk1
  simp only [EV, EL, EB, EF, q_bx, if_true, if_false, Bool.false_eq_true, Nat.reduceAdd, Option.bind_some, Bool.not_true, Bool.not_false, Nat.reduceBEq, spec_SealIn_r, spec_SealIn_d0_q, EB2, ER, EA, L0, hd, hw, i1, DBox.c, DValue.c]
  refine ⟨?_, ?_⟩
  · refine TCall.ref (by simp only [EO]) (spec_l32Copy_T β l (by omega) _) ?_
    rintro w H1 fr
    replace fr : Fresh h _ _ _ := fr
    obtain ⟨fw, ow, nw, bw, ew⟩ := fr.c1
    obtain ⟨v', H', fp', ea, o', nd', b', e'⟩ := fin _ hid w _ _ fw _ ow.grow nw bw (ew.trans (HExt.app _ _)) (bsl1_own (sz := 4) H1 rfl (row H1 _))
    obtain ⟨c1, c2, c3, c4⟩ := o'.cell
    simp only [EV, EL, EB, EF, q_bx, if_true, if_false, Bool.false_eq_true, Nat.reduceAdd, Option.bind_some, Bool.not_true, Bool.not_false, Nat.reduceBEq, spec_SealIn_r, spec_SealIn_d0_q, EB2, ER, EA, DValue.c, ea]
    refine ⟨ew.mem _ _ _, ?_⟩
    refine TCall.val (by simp only [EO]) (spec_AreBoxes_T β l (by omega) _) ?_
    cases ca : areBoxesF l
    · have cb : areBoxesF (l ++ [DBox.mk (sealId l) brand x]) = false := by
        cases g : areBoxesF (l ++ [DBox.mk (sealId l) brand x])
        · rfl
        · rw [areBoxes_app g] at ca; cases ca
      simp only [EV, EL, EB, EF, q_bx, if_true, if_false, Bool.false_eq_true, Nat.reduceAdd, Option.bind_some, Bool.not_true, Bool.not_false, Nat.reduceBEq, spec_SealIn_r, spec_SealIn_d0_q, EB2, ER, EA, DValue.c, L0]
      refine TCall.ref (by simp only [EO]) (spec_l32Copy_T β l (by omega) _) ?_
      rintro w2 H2 fr
      replace fr : Fresh H' _ _ _ := fr
      obtain ⟨f2, o2, n2, b2, e2⟩ := fr.c1
      obtain ⟨c1, c2, c3, c4⟩ := o2.cell
      simp only [EV, EL, EB, EF, q_bx, if_true, if_false, Bool.false_eq_true, Nat.reduceAdd, Option.bind_some, Bool.not_true, Bool.not_false, Nat.reduceBEq, spec_SealIn_r, spec_SealIn_d0_q, EB2, ER, EA, DValue.c, c1, c2, c3, c4]
      obtain ⟨N, rfl⟩ := (e'.trans e2).out
      have es : sealF l brand x = (l, -1) := by simp [sealF, cb]
      refine ⟨by simp only [List.all_cons, List.all_nil, c4]; rfl, w2, N, f2, by rw [es, CD.av_i], rfl, by rw [es]; exact o2, n2, fun c hc => by have := b2 c hc; have := e'.len; omega⟩
    simp only [EV, EL, EB, EF, q_bx, if_true, if_false, Bool.false_eq_true, Nat.reduceAdd, Option.bind_some, Bool.not_true, Bool.not_false, Nat.reduceBEq, spec_SealIn_r, spec_SealIn_d0_q, EB2, ER, EA, DValue.c, L0]
    refine TCall.see (by simp only [EO, c4]) (snap_c (Own.see (DBox.c_eq true) o') snap_n) (fun h => spec_AreBoxes_T true (l ++ [DBox.mk (sealId l) brand x]) (by simp; omega) h) (.bool _) ?_
    cases cb : areBoxesF (l ++ [DBox.mk (sealId l) brand x])
    · simp only [EV, EL, EB, EF, q_bx, if_true, if_false, Bool.false_eq_true, Nat.reduceAdd, Option.bind_some, Bool.not_true, Bool.not_false, Nat.reduceBEq, spec_SealIn_r, spec_SealIn_d0_q, EB2, ER, EA, DValue.c, L0]
      refine TCall.ref (by simp only [EO]) (spec_l32Copy_T β l (by omega) _) ?_
      rintro w2 H2 fr
      replace fr : Fresh H' _ _ _ := fr
      obtain ⟨f2, o2, n2, b2, e2⟩ := fr.c1
      obtain ⟨c1, c2, c3, c4⟩ := o2.cell
      simp only [EV, EL, EB, EF, q_bx, if_true, if_false, Bool.false_eq_true, Nat.reduceAdd, Option.bind_some, Bool.not_true, Bool.not_false, Nat.reduceBEq, spec_SealIn_r, spec_SealIn_d0_q, EB2, ER, EA, DValue.c, c1, c2, c3, c4]
      obtain ⟨N, rfl⟩ := (e'.trans e2).out
      have es : sealF l brand x = (l, -1) := by simp [sealF, cb]
      refine ⟨by simp only [List.all_cons, List.all_nil, c4]; rfl, w2, N, f2, by rw [es, CD.av_i], rfl, by rw [es]; exact o2, n2, fun c hc => by have := b2 c hc; have := e'.len; omega⟩
    have es : sealF l brand x = (l ++ [DBox.mk (sealId l) brand x], sealId l) := by simp [sealF, cb]
    simp only [EV, EL, EB, EF, q_bx, if_true, if_false, Bool.false_eq_true, Nat.reduceAdd, Option.bind_some, Bool.not_true, Bool.not_false, Nat.reduceBEq, spec_SealIn_r, spec_SealIn_d0_q, EB2, ER, EA, DValue.c, c1, c2, c3, c4]
    obtain ⟨N, rfl⟩ := e'.out
    refine ⟨by simp only [List.all_cons, List.all_nil, c4]; rfl, v', N, fp', by rw [es, CD.av_i, ← hid], rfl, by rw [es]; exact o', nd', b'⟩
  · refine TCall.ref (by simp only [EO]) (spec_l32Copy_T β l (by omega) _) ?_
    rintro w H1 fr
    replace fr : Fresh (h ++ _) _ _ _ := fr
    obtain ⟨fw, ow, nw, bw, ew⟩ := fr.c1
    obtain ⟨v', H', fp', ea, o', nd', b', e'⟩ := fin _ hid w _ _ fw _ ow nw (fun c hc => by have := bw c hc; simp at this; omega) ((HExt.app h _).trans ew) ((bsl1_own (sz := 4) h rfl (row h _)).ext ew)
    obtain ⟨c1, c2, c3, c4⟩ := o'.cell
    simp only [EV, EL, EB, EF, q_bx, if_true, if_false, Bool.false_eq_true, Nat.reduceAdd, Option.bind_some, Bool.not_true, Bool.not_false, Nat.reduceBEq, spec_SealIn_r, spec_SealIn_d0_q, EB2, ER, EA, DValue.c, ea]
    refine ⟨ew.mem _ _ _, ?_⟩
    refine TCall.val (by simp only [EO]) (spec_AreBoxes_T β l (by omega) _) ?_
    cases ca : areBoxesF l
    · have cb : areBoxesF (l ++ [DBox.mk (sealId l) brand x]) = false := by
        cases g : areBoxesF (l ++ [DBox.mk (sealId l) brand x])
        · rfl
        · rw [areBoxes_app g] at ca; cases ca
      simp only [EV, EL, EB, EF, q_bx, if_true, if_false, Bool.false_eq_true, Nat.reduceAdd, Option.bind_some, Bool.not_true, Bool.not_false, Nat.reduceBEq, spec_SealIn_r, spec_SealIn_d0_q, EB2, ER, EA, DValue.c, L0]
      refine TCall.ref (by simp only [EO]) (spec_l32Copy_T β l (by omega) _) ?_
      rintro w2 H2 fr
      replace fr : Fresh H' _ _ _ := fr
      obtain ⟨f2, o2, n2, b2, e2⟩ := fr.c1
      obtain ⟨c1, c2, c3, c4⟩ := o2.cell
      simp only [EV, EL, EB, EF, q_bx, if_true, if_false, Bool.false_eq_true, Nat.reduceAdd, Option.bind_some, Bool.not_true, Bool.not_false, Nat.reduceBEq, spec_SealIn_r, spec_SealIn_d0_q, EB2, ER, EA, DValue.c, c1, c2, c3, c4]
      obtain ⟨N, rfl⟩ := (e'.trans e2).out
      have es : sealF l brand x = (l, -1) := by simp [sealF, cb]
      refine ⟨by simp only [List.all_cons, List.all_nil, c4]; rfl, w2, N, f2, by rw [es, CD.av_i], rfl, by rw [es]; exact o2, n2, fun c hc => by have := b2 c hc; have := e'.len; omega⟩
    simp only [EV, EL, EB, EF, q_bx, if_true, if_false, Bool.false_eq_true, Nat.reduceAdd, Option.bind_some, Bool.not_true, Bool.not_false, Nat.reduceBEq, spec_SealIn_r, spec_SealIn_d0_q, EB2, ER, EA, DValue.c, L0]
    refine TCall.see (by simp only [EO, c4]) (snap_c (Own.see (DBox.c_eq true) o') snap_n) (fun h => spec_AreBoxes_T true (l ++ [DBox.mk (sealId l) brand x]) (by simp; omega) h) (.bool _) ?_
    cases cb : areBoxesF (l ++ [DBox.mk (sealId l) brand x])
    · simp only [EV, EL, EB, EF, q_bx, if_true, if_false, Bool.false_eq_true, Nat.reduceAdd, Option.bind_some, Bool.not_true, Bool.not_false, Nat.reduceBEq, spec_SealIn_r, spec_SealIn_d0_q, EB2, ER, EA, DValue.c, L0]
      refine TCall.ref (by simp only [EO]) (spec_l32Copy_T β l (by omega) _) ?_
      rintro w2 H2 fr
      replace fr : Fresh H' _ _ _ := fr
      obtain ⟨f2, o2, n2, b2, e2⟩ := fr.c1
      obtain ⟨c1, c2, c3, c4⟩ := o2.cell
      simp only [EV, EL, EB, EF, q_bx, if_true, if_false, Bool.false_eq_true, Nat.reduceAdd, Option.bind_some, Bool.not_true, Bool.not_false, Nat.reduceBEq, spec_SealIn_r, spec_SealIn_d0_q, EB2, ER, EA, DValue.c, c1, c2, c3, c4]
      obtain ⟨N, rfl⟩ := (e'.trans e2).out
      have es : sealF l brand x = (l, -1) := by simp [sealF, cb]
      refine ⟨by simp only [List.all_cons, List.all_nil, c4]; rfl, w2, N, f2, by rw [es, CD.av_i], rfl, by rw [es]; exact o2, n2, fun c hc => by have := b2 c hc; have := e'.len; omega⟩
    have es : sealF l brand x = (l ++ [DBox.mk (sealId l) brand x], sealId l) := by simp [sealF, cb]
    simp only [EV, EL, EB, EF, q_bx, if_true, if_false, Bool.false_eq_true, Nat.reduceAdd, Option.bind_some, Bool.not_true, Bool.not_false, Nat.reduceBEq, spec_SealIn_r, spec_SealIn_d0_q, EB2, ER, EA, DValue.c, c1, c2, c3, c4]
    obtain ⟨N, rfl⟩ := e'.out
    refine ⟨by simp only [List.all_cons, List.all_nil, c4]; rfl, v', N, fp', by rw [es, CD.av_i, ← hid], rfl, by rw [es]; exact o', nd', b'⟩

end Go.Proofs.Ytjohoameeeaafaa
