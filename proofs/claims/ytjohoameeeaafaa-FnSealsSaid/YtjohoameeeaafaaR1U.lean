import Derived.Test.YtjohoameeeaafaaR1H
import Derived.Test.YtjohoameeeaafaaAmMore1
set_option linter.unusedVariables false
set_option linter.unusedSimpArgs false
namespace Go.Proofs.Ytjohoameeeaafaa
open Go.AM
set_option linter.unusedVariables false
set_option linter.unusedSimpArgs false
variable {Γ : Glob}
/-! Sealed boxes: opening one. -/
theorem impl_BrokenValue_T (h : AH) : T Try.prog Γ Fn.impl_BrokenValue [] h fun v h' => v = .agg ((DValue.mk 2 0).c false) ∧ h' = h := by
  refine impl_BrokenValue_e (aw_sound tabOK mixed [] _ _ _ ?_)
  unfold impl_BrokenValue_c
  simp only [EV, EL, EB, EF, q_bx, if_true, if_false, Bool.false_eq_true, Nat.reduceAdd, Option.bind_some, Bool.not_true, Bool.not_false, Nat.reduceBEq, impl_BrokenValue_r]
  first | exact ⟨rfl, rfl⟩ | exact rfl
theorem spec_BrokenValue_T (h : AH) : T Try.prog Γ Fn.spec_BrokenValue [] h fun v h' => v = .agg ((DValue.mk 2 0).c false) ∧ h' = h := by
  refine spec_BrokenValue_e (aw_sound tabOK mixed [] _ _ _ ?_)
  unfold spec_BrokenValue_c
  simp only [EV, EL, EB, EF, q_bx, if_true, if_false, Bool.false_eq_true, Nat.reduceAdd, Option.bind_some, Bool.not_true, Bool.not_false, Nat.reduceBEq, spec_BrokenValue_r]
  first | exact ⟨rfl, rfl⟩ | exact rfl

theorem impl_boxAt_1_T (β : Bool) (b : DBox) (id : Int) (H : AH) {k : Nat} (hk : hget H k = some (0, [.int .i64 id])) : T Try.prog Γ Fn.impl_boxAt_1 [.agg (b.c β), .gp k 0 0] H fun v h' => v = .bool (b.id == id) ∧ h' = H := by
  refine impl_boxAt_1_e (aw_sound tabOK mixed [] _ _ _ ?_)
  unfold impl_boxAt_1_c
  have hc : ∀ (e : List AV) (l : List (List AV)) (off n : Nat), (St.mk e l H).cells (.gp k 0 off) n = sub [.int .i64 id] off n := fun e l off n => cells_gp hk
  simp only [EV, EL, EB, EF, q_bx, if_true, if_false, Bool.false_eq_true, Nat.reduceAdd, Option.bind_some, Bool.not_true, Bool.not_false, Nat.reduceBEq, impl_boxAt_1_r, DBox.c, hc]
  first | exact ⟨rfl, rfl⟩ | exact rfl

def boxAtF (l : List DBox) (brand id : Int) : Int := match l.find? (fun b => b.id == id) with | some b => if b.brand = brand then idxI (fun b => b.id == id) l else -1 | none => -1

theorem impl_boxAt_T (β : Bool) (l : List DBox) (hl : l.length < 1099511627776) (brand id : Int) (h : AH) : T Try.prog Γ Fn.impl_boxAt [.vs β 4 false (l.map (DBox.c β)), .int .i64 brand, .int .i64 id] h fun v h' => v = .int .i64 (boxAtF l brand id) ∧ h' = h := by
  refine (?_ : T Try.prog Γ Fn.impl_boxAt _ h fun v h' => v = .int .i64 (boxAtF l brand id) ∧ ∃ N, h' = h ++ N).drop (by rintro v h' ⟨rfl, N, rfl⟩; exact ⟨N, rfl, .int _ _, rfl, rfl⟩)
  refine impl_boxAt_e (aw_sound tabOK mixed [5] _ _ _ ?_)
  unfold impl_boxAt_c
  simp only [EV, EL, EB, EF, q_bx, if_true, if_false, Bool.false_eq_true, Nat.reduceAdd, Option.bind_some, Bool.not_true, Bool.not_false, Nat.reduceBEq, impl_boxAt_r, box_g _ _ (show List.all [AV.int .i64 id] noLp = true from rfl)]
  have hcall := indexFunc_D (P := Try.prog) (Γ := Γ) tabOK mixed (sz := 4) (agg := true) (fun hw => slices_IndexFunc_iimpl_Box_impl_Box_e hw) (β := β) (l := l) (c := DBox.c β) hl (fun x => ⟨⟨rfl, .inl rfl⟩, rfl⟩) (g := Fn.impl_boxAt_1) (first := []) (caps := [.gp h.length 0 0]) rfl (fun b => b.id == id) (h := h ++ [some (0, [.int .i64 id])]) (fun x hx => impl_boxAt_1_T β x id _ (hget_last _ _))
  refine TCall.val (by simp only [EO]) hcall ?_
  rcases idxI_cases (fun b : DBox => b.id == id) l with ⟨k, hk, e1, e2, e3⟩ | ⟨e1, e2, e3⟩
  · have i0 := idx_vm (β := β) (sz := 4) (ex := false) (ce := DBox.c β) hk
    have hF : boxAtF l brand id = if l[k].brand = brand then (k : Int) else -1 := by simp only [boxAtF, e3, e1]
    have hk0 : decide ((0 : Int) ≤ (k : Int)) = true := by simp
    simp only [EV, EL, EB, EF, q_bx, if_true, if_false, Bool.false_eq_true, Nat.reduceAdd, Option.bind_some, Bool.not_true, Bool.not_false, Nat.reduceBEq, impl_boxAt_r, e1, hk0, i0, DBox.c]
    by_cases hb : l[k].brand = brand
    · simp only [EV, EL, EB, EF, q_bx, if_true, if_false, Bool.false_eq_true, Nat.reduceAdd, Option.bind_some, Bool.not_true, Bool.not_false, Nat.reduceBEq, impl_boxAt_r, hb, beq_self_eq_true]
      exact ⟨rfl, by rw [hF, if_pos hb], _, rfl⟩
    · have hb' : (l[k].brand == brand) = false := by simpa using hb
      simp only [EV, EL, EB, EF, q_bx, if_true, if_false, Bool.false_eq_true, Nat.reduceAdd, Option.bind_some, Bool.not_true, Bool.not_false, Nat.reduceBEq, impl_boxAt_r, hb']
      exact ⟨rfl, by rw [hF, if_neg hb], _, rfl⟩
  · have hF : boxAtF l brand id = -1 := by simp only [boxAtF, e2]
    simp only [EV, EL, EB, EF, q_bx, if_true, if_false, Bool.false_eq_true, Nat.reduceAdd, Option.bind_some, Bool.not_true, Bool.not_false, Nat.reduceBEq, impl_boxAt_r, e1, show decide ((0 : Int) ≤ -1) = false from rfl]
    exact ⟨rfl, by rw [hF], _, rfl⟩

def unsealF (l : List DBox) (brand id : Int) : DValue × Bool := match l.find? (fun b => b.id == id) with | some b => if b.brand = brand then (b.value, true) else (⟨2, 0⟩, false) | none => (⟨2, 0⟩, false)

theorem impl_Unseal_T (β : Bool) (l : List DBox) (hl : l.length ≤ 1048577) (brand id : Int) (h : AH) : T Try.prog Γ Fn.impl_Unseal [.vs β 4 false (l.map (DBox.c β)), .int .i64 brand, .int .i64 id] h fun v h' => v = .tup [.agg ((unsealF l brand id).1.c false), .bool (unsealF l brand id).2] ∧ h' = h := by
  refine impl_Unseal_e (aw_sound tabOK mixed [] _ _ _ ?_)
  unfold impl_Unseal_c
  simp only [EV, EL, EB, EF, q_bx, if_true, if_false, Bool.false_eq_true, Nat.reduceAdd, Option.bind_some, Bool.not_true, Bool.not_false, Nat.reduceBEq, impl_Unseal_r]
  refine TCall.val (by simp only [EO]) (impl_boxAt_T β l (by omega) brand id _) ?_
  rcases idxI_cases (fun b : DBox => b.id == id) l with ⟨k, hk, e1, e2, e3⟩ | ⟨e1, e2, e3⟩
  · have i0 := idx_vm (β := β) (sz := 4) (ex := false) (ce := DBox.c β) hk
    by_cases hb : l[k].brand = brand
    · have hF : boxAtF l brand id = (k : Int) := by simp only [boxAtF, e3, e1, if_pos hb]
      simp only [EV, EL, EB, EF, q_bx, if_true, if_false, Bool.false_eq_true, Nat.reduceAdd, Option.bind_some, Bool.not_true, Bool.not_false, Nat.reduceBEq, impl_Unseal_r, ER, hF, show decide ((k : Int) < 0) = false from by simp, i0, DBox.c, DValue.c]
      exact ⟨rfl, by simp only [unsealF, e3, if_pos hb]⟩
    · have hF : boxAtF l brand id = -1 := by simp only [boxAtF, e3, if_neg hb]
      simp only [EV, EL, EB, EF, q_bx, if_true, if_false, Bool.false_eq_true, Nat.reduceAdd, Option.bind_some, Bool.not_true, Bool.not_false, Nat.reduceBEq, impl_Unseal_r, ER, hF, show decide ((-1 : Int) < 0) = true from rfl]
      refine TCall.val (by simp only [EO]) (impl_BrokenValue_T _) ?_
      simp only [EV, EL, EB, EF, q_bx, if_true, if_false, Bool.false_eq_true, Nat.reduceAdd, Option.bind_some, Bool.not_true, Bool.not_false, Nat.reduceBEq, impl_Unseal_r, ER, DValue.c]
      exact ⟨rfl, by simp only [unsealF, e3, if_neg hb]⟩
  · have hF : boxAtF l brand id = -1 := by simp only [boxAtF, e2]
    simp only [EV, EL, EB, EF, q_bx, if_true, if_false, Bool.false_eq_true, Nat.reduceAdd, Option.bind_some, Bool.not_true, Bool.not_false, Nat.reduceBEq, impl_Unseal_r, ER, hF, show decide ((-1 : Int) < 0) = true from rfl]
    refine TCall.val (by simp only [EO]) (impl_BrokenValue_T _) ?_
    simp only [EV, EL, EB, EF, q_bx, if_true, if_false, Bool.false_eq_true, Nat.reduceAdd, Option.bind_some, Bool.not_true, Bool.not_false, Nat.reduceBEq, impl_Unseal_r, ER, DValue.c]
    exact ⟨rfl, by simp only [unsealF, e2]⟩

theorem spec_l32Find_T (β : Bool) (l : List DBox) (hl : l.length ≤ 1048577) (id : Int) (h : AH) : T Try.prog Γ Fn.spec_l32Find [.vs β 4 false (l.map (DBox.c β)), .int .i64 id] h fun v h' => v = .int .i64 (idxI (fun b : DBox => b.id == id) l) ∧ h' = h := by
  have L0 := len_vm β 4 false l (DBox.c β)
  refine spec_l32Find_e (aw_sound tabOK mixed [] _ _ _ ?_)
  unfold spec_l32Find_c
  simp only [EV, EL, EB, EF, q_bx, if_true, if_false, Bool.false_eq_true, Nat.reduceAdd, Option.bind_some, Bool.not_true, Bool.not_false, Nat.reduceBEq, spec_l32Find_r]
  refine loopI tabOK mixed [] (fun k : Nat => k ≤ l.length ∧ ∀ (i : Nat) (hi : i < l.length), i < k → (l[i].id == id) = false) (fun k => l.length - k)
    (fun k => spec_l32Find_s0 (.vs β 4 false (l.map (DBox.c β))) (.int .i64 id) (.int .i64 k) [] h) 0 ⟨by omega, fun i hi h => by omega⟩ ⟨by simp [spec_l32Find_s0, LeL, LeV], rfl, rfl⟩ ?_
  rintro k ⟨hk, ht⟩
  simp only [EV, EL, EB, EF, q_bx, if_true, if_false, Bool.false_eq_true, Nat.reduceAdd, Option.bind_some, Bool.not_true, Bool.not_false, Nat.reduceBEq, spec_l32Find_r, spec_l32Find_s0, L0]
  refine c_split (fun hlt => ?_) (fun hge => ?_)
  · have hlt : k < l.length := by simpa using hlt
    have i0 := idx_vm (β := β) (sz := 4) (ex := false) (ce := DBox.c β) hlt
    cases hp : l[k].id == id
    · simp only [EV, EL, EB, EF, q_bx, if_true, if_false, Bool.false_eq_true, Nat.reduceAdd, Option.bind_some, Bool.not_true, Bool.not_false, Nat.reduceBEq, spec_l32Find_r, i0, DBox.c, hp]
      exact ⟨k + 1, ⟨hlt, step_lt (P := fun b : DBox => (b.id == id) = false) ht hp⟩, by omega, ⟨by rw [wN (by omega)]; simp [spec_l32Find_s0, LeL, LeV], rfl, rfl⟩⟩
    · simp only [EV, EL, EB, EF, q_bx, if_true, if_false, Bool.false_eq_true, Nat.reduceAdd, Option.bind_some, Bool.not_true, Bool.not_false, Nat.reduceBEq, spec_l32Find_r, i0, DBox.c, hp]
      exact ⟨rfl, by rw [idxI_at (p := fun b : DBox => b.id == id) hlt ht hp]⟩
  · have hge : k = l.length := by simp at hge; omega
    subst hge
    simp only [EV, EL, EB, EF, q_bx, if_true, if_false, Bool.false_eq_true, Nat.reduceAdd, Option.bind_some, Bool.not_true, Bool.not_false, Nat.reduceBEq, spec_l32Find_r]
    exact ⟨rfl, by rw [idxI_none (p := fun b : DBox => b.id == id) fun i hi => ht i hi hi]⟩

theorem spec_Unseal_T (β : Bool) (l : List DBox) (hl : l.length ≤ 1048577) (brand id : Int) (h : AH) : T Try.prog Γ Fn.spec_Unseal [.vs β 4 false (l.map (DBox.c β)), .int .i64 brand, .int .i64 id] h fun v h' => v = .tup [.agg ((unsealF l brand id).1.c false), .bool (unsealF l brand id).2] ∧ h' = h := by
  refine spec_Unseal_e (aw_sound tabOK mixed [] _ _ _ ?_)
  unfold spec_Unseal_c
  simp only [EV, EL, EB, EF, q_bx, if_true, if_false, Bool.false_eq_true, Nat.reduceAdd, Option.bind_some, Bool.not_true, Bool.not_false, Nat.reduceBEq, spec_Unseal_r]
  refine TCall.val (by simp only [EO]) (spec_l32Find_T β l hl id _) ?_
  rcases idxI_cases (fun b : DBox => b.id == id) l with ⟨k, hk, e1, e2, e3⟩ | ⟨e1, e2, e3⟩
  · have i0 := idx_vm (β := β) (sz := 4) (ex := false) (ce := DBox.c β) hk
    by_cases hb : l[k].brand = brand
    · simp only [EV, EL, EB, EF, q_bx, if_true, if_false, Bool.false_eq_true, Nat.reduceAdd, Option.bind_some, Bool.not_true, Bool.not_false, Nat.reduceBEq, spec_Unseal_r, ER, e1, show decide ((k : Int) < 0) = false from by simp, i0, DBox.c, DValue.c, ne_int, decide_eq_true hb]
      exact ⟨rfl, by simp only [unsealF, e3, if_pos hb]⟩
    · simp only [EV, EL, EB, EF, q_bx, if_true, if_false, Bool.false_eq_true, Nat.reduceAdd, Option.bind_some, Bool.not_true, Bool.not_false, Nat.reduceBEq, spec_Unseal_r, ER, e1, show decide ((k : Int) < 0) = false from by simp, i0, DBox.c, DValue.c, ne_int, decide_eq_false hb]
      refine TCall.val (by simp only [EO]) (spec_BrokenValue_T _) ?_
      simp only [EV, EL, EB, EF, q_bx, if_true, if_false, Bool.false_eq_true, Nat.reduceAdd, Option.bind_some, Bool.not_true, Bool.not_false, Nat.reduceBEq, spec_Unseal_r, ER, DValue.c]
      exact ⟨rfl, by simp only [unsealF, e3, if_neg hb]⟩
  · simp only [EV, EL, EB, EF, q_bx, if_true, if_false, Bool.false_eq_true, Nat.reduceAdd, Option.bind_some, Bool.not_true, Bool.not_false, Nat.reduceBEq, spec_Unseal_r, ER, e1, show decide ((-1 : Int) < 0) = true from rfl]
    refine TCall.val (by simp only [EO]) (spec_BrokenValue_T _) ?_
    simp only [EV, EL, EB, EF, q_bx, if_true, if_false, Bool.false_eq_true, Nat.reduceAdd, Option.bind_some, Bool.not_true, Bool.not_false, Nat.reduceBEq, spec_Unseal_r, ER, DValue.c]
    exact ⟨rfl, by simp only [unsealF, e2]⟩

end Go.Proofs.Ytjohoameeeaafaa
