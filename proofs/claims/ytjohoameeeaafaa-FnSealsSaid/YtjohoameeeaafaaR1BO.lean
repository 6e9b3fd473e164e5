import Derived.Test.YtjohoameeeaafaaR1M
set_option linter.unusedVariables false
set_option linter.unusedSimpArgs false
namespace Go.Proofs.Ytjohoameeeaafaa
open Go.AM
set_option linter.unusedVariables false
set_option linter.unusedSimpArgs false
variable {Γ : Glob}
/-! The boxes of a brand. -/
def boxesOfF (brand : Int) : List DBox → List Int
  | [] => []
  | b :: l => if b.brand = brand then b.id :: boxesOfF brand l else boxesOfF brand l
theorem boxesOfF_app (brand : Int) : ∀ (l m : List DBox), boxesOfF brand (l ++ m) = boxesOfF brand l ++ boxesOfF brand m
  | [], m => rfl
  | b :: l, m => by simp only [List.cons_append, boxesOfF, boxesOfF_app brand l m]; split <;> simp
theorem boxesOfF_take {brand : Int} {l : List DBox} {k : Nat} (hk : k < l.length) : boxesOfF brand (l.take (k + 1)) = boxesOfF brand (l.take k) ++ (if l[k].brand = brand then [l[k].id] else []) := by
  rw [List.take_succ_eq_append_getElem hk, boxesOfF_app]; simp only [boxesOfF]
theorem boxesOfF_len (brand : Int) : ∀ (l : List DBox), (boxesOfF brand l).length ≤ l.length
  | [] => Nat.le_refl _
  | b :: l => by have := boxesOfF_len brand l; simp only [boxesOfF]; split <;> simp <;> omega

theorem impl_BoxesOf_T (β : Bool) (l : List DBox) (hl : l.length ≤ 1048576) (brand : Int) (h : AH) : T Try.prog Γ Fn.impl_BoxesOf [.vs β 4 false (l.map (DBox.c β)), .int .i64 brand] h (Fresh h [.c (.sl 1 ((boxesOfF brand l).map fun n => [.i .i64 n]))]) := by
  have L0 := len_vm β 4 false l (DBox.c β)
  generalize e0 : AV.vs β 4 false (l.map (DBox.c β)) = a0 at *
  refine T.freshC ?_
  refine impl_BoxesOf_e (aw_sound tabOK mixed [] _ _ _ ?_)
  unfold impl_BoxesOf_c
  simp only [EV, EL, EB, EF, q_bx, if_true, if_false, Bool.false_eq_true, Nat.reduceAdd, Option.bind_some, Bool.not_true, Bool.not_false, Nat.reduceBEq, impl_BoxesOf_r, EA, L0]
  refine loopI tabOK mixed [] (fun x : Nat × AV × AH × List Nat × List (List AV) => x.1 ≤ l.length ∧ Own x.2.2.1 x.2.1 (.sl 1 ((boxesOfF brand (l.take x.1)).map fun n => [.i .i64 n])) x.2.2.2.1 ∧ x.2.2.2.1.Nodup ∧ (∀ c ∈ x.2.2.2.1, h.length ≤ c) ∧ ∃ N, x.2.2.1 = h ++ N) (fun x => l.length - x.1)
    (fun x => impl_BoxesOf_s0 (.int .i64 brand) x.2.1 a0 (.int .i64 l.length) (.int .i64 x.1) x.2.2.2.2 x.2.2.1) (0, .gs h.length 0 0 0 0 1 true, h ++ [some (0, [])], [h.length], []) ⟨by simp, bsl0_own h 1, by simp, by simp, _, rfl⟩ ⟨by simp [impl_BoxesOf_s0, LeL, LeV], rfl, rfl⟩ ?_
  rintro ⟨k, v, H, fp, L⟩ ⟨hk, ho, nd, hfp, N, hN⟩
  simp only at hk ho nd hfp hN
  subst hN
  simp only [EV, EL, EB, EF, q_bx, if_true, if_false, Bool.false_eq_true, Nat.reduceAdd, Option.bind_some, Bool.not_true, Bool.not_false, Nat.reduceBEq, impl_BoxesOf_r, impl_BoxesOf_s0]
  refine c_split (fun hlt => ?_) (fun hge => ?_)
  rotate_left
  · have hge : k = l.length := by simp at hge; omega
    subst hge
    simp only [EV, EL, EB, EF, q_bx, if_true, if_false, Bool.false_eq_true, Nat.reduceAdd, Option.bind_some, Bool.not_true, Bool.not_false, Nat.reduceBEq, impl_BoxesOf_r]
    rw [List.take_length] at ho
    exact ⟨ho.outOK, N, fp, rfl, ho, nd, hfp⟩
  have hlt : k < l.length := by simpa using hlt
  have i0 := idx_vm (β := β) (sz := 4) (ex := false) (ce := DBox.c β) hlt
  rw [e0] at i0
  have ht := boxesOfF_take (brand := brand) hlt
  by_cases hp : l[k].brand = brand
  rotate_left
  · rw [if_neg hp, List.append_nil] at ht
    simp only [EV, EL, EB, EF, q_bx, if_true, if_false, Bool.false_eq_true, Nat.reduceAdd, Option.bind_some, Bool.not_true, Bool.not_false, Nat.reduceBEq, impl_BoxesOf_r, i0, DBox.c, beq_dec, decide_eq_false hp]
    exact ⟨(k + 1, v, h ++ N, fp, _), ⟨hlt, by simp only; rw [ht]; exact ho, nd, hfp, N, rfl⟩, by simp only; omega, ⟨by rw [wN (by omega)]; simp [impl_BoxesOf_s0, LeL, LeV], rfl, rfl⟩⟩
  rw [if_pos hp] at ht
  have hbl := boxesOfF_len brand (l.take k)
  rw [List.length_take] at hbl
  obtain ⟨v', H', fp', ea, o', nd', hf', hl', hm'⟩ := app_ext (bytes := 8) ho (ys := [.int .i64 l[k].id]) (row := [.i .i64 l[k].id]) (f2 := []) (by simpa using nd) (by omega) rfl (.i .nil) (by simp only [List.length_map, maxMade]; omega)
  obtain ⟨N', rfl⟩ := ext_of hl' hf' hfp
  simp only [EV, EL, EB, EF, q_bx, if_true, if_false, Bool.false_eq_true, Nat.reduceAdd, Option.bind_some, Bool.not_true, Bool.not_false, Nat.reduceBEq, impl_BoxesOf_r, EA, i0, DBox.c, beq_dec, decide_eq_true hp, ea]
  refine ⟨(k + 1, v', h ++ N', fp', _), ⟨hlt, by simp only; rw [ht, List.map_append]; exact o', nd', fun c hc => ?_, N', rfl⟩, by simp only; omega, ⟨by rw [wN (by omega)]; simp [impl_BoxesOf_s0, LeL, LeV], rfl, rfl⟩⟩
  rcases hm' c hc with g | g | g
  · exact hfp c g
  · simp at g
  · simp at g; omega

theorem spec_BoxesOf_T (β : Bool) (l : List DBox) (hl : l.length ≤ 1048576) (brand : Int) (h : AH) : T Try.prog Γ Fn.spec_BoxesOf [.vs β 4 false (l.map (DBox.c β)), .int .i64 brand] h (Fresh h [.c (.sl 1 ((boxesOfF brand l).map fun n => [.i .i64 n]))]) := by
  have L0 := len_vm β 4 false l (DBox.c β)
  generalize e0 : AV.vs β 4 false (l.map (DBox.c β)) = a0 at *
  refine T.freshC ?_
  refine spec_BoxesOf_e (aw_sound tabOK mixed [] _ _ _ ?_)
  unfold spec_BoxesOf_c
  simp only [EV, EL, EB, EF, q_bx, if_true, if_false, Bool.false_eq_true, Nat.reduceAdd, Option.bind_some, Bool.not_true, Bool.not_false, Nat.reduceBEq, spec_BoxesOf_r, EA, L0]
  refine loopI tabOK mixed [] (fun x : Nat × AV × AH × List Nat => x.1 ≤ l.length ∧ Own x.2.2.1 x.2.1 (.sl 1 ((boxesOfF brand (l.take x.1)).map fun n => [.i .i64 n])) x.2.2.2 ∧ x.2.2.2.Nodup ∧ (∀ c ∈ x.2.2.2, h.length ≤ c) ∧ ∃ N, x.2.2.1 = h ++ N) (fun x => l.length - x.1)
    (fun x => spec_BoxesOf_s0 a0 (.int .i64 brand) x.2.1 (.int .i64 x.1) [] x.2.2.1) (0, .gs h.length 0 0 0 0 1 true, h ++ [some (0, [])], [h.length]) ⟨by simp, bsl0_own h 1, by simp, by simp, _, rfl⟩ ⟨by simp [spec_BoxesOf_s0, LeL, LeV], rfl, rfl⟩ ?_
  rintro ⟨k, v, H, fp⟩ ⟨hk, ho, nd, hfp, N, hN⟩
  simp only at hk ho nd hfp hN
  subst hN
  simp only [EV, EL, EB, EF, q_bx, if_true, if_false, Bool.false_eq_true, Nat.reduceAdd, Option.bind_some, Bool.not_true, Bool.not_false, Nat.reduceBEq, spec_BoxesOf_r, spec_BoxesOf_s0, L0]
  refine c_split (fun hlt => ?_) (fun hge => ?_)
  rotate_left
  · have hge : k = l.length := by simp at hge; omega
    subst hge
    simp only [EV, EL, EB, EF, q_bx, if_true, if_false, Bool.false_eq_true, Nat.reduceAdd, Option.bind_some, Bool.not_true, Bool.not_false, Nat.reduceBEq, spec_BoxesOf_r]
    rw [List.take_length] at ho
    exact ⟨ho.outOK, N, fp, rfl, ho, nd, hfp⟩
  have hlt : k < l.length := by simpa using hlt
  have i0 := idx_vm (β := β) (sz := 4) (ex := false) (ce := DBox.c β) hlt
  rw [e0] at i0
  have ht := boxesOfF_take (brand := brand) hlt
  by_cases hp : l[k].brand = brand
  rotate_left
  · rw [if_neg hp, List.append_nil] at ht
    simp only [EV, EL, EB, EF, q_bx, if_true, if_false, Bool.false_eq_true, Nat.reduceAdd, Option.bind_some, Bool.not_true, Bool.not_false, Nat.reduceBEq, spec_BoxesOf_r, i0, DBox.c, beq_dec, decide_eq_false hp]
    exact ⟨(k + 1, v, h ++ N, fp), ⟨hlt, by simp only; rw [ht]; exact ho, nd, hfp, N, rfl⟩, by simp only; omega, ⟨by rw [wN (by omega)]; simp [spec_BoxesOf_s0, LeL, LeV], rfl, rfl⟩⟩
  rw [if_pos hp] at ht
  have hbl := boxesOfF_len brand (l.take k)
  rw [List.length_take] at hbl
  obtain ⟨v', H', fp', ea, o', nd', hf', hl', hm'⟩ := app_ext (bytes := 8) ho (ys := [.int .i64 l[k].id]) (row := [.i .i64 l[k].id]) (f2 := []) (by simpa using nd) (by omega) rfl (.i .nil) (by simp only [List.length_map, maxMade]; omega)
  obtain ⟨N', rfl⟩ := ext_of hl' hf' hfp
  simp only [EV, EL, EB, EF, q_bx, if_true, if_false, Bool.false_eq_true, Nat.reduceAdd, Option.bind_some, Bool.not_true, Bool.not_false, Nat.reduceBEq, spec_BoxesOf_r, EA, i0, DBox.c, beq_dec, decide_eq_true hp, ea]
  refine ⟨(k + 1, v', h ++ N', fp'), ⟨hlt, by simp only; rw [ht, List.map_append]; exact o', nd', fun c hc => ?_, N', rfl⟩, by simp only; omega, ⟨by rw [wN (by omega)]; simp [spec_BoxesOf_s0, LeL, LeV], rfl, rfl⟩⟩
  rcases hm' c hc with g | g | g
  · exact hfp c g
  · simp at g
  · simp at g; omega

end Go.Proofs.Ytjohoameeeaafaa
