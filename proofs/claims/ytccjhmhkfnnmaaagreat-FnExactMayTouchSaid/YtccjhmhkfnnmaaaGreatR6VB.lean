import Derived.Test.YtccjhmhkfnnmaaaGreatR6VA
import Derived.Test.YtccjhmhkfnnmaaaGreatAmLoc
import Derived.Test.YtccjhmhkfnnmaaaGreatAmBox4
set_option linter.unusedVariables false
set_option linter.unusedSimpArgs false
namespace Go.Proofs.YtccjhmhkfnnmaaaGreat
open Go.AM
set_option linter.unusedVariables false
set_option linter.unusedSimpArgs false
variable {Γ : Glob}
def nextV (es : List DEntity) (x : DValue) : Option DValue :=
  if x.kind = 1 then (match es[x.n.toNat]? with | some e => if 0 ≤ x.n ∧ (e.kind = 2 ∧ e.state = 2) then some e.value else none | none => none) else none
def lookN (es : List DEntity) : Nat → DValue → DValue
  | 0, _ => brokenV
  | n + 1, x => match nextV es x with | some y => lookN es n y | none => x
def lookF (v : DVat) (x : DValue) : DValue := lookN v.entities (v.entities.length + 1) x
theorem look_stop {es : List DEntity} {n : Nat} {x : DValue} (h : nextV es x = none) : lookN es (n + 1) x = x := by simp only [lookN, h]
theorem look_go {es : List DEntity} {n : Nat} {x y : DValue} (h : nextV es x = some y) : lookN es (n + 1) x = lookN es n y := by simp only [lookN, h]
theorem next_kind {es : List DEntity} {x : DValue} (h : x.kind ≠ 1) : nextV es x = none := by unfold nextV; rw [if_neg h]
theorem next_out {es : List DEntity} {x : DValue} (h : entI x.n es.length = false) : nextV es x = none := by
  unfold nextV
  split
  · split
    · rename_i e he
      rw [if_neg]
      rintro ⟨h0, _⟩
      have := (List.getElem?_eq_some_iff.1 he).1
      have : entI x.n es.length = true := by simp only [entI, Bool.and_eq_true, decide_eq_true_eq]; omega
      rw [h] at this; cases this
    · rfl
  · rfl
theorem next_in {es : List DEntity} {x : DValue} (h1 : x.kind = 1) {k : Nat} (hk : k < es.length) (h2 : x.n = (k : Int)) : nextV es x = if es[k].kind = 2 ∧ es[k].state = 2 then some es[k].value else none := by
  unfold nextV
  rw [if_pos h1, h2, Int.toNat_natCast, List.getElem?_eq_getElem hk]
  simp only [show (0 : Int) ≤ (k : Int) by omega, true_and]
theorem entI_at {x : Int} {n : Nat} (h : entI x n = true) : ∃ k : Nat, x = (k : Int) ∧ k < n := by
  simp only [entI, Bool.and_eq_true, decide_eq_true_eq] at h
  exact ⟨x.toNat, by omega, by omega⟩
theorem kbD_T (β : Bool) (v : DVat) (hv : v.entities.length ≤ 1048576) (x : DValue) (h : AH) : T Tryz.prog Γ Fn.kbD [.agg (v.c β), .agg (x.c false)] h fun r h' => r = .agg ((lookF v x).c false) ∧ h' = h := by
  have L0 := len_vm β 12 false v.entities (DEntity.c β)
  refine kbD_e (aw_sound tabOK mixed [] _ _ _ ?_)
  unfold kbD_c
  simp only [EZ, q_bx, if_true, if_false, Nat.reduceAdd, Option.bind_some, Nat.reduceBEq, kbD_r, EB2, DVat.c, DValue.c]
  refine loopI tabOK mixed [] (fun y : Nat × DValue × List (List AV) => y.1 ≤ v.entities.length + 1 ∧ lookF v x = lookN v.entities (v.entities.length + 1 - y.1) y.2.1 ∧ y.2.2[([] : List (List AV)).length]? = some (v.c β) ∧ y.2.2[([] : List (List AV)).length + 1]? = some [.int .i64 y.2.1.kind, .int .i64 y.2.1.n] ∧ ∃ zz, y.2.2[([] : List (List AV)).length + 2]? = some zz ∧ zz.length = 2) (fun y => v.entities.length + 1 - y.1)
    (fun y => kbD_s0 (.lp ([] : List (List AV)).length 0) (.lp (([] : List (List AV)).length + 1) 0) (.lp (([] : List (List AV)).length + 2) 0) (.int .i64 y.1) y.2.2 h) (0, x, _) ⟨by simp, rfl, rfl, rfl, ⟨_, rfl, rfl⟩⟩ ⟨by simp [kbD_s0, LeL, LeV], rfl, rfl⟩ ?_
  rintro ⟨k, y, M⟩ ⟨hk, hl, hM0, hM1, zz, hM2, hzz⟩
  simp only at hk hl hM0 hM1 hM2
  have r0 : ∀ (e : List AV) (h : AH) (off n : Nat), (St.mk e M h).cells (.lp ([] : List (List AV)).length off) n = sub (v.c β) off n := fun e h off n => cells_at hM0
  have r1 : ∀ (e : List AV) (h : AH) (off n : Nat), (St.mk e M h).cells (.lp (([] : List (List AV)).length + 1) off) n = sub [.int .i64 y.kind, .int .i64 y.n] off n := fun e h off n => cells_at hM1
  have s2 : ∀ (e : List AV) (h : AH) (a b : AV), isCell a = true → isCell b = true → (St.mk e M h).store (.lp (([] : List (List AV)).length + 2) 0) [a, b] = some ⟨e, M.set (([] : List (List AV)).length + 2) [a, b], h⟩ := fun e h a b ha hb => store_all hM2 (by rw [hzz]; rfl) (by simp only [List.all_cons, List.all_nil, ha, hb, Bool.and_true])
  have r2 : ∀ (w : List AV) (e : List AV) (h : AH) (off n : Nat), (St.mk e (M.set (([] : List (List AV)).length + 2) w) h).cells (.lp (([] : List (List AV)).length + 2) off) n = sub w off n := fun w e h off n => cells_at (at_setS hM2)
  have sy : ∀ (e : List AV) (h : AH), (St.mk e M h).store (.lp (([] : List (List AV)).length + 2) 0) [.int .i64 y.kind, .int .i64 y.n] = some ⟨e, M.set (([] : List (List AV)).length + 2) [.int .i64 y.kind, .int .i64 y.n], h⟩ := fun e h => s2 e h _ _ rfl rfl
  simp only [EZ, q_bx, if_true, if_false, Nat.reduceAdd, Option.bind_some, Nat.reduceBEq, kbD_r, kbD_s0, r0, DVat.c, L0]
  refine c_split (fun hlt => ?_) (fun hge => ?_)
  rotate_left
  · have hge : k = v.entities.length + 1 := by simp at hge; omega
    subst hge
    simp only [EZ, q_bx, if_true, if_false, Nat.reduceAdd, Option.bind_some, Nat.reduceBEq, kbD_r]
    refine TCall.val (by simp only [EO]) (kbA_T _) ?_
    simp only [EZ, q_bx, if_true, if_false, Nat.reduceAdd, Option.bind_some, Nat.reduceBEq, kbD_r, s2 _ _ _ _ (show isCell (AV.int .i64 2) = true from rfl) (show isCell (AV.int .i64 0) = true from rfl), brokenV, DValue.c, r2]
    rw [hl, Nat.sub_self]
    first | exact ⟨rfl, rfl⟩ | rfl
  have hlt : k < v.entities.length + 1 := by simp at hlt; omega
  obtain ⟨m, hm⟩ : ∃ m, v.entities.length + 1 - k = m + 1 := ⟨v.entities.length - k, by omega⟩
  rw [hm] at hl
  have stop : nextV v.entities y = none → lookF v x = y := fun hn => by rw [hl, look_stop hn]
  by_cases b1 : y.kind = 1
  rotate_left
  · simp only [EZ, q_bx, if_true, if_false, Nat.reduceAdd, Option.bind_some, Nat.reduceBEq, kbD_r, r0, r1, DVat.c, L0, beq_dec, ne_int, decide_eq_false b1, sy, r2]
    have := stop (next_kind b1)
    first | exact ⟨rfl, by rw [this]⟩ | (rw [this]; done) | exact ⟨rfl, by rw [this]; rfl⟩
  simp only [EZ, q_bx, if_true, if_false, Nat.reduceAdd, Option.bind_some, Nat.reduceBEq, kbD_r, r0, r1, DVat.c, L0, beq_dec, ne_int, decide_eq_true b1]
  refine TCall.val (by simp only [EO]) (kbI_T _ _ _ _) ?_
  rw [inR_ent _ hv]
  cases e1 : entI y.n v.entities.length
  · simp only [EZ, q_bx, if_true, if_false, Nat.reduceAdd, Option.bind_some, Nat.reduceBEq, kbD_r, r0, r1, sy, r2]
    have := stop (next_out e1)
    first | exact ⟨rfl, by rw [this]⟩ | (rw [this]; done) | exact ⟨rfl, by rw [this]; rfl⟩
  obtain ⟨j, ej, hj⟩ := entI_at e1
  have i0 := idx_vm (β := β) (sz := 12) (ex := false) (ce := DEntity.c β) hj
  have nx := next_in (es := v.entities) b1 hj ej
  obtain ⟨e, he⟩ : ∃ e, e = v.entities[j] := ⟨_, rfl⟩
  rw [← he] at i0 nx
  have r0' : ∀ (z : List AV) (e : List AV) (h : AH) (off n : Nat), (St.mk e (M ++ [z]) h).cells (.lp ([] : List (List AV)).length off) n = sub (v.c β) off n := fun z e h off n => cells_at (at_app hM0 _)
  have r1' : ∀ (z : List AV) (e : List AV) (h : AH) (off n : Nat), (St.mk e (M ++ [z]) h).cells (.lp (([] : List (List AV)).length + 1) off) n = sub [.int .i64 y.kind, .int .i64 y.n] off n := fun z e h off n => cells_at (at_app hM1 _)
  have sy' : ∀ (z : List AV) (e : List AV) (h : AH) (a b : Int), (St.mk e (M ++ [z]) h).store (.lp (([] : List (List AV)).length + 2) 0) [.int .i64 a, .int .i64 b] = some ⟨e, (M ++ [z]).set (([] : List (List AV)).length + 2) [.int .i64 a, .int .i64 b], h⟩ := fun z e h a b => store_all (at_app hM2 _) (by rw [hzz]; rfl) rfl
  have r2' : ∀ (z w : List AV) (e : List AV) (h : AH) (off n : Nat), (St.mk e ((M ++ [z]).set (([] : List (List AV)).length + 2) w) h).cells (.lp (([] : List (List AV)).length + 2) off) n = sub w off n := fun z w e h off n => cells_at (at_setS (at_app hM2 _))
  have rl : ∀ (z : List AV) (e : List AV) (h : AH) (off n : Nat), (St.mk e (M ++ [z]) h).cells (.lp M.length off) n = sub z off n := fun z e h off n => cells_at (at_last _ _)
  have s1' : ∀ (z : List AV) (e : List AV) (h : AH) (a b : Int), (St.mk e (M ++ [z]) h).store (.lp (([] : List (List AV)).length + 1) 0) [.int .i64 a, .int .i64 b] = some ⟨e, (M ++ [z]).set (([] : List (List AV)).length + 1) [.int .i64 a, .int .i64 b], h⟩ := fun z e h a b => store_all (at_app hM1 _) rfl rfl
  by_cases b2 : e.kind = 2
  rotate_left
  · simp only [EZ, q_bx, if_true, if_false, Nat.reduceAdd, Option.bind_some, Nat.reduceBEq, kbD_r, EB2, r0, r1, DVat.c, L0, ej, i0, DEntity.c, rl, beq_dec, ne_int, decide_eq_false b2, r1', sy', r2']
    have := stop (by rw [nx, if_neg (fun h => b2 h.1)])
    first | exact ⟨rfl, by rw [this, ej]⟩ | (rw [this, ej]; done)
  by_cases b3 : e.state = 2
  rotate_left
  · simp only [EZ, q_bx, if_true, if_false, Nat.reduceAdd, Option.bind_some, Nat.reduceBEq, kbD_r, EB2, r0, r1, DVat.c, L0, ej, i0, DEntity.c, rl, beq_dec, ne_int, decide_eq_true b2, decide_eq_false b3, r1', sy', r2']
    have := stop (by rw [nx, if_neg (fun h => b3 h.2)])
    first | exact ⟨rfl, by rw [this, ej]⟩ | (rw [this, ej]; done)
  simp only [EZ, q_bx, if_true, if_false, Nat.reduceAdd, Option.bind_some, Nat.reduceBEq, kbD_r, EB2, r0, r1, DVat.c, L0, ej, i0, DEntity.c, rl, beq_dec, ne_int, decide_eq_true b2, decide_eq_true b3, s1']
  exact ⟨(k + 1, e.value, _), ⟨hlt, by simp only; rw [hl, look_go (by rw [nx, if_pos ⟨b2, b3⟩]), show v.entities.length + 1 - (k + 1) = m by omega], at_set (at_app hM0 _) (by simp), at_setS (at_app hM1 _), ⟨zz, at_set (at_app hM2 _) (by simp), hzz⟩⟩, by simp only; omega, ⟨by rw [wN (by omega)]; simp [kbD_s0, LeL, LeV], rfl, rfl⟩⟩
theorem kaj_T (β : Bool) (v : DVat) (hv : v.entities.length ≤ 1048576) (x : DValue) (H : AH) {p : AV} (hp : Ptr H p (v.c β)) : T Tryz.prog Γ Fn.kaj [p, .agg (x.c false)] H fun r h' => r = .agg ((lookF v x).c false) ∧ h' = H := by
  have L0 := len_vm β 12 false v.entities (DEntity.c β)
  have wl : IntKind.i64.wrap ((v.entities.length : Int) + 1) = ((v.entities.length + 1 : Nat) : Int) := wN (by omega)
  refine kaj_e (aw_sound tabOK mixed [] _ _ _ ?_)
  unfold kaj_c
  simp only [EZ, q_bx, if_true, if_false, Nat.reduceAdd, Option.bind_some, Nat.reduceBEq, kaj_r, EB2, DValue.c, hp.nil, hp.fld, hp.rd, DVat.c_len, Nat.reduceLeDiff, DVat.c, L0, wl]
  refine loopI tabOK mixed [] (fun y : Nat × DValue × List (List AV) => y.1 ≤ v.entities.length + 1 ∧ lookF v x = lookN v.entities (v.entities.length + 1 - y.1) y.2.1 ∧ y.2.2[([] : List (List AV)).length]? = some [.int .i64 y.2.1.kind, .int .i64 y.2.1.n] ∧ ∃ zz, y.2.2[([] : List (List AV)).length + 1]? = some zz ∧ zz.length = 2) (fun y => v.entities.length + 1 - y.1)
    (fun y => kaj_s0 p (.lp ([] : List (List AV)).length 0) (.lp (([] : List (List AV)).length + 1) 0) (.int .i64 ((v.entities.length + 1 : Nat) : Int)) (.int .i64 y.1) y.2.2 H) (0, x, _) ⟨by simp, rfl, rfl, ⟨_, rfl, rfl⟩⟩ ⟨by simp [kaj_s0, LeL, LeV], rfl, rfl⟩ ?_
  rintro ⟨k, y, M⟩ ⟨hk, hl, hM1, zz, hM2, hzz⟩
  simp only at hk hl hM1 hM2
  have r1 : ∀ (e : List AV) (h : AH) (off n : Nat), (St.mk e M h).cells (.lp ([] : List (List AV)).length off) n = sub [.int .i64 y.kind, .int .i64 y.n] off n := fun e h off n => cells_at hM1
  have s2 : ∀ (e : List AV) (h : AH) (a b : Int), (St.mk e M h).store (.lp (([] : List (List AV)).length + 1) 0) [.int .i64 a, .int .i64 b] = some ⟨e, M.set (([] : List (List AV)).length + 1) [.int .i64 a, .int .i64 b], h⟩ := fun e h a b => store_all hM2 (by rw [hzz]; rfl) rfl
  have r2 : ∀ (w : List AV) (e : List AV) (h : AH) (off n : Nat), (St.mk e (M.set (([] : List (List AV)).length + 1) w) h).cells (.lp (([] : List (List AV)).length + 1) off) n = sub w off n := fun w e h off n => cells_at (at_setS hM2)
  have s1 : ∀ (e : List AV) (h : AH) (a b : Int), (St.mk e M h).store (.lp ([] : List (List AV)).length 0) [.int .i64 a, .int .i64 b] = some ⟨e, M.set ([] : List (List AV)).length [.int .i64 a, .int .i64 b], h⟩ := fun e h a b => store_all hM1 rfl rfl
  simp only [EZ, q_bx, if_true, if_false, Nat.reduceAdd, Option.bind_some, Nat.reduceBEq, kaj_r, kaj_s0]
  refine c_split (fun hlt => ?_) (fun hge => ?_)
  rotate_left
  · have hge : k = v.entities.length + 1 := by simp at hge; omega
    subst hge
    simp only [EZ, q_bx, if_true, if_false, Nat.reduceAdd, Option.bind_some, Nat.reduceBEq, kaj_r]
    refine TCall.val (by simp only [EO]) (kaa_T _) ?_
    simp only [EZ, q_bx, if_true, if_false, Nat.reduceAdd, Option.bind_some, Nat.reduceBEq, kaj_r, s2, brokenV, DValue.c, r2]
    rw [hl, Nat.sub_self]
    first | exact ⟨rfl, rfl⟩ | rfl
  have hlt : k < v.entities.length + 1 := by simp at hlt; omega
  obtain ⟨m, hm⟩ : ∃ m, v.entities.length + 1 - k = m + 1 := ⟨v.entities.length - k, by omega⟩
  rw [hm] at hl
  have stop : nextV v.entities y = none → lookF v x = y := fun hn => by rw [hl, look_stop hn]
  by_cases b1 : y.kind = 1
  rotate_left
  · simp only [EZ, q_bx, if_true, if_false, Nat.reduceAdd, Option.bind_some, Nat.reduceBEq, kaj_r, r1, beq_dec, ne_int, decide_eq_false b1, s2, r2]
    have := stop (next_kind b1)
    first | exact ⟨rfl, by rw [this]⟩ | (rw [this]; done) | exact ⟨rfl, by rw [this]; rfl⟩
  simp only [EZ, q_bx, if_true, if_false, Nat.reduceAdd, Option.bind_some, Nat.reduceBEq, kaj_r, r1, beq_dec, ne_int, decide_eq_true b1]
  refine TCall.ref (by simp only [EO, hp.out]) (kai_T β v hv y.n H hp) ?_
  rintro r H1 ⟨⟨j, hj, ej, rfl⟩ | ⟨ho, rfl⟩, eH⟩
  rotate_left
  · replace eH : H1 = H := eH
    subst eH
    simp only [EZ, q_bx, if_true, if_false, Nat.reduceAdd, Option.bind_some, Nat.reduceBEq, kaj_r, r1, beq_dec, ne_int, decide_eq_true b1, s2, r2]
    have e1 : entI y.n v.entities.length = false := by
      cases hh : entI y.n v.entities.length
      · rfl
      · obtain ⟨j, ej, hj⟩ := entI_at hh
        have := ho j ej; omega
    have := stop (next_out e1)
    first | exact ⟨rfl, by rw [this]⟩ | (rw [this]; done) | exact ⟨rfl, by rw [this]; rfl⟩
  replace eH : H1 = H := eH
  subst eH
  have nx := next_in (es := v.entities) b1 hj ej
  obtain ⟨e, he⟩ : ∃ e, e = v.entities[j] := ⟨_, rfl⟩
  rw [← he] at nx
  by_cases b2 : e.kind = 2
  rotate_left
  · simp only [EZ, q_bx, if_true, if_false, Nat.reduceAdd, Option.bind_some, Nat.reduceBEq, kaj_r, EB2, ← he, r1, DEntity.c, beq_dec, ne_int, decide_eq_false b2, s2, r2]
    have := stop (by rw [nx, if_neg (fun h => b2 h.1)])
    first | exact ⟨rfl, by rw [this]⟩ | (rw [this]; done)
  by_cases b3 : e.state = 2
  rotate_left
  · simp only [EZ, q_bx, if_true, if_false, Nat.reduceAdd, Option.bind_some, Nat.reduceBEq, kaj_r, EB2, ← he, r1, DEntity.c, beq_dec, ne_int, decide_eq_true b2, decide_eq_false b3, s2, r2]
    have := stop (by rw [nx, if_neg (fun h => b3 h.2)])
    first | exact ⟨rfl, by rw [this]⟩ | (rw [this]; done)
  simp only [EZ, q_bx, if_true, if_false, Nat.reduceAdd, Option.bind_some, Nat.reduceBEq, kaj_r, EB2, ← he, r1, DEntity.c, beq_dec, ne_int, decide_eq_true b2, decide_eq_true b3, s1]
  exact ⟨(k + 1, e.value, _), ⟨hlt, by simp only; rw [hl, look_go (by rw [nx, if_pos ⟨b2, b3⟩]), show v.entities.length + 1 - (k + 1) = m by omega], at_setS hM1, ⟨zz, at_set hM2 (by simp), hzz⟩⟩, by simp only; omega, ⟨by rw [wN (by omega)]; simp [kaj_s0, LeL, LeV], rfl, rfl⟩⟩
end Go.Proofs.YtccjhmhkfnnmaaaGreat
