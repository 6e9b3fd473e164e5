import Derived.Test.YtleddolmolkpfaaGreatR5H
import Derived.Test.YtleddolmolkpfaaGreatAmBox2
import Derived.Test.YtleddolmolkpfaaGreatAmVal
set_option linter.unusedVariables false
set_option linter.unusedSimpArgs false
namespace Go.Proofs.YtleddolmolkpfaaGreat
open Go.AM
set_option linter.unusedVariables false
set_option linter.unusedSimpArgs false
variable {Γ : Glob}
theorem spec_LinkTo_T (β : Bool) (v : DVat) (hl : v.links.length ≤ 1048576) (peer : Int) (h : AH) : T Tryz.prog Γ Fn.spec_LinkTo [.agg (v.c β), .int .i64 peer] h fun r h' => r = .int .i64 (idxI (fun l : DLink => l.peer == peer) v.links) ∧ h' = h := by
  have L0 := len_vm β 7 false v.links (DLink.c β)
  refine spec_LinkTo_e (aw_sound tabOK mixed [] _ _ _ ?_)
  unfold spec_LinkTo_c
  simp only [EV, EL, EB, EF, q_bx, if_true, if_false, Bool.false_eq_true, Nat.reduceAdd, Option.bind_some, Bool.not_true, Bool.not_false, Nat.reduceBEq, spec_LinkTo_r]
  refine loopI tabOK mixed [] (fun k : Nat => k ≤ v.links.length ∧ ∀ (i : Nat) (hi : i < v.links.length), i < k → (v.links[i].peer == peer) = false) (fun k => v.links.length - k)
    (fun k => spec_LinkTo_s0 (.int .i64 peer) (.lp ([] : List (List AV)).length 0) (.int .i64 k) (([] : List (List AV)) ++ [v.c β]) h) 0 ⟨by omega, fun i hi h => by omega⟩ ⟨by simp [spec_LinkTo_s0, LeL, LeV], rfl, rfl⟩ ?_
  rintro k ⟨hk, ht⟩
  simp only [EV, EL, EB, EF, q_bx, if_true, if_false, Bool.false_eq_true, Nat.reduceAdd, Option.bind_some, Bool.not_true, Bool.not_false, Nat.reduceBEq, spec_LinkTo_r, spec_LinkTo_s0, DVat.c, L0]
  refine c_split (fun hlt => ?_) (fun hge => ?_)
  · have hlt : k < v.links.length := by simpa using hlt
    have i0 := idx_vm (β := β) (sz := 7) (ex := false) (ce := DLink.c β) hlt
    cases hp : v.links[k].peer == peer
    · simp only [EV, EL, EB, EF, q_bx, if_true, if_false, Bool.false_eq_true, Nat.reduceAdd, Option.bind_some, Bool.not_true, Bool.not_false, Nat.reduceBEq, spec_LinkTo_r, i0, DVat.c, DLink.c, hp]
      exact ⟨k + 1, ⟨hlt, step_lt (P := fun l : DLink => (l.peer == peer) = false) ht hp⟩, by omega, ⟨by rw [wN (by omega)]; simp [spec_LinkTo_s0, LeL, LeV], rfl, rfl⟩⟩
    · simp only [EV, EL, EB, EF, q_bx, if_true, if_false, Bool.false_eq_true, Nat.reduceAdd, Option.bind_some, Bool.not_true, Bool.not_false, Nat.reduceBEq, spec_LinkTo_r, i0, DVat.c, DLink.c, hp]
      exact ⟨rfl, by rw [idxI_at (p := fun l : DLink => l.peer == peer) hlt ht hp]⟩
  · have hge : k = v.links.length := by simp at hge; omega
    subst hge
    simp only [EV, EL, EB, EF, q_bx, if_true, if_false, Bool.false_eq_true, Nat.reduceAdd, Option.bind_some, Bool.not_true, Bool.not_false, Nat.reduceBEq, spec_LinkTo_r]
    exact ⟨rfl, by rw [idxI_none (p := fun l : DLink => l.peer == peer) fun i hi => ht i hi hi]⟩
theorem impl_LinkTo_1_T (β : Bool) (x : DLink) (peer : Int) (H : AH) {k : Nat} (hk : hget H k = some (0, [.int .i64 peer])) : T Tryz.prog Γ Fn.impl_LinkTo_1 [.agg (x.c β), .gp k 0 0] H fun v h' => v = .bool (x.peer == peer) ∧ h' = H := by
  refine impl_LinkTo_1_e (aw_sound tabOK mixed [] _ _ _ ?_)
  unfold impl_LinkTo_1_c
  have hc : ∀ (e : List AV) (l : List (List AV)) (off n : Nat), (St.mk e l H).cells (.gp k 0 off) n = sub [.int .i64 peer] off n := fun e l off n => cells_gp hk
  simp only [EV, EL, EB, EF, q_bx, if_true, if_false, Bool.false_eq_true, Nat.reduceAdd, Option.bind_some, Bool.not_true, Bool.not_false, Nat.reduceBEq, impl_LinkTo_1_r, DLink.c, hc]
  first | exact ⟨rfl, rfl⟩ | exact rfl
theorem impl_LinkTo_T (β : Bool) (v : DVat) (hl : v.links.length ≤ 1048576) (peer : Int) (h : AH) : T Tryz.prog Γ Fn.impl_LinkTo [.agg (v.c β), .int .i64 peer] h fun r h' => r = .int .i64 (idxI (fun l : DLink => l.peer == peer) v.links) ∧ h' = h := by
  refine (?_ : T Tryz.prog Γ Fn.impl_LinkTo _ h fun r h' => r = .int .i64 (idxI (fun l : DLink => l.peer == peer) v.links) ∧ ∃ N, h' = h ++ N).drop (by rintro v h' ⟨rfl, N, rfl⟩; exact ⟨N, rfl, .int _ _, rfl, rfl⟩)
  refine impl_LinkTo_e (aw_sound tabOK mixed [3] _ _ _ ?_)
  unfold impl_LinkTo_c
  simp only [EV, EL, EB, EF, q_bx, if_true, if_false, Bool.false_eq_true, Nat.reduceAdd, Option.bind_some, Bool.not_true, Bool.not_false, Nat.reduceBEq, impl_LinkTo_r, box_g _ _ (show List.all [AV.int .i64 peer] noLp = true from rfl), push_s, DVat.c]
  have hcall := indexFunc_D (P := Tryz.prog) (Γ := Γ) tabOK mixed (sz := 7) (agg := true) (fun hw => slices_IndexFunc_iimpl_Link_impl_Link_e hw) (β := β) (l := v.links) (c := DLink.c β) (by omega) (fun x => ⟨⟨rfl, .inl rfl⟩, rfl⟩) (g := Fn.impl_LinkTo_1) (first := []) (caps := [.gp h.length 0 0]) rfl (fun l : DLink => l.peer == peer) (h := h ++ [some (0, [.int .i64 peer])]) (fun x hx => impl_LinkTo_1_T β x peer _ (hget_last _ _))
  refine TCall.val (by simp only [EO]) hcall ?_
  simp only [EV, EL, EB, EF, q_bx, if_true, if_false, Bool.false_eq_true, Nat.reduceAdd, Option.bind_some, Bool.not_true, Bool.not_false, Nat.reduceBEq, impl_LinkTo_r]
  exact ⟨rfl, _, rfl⟩
theorem idx_any {α : Type} (p : α → Bool) (l : List α) : decide (0 ≤ idxI p l) = l.any p := by
  rcases idxI_cases p l with ⟨k, hk, e1, e2, e3⟩ | ⟨e1, e2, e3⟩
  · rw [e1]
    have h2 : l.any p = true := List.any_eq_true.2 ⟨_, List.mem_of_find?_eq_some e3, List.find?_some e3⟩
    rw [h2]; simp
  · rw [e1]
    have h2 : l.any p = false := by
      cases hh : l.any p
      · rfl
      · obtain ⟨x, hx, hp⟩ := List.any_eq_true.1 hh
        have := List.find?_eq_none.1 e2 x hx
        exact absurd hp this
    rw [h2]; rfl
theorem contains_Link_T {g : FuncId} {caps : List AV} (hc : caps.all out1 = true) (hc2 : caps.all noLp1 = true) (p : DLink → Bool) (β : Bool) (l : List DLink) (hl : l.length ≤ 1048576) {h : AH} (hp : ∀ x ∈ l, T Tryz.prog Γ g ([] ++ ([.agg (x.c β)] ++ caps)) h fun v h' => v = .bool (p x) ∧ h' = h) :
    T Tryz.prog Γ Fn.slices_ContainsFunc_iimpl_Link_impl_Link [.vs β 7 false (l.map (DLink.c β)), .fn g [] caps] h fun v h' => v = .bool (l.any p) ∧ h' = h := by
  have hcall := indexFunc_D (P := Tryz.prog) (Γ := Γ) tabOK mixed (sz := 7) (agg := true) (fun hw => slices_IndexFunc_iimpl_Link_impl_Link_e hw) (β := β) (l := l) (c := DLink.c β) (by omega) (fun x => ⟨⟨rfl, .inl rfl⟩, rfl⟩) (g := g) (first := []) (caps := caps) hc p (h := h) hp
  refine slices_ContainsFunc_iimpl_Link_impl_Link_e (aw_sound tabOK mixed [] _ _ _ ?_)
  unfold slices_ContainsFunc_iimpl_Link_impl_Link_c
  simp only [EV, EL, EB, EF, q_bx, if_true, if_false, Bool.false_eq_true, Nat.reduceAdd, Option.bind_some, Bool.not_true, Bool.not_false, Nat.reduceBEq, slices_ContainsFunc_iimpl_Link_impl_Link_r]
  refine TCall.val (by simp only [EO, hc, hc2]) hcall ?_
  simp only [EV, EL, EB, EF, q_bx, if_true, if_false, Bool.false_eq_true, Nat.reduceAdd, Option.bind_some, Bool.not_true, Bool.not_false, Nat.reduceBEq, slices_ContainsFunc_iimpl_Link_impl_Link_r]
  rw [show decide (idxI p l ≥ 0) = l.any p from idx_any p l]
  first | exact ⟨rfl, rfl⟩ | exact rfl
def upF (l : List DLink) (peer : Int) : Bool := l.any fun x => x.peer == peer && x.up
theorem up_idx {l : List DLink} {peer : Int} (h : upF l peer = true) : ∃ k : Nat, ∃ hk : k < l.length, idxI (fun x : DLink => x.peer == peer) l = (k : Int) ∧ l.find? (fun x : DLink => x.peer == peer) = some l[k] := by
  rcases idxI_cases (fun x : DLink => x.peer == peer) l with ⟨k, hk, e1, e2, e3⟩ | ⟨e1, e2, e3⟩
  · exact ⟨k, hk, e1, e3⟩
  · obtain ⟨x, hx, hp⟩ := List.any_eq_true.1 h
    have := List.find?_eq_none.1 e2 x hx
    simp only [Bool.and_eq_true] at hp
    exact absurd hp.1 this
theorem spec_IsUp_T (β : Bool) (v : DVat) (hl : v.links.length ≤ 1048576) (peer : Int) (h : AH) : T Tryz.prog Γ Fn.spec_IsUp [.agg (v.c β), .int .i64 peer] h fun r h' => r = .bool (upF v.links peer) ∧ h' = h := by
  have L0 := len_vm β 7 false v.links (DLink.c β)
  refine spec_IsUp_e (aw_sound tabOK mixed [] _ _ _ ?_)
  unfold spec_IsUp_c
  simp only [EV, EL, EB, EF, q_bx, if_true, if_false, Bool.false_eq_true, Nat.reduceAdd, Option.bind_some, Bool.not_true, Bool.not_false, Nat.reduceBEq, spec_IsUp_r]
  refine loopI tabOK mixed [] (fun k : Nat => k ≤ v.links.length ∧ ∀ (i : Nat) (hi : i < v.links.length), i < k → (v.links[i].peer == peer && v.links[i].up) = false) (fun k => v.links.length - k)
    (fun k => spec_IsUp_s0 (.int .i64 peer) (.lp ([] : List (List AV)).length 0) (.int .i64 k) (([] : List (List AV)) ++ [v.c β]) h) 0 ⟨by omega, fun i hi h => by omega⟩ ⟨by simp [spec_IsUp_s0, LeL, LeV], rfl, rfl⟩ ?_
  rintro k ⟨hk, ht⟩
  simp only [EV, EL, EB, EF, q_bx, if_true, if_false, Bool.false_eq_true, Nat.reduceAdd, Option.bind_some, Bool.not_true, Bool.not_false, Nat.reduceBEq, spec_IsUp_r, spec_IsUp_s0, DVat.c, L0]
  refine c_split (fun hlt => ?_) (fun hge => ?_)
  · have hlt : k < v.links.length := by simpa using hlt
    have i0 := idx_vm (β := β) (sz := 7) (ex := false) (ce := DLink.c β) hlt
    have htrue : (v.links[k].peer == peer && v.links[k].up) = true → upF v.links peer = true := fun h => List.any_eq_true.2 ⟨_, List.getElem_mem hlt, h⟩
    cases hp : v.links[k].peer == peer
    · simp only [EV, EL, EB, EF, q_bx, if_true, if_false, Bool.false_eq_true, Nat.reduceAdd, Option.bind_some, Bool.not_true, Bool.not_false, Nat.reduceBEq, spec_IsUp_r, i0, DVat.c, DLink.c, hp]
      exact ⟨k + 1, ⟨hlt, step_lt (P := fun l : DLink => (l.peer == peer && l.up) = false) ht (by rw [hp]; rfl)⟩, by omega, ⟨by rw [wN (by omega)]; simp [spec_IsUp_s0, LeL, LeV], rfl, rfl⟩⟩
    cases hu : v.links[k].up
    · simp only [EV, EL, EB, EF, q_bx, if_true, if_false, Bool.false_eq_true, Nat.reduceAdd, Option.bind_some, Bool.not_true, Bool.not_false, Nat.reduceBEq, spec_IsUp_r, i0, DVat.c, DLink.c, hp, hu]
      exact ⟨k + 1, ⟨hlt, step_lt (P := fun l : DLink => (l.peer == peer && l.up) = false) ht (by rw [hp, hu]; rfl)⟩, by omega, ⟨by rw [wN (by omega)]; simp [spec_IsUp_s0, LeL, LeV], rfl, rfl⟩⟩
    · simp only [EV, EL, EB, EF, q_bx, if_true, if_false, Bool.false_eq_true, Nat.reduceAdd, Option.bind_some, Bool.not_true, Bool.not_false, Nat.reduceBEq, spec_IsUp_r, i0, DVat.c, DLink.c, hp, hu]
      have ax := htrue (by rw [hp, hu]; rfl)
      first | exact ⟨rfl, by rw [ax], rfl⟩ | exact ⟨rfl, by rw [ax]⟩ | rw [ax]
  · have hge : k = v.links.length := by simp at hge; omega
    subst hge
    simp only [EV, EL, EB, EF, q_bx, if_true, if_false, Bool.false_eq_true, Nat.reduceAdd, Option.bind_some, Bool.not_true, Bool.not_false, Nat.reduceBEq, spec_IsUp_r]
    have ax : upF v.links peer = false := by
      cases hh : upF v.links peer
      · rfl
      · obtain ⟨x, hx, hp⟩ := List.any_eq_true.1 hh
        obtain ⟨i, hi, rfl⟩ := List.getElem_of_mem hx
        rw [ht i hi hi] at hp; cases hp
    first | exact ⟨rfl, by rw [ax], rfl⟩ | exact ⟨rfl, by rw [ax]⟩ | rw [ax]

end Go.Proofs.YtleddolmolkpfaaGreat

