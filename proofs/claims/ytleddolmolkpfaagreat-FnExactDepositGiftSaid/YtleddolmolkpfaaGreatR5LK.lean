import Derived.Test.YtleddolmolkpfaaGreatR5H
import Derived.Test.YtleddolmolkpfaaGreatAmBox2
import Derived.Test.YtleddolmolkpfaaGreatAmVal
set_option linter.unusedVariables false
set_option linter.unusedSimpArgs false
namespace Go.Proofs.YtleddolmolkpfaaGreat
open Go.AM
set_option linter.unusedVariables false
set_option linter.unusedSimpArgs false
variable {Γ : Glob}
/-! Bounds, entities, links: reading. -/
def inR (n lo hi : Int) : Bool := decide (lo ≤ n) && decide (n ≤ hi)
theorem spec_l1In_T (n lo hi : Int) (h : AH) : T Tryz.prog Γ Fn.spec_l1In [.int .i64 n, .int .i64 lo, .int .i64 hi] h fun v h' => v = .bool (inR n lo hi) ∧ h' = h := by
  refine spec_l1In_e (aw_sound tabOK mixed [] _ _ _ ?_)
  unfold spec_l1In_c
  simp only [EV, EL, EB, EF, q_bx, if_true, if_false, Bool.false_eq_true, Nat.reduceAdd, Option.bind_some, Bool.not_true, Bool.not_false, Nat.reduceBEq, spec_l1In_r]
  refine k_split (fun h1 => ?_) (fun h1 => ?_) <;> simp only [EV, EL, EB, EF, q_bx, if_true, if_false, Bool.false_eq_true, Nat.reduceAdd, Option.bind_some, Bool.not_true, Bool.not_false, Nat.reduceBEq, spec_l1In_r, h1]
  · exact ⟨rfl, by simp only [inR, h1, Bool.true_and]⟩
  · exact ⟨rfl, by simp only [inR, h1, Bool.false_and]⟩
theorem impl_in_T (n lo hi : Int) (h : AH) : T Tryz.prog Γ Fn.impl_in [.int .i64 n, .int .i64 lo, .int .i64 hi] h fun v h' => v = .bool (inR n lo hi) ∧ h' = h := by
  refine impl_in_e (aw_sound tabOK mixed [] _ _ _ ?_)
  unfold impl_in_c
  simp only [EV, EL, EB, EF, q_bx, if_true, if_false, Bool.false_eq_true, Nat.reduceAdd, Option.bind_some, Bool.not_true, Bool.not_false, Nat.reduceBEq, impl_in_r]
  refine k_split (fun h1 => ?_) (fun h1 => ?_) <;> simp only [EV, EL, EB, EF, q_bx, if_true, if_false, Bool.false_eq_true, Nat.reduceAdd, Option.bind_some, Bool.not_true, Bool.not_false, Nat.reduceBEq, impl_in_r, h1]
  · exact ⟨rfl, by simp only [inR, h1, Bool.true_and]⟩
  · exact ⟨rfl, by simp only [inR, h1, Bool.false_and]⟩
def exportF (l : List DExport) (pos : Int) : Int := match l.find? (fun x => x.pos == pos) with | some x => x.entity | none => -1
theorem find_at {α : Type} {p : α → Bool} {l : List α} {k : Nat} (hk : k < l.length) (h0 : ∀ (i : Nat) (hi : i < l.length), i < k → p l[i] = false) (h1 : p l[k] = true) : l.find? p = some l[k] := by
  rw [List.find?_eq_some_iff_getElem]; exact ⟨h1, k, hk, rfl, fun j hj => by simp [h0 j (by omega) hj]⟩
theorem find_none {α : Type} {p : α → Bool} {l : List α} (h : ∀ (i : Nat) (hi : i < l.length), i < l.length → p l[i] = false) : l.find? p = none := by
  rw [List.find?_eq_none]; intro x hx; obtain ⟨i, hi, rfl⟩ := List.mem_iff_getElem.1 hx; simp [h i hi hi]
theorem spec_FindExport_T (β : Bool) (l : DLink) (hl : l.exports.length ≤ 1048576) (pos : Int) (h : AH) : T Tryz.prog Γ Fn.spec_FindExport [.agg (l.c β), .int .i64 pos] h fun v h' => v = .int .i64 (exportF l.exports pos) ∧ h' = h := by
  have L0 := len_vm β 3 false l.exports (DExport.c β)
  refine spec_FindExport_e (aw_sound tabOK mixed [] _ _ _ ?_)
  unfold spec_FindExport_c
  simp only [EV, EL, EB, EF, q_bx, if_true, if_false, Bool.false_eq_true, Nat.reduceAdd, Option.bind_some, Bool.not_true, Bool.not_false, Nat.reduceBEq, spec_FindExport_r]
  refine loopI tabOK mixed [] (fun k : Nat => k ≤ l.exports.length ∧ ∀ (i : Nat) (hi : i < l.exports.length), i < k → (l.exports[i].pos == pos) = false) (fun k => l.exports.length - k)
    (fun k => spec_FindExport_s0 (.int .i64 pos) (.lp ([] : List (List AV)).length 0) (.int .i64 k) (([] : List (List AV)) ++ [l.c β]) h) 0 ⟨by omega, fun i hi h => by omega⟩ ⟨by simp [spec_FindExport_s0, LeL, LeV], rfl, rfl⟩ ?_
  rintro k ⟨hk, ht⟩
  simp only [EV, EL, EB, EF, q_bx, if_true, if_false, Bool.false_eq_true, Nat.reduceAdd, Option.bind_some, Bool.not_true, Bool.not_false, Nat.reduceBEq, spec_FindExport_r, spec_FindExport_s0, DLink.c, L0]
  refine c_split (fun hlt => ?_) (fun hge => ?_)
  · have hlt : k < l.exports.length := by simpa using hlt
    have i0 := idx_vm (β := β) (sz := 3) (ex := false) (ce := DExport.c β) hlt
    cases hp : l.exports[k].pos == pos
    · simp only [EV, EL, EB, EF, q_bx, if_true, if_false, Bool.false_eq_true, Nat.reduceAdd, Option.bind_some, Bool.not_true, Bool.not_false, Nat.reduceBEq, spec_FindExport_r, i0, DLink.c, DExport.c, hp]
      exact ⟨k + 1, ⟨hlt, step_lt (P := fun x : DExport => (x.pos == pos) = false) ht hp⟩, by omega, ⟨by rw [wN (by omega)]; simp [spec_FindExport_s0, LeL, LeV], rfl, rfl⟩⟩
    · simp only [EV, EL, EB, EF, q_bx, if_true, if_false, Bool.false_eq_true, Nat.reduceAdd, Option.bind_some, Bool.not_true, Bool.not_false, Nat.reduceBEq, spec_FindExport_r, i0, DLink.c, DExport.c, hp]
      exact ⟨rfl, by simp only [exportF, find_at (p := fun x : DExport => x.pos == pos) hlt ht hp]⟩
  · have hge : k = l.exports.length := by simp at hge; omega
    subst hge
    simp only [EV, EL, EB, EF, q_bx, if_true, if_false, Bool.false_eq_true, Nat.reduceAdd, Option.bind_some, Bool.not_true, Bool.not_false, Nat.reduceBEq, spec_FindExport_r]
    exact ⟨rfl, by simp only [exportF, find_none (p := fun x : DExport => x.pos == pos) ht]⟩
theorem impl_Link_at_1_T (β : Bool) (x : DExport) (pos : Int) (H : AH) {k : Nat} (hk : hget H k = some (0, [.int .i64 pos])) : T Tryz.prog Γ Fn.impl_Link_at_1 [.agg (x.c β), .gp k 0 0] H fun v h' => v = .bool (x.pos == pos) ∧ h' = H := by
  refine impl_Link_at_1_e (aw_sound tabOK mixed [] _ _ _ ?_)
  unfold impl_Link_at_1_c
  have hc : ∀ (e : List AV) (l : List (List AV)) (off n : Nat), (St.mk e l H).cells (.gp k 0 off) n = sub [.int .i64 pos] off n := fun e l off n => cells_gp hk
  simp only [EV, EL, EB, EF, q_bx, if_true, if_false, Bool.false_eq_true, Nat.reduceAdd, Option.bind_some, Bool.not_true, Bool.not_false, Nat.reduceBEq, impl_Link_at_1_r, DExport.c, hc]
  first | exact ⟨rfl, rfl⟩ | exact rfl
theorem impl_Link_at_T (β : Bool) (l : DLink) (hl : l.exports.length ≤ 1048576) (pos : Int) (H : AH) {p : AV} (hp : Ptr H p (l.c β)) :
    T Tryz.prog Γ Fn.impl_Link_at [p, .int .i64 pos] H fun v h' => v = .int .i64 (idxI (fun x : DExport => x.pos == pos) l.exports) ∧ h' = H := by
  refine (?_ : T Tryz.prog Γ Fn.impl_Link_at _ H fun v h' => v = .int .i64 (idxI (fun x : DExport => x.pos == pos) l.exports) ∧ ∃ N, h' = H ++ N).drop (by rintro v h' ⟨rfl, N, rfl⟩; exact ⟨N, rfl, .int _ _, rfl, rfl⟩)
  refine impl_Link_at_e (aw_sound tabOK mixed [3] _ _ _ ?_)
  unfold impl_Link_at_c
  have hp' : ∀ N, Ptr (H ++ N) p (l.c β) := fun N => hp.grow N
  simp only [EV, EL, EB, EF, q_bx, if_true, if_false, Bool.false_eq_true, Nat.reduceAdd, Option.bind_some, Bool.not_true, Bool.not_false, Nat.reduceBEq, impl_Link_at_r, box_g _ _ (show List.all [AV.int .i64 pos] noLp = true from rfl), push_s, hp.nil, hp.fld, (hp' [some (0, [.int .i64 pos])]).rd, DLink.c_len, Nat.reduceLeDiff, DLink.c]
  have hcall := indexFunc_D (P := Tryz.prog) (Γ := Γ) tabOK mixed (sz := 3) (agg := true) (fun hw => slices_IndexFunc_iimpl_Export_impl_Export_e hw) (β := β) (l := l.exports) (c := DExport.c β) (by omega) (fun x => ⟨⟨rfl, .inl rfl⟩, rfl⟩) (g := Fn.impl_Link_at_1) (first := []) (caps := [.gp H.length 0 0]) rfl (fun x : DExport => x.pos == pos) (h := H ++ [some (0, [.int .i64 pos])]) (fun x hx => impl_Link_at_1_T β x pos _ (hget_last _ _))
  refine TCall.val (by simp only [EO]) hcall ?_
  simp only [EV, EL, EB, EF, q_bx, if_true, if_false, Bool.false_eq_true, Nat.reduceAdd, Option.bind_some, Bool.not_true, Bool.not_false, Nat.reduceBEq, impl_Link_at_r]
  exact ⟨rfl, _, rfl⟩
theorem impl_FindExport_T (β : Bool) (l : DLink) (hl : l.exports.length ≤ 1048576) (pos : Int) (h : AH) : T Tryz.prog Γ Fn.impl_FindExport [.agg (l.c β), .int .i64 pos] h fun v h' => v = .int .i64 (exportF l.exports pos) ∧ h' = h := by
  refine (?_ : T Tryz.prog Γ Fn.impl_FindExport _ h fun v h' => v = .int .i64 (exportF l.exports pos) ∧ ∃ N, h' = h ++ N).drop (by rintro v h' ⟨rfl, N, rfl⟩; exact ⟨N, rfl, .int _ _, rfl, rfl⟩)
  refine impl_FindExport_e (aw_sound tabOK mixed [2] _ _ _ ?_)
  unfold impl_FindExport_c
  simp only [EV, EL, EB, EF, q_bx, if_true, if_false, Bool.false_eq_true, Nat.reduceAdd, Option.bind_some, Bool.not_true, Bool.not_false, Nat.reduceBEq, impl_FindExport_r, box_g _ _ (DLink.c_noLp β l), push_s]
  have hp : Ptr (h ++ [some (0, l.c β)]) (.gp h.length 0 0) (l.c β) := Ptr.gp0 (hget_last _ _)
  refine TCall.val (by simp only [EO]) (impl_Link_at_T β l hl pos _ hp) ?_
  rcases idxI_cases (fun x : DExport => x.pos == pos) l.exports with ⟨k, hk, e1, e2, e3⟩ | ⟨e1, e2, e3⟩
  · have i0 := idx_vm (β := β) (sz := 3) (ex := false) (ce := DExport.c β) hk
    simp only [EV, EL, EB, EF, q_bx, if_true, if_false, Bool.false_eq_true, Nat.reduceAdd, Option.bind_some, Bool.not_true, Bool.not_false, Nat.reduceBEq, impl_FindExport_r, e1, show decide ((0 : Int) ≤ (k : Int)) = true from by simp, cells_last, DLink.c, i0, DExport.c]
    exact ⟨rfl, by simp only [exportF, e3], _, rfl⟩
  · simp only [EV, EL, EB, EF, q_bx, if_true, if_false, Bool.false_eq_true, Nat.reduceAdd, Option.bind_some, Bool.not_true, Bool.not_false, Nat.reduceBEq, impl_FindExport_r, e1, show decide ((0 : Int) ≤ -1) = false from rfl]
    exact ⟨rfl, by simp only [exportF, e2], _, rfl⟩
theorem spec_LinkTo_T (β : Bool) (v : DVat) (hl : v.links.length ≤ 1048576) (peer : Int) (h : AH) : T Tryz.prog Γ Fn.spec_LinkTo [.agg (v.c β), .int .i64 peer] h fun r h' => r = .int .i64 (idxI (fun l : DLink => l.peer == peer) v.links) ∧ h' = h := by
  have L0 := len_vm β 7 false v.links (DLink.c β)
  refine spec_LinkTo_e (aw_sound tabOK mixed [] _ _ _ ?_)
  unfold spec_LinkTo_c
  simp only [EV, EL, EB, EF, q_bx, if_true, if_false, Bool.false_eq_true, Nat.reduceAdd, Option.bind_some, Bool.not_true, Bool.not_false, Nat.reduceBEq, spec_LinkTo_r]
  refine loopI tabOK mixed [] (fun k : Nat => k ≤ v.links.length ∧ ∀ (i : Nat) (hi : i < v.links.length), i < k → (v.links[i].peer == peer) = false) (fun k => v.links.length - k)
    (fun k => spec_LinkTo_s0 (.int .i64 peer) (.lp ([] : List (List AV)).length 0) (.int .i64 k) (([] : List (List AV)) ++ [v.c β]) h) 0 ⟨by omega, fun i hi h => by omega⟩ ⟨by simp [spec_LinkTo_s0, LeL, LeV], rfl, rfl⟩ ?_
  rintro k ⟨hk, ht⟩
  simp only [EV, EL, EB, EF, q_bx, if_true, if_false, Bool.false_eq_true, Nat.reduceAdd, Option.bind_some, Bool.not_true, Bool.not_false, Nat.reduceBEq, spec_LinkTo_r, spec_LinkTo_s0, DVat.c, L0]
  refine c_split (fun hlt => ?_) (fun hge => ?_)
  · have hlt : k < v.links.length := by simpa using hlt
    have i0 := idx_vm (β := β) (sz := 7) (ex := false) (ce := DLink.c β) hlt
    cases hp : v.links[k].peer == peer
    · simp only [EV, EL, EB, EF, q_bx, if_true, if_false, Bool.false_eq_true, Nat.reduceAdd, Option.bind_some, Bool.not_true, Bool.not_false, Nat.reduceBEq, spec_LinkTo_r, i0, DVat.c, DLink.c, hp]
      exact ⟨k + 1, ⟨hlt, step_lt (P := fun l : DLink => (l.peer == peer) = false) ht hp⟩, by omega, ⟨by rw [wN (by omega)]; simp [spec_LinkTo_s0, LeL, LeV], rfl, rfl⟩⟩
    · simp only [EV, EL, EB, EF, q_bx, if_true, if_false, Bool.false_eq_true, Nat.reduceAdd, Option.bind_some, Bool.not_true, Bool.not_false, Nat.reduceBEq, spec_LinkTo_r, i0, DVat.c, DLink.c, hp]
      exact ⟨rfl, by rw [idxI_at (p := fun l : DLink => l.peer == peer) hlt ht hp]⟩
  · have hge : k = v.links.length := by simp at hge; omega
    subst hge
    simp only [EV, EL, EB, EF, q_bx, if_true, if_false, Bool.false_eq_true, Nat.reduceAdd, Option.bind_some, Bool.not_true, Bool.not_false, Nat.reduceBEq, spec_LinkTo_r]
    exact ⟨rfl, by rw [idxI_none (p := fun l : DLink => l.peer == peer) fun i hi => ht i hi hi]⟩
theorem impl_LinkTo_1_T (β : Bool) (x : DLink) (peer : Int) (H : AH) {k : Nat} (hk : hget H k = some (0, [.int .i64 peer])) : T Tryz.prog Γ Fn.impl_LinkTo_1 [.agg (x.c β), .gp k 0 0] H fun v h' => v = .bool (x.peer == peer) ∧ h' = H := by
  refine impl_LinkTo_1_e (aw_sound tabOK mixed [] _ _ _ ?_)
  unfold impl_LinkTo_1_c
  have hc : ∀ (e : List AV) (l : List (List AV)) (off n : Nat), (St.mk e l H).cells (.gp k 0 off) n = sub [.int .i64 peer] off n := fun e l off n => cells_gp hk
  simp only [EV, EL, EB, EF, q_bx, if_true, if_false, Bool.false_eq_true, Nat.reduceAdd, Option.bind_some, Bool.not_true, Bool.not_false, Nat.reduceBEq, impl_LinkTo_1_r, DLink.c, hc]
  first | exact ⟨rfl, rfl⟩ | exact rfl
theorem impl_LinkTo_T (β : Bool) (v : DVat) (hl : v.links.length ≤ 1048576) (peer : Int) (h : AH) : T Tryz.prog Γ Fn.impl_LinkTo [.agg (v.c β), .int .i64 peer] h fun r h' => r = .int .i64 (idxI (fun l : DLink => l.peer == peer) v.links) ∧ h' = h := by
  refine (?_ : T Tryz.prog Γ Fn.impl_LinkTo _ h fun r h' => r = .int .i64 (idxI (fun l : DLink => l.peer == peer) v.links) ∧ ∃ N, h' = h ++ N).drop (by rintro v h' ⟨rfl, N, rfl⟩; exact ⟨N, rfl, .int _ _, rfl, rfl⟩)
  refine impl_LinkTo_e (aw_sound tabOK mixed [3] _ _ _ ?_)
  unfold impl_LinkTo_c
  simp only [EV, EL, EB, EF, q_bx, if_true, if_false, Bool.false_eq_true, Nat.reduceAdd, Option.bind_some, Bool.not_true, Bool.not_false, Nat.reduceBEq, impl_LinkTo_r, box_g _ _ (show List.all [AV.int .i64 peer] noLp = true from rfl), push_s, DVat.c]
  have hcall := indexFunc_D (P := Tryz.prog) (Γ := Γ) tabOK mixed (sz := 7) (agg := true) (fun hw => slices_IndexFunc_iimpl_Link_impl_Link_e hw) (β := β) (l := v.links) (c := DLink.c β) (by omega) (fun x => ⟨⟨rfl, .inl rfl⟩, rfl⟩) (g := Fn.impl_LinkTo_1) (first := []) (caps := [.gp h.length 0 0]) rfl (fun l : DLink => l.peer == peer) (h := h ++ [some (0, [.int .i64 peer])]) (fun x hx => impl_LinkTo_1_T β x peer _ (hget_last _ _))
  refine TCall.val (by simp only [EO]) hcall ?_
  simp only [EV, EL, EB, EF, q_bx, if_true, if_false, Bool.false_eq_true, Nat.reduceAdd, Option.bind_some, Bool.not_true, Bool.not_false, Nat.reduceBEq, impl_LinkTo_r]
  exact ⟨rfl, _, rfl⟩
theorem idx_any {α : Type} (p : α → Bool) (l : List α) : decide (0 ≤ idxI p l) = l.any p := by
  rcases idxI_cases p l with ⟨k, hk, e1, e2, e3⟩ | ⟨e1, e2, e3⟩
  · rw [e1]
    have h2 : l.any p = true := List.any_eq_true.2 ⟨_, List.mem_of_find?_eq_some e3, List.find?_some e3⟩
    rw [h2]; simp
  · rw [e1]
    have h2 : l.any p = false := by
      cases hh : l.any p
      · rfl
      · obtain ⟨x, hx, hp⟩ := List.any_eq_true.1 hh
        have := List.find?_eq_none.1 e2 x hx
        exact absurd hp this
    rw [h2]; rfl
theorem contains_Link_T {g : FuncId} {caps : List AV} (hc : caps.all out1 = true) (hc2 : caps.all noLp1 = true) (p : DLink → Bool) (β : Bool) (l : List DLink) (hl : l.length ≤ 1048576) {h : AH} (hp : ∀ x ∈ l, T Tryz.prog Γ g ([] ++ ([.agg (x.c β)] ++ caps)) h fun v h' => v = .bool (p x) ∧ h' = h) :
    T Tryz.prog Γ Fn.slices_ContainsFunc_iimpl_Link_impl_Link [.vs β 7 false (l.map (DLink.c β)), .fn g [] caps] h fun v h' => v = .bool (l.any p) ∧ h' = h := by
  have hcall := indexFunc_D (P := Tryz.prog) (Γ := Γ) tabOK mixed (sz := 7) (agg := true) (fun hw => slices_IndexFunc_iimpl_Link_impl_Link_e hw) (β := β) (l := l) (c := DLink.c β) (by omega) (fun x => ⟨⟨rfl, .inl rfl⟩, rfl⟩) (g := g) (first := []) (caps := caps) hc p (h := h) hp
  refine slices_ContainsFunc_iimpl_Link_impl_Link_e (aw_sound tabOK mixed [] _ _ _ ?_)
  unfold slices_ContainsFunc_iimpl_Link_impl_Link_c
  simp only [EV, EL, EB, EF, q_bx, if_true, if_false, Bool.false_eq_true, Nat.reduceAdd, Option.bind_some, Bool.not_true, Bool.not_false, Nat.reduceBEq, slices_ContainsFunc_iimpl_Link_impl_Link_r]
  refine TCall.val (by simp only [EO, hc, hc2]) hcall ?_
  simp only [EV, EL, EB, EF, q_bx, if_true, if_false, Bool.false_eq_true, Nat.reduceAdd, Option.bind_some, Bool.not_true, Bool.not_false, Nat.reduceBEq, slices_ContainsFunc_iimpl_Link_impl_Link_r]
  rw [show decide (idxI p l ≥ 0) = l.any p from idx_any p l]
  first | exact ⟨rfl, rfl⟩ | exact rfl
def upF (l : List DLink) (peer : Int) : Bool := l.any fun x => x.peer == peer && x.up
theorem up_idx {l : List DLink} {peer : Int} (h : upF l peer = true) : ∃ k : Nat, ∃ hk : k < l.length, idxI (fun x : DLink => x.peer == peer) l = (k : Int) ∧ l.find? (fun x : DLink => x.peer == peer) = some l[k] := by
  rcases idxI_cases (fun x : DLink => x.peer == peer) l with ⟨k, hk, e1, e2, e3⟩ | ⟨e1, e2, e3⟩
  · exact ⟨k, hk, e1, e3⟩
  · obtain ⟨x, hx, hp⟩ := List.any_eq_true.1 h
    have := List.find?_eq_none.1 e2 x hx
    simp only [Bool.and_eq_true] at hp
    exact absurd hp.1 this
theorem impl_Vat_link_1_T (β : Bool) (x : DLink) (peer : Int) (H : AH) {k : Nat} (hk : hget H k = some (0, [.int .i64 peer])) : T Tryz.prog Γ Fn.impl_Vat_link_1 [.agg (x.c β), .gp k 0 0] H fun v h' => v = .bool (x.peer == peer && x.up) ∧ h' = H := by
  have hc : ∀ (e : List AV) (l : List (List AV)) (off n : Nat), (St.mk e l H).cells (.gp k 0 off) n = sub [.int .i64 peer] off n := fun e l off n => cells_gp hk
  refine impl_Vat_link_1_e (aw_sound tabOK mixed [] _ _ _ ?_)
  unfold impl_Vat_link_1_c
  cases hp : x.peer == peer
  · simp only [EV, EL, EB, EF, q_bx, if_true, if_false, Bool.false_eq_true, Nat.reduceAdd, Option.bind_some, Bool.not_true, Bool.not_false, Nat.reduceBEq, impl_Vat_link_1_r, DLink.c, hc, hp]
    first | exact ⟨rfl, rfl⟩ | exact rfl
  · simp only [EV, EL, EB, EF, q_bx, if_true, if_false, Bool.false_eq_true, Nat.reduceAdd, Option.bind_some, Bool.not_true, Bool.not_false, Nat.reduceBEq, impl_Vat_link_1_r, DLink.c, hc, hp]
    first | exact ⟨rfl, rfl⟩ | exact rfl
theorem link_ob (base : Nat) (β : Bool) (l : DLink) : ∀ x ∈ DLink.c β l, OBk base x := by
  have q : ∀ (m : List DQuestion), OBk base (.vs β 2 false (m.map (DQuestion.c β))) := fun m => .vs _ _ _ _ (fun _ => rfl) (fun r hr y hy => by
    obtain ⟨e, _, rfl⟩ := List.mem_map.1 hr
    simp only [DQuestion.c, List.mem_cons, List.not_mem_nil, or_false] at hy
    rcases hy with rfl | rfl <;> exact .int _ _)
  intro x hx
  simp only [DLink.c, List.mem_cons, List.not_mem_nil, or_false] at hx
  rcases hx with rfl | rfl | rfl | rfl | rfl | rfl | rfl
  · exact .int _ _
  · exact .bool _
  · exact .vs _ _ _ _ (fun _ => rfl) (fun r hr y hy => by
      obtain ⟨e, _, rfl⟩ := List.mem_map.1 hr
      simp only [DExport.c, List.mem_cons, List.not_mem_nil, or_false] at hy
      rcases hy with rfl | rfl | rfl <;> exact .int _ _)
  · exact .int _ _
  · exact q _
  · exact .int _ _
  · exact q _
/-- The link that counts. -/
theorem impl_Vat_link_T (β : Bool) (v : DVat) (hv : v.links.length ≤ 1048576) (peer : Int) (H : AH) {p : AV} (hp : Ptr H p (v.c β)) :
    T Tryz.prog Γ Fn.impl_Vat_link [p, .int .i64 peer] H fun r h' => ((upF v.links peer = true ∧ ∃ k : Nat, ∃ hk : k < v.links.length, idxI (fun x : DLink => x.peer == peer) v.links = (k : Int) ∧ r = .ip β (v.links[k].c β)) ∨ (upF v.links peer = false ∧ r = .nilp)) ∧ h' = H := by
  refine (?_ : T Tryz.prog Γ Fn.impl_Vat_link _ H fun r h' => ((upF v.links peer = true ∧ ∃ k : Nat, ∃ hk : k < v.links.length, idxI (fun x : DLink => x.peer == peer) v.links = (k : Int) ∧ r = .ip β (v.links[k].c β)) ∨ (upF v.links peer = false ∧ r = .nilp)) ∧ ∃ N, h' = H ++ N).drop (by
    rintro r h' ⟨hr, N, rfl⟩
    refine ⟨N, rfl, ?_, hr, rfl⟩
    rcases hr with ⟨_, k, hk, _, rfl⟩ | ⟨_, rfl⟩
    · exact .ip _ _ (fun _ => rfl) (link_ob _ _ _)
    · exact .nilp)
  have hp' : ∀ N, Ptr (H ++ N) p (v.c β) := fun N => hp.grow N
  have L0 := len_vm β 7 false v.links (DLink.c β)
  refine impl_Vat_link_e (aw_sound tabOK mixed [3] _ _ _ ?_)
  unfold impl_Vat_link_c
  simp only [EV, EL, EB, EF, q_bx, if_true, if_false, Bool.false_eq_true, Nat.reduceAdd, Option.bind_some, Bool.not_true, Bool.not_false, Nat.reduceBEq, impl_Vat_link_r, impl_Vat_link_d0_q, box_g _ _ (show List.all [AV.int .i64 peer] noLp = true from rfl), push_s, hp.nil, hp.fld, (hp' [some (0, [.int .i64 peer])]).rd, DVat.c_len, Nat.reduceLeDiff, DVat.c]
  refine TCall.val (by simp only [EO]) (contains_Link_T (g := Fn.impl_Vat_link_1) (caps := [.gp H.length 0 0]) rfl rfl (fun x => x.peer == peer && x.up) β v.links hv (fun x hx => impl_Vat_link_1_T β x peer _ (hget_last _ _))) ?_
  simp only [EV, EL, EB, EF, q_bx, if_true, if_false, Bool.false_eq_true, Nat.reduceAdd, Option.bind_some, Bool.not_true, Bool.not_false, Nat.reduceBEq, impl_Vat_link_r, impl_Vat_link_d0_q, hp.nil, hp.fld, (hp' [some (0, [.int .i64 peer])]).rd, (hp' [some (0, [.int .i64 peer])]).rd0, DVat.c_len, Nat.reduceLeDiff, DVat.c, cells_last]
  refine TCall.val (by simp only [EO]) (impl_LinkTo_T β v hv peer _) ?_
  cases hu : upF v.links peer
  · by_cases hi : idxI (fun x : DLink => x.peer == peer) v.links ≥ 0
    · simp only [EV, EL, EB, EF, q_bx, if_true, if_false, Bool.false_eq_true, Nat.reduceAdd, Option.bind_some, Bool.not_true, Bool.not_false, Nat.reduceBEq, impl_Vat_link_r, impl_Vat_link_d0_q, decide_eq_true hi, show (v.links.any fun x => x.peer == peer && x.up) = false from hu]
      first | exact ⟨rfl, .inr trivial, _, rfl⟩ | exact ⟨rfl, .inr ⟨rfl, rfl⟩, _, rfl⟩ | exact ⟨rfl, trivial, _, rfl⟩ | exact ⟨rfl, ⟨rfl, rfl⟩, _, rfl⟩
    · simp only [EV, EL, EB, EF, q_bx, if_true, if_false, Bool.false_eq_true, Nat.reduceAdd, Option.bind_some, Bool.not_true, Bool.not_false, Nat.reduceBEq, impl_Vat_link_r, impl_Vat_link_d0_q, decide_eq_false hi]
      first | exact ⟨rfl, .inr trivial, _, rfl⟩ | exact ⟨rfl, .inr ⟨rfl, rfl⟩, _, rfl⟩ | exact ⟨rfl, trivial, _, rfl⟩ | exact ⟨rfl, ⟨rfl, rfl⟩, _, rfl⟩
  · obtain ⟨k, hk, e1, e2⟩ := up_idx hu
    have i0 := idx_vm (β := β) (sz := 7) (ex := false) (ce := DLink.c β) hk
    simp only [EV, EL, EB, EF, q_bx, if_true, if_false, Bool.false_eq_true, Nat.reduceAdd, Option.bind_some, Bool.not_true, Bool.not_false, Nat.reduceBEq, impl_Vat_link_r, impl_Vat_link_d0_q, e1, decide_eq_true (show (k : Int) ≥ 0 by omega), show (v.links.any fun x => x.peer == peer && x.up) = true from hu, hp.nil, hp.fld, (hp' [some (0, [.int .i64 peer])]).rd, DVat.c_len, Nat.reduceLeDiff, DVat.c, i0]
    first | exact ⟨rfl, .inl ⟨k, hk, rfl, rfl⟩, _, rfl⟩ | exact ⟨rfl, ⟨k, hk, rfl, rfl⟩, _, rfl⟩ | exact ⟨rfl, ⟨k, ⟨hk, rfl⟩, rfl⟩, _, rfl⟩ | exact ⟨rfl, ⟨k, rfl, hk, rfl⟩, _, rfl⟩
theorem spec_IsUp_T (β : Bool) (v : DVat) (hl : v.links.length ≤ 1048576) (peer : Int) (h : AH) : T Tryz.prog Γ Fn.spec_IsUp [.agg (v.c β), .int .i64 peer] h fun r h' => r = .bool (upF v.links peer) ∧ h' = h := by
  have L0 := len_vm β 7 false v.links (DLink.c β)
  refine spec_IsUp_e (aw_sound tabOK mixed [] _ _ _ ?_)
  unfold spec_IsUp_c
  simp only [EV, EL, EB, EF, q_bx, if_true, if_false, Bool.false_eq_true, Nat.reduceAdd, Option.bind_some, Bool.not_true, Bool.not_false, Nat.reduceBEq, spec_IsUp_r]
  refine loopI tabOK mixed [] (fun k : Nat => k ≤ v.links.length ∧ ∀ (i : Nat) (hi : i < v.links.length), i < k → (v.links[i].peer == peer && v.links[i].up) = false) (fun k => v.links.length - k)
    (fun k => spec_IsUp_s0 (.int .i64 peer) (.lp ([] : List (List AV)).length 0) (.int .i64 k) (([] : List (List AV)) ++ [v.c β]) h) 0 ⟨by omega, fun i hi h => by omega⟩ ⟨by simp [spec_IsUp_s0, LeL, LeV], rfl, rfl⟩ ?_
  rintro k ⟨hk, ht⟩
  simp only [EV, EL, EB, EF, q_bx, if_true, if_false, Bool.false_eq_true, Nat.reduceAdd, Option.bind_some, Bool.not_true, Bool.not_false, Nat.reduceBEq, spec_IsUp_r, spec_IsUp_s0, DVat.c, L0]
  refine c_split (fun hlt => ?_) (fun hge => ?_)
  · have hlt : k < v.links.length := by simpa using hlt
    have i0 := idx_vm (β := β) (sz := 7) (ex := false) (ce := DLink.c β) hlt
    have htrue : (v.links[k].peer == peer && v.links[k].up) = true → upF v.links peer = true := fun h => List.any_eq_true.2 ⟨_, List.getElem_mem hlt, h⟩
    cases hp : v.links[k].peer == peer
    · simp only [EV, EL, EB, EF, q_bx, if_true, if_false, Bool.false_eq_true, Nat.reduceAdd, Option.bind_some, Bool.not_true, Bool.not_false, Nat.reduceBEq, spec_IsUp_r, i0, DVat.c, DLink.c, hp]
      exact ⟨k + 1, ⟨hlt, step_lt (P := fun l : DLink => (l.peer == peer && l.up) = false) ht (by rw [hp]; rfl)⟩, by omega, ⟨by rw [wN (by omega)]; simp [spec_IsUp_s0, LeL, LeV], rfl, rfl⟩⟩
    cases hu : v.links[k].up
    · simp only [EV, EL, EB, EF, q_bx, if_true, if_false, Bool.false_eq_true, Nat.reduceAdd, Option.bind_some, Bool.not_true, Bool.not_false, Nat.reduceBEq, spec_IsUp_r, i0, DVat.c, DLink.c, hp, hu]
      exact ⟨k + 1, ⟨hlt, step_lt (P := fun l : DLink => (l.peer == peer && l.up) = false) ht (by rw [hp, hu]; rfl)⟩, by omega, ⟨by rw [wN (by omega)]; simp [spec_IsUp_s0, LeL, LeV], rfl, rfl⟩⟩
    · simp only [EV, EL, EB, EF, q_bx, if_true, if_false, Bool.false_eq_true, Nat.reduceAdd, Option.bind_some, Bool.not_true, Bool.not_false, Nat.reduceBEq, spec_IsUp_r, i0, DVat.c, DLink.c, hp, hu]
      have ax := htrue (by rw [hp, hu]; rfl)
      first | exact ⟨rfl, by rw [ax], rfl⟩ | exact ⟨rfl, by rw [ax]⟩ | rw [ax]
  · have hge : k = v.links.length := by simp at hge; omega
    subst hge
    simp only [EV, EL, EB, EF, q_bx, if_true, if_false, Bool.false_eq_true, Nat.reduceAdd, Option.bind_some, Bool.not_true, Bool.not_false, Nat.reduceBEq, spec_IsUp_r]
    have ax : upF v.links peer = false := by
      cases hh : upF v.links peer
      · rfl
      · obtain ⟨x, hx, hp⟩ := List.any_eq_true.1 hh
        obtain ⟨i, hi, rfl⟩ := List.getElem_of_mem hx
        rw [ht i hi hi] at hp; cases hp
    first | exact ⟨rfl, by rw [ax], rfl⟩ | exact ⟨rfl, by rw [ax]⟩ | rw [ax]

end Go.Proofs.YtleddolmolkpfaaGreat
