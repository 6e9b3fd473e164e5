import Derived.Test.YtjmcfdhklogpkaaR2V4
import Derived.Test.YtjmcfdhklogpkaaAmMore1
set_option linter.unusedVariables false
set_option linter.unusedSimpArgs false
namespace Go.Proofs.Ytjmcfdhklogpkaa
open Go.AM
set_option linter.unusedVariables false
set_option linter.unusedSimpArgs false
variable {Γ : Glob}
/-! Links to peers; entries; where calls go. -/
def entryF (l : List DQuestion) (id : Int) : Int := match l.find? (fun q => q.id == id) with | some q => q.promise | none => -1
def exportF (l : List DExport) (pos : Int) : Int := match l.find? (fun x => x.pos == pos) with | some x => x.entity | none => -1
theorem find_at {α : Type} {p : α → Bool} {l : List α} {k : Nat} (hk : k < l.length) (h0 : ∀ (i : Nat) (hi : i < l.length), i < k → p l[i] = false) (h1 : p l[k] = true) : l.find? p = some l[k] := by
  rw [List.find?_eq_some_iff_getElem]; exact ⟨h1, k, hk, rfl, fun j hj => by simp [h0 j (by omega) hj]⟩
theorem find_none {α : Type} {p : α → Bool} {l : List α} (h : ∀ (i : Nat) (hi : i < l.length), i < l.length → p l[i] = false) : l.find? p = none := by
  rw [List.find?_eq_none]; intro x hx; obtain ⟨i, hi, rfl⟩ := List.mem_iff_getElem.1 hx; simp [h i hi hi]

theorem spec_FindEntry_T (β : Bool) (l : List DQuestion) (hl : l.length ≤ 1048576) (id : Int) (h : AH) : T Try.prog Γ Fn.spec_FindEntry [.vs β 2 false (l.map (DQuestion.c β)), .int .i64 id] h fun v h' => v = .int .i64 (entryF l id) ∧ h' = h := by
  have L0 := len_vm β 2 false l (DQuestion.c β)
  refine spec_FindEntry_e (aw_sound tabOK mixed [] _ _ _ ?_)
  unfold spec_FindEntry_c
  simp only [EV, EL, EB, EF, if_true, if_false, Bool.false_eq_true, Nat.reduceAdd, Option.bind_some, Bool.not_true, Bool.not_false, Nat.reduceBEq, spec_FindEntry_r]
  refine loopI tabOK mixed [] (fun k : Nat => k ≤ l.length ∧ ∀ (i : Nat) (hi : i < l.length), i < k → (l[i].id == id) = false) (fun k => l.length - k)
    (fun k => spec_FindEntry_s0 (.vs β 2 false (l.map (DQuestion.c β))) (.int .i64 id) (.int .i64 k) [] h) 0 ⟨by omega, fun i hi h => by omega⟩ ⟨by simp [spec_FindEntry_s0, LeL, LeV], rfl, rfl⟩ ?_
  rintro k ⟨hk, ht⟩
  simp only [EV, EL, EB, EF, if_true, if_false, Bool.false_eq_true, Nat.reduceAdd, Option.bind_some, Bool.not_true, Bool.not_false, Nat.reduceBEq, spec_FindEntry_r, spec_FindEntry_s0, L0]
  refine c_split (fun hlt => ?_) (fun hge => ?_)
  · have hlt : k < l.length := by simpa using hlt
    have i0 := idx_vm (β := β) (sz := 2) (ex := false) (ce := DQuestion.c β) hlt
    cases hp : l[k].id == id
    · simp only [EV, EL, EB, EF, if_true, if_false, Bool.false_eq_true, Nat.reduceAdd, Option.bind_some, Bool.not_true, Bool.not_false, Nat.reduceBEq, spec_FindEntry_r, i0, DQuestion.c, hp]
      exact ⟨k + 1, ⟨hlt, step_lt (P := fun q : DQuestion => (q.id == id) = false) ht hp⟩, by omega, ⟨by rw [wN (by omega)]; simp [spec_FindEntry_s0, LeL, LeV], rfl, rfl⟩⟩
    · simp only [EV, EL, EB, EF, if_true, if_false, Bool.false_eq_true, Nat.reduceAdd, Option.bind_some, Bool.not_true, Bool.not_false, Nat.reduceBEq, spec_FindEntry_r, i0, DQuestion.c, hp]
      exact ⟨rfl, by simp only [entryF, find_at (p := fun q : DQuestion => q.id == id) hlt ht hp]⟩
  · have hge : k = l.length := by simp at hge; omega
    subst hge
    simp only [EV, EL, EB, EF, if_true, if_false, Bool.false_eq_true, Nat.reduceAdd, Option.bind_some, Bool.not_true, Bool.not_false, Nat.reduceBEq, spec_FindEntry_r]
    exact ⟨rfl, by simp only [entryF, find_none (p := fun q : DQuestion => q.id == id) ht]⟩

theorem impl_FindEntry_T (β : Bool) (l : List DQuestion) (hl : l.length ≤ 1048576) (id : Int) (h : AH) : T Try.prog Γ Fn.impl_FindEntry [.vs β 2 false (l.map (DQuestion.c β)), .int .i64 id] h fun v h' => v = .int .i64 (entryF l id) ∧ h' = h := by
  have L0 := len_vm β 2 false l (DQuestion.c β)
  refine impl_FindEntry_e (aw_sound tabOK mixed [] _ _ _ ?_)
  unfold impl_FindEntry_c
  simp only [EV, EL, EB, EF, if_true, if_false, Bool.false_eq_true, Nat.reduceAdd, Option.bind_some, Bool.not_true, Bool.not_false, Nat.reduceBEq, impl_FindEntry_r, L0]
  refine loopI tabOK mixed [] (fun x : Nat × List (List AV) => x.1 ≤ l.length ∧ ∀ (i : Nat) (hi : i < l.length), i < x.1 → (l[i].id == id) = false) (fun x => l.length - x.1)
    (fun x => impl_FindEntry_s0 (.int .i64 id) (.vs β 2 false (l.map (DQuestion.c β))) (.int .i64 l.length) (.int .i64 x.1) x.2 h) (0, []) ⟨by simp, fun i hi h => by simp at h⟩ ⟨by simp [impl_FindEntry_s0, LeL, LeV], rfl, rfl⟩ ?_
  rintro ⟨k, L⟩ ⟨hk, ht⟩
  simp only at hk ht
  simp only [EV, EL, EB, EF, if_true, if_false, Bool.false_eq_true, Nat.reduceAdd, Option.bind_some, Bool.not_true, Bool.not_false, Nat.reduceBEq, impl_FindEntry_r, impl_FindEntry_s0, L0]
  refine c_split (fun hlt => ?_) (fun hge => ?_)
  · have hlt : k < l.length := by simpa using hlt
    have i0 := idx_vm (β := β) (sz := 2) (ex := false) (ce := DQuestion.c β) hlt
    cases hp : l[k].id == id
    · simp only [EV, EL, EB, EF, if_true, if_false, Bool.false_eq_true, Nat.reduceAdd, Option.bind_some, Bool.not_true, Bool.not_false, Nat.reduceBEq, impl_FindEntry_r, i0, DQuestion.c, hp]
      exact ⟨(k + 1, _), ⟨hlt, step_lt (P := fun q : DQuestion => (q.id == id) = false) ht hp⟩, by simp only; omega, ⟨by rw [wN (by omega)]; simp [impl_FindEntry_s0, LeL, LeV], rfl, rfl⟩⟩
    · simp only [EV, EL, EB, EF, if_true, if_false, Bool.false_eq_true, Nat.reduceAdd, Option.bind_some, Bool.not_true, Bool.not_false, Nat.reduceBEq, impl_FindEntry_r, i0, DQuestion.c, hp]
      exact ⟨rfl, by simp only [entryF, find_at (p := fun q : DQuestion => q.id == id) hlt ht hp]⟩
  · have hge : k = l.length := by simp at hge; omega
    subst hge
    simp only [EV, EL, EB, EF, if_true, if_false, Bool.false_eq_true, Nat.reduceAdd, Option.bind_some, Bool.not_true, Bool.not_false, Nat.reduceBEq, impl_FindEntry_r]
    exact ⟨rfl, by simp only [entryF, find_none (p := fun q : DQuestion => q.id == id) ht]⟩

theorem spec_FindExport_T (β : Bool) (l : DLink) (hl : l.exports.length ≤ 1048576) (pos : Int) (h : AH) : T Try.prog Γ Fn.spec_FindExport [.agg (l.c β), .int .i64 pos] h fun v h' => v = .int .i64 (exportF l.exports pos) ∧ h' = h := by
  have L0 := len_vm β 3 false l.exports (DExport.c β)
  refine spec_FindExport_e (aw_sound tabOK mixed [] _ _ _ ?_)
  unfold spec_FindExport_c
  simp only [EV, EL, EB, EF, if_true, if_false, Bool.false_eq_true, Nat.reduceAdd, Option.bind_some, Bool.not_true, Bool.not_false, Nat.reduceBEq, spec_FindExport_r]
  refine loopI tabOK mixed [] (fun k : Nat => k ≤ l.exports.length ∧ ∀ (i : Nat) (hi : i < l.exports.length), i < k → (l.exports[i].pos == pos) = false) (fun k => l.exports.length - k)
    (fun k => spec_FindExport_s0 (.int .i64 pos) (.lp ([] : List (List AV)).length 0) (.int .i64 k) (([] : List (List AV)) ++ [l.c β]) h) 0 ⟨by omega, fun i hi h => by omega⟩ ⟨by simp [spec_FindExport_s0, LeL, LeV], rfl, rfl⟩ ?_
  rintro k ⟨hk, ht⟩
  simp only [EV, EL, EB, EF, if_true, if_false, Bool.false_eq_true, Nat.reduceAdd, Option.bind_some, Bool.not_true, Bool.not_false, Nat.reduceBEq, spec_FindExport_r, spec_FindExport_s0, DLink.c, L0]
  refine c_split (fun hlt => ?_) (fun hge => ?_)
  · have hlt : k < l.exports.length := by simpa using hlt
    have i0 := idx_vm (β := β) (sz := 3) (ex := false) (ce := DExport.c β) hlt
    cases hp : l.exports[k].pos == pos
    · simp only [EV, EL, EB, EF, if_true, if_false, Bool.false_eq_true, Nat.reduceAdd, Option.bind_some, Bool.not_true, Bool.not_false, Nat.reduceBEq, spec_FindExport_r, i0, DLink.c, DExport.c, hp]
      exact ⟨k + 1, ⟨hlt, step_lt (P := fun x : DExport => (x.pos == pos) = false) ht hp⟩, by omega, ⟨by rw [wN (by omega)]; simp [spec_FindExport_s0, LeL, LeV], rfl, rfl⟩⟩
    · simp only [EV, EL, EB, EF, if_true, if_false, Bool.false_eq_true, Nat.reduceAdd, Option.bind_some, Bool.not_true, Bool.not_false, Nat.reduceBEq, spec_FindExport_r, i0, DLink.c, DExport.c, hp]
      exact ⟨rfl, by simp only [exportF, find_at (p := fun x : DExport => x.pos == pos) hlt ht hp]⟩
  · have hge : k = l.exports.length := by simp at hge; omega
    subst hge
    simp only [EV, EL, EB, EF, if_true, if_false, Bool.false_eq_true, Nat.reduceAdd, Option.bind_some, Bool.not_true, Bool.not_false, Nat.reduceBEq, spec_FindExport_r]
    exact ⟨rfl, by simp only [exportF, find_none (p := fun x : DExport => x.pos == pos) ht]⟩

theorem impl_Link_at_1_T (β : Bool) (x : DExport) (pos : Int) (H : AH) {k : Nat} (hk : hget H k = some (0, [.int .i64 pos])) : T Try.prog Γ Fn.impl_Link_at_1 [.agg (x.c β), .gp k 0 0] H fun v h' => v = .bool (x.pos == pos) ∧ h' = H := by
  refine impl_Link_at_1_e (aw_sound tabOK mixed [] _ _ _ ?_)
  unfold impl_Link_at_1_c
  have hc : ∀ (e : List AV) (l : List (List AV)) (off n : Nat), (St.mk e l H).cells (.gp k 0 off) n = sub [.int .i64 pos] off n := fun e l off n => cells_gp hk
  simp only [EV, EL, EB, EF, if_true, if_false, Bool.false_eq_true, Nat.reduceAdd, Option.bind_some, Bool.not_true, Bool.not_false, Nat.reduceBEq, impl_Link_at_1_r, DExport.c, hc]
  first | exact ⟨rfl, rfl⟩ | exact rfl

/-- The exports' index. -/
theorem impl_Link_at_T (β : Bool) (l : DLink) (hl : l.exports.length ≤ 1048576) (pos : Int) (H : AH) {p : AV} (hp : Ptr H p (l.c β)) :
    T Try.prog Γ Fn.impl_Link_at [p, .int .i64 pos] H fun v h' => v = .int .i64 (idxI (fun x : DExport => x.pos == pos) l.exports) ∧ h' = H := by
  refine (?_ : T Try.prog Γ Fn.impl_Link_at _ H fun v h' => v = .int .i64 (idxI (fun x : DExport => x.pos == pos) l.exports) ∧ ∃ N, h' = H ++ N).drop (by rintro v h' ⟨rfl, N, rfl⟩; exact ⟨N, rfl, .int _ _, rfl, rfl⟩)
  refine impl_Link_at_e (aw_sound tabOK mixed [3] _ _ _ ?_)
  unfold impl_Link_at_c
  have hp' : ∀ N, Ptr (H ++ N) p (l.c β) := fun N => hp.grow N
  simp only [EV, EL, EB, EF, if_true, if_false, Bool.false_eq_true, Nat.reduceAdd, Option.bind_some, Bool.not_true, Bool.not_false, Nat.reduceBEq, impl_Link_at_r, box_g _ _ (show List.all [AV.int .i64 pos] noLp = true from rfl), push_s, hp.nil, hp.fld, (hp' [some (0, [.int .i64 pos])]).rd, DLink.c_len, Nat.reduceLeDiff, DLink.c]
  have hcall := indexFunc_D (P := Try.prog) (Γ := Γ) tabOK mixed (sz := 3) (agg := true) (fun hw => slices_IndexFunc_iimpl_Export_impl_Export_e hw) (β := β) (l := l.exports) (c := DExport.c β) (by omega) (fun x => ⟨⟨rfl, .inl rfl⟩, rfl⟩) (g := Fn.impl_Link_at_1) (first := []) (caps := [.gp H.length 0 0]) rfl (fun x : DExport => x.pos == pos) (h := H ++ [some (0, [.int .i64 pos])]) (fun x hx => impl_Link_at_1_T β x pos _ (hget_last _ _))
  refine TCall.val (by simp only [EO]) hcall ?_
  simp only [EV, EL, EB, EF, if_true, if_false, Bool.false_eq_true, Nat.reduceAdd, Option.bind_some, Bool.not_true, Bool.not_false, Nat.reduceBEq, impl_Link_at_r]
  exact ⟨rfl, _, rfl⟩

theorem impl_FindExport_T (β : Bool) (l : DLink) (hl : l.exports.length ≤ 1048576) (pos : Int) (h : AH) : T Try.prog Γ Fn.impl_FindExport [.agg (l.c β), .int .i64 pos] h fun v h' => v = .int .i64 (exportF l.exports pos) ∧ h' = h := by
  refine (?_ : T Try.prog Γ Fn.impl_FindExport _ h fun v h' => v = .int .i64 (exportF l.exports pos) ∧ ∃ N, h' = h ++ N).drop (by rintro v h' ⟨rfl, N, rfl⟩; exact ⟨N, rfl, .int _ _, rfl, rfl⟩)
  refine impl_FindExport_e (aw_sound tabOK mixed [2] _ _ _ ?_)
  unfold impl_FindExport_c
  simp only [EV, EL, EB, EF, if_true, if_false, Bool.false_eq_true, Nat.reduceAdd, Option.bind_some, Bool.not_true, Bool.not_false, Nat.reduceBEq, impl_FindExport_r, box_g _ _ (DLink.c_noLp β l), push_s]
  have hp : Ptr (h ++ [some (0, l.c β)]) (.gp h.length 0 0) (l.c β) := Ptr.gp0 (hget_last _ _)
  refine TCall.val (by simp only [EO]) (impl_Link_at_T β l hl pos _ hp) ?_
  rcases idxI_cases (fun x : DExport => x.pos == pos) l.exports with ⟨k, hk, e1, e2, e3⟩ | ⟨e1, e2, e3⟩
  · have i0 := idx_vm (β := β) (sz := 3) (ex := false) (ce := DExport.c β) hk
    simp only [EV, EL, EB, EF, if_true, if_false, Bool.false_eq_true, Nat.reduceAdd, Option.bind_some, Bool.not_true, Bool.not_false, Nat.reduceBEq, impl_FindExport_r, e1, show decide ((0 : Int) ≤ (k : Int)) = true from by simp, cells_last, DLink.c, i0, DExport.c]
    exact ⟨rfl, by simp only [exportF, e3], _, rfl⟩
  · simp only [EV, EL, EB, EF, if_true, if_false, Bool.false_eq_true, Nat.reduceAdd, Option.bind_some, Bool.not_true, Bool.not_false, Nat.reduceBEq, impl_FindExport_r, e1, show decide ((0 : Int) ≤ -1) = false from rfl]
    exact ⟨rfl, by simp only [exportF, e2], _, rfl⟩

theorem spec_LinkTo_T (β : Bool) (v : DVat) (hl : v.links.length ≤ 1048576) (peer : Int) (h : AH) : T Try.prog Γ Fn.spec_LinkTo [.agg (v.c β), .int .i64 peer] h fun r h' => r = .int .i64 (idxI (fun l : DLink => l.peer == peer) v.links) ∧ h' = h := by
  have L0 := len_vm β 7 false v.links (DLink.c β)
  refine spec_LinkTo_e (aw_sound tabOK mixed [] _ _ _ ?_)
  unfold spec_LinkTo_c
  simp only [EV, EL, EB, EF, if_true, if_false, Bool.false_eq_true, Nat.reduceAdd, Option.bind_some, Bool.not_true, Bool.not_false, Nat.reduceBEq, spec_LinkTo_r]
  refine loopI tabOK mixed [] (fun k : Nat => k ≤ v.links.length ∧ ∀ (i : Nat) (hi : i < v.links.length), i < k → (v.links[i].peer == peer) = false) (fun k => v.links.length - k)
    (fun k => spec_LinkTo_s0 (.int .i64 peer) (.lp ([] : List (List AV)).length 0) (.int .i64 k) (([] : List (List AV)) ++ [v.c β]) h) 0 ⟨by omega, fun i hi h => by omega⟩ ⟨by simp [spec_LinkTo_s0, LeL, LeV], rfl, rfl⟩ ?_
  rintro k ⟨hk, ht⟩
  simp only [EV, EL, EB, EF, if_true, if_false, Bool.false_eq_true, Nat.reduceAdd, Option.bind_some, Bool.not_true, Bool.not_false, Nat.reduceBEq, spec_LinkTo_r, spec_LinkTo_s0, DVat.c, L0]
  refine c_split (fun hlt => ?_) (fun hge => ?_)
  · have hlt : k < v.links.length := by simpa using hlt
    have i0 := idx_vm (β := β) (sz := 7) (ex := false) (ce := DLink.c β) hlt
    cases hp : v.links[k].peer == peer
    · simp only [EV, EL, EB, EF, if_true, if_false, Bool.false_eq_true, Nat.reduceAdd, Option.bind_some, Bool.not_true, Bool.not_false, Nat.reduceBEq, spec_LinkTo_r, i0, DVat.c, DLink.c, hp]
      exact ⟨k + 1, ⟨hlt, step_lt (P := fun l : DLink => (l.peer == peer) = false) ht hp⟩, by omega, ⟨by rw [wN (by omega)]; simp [spec_LinkTo_s0, LeL, LeV], rfl, rfl⟩⟩
    · simp only [EV, EL, EB, EF, if_true, if_false, Bool.false_eq_true, Nat.reduceAdd, Option.bind_some, Bool.not_true, Bool.not_false, Nat.reduceBEq, spec_LinkTo_r, i0, DVat.c, DLink.c, hp]
      exact ⟨rfl, by rw [idxI_at (p := fun l : DLink => l.peer == peer) hlt ht hp]⟩
  · have hge : k = v.links.length := by simp at hge; omega
    subst hge
    simp only [EV, EL, EB, EF, if_true, if_false, Bool.false_eq_true, Nat.reduceAdd, Option.bind_some, Bool.not_true, Bool.not_false, Nat.reduceBEq, spec_LinkTo_r]
    exact ⟨rfl, by rw [idxI_none (p := fun l : DLink => l.peer == peer) fun i hi => ht i hi hi]⟩

theorem impl_LinkTo_1_T (β : Bool) (x : DLink) (peer : Int) (H : AH) {k : Nat} (hk : hget H k = some (0, [.int .i64 peer])) : T Try.prog Γ Fn.impl_LinkTo_1 [.agg (x.c β), .gp k 0 0] H fun v h' => v = .bool (x.peer == peer) ∧ h' = H := by
  refine impl_LinkTo_1_e (aw_sound tabOK mixed [] _ _ _ ?_)
  unfold impl_LinkTo_1_c
  have hc : ∀ (e : List AV) (l : List (List AV)) (off n : Nat), (St.mk e l H).cells (.gp k 0 off) n = sub [.int .i64 peer] off n := fun e l off n => cells_gp hk
  simp only [EV, EL, EB, EF, if_true, if_false, Bool.false_eq_true, Nat.reduceAdd, Option.bind_some, Bool.not_true, Bool.not_false, Nat.reduceBEq, impl_LinkTo_1_r, DLink.c, hc]
  first | exact ⟨rfl, rfl⟩ | exact rfl
theorem impl_LinkTo_T (β : Bool) (v : DVat) (hl : v.links.length ≤ 1048576) (peer : Int) (h : AH) : T Try.prog Γ Fn.impl_LinkTo [.agg (v.c β), .int .i64 peer] h fun r h' => r = .int .i64 (idxI (fun l : DLink => l.peer == peer) v.links) ∧ h' = h := by
  refine (?_ : T Try.prog Γ Fn.impl_LinkTo _ h fun r h' => r = .int .i64 (idxI (fun l : DLink => l.peer == peer) v.links) ∧ ∃ N, h' = h ++ N).drop (by rintro v h' ⟨rfl, N, rfl⟩; exact ⟨N, rfl, .int _ _, rfl, rfl⟩)
  refine impl_LinkTo_e (aw_sound tabOK mixed [3] _ _ _ ?_)
  unfold impl_LinkTo_c
  simp only [EV, EL, EB, EF, if_true, if_false, Bool.false_eq_true, Nat.reduceAdd, Option.bind_some, Bool.not_true, Bool.not_false, Nat.reduceBEq, impl_LinkTo_r, box_g _ _ (show List.all [AV.int .i64 peer] noLp = true from rfl), push_s, DVat.c]
  have hcall := indexFunc_D (P := Try.prog) (Γ := Γ) tabOK mixed (sz := 7) (agg := true) (fun hw => slices_IndexFunc_iimpl_Link_impl_Link_e hw) (β := β) (l := v.links) (c := DLink.c β) (by omega) (fun x => ⟨⟨rfl, .inl rfl⟩, rfl⟩) (g := Fn.impl_LinkTo_1) (first := []) (caps := [.gp h.length 0 0]) rfl (fun l : DLink => l.peer == peer) (h := h ++ [some (0, [.int .i64 peer])]) (fun x hx => impl_LinkTo_1_T β x peer _ (hget_last _ _))
  refine TCall.val (by simp only [EO]) hcall ?_
  simp only [EV, EL, EB, EF, if_true, if_false, Bool.false_eq_true, Nat.reduceAdd, Option.bind_some, Bool.not_true, Bool.not_false, Nat.reduceBEq, impl_LinkTo_r]
  exact ⟨rfl, _, rfl⟩

/-- Where a call goes, on a link. -/
def targetL (l : DLink) (m : DMessage) : Int := if m.pos = 0 then entryF l.answers m.answer else exportF l.exports m.pos
def targetF (v : DVat) (peer : Int) (m : DMessage) : Int := match v.links.find? (fun l => l.peer == peer) with | some l => targetL l m | none => -1

theorem impl_targetAt_T (β β' : Bool) (l : DLink) (hl : l.ok 1048576) (m : DMessage) (H : AH) {p : AV} (hp : Ptr H p (l.c β)) : T Try.prog Γ Fn.impl_targetAt [p, .agg (m.c β')] H fun r h' => r = .int .i64 (targetL l m) ∧ h' = H := by
  refine impl_targetAt_e (aw_sound tabOK mixed [] _ _ _ ?_)
  unfold impl_targetAt_c
  by_cases hz : m.pos = 0
  · simp only [EV, EL, EB, EF, if_true, if_false, Bool.false_eq_true, Nat.reduceAdd, Option.bind_some, Bool.not_true, Bool.not_false, Nat.reduceBEq, impl_targetAt_r, impl_targetAt_d0_q, impl_targetAt_d1_q, DMessage.c, ne_int, decide_eq_true hz, hp.nil, hp.fld, hp.rd, DLink.c_len, Nat.reduceLeDiff, DLink.c]
    refine TCall.val (by simp only [EO]) (impl_FindEntry_T β l.answers hl.2.2 m.answer _) ?_
    simp only [EV, EL, EB, EF, if_true, if_false, Bool.false_eq_true, Nat.reduceAdd, Option.bind_some, Bool.not_true, Bool.not_false, Nat.reduceBEq, impl_targetAt_r, impl_targetAt_d0_q, impl_targetAt_d1_q]
    exact ⟨rfl, by simp only [targetL, if_pos hz]⟩
  · simp only [EV, EL, EB, EF, if_true, if_false, Bool.false_eq_true, Nat.reduceAdd, Option.bind_some, Bool.not_true, Bool.not_false, Nat.reduceBEq, impl_targetAt_r, impl_targetAt_d0_q, impl_targetAt_d1_q, DMessage.c, ne_int, decide_eq_false hz, hp.nil, hp.fld, hp.rd0, DLink.c_len, Nat.reduceLeDiff, DLink.c]
    refine TCall.val (by simp only [EO]) (impl_FindExport_T β l hl.1 m.pos _) ?_
    simp only [EV, EL, EB, EF, if_true, if_false, Bool.false_eq_true, Nat.reduceAdd, Option.bind_some, Bool.not_true, Bool.not_false, Nat.reduceBEq, impl_targetAt_r, impl_targetAt_d0_q, impl_targetAt_d1_q]
    exact ⟨rfl, by simp only [targetL, if_neg hz]⟩

theorem impl_TargetAt_T (β β' : Bool) (v : DVat) (hv : v.ok 1048576) (peer : Int) (m : DMessage) (h : AH) : T Try.prog Γ Fn.impl_TargetAt [.agg (v.c β), .int .i64 peer, .agg (m.c β')] h fun r h' => r = .int .i64 (targetF v peer m) ∧ h' = h := by
  refine impl_TargetAt_e (aw_sound tabOK mixed [] _ _ _ ?_)
  unfold impl_TargetAt_c
  simp only [EV, EL, EB, EF, if_true, if_false, Bool.false_eq_true, Nat.reduceAdd, Option.bind_some, Bool.not_true, Bool.not_false, Nat.reduceBEq, impl_TargetAt_r, impl_TargetAt_d0_q, DVat.c, DMessage.c]
  refine TCall.val (by simp only [EO]) (impl_LinkTo_T β v hv.2.2.2.2.1 peer _) ?_
  rcases idxI_cases (fun l : DLink => l.peer == peer) v.links with ⟨k, hk, e1, e2, e3⟩ | ⟨e1, e2, e3⟩
  · have i0 := idx_vm (β := β) (sz := 7) (ex := false) (ce := DLink.c β) hk
    simp only [EV, EL, EB, EF, if_true, if_false, Bool.false_eq_true, Nat.reduceAdd, Option.bind_some, Bool.not_true, Bool.not_false, Nat.reduceBEq, impl_TargetAt_r, impl_TargetAt_d0_q, e1, show decide ((k : Int) < 0) = false from by simp, i0, DVat.c, DMessage.c]
    refine TCall.val (by simp only [EO]) (impl_targetAt_T β β' v.links[k] (hv.2.2.2.2.2.1 _ (List.getElem_mem hk)) m _ (Ptr.ip _ _ _)) ?_
    simp only [EV, EL, EB, EF, if_true, if_false, Bool.false_eq_true, Nat.reduceAdd, Option.bind_some, Bool.not_true, Bool.not_false, Nat.reduceBEq, impl_TargetAt_r, impl_TargetAt_d0_q]
    exact ⟨rfl, by simp only [targetF, e3]⟩
  · simp only [EV, EL, EB, EF, if_true, if_false, Bool.false_eq_true, Nat.reduceAdd, Option.bind_some, Bool.not_true, Bool.not_false, Nat.reduceBEq, impl_TargetAt_r, impl_TargetAt_d0_q, e1, show decide ((-1 : Int) < 0) = true from rfl]
    exact ⟨rfl, by simp only [targetF, e2]⟩

theorem spec_TargetAt_T (β β' : Bool) (v : DVat) (hv : v.ok 1048576) (peer : Int) (m : DMessage) (h : AH) : T Try.prog Γ Fn.spec_TargetAt [.agg (v.c β), .int .i64 peer, .agg (m.c β')] h fun r h' => r = .int .i64 (targetF v peer m) ∧ h' = h := by
  refine spec_TargetAt_e (aw_sound tabOK mixed [] _ _ _ ?_)
  unfold spec_TargetAt_c
  simp only [EV, EL, EB, EF, if_true, if_false, Bool.false_eq_true, Nat.reduceAdd, Option.bind_some, Bool.not_true, Bool.not_false, Nat.reduceBEq, spec_TargetAt_r, spec_TargetAt_d0_q, spec_TargetAt_d1_q, DVat.c, DMessage.c]
  refine TCall.val (by simp only [EO]) (spec_LinkTo_T β v hv.2.2.2.2.1 peer _) ?_
  rcases idxI_cases (fun l : DLink => l.peer == peer) v.links with ⟨k, hk, e1, e2, e3⟩ | ⟨e1, e2, e3⟩
  · have i0 := idx_vm (β := β) (sz := 7) (ex := false) (ce := DLink.c β) hk
    have hlk := hv.2.2.2.2.2.1 _ (List.getElem_mem hk)
    by_cases hz : m.pos = 0
    · simp only [EV, EL, EB, EF, if_true, if_false, Bool.false_eq_true, Nat.reduceAdd, Option.bind_some, Bool.not_true, Bool.not_false, Nat.reduceBEq, spec_TargetAt_r, spec_TargetAt_d0_q, spec_TargetAt_d1_q, e1, show decide ((k : Int) < 0) = false from by simp, i0, DVat.c, DMessage.c, ne_int, decide_eq_true hz, DLink.c]
      refine TCall.val (by simp only [EO]) (spec_FindEntry_T β v.links[k].answers hlk.2.2 m.answer _) ?_
      simp only [EV, EL, EB, EF, if_true, if_false, Bool.false_eq_true, Nat.reduceAdd, Option.bind_some, Bool.not_true, Bool.not_false, Nat.reduceBEq, spec_TargetAt_r, spec_TargetAt_d0_q, spec_TargetAt_d1_q]
      exact ⟨rfl, by simp only [targetF, e3, targetL, if_pos hz]⟩
    · simp only [EV, EL, EB, EF, if_true, if_false, Bool.false_eq_true, Nat.reduceAdd, Option.bind_some, Bool.not_true, Bool.not_false, Nat.reduceBEq, spec_TargetAt_r, spec_TargetAt_d0_q, spec_TargetAt_d1_q, e1, show decide ((k : Int) < 0) = false from by simp, i0, DVat.c, DMessage.c, ne_int, decide_eq_false hz, DLink.c]
      refine TCall.val (by simp only [EO]) (spec_FindExport_T β v.links[k] hlk.1 m.pos _) ?_
      simp only [EV, EL, EB, EF, if_true, if_false, Bool.false_eq_true, Nat.reduceAdd, Option.bind_some, Bool.not_true, Bool.not_false, Nat.reduceBEq, spec_TargetAt_r, spec_TargetAt_d0_q, spec_TargetAt_d1_q]
      exact ⟨rfl, by simp only [targetF, e3, targetL, if_neg hz]⟩
  · simp only [EV, EL, EB, EF, if_true, if_false, Bool.false_eq_true, Nat.reduceAdd, Option.bind_some, Bool.not_true, Bool.not_false, Nat.reduceBEq, spec_TargetAt_r, spec_TargetAt_d0_q, spec_TargetAt_d1_q, e1, show decide ((-1 : Int) < 0) = true from rfl]
    exact ⟨rfl, by simp only [targetF, e2]⟩

end Go.Proofs.Ytjmcfdhklogpkaa
