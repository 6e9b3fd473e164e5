import Derived.Test.YtleddolmolkpfaaR4H
import Derived.Test.YtleddolmolkpfaaAmBox2
import Derived.Test.YtleddolmolkpfaaAmVal
set_option linter.unusedVariables false
set_option linter.unusedSimpArgs false
namespace Go.Proofs.Ytleddolmolkpfaa
open Go.AM
set_option linter.unusedVariables false
set_option linter.unusedSimpArgs false
variable {Γ : Glob}
def exportF (l : List DExport) (pos : Int) : Int := match l.find? (fun x => x.pos == pos) with | some x => x.entity | none => -1
theorem find_at {α : Type} {p : α → Bool} {l : List α} {k : Nat} (hk : k < l.length) (h0 : ∀ (i : Nat) (hi : i < l.length), i < k → p l[i] = false) (h1 : p l[k] = true) : l.find? p = some l[k] := by
  rw [List.find?_eq_some_iff_getElem]; exact ⟨h1, k, hk, rfl, fun j hj => by simp [h0 j (by omega) hj]⟩
theorem find_none {α : Type} {p : α → Bool} {l : List α} (h : ∀ (i : Nat) (hi : i < l.length), i < l.length → p l[i] = false) : l.find? p = none := by
  rw [List.find?_eq_none]; intro x hx; obtain ⟨i, hi, rfl⟩ := List.mem_iff_getElem.1 hx; simp [h i hi hi]
theorem impl_Link_at_1_T (β : Bool) (x : DExport) (pos : Int) (H : AH) {k : Nat} (hk : hget H k = some (0, [.int .i64 pos])) : T Try.prog Γ Fn.impl_Link_at_1 [.agg (x.c β), .gp k 0 0] H fun v h' => v = .bool (x.pos == pos) ∧ h' = H := by
  refine impl_Link_at_1_e (aw_sound tabOK mixed [] _ _ _ ?_)
  unfold impl_Link_at_1_c
  have hc : ∀ (e : List AV) (l : List (List AV)) (off n : Nat), (St.mk e l H).cells (.gp k 0 off) n = sub [.int .i64 pos] off n := fun e l off n => cells_gp hk
  simp only [EV, EL, EB, EF, q_bx, if_true, if_false, Bool.false_eq_true, Nat.reduceAdd, Option.bind_some, Bool.not_true, Bool.not_false, Nat.reduceBEq, impl_Link_at_1_r, DExport.c, hc]
  first | exact ⟨rfl, rfl⟩ | exact rfl
theorem impl_Link_at_T (β : Bool) (l : DLink) (hl : l.exports.length ≤ 1048576) (pos : Int) (H : AH) {p : AV} (hp : Ptr H p (l.c β)) :
    T Try.prog Γ Fn.impl_Link_at [p, .int .i64 pos] H fun v h' => v = .int .i64 (idxI (fun x : DExport => x.pos == pos) l.exports) ∧ h' = H := by
  refine (?_ : T Try.prog Γ Fn.impl_Link_at _ H fun v h' => v = .int .i64 (idxI (fun x : DExport => x.pos == pos) l.exports) ∧ ∃ N, h' = H ++ N).drop (by rintro v h' ⟨rfl, N, rfl⟩; exact ⟨N, rfl, .int _ _, rfl, rfl⟩)
  refine impl_Link_at_e (aw_sound tabOK mixed [3] _ _ _ ?_)
  unfold impl_Link_at_c
  have hp' : ∀ N, Ptr (H ++ N) p (l.c β) := fun N => hp.grow N
  simp only [EV, EL, EB, EF, q_bx, if_true, if_false, Bool.false_eq_true, Nat.reduceAdd, Option.bind_some, Bool.not_true, Bool.not_false, Nat.reduceBEq, impl_Link_at_r, box_g _ _ (show List.all [AV.int .i64 pos] noLp = true from rfl), push_s, hp.nil, hp.fld, (hp' [some (0, [.int .i64 pos])]).rd, DLink.c_len, Nat.reduceLeDiff, DLink.c]
  have hcall := indexFunc_D (P := Try.prog) (Γ := Γ) tabOK mixed (sz := 3) (agg := true) (fun hw => slices_IndexFunc_iimpl_Export_impl_Export_e hw) (β := β) (l := l.exports) (c := DExport.c β) (by omega) (fun x => ⟨⟨rfl, .inl rfl⟩, rfl⟩) (g := Fn.impl_Link_at_1) (first := []) (caps := [.gp H.length 0 0]) rfl (fun x : DExport => x.pos == pos) (h := H ++ [some (0, [.int .i64 pos])]) (fun x hx => impl_Link_at_1_T β x pos _ (hget_last _ _))
  refine TCall.val (by simp only [EO]) hcall ?_
  simp only [EV, EL, EB, EF, q_bx, if_true, if_false, Bool.false_eq_true, Nat.reduceAdd, Option.bind_some, Bool.not_true, Bool.not_false, Nat.reduceBEq, impl_Link_at_r]
  exact ⟨rfl, _, rfl⟩
theorem impl_FindExport_T (β : Bool) (l : DLink) (hl : l.exports.length ≤ 1048576) (pos : Int) (h : AH) : T Try.prog Γ Fn.impl_FindExport [.agg (l.c β), .int .i64 pos] h fun v h' => v = .int .i64 (exportF l.exports pos) ∧ h' = h := by
  refine (?_ : T Try.prog Γ Fn.impl_FindExport _ h fun v h' => v = .int .i64 (exportF l.exports pos) ∧ ∃ N, h' = h ++ N).drop (by rintro v h' ⟨rfl, N, rfl⟩; exact ⟨N, rfl, .int _ _, rfl, rfl⟩)
  refine impl_FindExport_e (aw_sound tabOK mixed [2] _ _ _ ?_)
  unfold impl_FindExport_c
  simp only [EV, EL, EB, EF, q_bx, if_true, if_false, Bool.false_eq_true, Nat.reduceAdd, Option.bind_some, Bool.not_true, Bool.not_false, Nat.reduceBEq, impl_FindExport_r, box_g _ _ (DLink.c_noLp β l), push_s]
  have hp : Ptr (h ++ [some (0, l.c β)]) (.gp h.length 0 0) (l.c β) := Ptr.gp0 (hget_last _ _)
  refine TCall.val (by simp only [EO]) (impl_Link_at_T β l hl pos _ hp) ?_
  rcases idxI_cases (fun x : DExport => x.pos == pos) l.exports with ⟨k, hk, e1, e2, e3⟩ | ⟨e1, e2, e3⟩
  · have i0 := idx_vm (β := β) (sz := 3) (ex := false) (ce := DExport.c β) hk
    simp only [EV, EL, EB, EF, q_bx, if_true, if_false, Bool.false_eq_true, Nat.reduceAdd, Option.bind_some, Bool.not_true, Bool.not_false, Nat.reduceBEq, impl_FindExport_r, e1, show decide ((0 : Int) ≤ (k : Int)) = true from by simp, cells_last, DLink.c, i0, DExport.c]
    exact ⟨rfl, by simp only [exportF, e3], _, rfl⟩
  · simp only [EV, EL, EB, EF, q_bx, if_true, if_false, Bool.false_eq_true, Nat.reduceAdd, Option.bind_some, Bool.not_true, Bool.not_false, Nat.reduceBEq, impl_FindExport_r, e1, show decide ((0 : Int) ≤ -1) = false from rfl]
    exact ⟨rfl, by simp only [exportF, e2], _, rfl⟩

end Go.Proofs.Ytleddolmolkpfaa

