import Derived.Test.YteaebikmfmggbaaDoorAmLib
set_option linter.unusedVariables false
set_option linter.unusedSimpArgs false
namespace Go.AM
variable {ρ : Inj} {ls : List Nat} {L : List (List AV)} {h : AH} {w : World}
theorem RH.bigger {w' : World} (r : RH ρ ls L h w) (hs : w.heap.size ≤ w'.heap.size) (ho : ∀ c, c < w.heap.size → w'.heap[c]? = w.heap[c]?) : RH ρ ls L h w' := by
  have up : ∀ {c : Nat} {x : Obj}, w.heap[c]? = some x → w'.heap[c]? = some x := fun e => by rw [ho _ (aget_lt e)]; exact e
  refine ⟨fun b g cs e => ?_, fun i cs e => ?_, r.len, r.nod, r.hh, r.hl, fun β c arr e => ?_, r.iml, r.imh, fun b g c o n e => ⟨Nat.lt_of_lt_of_le (r.dom b g c o n e).1 hs, (r.dom b g c o n e).2⟩⟩
  · obtain ⟨c, o, n, arr, T, fr, e1, e2, e3⟩ := r.hp b g cs e
    exact ⟨c, o, n, arr, T, fr, e1, up e2, e3⟩
  · obtain ⟨c, arr, T, fr, e1, e2, e3⟩ := r.lp i cs e
    exact ⟨c, arr, T, fr, e1, up e2, e3⟩
  · obtain ⟨T, fr, e1⟩ := r.im β c arr e
    exact ⟨T, fr, up e1⟩
theorem Evo.bigger {w' : World} (hs : w.heap.size ≤ w'.heap.size) (ho : ∀ c, c < w.heap.size → w'.heap[c]? = w.heap[c]?) (eo : w'.os = w.os) (ep : w'.output = w.output) : Evo ρ ls h w ρ ls h w' :=
  ⟨.refl _, .refl _, hs, fun c hc _ => ho c hc, fun _ _ _ _ _ _ h m => .inr ⟨_, _, _, _, h, m⟩, fun _ _ h => .inr h, fun _ _ _ _ e => e, Nat.le_refl _, eo, ep⟩
end Go.AM
