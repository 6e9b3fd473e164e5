import Derived.Test.YtleddolmolkpfaaGreatAmRows
set_option linter.unusedVariables false
set_option linter.unusedSimpArgs false
namespace Go.AM
theorem p_cvi {Γ : Glob} (gl : Bool) (s : St) (k : IntKind) (x : X) : step Γ gl s (.cvi k x) = (match s.eval Γ x with | .int _ n => .val (.int k (k.wrap n)) s | _ => .stuck) := rfl
theorem flat_asG {H : AH} : ∀ {az : List AV} {cs : List CD} {fp : List Nat}, cs.all CD.flat = true → OwnL H az cs fp → az = cs.map (CD.av false)
  | [], [], _, _, o => rfl
  | a :: az, d :: ds, fp, h, ⟨f1, f2, e, o1, o2⟩ => by
    simp only [List.all_cons, Bool.and_eq_true] at h
    rw [List.map_cons, ← flat_asG h.2 o2]
    congr 1
    cases o1 with
    | i => simp [CD.av_i]
    | b => simp [CD.av_b]
    | s => simp [CD.av_s]
    | nil => simp [CD.flat] at h
    | gs => simp [CD.flat] at h
end Go.AM

