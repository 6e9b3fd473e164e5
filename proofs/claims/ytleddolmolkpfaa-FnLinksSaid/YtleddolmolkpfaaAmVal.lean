import Derived.Test.YtleddolmolkpfaaAmCur
set_option linter.unusedVariables false
set_option linter.unusedSimpArgs false
namespace Go.AM
section
variable {P : Program} {Γ : Glob}
theorem T.froz {f : FuncId} {args : List AV} {h : AH} {R : List RD → Prop} (t : T P Γ f args h fun v h' => ∃ vs rs fp, v = resOf vs ∧ OwnRs h' vs rs fp ∧ (∀ b ∈ fp, h.length ≤ b) ∧ HExt h h' ∧ R rs) :
    T P Γ f args h fun v h' => (∃ rs, R rs ∧ v = resOf (rs.map (RD.av false))) ∧ h' = h := by
  refine t.freeze ?_
  rintro v h' ⟨vs, rs, fp, rfl, o, hb, e, r⟩
  obtain ⟨N, rfl⟩ := e.out
  exact ⟨h, N, _, rfl, rfl, fun b g cs hb => .inl hb, o.frzR hb, ⟨rs, r, rfl⟩, rfl⟩
end
end Go.AM

