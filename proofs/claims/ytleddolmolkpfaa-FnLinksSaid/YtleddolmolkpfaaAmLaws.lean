import Derived.Test.YtleddolmolkpfaaAmBox
set_option linter.unusedVariables false
set_option linter.unusedSimpArgs false
namespace Go.AM
section
variable {P : Program} {Θ : Tab} {Γ : Glob}

abbrev Entry1 (P : Program) (Θ : Tab) (Γ : Glob) (f : FuncId) (c : C) (rs : List RS) (us : List AV) : Prop :=
  ∀ {a0 : AV} {h : AH} {K : AV → AH → Prop}, TC P Θ Γ c (retQ rs K) ⟨a0 :: us, [], h⟩ → T P Γ f [a0] h K

end
end Go.AM

