import Derived.Test.YteaebikmfmggbaaDoorAmApp2
set_option linter.unusedVariables false
set_option linter.unusedSimpArgs false
namespace Go.AM
variable {P : Program} {Γ : Glob}
theorem HExt.mem {h H : AH} (e : HExt h H) (a b : List AV) (l : List (List AV)) : Mem ⟨a, l, h⟩ ⟨b, l, H⟩ :=
  ⟨fun _ _ hx => hx, fun c x hx => by
    have h1 := hget_spec hx
    exact hget_of (by show H[c]? = _; rw [e.fr c (getElem?_lt h1)]; exact h1)⟩
end Go.AM
