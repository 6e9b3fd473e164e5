import Derived.Test.YteaebikmfmggbaaDoorAmMore2
set_option linter.unusedVariables false
set_option linter.unusedSimpArgs false
namespace Go.AM
set_option linter.unusedVariables false
section
variable {α : Type} {c : α → List AV} {sz : Nat} (hc : ∀ x, (c x).length = sz)
include hc
end
end Go.AM
