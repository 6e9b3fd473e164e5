import Derived.Test.YteaebikmfmggbaaDoorAmBox
set_option linter.unusedVariables false
set_option linter.unusedSimpArgs false
namespace Go.AM
section
variable {P : Program} {Θ : Tab} {Γ : Glob}
end
end Go.AM
