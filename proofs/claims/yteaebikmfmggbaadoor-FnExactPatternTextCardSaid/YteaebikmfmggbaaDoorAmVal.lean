import Derived.Test.YteaebikmfmggbaaDoorAmCur
set_option linter.unusedVariables false
set_option linter.unusedSimpArgs false
namespace Go.AM
section
variable {P : Program} {Γ : Glob}
end
end Go.AM
