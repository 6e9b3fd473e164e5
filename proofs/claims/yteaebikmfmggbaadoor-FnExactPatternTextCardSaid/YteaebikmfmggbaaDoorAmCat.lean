import Derived.Test.YteaebikmfmggbaaDoorAmVal
set_option linter.unusedVariables false
set_option linter.unusedSimpArgs false
namespace Go.AM
section
variable {Γ : Glob}
end
end Go.AM
namespace Go.AM
section
variable {Γ : Glob}
end
end Go.AM
