import Derived.Test.YtccjhmhkfnnmaaaGreatAmVal
set_option linter.unusedVariables false
set_option linter.unusedSimpArgs false
namespace Go.AM
section
variable {Γ : Glob}
end
end Go.AM
namespace Go.AM
section
variable {Γ : Glob}
end
end Go.AM
