import Derived.Test.YtccjhmhkfnnmaaaGreatAmBox2
set_option linter.unusedVariables false
set_option linter.unusedSimpArgs false
namespace Go.AM
end Go.AM
