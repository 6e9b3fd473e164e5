import Derived.Test.YteaebikmfmggbaaDoorAmSlices2
set_option linter.unusedVariables false
set_option linter.unusedSimpArgs false
namespace Go.AM
end Go.AM
namespace Go.AM
end Go.AM
