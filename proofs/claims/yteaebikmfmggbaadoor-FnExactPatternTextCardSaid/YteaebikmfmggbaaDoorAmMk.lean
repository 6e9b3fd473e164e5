import Derived.Test.YteaebikmfmggbaaDoorAmMark
set_option linter.unusedVariables false
set_option linter.unusedSimpArgs false
namespace Go.AM
set_option linter.unusedVariables false
end Go.AM
