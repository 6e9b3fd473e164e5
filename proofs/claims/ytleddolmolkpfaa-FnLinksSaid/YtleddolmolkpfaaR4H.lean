import Derived.Test.YtleddolmolkpfaaCodeFnLinks
import Derived.Test.YtleddolmolkpfaaAmSz
set_option linter.unusedVariables false
set_option linter.unusedSimpArgs false
namespace Go.Proofs.Ytleddolmolkpfaa
open Go.AM
set_option linter.unusedVariables false
set_option linter.unusedSimpArgs false
variable {Γ : Glob}
end Go.Proofs.Ytleddolmolkpfaa

