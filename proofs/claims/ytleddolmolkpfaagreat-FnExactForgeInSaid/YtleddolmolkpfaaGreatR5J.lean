import Derived.Test.YtleddolmolkpfaaGreatRows
import Derived.JoinedOf
import Derived.Test.YtleddolmolkpfaaGreatAmTop
set_option linter.unusedVariables false
set_option linter.unusedSimpArgs false
namespace Go.Proofs.YtleddolmolkpfaaGreat
open Go.AM
theorem fnExactForgeIn_closed : joinedFacts Tryz.pinned.checked.prog 6 Tryz.f6 Rows.fnExactForgeInSpec Rows.fnExactForgeInRow = true := by kernel_rfl
end Go.Proofs.YtleddolmolkpfaaGreat
