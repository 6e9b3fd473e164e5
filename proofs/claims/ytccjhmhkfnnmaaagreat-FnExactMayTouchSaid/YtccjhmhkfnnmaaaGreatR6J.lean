import Derived.Test.YtccjhmhkfnnmaaaGreatRows
import Derived.JoinedOf
import Derived.Test.YtccjhmhkfnnmaaaGreatAmTop
set_option linter.unusedVariables false
set_option linter.unusedSimpArgs false
namespace Go.Proofs.YtccjhmhkfnnmaaaGreat
open Go.AM
theorem fnExactMayTouch_closed : joinedFacts Tryz.pinned.checked.prog 5 Tryz.f5 Rows.fnExactMayTouchSpec Rows.fnExactMayTouchRow = true := by kernel_rfl
end Go.Proofs.YtccjhmhkfnnmaaaGreat
