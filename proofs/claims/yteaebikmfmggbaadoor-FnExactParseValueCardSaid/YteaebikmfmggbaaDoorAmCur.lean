import Derived.Test.YteaebikmfmggbaaDoorAmRows
set_option linter.unusedVariables false
set_option linter.unusedSimpArgs false
namespace Go.AM
theorem p_cvi {Γ : Glob} (gl : Bool) (s : St) (k : IntKind) (x : X) : step Γ gl s (.cvi k x) = (match s.eval Γ x with | .int _ n => .val (.int k (k.wrap n)) s | _ => .stuck) := rfl
end Go.AM
