import Derived.Test.YteaebikmfmggbaaDoorAmLaws2
set_option linter.unusedVariables false
set_option linter.unusedSimpArgs false
namespace Go.AM
set_option linter.unusedVariables false
theorem EY : type_of% (And.intro EV (And.intro EL (And.intro EB (@Bool.false_eq_true)))) := And.intro EV (And.intro EL (And.intro EB (@Bool.false_eq_true)))
end Go.AM
