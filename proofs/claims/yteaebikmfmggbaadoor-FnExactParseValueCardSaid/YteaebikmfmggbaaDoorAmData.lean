import Derived.Test.YteaebikmfmggbaaDoorAmOwn
set_option linter.unusedVariables false
set_option linter.unusedSimpArgs false
namespace Go.AM
set_option linter.unusedVariables false
structure DValue where
  kind : Int
  n : Int
  deriving DecidableEq, Inhabited
def DValue.c (β : Bool) (x : DValue) : List AV := [.int .i64 x.kind, .int .i64 x.n]
end Go.AM
