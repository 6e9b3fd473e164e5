import Derived.Test.YtleddolmolkpfaaGreatAmVal
set_option linter.unusedVariables false
set_option linter.unusedSimpArgs false
namespace Go.AM
section
variable {Γ : Glob}
def appzK (s : St) (sz bytes : Nat) (z : List AV) : AV → AV → AR
  | .nils, .int _ k => .ofP (aAppz s sz bytes z k)
  | _, _ => .stuck
def capK (s : St) : AV → AR
  | .nils => .val (.int .i64 0) s
  | .gs _ _ _ _ cap _ true => .val (.int .i64 cap) s
  | _ => .stuck
end
end Go.AM
namespace Go.AM
section
variable {Γ : Glob}
def cvbK (s : St) : AV → AR
  | .str v => if v.size ≤ maxMade then .val (.gs s.heap.length 0 0 v.size v.size 1 false) (s.push (byteCells v)) else .stuck
  | _ => .stuck
def bytesI (v : ByteArray) : List Int := v.data.toList.map fun b => (b.toNat : Int)
end
end Go.AM

