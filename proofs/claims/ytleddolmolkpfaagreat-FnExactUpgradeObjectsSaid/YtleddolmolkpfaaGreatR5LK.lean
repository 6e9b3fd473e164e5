import Derived.Test.YtleddolmolkpfaaGreatR5H
import Derived.Test.YtleddolmolkpfaaGreatAmBox2
import Derived.Test.YtleddolmolkpfaaGreatAmVal
set_option linter.unusedVariables false
set_option linter.unusedSimpArgs false
namespace Go.Proofs.YtleddolmolkpfaaGreat
open Go.AM
set_option linter.unusedVariables false
set_option linter.unusedSimpArgs false
variable {Γ : Glob}
def inR (n lo hi : Int) : Bool := decide (lo ≤ n) && decide (n ≤ hi)
theorem spec_l1In_T (n lo hi : Int) (h : AH) : T Tryz.prog Γ Fn.spec_l1In [.int .i64 n, .int .i64 lo, .int .i64 hi] h fun v h' => v = .bool (inR n lo hi) ∧ h' = h := by
  refine spec_l1In_e (aw_sound tabOK mixed [] _ _ _ ?_)
  unfold spec_l1In_c
  simp only [EV, EL, EB, EF, q_bx, if_true, if_false, Bool.false_eq_true, Nat.reduceAdd, Option.bind_some, Bool.not_true, Bool.not_false, Nat.reduceBEq, spec_l1In_r]
  refine k_split (fun h1 => ?_) (fun h1 => ?_) <;> simp only [EV, EL, EB, EF, q_bx, if_true, if_false, Bool.false_eq_true, Nat.reduceAdd, Option.bind_some, Bool.not_true, Bool.not_false, Nat.reduceBEq, spec_l1In_r, h1]
  · exact ⟨rfl, by simp only [inR, h1, Bool.true_and]⟩
  · exact ⟨rfl, by simp only [inR, h1, Bool.false_and]⟩
theorem impl_in_T (n lo hi : Int) (h : AH) : T Tryz.prog Γ Fn.impl_in [.int .i64 n, .int .i64 lo, .int .i64 hi] h fun v h' => v = .bool (inR n lo hi) ∧ h' = h := by
  refine impl_in_e (aw_sound tabOK mixed [] _ _ _ ?_)
  unfold impl_in_c
  simp only [EV, EL, EB, EF, q_bx, if_true, if_false, Bool.false_eq_true, Nat.reduceAdd, Option.bind_some, Bool.not_true, Bool.not_false, Nat.reduceBEq, impl_in_r]
  refine k_split (fun h1 => ?_) (fun h1 => ?_) <;> simp only [EV, EL, EB, EF, q_bx, if_true, if_false, Bool.false_eq_true, Nat.reduceAdd, Option.bind_some, Bool.not_true, Bool.not_false, Nat.reduceBEq, impl_in_r, h1]
  · exact ⟨rfl, by simp only [inR, h1, Bool.true_and]⟩
  · exact ⟨rfl, by simp only [inR, h1, Bool.false_and]⟩
def exportF (l : List DExport) (pos : Int) : Int := match l.find? (fun x => x.pos == pos) with | some x => x.entity | none => -1
def upF (l : List DLink) (peer : Int) : Bool := l.any fun x => x.peer == peer && x.up
end Go.Proofs.YtleddolmolkpfaaGreat

