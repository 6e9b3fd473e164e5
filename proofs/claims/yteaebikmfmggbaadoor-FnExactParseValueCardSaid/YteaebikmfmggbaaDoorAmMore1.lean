import Derived.Test.YteaebikmfmggbaaDoorAmBox2
set_option linter.unusedVariables false
set_option linter.unusedSimpArgs false
namespace Go.AM
end Go.AM
namespace Go.AM
section
variable {P : Program} {Θ : Tab} {Γ : Glob}
theorem mm_n (f : RS → Option AV) : List.mapM f [] = some [] := rfl
theorem mm_c (f : RS → Option AV) (x : RS) (xs : List RS) : List.mapM f (x :: xs) = (f x).bind fun y => (List.mapM f xs).map (y :: ·) := by
  rw [List.mapM_cons]; cases f x <;> simp
  cases List.mapM f xs <;> simp
theorem oo_t (vs : List AV) : outOK (.tup vs) = vs.all out1 := rfl
def extrK (s : St) (i : Nat) : AV → AR | .tup vs => .ofO s vs[i]? | _ => .stuck
theorem p_extrK (gl : Bool) (s : St) (x : X) (i : Nat) : step Γ gl s (.extr x i) = extrK s i (s.eval Γ x) := by
  simp only [step, extrK]; cases s.eval Γ x <;> rfl
theorem ex_t0 (s : St) (v : AV) (vs : List AV) : extrK s 0 (.tup (v :: vs)) = .val v s := rfl
theorem ex_t1 (s : St) (a v : AV) (vs : List AV) : extrK s 1 (.tup (a :: v :: vs)) = .val v s := rfl
theorem ex_t2 (s : St) (a b v : AV) (vs : List AV) : extrK s 2 (.tup (a :: b :: v :: vs)) = .val v s := rfl
end
theorem ER : type_of% (And.intro @mm_n (And.intro @mm_c (And.intro @oo_t (And.intro @p_extrK (And.intro @ex_t0 (And.intro @ex_t1 (@ex_t2))))))) := And.intro @mm_n (And.intro @mm_c (And.intro @oo_t (And.intro @p_extrK (And.intro @ex_t0 (And.intro @ex_t1 (@ex_t2))))))
end Go.AM
