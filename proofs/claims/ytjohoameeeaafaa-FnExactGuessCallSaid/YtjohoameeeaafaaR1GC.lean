import Derived.Test.YtjohoameeeaafaaR1M
set_option linter.unusedVariables false
set_option linter.unusedSimpArgs false
namespace Go.Proofs.Ytjohoameeeaafaa
open Go.AM
set_option linter.unusedVariables false
set_option linter.unusedSimpArgs false
variable {Γ : Glob}
/-! A guessed call. -/
def guessF (frm pos q : Int) (name : ByteArray) : DMessage := ⟨1, pos, 0, q, name, [], ⟨0, 0⟩, 0, ⟨frm, 0, 1⟩⟩
theorem guess_ok (frm pos q : Int) {name : ByteArray} {N : Nat} (h : name.size ≤ N) : (guessF frm pos q name).ok N := ⟨h, by simp [guessF]⟩
theorem impl_GuessCall_T (frm pos q : Int) (name : ByteArray) (h : AH) : T Try.prog Γ Fn.impl_GuessCall [.int .i64 frm, .int .i64 pos, .int .i64 q, .str name] h (Fresh h [.a (guessF frm pos q name).cd]) := by
  refine T.freshA ?_
  refine impl_GuessCall_e (aw_sound tabOK mixed [] _ _ _ ?_)
  unfold impl_GuessCall_c
  simp only [EV, EL, EB, EF, q_bx, if_true, if_false, Bool.false_eq_true, Nat.reduceAdd, Option.bind_some, Bool.not_true, Bool.not_false, Nat.reduceBEq, impl_GuessCall_r, EB2, ER]
  refine ⟨rfl, _, [], [], rfl, by simp, ?_, by simp, by simp⟩
  exact .i (.i (.i (.i (.s (.o (f1 := []) (.nil _) (.i (.i (.i (.i (.i (.i .nil)))))))))))
theorem spec_GuessCall_T (frm pos q : Int) (name : ByteArray) (h : AH) : T Try.prog Γ Fn.spec_GuessCall [.int .i64 frm, .int .i64 pos, .int .i64 q, .str name] h (Fresh h [.a (guessF frm pos q name).cd]) := by
  refine T.freshA ?_
  refine spec_GuessCall_e (aw_sound tabOK mixed [] _ _ _ ?_)
  unfold spec_GuessCall_c
  simp only [EV, EL, EB, EF, q_bx, if_true, if_false, Bool.false_eq_true, Nat.reduceAdd, Option.bind_some, Bool.not_true, Bool.not_false, Nat.reduceBEq, spec_GuessCall_r, EB2, ER]
  refine ⟨rfl, _, [], [], rfl, by simp, ?_, by simp, by simp⟩
  exact .i (.i (.i (.i (.s (.o (f1 := []) (.nil _) (.i (.i (.i (.i (.i (.i .nil)))))))))))

end Go.Proofs.Ytjohoameeeaafaa
