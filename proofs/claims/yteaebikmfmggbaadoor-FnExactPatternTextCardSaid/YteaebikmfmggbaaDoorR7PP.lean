import Derived.Test.YteaebikmfmggbaaDoorR7PT
import Derived.Test.YteaebikmfmggbaaDoorCodePatternText
import Derived.Test.YteaebikmfmggbaaDoorAmNum
set_option linter.unusedVariables false
set_option linter.unusedSimpArgs false
namespace Go.Proofs.YteaebikmfmggbaaDoor
open Go.AM
set_option linter.unusedVariables false
set_option linter.unusedSimpArgs false
variable {Γ : Glob}
theorem c10 : Callable Tryd.prog Fn.kaa := ⟨Tryd.f10, bodyOf Tryd.f10, Tryd.func10, by kernel_rfl, by kernel_rfl⟩
theorem kaa_T {m : Int} (hΓ : Γ 0 = some [.opq (.int .i64 m)]) (h : AH) : T Tryd.prog Γ Fn.kaa [] h fun v h' => v = .str ⟨txtL.toArray⟩ ∧ h' = h := by
  refine ⟨c10, fun ρ w cargs r gg ra => ?_⟩
  obtain rfl : cargs = [] := List.length_eq_zero_iff.1 ra.1.symm
  obtain ⟨arr, T, fr, k1, k2, k3⟩ := gg.var r hΓ
  obtain ⟨y, hy, ry⟩ := k3 0 _ rfl
  cases ry
  refine (patternText_calls m w (by rw [Go.AM.cell_of k1]; exact hy)).mono ?_
  rintro e w' ⟨rfl, hb⟩
  exact ⟨_, _, ρ, h, rfl, .str _ _, r.below hb, .below hb, rfl, rfl⟩
set_option maxRecDepth 100000 in
theorem kac_T (h : AH) : T Tryd.prog Γ Fn.kac [] h fun v h' => v = .str ⟨txtL.toArray⟩ ∧ h' = h := by
  refine kac_e (aw_sound tabOK mixed [] _ _ _ ?_)
  unfold kac_c
  simp only [EZ, q_bx, if_true, if_false, Nat.reduceAdd, Option.bind_some, Nat.reduceBEq, kac_r]
  first | exact ⟨rfl, rfl⟩ | exact rfl
theorem law_PatternText {m : Int} (hΓ : Γ 0 = some [.opq (.int .i64 m)]) (h : AH) : T Tryd.prog Γ Fn.kab [] h fun v h' => v = .bool true ∧ h' = h := by
  refine kab_e (aw_sound tabOK mixed [] _ _ _ ?_)
  unfold kab_c
  simp only [EZ, q_bx, if_true, if_false, Nat.reduceAdd, Option.bind_some, Nat.reduceBEq, kab_r]
  refine TCall.val (by simp only [EO]) (kac_T _) ?_
  simp only [EZ, q_bx, if_true, if_false, Nat.reduceAdd, Option.bind_some, Nat.reduceBEq, kab_r]
  refine TCall.val (by simp only [EO]) (kaa_T hΓ _) ?_
  simp only [EZ, q_bx, if_true, if_false, Nat.reduceAdd, Option.bind_some, Nat.reduceBEq, kab_r, str_beq, decide_true]
  first | exact ⟨rfl, rfl⟩ | exact rfl
end Go.Proofs.YteaebikmfmggbaaDoor
