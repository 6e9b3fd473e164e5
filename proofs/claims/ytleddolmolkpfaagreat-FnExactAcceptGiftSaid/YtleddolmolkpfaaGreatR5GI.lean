import Derived.Test.YtleddolmolkpfaaGreatR5LK
import Derived.Test.YtleddolmolkpfaaGreatAmMore2
set_option linter.unusedVariables false
set_option linter.unusedSimpArgs false
namespace Go.Proofs.YtleddolmolkpfaaGreat
open Go.AM
set_option linter.unusedVariables false
set_option linter.unusedSimpArgs false
variable {Γ : Glob}
theorem clone_Gift (β : Bool) (l : List DGift) (hl : l.length ≤ 1048577) (h : AH) : T Tryz.prog Γ Fn.slices_Clone_iimpl_Gift_impl_Gift [.vs β 4 false (l.map (DGift.c β))] h (Fresh h [.c (.sl 4 (l.map DGift.cd))]) :=
  clone_D tabOK mixed (fun hw => slices_Clone_iimpl_Gift_impl_Gift_e hw) (by omega) (by simp only [maxMade]; omega) (fun x => ⟨rfl, rfl⟩) (fun x => (DGift.c_eq false x).symm)
theorem spec_l31Copy_T (β : Bool) (l : List DGift) (hl : l.length ≤ 1048577) (h : AH) : T Tryz.prog Γ Fn.spec_l31Copy [.vs β 4 false (l.map (DGift.c β))] h (Fresh h [.c (.sl 4 (l.map DGift.cd))]) := by
  refine T.freshC ?_
  refine spec_l31Copy_e (aw_sound tabOK mixed [] _ _ _ ?_)
  unfold spec_l31Copy_c
  obtain ⟨w, H1, fw, eb, ow, nw, hfw, hlw, hmw⟩ := app_vs (bytes := 32) (bsl0_own h 4) (by simp) (by omega) (β := β) (l := l) (c := DGift.c β) (fun x => ⟨rfl, rfl⟩) (fun x => (DGift.c_eq false x).symm) (by simp only [List.length_nil, maxMade]; omega)
  simp only [EV, EL, EB, EF, q_bx, if_true, if_false, Bool.false_eq_true, Nat.reduceAdd, Option.bind_some, Bool.not_true, Bool.not_false, Nat.reduceBEq, spec_l31Copy_r, EA, eb]
  have ew : HExt h H1 := (HExt.app h [some (0, [])]).upd hlw hfw (by simp)
  obtain ⟨N, rfl⟩ := ew.out
  refine ⟨ow.outOK, N, fw, rfl, ow, nw, fun c hc => ?_⟩
  rcases hmw c hc with g | g
  · simp at g; omega
  · simp at g; omega

end Go.Proofs.YtleddolmolkpfaaGreat

