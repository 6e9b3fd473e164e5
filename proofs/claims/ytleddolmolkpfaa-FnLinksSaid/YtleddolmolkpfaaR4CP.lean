import Derived.Test.YtleddolmolkpfaaR4H
import Derived.Test.YtleddolmolkpfaaAmBox2
import Derived.Test.YtleddolmolkpfaaAmVal
import Derived.Test.YtleddolmolkpfaaAmLens
set_option linter.unusedVariables false
set_option linter.unusedSimpArgs false
namespace Go.Proofs.Ytleddolmolkpfaa
open Go.AM
set_option linter.unusedVariables false
set_option linter.unusedSimpArgs false
variable {Γ : Glob}
theorem clone_Export (β : Bool) (l : List DExport) (hl : l.length ≤ 1048576) (h : AH) : T Try.prog Γ Fn.slices_Clone_iimpl_Export_impl_Export [.vs β 3 false (l.map (DExport.c β))] h (Fresh h [.c (.sl 3 (l.map DExport.cd))]) :=
  clone_D tabOK mixed (fun hw => slices_Clone_iimpl_Export_impl_Export_e hw) (by omega) (by simp only [maxMade]; omega) (fun x => ⟨rfl, rfl⟩) (fun x => (DExport.c_eq false x).symm)
theorem clone_Question (β : Bool) (l : List DQuestion) (hl : l.length ≤ 1048576) (h : AH) : T Try.prog Γ Fn.slices_Clone_iimpl_Question_impl_Question [.vs β 2 false (l.map (DQuestion.c β))] h (Fresh h [.c (.sl 2 (l.map DQuestion.cd))]) :=
  clone_D tabOK mixed (fun hw => slices_Clone_iimpl_Question_impl_Question_e hw) (by omega) (by simp only [maxMade]; omega) (fun x => ⟨rfl, rfl⟩) (fun x => (DQuestion.c_eq false x).symm)
theorem impl_Link_copied_T (β : Bool) (e : DLink) (he : e.ok 1048576) (h : AH) : T Try.prog Γ Fn.impl_Link_copied [.agg (e.c β)] h (Fresh h [.a e.cd]) := by
  refine T.freshA ?_
  refine impl_Link_copied_e (aw_sound tabOK mixed [] _ _ _ ?_)
  unfold impl_Link_copied_c
  simp only [EV, EL, EB, EF, q_bx, if_true, if_false, Bool.false_eq_true, Nat.reduceAdd, Option.bind_some, Bool.not_true, Bool.not_false, Nat.reduceBEq, impl_Link_copied_r, impl_Link_copied_d0_q, EB2, ER, DLink.c]
  refine TCall.ref (by simp only [EO]) (clone_Export β e.exports he.1 _) ?_
  rintro w1 H1 fr
  replace fr : Fresh h _ _ _ := fr
  obtain ⟨f1, o1, n1, b1, e1⟩ := fr.c1
  obtain ⟨a1a, a1b, a1c, a1d⟩ := o1.cell
  simp only [EV, EL, EB, EF, q_bx, if_true, if_false, Bool.false_eq_true, Nat.reduceAdd, Option.bind_some, Bool.not_true, Bool.not_false, Nat.reduceBEq, impl_Link_copied_r, impl_Link_copied_d0_q, EB2, ER, DLink.c, a1a, a1b, a1c]
  refine ⟨(by first | exact e1.mem _ _ _ | exact mem_keep (e1.mem _ _ _)), ?_⟩
  refine TCall.ref (by simp only [EO]) (clone_Question β e.questions he.2.1 _) ?_
  rintro w2 H2 fr
  replace fr : Fresh H1 _ _ _ := fr
  obtain ⟨f2, o2, n2, b2, e2⟩ := fr.c1
  obtain ⟨a2a, a2b, a2c, a2d⟩ := o2.cell
  simp only [EV, EL, EB, EF, q_bx, if_true, if_false, Bool.false_eq_true, Nat.reduceAdd, Option.bind_some, Bool.not_true, Bool.not_false, Nat.reduceBEq, impl_Link_copied_r, impl_Link_copied_d0_q, EB2, ER, DLink.c, a1a, a1b, a1c, a2a, a2b, a2c]
  refine ⟨(by first | exact e2.mem _ _ _ | exact mem_keep (e2.mem _ _ _)), ?_⟩
  refine TCall.ref (by simp only [EO]) (clone_Question β e.answers he.2.2 _) ?_
  rintro w3 H3 fr
  replace fr : Fresh H2 _ _ _ := fr
  obtain ⟨f3, o3, n3, b3, e3⟩ := fr.c1
  obtain ⟨a3a, a3b, a3c, a3d⟩ := o3.cell
  simp only [EV, EL, EB, EF, q_bx, if_true, if_false, Bool.false_eq_true, Nat.reduceAdd, Option.bind_some, Bool.not_true, Bool.not_false, Nat.reduceBEq, impl_Link_copied_r, impl_Link_copied_d0_q, EB2, ER, DLink.c, a1a, a1b, a1c, a2a, a2b, a2c, a3a, a3b, a3c]
  have n12 : (f1 ++ f2).Nodup := nodup_app n1 n2 (fun c hc => o1.lt c hc) b2
  have q1 := (o1.ext e2).ext e3
  have q2 := o2.ext e3
  have hl1 := e1.len
  have hl2 := e2.len
  have n123 : ((f1 ++ f2) ++ f3).Nodup := nodup_app n12 n3 (fun c hc => by
    rcases List.mem_append.1 hc with g | g
    · have := o1.lt c g; omega
    · exact o2.lt c g) b3
  obtain ⟨N, hN⟩ := ((e1.trans e2).trans e3).out
  refine ⟨by simp [outOK, out1, a1b, a1c, a1d, a2b, a2c, a2d, a3b, a3c, a3d, nn_i', nn_s', nn_b'], _, N, f1 ++ (f2 ++ (f3 ++ [])), rfl, hN, ?_, by rw [List.append_nil, ← List.append_assoc]; exact n123, fun c hc => ?_⟩
  · exact .i (.b (.o q1 (.i (.o q2 (.i (.o o3 .nil))))))
  · simp only [List.append_nil, List.mem_append] at hc
    rcases hc with g | g | g
    · exact b1 c g
    · have := b2 c g; omega
    · have := b3 c g; omega
theorem spec_l10Copy_T (β : Bool) (e : DLink) (he : e.ok 1048576) (h : AH) : T Try.prog Γ Fn.spec_l10Copy [.agg (e.c β)] h (Fresh h [.a e.cd]) := by
  refine T.freshA ?_
  refine spec_l10Copy_e (aw_sound tabOK mixed [] _ _ _ ?_)
  unfold spec_l10Copy_c
  obtain ⟨w1, H1, f1, ea1, o1, n1, hf1, hl1, hm1⟩ := app_vs (bytes := 24) (bsl0_own h 3) (by simp) (by omega) (β := β) (l := e.exports) (c := DExport.c β) (fun x => ⟨rfl, rfl⟩) (fun x => (DExport.c_eq false x).symm) (by have := he.1; simp only [List.length_nil, maxMade]; omega)
  have e1 : HExt h H1 := (HExt.app h [some (0, [])]).upd hl1 hf1 (by simp)
  have b1 : ∀ c ∈ f1, h.length ≤ c := fun c hc => by
    rcases hm1 c hc with g | g
    · simp at g; omega
    · simp at g; omega
  obtain ⟨a1a, a1b, a1c, a1d⟩ := o1.cell
  obtain ⟨w2, H2, f2, ea2, o2, n2, hf2, hl2, hm2⟩ := app_vs (bytes := 16) (bsl0_own H1 2) (by simp) (by omega) (β := β) (l := e.questions) (c := DQuestion.c β) (fun x => ⟨rfl, rfl⟩) (fun x => (DQuestion.c_eq false x).symm) (by have := he.2.1; simp only [List.length_nil, maxMade]; omega)
  have e2 : HExt H1 H2 := (HExt.app H1 [some (0, [])]).upd hl2 hf2 (by simp)
  have b2 : ∀ c ∈ f2, H1.length ≤ c := fun c hc => by
    rcases hm2 c hc with g | g
    · simp at g; omega
    · simp at g; omega
  obtain ⟨a2a, a2b, a2c, a2d⟩ := o2.cell
  obtain ⟨w3, H3, f3, ea3, o3, n3, hf3, hl3, hm3⟩ := app_vs (bytes := 16) (bsl0_own H2 2) (by simp) (by omega) (β := β) (l := e.answers) (c := DQuestion.c β) (fun x => ⟨rfl, rfl⟩) (fun x => (DQuestion.c_eq false x).symm) (by have := he.2.2; simp only [List.length_nil, maxMade]; omega)
  have e3 : HExt H2 H3 := (HExt.app H2 [some (0, [])]).upd hl3 hf3 (by simp)
  have b3 : ∀ c ∈ f3, H2.length ≤ c := fun c hc => by
    rcases hm3 c hc with g | g
    · simp at g; omega
    · simp at g; omega
  obtain ⟨a3a, a3b, a3c, a3d⟩ := o3.cell
  simp only [EV, EL, EB, EF, q_bx, if_true, if_false, Bool.false_eq_true, Nat.reduceAdd, Option.bind_some, Bool.not_true, Bool.not_false, Nat.reduceBEq, spec_l10Copy_r, EB2, ER, DLink.c, EA, ea1, a1a, a1b, a1c, ea2, a2a, a2b, a2c, ea3, a3a, a3b, a3c]
  have n12 : (f1 ++ f2).Nodup := nodup_app n1 n2 (fun c hc => o1.lt c hc) b2
  have q1 := (o1.ext e2).ext e3
  have q2 := o2.ext e3
  have l1' := e1.len
  have l2' := e2.len
  have n123 : ((f1 ++ f2) ++ f3).Nodup := nodup_app n12 n3 (fun c hc => by
    rcases List.mem_append.1 hc with g | g
    · have := o1.lt c g; omega
    · exact o2.lt c g) b3
  obtain ⟨N, hN⟩ := ((e1.trans e2).trans e3).out
  refine ⟨by simp [outOK, out1, a1b, a1c, a1d, a2b, a2c, a2d, a3b, a3c, a3d, nn_i', nn_s', nn_b'], _, N, f1 ++ (f2 ++ (f3 ++ [])), rfl, hN, ?_, by rw [List.append_nil, ← List.append_assoc]; exact n123, fun c hc => ?_⟩
  · exact .i (.b (.o q1 (.i (.o q2 (.i (.o o3 .nil))))))
  · simp only [List.append_nil, List.mem_append] at hc
    rcases hc with g | g | g
    · exact b1 c g
    · have := b2 c g; omega
    · have := b3 c g; omega

end Go.Proofs.Ytleddolmolkpfaa

