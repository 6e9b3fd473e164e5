import Derived.Test.YteaebikmfmggbaaDoorAmMore1
set_option linter.unusedVariables false
set_option linter.unusedSimpArgs false
namespace Go.AM
end Go.AM
namespace Go.AM
theorem OwnL.pick {H : AH} {a : AV} {d : CD} : ∀ {A B : List AV} {D E : List CD} {fp : List Nat}, A.length = D.length → OwnL H (A ++ a :: B) (D ++ d :: E) fp → fp.Nodup →
    ∃ gi, Own H a d gi ∧ gi.Nodup ∧ (∀ c ∈ gi, c ∈ fp) ∧ ∀ (H2 : AH) (d' : CD), (∀ c, c ∉ gi → H2[c]? = H[c]?) → Own H2 a d' gi → OwnL H2 (A ++ a :: B) (D ++ d' :: E) fp
  | [], B, [], E, fp, _, ⟨f1, f2, e, o1, o2⟩, nd => by
    subst e
    have hd := List.nodup_append.1 nd
    exact ⟨f1, o1, hd.1, fun c h => by simp [h], fun H2 d' hf o => ⟨f1, f2, rfl, o, o2.frame fun c hc => hf c (fun h => hd.2.2 c h c hc rfl)⟩⟩
  | x :: A, B, y :: D, E, fp, hl, ⟨f1, f2, e, o1, o2⟩, nd => by
    subst e
    have hd := List.nodup_append.1 nd
    obtain ⟨gi, q1, q2, q3, q4⟩ := OwnL.pick (by simpa using hl) o2 hd.2.1
    exact ⟨gi, q1, q2, fun c h => by simp [q3 c h], fun H2 d' hf o => ⟨f1, f2, rfl, o1.frame fun c hc => hf c (fun h => hd.2.2 c hc c (q3 c h) rfl), q4 H2 d' hf o⟩⟩
end Go.AM
