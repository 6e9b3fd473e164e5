import Derived.Test.YtleddolmolkpfaaGreatAmApp2
set_option linter.unusedVariables false
set_option linter.unusedSimpArgs false
namespace Go.AM
variable {P : Program} {Γ : Glob}
theorem T.freshC2 {f : FuncId} {args : List AV} {h : AH} {d d' : CD} (hd : d'.flat = true) (t : T P Γ f args h fun v h' => ∃ a new fp, v = .tup [a, d'.av true] ∧ h' = h ++ new ∧ Own h' a d fp ∧ fp.Nodup ∧ ∀ b ∈ fp, h.length ≤ b) : T P Γ f args h (Fresh h [.c d, .c d']) :=
  t.fresh fun v h' ⟨a, new, fp, e1, e2, o, nd, hb⟩ => ⟨[a, d'.av true], new, fp, e1, e2, ⟨fp, [], by simp, o, ⟨[], [], rfl, CD.flat_own hd true, rfl⟩⟩, nd, hb⟩
theorem T.freshA2 {f : FuncId} {args : List AV} {h : AH} {cs : List CD} {d' : CD} (hd : d'.flat = true) (t : T P Γ f args h fun v h' => ∃ aa new fp, v = .tup [.agg aa, d'.av true] ∧ h' = h ++ new ∧ OwnL h' aa cs fp ∧ fp.Nodup ∧ ∀ b ∈ fp, h.length ≤ b) : T P Γ f args h (Fresh h [.a cs, .c d']) :=
  t.fresh fun v h' ⟨a, new, fp, e1, e2, o, nd, hb⟩ => ⟨[.agg a, d'.av true], new, fp, e1, e2, ⟨fp, [], by simp, ⟨a, rfl, o⟩, ⟨[], [], rfl, CD.flat_own hd true, rfl⟩⟩, nd, hb⟩
theorem HExt.mem {h H : AH} (e : HExt h H) (a b : List AV) (l : List (List AV)) : Mem ⟨a, l, h⟩ ⟨b, l, H⟩ :=
  ⟨fun _ _ hx => hx, fun c x hx => by
    have h1 := hget_spec hx
    exact hget_of (by show H[c]? = _; rw [e.fr c (getElem?_lt h1)]; exact h1)⟩
end Go.AM
