import Derived.Test.YtleddolmolkpfaaGreatAmMore2
set_option linter.unusedVariables false
set_option linter.unusedSimpArgs false
namespace Go.AM
section
variable {P : Program} {Θ : Tab} {Γ : Glob}
theorem resOf_3 (a b c : AV) : resOf [a, b, c] = .tup [a, b, c] := rfl
theorem flat_un {H : AH} {a : AV} {d : CD} {fp : List Nat} (hd : d.flat = true) (o : Own H a d fp) : a = d.av true ∧ fp = [] := by
  cases d with
  | i => obtain ⟨rfl, rfl⟩ := own_i.1 o; simp [CD.av_i]
  | b => obtain ⟨rfl, rfl⟩ := own_b.1 o; simp [CD.av_b]
  | s => obtain ⟨rfl, rfl⟩ := own_s.1 o; simp [CD.av_s]
  | sl => cases hd
theorem T.freshC3 {f : FuncId} {args : List AV} {h : AH} {d d' d'' : CD} (hd : d'.flat = true) (hd2 : d''.flat = true) (t : T P Γ f args h fun v h' => ∃ a new fp, v = .tup [a, d'.av true, d''.av true] ∧ h' = h ++ new ∧ Own h' a d fp ∧ fp.Nodup ∧ ∀ b ∈ fp, h.length ≤ b) : T P Γ f args h (Fresh h [.c d, .c d', .c d'']) :=
  t.fresh fun v h' ⟨a, new, fp, e1, e2, o, nd, hb⟩ => ⟨[a, d'.av true, d''.av true], new, fp, e1, e2, ⟨fp, [], by simp, o, ⟨[], [], rfl, CD.flat_own hd true, ⟨[], [], rfl, CD.flat_own hd2 true, rfl⟩⟩⟩, nd, hb⟩
theorem T.freshAC {f : FuncId} {args : List AV} {h : AH} {cs : List CD} {d d' : CD} (hd : d'.flat = true) (t : T P Γ f args h fun v h' => ∃ aa a new f1 f2, v = .tup [.agg aa, a, d'.av true] ∧ h' = h ++ new ∧ OwnL h' aa cs f1 ∧ Own h' a d f2 ∧ (f1 ++ f2).Nodup ∧ ∀ b ∈ f1 ++ f2, h.length ≤ b) : T P Γ f args h (Fresh h [.a cs, .c d, .c d']) :=
  t.fresh fun v h' ⟨aa, a, new, f1, f2, e1, e2, o1, o2, nd, hb⟩ => ⟨[.agg aa, a, d'.av true], new, f1 ++ f2, e1, e2, ⟨f1, f2, rfl, ⟨aa, rfl, o1⟩, ⟨f2, [], by simp, o2, ⟨[], [], rfl, CD.flat_own hd true, rfl⟩⟩⟩, nd, hb⟩
theorem Fresh.c3 {h H : AH} {d d' d'' : CD} (hd : d'.flat = true) (hd2 : d''.flat = true) {v : AV} (f : Fresh h [.c d, .c d', .c d''] v H) : ∃ a fp, v = .tup [a, d'.av true, d''.av true] ∧ Own H a d fp ∧ fp.Nodup ∧ (∀ b ∈ fp, h.length ≤ b) ∧ HExt h H := by
  obtain ⟨vs, new, fp, rfl, rfl, o, nd, hb, _⟩ := f
  match vs, o with
  | [a, a', a''], ⟨f1, f2, e, o1, f3, f4, e', o2, f5, f6, e'', o3, e3⟩ =>
    obtain ⟨rfl, rfl⟩ := flat_un hd o2
    obtain ⟨rfl, rfl⟩ := flat_un hd2 o3
    have e3 : f6 = [] := e3
    subst e3
    simp at e''; subst e''
    simp at e'; subst e'
    simp at e; subst e
    exact ⟨a, fp, rfl, o1, nd, hb, HExt.app h new⟩
theorem Fresh.ac {h H : AH} {cs : List CD} {d d' : CD} (hd : d'.flat = true) {v : AV} (f : Fresh h [.a cs, .c d, .c d'] v H) : ∃ aa a f1 f2, v = .tup [.agg aa, a, d'.av true] ∧ OwnL H aa cs f1 ∧ Own H a d f2 ∧ (f1 ++ f2).Nodup ∧ (∀ b ∈ f1 ++ f2, h.length ≤ b) ∧ HExt h H := by
  obtain ⟨vs, new, fp, rfl, rfl, o, nd, hb, _⟩ := f
  match vs, o with
  | [a, a', a''], ⟨f1, f2, e, o1, f3, f4, e', o2, f5, f6, e'', o3, e3⟩ =>
    obtain ⟨aa, rfl, o1⟩ := o1
    obtain ⟨rfl, rfl⟩ := flat_un hd o3
    have e3 : f6 = [] := e3
    subst e3
    simp at e''; subst e''
    simp at e'; subst e'
    subst e
    exact ⟨aa, a', f1, f2, rfl, o1, o2, nd, hb, HExt.app h new⟩
end
end Go.AM

