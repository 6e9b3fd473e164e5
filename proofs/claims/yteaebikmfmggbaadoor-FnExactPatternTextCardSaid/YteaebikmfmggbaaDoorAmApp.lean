import Derived.Test.YteaebikmfmggbaaDoorAmMk
set_option linter.unusedVariables false
set_option linter.unusedSimpArgs false
namespace Go.AM
set_option linter.unusedVariables false
set_option linter.unusedSimpArgs false
end Go.AM
namespace Go.AM
theorem Own.outOK {h : AH} {a : AV} {d : CD} {fp : List Nat} (o : Own h a d fp) : Go.AM.outOK a = true := by cases o <;> rfl
end Go.AM
namespace Go.AM
structure HExt (h H : AH) : Prop where
  len : h.length ≤ H.length
  fr : ∀ c, c < h.length → H[c]? = h[c]?
theorem HExt.refl (h : AH) : HExt h h := ⟨Nat.le_refl _, fun _ _ => rfl⟩
theorem HExt.trans {h1 h2 h3 : AH} (a : HExt h1 h2) (b : HExt h2 h3) : HExt h1 h3 := ⟨Nat.le_trans a.len b.len, fun c hc => (b.fr c (Nat.lt_of_lt_of_le hc a.len)).trans (a.fr c hc)⟩
theorem HExt.app (h N : AH) : HExt h (h ++ N) := ⟨by simp, fun c hc => List.getElem?_append_left hc⟩
theorem HExt.out {h H : AH} (e : HExt h H) : ∃ N, H = h ++ N := by
  refine ⟨H.drop h.length, ?_⟩
  have := e.len
  apply List.ext_getElem?
  intro c
  rcases Nat.lt_or_ge c h.length with g | g
  · rw [e.fr c g, List.getElem?_append_left g]
  · rw [List.getElem?_append_right g, List.getElem?_drop, show h.length + (c - h.length) = c by omega]
theorem Own.ext {h H : AH} {a : AV} {d : CD} {fp : List Nat} (o : Own h a d fp) (e : HExt h H) : Own H a d fp := o.frame fun c hc => e.fr c (o.lt c hc)
theorem OwnL.ext {h H : AH} {as : List AV} {ds : List CD} {fp : List Nat} (o : OwnL h as ds fp) (e : HExt h H) : OwnL H as ds fp := o.frame fun c hc => e.fr c (o.lt c hc)
theorem Fresh.c1 {h H : AH} {d : CD} {v : AV} (f : Fresh h [.c d] v H) : ∃ fp, Own H v d fp ∧ fp.Nodup ∧ (∀ b ∈ fp, h.length ≤ b) ∧ HExt h H := by
  obtain ⟨new, fp, rfl, o, nd, hb⟩ := f.one; exact ⟨fp, o, nd, hb, HExt.app h new⟩
theorem Fresh.a1 {h H : AH} {cs : List CD} {v : AV} (f : Fresh h [.a cs] v H) : ∃ as fp, v = .agg as ∧ OwnL H as cs fp ∧ fp.Nodup ∧ (∀ b ∈ fp, h.length ≤ b) ∧ HExt h H := by
  obtain ⟨as, new, fp, e, rfl, o, nd, hb⟩ := f.oneA; exact ⟨as, fp, e, o, nd, hb, HExt.app h new⟩
theorem Fresh.c2 {h H : AH} {d d' : CD} (hd : d'.flat = true) {v : AV} (f : Fresh h [.c d, .c d'] v H) : ∃ a fp, v = .tup [a, d'.av true] ∧ Own H a d fp ∧ fp.Nodup ∧ (∀ b ∈ fp, h.length ≤ b) ∧ HExt h H := by
  obtain ⟨vs, new, fp, rfl, rfl, o, nd, hb, _⟩ := f
  match vs, o with
  | [a, a'], ⟨f1, f2, e, o1, f3, f4, e', o2, e''⟩ =>
    have o2 : Own (h ++ new) a' d' f3 := o2
    have e'' : f4 = [] := e''
    subst e''
    have : a' = d'.av true ∧ f3 = [] := by
      cases d' with
      | i => obtain ⟨rfl, rfl⟩ := own_i.1 o2; simp [CD.av_i]
      | b => obtain ⟨rfl, rfl⟩ := own_b.1 o2; simp [CD.av_b]
      | s => obtain ⟨rfl, rfl⟩ := own_s.1 o2; simp [CD.av_s]
      | sl => cases hd
    obtain ⟨rfl, rfl⟩ := this
    simp at e'; subst e'
    simp at e; subst e
    exact ⟨a, fp, rfl, o1, nd, hb, HExt.app h new⟩
theorem Fresh.a2 {h H : AH} {cs : List CD} {d' : CD} (hd : d'.flat = true) {v : AV} (f : Fresh h [.a cs, .c d'] v H) : ∃ as fp, v = .tup [.agg as, d'.av true] ∧ OwnL H as cs fp ∧ fp.Nodup ∧ (∀ b ∈ fp, h.length ≤ b) ∧ HExt h H := by
  obtain ⟨vs, new, fp, rfl, rfl, o, nd, hb, _⟩ := f
  match vs, o with
  | [a, a'], ⟨f1, f2, e, o1, f3, f4, e', o2, e''⟩ =>
    have o2 : Own (h ++ new) a' d' f3 := o2
    have e'' : f4 = [] := e''
    subst e''
    obtain ⟨as, rfl, o1⟩ := o1
    have : a' = d'.av true ∧ f3 = [] := by
      cases d' with
      | i => obtain ⟨rfl, rfl⟩ := own_i.1 o2; simp [CD.av_i]
      | b => obtain ⟨rfl, rfl⟩ := own_b.1 o2; simp [CD.av_b]
      | s => obtain ⟨rfl, rfl⟩ := own_s.1 o2; simp [CD.av_s]
      | sl => cases hd
    obtain ⟨rfl, rfl⟩ := this
    simp at e'; subst e'
    simp at e; subst e
    exact ⟨as, fp, rfl, o1, nd, hb, HExt.app h new⟩
end Go.AM
