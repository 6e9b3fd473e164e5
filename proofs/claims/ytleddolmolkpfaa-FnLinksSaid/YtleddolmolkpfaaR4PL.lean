import Derived.Test.YtleddolmolkpfaaR4LS
set_option linter.unusedVariables false
set_option linter.unusedSimpArgs false
namespace Go.Proofs.Ytleddolmolkpfaa
open Go.AM
set_option linter.unusedVariables false
set_option linter.unusedSimpArgs false
variable {Γ : Glob}
structure LInv (n : Nat) (l : DLink) : Prop where
  nx : 0 ≤ l.next ∧ l.next ≤ n
  ak : 0 ≤ l.asked ∧ l.asked ≤ n
  ex : ∀ x ∈ l.exports, 1 ≤ x.pos ∧ x.pos ≤ l.next ∧ 1 ≤ x.count ∧ x.count ≤ n
  nd : l.exports.Pairwise fun x y => x.pos ≠ y.pos
  qs : ∀ q ∈ l.questions, 1 ≤ q.id ∧ q.id ≤ l.asked
  le : l.exports.length ≤ n
  lq : l.questions.length ≤ n
  la : l.answers.length ≤ n
theorem LInv.mono {n m : Nat} {l : DLink} (h : LInv n l) (hm : n ≤ m) : LInv m l :=
  ⟨⟨h.nx.1, by have := h.nx.2; omega⟩, ⟨h.ak.1, by have := h.ak.2; omega⟩, fun x hx => by have := h.ex x hx; omega, h.nd, h.qs, by have := h.le; omega, by have := h.lq; omega, by have := h.la; omega⟩
theorem LInv.ok {n : Nat} {l : DLink} (h : LInv n l) (hn : n ≤ 1048576) : l.ok 1048576 := ⟨by have := h.le; omega, by have := h.lq; omega, by have := h.la; omega⟩
theorem wsm {z : Int} (h0 : -1000000000 ≤ z) (h1 : z ≤ 1000000000) : IntKind.i64.wrap z = z := wrap_nat (by omega) (by omega)
theorem pos_uniq {l : List DExport} (nd : l.Pairwise fun x y => x.pos ≠ y.pos) {k : Nat} (hk : k < l.length) : (∀ (i : Nat) (hi : i < l.length), i < k → (l[i].pos == l[k].pos) = false) := fun i hi hik => by
  have := List.pairwise_iff_getElem.1 nd i k hi hk hik
  simpa using this
theorem nd_set {l : List DExport} (nd : l.Pairwise fun x y => x.pos ≠ y.pos) {k : Nat} (hk : k < l.length) {y : DExport} (hy : y.pos = l[k].pos) : (l.set k y).Pairwise fun x y => x.pos ≠ y.pos := by
  rw [List.pairwise_iff_getElem] at nd ⊢
  intro i j hi hj hij
  have hi' : i < l.length := by simpa using hi
  have hj' : j < l.length := by simpa using hj
  rw [List.getElem_set, List.getElem_set]
  split
  · rename_i e; subst e
    split
    · omega
    · rw [hy]; exact nd k j hi' hj' hij
  · split
    · rename_i e; subst e; rw [hy]; exact nd i k hi' hj' hij
    · exact nd i j hi' hj' hij
theorem LInv.put {n : Nat} {l : DLink} (h : LInv n l) (hn : n ≤ 1000) (e : Int) : LInv (n + 1) (putE l e).1 := by
  obtain ⟨nx, ak, ex, nd, qs, le, lq, la⟩ := h
  rcases idxI_cases (fun x : DExport => x.entity == e) l.exports with ⟨k, hk, e1, e2, e3⟩ | ⟨e1, e2, e3⟩
  · rw [putE_at hk e1]
    have hx := ex _ (List.getElem_mem hk)
    have w : IntKind.i64.wrap (l.exports[k].count + 1) = l.exports[k].count + 1 := wsm (by omega) (by omega)
    rw [w]
    refine ⟨⟨nx.1, by simp only; omega⟩, ⟨ak.1, by simp only; omega⟩, fun x hx' => ?_, nd_set nd hk rfl, qs, by simp only [List.length_set]; omega, by simp only; omega, by simp only; omega⟩
    rcases List.mem_or_eq_of_mem_set hx' with g | g
    · have := ex x g; simp only; omega
    · subst g; simp only; omega
  · rw [putE_new e1]
    have w : IntKind.i64.wrap (l.next + 1) = l.next + 1 := wsm (by omega) (by omega)
    rw [w]
    refine ⟨⟨by simp only; omega, by simp only; omega⟩, ⟨ak.1, by simp only; omega⟩, fun x hx' => ?_, ?_, qs, by simp only [List.length_append, List.length_cons, List.length_nil]; omega, by simp only; omega, by simp only; omega⟩
    · simp only [List.mem_append, List.mem_singleton] at hx'
      rcases hx' with g | g
      · have := ex x g; simp only; omega
      · subst g; simp only; omega
    · simp only
      rw [List.pairwise_append]
      refine ⟨nd, by simp, fun x hx y hy => ?_⟩
      simp only [List.mem_singleton] at hy; subst hy
      have := ex x hx; simp only; omega
theorem LInv.ask {n : Nat} {l : DLink} (h : LInv n l) (hn : n ≤ 1000) (e : Int) : LInv (n + 1) (askE l e).1 := by
  obtain ⟨nx, ak, ex, nd, qs, le, lq, la⟩ := h
  have w : IntKind.i64.wrap (l.asked + 1) = l.asked + 1 := wsm (by omega) (by omega)
  unfold askE
  rw [w]
  refine ⟨⟨nx.1, by simp only; omega⟩, ⟨by simp only; omega, by simp only; omega⟩, fun x hx' => by have := ex x hx'; simp only; omega, nd, fun q hq => ?_, by simp only; omega, by simp only [List.length_append, List.length_cons, List.length_nil]; omega, by simp only; omega⟩
  simp only [List.mem_append, List.mem_singleton] at hq
  rcases hq with g | g
  · have := qs q g; simp only; omega
  · subst g; simp only; omega
theorem LInv.rel {n : Nat} {l : DLink} (h : LInv n l) (hn : n ≤ 1000) (pos c : Int) (hc : c ≤ 1000) : LInv n (relE l pos c) := by
  have h0 := h
  obtain ⟨nx, ak, ex, nd, qs, le, lq, la⟩ := h
  by_cases hc1 : c < 1
  · rw [rel_small hc1]; exact h0
  rcases idxI_cases (fun x : DExport => x.pos == pos) l.exports with ⟨k, hk, e1, e2, e3⟩ | ⟨e1, e2, e3⟩
  · rw [rel_at hc1 hk e1]
    have hx := ex _ (List.getElem_mem hk)
    have w : IntKind.i64.wrap (l.exports[k].count - c) = l.exports[k].count - c := wsm (by omega) (by omega)
    rw [w]
    split
    · refine ⟨nx, ak, fun x hx' => ex x (List.mem_of_mem_eraseIdx hx'), nd.sublist (List.eraseIdx_sublist _ _), qs, ?_, lq, la⟩
      have := List.length_eraseIdx_le l.exports k
      simp only; omega
    · refine ⟨nx, ak, fun x hx' => ?_, nd_set nd hk rfl, qs, by simpa using le, lq, la⟩
      rcases List.mem_or_eq_of_mem_set hx' with g | g
      · exact ex x g
      · subst g; simp only; omega
  · rw [rel_none e1]; exact h0
theorem LInv.ans {n : Nat} {l : DLink} (h : LInv n l) (q : DQuestion) : LInv (n + 1) { l with answers := l.answers ++ [q] } := by
  obtain ⟨nx, ak, ex, nd, qs, le, lq, la⟩ := h
  exact ⟨⟨nx.1, by simp only; omega⟩, ⟨ak.1, by simp only; omega⟩, fun x hx' => by have := ex x hx'; simp only; omega, nd, qs, by simp only; omega, by simp only; omega, by simp only [List.length_append, List.length_cons, List.length_nil]; omega⟩
theorem LInv.zero (p : Int) : LInv 0 ⟨p, true, [], 0, [], 0, []⟩ := ⟨by simp, by simp, by simp, by simp, by simp, by simp, by simp, by simp⟩
theorem put_K {n : Nat} {l : DLink} (h : LInv n l) (hn : n ≤ 1000) (e : Int) : ∃ (k : Nat) (hk : k < (putE l e).1.exports.length), idxI (fun x : DExport => x.entity == e) (putE l e).1.exports = (k : Int) ∧ (putE l e).1.exports[k].pos = (putE l e).2 ∧ (putE l e).1.exports[k].entity = e ∧ (posF l e = 0 → (putE l e).1.exports[k].count = 1) := by
  rcases idxI_cases (fun x : DExport => x.entity == e) l.exports with ⟨k, hk, e1, e2, e3⟩ | ⟨e1, e2, e3⟩
  · have pe := putE_at hk e1
    have hk2 : k < (putE l e).1.exports.length := by rw [pe]; simpa using hk
    have hx : (putE l e).1.exports[k] = { l.exports[k] with count := IntKind.i64.wrap (l.exports[k].count + 1) } := by simp [pe]
    refine ⟨k, hk2, ?_, by rw [hx, pe], by rw [hx]; simpa using e2, fun hp => ?_⟩
    · refine idxI_at hk2 (fun i hi hik => ?_) (by rw [hx]; exact e2)
      have hi' : i < l.exports.length := by omega
      have : (putE l e).1.exports[i] = l.exports[i] := by
        simp only [pe]; rw [List.getElem_set_ne (by omega)]
      rw [this]; exact idxI_firstG e1 i hi' hik
    · exfalso
      have : posF l e = l.exports[k].pos := by simp only [posF, e3]
      have := (h.ex _ (List.getElem_mem hk)).1
      omega
  · have pe := putE_new e1
    have hk2 : l.exports.length < (putE l e).1.exports.length := by rw [pe]; simp
    have hx : (putE l e).1.exports[l.exports.length] = ⟨IntKind.i64.wrap (l.next + 1), e, 1⟩ := by simp [pe]
    refine ⟨l.exports.length, hk2, ?_, by rw [hx, pe], by rw [hx], fun _ => by rw [hx]⟩
    refine idxI_at hk2 (fun i hi hik => ?_) (by rw [hx]; simp)
    have : (putE l e).1.exports[i] = l.exports[i] := by
      simp only [pe]; rw [List.getElem_append_left hik]
    rw [this]; exact e3 _ (List.getElem_mem _)
theorem export_K {n : Nat} {x : DLink} (h : LInv n x) {k : Nat} (hk : k < x.exports.length) : exportF x.exports x.exports[k].pos = x.exports[k].entity := by
  simp only [exportF, find_at (p := fun y : DExport => y.pos == x.exports[k].pos) hk (pos_uniq h.nd hk) (by simp)]
theorem pos_K {x : DLink} {e : Int} {k : Nat} (hk : k < x.exports.length) (h1 : idxI (fun y : DExport => y.entity == e) x.exports = (k : Int)) (h2 : x.exports[k].entity = e) : posF x e = x.exports[k].pos := by
  simp only [posF, find_at (p := fun y : DExport => y.entity == e) hk (fun i hi hik => idxI_firstG h1 i hi hik) (by simp [h2])]
theorem rel_put {n : Nat} {x : DLink} (h : LInv n x) (hn : n ≤ 1000) {e : Int} {k : Nat} (hk : k < x.exports.length) (h1 : idxI (fun y : DExport => y.entity == e) x.exports = (k : Int)) : (putE x e).2 = x.exports[k].pos ∧ relE (putE x e).1 x.exports[k].pos 1 = x := by
  have pe := putE_at hk h1
  have hc := h.ex _ (List.getElem_mem hk)
  refine ⟨by rw [pe], ?_⟩
  have hk2 : k < (putE x e).1.exports.length := by rw [pe]; simpa using hk
  have hx : (putE x e).1.exports[k] = { x.exports[k] with count := IntKind.i64.wrap (x.exports[k].count + 1) } := by simp [pe]
  have hp : (putE x e).1.exports[k].pos = x.exports[k].pos := by rw [hx]
  have i1 : idxI (fun y : DExport => y.pos == x.exports[k].pos) (putE x e).1.exports = (k : Int) := by
    rw [← hp]
    exact idxI_at hk2 (pos_uniq (h.put hn e).nd hk2) (by simp)
  rw [rel_at (by omega) hk2 i1, hx]
  have w1 : IntKind.i64.wrap (x.exports[k].count + 1) = x.exports[k].count + 1 := wsm (by omega) (by omega)
  simp only [w1]
  have w2 : IntKind.i64.wrap (x.exports[k].count + 1 - 1) = x.exports[k].count := by rw [wsm (by omega) (by omega)]; omega
  rw [w2, if_neg (by omega), pe]
  simp only [List.set_set]
  have : ({ pos := x.exports[k].pos, entity := x.exports[k].entity, count := x.exports[k].count } : DExport) = x.exports[k] := rfl
  rw [this, List.set_getElem_self]
theorem rel_one {n : Nat} {x : DLink} (h : LInv n x) (hn : n ≤ 1000) {k : Nat} (hk : k < x.exports.length) (h1 : x.exports[k].count = 1) : exportF (relE x x.exports[k].pos 1).exports x.exports[k].pos = -1 := by
  have i1 : idxI (fun y : DExport => y.pos == x.exports[k].pos) x.exports = (k : Int) := idxI_at hk (pos_uniq h.nd hk) (by simp)
  rw [rel_at (by omega) hk i1, h1]
  have w2 : IntKind.i64.wrap ((1 : Int) - 1) = 0 := by rw [wsm (by omega) (by omega)]; rfl
  rw [w2, if_pos (by omega)]
  have hn' : (x.exports.eraseIdx k).find? (fun y => y.pos == x.exports[k].pos) = none := by
    rw [List.find?_eq_none]
    intro y hy
    rw [List.eraseIdx_eq_take_drop_succ, List.mem_append] at hy
    have nd := List.pairwise_iff_getElem.1 h.nd
    rcases hy with g | g
    · obtain ⟨i, hi, rfl⟩ := List.mem_take_iff_getElem.1 g
      have := nd i k (by omega) hk (by omega)
      simpa using this
    · obtain ⟨i, hi, rfl⟩ := List.mem_iff_getElem.1 g
      rw [List.length_drop] at hi
      rw [List.getElem_drop]
      have := nd k (k + 1 + i) hk (by omega) (by omega)
      simpa using Ne.symm this
  simp only [exportF, hn']
theorem ask_q {n : Nat} {l : DLink} (h : LInv n l) (hn : n ≤ 1000) (e : Int) : findQ (askE l e).1.questions (askE l e).2 = e ∧ dropQ (askE l e).1.questions (askE l e).2 = l.questions ∧ findQ l.questions (askE l e).2 = -1 ∧ (askE l e).2 = IntKind.i64.wrap (l.asked + 1) := by
  have hak := h.ak
  have w : IntKind.i64.wrap (l.asked + 1) = l.asked + 1 := wsm (by omega) (by omega)
  have hno : ∀ q ∈ l.questions, (q.id == l.asked + 1) = false := fun q hq => by have := h.qs q hq; simpa using (by omega : q.id ≠ l.asked + 1)
  have hf : l.questions.find? (fun q => q.id == l.asked + 1) = none := List.find?_eq_none.2 fun q hq => by simp [hno q hq]
  simp only [askE, w]
  refine ⟨?_, ?_, ?_, trivial⟩
  · simp only [findQ, List.find?_append, hf]; simp
  · simp only [dropQ, List.filter_append]
    rw [filter_all fun q hq => by simp [delQ, hno q hq]]
    simp [delQ]
  · simp only [findQ, hf]

end Go.Proofs.Ytleddolmolkpfaa

