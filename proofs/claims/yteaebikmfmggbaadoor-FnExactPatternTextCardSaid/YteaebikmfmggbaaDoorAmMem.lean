import Derived.Test.YteaebikmfmggbaaDoorAmRel
set_option linter.unusedVariables false
set_option linter.unusedSimpArgs false
namespace Go.AM
theorem getElem?_lt {α : Type} {l : List α} {i : Nat} {x : α} (h : l[i]? = some x) : i < l.length := by
  rcases Nat.lt_or_ge i l.length with h' | h'
  · exact h'
  · simp [List.getElem?_eq_none h'] at h
theorem aget_lt {α : Type} {l : Array α} {i : Nat} {x : α} (h : l[i]? = some x) : i < l.size := by
  rcases Nat.lt_or_ge i l.size with h' | h'
  · exact h'
  · simp [Array.getElem?_eq_none h'] at h
theorem cell_of {w : World} {c o : Nat} {arr T fr} (h : w.heap[c]? = some (Obj.cells arr T fr)) : w.cell? ⟨c, o, none⟩ = arr[o]? := by
  simp [World.cell?, h]
theorem addr_add (c o n : Nat) : (Addr.add ⟨c, o, none⟩ n) = ⟨c, o + n, none⟩ := by
  unfold Addr.add; split <;> simp_all
theorem frozen_of {w : World} {c o : Nat} {arr T fr} (h : w.heap[c]? = some (Obj.cells arr T fr)) (u : unfrozen arr fr) (ho : o < arr.size) : w.frozen? ⟨c, o, none⟩ = false := by
  obtain ⟨lo, hi⟩ := fr
  simp only [World.frozen?, h]
  unfold unfrozen at u
  simp at u ⊢
  omega
def setRange (arr : Array Value) (o : Nat) : List Value → Array Value
  | [] => arr
  | v :: r => setRange (arr.setIfInBounds o v) (o + 1) r
theorem setRange_size (arr : Array Value) (o : Nat) (vs : List Value) : (setRange arr o vs).size = arr.size := by
  induction vs generalizing arr o with
  | nil => rfl
  | cons v r ih => simp [setRange, ih]
theorem setRange_get (vs : List Value) : ∀ (arr : Array Value) (o i : Nat), o + vs.length ≤ arr.size →
    (setRange arr o vs)[i]? = if o ≤ i ∧ i < o + vs.length then vs[i - o]? else arr[i]? := by
  induction vs with
  | nil => intro arr o i h; simp [setRange]; omega
  | cons v r ih =>
    intro arr o i h
    simp only [List.length_cons] at h
    rw [setRange, ih _ _ _ (by simp; omega)]
    by_cases h1 : o = i
    · subst h1
      rw [if_neg (by omega), if_pos (by simp), Nat.sub_self, Array.getElem?_setIfInBounds_self_of_lt (by omega)]
      rfl
    · by_cases h2 : o + 1 ≤ i ∧ i < o + 1 + r.length
      · rw [if_pos h2, if_pos (by simp; omega)]
        obtain ⟨d, rfl⟩ : ∃ d, i = o + 1 + d := ⟨i - o - 1, by omega⟩
        rw [show o + 1 + d - o = d + 1 from by omega, show o + 1 + d - (o + 1) = d from by omega]
        simp
      · rw [if_neg h2, if_neg (by simp; omega)]
        rw [Array.getElem?_setIfInBounds_ne h1]
structure SetB (w : World) (c : Nat) (x : Obj) (w' : World) : Prop where
  sz : w'.heap.size = w.heap.size
  ne : ∀ (c' : Nat), c' ≠ c → w'.heap[c']? = w.heap[c']?
  eq : w'.heap[c]? = some x
  os : w'.os = w.os
  out : w'.output = w.output
structure NewB (w : World) (x : Obj) (w' : World) : Prop where
  sz : w'.heap.size = w.heap.size + 1
  old : ∀ (c : Nat), c < w.heap.size → w'.heap[c]? = w.heap[c]?
  new : w'.heap[w.heap.size]? = some x
  os : w'.os = w.os
  out : w'.output = w.output
theorem NewB.push (w : World) (x : Obj) : NewB w x { w with heap := w.heap.push x } :=
  ⟨by simp, fun c h => by simp [Array.getElem?_push, Nat.ne_of_lt h], by simp, rfl, rfl⟩
theorem setCell_setB {w : World} {c o : Nat} {arr T fr} (h : w.heap[c]? = some (Obj.cells arr T fr)) (v : Value) :
    SetB w c (Obj.cells (arr.setIfInBounds o v) T fr) (w.setCell ⟨c, o, none⟩ v) := by
  have hlt := aget_lt h
  refine ⟨by simp [World.setCell], fun c' hc => ?_, ?_, rfl, rfl⟩
  · simp [World.setCell, Array.getElem?_modify, Ne.symm hc]
  · simp [World.setCell, Array.getElem?_modify, h]
theorem run_storeCells' {P : Program} (c T : Nat) (fr : Nat × Nat) : ∀ (vs : List Value) (o i : Nat) (w : World) (arr : Array Value),
    w.heap[c]? = some (Obj.cells arr T fr) → unfrozen arr fr → o + i + vs.length ≤ arr.size → (∀ v ∈ vs, v.oneCell' = true) →
    ∃ w', (storeCells ⟨c, o, none⟩ vs i).run P w = .ok () w' ∧ SetB w c (Obj.cells (setRange arr (o + i) vs) T fr) w' := by
  intro vs
  induction vs with
  | nil => intro o i w arr h _ _ _; exact ⟨w, by simp [storeCells], rfl, fun _ _ => rfl, h, rfl, rfl⟩
  | cons v r ih =>
    intro o i w arr h u hl hv
    simp only [List.length_cons] at hl
    have hs := setCell_setB (o := o + i) h v
    obtain ⟨w', e, hb⟩ := ih o (i + 1) (w.setCell ⟨c, o + i, none⟩ v) (arr.setIfInBounds (o + i) v) hs.eq (by unfold unfrozen at *; simpa using u) (by simp; omega) (fun x hx => hv x (by simp [hx]))
    refine ⟨w', ?_, ?_⟩
    · have hst : (store (Addr.add ⟨c, o, none⟩ i) v).run P w = .ok () (w.setCell ⟨c, o + i, none⟩ v) := by
        rw [addr_add, run_store P w _ v .plain (hv v (by simp)), cell_of h]
        rw [Array.getElem?_eq_getElem (by omega)]
        simp [frozen_of h u (show o + i < arr.size by omega)]
      simp only [storeCells, Sem.run_bind, hst, Result.andThen_ok, e]
    · refine ⟨hb.sz.trans hs.sz, fun c' hc => (hb.ne c' hc).trans (hs.ne c' hc), ?_, hb.os.trans hs.os, hb.out.trans hs.out⟩
      rw [hb.eq, setRange, show o + (i + 1) = o + i + 1 from by omega]
theorem sub_spec {l : List AV} {off n : Nat} {cs : List AV} (h : sub l off n = some cs) : off + n ≤ l.length ∧ cs.length = n ∧ ∀ j, j < n → cs[j]? = l[off + j]? := by
  unfold sub at h
  split at h
  · rename_i hle
    injection h with h
    subst h
    refine ⟨hle, by simp; omega, fun j hj => ?_⟩
    rw [List.getElem?_take, if_pos hj, List.getElem?_drop]
  · cases h
theorem over_length {l cs : List AV} {off : Nat} (h : off + cs.length ≤ l.length) : (over l off cs).length = l.length := by
  simp [over]; omega
theorem over_get {l cs : List AV} {off : Nat} (h : off + cs.length ≤ l.length) (i : Nat) :
    (over l off cs)[i]? = if off ≤ i ∧ i < off + cs.length then cs[i - off]? else l[i]? := by
  unfold over
  by_cases h1 : i < off
  · rw [if_neg (by omega), List.append_assoc, List.getElem?_append_left (by simp; omega), List.getElem?_take, if_pos h1]
  · by_cases h2 : i < off + cs.length
    · rw [if_pos (by omega), List.append_assoc, List.getElem?_append_right (by simp; omega)]
      simp only [List.length_take]
      rw [Nat.min_eq_left (by omega), List.getElem?_append_left (by omega)]
    · rw [if_neg (by omega), List.getElem?_append_right (by simp; omega)]
      simp only [List.length_append, List.length_take]
      rw [Nat.min_eq_left (by omega), List.getElem?_drop]
      congr 1; omega
theorem Lies.over {ρ ls arr o l cs off} {vs : List Value} (h : Lies ρ ls arr o l) (hle : off + cs.length ≤ l.length) (hsz : o + l.length ≤ arr.size) (hv : RVs ρ ls cs vs) :
    Lies ρ ls (setRange arr (o + off) vs) o (AM.over l off cs) := by
  intro i x hx
  rw [over_get hle] at hx
  rw [setRange_get vs arr (o + off) (o + i) (by have := hv.1; omega)]
  split at hx
  · rename_i hi
    have hlt := getElem?_lt hx
    have hlen := hv.1
    rw [if_pos (by omega), show o + i - (o + off) = i - off from by omega]
    have hy := hv.2 _ x hx
    rw [List.getElem?_eq_getElem (by omega)]
    refine ⟨_, rfl, ?_⟩
    rw [List.getD_eq_getElem?_getD, List.getElem?_eq_getElem (by omega)] at hy
    exact hy
  · rename_i hi
    obtain ⟨y, hy, r⟩ := h i x hx
    have hlen := hv.1
    rw [if_neg (by omega)]
    exact ⟨y, hy, r⟩
theorem RH.setLoc {ρ ls L h w w' i l c arr T fr arr' l'} (r : RH ρ ls L h w) (hi : L[i]? = some l) (hc : ls[i]? = some c)
    (b : SetB w c (Obj.cells arr' T fr) w') (hsz : arr'.size = arr.size) (u : unfrozen arr fr) (hl' : l'.length = arr'.size) (hlies : Lies ρ ls arr' 0 l') :
    RH ρ ls (L.set i l') h w' ∧ Evo ρ ls h w ρ ls h w' := by
  have hil := getElem?_lt hi
  constructor
  · refine ⟨?_, ?_, by simpa using r.len, r.nod, r.hh, r.hl, ?_, r.iml, r.imh, ?_⟩
    · intro b' g cs hb
      obtain ⟨c', o, n, arr1, T1, fr1, e1, e2, e3, e4, e5, e6⟩ := r.hp b' g cs hb
      refine ⟨c', o, n, arr1, T1, fr1, e1, ?_, e3, e4, e5, e6⟩
      rw [b.ne c' (fun e => r.hl _ _ _ _ _ _ i hb e1 (e ▸ hc))]; exact e2
    · intro j cs hj
      by_cases hij : i = j
      · subst hij
        rw [List.getElem?_set_self hil] at hj
        injection hj with hj
        subst hj
        exact ⟨c, arr', T, fr, hc, b.eq, by unfold unfrozen at *; omega, hl'.symm, hlies⟩
      · rw [List.getElem?_set_ne hij] at hj
        obtain ⟨c', arr1, T1, fr1, e1, e2, e3, e4, e5⟩ := r.lp j cs hj
        refine ⟨c', arr1, T1, fr1, e1, ?_, e3, e4, e5⟩
        rw [b.ne c' (fun e => hij (r.nod i j c hc (e ▸ e1)))]; exact e2
    · intro β c' arr1 hm
      obtain ⟨T1, fr1, e⟩ := r.im β c' arr1 hm
      exact ⟨T1, fr1, by rw [b.ne c' (fun e => r.iml β c' arr1 i hm (e ▸ hc))]; exact e⟩
    · intro b' g c' o n hm
      obtain ⟨e1, e2⟩ := r.dom b' g c' o n hm
      exact ⟨by rw [b.sz]; exact e1, e2⟩
  · refine ⟨.refl _, .refl _, by rw [b.sz]; exact Nat.le_refl _, fun c' _ ht => b.ne c' (fun e => ht (.inl ⟨i, e ▸ hc⟩)), fun _ _ _ _ _ _ h m => .inr ⟨_, _, _, _, h, m⟩, fun _ _ h => .inr h, fun _ _ _ _ e => e, Nat.le_refl _, b.os, b.out⟩
theorem RH.setHeap {ρ ls L h w w' b g l c o n arr T fr arr' l'} (r : RH ρ ls L h w) (hb : h[b]? = some (some (g, l))) (hc : ρ.m b g = some (c, o, n))
    (sb : SetB w c (Obj.cells arr' T fr) w') (hsz : arr'.size = arr.size) (hn : arr.size = n) (u : unfrozen arr fr) (hl' : o + l'.length ≤ n) (hlies : Lies ρ [] arr' o l') :
    RH ρ ls L (h.set b (some (g, l'))) w' ∧ Evo ρ ls h w ρ ls (h.set b (some (g, l'))) w' := by
  have hbl := getElem?_lt hb
  have look : ∀ {b' g' cs}, (h.set b (some (g, l')))[b']? = some (some (g', cs)) → ∃ cs', h[b']? = some (some (g', cs')) ∧ (b' ≠ b → cs' = cs) ∧ (b' = b → g' = g ∧ cs = l') := by
    intro b' g' cs e
    by_cases hbb : b = b'
    · subst hbb
      rw [List.getElem?_set_self hbl] at e
      injection e with e
      injection e with e
      injection e with e1 e2
      subst e1 e2
      exact ⟨l, hb, fun h => absurd rfl h, fun _ => ⟨rfl, rfl⟩⟩
    · rw [List.getElem?_set_ne hbb] at e
      exact ⟨cs, e, fun _ => rfl, fun h => absurd h.symm hbb⟩
  constructor
  · refine ⟨?_, ?_, r.len, r.nod, ?_, ?_, ?_, r.iml, ?_, ?_⟩
    · intro b' g' cs hb'
      obtain ⟨cs', e0, hne, heq⟩ := look hb'
      by_cases hbb : b' = b
      · obtain ⟨rfl, rfl⟩ := heq hbb
        subst hbb
        exact ⟨c, o, n, arr', T, fr, hc, sb.eq, by omega, by unfold unfrozen at *; omega, hl', hlies⟩
      · obtain rfl := hne hbb
        obtain ⟨c', o', n', arr1, T1, fr1, e1, e2, e3, e4, e5, e6⟩ := r.hp b' g' cs' e0
        refine ⟨c', o', n', arr1, T1, fr1, e1, ?_, e3, e4, e5, e6⟩
        rw [sb.ne c' (fun e => hbb (r.hh _ _ _ _ _ _ c' _ _ _ _ e0 hb e1 (by rw [e]; exact hc)))]; exact e2
    · intro j cs hj
      obtain ⟨c', arr1, T1, fr1, e1, e2, e3, e4, e5⟩ := r.lp j cs hj
      refine ⟨c', arr1, T1, fr1, e1, ?_, e3, e4, e5⟩
      rw [sb.ne c' (fun e => r.hl _ _ _ _ _ _ j hb hc (e ▸ e1))]; exact e2
    · intro b1 g1 cs1 b2 g2 cs2 c' o1 n1 o2 n2 h1 h2 m1 m2
      obtain ⟨_, e1, _⟩ := look h1
      obtain ⟨_, e2, _⟩ := look h2
      exact r.hh _ _ _ _ _ _ _ _ _ _ _ e1 e2 m1 m2
    · intro b1 g1 cs1 c' o1 n1 i h1 m1
      obtain ⟨_, e1, _⟩ := look h1
      exact r.hl _ _ _ _ _ _ i e1 m1
    · intro β c' arr1 hm
      obtain ⟨T1, fr1, e⟩ := r.im β c' arr1 hm
      exact ⟨T1, fr1, by rw [sb.ne c' (fun e => r.imh β c' arr1 b g l o n hm hb (by rw [e]; exact hc))]; exact e⟩
    · intro β c' arr1 b1 g1 cs1 o1 n1 hm h1
      obtain ⟨_, e1, _⟩ := look h1
      exact r.imh β c' arr1 b1 g1 _ o1 n1 hm e1
    · intro b' g' c' o' n' hm
      obtain ⟨e1, e2, e3⟩ := r.dom b' g' c' o' n' hm
      refine ⟨by rw [sb.sz]; exact e1, by simpa using e2, fun g1 cs1 h1 => ?_⟩
      obtain ⟨cs2, e4, _, _⟩ := look h1
      exact e3 g1 cs2 e4
  · refine ⟨.refl _, .refl _, by rw [sb.sz]; exact Nat.le_refl _, fun c' _ ht => sb.ne c' (fun e => ht (.inr ⟨b, g, l, o, n, hb, by rw [e]; exact hc⟩)), ?_, fun _ _ h => .inr h, fun _ _ _ _ e => e, by simp, sb.os, sb.out⟩
    intro b' g' cs' c' o' n' h1 m1
    obtain ⟨_, e1, _⟩ := look h1
    exact .inr ⟨g', _, o', n', e1, m1⟩
theorem RH.newLoc {ρ ls L h w w' arr T cs} (r : RH ρ ls L h w) (nb : NewB w (Obj.cells arr T (0, 0)) w') (hl : cs.length = arr.size) (hlies : Lies ρ ls arr 0 cs) :
    RH ρ (ls ++ [w.heap.size]) (L ++ [cs]) h w' ∧ Evo ρ ls h w ρ (ls ++ [w.heap.size]) h w' := by
  have inl : ∀ {i c : Nat}, ls[i]? = some c → c < w.heap.size := fun {i c} e => by
    have hi := getElem?_lt e
    rw [r.len] at hi
    obtain ⟨c', arr1, T1, fr1, e1, e2, _⟩ := r.lp i _ (List.getElem?_eq_getElem hi)
    rw [e] at e1
    injection e1 with e1
    subst e1
    exact aget_lt e2
  have snoc : ∀ {i c : Nat}, (ls ++ [w.heap.size])[i]? = some c → ls[i]? = some c ∨ (i = ls.length ∧ c = w.heap.size) := fun {i c} e => by
    by_cases hi : i < ls.length
    · rw [List.getElem?_append_left hi] at e; exact .inl e
    · rw [List.getElem?_append_right (by omega)] at e
      have h0 : i - ls.length = 0 := by have := getElem?_lt e; simp at this; omega
      rw [h0] at e
      simp at e
      exact .inr ⟨by omega, e.symm⟩
  have keep : ∀ {c : Nat} {x : Obj}, w.heap[c]? = some x → w'.heap[c]? = some x := fun e => by rw [nb.old _ (aget_lt e)]; exact e
  constructor
  · refine ⟨?_, ?_, by simp [r.len], ?_, r.hh, ?_, ?_, ?_, r.imh, ?_⟩
    · intro b g cs' hb
      obtain ⟨c', o, n, arr1, T1, fr1, e1, e2, rest⟩ := r.hp b g cs' hb
      exact ⟨c', o, n, arr1, T1, fr1, e1, keep e2, rest⟩
    · intro i cs' hi
      by_cases hlt : i < L.length
      · rw [List.getElem?_append_left hlt] at hi
        obtain ⟨c', arr1, T1, fr1, e1, e2, e3, e4, e5⟩ := r.lp i cs' hi
        exact ⟨c', arr1, T1, fr1, Ext.snoc _ _ i c' e1, keep e2, e3, e4, fun j x hx => let ⟨y, hy, ry⟩ := e5 j x hx; ⟨y, hy, ry.mono (.refl _) (Ext.snoc _ _)⟩⟩
      · rw [List.getElem?_append_right (by omega)] at hi
        have h0 : i - L.length = 0 := by have := getElem?_lt hi; simp at this; omega
        rw [h0] at hi
        simp at hi
        subst hi
        refine ⟨w.heap.size, arr, T, (0, 0), ?_, nb.new, .inl (by simp), hl.symm, fun j x hx => let ⟨y, hy, ry⟩ := hlies j x hx; ⟨y, hy, ry.mono (.refl _) (Ext.snoc _ _)⟩⟩
        rw [List.getElem?_append_right (by rw [r.len]; omega), r.len, h0]; rfl
    · intro i j c h1 h2
      rcases snoc h1 with h1 | ⟨h1, rfl⟩ <;> rcases snoc h2 with h2 | ⟨h2, h2'⟩
      · exact r.nod i j c h1 h2
      · exact absurd (inl h1) (by omega)
      · exact absurd (inl h2) (by omega)
      · omega
    · intro b g cs' c o n i hb hm hi
      rcases snoc hi with hi | ⟨_, rfl⟩
      · exact r.hl b g cs' c o n i hb hm hi
      · have := (r.dom b g _ o n hm).1; omega
    · intro β c arr1 hm
      obtain ⟨T1, fr1, e⟩ := r.im β c arr1 hm
      exact ⟨T1, fr1, keep e⟩
    · intro β c arr1 i hm hi
      rcases snoc hi with hi | ⟨_, rfl⟩
      · exact r.iml β c arr1 i hm hi
      · obtain ⟨T1, fr1, e⟩ := r.im β _ arr1 hm
        have := aget_lt e; omega
    · intro b g c o n hm
      obtain ⟨e1, e2⟩ := r.dom b g c o n hm
      exact ⟨by rw [nb.sz]; omega, e2⟩
  · refine ⟨.refl _, .snoc _ _, by rw [nb.sz]; omega, fun c hc _ => nb.old c hc, fun _ _ _ _ _ _ h m => .inr ⟨_, _, _, _, h, m⟩, ?_, fun _ _ _ _ e => e, Nat.le_refl _, nb.os, nb.out⟩
    intro i c t
    rcases snoc t with t | ⟨_, rfl⟩
    · exact .inr t
    · exact .inl (Nat.le_refl _)
def Inj.ins (ρ : Inj) (b g : Nat) (x : Nat × Nat × Nat) : Inj := { ρ with m := fun b' g' => if b' = b ∧ g' = g then some x else ρ.m b' g' }
theorem Inj.ins_le {ρ : Inj} {b g : Nat} {x : Nat × Nat × Nat} (h : ρ.m b g = none) : ρ.le (ρ.ins b g x) :=
  ⟨fun b' g' y e => by
    simp only [Inj.ins]
    split
    · rename_i hb; obtain ⟨rfl, rfl⟩ := hb; rw [h] at e; cases e
    · exact e, fun _ _ _ e => e⟩
theorem Inj.ins_self (ρ : Inj) (b g : Nat) (x : Nat × Nat × Nat) : (ρ.ins b g x).m b g = some x := by simp [Inj.ins]
theorem Inj.ins_ne {ρ : Inj} {b g b' g' : Nat} {x : Nat × Nat × Nat} (h : ¬ (b' = b ∧ g' = g)) : (ρ.ins b g x).m b' g' = ρ.m b' g' := by simp [Inj.ins, h]
theorem Lies.mono {ρ ρ' ls arr o cs} (h : Lies ρ ls arr o cs) (l : ρ.le ρ') : Lies ρ' ls arr o cs :=
  fun i x hx => let ⟨y, e, r⟩ := h i x hx; ⟨y, e, r.mono l (.refl _)⟩
theorem RH.newHeap {ρ ls L h w w' arr T fr cs} (r : RH ρ ls L h w) (nb : NewB w (Obj.cells arr T fr) w') (u : unfrozen arr fr) (hl : cs.length ≤ arr.size) (hlies : Lies ρ [] arr 0 cs) :
    RH (ρ.ins h.length 0 (w.heap.size, 0, arr.size)) ls L (h ++ [some (0, cs)]) w' ∧ Evo ρ ls h w (ρ.ins h.length 0 (w.heap.size, 0, arr.size)) ls (h ++ [some (0, cs)]) w' := by
  have hnone : ρ.m h.length 0 = none := by
    cases hm : ρ.m h.length 0 with
    | none => rfl
    | some x =>
      obtain ⟨c, o, n⟩ := x
      have := (r.dom _ _ _ _ _ hm).2.1
      omega
  have hle : ρ.le (ρ.ins h.length 0 (w.heap.size, 0, arr.size)) := Inj.ins_le hnone
  have keep : ∀ {c : Nat} {x : Obj}, w.heap[c]? = some x → w'.heap[c]? = some x := fun e => by rw [nb.old _ (aget_lt e)]; exact e
  have inl : ∀ {i c : Nat}, ls[i]? = some c → c < w.heap.size := fun {i c} e => by
    have hi := getElem?_lt e
    rw [r.len] at hi
    obtain ⟨c', arr1, T1, fr1, e1, e2, _⟩ := r.lp i _ (List.getElem?_eq_getElem hi)
    rw [e] at e1
    injection e1 with e1
    subst e1
    exact aget_lt e2
  have look : ∀ {b : Nat} {g : Nat} {cs' : List AV}, (h ++ [some (0, cs)])[b]? = some (some (g, cs')) → (b < h.length ∧ h[b]? = some (some (g, cs'))) ∨ (b = h.length ∧ g = 0 ∧ cs' = cs) := by
    intro b g cs' e
    by_cases hb : b < h.length
    · rw [List.getElem?_append_left hb] at e; exact .inl ⟨hb, e⟩
    · rw [List.getElem?_append_right (by omega)] at e
      have h0 : b - h.length = 0 := by have := getElem?_lt e; simp at this; omega
      rw [h0] at e
      simp at e
      exact .inr ⟨by omega, e.1.symm, e.2.symm⟩
  have old : ∀ {b g : Nat} {x : Nat × Nat × Nat}, b < h.length → (ρ.ins h.length 0 (w.heap.size, 0, arr.size)).m b g = some x → ρ.m b g = some x := by
    intro b g x hb e
    rwa [Inj.ins_ne (by omega)] at e
  have newm : ∀ {c o n : Nat}, (ρ.ins h.length 0 (w.heap.size, 0, arr.size)).m h.length 0 = some (c, o, n) → c = w.heap.size := by
    intro c o n e
    rw [Inj.ins_self] at e
    injection e with e
    injection e with e _
    exact e.symm
  have below : ∀ {b g c o n : Nat}, ρ.m b g = some (c, o, n) → c < w.heap.size := fun e => (r.dom _ _ _ _ _ e).1
  constructor
  · refine ⟨?_, ?_, r.len, r.nod, ?_, ?_, ?_, r.iml, ?_, ?_⟩
    · intro b g cs' hb
      rcases look hb with ⟨hlt, e⟩ | ⟨rfl, rfl, rfl⟩
      · obtain ⟨c', o, n, arr1, T1, fr1, e1, e2, e3, e4, e5, e6⟩ := r.hp b g cs' e
        exact ⟨c', o, n, arr1, T1, fr1, hle.m _ _ _ e1, keep e2, e3, e4, e5, e6.mono hle⟩
      · exact ⟨w.heap.size, 0, arr.size, arr, T, fr, Inj.ins_self _ _ _ _, nb.new, rfl, u, by omega, hlies.mono hle⟩
    · intro i cs' hi
      obtain ⟨c', arr1, T1, fr1, e1, e2, e3, e4, e5⟩ := r.lp i cs' hi
      exact ⟨c', arr1, T1, fr1, e1, keep e2, e3, e4, e5.mono hle⟩
    · intro b g cs1 b' g' cs2 c o n o' n' h1 h2 m1 m2
      rcases look h1 with ⟨l1, e1⟩ | ⟨rfl, rfl, rfl⟩ <;> rcases look h2 with ⟨l2, e2⟩ | ⟨rfl, rfl, rfl⟩
      · exact r.hh _ _ _ _ _ _ _ _ _ _ _ e1 e2 (old l1 m1) (old l2 m2)
      · have := below (old l1 m1); have := newm m2; omega
      · have := below (old l2 m2); have := newm m1; omega
      · rfl
    · intro b g cs' c o n i hb hm hi
      rcases look hb with ⟨l1, e1⟩ | ⟨rfl, rfl, rfl⟩
      · exact r.hl _ _ _ _ _ _ i e1 (old l1 hm) hi
      · have := inl hi; have := newm hm; omega
    · intro β c arr1 hm
      obtain ⟨T1, fr1, e⟩ := r.im β c arr1 hm
      exact ⟨T1, fr1, keep e⟩
    · intro β c arr1 b g cs' o n hm hb hx
      rcases look hb with ⟨l1, e1⟩ | ⟨rfl, rfl, rfl⟩
      · exact r.imh β c arr1 b g cs' o n hm e1 (old l1 hx)
      · obtain ⟨T1, fr1, e⟩ := r.im β c arr1 hm
        have := aget_lt e; have := newm hx; omega
    · intro b g c o n hm
      by_cases hb : b = h.length ∧ g = 0
      · obtain ⟨rfl, rfl⟩ := hb
        have := newm hm
        exact ⟨by rw [nb.sz]; omega, by simp, fun _ _ _ => Nat.zero_le _⟩
      · rw [Inj.ins_ne hb] at hm
        obtain ⟨e1, e2, e3⟩ := r.dom b g c o n hm
        refine ⟨by rw [nb.sz]; omega, by simp; omega, fun g1 cs1 h1 => ?_⟩
        rcases look h1 with ⟨_, e4⟩ | ⟨rfl, _, _⟩
        · exact e3 _ _ e4
        · omega
  · refine ⟨hle, .refl _, by rw [nb.sz]; omega, fun c hc _ => nb.old c hc, ?_, fun _ _ h => .inr h, fun _ _ _ _ e => e, by simp, nb.os, nb.out⟩
    intro b g cs' c o n hb hm
    rcases look hb with ⟨l1, e1⟩ | ⟨rfl, rfl, rfl⟩
    · exact .inr ⟨g, cs', o, n, e1, old l1 hm⟩
    · exact .inl (by have := newm hm; omega)
theorem RH.regen {ρ ls L h w w' b g l c o n arr' T' fr' c' o' l'} (r : RH ρ ls L h w) (hb : h[b]? = some (some (g, l))) (hc : ρ.m b g = some (c, o, n))
    (hc' : c' = c ∧ w'.heap.size = w.heap.size ∨ c' = w.heap.size ∧ w'.heap.size = w.heap.size + 1)
    (hne : ∀ (x : Nat), x < w.heap.size → x ≠ c' → w'.heap[x]? = w.heap[x]?) (hnew : w'.heap[c']? = some (Obj.cells arr' T' fr'))
    (u : unfrozen arr' fr') (hl' : o' + l'.length ≤ arr'.size) (hlies : Lies ρ [] arr' o' l') (eos : w'.os = w.os) (eout : w'.output = w.output) :
    RH (ρ.ins b (g + 1) (c', o', arr'.size)) ls L (h.set b (some (g + 1, l'))) w' ∧ Evo ρ ls h w (ρ.ins b (g + 1) (c', o', arr'.size)) ls (h.set b (some (g + 1, l'))) w' := by
  have hbl := getElem?_lt hb
  have hnone : ρ.m b (g + 1) = none := by
    cases hm : ρ.m b (g + 1) with
    | none => rfl
    | some x =>
      obtain ⟨c1, o1, n1⟩ := x
      have := (r.dom _ _ _ _ _ hm).2.2 _ _ hb
      omega
  have hle : ρ.le (ρ.ins b (g + 1) (c', o', arr'.size)) := Inj.ins_le hnone
  have below : ∀ {b g c o n : Nat}, ρ.m b g = some (c, o, n) → c < w.heap.size := fun e => (r.dom _ _ _ _ _ e).1
  have hcl := below hc
  have hsz : w.heap.size ≤ w'.heap.size := by omega
  have inl : ∀ {i x : Nat}, ls[i]? = some x → x < w.heap.size ∧ x ≠ c' := fun {i x} e => by
    have hi := getElem?_lt e
    rw [r.len] at hi
    obtain ⟨c1, arr1, T1, fr1, e1, e2, _⟩ := r.lp i _ (List.getElem?_eq_getElem hi)
    rw [e] at e1
    injection e1 with e1
    subst e1
    have hlt := aget_lt e2
    refine ⟨hlt, fun hx => ?_⟩
    rcases hc' with ⟨h1, _⟩ | ⟨h1, _⟩
    · exact r.hl _ _ _ _ _ _ i hb hc (by rw [← h1, ← hx]; exact e)
    · omega
  have keep : ∀ {x : Nat} {y : Obj}, x ≠ c' → w.heap[x]? = some y → w'.heap[x]? = some y := fun hx e => by rw [hne _ (aget_lt e) hx]; exact e
  have look : ∀ {b' g' : Nat} {cs : List AV}, (h.set b (some (g + 1, l')))[b']? = some (some (g', cs)) → (b' ≠ b ∧ h[b']? = some (some (g', cs))) ∨ (b' = b ∧ g' = g + 1 ∧ cs = l') := by
    intro b' g' cs e
    by_cases hbb : b = b'
    · subst hbb
      rw [List.getElem?_set_self hbl] at e
      injection e with e
      injection e with e
      injection e with e1 e2
      exact .inr ⟨rfl, e1.symm, e2.symm⟩
    · rw [List.getElem?_set_ne hbb] at e
      exact .inl ⟨fun h => hbb h.symm, e⟩
  have old : ∀ {b' g' : Nat} {x : Nat × Nat × Nat}, b' ≠ b → (ρ.ins b (g + 1) (c', o', arr'.size)).m b' g' = some x → ρ.m b' g' = some x := by
    intro b' g' x hb e
    rwa [Inj.ins_ne (by intro h; exact hb h.1)] at e
  have newm : ∀ {c1 o1 n1 : Nat}, (ρ.ins b (g + 1) (c', o', arr'.size)).m b (g + 1) = some (c1, o1, n1) → c1 = c' := by
    intro c1 o1 n1 e
    rw [Inj.ins_self] at e
    injection e with e
    injection e with e _
    exact e.symm
  have other : ∀ {b' g' : Nat} {cs : List AV} {c1 o1 n1 : Nat}, b' ≠ b → h[b']? = some (some (g', cs)) → ρ.m b' g' = some (c1, o1, n1) → c1 ≠ c' := by
    intro b' g' cs c1 o1 n1 hbb e m e'
    rcases hc' with ⟨h1, _⟩ | ⟨h1, _⟩
    · exact hbb (r.hh _ _ _ _ _ _ c1 _ _ _ _ e hb m (by rw [e', h1]; exact hc))
    · have := below m; omega
  constructor
  · refine ⟨?_, ?_, r.len, r.nod, ?_, ?_, ?_, r.iml, ?_, ?_⟩
    · intro b' g' cs hb'
      rcases look hb' with ⟨hbb, e⟩ | ⟨rfl, rfl, rfl⟩
      · obtain ⟨c1, o1, n1, arr1, T1, fr1, e1, e2, e3, e4, e5, e6⟩ := r.hp b' g' cs e
        exact ⟨c1, o1, n1, arr1, T1, fr1, hle.m _ _ _ e1, keep (other hbb e e1) e2, e3, e4, e5, e6.mono hle⟩
      · exact ⟨c', o', arr'.size, arr', T', fr', Inj.ins_self _ _ _ _, hnew, rfl, u, hl', hlies.mono hle⟩
    · intro i cs hi
      obtain ⟨c1, arr1, T1, fr1, e1, e2, e3, e4, e5⟩ := r.lp i cs hi
      exact ⟨c1, arr1, T1, fr1, e1, keep (inl e1).2 e2, e3, e4, e5.mono hle⟩
    · intro b1 g1 cs1 b2 g2 cs2 c1 o1 n1 o2 n2 h1 h2 m1 m2
      rcases look h1 with ⟨l1, e1⟩ | ⟨rfl, rfl, rfl⟩ <;> rcases look h2 with ⟨l2, e2⟩ | ⟨rfl, rfl, rfl⟩
      · exact r.hh _ _ _ _ _ _ _ _ _ _ _ e1 e2 (old l1 m1) (old l2 m2)
      · exact absurd (newm m2) (other l1 e1 (old l1 m1))
      · exact absurd (newm m1) (other l2 e2 (old l2 m2))
      · rfl
    · intro b1 g1 cs1 c1 o1 n1 i hb1 hm hi
      rcases look hb1 with ⟨l1, e1⟩ | ⟨rfl, rfl, rfl⟩
      · exact r.hl _ _ _ _ _ _ i e1 (old l1 hm) hi
      · exact (inl hi).2 (newm hm)
    · intro β c1 arr1 hm
      obtain ⟨T1, fr1, e⟩ := r.im β c1 arr1 hm
      refine ⟨T1, fr1, keep (fun hx => ?_) e⟩
      rcases hc' with ⟨h1, _⟩ | ⟨h1, _⟩
      · exact r.imh β c1 arr1 b g l o n hm hb (by rw [hx, h1]; exact hc)
      · have := aget_lt e; omega
    · intro β c1 arr1 b1 g1 cs1 o1 n1 hm hb1 hx
      rcases look hb1 with ⟨l1, e1⟩ | ⟨rfl, rfl, rfl⟩
      · exact r.imh β c1 arr1 b1 g1 cs1 o1 n1 hm e1 (old l1 hx)
      · have hx' := newm hx
        obtain ⟨T1, fr1, e⟩ := r.im β c1 arr1 hm
        rcases hc' with ⟨h1, _⟩ | ⟨h1, _⟩
        · exact r.imh β c1 arr1 b1 g l o n hm hb (by rw [hx', h1]; exact hc)
        · have := aget_lt e; omega
    · intro b1 g1 c1 o1 n1 hm
      by_cases hb1 : b1 = b ∧ g1 = g + 1
      · obtain ⟨rfl, rfl⟩ := hb1
        have := newm hm
        exact ⟨by omega, by simpa using hbl, fun g2 cs2 h2 => by
          rcases look h2 with ⟨hne', _⟩ | ⟨_, rfl, _⟩
          · exact absurd rfl hne'
          · exact Nat.le_refl _⟩
      · rw [Inj.ins_ne hb1] at hm
        obtain ⟨e1, e2, e3⟩ := r.dom b1 g1 c1 o1 n1 hm
        refine ⟨by omega, by simpa using e2, fun g2 cs2 h2 => ?_⟩
        rcases look h2 with ⟨_, e4⟩ | ⟨rfl, rfl, _⟩
        · exact e3 _ _ e4
        · have := e3 _ _ hb; omega
  · refine ⟨hle, .refl _, hsz, fun x hx ht => ?_, ?_, fun _ _ h => .inr h, fun _ _ _ _ e => e, by simp, eos, eout⟩
    · by_cases hxc : x = c'
      · rcases hc' with ⟨h1, _⟩ | ⟨h1, _⟩
        · exact absurd (.inr ⟨b, g, l, o, n, hb, by rw [hxc, h1]; exact hc⟩) ht
        · omega
      · exact hne x hx hxc
    · intro b1 g1 cs1 x o1 n1 hb1 hm
      rcases look hb1 with ⟨l1, e1⟩ | ⟨rfl, rfl, rfl⟩
      · exact .inr ⟨g1, cs1, o1, n1, e1, old l1 hm⟩
      · have hx' := newm hm
        rcases hc' with ⟨h1, _⟩ | ⟨h1, _⟩
        · exact .inr ⟨g, l, o, n, hb, by rw [hx', h1]; exact hc⟩
        · exact .inl (by omega)
end Go.AM
