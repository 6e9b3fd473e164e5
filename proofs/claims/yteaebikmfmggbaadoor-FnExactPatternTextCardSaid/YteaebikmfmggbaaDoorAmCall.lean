import Derived.Test.YteaebikmfmggbaaDoorAmRules
set_option linter.unusedVariables false
set_option linter.unusedSimpArgs false
namespace Go.AM
section
variable {P : Program} {Θ : Tab} {Γ : Glob}
theorem RH.bare {ρ ls L h w} (m : RH ρ ls L h w) : RH ρ [] [] h w :=
  ⟨m.hp, fun i cs hi => by simp at hi, rfl, fun i j c h => by simp at h, m.hh, fun _ _ _ _ _ _ _ _ _ h => by simp at h, m.im, fun _ _ _ _ _ h => by simp at h, m.imh, m.dom⟩
theorem RH.lt_loc {ρ ls L h w} (m : RH ρ ls L h w) {i c : Nat} (hi : ls[i]? = some c) : c < w.heap.size := by
  have hlt := getElem?_lt hi
  obtain ⟨c', arr, T, fr, h1, h2, _⟩ := m.lp i _ (List.getElem?_eq_getElem (show i < L.length by rw [← m.len]; exact hlt))
  rw [hi] at h1
  injection h1 with h1
  subst h1
  rcases Nat.lt_or_ge c w.heap.size with h | h
  · exact h
  · rw [Array.getElem?_eq_none h] at h2; cases h2
theorem RH.lt_imm {ρ ls L h w} (m : RH ρ ls L h w) {β c arr} (hi : ρ.imm β c = some arr) : c < w.heap.size := by
  obtain ⟨T, fr, h2⟩ := m.im _ _ _ hi
  rcases Nat.lt_or_ge c w.heap.size with h | h
  · exact h
  · rw [Array.getElem?_eq_none h] at h2; cases h2
theorem RH.under {ρ ls L h w ρ' h' w'} (m : RH ρ ls L h w) (m' : RH ρ' [] [] h' w') (ev : Evo ρ [] h w ρ' [] h' w') : RH ρ' ls L h' w' := by
  refine ⟨m'.hp, ?_, m.len, m.nod, m'.hh, ?_, m'.im, ?_, m'.imh, m'.dom⟩
  · intro i cs hi
    obtain ⟨c, arr, T, fr, h1, h2, h3, h4, h5⟩ := m.lp i cs hi
    refine ⟨c, arr, T, fr, h1, ?_, h3, h4, fun j x hx => let ⟨y, e1, e2⟩ := h5 j x hx; ⟨y, e1, e2.mono ev.le (.refl _)⟩⟩
    rw [ev.fr c (m.lt_loc h1) ?_]
    · exact h2
    · rintro (⟨j, t⟩ | ⟨b, g, cs, o, n, t1, t2⟩)
      · simp at t
      · exact m.hl b g cs c o n i t1 t2 h1
  · intro b g cs c o n i hb hm hi
    rcases ev.own b g cs c o n hb hm with h1 | ⟨g0, cs0, o0, n0, h1, h2⟩
    · have := m.lt_loc hi; omega
    · exact m.hl b g0 cs0 c o0 n0 i h1 h2 hi
  · intro β c arr i hm hi
    exact m.iml β c arr i (ev.imo β c arr (m.lt_loc hi) hm) hi
theorem Evo.under {ρ ls h w ρ' h' w'} (ev : Evo ρ [] h w ρ' [] h' w') : Evo ρ ls h w ρ' ls h' w' :=
  ⟨ev.le, .refl _, ev.sz, fun c hc ht => ev.fr c hc (fun t => ht (by
    rcases t with ⟨i, t⟩ | t
    · simp at t
    · exact .inr t)), ev.own, fun i c h => .inr h, ev.imo, ev.len, ev.os, ev.out⟩
theorem TCall.ref {f : FuncId} {args : List AV} {s : St} {Q : AV → AH → Prop} {K : AV → St → Prop} (ho : args.all out1 = true) (t : T P Γ f args s.heap Q)
    (hq : ∀ v h', Q v h' → K v { s with heap := h' }) : TCall P Γ f args s K := by
  intro ρ ls w cargs m g ra
  refine ⟨t.1, (t.2 ρ w cargs m.bare g ⟨ra.1, fun i x hx => out1_RV (ra.2 i x hx) (List.all_eq_true.1 ho x (List.mem_of_getElem? hx)) []⟩).mono ?_⟩
  rintro e w' ⟨v, cv, ρ', h', rfl, r1, r2, r3, q⟩
  exact ⟨cv, v, { s with heap := h' }, ρ', ls, rfl, rfl, r1.mono (.refl _) (.nil _), m.under r2 r3, r3.under, hq _ _ q⟩
inductive Snap (h : AH) : AV → AV → Prop
  | same (x : AV) : Snap h x x
  | any (x : AV) : Snap h x .any
  | nil (sz : Nat) (ex : Bool) : Snap h .nils (.vs true sz ex [])
  | gp (b g off : Nat) (cells cs : List AV) (f : Nat → AV) (h1 : h[b]? = some (some (g, cells)))
      (h2 : ∀ (j : Nat) (x : AV), cs[j]? = some x → cells[off + j]? = some (f j)) (r : ∀ (j : Nat) (x : AV), cs[j]? = some x → Snap h (f j) x) : Snap h (.gp b g off) (.ip true cs)
  | gs (b g off len cap sz : Nat) (ex ex' : Bool) (cells : List AV) (xs : List (List AV)) (f : Nat → Nat → AV) (h1 : h[b]? = some (some (g, cells))) (h2 : xs.length = len)
      (h3 : ex' = true → ex = true ∧ cap = len) (h4 : ∀ (i : Nat) (l : List AV), xs[i]? = some l → l.length = sz)
      (h5 : ∀ (i : Nat) (l : List AV), xs[i]? = some l → ∀ (j : Nat) (x : AV), l[j]? = some x → cells[off + (i * sz + j)]? = some (f i j))
      (r : ∀ (i : Nat) (l : List AV), xs[i]? = some l → ∀ (j : Nat) (x : AV), l[j]? = some x → Snap h (f i j) x) : Snap h (.gs b g off len cap sz ex) (.vs true sz ex' xs)
  | agg (xs ys : List AV) (h1 : xs.length = ys.length) (f : Nat → AV) (h2 : ∀ (i : Nat) (y : AV), ys[i]? = some y → xs[i]? = some (f i)) (r : ∀ (i : Nat) (y : AV), ys[i]? = some y → Snap h (f i) y) : Snap h (.agg xs) (.agg ys)
  | fn (g : FuncId) (xs ys : List AV) (h1 : xs.length = ys.length) (f : Nat → AV) (h2 : ∀ (i : Nat) (y : AV), ys[i]? = some y → xs[i]? = some (f i)) (r : ∀ (i : Nat) (y : AV), ys[i]? = some y → Snap h (f i) y) : Snap h (.fn g [] xs) (.fn g [] ys)
def SnapL (h : AH) : List AV → List AV → Prop
  | [], [] => True
  | x :: xs, y :: ys => Snap h x y ∧ SnapL h xs ys
  | _, _ => False
theorem SnapL.spec {h : AH} : ∀ {xs ys : List AV}, SnapL h xs ys → xs.length = ys.length ∧ ∀ (i : Nat) y, ys[i]? = some y → ∃ x, xs[i]? = some x ∧ Snap h x y
  | [], [], _ => ⟨rfl, fun i y h => by simp at h⟩
  | x :: xs, y :: ys, h => by
    obtain ⟨h1, h2⟩ := SnapL.spec h.2
    refine ⟨by simp [h1], fun i z hz => ?_⟩
    cases i with
    | zero => simp at hz; subst hz; exact ⟨x, rfl, h.1⟩
    | succ i => exact h2 i z (by simpa using hz)
  | [], _ :: _, h => h.elim
  | _ :: _, [], h => h.elim
def arrOf (w : World) (c : Nat) : Array Value := match w.heap[c]? with | some (.cells arr _ _) => arr | _ => #[]
open Classical in
noncomputable def viewInj (ρ : Inj) (h : AH) (w : World) : Inj where
  m := ρ.m
  imm := fun β c => if β = true then (if (ρ.imm true c).isSome = true then ρ.imm true c else if ∃ b g cs o n, h[b]? = some (some (g, cs)) ∧ ρ.m b g = some (c, o, n) then some (arrOf w c) else none) else ρ.imm false c
theorem viewInj_le (ρ : Inj) (h : AH) (w : World) : ρ.le (viewInj ρ h w) :=
  ⟨fun _ _ _ e => e, fun β c x e => by cases β <;> simp [viewInj, e]⟩
theorem viewInj_heap {ρ : Inj} {ls L h w} (m : RH ρ ls L h w) {b g cs c o n} (hb : h[b]? = some (some (g, cs))) (hm : ρ.m b g = some (c, o, n)) : (viewInj ρ h w).imm true c = some (arrOf w c) := by
  have : (ρ.imm true c).isSome = false := by
    cases hi : ρ.imm true c with
    | none => rfl
    | some arr => exact absurd hm (m.imh true c arr b g cs o n hi hb)
  simp only [viewInj, if_true]
  rw [if_neg (by simp [this]), if_pos ⟨b, g, cs, o, n, hb, hm⟩]
theorem view_RH {ρ : Inj} {ls L h w} (m : RH ρ ls L h w) : RH (viewInj ρ h w) [] [] (List.replicate h.length none) w := by
  have dead : ∀ {b : Nat} {x : Nat × List AV}, (List.replicate h.length (none : Option (Nat × List AV)))[b]? = some (some x) → False := by
    intro b x hb
    rw [List.getElem?_replicate] at hb
    split at hb <;> simp at hb
  refine ⟨fun b g cs hb => (dead hb).elim, fun i cs hi => by simp at hi, rfl, fun i j c h => by simp at h, fun b g cs b' g' cs' c o n o' n' hb => (dead hb).elim, fun _ _ _ _ _ _ _ _ _ h => by simp at h, ?_,
    fun _ _ _ _ _ h => by simp at h, fun β c arr b g cs o n _ hb => (dead hb).elim, fun b g c o n hm => ⟨(m.dom b g c o n hm).1, by simpa using (m.dom b g c o n hm).2.1, fun g' cs hb => (dead hb).elim⟩⟩
  intro β c arr hi
  cases β with
  | false => exact m.im false c arr (by simpa [viewInj] using hi)
  | true =>
    simp only [viewInj, if_true] at hi
    split at hi
    · exact m.im true c arr hi
    · split at hi
      · rename_i hx
        obtain ⟨b, g, cs, o, n, h1, h2⟩ := hx
        obtain ⟨c', o', n', arr', T, fr, e1, e2, _⟩ := m.hp b g cs h1
        rw [h2] at e1
        injection e1 with e1
        injection e1 with e1 e3
        subst e1
        simp only [arrOf, e2] at hi
        injection hi with hi
        subst hi
        exact ⟨T, fr, e2⟩
      · cases hi
theorem Snap.view {ρ : Inj} {ls L h w} (m : RH ρ ls L h w) {x y : AV} (s : Snap h x y) : ∀ {v}, RV ρ [] x v → RV (viewInj ρ h w) [] y v := by
  induction s with
  | same x => exact fun r => r.mono (viewInj_le _ _ _) (.refl _)
  | any x => exact fun _ => .any _ _
  | nil sz ex =>
    intro v rv
    cases rv
    exact .vsn _ _ _ _
  | gp b g off cells cs f h1 h2 r ih =>
    intro v rv
    cases rv with
    | gp _ _ _ _ c o n hm =>
      obtain ⟨c', o', n', arr', T, fr, e1, e2, e3, e4, e5, e6⟩ := m.hp b g cells h1
      rw [hm] at e1
      injection e1 with e1
      simp only [Prod.mk.injEq] at e1
      obtain ⟨rfl, rfl, rfl⟩ := e1
      have hi := viewInj_heap m h1 hm
      simp only [arrOf, e2] at hi
      refine .ip _ true cs c (o + off) (fun j => arr'.getD (o + off + j) undef) (fun j x hx => ⟨arr', hi, ?_⟩) (fun j x hx => ?_)
      · obtain ⟨y, g1, g2⟩ := e6 (off + j) _ (h2 j x hx)
        rw [Nat.add_assoc, g1]; simp [Array.getD_eq_getD_getElem?, Nat.add_assoc, g1]
      · obtain ⟨y, g1, g2⟩ := e6 (off + j) _ (h2 j x hx)
        have := ih j x hx g2
        simpa [Array.getD_eq_getD_getElem?, Nat.add_assoc, g1] using this
  | gs b g off len cap sz ex ex' cells xs f h1 h2 h3 h4 h5 r ih =>
    intro v rv
    cases rv with
    | gs _ _ _ _ _ _ _ _ c o n cap' hm k1 k2 k3 k4 =>
      obtain ⟨c', o', n', arr', T, fr, e1, e2, e3, e4, e5, e6⟩ := m.hp b g cells h1
      rw [hm] at e1
      injection e1 with e1
      simp only [Prod.mk.injEq] at e1
      obtain ⟨rfl, rfl, rfl⟩ := e1
      have hi := viewInj_heap m h1 hm
      simp only [arrOf, e2] at hi
      subst h2
      refine .vs _ true sz ex' xs c (o + off) cap' (fun i j => arr'.getD (o + off + (i * sz + j)) undef) (by omega) (fun hx => by have := h3 hx; rw [k3 this.1, this.2]) h4
        (fun i l hl j x hx => ⟨arr', hi, ?_⟩) (fun i l hl j x hx => ?_)
      · obtain ⟨y, g1, g2⟩ := e6 (off + (i * sz + j)) _ (h5 i l hl j x hx)
        rw [← Nat.add_assoc] at g1
        rw [g1]; simp [Array.getD_eq_getD_getElem?, g1]
      · obtain ⟨y, g1, g2⟩ := e6 (off + (i * sz + j)) _ (h5 i l hl j x hx)
        rw [← Nat.add_assoc] at g1
        have := ih i l hl j x hx g2
        simpa [Array.getD_eq_getD_getElem?, g1] using this
    | gs0 _ _ _ _ _ _ c o n a hm =>
      have : xs = [] := List.length_eq_zero_iff.1 h2
      subst this
      exact .vs0 _ true sz ex' a 0 (fun _ => rfl)
  | agg xs ys h1 f h2 r ih =>
    intro v rv
    cases rv with
    | agg _ _ vs k1 kr => exact .agg _ _ _ (by omega) (fun i y hy => ih i y hy (kr i _ (h2 i y hy)))
  | fn g xs ys h1 f h2 r ih =>
    intro v rv
    cases rv with
    | fn _ _ _ _ fs cs k1 k2 kr1 kr2 => exact .fn _ _ _ _ _ _ k1 (by omega) (fun i y hy => by simp at hy) (fun i y hy => ih i y hy (kr2 i _ (h2 i y hy)))
inductive Ok (bor : Bool) (p : Nat → Prop) : AV → Prop
  | any : Ok bor p .any
  | bool (b : Bool) : Ok bor p (.bool b)
  | int (k : IntKind) (n : Int) : Ok bor p (.int k n)
  | str (s : ByteArray) : Ok bor p (.str s)
  | nilp : Ok bor p .nilp
  | nils : Ok bor p .nils
  | nilf : Ok bor p .nilf
  | opq (v : Value) : Ok bor p (.opq v)
  | gp (b g off : Nat) (h : p b) : Ok bor p (.gp b g off)
  | gs (b g off len cap sz : Nat) (ex : Bool) (h : p b) : Ok bor p (.gs b g off len cap sz ex)
  | ip (β : Bool) (cs : List AV) (hβ : β = true → bor = true) (r : ∀ x ∈ cs, Ok bor p x) : Ok bor p (.ip β cs)
  | vs (β : Bool) (sz : Nat) (ex : Bool) (xs : List (List AV)) (hβ : β = true → bor = true) (r : ∀ l ∈ xs, ∀ x ∈ l, Ok bor p x) : Ok bor p (.vs β sz ex xs)
  | vs0 (β : Bool) (sz : Nat) (ex : Bool) : Ok bor p (.vs β sz ex [])
  | fn (f : FuncId) (first caps : List AV) (r1 : ∀ x ∈ first, Ok bor p x) (r2 : ∀ x ∈ caps, Ok bor p x) : Ok bor p (.fn f first caps)
  | agg (cs : List AV) (r : ∀ x ∈ cs, Ok bor p x) : Ok bor p (.agg cs)
  | tup (cs : List AV) (r : ∀ x ∈ cs, Ok bor p x) : Ok bor p (.tup cs)
abbrev NB (base : Nat) : AV → Prop := Ok false (fun b => base ≤ b)
abbrev OBk (base : Nat) : AV → Prop := Ok true (fun b => b < base)
theorem Ok.mono {bor bor' : Bool} {p p' : Nat → Prop} (hb : bor = true → bor' = true) (hp : ∀ b, p b → p' b) {x : AV} (h : Ok bor p x) : Ok bor' p' x := by
  induction h with
  | any => exact .any
  | bool => exact .bool _
  | int => exact .int _ _
  | str => exact .str _
  | nilp => exact .nilp
  | nils => exact .nils
  | nilf => exact .nilf
  | opq => exact .opq _
  | gp b g off h => exact .gp _ _ _ (hp _ h)
  | gs b g off len cap sz ex h => exact .gs _ _ _ _ _ _ _ (hp _ h)
  | ip β cs hβ r ih => exact .ip _ _ (fun h => hb (hβ h)) ih
  | vs β sz ex xs hβ r ih => exact .vs _ _ _ _ (fun h => hb (hβ h)) ih
  | vs0 => exact .vs0 _ _ _
  | fn f first caps r1 r2 ih1 ih2 => exact .fn _ _ _ ih1 ih2
  | agg cs r ih => exact .agg _ ih
  | tup cs r ih => exact .tup _ ih
theorem NB.move {ρ ρ' : Inj} {base : Nat} (hm : ∀ b g x, base ≤ b → ρ.m b g = some x → ρ'.m b g = some x) (hi : ∀ c x, ρ.imm false c = some x → ρ'.imm false c = some x) {ls x v} (r : RV ρ ls x v) :
    NB base x → RV ρ' ls x v := by
  induction r with
  | any => exact fun _ => .any _ _
  | bool => exact fun _ => .bool _ _
  | int => exact fun _ => .int _ _ _
  | str => exact fun _ => .str _ _
  | nilp => exact fun _ => .nilp _
  | nils => exact fun _ => .nils _
  | nilf => exact fun _ => .nilf _
  | opq => exact fun _ => .opq _ _
  | lp => intro h; cases h
  | gp ls b g off c o n h => intro nb; cases nb with | gp _ _ _ hb => exact .gp _ b g off c o n (hm _ _ _ hb h)
  | ip ls β cs c o f h r ih =>
    intro nb
    cases nb with
    | ip _ _ hβ nr =>
      have : β = false := by cases β <;> simp_all
      subst this
      exact .ip _ false cs c o f (fun j x hx => let ⟨arr, h1, h2⟩ := h j x hx; ⟨arr, hi _ _ h1, h2⟩) (fun j x hx => ih j x hx (nr x (List.mem_of_getElem? hx)))
  | gs ls b g off len cap sz ex c o n cap' h h1 h2 h3 h4 => intro nb; cases nb with | gs _ _ _ _ _ _ _ hb => exact .gs _ b g off len cap sz ex c o n cap' (hm _ _ _ hb h) h1 h2 h3 h4
  | gs0 ls b g off sz ex c o n a h => intro nb; cases nb with | gs _ _ _ _ _ _ _ hb => exact .gs0 _ b g off sz ex c o n a (hm _ _ _ hb h)
  | vs ls β sz ex xs c o cap' f h1 h2 h3 h4 r ih =>
    intro nb
    cases nb with
    | vs _ _ _ _ hβ nr =>
      have : β = false := by cases β <;> simp_all
      subst this
      exact .vs _ false sz ex xs c o cap' f h1 h2 h3 (fun i l hl j x hx => let ⟨arr, e1, e2⟩ := h4 i l hl j x hx; ⟨arr, hi _ _ e1, e2⟩) (fun i l hl j x hx => ih i l hl j x hx (nr l (List.mem_of_getElem? hl) x (List.mem_of_getElem? hx)))
    | vs0 => exact .vs0 _ β sz ex _ cap' (fun h => by simpa using h2 h)
  | vs0 ls β sz ex a cap' h2 => exact fun _ => .vs0 _ β sz ex a cap' h2
  | vsn ls β sz ex => exact fun _ => .vsn _ β sz ex
  | fn ls f first caps first' caps' h1 h2 r1 r2 ih1 ih2 =>
    intro nb
    cases nb with
    | fn _ _ _ n1 n2 => exact .fn _ f first caps first' caps' h1 h2 (fun i x hx => ih1 i x hx (n1 x (List.mem_of_getElem? hx))) (fun i x hx => ih2 i x hx (n2 x (List.mem_of_getElem? hx)))
  | agg ls cs vs h1 r ih => intro nb; cases nb with | agg _ n1 => exact .agg _ cs vs h1 (fun i x hx => ih i x hx (n1 x (List.mem_of_getElem? hx)))
  | tup ls cs vs h1 r ih => intro nb; cases nb with | tup _ n1 => exact .tup _ cs vs h1 (fun i x hx => ih i x hx (n1 x (List.mem_of_getElem? hx)))
def NBH (base : Nat) (new : AH) : Prop := ∀ (b g : Nat) (cs : List AV), new[b]? = some (some (g, cs)) → ∀ x ∈ cs, NB base x
theorem NBH.nil (base : Nat) : NBH base [] := fun b g cs h => by simp at h
def backInj (ρ ρ' : Inj) (base : Nat) : Inj where
  m := fun b g => if b < base then ρ.m b g else ρ'.m b g
  imm := fun β c => if β = true then ρ.imm true c else ρ'.imm false c
theorem TCall.snap {f : FuncId} {args args' : List AV} {s : St} {Q : AV → AH → Prop} {K : AV → St → Prop} (ho : args.all out1 = true) (hs : SnapL s.heap args args')
    (t : T P Γ f args' (List.replicate s.heap.length none) Q)
    (hq : ∀ v h', Q v h' → ∃ new, h' = List.replicate s.heap.length none ++ new ∧ NB s.heap.length v ∧ NBH s.heap.length new ∧ K v { s with heap := s.heap ++ new }) : TCall P Γ f args s K := by
  intro ρ ls w cargs m g ra
  obtain ⟨sl, sr⟩ := hs.spec
  have hle := viewInj_le ρ s.heap w
  refine ⟨t.1, (t.2 (viewInj ρ s.heap w) w cargs (view_RH m) (g.mono _ hle) ⟨by rw [← sl]; exact ra.1, fun i y hy => ?_⟩).mono ?_⟩
  · obtain ⟨x, hx, hxy⟩ := sr i y hy
    exact hxy.view m (out1_RV (ra.2 i x hx) (List.all_eq_true.1 ho x (List.mem_of_getElem? hx)) [])
  rintro e w' ⟨v, cv, ρ', h', rfl, r1, r2, ev, q⟩
  obtain ⟨new, rfl, nv, nn, hk⟩ := hq _ _ q
  have hlen : ∀ {b : Nat} {x : Nat × List AV}, (List.replicate s.heap.length (none : Option (Nat × List AV)) ++ new)[b]? = some (some x) → s.heap.length ≤ b := by
    intro b x hb
    rcases Nat.lt_or_ge b s.heap.length with h | h
    · rw [List.getElem?_append_left (by simpa using h), List.getElem?_replicate, if_pos h] at hb
      simp at hb
    · exact h
  have hnew : ∀ {b : Nat}, s.heap.length ≤ b → (List.replicate s.heap.length (none : Option (Nat × List AV)) ++ new)[b]? = (s.heap ++ new)[b]? := by
    intro b hb
    rw [List.getElem?_append_right (by simpa using hb), List.getElem?_append_right hb]; simp
  have hold : ∀ {b : Nat}, b < s.heap.length → (s.heap ++ new)[b]? = s.heap[b]? := fun hb => List.getElem?_append_left hb
  have dead : ∀ {b : Nat} {x : Nat × List AV}, (List.replicate s.heap.length (none : Option (Nat × List AV)))[b]? = some (some x) → False := by
    intro b x hb
    rw [List.getElem?_replicate] at hb
    split at hb <;> simp at hb
  have hfr : ∀ c, c < w.heap.size → w'.heap[c]? = w.heap[c]? := fun c hc => ev.fr c hc (by
    rintro (⟨i, t⟩ | ⟨b, g, cs, o, n, t1, t2⟩)
    · simp at t
    · exact dead t1)
  let ρ₂ := backInj ρ ρ' s.heap.length
  have le2 : ρ.le ρ₂ := by
    refine ⟨fun b g x e => ?_, fun β c x e => ?_⟩
    · obtain ⟨c, o, n⟩ := x
      have := (m.dom b g c o n e).2.1
      simp only [ρ₂, backInj, if_pos this]; exact e
    · cases β with
      | true => simpa [ρ₂, backInj] using e
      | false => simpa [ρ₂, backInj] using ev.le.imm false c x (hle.imm false c x e)
  have mv : ∀ {ls x v}, RV ρ' ls x v → NB s.heap.length x → RV ρ₂ ls x v := fun r n => NB.move (fun b g x hb e => by simp only [ρ₂, backInj, if_neg (Nat.not_lt.2 hb)]; exact e) (fun c x e => by simpa [ρ₂, backInj] using e) r n
  have own' : ∀ {b g : Nat} {cs : List AV} {c o n : Nat}, s.heap.length ≤ b → (s.heap ++ new)[b]? = some (some (g, cs)) → ρ'.m b g = some (c, o, n) → w.heap.size ≤ c := by
    intro b g cs c o n hb h1 h2
    rw [← hnew hb] at h1
    rcases ev.own b g cs c o n h1 h2 with h | ⟨_, _, _, _, h, _⟩
    · exact h
    · exact (dead h).elim
  have lt_hp : ∀ {b g : Nat} {cs : List AV} {c o n : Nat}, ρ.m b g = some (c, o, n) → c < w.heap.size := fun e => (m.dom _ _ _ _ _ e).1
  have mem : RH ρ₂ ls s.loc (s.heap ++ new) w' := by
    refine ⟨?_, ?_, m.len, m.nod, ?_, ?_, ?_, ?_, ?_, ?_⟩
    · intro b g cs hb
      rcases Nat.lt_or_ge b s.heap.length with hlt | hge
      · rw [hold hlt] at hb
        obtain ⟨c, o, n, arr, T, fr, e1, e2, e3, e4, e5, e6⟩ := m.hp b g cs hb
        exact ⟨c, o, n, arr, T, fr, le2.m _ _ _ e1, by rw [hfr c (lt_hp (cs := cs) e1)]; exact e2, e3, e4, e5, fun i x hx => let ⟨y, g1, g2⟩ := e6 i x hx; ⟨y, g1, g2.mono le2 (.refl _)⟩⟩
      · have hb' := hb
        rw [← hnew hge] at hb
        obtain ⟨c, o, n, arr, T, fr, e1, e2, e3, e4, e5, e6⟩ := r2.hp b g cs hb
        refine ⟨c, o, n, arr, T, fr, by simp only [ρ₂, backInj, if_neg (Nat.not_lt.2 hge)]; exact e1, e2, e3, e4, e5, fun i x hx => let ⟨y, g1, g2⟩ := e6 i x hx; ⟨y, g1, mv g2 ?_⟩⟩
        rw [List.getElem?_append_right hge] at hb'
        exact nn _ g cs hb' x (List.mem_of_getElem? hx)
    · intro i cs hi
      obtain ⟨c, arr, T, fr, h1, h2, h3, h4, h5⟩ := m.lp i cs hi
      exact ⟨c, arr, T, fr, h1, by rw [hfr c (m.lt_loc h1)]; exact h2, h3, h4, fun j x hx => let ⟨y, e1, e2⟩ := h5 j x hx; ⟨y, e1, e2.mono le2 (.refl _)⟩⟩
    · intro b g cs b' g' cs' c o n o' n' hb hb' hm hm'
      simp only [ρ₂, backInj] at hm hm'
      rcases Nat.lt_or_ge b s.heap.length with hlt | hge <;> rcases Nat.lt_or_ge b' s.heap.length with hlt' | hge'
      · rw [if_pos hlt] at hm; rw [if_pos hlt'] at hm'
        rw [hold hlt] at hb; rw [hold hlt'] at hb'
        exact m.hh b g cs b' g' cs' c o n o' n' hb hb' hm hm'
      · rw [if_pos hlt] at hm; rw [if_neg (Nat.not_lt.2 hge')] at hm'
        have h1 := lt_hp (cs := cs) hm
        have h2 := own' hge' hb' hm'
        omega
      · rw [if_neg (Nat.not_lt.2 hge)] at hm; rw [if_pos hlt'] at hm'
        have h1 := lt_hp (cs := cs) hm'
        have h2 := own' hge hb hm
        omega
      · rw [if_neg (Nat.not_lt.2 hge)] at hm; rw [if_neg (Nat.not_lt.2 hge')] at hm'
        rw [← hnew hge] at hb; rw [← hnew hge'] at hb'
        exact r2.hh b g cs b' g' cs' c o n o' n' hb hb' hm hm'
    · intro b g cs c o n i hb hm hi
      simp only [ρ₂, backInj] at hm
      rcases Nat.lt_or_ge b s.heap.length with hlt | hge
      · rw [if_pos hlt] at hm; rw [hold hlt] at hb
        exact m.hl b g cs c o n i hb hm hi
      · rw [if_neg (Nat.not_lt.2 hge)] at hm
        have h1 := own' hge hb hm
        have h2 := m.lt_loc hi
        omega
    · intro β c arr hi
      cases β with
      | true =>
        simp only [ρ₂, backInj, if_true] at hi
        obtain ⟨T, fr, e⟩ := m.im true c arr hi
        exact ⟨T, fr, by rw [hfr c (m.lt_imm hi)]; exact e⟩
      | false => exact r2.im false c arr (by simpa [ρ₂, backInj] using hi)
    · intro β c arr i hi hl
      cases β with
      | true => exact m.iml true c arr i (by simpa [ρ₂, backInj] using hi) hl
      | false =>
        have := ev.imo false c arr (m.lt_loc hl) (by simpa [ρ₂, backInj] using hi)
        exact m.iml false c arr i (by simpa [viewInj] using this) hl
    · intro β c arr b g cs o n hi hb hm
      simp only [ρ₂, backInj] at hm
      rcases Nat.lt_or_ge b s.heap.length with hlt | hge
      · rw [if_pos hlt] at hm; rw [hold hlt] at hb
        have hc := lt_hp (cs := cs) hm
        cases β with
        | true => exact m.imh true c arr b g cs o n (by simpa [ρ₂, backInj] using hi) hb hm
        | false =>
          have := ev.imo false c arr hc (by simpa [ρ₂, backInj] using hi)
          exact m.imh false c arr b g cs o n (by simpa [viewInj] using this) hb hm
      · rw [if_neg (Nat.not_lt.2 hge)] at hm
        have h1 := own' hge hb hm
        cases β with
        | true =>
          have h2 := m.lt_imm (β := true) (c := c) (arr := arr) (by simpa [ρ₂, backInj] using hi)
          omega
        | false =>
          rw [← hnew hge] at hb
          exact r2.imh false c arr b g cs o n (by simpa [ρ₂, backInj] using hi) hb hm
    · intro b g c o n hm
      simp only [ρ₂, backInj] at hm
      rcases Nat.lt_or_ge b s.heap.length with hlt | hge
      · rw [if_pos hlt] at hm
        obtain ⟨d1, d2, d3⟩ := m.dom b g c o n hm
        exact ⟨Nat.lt_of_lt_of_le d1 ev.sz, by simp; omega, fun g' cs hb => d3 g' cs (by rwa [hold hlt] at hb)⟩
      · rw [if_neg (Nat.not_lt.2 hge)] at hm
        obtain ⟨d1, d2, d3⟩ := r2.dom b g c o n hm
        exact ⟨d1, by simpa using d2, fun g' cs hb => d3 g' cs (by rwa [← hnew hge] at hb)⟩
  refine ⟨cv, v, { s with heap := s.heap ++ new }, ρ₂, ls, rfl, rfl, (mv r1 nv).mono (.refl _) (.nil _), mem, ⟨le2, .refl _, ev.sz, fun c hc _ => hfr c hc, ?_, fun i c h => .inr h, ?_, by simp, ev.os, ev.out⟩, hk⟩
  · intro b g cs c o n hb hm
    simp only [ρ₂, backInj] at hm
    rcases Nat.lt_or_ge b s.heap.length with hlt | hge
    · rw [if_pos hlt] at hm
      exact .inr ⟨g, cs, o, n, by rwa [hold hlt] at hb, hm⟩
    · rw [if_neg (Nat.not_lt.2 hge)] at hm
      exact .inl (own' hge hb hm)
  · intro β c arr hc hi
    cases β with
    | true => simpa [ρ₂, backInj] using hi
    | false =>
      have := ev.imo false c arr hc (by simpa [ρ₂, backInj] using hi)
      simpa [viewInj] using this
theorem RV.ob {ρ : Inj} {base : Nat} (hd : ∀ b g x, ρ.m b g = some x → b < base) {ls x v} (r : RV ρ ls x v) : ls = [] → OBk base x := by
  induction r with
  | any => exact fun _ => .any
  | bool => exact fun _ => .bool _
  | int => exact fun _ => .int _ _
  | str => exact fun _ => .str _
  | nilp => exact fun _ => .nilp
  | nils => exact fun _ => .nils
  | nilf => exact fun _ => .nilf
  | opq => exact fun _ => .opq _
  | lp ls i off c h => intro hn; subst hn; simp at h
  | gp ls b g off c o n h => exact fun _ => .gp _ _ _ (hd _ _ _ h)
  | ip ls β cs c o f h r ih => exact fun _ => .ip _ _ (fun _ => rfl) (fun x hx => let ⟨j, hj⟩ := List.mem_iff_getElem?.1 hx; ih j x hj rfl)
  | gs ls b g off len cap sz ex c o n cap' h => exact fun _ => .gs _ _ _ _ _ _ _ (hd _ _ _ h)
  | gs0 ls b g off sz ex c o n a h => exact fun _ => .gs _ _ _ _ _ _ _ (hd _ _ _ h)
  | vs ls β sz ex xs c o cap' f h1 h2 h3 h4 r ih =>
    exact fun _ => .vs _ _ _ _ (fun _ => rfl) (fun l hl x hx => let ⟨i, hi⟩ := List.mem_iff_getElem?.1 hl; let ⟨j, hj⟩ := List.mem_iff_getElem?.1 hx; ih i l hi j x hj rfl)
  | vs0 => exact fun _ => .vs0 _ _ _
  | vsn => exact fun _ => .vs0 _ _ _
  | fn ls f first caps first' caps' h1 h2 r1 r2 ih1 ih2 =>
    exact fun hn => .fn _ _ _ (fun x hx => let ⟨j, hj⟩ := List.mem_iff_getElem?.1 hx; ih1 j x hj hn) (fun x hx => let ⟨j, hj⟩ := List.mem_iff_getElem?.1 hx; ih2 j x hj hn)
  | agg ls cs vs h1 r ih => exact fun hn => .agg _ (fun x hx => let ⟨j, hj⟩ := List.mem_iff_getElem?.1 hx; ih j x hj hn)
  | tup ls cs vs h1 r ih => exact fun hn => .tup _ (fun x hx => let ⟨j, hj⟩ := List.mem_iff_getElem?.1 hx; ih j x hj hn)
theorem OBk.move {ρ ρ' : Inj} {base : Nat} (hm : ∀ b g x, b < base → ρ.m b g = some x → ρ'.m b g = some x) (hi : ∀ β c x, ρ.imm β c = some x → ρ'.imm β c = some x) {ls x v} (r : RV ρ ls x v) :
    OBk base x → RV ρ' ls x v := by
  induction r with
  | any => exact fun _ => .any _ _
  | bool => exact fun _ => .bool _ _
  | int => exact fun _ => .int _ _ _
  | str => exact fun _ => .str _ _
  | nilp => exact fun _ => .nilp _
  | nils => exact fun _ => .nils _
  | nilf => exact fun _ => .nilf _
  | opq => exact fun _ => .opq _ _
  | lp => intro h; cases h
  | gp ls b g off c o n h => intro nb; cases nb with | gp _ _ _ hb => exact .gp _ b g off c o n (hm _ _ _ hb h)
  | ip ls β cs c o f h r ih =>
    intro nb
    cases nb with
    | ip _ _ hβ nr => exact .ip _ β cs c o f (fun j x hx => let ⟨arr, h1, h2⟩ := h j x hx; ⟨arr, hi _ _ _ h1, h2⟩) (fun j x hx => ih j x hx (nr x (List.mem_of_getElem? hx)))
  | gs ls b g off len cap sz ex c o n cap' h h1 h2 h3 h4 => intro nb; cases nb with | gs _ _ _ _ _ _ _ hb => exact .gs _ b g off len cap sz ex c o n cap' (hm _ _ _ hb h) h1 h2 h3 h4
  | gs0 ls b g off sz ex c o n a h => intro nb; cases nb with | gs _ _ _ _ _ _ _ hb => exact .gs0 _ b g off sz ex c o n a (hm _ _ _ hb h)
  | vs ls β sz ex xs c o cap' f h1 h2 h3 h4 r ih =>
    intro nb
    cases nb with
    | vs _ _ _ _ hβ nr => exact .vs _ β sz ex xs c o cap' f h1 h2 h3 (fun i l hl j x hx => let ⟨arr, e1, e2⟩ := h4 i l hl j x hx; ⟨arr, hi _ _ _ e1, e2⟩) (fun i l hl j x hx => ih i l hl j x hx (nr l (List.mem_of_getElem? hl) x (List.mem_of_getElem? hx)))
    | vs0 => exact .vs0 _ β sz ex _ cap' (fun h => by simpa using h2 h)
  | vs0 ls β sz ex a cap' h2 => exact fun _ => .vs0 _ β sz ex a cap' h2
  | vsn ls β sz ex => exact fun _ => .vsn _ β sz ex
  | fn ls f first caps first' caps' h1 h2 r1 r2 ih1 ih2 =>
    intro nb
    cases nb with
    | fn _ _ _ n1 n2 => exact .fn _ f first caps first' caps' h1 h2 (fun i x hx => ih1 i x hx (n1 x (List.mem_of_getElem? hx))) (fun i x hx => ih2 i x hx (n2 x (List.mem_of_getElem? hx)))
  | agg ls cs vs h1 r ih => intro nb; cases nb with | agg _ n1 => exact .agg _ cs vs h1 (fun i x hx => ih i x hx (n1 x (List.mem_of_getElem? hx)))
  | tup ls cs vs h1 r ih => intro nb; cases nb with | tup _ n1 => exact .tup _ cs vs h1 (fun i x hx => ih i x hx (n1 x (List.mem_of_getElem? hx)))
inductive Frz (base : Nat) (h : AH) : AV → AV → Prop
  | same (x : AV) (hx : OBk base x) : Frz base h x x
  | any (x : AV) : Frz base h x .any
  | nil (sz : Nat) (ex : Bool) : Frz base h .nils (.vs false sz ex [])
  | gp (b g off : Nat) (cells cs : List AV) (f : Nat → AV) (hb : base ≤ b) (h1 : h[b]? = some (some (g, cells)))
      (h2 : ∀ (j : Nat) (x : AV), cs[j]? = some x → cells[off + j]? = some (f j)) (r : ∀ (j : Nat) (x : AV), cs[j]? = some x → Frz base h (f j) x) : Frz base h (.gp b g off) (.ip false cs)
  | gs (b g off len cap sz : Nat) (ex ex' : Bool) (cells : List AV) (xs : List (List AV)) (f : Nat → Nat → AV) (hb : base ≤ b) (h1 : h[b]? = some (some (g, cells))) (h2 : xs.length = len)
      (h3 : ex' = true → ex = true ∧ cap = len) (h4 : ∀ (i : Nat) (l : List AV), xs[i]? = some l → l.length = sz)
      (h5 : ∀ (i : Nat) (l : List AV), xs[i]? = some l → ∀ (j : Nat) (x : AV), l[j]? = some x → cells[off + (i * sz + j)]? = some (f i j))
      (r : ∀ (i : Nat) (l : List AV), xs[i]? = some l → ∀ (j : Nat) (x : AV), l[j]? = some x → Frz base h (f i j) x) : Frz base h (.gs b g off len cap sz ex) (.vs false sz ex' xs)
  | agg (xs ys : List AV) (h1 : xs.length = ys.length) (f : Nat → AV) (h2 : ∀ (i : Nat) (y : AV), ys[i]? = some y → xs[i]? = some (f i)) (r : ∀ (i : Nat) (y : AV), ys[i]? = some y → Frz base h (f i) y) : Frz base h (.agg xs) (.agg ys)
  | tup (xs ys : List AV) (h1 : xs.length = ys.length) (f : Nat → AV) (h2 : ∀ (i : Nat) (y : AV), ys[i]? = some y → xs[i]? = some (f i)) (r : ∀ (i : Nat) (y : AV), ys[i]? = some y → Frz base h (f i) y) : Frz base h (.tup xs) (.tup ys)
open Classical in
noncomputable def frzInj (ρ : Inj) (base : Nat) (h : AH) (w : World) : Inj where
  m := fun b g => if b < base then ρ.m b g else none
  imm := fun β c => if β = true then ρ.imm true c else if (ρ.imm false c).isSome = true then ρ.imm false c else if ∃ b g cs o n, base ≤ b ∧ h[b]? = some (some (g, cs)) ∧ ρ.m b g = some (c, o, n) then some (arrOf w c) else none
theorem frz_imm {ρ : Inj} {base : Nat} {h : AH} {w : World} : ∀ β c x, ρ.imm β c = some x → (frzInj ρ base h w).imm β c = some x := by
  intro β c x e
  cases β <;> simp [frzInj, e]
theorem frz_heap {ρ : Inj} {base : Nat} {ls L h w} (m : RH ρ ls L h w) {b g cs c o n} (hge : base ≤ b) (hb : h[b]? = some (some (g, cs))) (hm : ρ.m b g = some (c, o, n)) : (frzInj ρ base h w).imm false c = some (arrOf w c) := by
  have : (ρ.imm false c).isSome = false := by
    cases hi : ρ.imm false c with
    | none => rfl
    | some arr => exact absurd hm (m.imh false c arr b g cs o n hi hb)
  simp only [frzInj, Bool.false_eq_true, if_false]
  rw [if_neg (by simp [this]), if_pos ⟨b, g, cs, o, n, hge, hb, hm⟩]
theorem Frz.rv {ρ : Inj} {base : Nat} {ls L h w} (m : RH ρ ls L h w) {x y : AV} (s : Frz base h x y) : ∀ {v}, RV ρ [] x v → RV (frzInj ρ base h w) [] y v := by
  induction s with
  | same x hx => exact fun r => OBk.move (fun b g x hb e => by simp only [frzInj, if_pos hb]; exact e) frz_imm r hx
  | any x => exact fun _ => .any _ _
  | nil sz ex =>
    intro v rv
    cases rv
    exact .vsn _ _ _ _
  | gp b g off cells cs f hge h1 h2 r ih =>
    intro v rv
    cases rv with
    | gp _ _ _ _ c o n hm =>
      obtain ⟨c', o', n', arr', T, fr, e1, e2, e3, e4, e5, e6⟩ := m.hp b g cells h1
      rw [hm] at e1
      injection e1 with e1
      simp only [Prod.mk.injEq] at e1
      obtain ⟨rfl, rfl, rfl⟩ := e1
      have hi := frz_heap m hge h1 hm
      simp only [arrOf, e2] at hi
      refine .ip _ false cs c (o + off) (fun j => arr'.getD (o + off + j) undef) (fun j x hx => ⟨arr', hi, ?_⟩) (fun j x hx => ?_)
      · obtain ⟨y, g1, g2⟩ := e6 (off + j) _ (h2 j x hx)
        rw [Nat.add_assoc, g1]; simp [Array.getD_eq_getD_getElem?, Nat.add_assoc, g1]
      · obtain ⟨y, g1, g2⟩ := e6 (off + j) _ (h2 j x hx)
        have := ih j x hx g2
        simpa [Array.getD_eq_getD_getElem?, Nat.add_assoc, g1] using this
  | gs b g off len cap sz ex ex' cells xs f hge h1 h2 h3 h4 h5 r ih =>
    intro v rv
    cases rv with
    | gs _ _ _ _ _ _ _ _ c o n cap' hm k1 k2 k3 k4 =>
      obtain ⟨c', o', n', arr', T, fr, e1, e2, e3, e4, e5, e6⟩ := m.hp b g cells h1
      rw [hm] at e1
      injection e1 with e1
      simp only [Prod.mk.injEq] at e1
      obtain ⟨rfl, rfl, rfl⟩ := e1
      have hi := frz_heap m hge h1 hm
      simp only [arrOf, e2] at hi
      subst h2
      refine .vs _ false sz ex' xs c (o + off) cap' (fun i j => arr'.getD (o + off + (i * sz + j)) undef) (by omega) (fun hx => by have := h3 hx; rw [k3 this.1, this.2]) h4
        (fun i l hl j x hx => ⟨arr', hi, ?_⟩) (fun i l hl j x hx => ?_)
      · obtain ⟨y, g1, g2⟩ := e6 (off + (i * sz + j)) _ (h5 i l hl j x hx)
        rw [← Nat.add_assoc] at g1
        rw [g1]; simp [Array.getD_eq_getD_getElem?, g1]
      · obtain ⟨y, g1, g2⟩ := e6 (off + (i * sz + j)) _ (h5 i l hl j x hx)
        rw [← Nat.add_assoc] at g1
        have := ih i l hl j x hx g2
        simpa [Array.getD_eq_getD_getElem?, g1] using this
    | gs0 _ _ _ _ _ _ c o n a hm =>
      have : xs = [] := List.length_eq_zero_iff.1 h2
      subst this
      exact .vs0 _ false sz ex' a 0 (fun _ => rfl)
  | agg xs ys h1 f h2 r ih =>
    intro v rv
    cases rv with
    | agg _ _ vs k1 kr => exact .agg _ _ _ (by omega) (fun i y hy => ih i y hy (kr i _ (h2 i y hy)))
  | tup xs ys h1 f h2 r ih =>
    intro v rv
    cases rv with
    | tup _ _ vs k1 kr => exact .tup _ _ _ (by omega) (fun i y hy => ih i y hy (kr i _ (h2 i y hy)))
theorem T.freeze {f : FuncId} {args : List AV} {h : AH} {Q K : AV → AH → Prop} (t : T P Γ f args h Q)
    (hq : ∀ v h', Q v h' → ∃ h₁ new v', h' = h₁ ++ new ∧ h₁.length = h.length ∧ (∀ (b g : Nat) (cs : List AV), h₁[b]? = some (some (g, cs)) → h[b]? = some (some (g, cs)) ∨ ∀ x ∈ cs, OBk h.length x) ∧ Frz h.length h' v v' ∧ K v' h₁) :
    T P Γ f args h K := by
  refine ⟨t.1, fun ρ w cargs m gk ra => (t.2 ρ w cargs m gk ra).mono ?_⟩
  rintro e w' ⟨v, cv, ρ', h', rfl, r1, r2, ev, q⟩
  obtain ⟨h₁, new, v', rfl, hl, hob, hf, hk⟩ := hq _ _ q
  let ρ₂ := frzInj ρ' h.length (h₁ ++ new) w'
  have hold : ∀ {b : Nat} {x : Option (Nat × List AV)}, h₁[b]? = some x → b < h.length ∧ (h₁ ++ new)[b]? = some x := by
    intro b x hb
    have := getElem?_lt hb
    exact ⟨by omega, by rw [List.getElem?_append_left this]; exact hb⟩
  have hm2 : ∀ {b g : Nat} {x : Nat × Nat × Nat}, ρ₂.m b g = some x → b < h.length ∧ ρ'.m b g = some x := by
    intro b g x hx
    simp only [ρ₂, frzInj] at hx
    split at hx
    · exact ⟨by assumption, hx⟩
    · cases hx
  have hm2' : ∀ {b g : Nat} {x : Nat × Nat × Nat}, b < h.length → ρ'.m b g = some x → ρ₂.m b g = some x := by
    intro b g x hb hx
    simp only [ρ₂, frzInj, if_pos hb]; exact hx
  have imm2 : ∀ β c arr, ρ₂.imm β c = some arr → ρ'.imm β c = some arr ∨ (β = false ∧ ∃ b g cs o n, h.length ≤ b ∧ (h₁ ++ new)[b]? = some (some (g, cs)) ∧ ρ'.m b g = some (c, o, n)) := by
    intro β c arr hi
    cases β with
    | true => exact .inl (by simpa [ρ₂, frzInj] using hi)
    | false =>
      simp only [ρ₂, frzInj, Bool.false_eq_true, if_false] at hi
      split at hi
      · exact .inl hi
      · split at hi
        · exact .inr ⟨rfl, by assumption⟩
        · cases hi
  refine ⟨v', cv, ρ₂, h₁, rfl, hf.rv r2 r1, ⟨?_, fun i cs hi => by simp at hi, rfl, fun i j c h => by simp at h, ?_, fun _ _ _ _ _ _ _ _ _ h => by simp at h, ?_, fun _ _ _ _ _ h => by simp at h, ?_, ?_⟩, ⟨⟨?_, ?_⟩, .refl _, ev.sz, ev.fr, ?_, fun i c h => by simp at h, ?_, by omega, ev.os, ev.out⟩, hk⟩
  · intro b g cs hb
    obtain ⟨hlt, hb'⟩ := hold hb
    obtain ⟨c, o, n, arr, T, fr, e1, e2, e3, e4, e5, e6⟩ := r2.hp b g cs hb'
    refine ⟨c, o, n, arr, T, fr, hm2' hlt e1, e2, e3, e4, e5, fun i x hx => let ⟨y, g1, g2⟩ := e6 i x hx; ⟨y, g1, OBk.move (fun b g x hb e => hm2' hb e) frz_imm g2 ?_⟩⟩
    rcases hob b g cs hb with h1 | h1
    · obtain ⟨_, _, _, _, _, _, _, _, _, _, _, k6⟩ := m.hp b g cs h1
      obtain ⟨y', _, k⟩ := k6 i x hx
      exact k.ob (fun b g x e => (m.dom b g _ _ _ e).2.1) rfl
    · exact h1 x (List.mem_of_getElem? hx)
  · intro b g cs b' g' cs' c o n o' n' hb hb' hm hm'
    exact r2.hh b g cs b' g' cs' c o n o' n' (hold hb).2 (hold hb').2 (hm2 hm).2 (hm2 hm').2
  · intro β c arr hi
    simp only [ρ₂, frzInj] at hi
    cases β with
    | true => exact r2.im true c arr (by simpa using hi)
    | false =>
      simp only [Bool.false_eq_true, if_false] at hi
      split at hi
      · exact r2.im false c arr hi
      · split at hi
        · rename_i hx
          obtain ⟨b, g, cs, o, n, h0, h1, h2⟩ := hx
          obtain ⟨c', o', n', arr', T, fr, e1, e2, _⟩ := r2.hp b g cs h1
          rw [h2] at e1
          injection e1 with e1
          injection e1 with e1 e3
          subst e1
          simp only [arrOf, e2] at hi
          injection hi with hi
          subst hi
          exact ⟨T, fr, e2⟩
        · cases hi
  · intro β c arr b g cs o n hi hb hm
    rcases imm2 β c arr hi with h1 | ⟨_, b', g', cs', o', n', k0, k1, k2⟩
    · exact r2.imh β c arr b g cs o n h1 (hold hb).2 (hm2 hm).2
    · have := r2.hh b g cs b' g' cs' c o n o' n' (hold hb).2 k1 (hm2 hm).2 k2
      have := (hold hb).1
      omega
  · intro b g c o n hm
    obtain ⟨hlt, hm⟩ := hm2 hm
    obtain ⟨d1, d2, d3⟩ := r2.dom b g c o n hm
    exact ⟨d1, by omega, fun g' cs hb => d3 g' cs (hold hb).2⟩
  · intro b g x e
    exact hm2' (m.dom b g _ _ _ e).2.1 (ev.le.m _ _ _ e)
  · intro β c x e
    exact frz_imm _ _ _ (ev.le.imm _ _ _ e)
  · intro b g cs c o n hb hm
    exact ev.own b g cs c o n (hold hb).2 (hm2 hm).2
  · intro β c arr hc hi
    rcases imm2 β c arr hi with h1 | ⟨_, b', g', cs', o', n', k0, k1, k2⟩
    · exact ev.imo β c arr hc h1
    · rcases ev.own b' g' cs' c o' n' k1 k2 with h1 | ⟨g0, cs0, o0, n0, h1, h2⟩
      · omega
      · have := getElem?_lt h1; omega
end
end Go.AM
