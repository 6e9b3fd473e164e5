import Derived.Test.YteaebikmfmggbaaDoorAmDefs
set_option linter.unusedVariables false
set_option linter.unusedSimpArgs false
namespace Go.AM
structure Inj where
  m : Nat → Nat → Option (Nat × Nat × Nat)
  imm : Bool → Nat → Option (Array Value)
inductive RV (ρ : Inj) : List Nat → AV → Value → Prop
  | any (ls : List Nat) (v : Value) : RV ρ ls .any v
  | bool (ls : List Nat) (b : Bool) : RV ρ ls (.bool b) (.bool b)
  | int (ls : List Nat) (k : IntKind) (n : Int) : RV ρ ls (.int k n) (.int k n)
  | str (ls : List Nat) (s : ByteArray) : RV ρ ls (.str s) (.string s)
  | nilp (ls : List Nat) : RV ρ ls .nilp (.pointer none)
  | nils (ls : List Nat) : RV ρ ls .nils (.slice none 0 0)
  | nilf (ls : List Nat) : RV ρ ls .nilf .nilFunc
  | opq (ls : List Nat) (v : Value) : RV ρ ls (.opq v) v
  | lp (ls : List Nat) (i off c : Nat) (h : ls[i]? = some c) : RV ρ ls (.lp i off) (.pointer (some ⟨c, off, none⟩))
  | gp (ls : List Nat) (b g off c o n : Nat) (h : ρ.m b g = some (c, o, n)) : RV ρ ls (.gp b g off) (.pointer (some ⟨c, o + off, none⟩))
  | ip (ls : List Nat) (β : Bool) (cs : List AV) (c o : Nat) (f : Nat → Value)
      (h : ∀ (j : Nat) (x : AV), cs[j]? = some x → ∃ arr, ρ.imm β c = some arr ∧ arr[o + j]? = some (f j))
      (r : ∀ (j : Nat) (x : AV), cs[j]? = some x → RV ρ [] x (f j)) : RV ρ ls (.ip β cs) (.pointer (some ⟨c, o, none⟩))
  | gs (ls : List Nat) (b g off len cap sz : Nat) (ex : Bool) (c o n cap' : Nat) (h : ρ.m b g = some (c, o, n)) (h1 : len ≤ cap) (h2 : cap ≤ cap')
      (h3 : ex = true → cap' = cap) (h4 : o + off + cap' * sz ≤ n) : RV ρ ls (.gs b g off len cap sz ex) (.slice (some ⟨c, o + off, none⟩) len cap')
  | gs0 (ls : List Nat) (b g off sz : Nat) (ex : Bool) (c o n : Nat) (a : Addr) (h : ρ.m b g = some (c, o, n)) : RV ρ ls (.gs b g off 0 0 sz ex) (.slice (some a) 0 0)
  | vs (ls : List Nat) (β : Bool) (sz : Nat) (ex : Bool) (xs : List (List AV)) (c o cap' : Nat) (f : Nat → Nat → Value) (h1 : xs.length ≤ cap')
      (h2 : ex = true → cap' = xs.length)
      (h3 : ∀ (i : Nat) (l : List AV), xs[i]? = some l → l.length = sz)
      (h4 : ∀ (i : Nat) (l : List AV), xs[i]? = some l → ∀ (j : Nat) (x : AV), l[j]? = some x → ∃ arr, ρ.imm β c = some arr ∧ arr[o + (i * sz + j)]? = some (f i j))
      (r : ∀ (i : Nat) (l : List AV), xs[i]? = some l → ∀ (j : Nat) (x : AV), l[j]? = some x → RV ρ [] x (f i j)) :
      RV ρ ls (.vs β sz ex xs) (.slice (some ⟨c, o, none⟩) xs.length cap')
  | vs0 (ls : List Nat) (β : Bool) (sz : Nat) (ex : Bool) (a : Addr) (cap' : Nat) (h2 : ex = true → cap' = 0) : RV ρ ls (.vs β sz ex []) (.slice (some a) 0 cap')
  | vsn (ls : List Nat) (β : Bool) (sz : Nat) (ex : Bool) : RV ρ ls (.vs β sz ex []) (.slice none 0 0)
  | fn (ls : List Nat) (f : FuncId) (first caps : List AV) (first' caps' : Array Value) (h1 : first.length = first'.size) (h2 : caps.length = caps'.size)
      (r1 : ∀ (i : Nat) (x : AV), first[i]? = some x → RV ρ ls x (first'.getD i default))
      (r2 : ∀ (i : Nat) (x : AV), caps[i]? = some x → RV ρ ls x (caps'.getD i default)) : RV ρ ls (.fn f first caps) (.func (.func f) first' caps')
  | agg (ls : List Nat) (cs : List AV) (vs : Array Value) (h1 : cs.length = vs.size)
      (r : ∀ (i : Nat) (x : AV), cs[i]? = some x → RV ρ ls x (vs.getD i default)) : RV ρ ls (.agg cs) (.agg vs)
  | tup (ls : List Nat) (cs : List AV) (vs : Array Value) (h1 : cs.length = vs.size)
      (r : ∀ (i : Nat) (x : AV), cs[i]? = some x → RV ρ ls x (vs.getD i default)) : RV ρ ls (.tup cs) (.tuple vs)
def RVs (ρ : Inj) (ls : List Nat) (cs : List AV) (vs : List Value) : Prop :=
  cs.length = vs.length ∧ ∀ (i : Nat) (x : AV), cs[i]? = some x → RV ρ ls x (vs.getD i default)
structure Inj.le (ρ ρ' : Inj) : Prop where
  m : ∀ b g x, ρ.m b g = some x → ρ'.m b g = some x
  imm : ∀ β c x, ρ.imm β c = some x → ρ'.imm β c = some x
theorem Inj.le.refl (ρ : Inj) : ρ.le ρ := ⟨fun _ _ _ h => h, fun _ _ _ h => h⟩
theorem Inj.le.trans {ρ ρ' ρ'' : Inj} (h : ρ.le ρ') (h' : ρ'.le ρ'') : ρ.le ρ'' := ⟨fun _ _ _ e => h'.m _ _ _ (h.m _ _ _ e), fun _ _ _ e => h'.imm _ _ _ (h.imm _ _ _ e)⟩
def Ext (ls ls' : List Nat) : Prop := ∀ (i c : Nat), ls[i]? = some c → ls'[i]? = some c
theorem Ext.refl (ls : List Nat) : Ext ls ls := fun _ _ h => h
theorem Ext.nil (ls : List Nat) : Ext [] ls := fun _ _ h => by simp at h
theorem Ext.trans {a b c : List Nat} (h : Ext a b) (h' : Ext b c) : Ext a c := fun i x e => h' i x (h i x e)
theorem Ext.snoc (ls : List Nat) (c : Nat) : Ext ls (ls ++ [c]) := fun i x h => by
  rw [List.getElem?_append_left (by
    rcases Nat.lt_or_ge i ls.length with h' | h'
    · exact h'
    · simp [List.getElem?_eq_none h'] at h)]
  exact h
theorem RV.mono {ρ ρ' : Inj} (hρ : ρ.le ρ') {ls : List Nat} {x : AV} {v : Value} (h : RV ρ ls x v) : ∀ {ls' : List Nat}, Ext ls ls' → RV ρ' ls' x v := by
  induction h with
  | any => exact fun _ => .any _ _
  | bool => exact fun _ => .bool _ _
  | int => exact fun _ => .int _ _ _
  | str => exact fun _ => .str _ _
  | nilp => exact fun _ => .nilp _
  | nils => exact fun _ => .nils _
  | nilf => exact fun _ => .nilf _
  | opq => exact fun _ => .opq _ _
  | lp ls i off c h => exact fun hl => .lp _ i off c (hl i c h)
  | gp ls b g off c o n h => exact fun _ => .gp _ b g off c o n (hρ.m _ _ _ h)
  | ip ls β cs c o f h r ih => exact fun _ => .ip _ β cs c o f (fun j x hx => let ⟨arr, h1, h2⟩ := h j x hx; ⟨arr, hρ.imm _ _ _ h1, h2⟩) (fun j x hx => ih j x hx (Ext.refl _))
  | gs ls b g off len cap sz ex c o n cap' h h1 h2 h3 h4 => exact fun _ => .gs _ b g off len cap sz ex c o n cap' (hρ.m _ _ _ h) h1 h2 h3 h4
  | gs0 ls b g off sz ex c o n a h => exact fun _ => .gs0 _ b g off sz ex c o n a (hρ.m _ _ _ h)
  | vs ls β sz ex xs c o cap' f h1 h2 h3 h4 r ih =>
    exact fun _ => .vs _ β sz ex xs c o cap' f h1 h2 h3 (fun i l hi j x hx => let ⟨arr, e1, e2⟩ := h4 i l hi j x hx; ⟨arr, hρ.imm _ _ _ e1, e2⟩)
      (fun i l hi j x hx => ih i l hi j x hx (Ext.refl _))
  | vs0 ls β sz ex a cap' h2 => exact fun _ => .vs0 _ β sz ex a cap' h2
  | vsn ls β sz ex => exact fun _ => .vsn _ β sz ex
  | fn ls f first caps first' caps' h1 h2 r1 r2 ih1 ih2 => exact fun hl => .fn _ f first caps first' caps' h1 h2 (fun i x hx => ih1 i x hx hl) (fun i x hx => ih2 i x hx hl)
  | agg ls cs vs h1 r ih => exact fun hl => .agg _ cs vs h1 (fun i x hx => ih i x hx hl)
  | tup ls cs vs h1 r ih => exact fun hl => .tup _ cs vs h1 (fun i x hx => ih i x hx hl)
theorem RV.noLp1 {ρ : Inj} {ls : List Nat} {x : AV} {v : Value} (h : RV ρ ls x v) (hx : Go.AM.noLp1 x = true) (ls' : List Nat) : RV ρ ls' x v := by
  cases h with
  | any => simp [Go.AM.noLp1] at hx
  | bool => exact .bool _ _
  | int => exact .int _ _ _
  | str => exact .str _ _
  | nilp => exact .nilp _
  | nils => exact .nils _
  | nilf => exact .nilf _
  | opq => exact .opq _ _
  | lp => simp [Go.AM.noLp1] at hx
  | gp => exact .gp _ _ _ _ _ _ _ (by assumption)
  | ip _ β cs c o f h r => exact .ip _ β cs c o f h r
  | gs _ b g off len cap sz ex c o n cap' h h1 h2 h3 h4 => exact .gs _ b g off len cap sz ex c o n cap' h h1 h2 h3 h4
  | gs0 _ b g off sz ex c o n a h => exact .gs0 _ b g off sz ex c o n a h
  | vs _ β sz ex xs c o cap' f h1 h2 h3 h4 r => exact .vs _ β sz ex xs c o cap' f h1 h2 h3 h4 r
  | vs0 _ β sz ex a cap' h2 => exact .vs0 _ β sz ex a cap' h2
  | vsn _ β sz ex => exact .vsn _ β sz ex
  | fn => simp [Go.AM.noLp1] at hx
  | agg => simp [Go.AM.noLp1] at hx
  | tup => simp [Go.AM.noLp1] at hx
theorem RV.noLp {ρ : Inj} {ls : List Nat} {x : AV} {v : Value} (h : RV ρ ls x v) (hx : Go.AM.noLp x = true) (ls' : List Nat) : RV ρ ls' x v := by
  cases h with
  | any => simp [Go.AM.noLp] at hx
  | bool => exact .bool _ _
  | int => exact .int _ _ _
  | str => exact .str _ _
  | nilp => exact .nilp _
  | nils => exact .nils _
  | nilf => exact .nilf _
  | opq => exact .opq _ _
  | lp => simp [Go.AM.noLp] at hx
  | gp => exact .gp _ _ _ _ _ _ _ (by assumption)
  | ip _ β cs c o f h r => exact .ip _ β cs c o f h r
  | gs _ b g off len cap sz ex c o n cap' h h1 h2 h3 h4 => exact .gs _ b g off len cap sz ex c o n cap' h h1 h2 h3 h4
  | gs0 _ b g off sz ex c o n a h => exact .gs0 _ b g off sz ex c o n a h
  | vs _ β sz ex xs c o cap' f h1 h2 h3 h4 r => exact .vs _ β sz ex xs c o cap' f h1 h2 h3 h4 r
  | vs0 _ β sz ex a cap' h2 => exact .vs0 _ β sz ex a cap' h2
  | vsn _ β sz ex => exact .vsn _ β sz ex
  | fn _ f first caps first' caps' h1 h2 r1 r2 =>
    simp only [Go.AM.noLp, Bool.and_eq_true, List.all_eq_true] at hx
    exact .fn _ f first caps first' caps' h1 h2 (fun i x h => (r1 i x h).noLp1 (hx.1 x (List.mem_of_getElem? h)) ls') (fun i x h => (r2 i x h).noLp1 (hx.2 x (List.mem_of_getElem? h)) ls')
  | agg => simp [Go.AM.noLp] at hx
  | tup => simp [Go.AM.noLp] at hx
theorem RV.oneCell {ρ : Inj} {ls : List Nat} {x : AV} {v : Value} (h : RV ρ ls x v) (hx : isCell x = true) : v.oneCell' = true := by
  cases h <;> first | rfl | (simp [isCell] at hx; done) | (simpa [isCell] using hx)
theorem isCell_of_noLp {x : AV} (h : noLp x = true) : isCell x = true := by
  cases x <;> simp_all [noLp, isCell]
def unfrozen (arr : Array Value) (fr : Nat × Nat) : Prop := fr.2 ≤ fr.1 ∨ arr.size ≤ fr.1
def Lies (ρ : Inj) (ls : List Nat) (arr : Array Value) (o : Nat) (cs : List AV) : Prop :=
  ∀ (i : Nat) (x : AV), cs[i]? = some x → ∃ y, arr[o + i]? = some y ∧ RV ρ ls x y
structure RH (ρ : Inj) (ls : List Nat) (L : List (List AV)) (h : AH) (w : World) : Prop where
  hp : ∀ (b g : Nat) (cs : List AV), h[b]? = some (some (g, cs)) → ∃ c o n arr T fr, ρ.m b g = some (c, o, n) ∧ w.heap[c]? = some (Obj.cells arr T fr) ∧ arr.size = n ∧ unfrozen arr fr ∧ o + cs.length ≤ n ∧ Lies ρ [] arr o cs
  lp : ∀ (i : Nat) (cs : List AV), L[i]? = some cs → ∃ c arr T fr, ls[i]? = some c ∧ w.heap[c]? = some (Obj.cells arr T fr) ∧ unfrozen arr fr ∧ arr.size = cs.length ∧ Lies ρ ls arr 0 cs
  len : ls.length = L.length
  nod : ∀ (i j c : Nat), ls[i]? = some c → ls[j]? = some c → i = j
  hh : ∀ (b g : Nat) (cs : List AV) (b' g' : Nat) (cs' : List AV) (c o n o' n' : Nat), h[b]? = some (some (g, cs)) → h[b']? = some (some (g', cs')) → ρ.m b g = some (c, o, n) → ρ.m b' g' = some (c, o', n') → b = b'
  hl : ∀ (b g : Nat) (cs : List AV) (c o n i : Nat), h[b]? = some (some (g, cs)) → ρ.m b g = some (c, o, n) → ls[i]? ≠ some c
  im : ∀ β c arr, ρ.imm β c = some arr → ∃ T fr, w.heap[c]? = some (Obj.cells arr T fr)
  iml : ∀ (β : Bool) (c : Nat) (arr : Array Value) (i : Nat), ρ.imm β c = some arr → ls[i]? ≠ some c
  imh : ∀ (β : Bool) (c : Nat) (arr : Array Value) (b g : Nat) (cs : List AV) (o n : Nat), ρ.imm β c = some arr → h[b]? = some (some (g, cs)) → ρ.m b g ≠ some (c, o, n)
  dom : ∀ (b g c o n : Nat), ρ.m b g = some (c, o, n) → c < w.heap.size ∧ b < h.length ∧ ∀ g' cs, h[b]? = some (some (g', cs)) → g ≤ g'
def touch (ρ : Inj) (ls : List Nat) (h : AH) (c : Nat) : Prop := (∃ i : Nat, ls[i]? = some c) ∨ ∃ (b g : Nat) (cs : List AV) (o n : Nat), h[b]? = some (some (g, cs)) ∧ ρ.m b g = some (c, o, n)
structure Evo (ρ : Inj) (ls : List Nat) (h : AH) (w : World) (ρ' : Inj) (ls' : List Nat) (h' : AH) (w' : World) : Prop where
  le : ρ.le ρ'
  ext : Ext ls ls'
  sz : w.heap.size ≤ w'.heap.size
  fr : ∀ c, c < w.heap.size → ¬ touch ρ ls h c → w'.heap[c]? = w.heap[c]?
  own : ∀ (b g : Nat) (cs : List AV) (c o n : Nat), h'[b]? = some (some (g, cs)) → ρ'.m b g = some (c, o, n) →
    w.heap.size ≤ c ∨ ∃ (g₀ : Nat) (cs₀ : List AV) (o₀ n₀ : Nat), h[b]? = some (some (g₀, cs₀)) ∧ ρ.m b g₀ = some (c, o₀, n₀)
  ownl : ∀ (i c : Nat), ls'[i]? = some c → w.heap.size ≤ c ∨ ls[i]? = some c
  imo : ∀ β c arr, c < w.heap.size → ρ'.imm β c = some arr → ρ.imm β c = some arr
  len : h.length ≤ h'.length
  os : w'.os = w.os
  out : w'.output = w.output
theorem Evo.touch {ρ ls h w ρ' ls' h' w'} (e : Evo ρ ls h w ρ' ls' h' w') {c : Nat} (hc : c < w.heap.size) (t : Go.AM.touch ρ' ls' h' c) : Go.AM.touch ρ ls h c := by
  rcases t with ⟨i, t⟩ | ⟨b, g, cs, o, n, t1, t2⟩
  · rcases e.ownl i c t with h1 | h1
    · omega
    · exact .inl ⟨i, h1⟩
  · rcases e.own b g cs c o n t1 t2 with h1 | ⟨g0, cs0, o0, n0, h1, h2⟩
    · omega
    · exact .inr ⟨b, g0, cs0, o0, n0, h1, h2⟩
theorem Evo.refl (ρ : Inj) (ls : List Nat) (h : AH) (w : World) : Evo ρ ls h w ρ ls h w :=
  ⟨.refl _, .refl _, Nat.le_refl _, fun _ _ _ => rfl, fun _ _ _ _ _ _ h m => .inr ⟨_, _, _, _, h, m⟩, fun _ _ h => .inr h, fun _ _ _ _ e => e, Nat.le_refl _, rfl, rfl⟩
theorem Evo.trans {ρ ls h w ρ' ls' h' w' ρ'' ls'' h'' w''} (e : Evo ρ ls h w ρ' ls' h' w') (e' : Evo ρ' ls' h' w' ρ'' ls'' h'' w'') : Evo ρ ls h w ρ'' ls'' h'' w'' :=
  ⟨e.le.trans e'.le, e.ext.trans e'.ext, Nat.le_trans e.sz e'.sz,
   fun c hc ht => (e'.fr c (Nat.lt_of_lt_of_le hc e.sz) (fun t => ht (e.touch hc t))).trans (e.fr c hc ht),
   fun b g cs c o n h1 m1 => by
    rcases e'.own b g cs c o n h1 m1 with h2 | ⟨g0, cs0, o0, n0, h2, m2⟩
    · exact .inl (Nat.le_trans e.sz h2)
    · exact e.own b g0 cs0 c o0 n0 h2 m2,
   fun i c h1 => by
    rcases e'.ownl i c h1 with h2 | h2
    · exact .inl (Nat.le_trans e.sz h2)
    · exact e.ownl i c h2,
   fun β c arr hc m => e.imo β c arr hc (e'.imo β c arr (Nat.lt_of_lt_of_le hc e.sz) m),
   Nat.le_trans e.len e'.len, e'.os.trans e.os, e'.out.trans e.out⟩
theorem RH.heap_eq {ρ ls L h w w'} (r : RH ρ ls L h w) (e : w'.heap = w.heap) : RH ρ ls L h w' :=
  ⟨by rw [e]; exact r.hp, by rw [e]; exact r.lp, r.len, r.nod, r.hh, r.hl, by rw [e]; exact r.im, r.iml, r.imh, by rw [e]; exact r.dom⟩
theorem Evo.heap_eq {ρ ls h w w'} (e : w'.heap = w.heap) (eo : w'.os = w.os) (ep : w'.output = w.output) : Evo ρ ls h w ρ ls h w' :=
  ⟨.refl _, .refl _, by rw [e]; exact Nat.le_refl _, fun c _ _ => by rw [e], fun _ _ _ _ _ _ h m => .inr ⟨_, _, _, _, h, m⟩, fun _ _ h => .inr h, fun _ _ _ _ e => e, Nat.le_refl _, eo, ep⟩
variable (P : Program) (Γ : Glob)
def GOK (ρ : Inj) : Prop := ∀ g cs, Γ g = some cs → ∃ arr, ρ.imm false g = some arr ∧ Lies ρ [] arr 0 cs ∧ arr.size = cs.length
theorem GOK.mono {ρ ρ' : Inj} (h : GOK Γ ρ) (l : ρ.le ρ') : GOK Γ ρ' := fun g cs e =>
  let ⟨arr, h1, h2, h3⟩ := h g cs e
  ⟨arr, l.imm _ _ _ h1, fun i x hx => let ⟨y, e1, e2⟩ := h2 i x hx; ⟨y, e1, e2.mono l (.refl _)⟩, h3⟩
def Callable (f : FuncId) : Prop := ∃ fn c, P.funcs[f]? = some fn ∧ fn.body = some c ∧ (fn.name == "runtime.NumGoroutine") = false
def T (f : FuncId) (args : List AV) (h : AH) (Q : AV → AH → Prop) : Prop :=
  Callable P f ∧ ∀ ρ w cargs, RH ρ [] [] h w → GOK Γ ρ → RVs ρ [] args cargs →
    Calls P f cargs.toArray w fun e w' => ∃ v cv ρ' h', e = .returned cv ∧ RV ρ' [] v cv ∧ RH ρ' [] [] h' w' ∧ Evo ρ [] h w ρ' [] h' w' ∧ Q v h'
theorem T.mono {P Γ} {f : FuncId} {args : List AV} {h : AH} {Q Q' : AV → AH → Prop} (t : T P Γ f args h Q) (hq : ∀ v h', Q v h' → Q' v h') : T P Γ f args h Q' :=
  ⟨t.1, fun ρ w cargs r g ra => (t.2 ρ w cargs r g ra).mono fun _ _ ⟨v, cv, ρ', h', e, r1, r2, r3, q⟩ => ⟨v, cv, ρ', h', e, r1, r2, r3, hq _ _ q⟩⟩
structure Rel (ρ : Inj) (ls : List Nat) (s : St) (a : Act) (w : World) : Prop where
  defers : a.defers = []
  size : s.env.length = a.tmps.size
  env : ∀ (i : Nat) (x : AV), s.env[i]? = some x → RV ρ ls x (a.tmps.getD i undef)
  mem : RH ρ ls s.loc s.heap w
  glob : GOK Γ ρ
def Sat (Q : AE → St → Prop) (ρ₀ : Inj) (ls₀ : List Nat) (h₀ : AH) (w₀ : World) : Exit → Act → World → Prop := fun e a w =>
  ∃ s ρ ls, Rel Γ ρ ls s a w ∧ Evo ρ₀ ls₀ h₀ w₀ ρ ls s.heap w ∧
    match e with
    | .normal => Q .normal s
    | .exit id => Q (.exit id) s
    | .ret => Q .ret s
    | _ => False
def TK' (code : Code) (Q : AE → St → Prop) (s : St) : Prop :=
  ∀ ρ₀ ls₀ h₀ w₀ ρ ls a w, Evo ρ₀ ls₀ h₀ w₀ ρ ls s.heap w → Rel Γ ρ ls s a w → code.wp P (Sat Γ Q ρ₀ ls₀ h₀ w₀) a w
end Go.AM
