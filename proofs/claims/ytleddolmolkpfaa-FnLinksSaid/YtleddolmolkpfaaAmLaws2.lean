import Derived.Test.YtleddolmolkpfaaAmData
set_option linter.unusedVariables false
set_option linter.unusedSimpArgs false
namespace Go.AM
section
variable {P : Program} {Θ : Tab} {Γ : Glob}

theorem len_vm {α : Type} (β : Bool) (sz : Nat) (ex : Bool) (l : List α) (ce : α → List AV) : lenI false (.vs β sz ex (l.map ce)) = some (.int .i64 l.length) := by simp [lenI, lenK]
theorem idx_vm {α : Type} {β : Bool} {sz : Nat} {ex : Bool} {l : List α} {ce : α → List AV} {k : Nat} (hk : k < l.length) : aIdxs sz (.vs β sz ex (l.map ce)) (k : Int) = some (.ip β (ce l[k])) := by
  simp [aIdxs, hk]
theorem sub_all {cs : List AV} {n : Nat} (h : cs.length = n) : sub cs 0 n = some cs := by subst h; simp [sub]
theorem Own.cell {h : AH} {a : AV} {d : CD} {fp : List Nat} (o : Own h a d fp) : cellsOf a = some [a] ∧ Go.AM.isCell a = true ∧ Go.AM.noLp a = true ∧ out1 a = true := by
  cases o <;> exact ⟨rfl, rfl, rfl, rfl⟩

theorem Fresh.one {h h' : AH} {d : CD} {v : AV} (f : Fresh h [.c d] v h') : ∃ new fp, h' = h ++ new ∧ Own h' v d fp ∧ fp.Nodup ∧ ∀ b ∈ fp, h.length ≤ b := by
  obtain ⟨vs, new, fp, rfl, rfl, o, nd, hb, _⟩ := f
  match vs, o with
  | [v], ⟨f1, f2, e, o1, o2⟩ =>
    have : f2 = [] := o2
    subst this
    simp only [List.append_nil] at e
    subst e
    exact ⟨new, _, rfl, o1, nd, hb⟩
theorem Fresh.oneA {h h' : AH} {cs : List CD} {v : AV} (f : Fresh h [.a cs] v h') : ∃ as new fp, v = .agg as ∧ h' = h ++ new ∧ OwnL h' as cs fp ∧ fp.Nodup ∧ ∀ b ∈ fp, h.length ≤ b := by
  obtain ⟨vs, new, fp, rfl, rfl, o, nd, hb, _⟩ := f
  match vs, o with
  | [v], ⟨f1, f2, e, o1, o2⟩ =>
    have : f2 = [] := o2
    subst this
    simp only [List.append_nil] at e
    subst e
    obtain ⟨as, rfl, o1⟩ := o1
    exact ⟨as, new, _, rfl, rfl, o1, nd, hb⟩

theorem T.freshC {f : FuncId} {args : List AV} {h : AH} {d : CD} (t : T P Γ f args h fun v h' => ∃ new fp, h' = h ++ new ∧ Own h' v d fp ∧ fp.Nodup ∧ ∀ b ∈ fp, h.length ≤ b) : T P Γ f args h (Fresh h [.c d]) :=
  t.fresh fun v h' ⟨new, fp, e, o, nd, hb⟩ => ⟨[v], new, fp, rfl, e, ⟨fp, [], by simp, o, rfl⟩, nd, hb⟩
theorem T.freshA {f : FuncId} {args : List AV} {h : AH} {cs : List CD} (t : T P Γ f args h fun v h' => ∃ as new fp, v = .agg as ∧ h' = h ++ new ∧ OwnL h' as cs fp ∧ fp.Nodup ∧ ∀ b ∈ fp, h.length ≤ b) : T P Γ f args h (Fresh h [.a cs]) :=
  t.fresh fun v h' ⟨as, new, fp, e, e', o, nd, hb⟩ => ⟨[v], new, fp, rfl, e', ⟨fp, [], by simp, ⟨as, e, o⟩, rfl⟩, nd, hb⟩

theorem OwnL.nil {h : AH} : OwnL h [] [] [] := rfl
theorem OwnL.i {h : AH} {k : IntKind} {n : Int} {as : List AV} {ds : List CD} {fp : List Nat} (o : OwnL h as ds fp) : OwnL h (.int k n :: as) (.i k n :: ds) fp := ⟨[], fp, rfl, .i _ _, o⟩
theorem OwnL.b {h : AH} {x : Bool} {as : List AV} {ds : List CD} {fp : List Nat} (o : OwnL h as ds fp) : OwnL h (.bool x :: as) (.b x :: ds) fp := ⟨[], fp, rfl, .b _, o⟩
theorem OwnL.s {h : AH} {x : ByteArray} {as : List AV} {ds : List CD} {fp : List Nat} (o : OwnL h as ds fp) : OwnL h (.str x :: as) (.s x :: ds) fp := ⟨[], fp, rfl, .s _, o⟩
theorem OwnL.o {h : AH} {a : AV} {d : CD} {as : List AV} {ds : List CD} {f1 f2 : List Nat} (o1 : Own h a d f1) (o : OwnL h as ds f2) : OwnL h (a :: as) (d :: ds) (f1 ++ f2) := ⟨f1, f2, rfl, o1, o⟩

theorem nodup_app {f1 f2 : List Nat} {n : Nat} (h1 : f1.Nodup) (h2 : f2.Nodup) (l1 : ∀ b ∈ f1, b < n) (l2 : ∀ b ∈ f2, n ≤ b) : (f1 ++ f2).Nodup := by
  rw [List.nodup_append]
  exact ⟨h1, h2, fun a ha b hb => by have := l1 a ha; have := l2 b hb; omega⟩

theorem flat_len' {α β : Type} {l : List α} {f : α → List β} {sz : Nat} (h : ∀ x ∈ l, (f x).length = sz) : ((l.map f).flatten).length = l.length * sz := by
  induction l with
  | nil => simp
  | cons x l ih => simp [ih (fun y hy => h y (by simp [hy])), h x (by simp), Nat.succ_mul, Nat.add_comm]

end
end Go.AM
namespace Go.AM
section
variable {P : Program} {Θ : Tab} {Γ : Glob}
def CD.flat : CD → Bool | .sl _ _ => false | _ => true
theorem CD.flat_own {h : AH} {d : CD} (hd : d.flat = true) (β : Bool) : Own h (d.av β) d [] := by
  cases d <;> first | (simp [CD.flat] at hd; done) | (simp only [CD.av]; constructor)
theorem flat_ownL {h : AH} (β : Bool) : ∀ {cs : List CD}, cs.all CD.flat = true → OwnL h (cs.map (CD.av β)) cs []
  | [], _ => rfl
  | d :: r, hc => by
    simp only [List.all_cons, Bool.and_eq_true] at hc
    exact ⟨[], [], rfl, CD.flat_own hc.1 β, flat_ownL β hc.2⟩
theorem T.flat {f : FuncId} {args : List AV} {h : AH} {x : List AV} (t : T P Γ f args h fun v h' => v = .agg x ∧ h' = h) {cs : List CD} (hc : cs.all CD.flat = true) (hx : x = cs.map (CD.av false)) : T P Γ f args h (Fresh h [.a cs]) := by
  refine T.freshA (t.mono ?_)
  rintro v h' ⟨rfl, rfl⟩
  exact ⟨_, [], [], rfl, by simp, by rw [hx]; exact flat_ownL false hc, by simp, by simp⟩
theorem ne_int (a b : Int) : (a != b) = !decide (a = b) := by by_cases h : a = b <;> simp [h]
end
end Go.AM

