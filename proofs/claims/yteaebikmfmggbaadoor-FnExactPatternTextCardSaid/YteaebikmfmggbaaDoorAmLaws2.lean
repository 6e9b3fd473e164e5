import Derived.Test.YteaebikmfmggbaaDoorAmData
set_option linter.unusedVariables false
set_option linter.unusedSimpArgs false
namespace Go.AM
section
variable {P : Program} {Θ : Tab} {Γ : Glob}
theorem Own.cell {h : AH} {a : AV} {d : CD} {fp : List Nat} (o : Own h a d fp) : cellsOf a = some [a] ∧ Go.AM.isCell a = true ∧ Go.AM.noLp a = true ∧ out1 a = true := by
  cases o <;> exact ⟨rfl, rfl, rfl, rfl⟩
theorem Fresh.one {h h' : AH} {d : CD} {v : AV} (f : Fresh h [.c d] v h') : ∃ new fp, h' = h ++ new ∧ Own h' v d fp ∧ fp.Nodup ∧ ∀ b ∈ fp, h.length ≤ b := by
  obtain ⟨vs, new, fp, rfl, rfl, o, nd, hb, _⟩ := f
  match vs, o with
  | [v], ⟨f1, f2, e, o1, o2⟩ =>
    have : f2 = [] := o2
    subst this
    simp only [List.append_nil] at e
    subst e
    exact ⟨new, _, rfl, o1, nd, hb⟩
theorem Fresh.oneA {h h' : AH} {cs : List CD} {v : AV} (f : Fresh h [.a cs] v h') : ∃ as new fp, v = .agg as ∧ h' = h ++ new ∧ OwnL h' as cs fp ∧ fp.Nodup ∧ ∀ b ∈ fp, h.length ≤ b := by
  obtain ⟨vs, new, fp, rfl, rfl, o, nd, hb, _⟩ := f
  match vs, o with
  | [v], ⟨f1, f2, e, o1, o2⟩ =>
    have : f2 = [] := o2
    subst this
    simp only [List.append_nil] at e
    subst e
    obtain ⟨as, rfl, o1⟩ := o1
    exact ⟨as, new, _, rfl, rfl, o1, nd, hb⟩
theorem T.freshA {f : FuncId} {args : List AV} {h : AH} {cs : List CD} (t : T P Γ f args h fun v h' => ∃ as new fp, v = .agg as ∧ h' = h ++ new ∧ OwnL h' as cs fp ∧ fp.Nodup ∧ ∀ b ∈ fp, h.length ≤ b) : T P Γ f args h (Fresh h [.a cs]) :=
  t.fresh fun v h' ⟨as, new, fp, e, e', o, nd, hb⟩ => ⟨[v], new, fp, rfl, e', ⟨fp, [], by simp, ⟨as, e, o⟩, rfl⟩, nd, hb⟩
theorem OwnL.nil {h : AH} : OwnL h [] [] [] := rfl
theorem OwnL.i {h : AH} {k : IntKind} {n : Int} {as : List AV} {ds : List CD} {fp : List Nat} (o : OwnL h as ds fp) : OwnL h (.int k n :: as) (.i k n :: ds) fp := ⟨[], fp, rfl, .i _ _, o⟩
theorem OwnL.b {h : AH} {x : Bool} {as : List AV} {ds : List CD} {fp : List Nat} (o : OwnL h as ds fp) : OwnL h (.bool x :: as) (.b x :: ds) fp := ⟨[], fp, rfl, .b _, o⟩
theorem OwnL.s {h : AH} {x : ByteArray} {as : List AV} {ds : List CD} {fp : List Nat} (o : OwnL h as ds fp) : OwnL h (.str x :: as) (.s x :: ds) fp := ⟨[], fp, rfl, .s _, o⟩
theorem OwnL.o {h : AH} {a : AV} {d : CD} {as : List AV} {ds : List CD} {f1 f2 : List Nat} (o1 : Own h a d f1) (o : OwnL h as ds f2) : OwnL h (a :: as) (d :: ds) (f1 ++ f2) := ⟨f1, f2, rfl, o1, o⟩
end
end Go.AM
namespace Go.AM
section
variable {P : Program} {Θ : Tab} {Γ : Glob}
def CD.flat : CD → Bool | .sl _ _ => false | _ => true
theorem CD.flat_own {h : AH} {d : CD} (hd : d.flat = true) (β : Bool) : Own h (d.av β) d [] := by
  cases d <;> first | (simp [CD.flat] at hd; done) | (simp only [CD.av]; constructor)
theorem flat_ownL {h : AH} (β : Bool) : ∀ {cs : List CD}, cs.all CD.flat = true → OwnL h (cs.map (CD.av β)) cs []
  | [], _ => rfl
  | d :: r, hc => by
    simp only [List.all_cons, Bool.and_eq_true] at hc
    exact ⟨[], [], rfl, CD.flat_own hc.1 β, flat_ownL β hc.2⟩
theorem T.flat {f : FuncId} {args : List AV} {h : AH} {x : List AV} (t : T P Γ f args h fun v h' => v = .agg x ∧ h' = h) {cs : List CD} (hc : cs.all CD.flat = true) (hx : x = cs.map (CD.av false)) : T P Γ f args h (Fresh h [.a cs]) := by
  refine T.freshA (t.mono ?_)
  rintro v h' ⟨rfl, rfl⟩
  exact ⟨_, [], [], rfl, by simp, by rw [hx]; exact flat_ownL false hc, by simp, by simp⟩
theorem toList_loop (bs : ByteArray) : ∀ (n i : Nat) (r : List UInt8), bs.size - i = n → ByteArray.toList.loop bs i r = r.reverse ++ bs.data.toList.drop i := by
  intro n
  induction n with
  | zero =>
    intro i r h
    unfold ByteArray.toList.loop
    have hs : bs.data.toList.length = bs.size := rfl
    rw [if_neg (by omega), List.drop_of_length_le (by omega), List.append_nil]
  | succ n ih =>
    intro i r h
    have hs : bs.data.toList.length = bs.size := rfl
    unfold ByteArray.toList.loop
    rw [if_pos (by omega), ih (i+1) _ (by omega), List.drop_eq_getElem_cons (show i < bs.data.toList.length by omega)]
    have hi : i < bs.data.size := by simpa using (show i < bs.data.toList.length by omega)
    have e : bs.data[i]! = bs.data[i] := by rw [getElem!_pos bs.data i hi]
    simp [ByteArray.get!, e]
theorem toList_eq (b : ByteArray) : b.toList = b.data.toList := by
  unfold ByteArray.toList
  rw [toList_loop b _ 0 [] rfl]; simp
end
end Go.AM
