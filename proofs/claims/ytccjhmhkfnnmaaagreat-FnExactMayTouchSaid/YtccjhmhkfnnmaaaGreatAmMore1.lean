import Derived.Test.YtccjhmhkfnnmaaaGreatAmBox2
set_option linter.unusedVariables false
set_option linter.unusedSimpArgs false
namespace Go.AM
theorem hget_lt {h : AH} {b : Nat} {x : Nat × List AV} (e : hget h b = some x) : b < h.length := getElem?_lt (hget_spec e)
theorem hget_grow {h : AH} {b : Nat} {x : Nat × List AV} (e : hget h b = some x) (N : AH) : hget (h ++ N) b = some x := by
  have := hget_spec e
  exact hget_of (by rw [List.getElem?_append_left (getElem?_lt this)]; exact this)
theorem cells_grow {e e' : List AV} {l l' : List (List AV)} {h : AH} {a : AV} {n : Nat} {x : List AV} (ha : ∀ i o, a ≠ .lp i o) (hx : (St.mk e l h).cells a n = some x) (N : AH) : (St.mk e' l' (h ++ N)).cells a n = some x := by
  cases a <;> simp only [St.cells] at hx ⊢ <;> try exact hx
  · exact absurd rfl (ha _ _)
  · rw [Option.bind_eq_some_iff] at hx
    obtain ⟨y, h1, h2⟩ := hx
    rw [hget_grow h1]; exact h2
theorem fldP_lp {p : AV} (h : noLp1 p = true) (off : Nat) : ∀ i o, fldP p off ≠ .lp i o := by
  intro i o e; cases p <;> simp [fldP, noLp1] at e h
theorem Ptr.grow {H : AH} {p : AV} {cs : List AV} (h : Ptr H p cs) (N : AH) : Ptr (H ++ N) p cs := by
  refine ⟨h.nil, h.out, h.n1, h.fld, fun e l off n hn => ?_, fun e l n hn => ?_⟩
  · have h1 := h.rd e l off n hn
    have : sub cs off (n + 1) = some ((cs.drop off).take (n + 1)) := by simp only [sub]; rw [if_pos hn]
    rw [this] at h1 ⊢
    exact cells_grow (fldP_lp h.n1 off) h1 N
  · have h1 := h.rd0 e l n hn
    have : sub cs 0 (n + 1) = some ((cs.drop 0).take (n + 1)) := by simp only [sub]; rw [if_pos (by omega)]
    rw [this] at h1 ⊢
    exact cells_grow (by intro i o e; subst e; have := h.n1; simp [noLp1] at this) h1 N
end Go.AM
namespace Go.AM
section
variable {P : Program} {Θ : Tab} {Γ : Glob}
theorem mm_n (f : RS → Option AV) : List.mapM f [] = some [] := rfl
theorem mm_c (f : RS → Option AV) (x : RS) (xs : List RS) : List.mapM f (x :: xs) = (f x).bind fun y => (List.mapM f xs).map (y :: ·) := by
  rw [List.mapM_cons]; cases f x <;> simp
  cases List.mapM f xs <;> simp
theorem oo_t (vs : List AV) : outOK (.tup vs) = vs.all out1 := rfl
def extrK (s : St) (i : Nat) : AV → AR | .tup vs => .ofO s vs[i]? | _ => .stuck
theorem p_extrK (gl : Bool) (s : St) (x : X) (i : Nat) : step Γ gl s (.extr x i) = extrK s i (s.eval Γ x) := by
  simp only [step, extrK]; cases s.eval Γ x <;> rfl
theorem ex_t0 (s : St) (v : AV) (vs : List AV) : extrK s 0 (.tup (v :: vs)) = .val v s := rfl
theorem ex_t1 (s : St) (a v : AV) (vs : List AV) : extrK s 1 (.tup (a :: v :: vs)) = .val v s := rfl
theorem ex_t2 (s : St) (a b v : AV) (vs : List AV) : extrK s 2 (.tup (a :: b :: v :: vs)) = .val v s := rfl
end
theorem ER : type_of% (And.intro @mm_n (And.intro @mm_c (And.intro @oo_t (And.intro @p_extrK (And.intro @ex_t0 (And.intro @ex_t1 (@ex_t2))))))) := And.intro @mm_n (And.intro @mm_c (And.intro @oo_t (And.intro @p_extrK (And.intro @ex_t0 (And.intro @ex_t1 (@ex_t2))))))
end Go.AM
