import Derived.Test.YtleddolmolkpfaaR4H
import Derived.Test.YtleddolmolkpfaaAmBox2
import Derived.Test.YtleddolmolkpfaaAmCat
set_option linter.unusedVariables false
set_option linter.unusedSimpArgs false
namespace Go.Proofs.Ytleddolmolkpfaa
open Go.AM
set_option linter.unusedVariables false
set_option linter.unusedSimpArgs false
variable {Γ : Glob}
/-! Bounds, entities. -/
theorem oob (b : Bool) : outOK (.bool b) = true := rfl
def inR (n lo hi : Int) : Bool := decide (lo ≤ n) && decide (n ≤ hi)
theorem spec_l1In_T (n lo hi : Int) (h : AH) : T Try.prog Γ Fn.spec_l1In [.int .i64 n, .int .i64 lo, .int .i64 hi] h fun v h' => v = .bool (inR n lo hi) ∧ h' = h := by
  refine spec_l1In_e (aw_sound tabOK mixed [] _ _ _ ?_)
  unfold spec_l1In_c
  simp only [EV, EL, EB, EF, q_bx, if_true, if_false, Bool.false_eq_true, Nat.reduceAdd, Option.bind_some, Bool.not_true, Bool.not_false, Nat.reduceBEq, spec_l1In_r]
  refine k_split (fun h1 => ?_) (fun h1 => ?_) <;> simp only [EV, EL, EB, EF, q_bx, if_true, if_false, Bool.false_eq_true, Nat.reduceAdd, Option.bind_some, Bool.not_true, Bool.not_false, Nat.reduceBEq, spec_l1In_r, h1]
  · exact ⟨rfl, by simp only [inR, h1, Bool.true_and]⟩
  · exact ⟨rfl, by simp only [inR, h1, Bool.false_and]⟩
theorem impl_in_T (n lo hi : Int) (h : AH) : T Try.prog Γ Fn.impl_in [.int .i64 n, .int .i64 lo, .int .i64 hi] h fun v h' => v = .bool (inR n lo hi) ∧ h' = h := by
  refine impl_in_e (aw_sound tabOK mixed [] _ _ _ ?_)
  unfold impl_in_c
  simp only [EV, EL, EB, EF, q_bx, if_true, if_false, Bool.false_eq_true, Nat.reduceAdd, Option.bind_some, Bool.not_true, Bool.not_false, Nat.reduceBEq, impl_in_r]
  refine k_split (fun h1 => ?_) (fun h1 => ?_) <;> simp only [EV, EL, EB, EF, q_bx, if_true, if_false, Bool.false_eq_true, Nat.reduceAdd, Option.bind_some, Bool.not_true, Bool.not_false, Nat.reduceBEq, impl_in_r, h1]
  · exact ⟨rfl, by simp only [inR, h1, Bool.true_and]⟩
  · exact ⟨rfl, by simp only [inR, h1, Bool.false_and]⟩
theorem inR_pos (n : Int) {m : Nat} (hm : (m : Int) < 9223372036854775807) : inR n 0 (IntKind.i64.wrap ((m : Int) - 1)) = true ↔ ∃ k : Nat, n = (k : Int) ∧ k < m := by
  rw [wrap_nat (by omega) (by omega)]
  simp only [inR, Bool.and_eq_true, decide_eq_true_eq]
  constructor
  · intro ⟨h1, h2⟩; exact ⟨n.toNat, by omega, by omega⟩
  · rintro ⟨k, rfl, hk⟩; omega
theorem impl_Vat_entity_T (β : Bool) (v : DVat) (hv : v.entities.length ≤ 1048576) (n : Int) (H : AH) {p : AV} (hp : Ptr H p (v.c β)) :
    T Try.prog Γ Fn.impl_Vat_entity [p, .int .i64 n] H fun r h' => ((∃ k : Nat, ∃ hk : k < v.entities.length, n = (k : Int) ∧ r = .ip β (v.entities[k].c β)) ∨ ((∀ k : Nat, n = (k : Int) → v.entities.length ≤ k) ∧ r = .nilp)) ∧ h' = H := by
  have L0 := len_vm β 12 false v.entities (DEntity.c β)
  refine impl_Vat_entity_e (aw_sound tabOK mixed [] _ _ _ ?_)
  unfold impl_Vat_entity_c
  simp only [EV, EL, EB, EF, q_bx, if_true, if_false, Bool.false_eq_true, Nat.reduceAdd, Option.bind_some, Bool.not_true, Bool.not_false, Nat.reduceBEq, impl_Vat_entity_r, hp.nil, hp.fld, hp.rd, DVat.c_len, Nat.reduceLeDiff, DVat.c, L0]
  refine TCall.val (by simp only [EO]) (impl_in_T _ _ _ _) ?_
  cases e1 : inR n 0 (IntKind.i64.wrap ((v.entities.length : Int) - 1))
  · simp only [EV, EL, EB, EF, q_bx, if_true, if_false, Bool.false_eq_true, Nat.reduceAdd, Option.bind_some, Bool.not_true, Bool.not_false, Nat.reduceBEq, impl_Vat_entity_r]
    refine ⟨rfl, ?_⟩
    suffices hx : ∀ k : Nat, n = (k : Int) → v.entities.length ≤ k by first | exact .inr ⟨hx, rfl⟩ | exact hx | exact .inr hx
    intro k hk
    rcases Nat.lt_or_ge k v.entities.length with h1 | h1
    · have := (inR_pos n (by omega)).2 ⟨k, hk, h1⟩
      rw [e1] at this; cases this
    · exact h1
  · obtain ⟨k, rfl, hk⟩ := (inR_pos n (by omega)).1 e1
    have i0 := idx_vm (β := β) (sz := 12) (ex := false) (ce := DEntity.c β) hk
    simp only [EV, EL, EB, EF, q_bx, if_true, if_false, Bool.false_eq_true, Nat.reduceAdd, Option.bind_some, Bool.not_true, Bool.not_false, Nat.reduceBEq, impl_Vat_entity_r, hp.nil, hp.fld, hp.rd, DVat.c_len, Nat.reduceLeDiff, DVat.c, i0]
    exact ⟨rfl, .inl ⟨k, hk, rfl, rfl⟩⟩

end Go.Proofs.Ytleddolmolkpfaa
