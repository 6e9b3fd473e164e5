import Derived.Test.YtccjhmhkfnnmaaaGreatR6LK
import Derived.Test.YtccjhmhkfnnmaaaGreatAmStr
import Derived.Test.YtccjhmhkfnnmaaaGreatAmMore1
set_option linter.unusedVariables false
set_option linter.unusedSimpArgs false
namespace Go.Proofs.YtccjhmhkfnnmaaaGreat
open Go.AM
set_option linter.unusedVariables false
set_option linter.unusedSimpArgs false
variable {Γ : Glob}
theorem inR_pos (n : Int) {m : Nat} (hm : (m : Int) < 9223372036854775807) : inR n 0 (IntKind.i64.wrap ((m : Int) - 1)) = true ↔ ∃ k : Nat, n = (k : Int) ∧ k < m := by
  rw [wrap_nat (by omega) (by omega)]
  simp only [inR, Bool.and_eq_true, decide_eq_true_eq]
  constructor
  · intro ⟨h1, h2⟩; exact ⟨n.toNat, by omega, by omega⟩
  · rintro ⟨k, rfl, hk⟩; omega
theorem kai_T (β : Bool) (v : DVat) (hv : v.entities.length ≤ 1048576) (n : Int) (H : AH) {p : AV} (hp : Ptr H p (v.c β)) :
    T Tryz.prog Γ Fn.kai [p, .int .i64 n] H fun r h' => ((∃ k : Nat, ∃ hk : k < v.entities.length, n = (k : Int) ∧ r = .ip β (v.entities[k].c β)) ∨ ((∀ k : Nat, n = (k : Int) → v.entities.length ≤ k) ∧ r = .nilp)) ∧ h' = H := by
  have L0 := len_vm β 12 false v.entities (DEntity.c β)
  refine kai_e (aw_sound tabOK mixed [] _ _ _ ?_)
  unfold kai_c
  simp only [EZ, q_bx, if_true, if_false, Nat.reduceAdd, Option.bind_some, Nat.reduceBEq, kai_r, hp.nil, hp.fld, hp.rd, DVat.c_len, Nat.reduceLeDiff, DVat.c, L0]
  refine TCall.val (by simp only [EO]) (kam_T _ _ _ _) ?_
  cases e1 : inR n 0 (IntKind.i64.wrap ((v.entities.length : Int) - 1))
  · simp only [EZ, q_bx, if_true, if_false, Nat.reduceAdd, Option.bind_some, Nat.reduceBEq, kai_r]
    refine ⟨rfl, ?_⟩
    suffices hx : ∀ k : Nat, n = (k : Int) → v.entities.length ≤ k by first | exact .inr ⟨hx, rfl⟩ | exact hx | exact .inr hx
    intro k hk
    rcases Nat.lt_or_ge k v.entities.length with h1 | h1
    · have := (inR_pos n (by omega)).2 ⟨k, hk, h1⟩
      rw [e1] at this; cases this
    · exact h1
  · obtain ⟨k, rfl, hk⟩ := (inR_pos n (by omega)).1 e1
    have i0 := idx_vm (β := β) (sz := 12) (ex := false) (ce := DEntity.c β) hk
    simp only [EZ, q_bx, if_true, if_false, Nat.reduceAdd, Option.bind_some, Nat.reduceBEq, kai_r, hp.nil, hp.fld, hp.rd, DVat.c_len, Nat.reduceLeDiff, DVat.c, i0]
    exact ⟨rfl, .inl ⟨k, hk, rfl, rfl⟩⟩
def entI (x : Int) (n : Nat) : Bool := decide (0 ≤ x) && decide (x < n)
theorem inR_ent (x : Int) {n : Nat} (hn : n ≤ 1048576) : inR x 0 (IntKind.i64.wrap ((n : Int) - 1)) = entI x n := by
  have hw : IntKind.i64.wrap ((n : Int) - 1) = (n : Int) - 1 := wrap_nat (by omega) (by omega)
  rw [hw, inR, entI]
  congr 1
  rw [decide_eq_decide]; omega
def brokenV : DValue := ⟨2, 0⟩
theorem kbA_T (h : AH) : T Tryz.prog Γ Fn.kbA [] h fun v h' => v = .agg (brokenV.c false) ∧ h' = h := by
  refine kbA_e (aw_sound tabOK mixed [] _ _ _ ?_)
  unfold kbA_c
  simp only [EZ, q_bx, if_true, if_false, Nat.reduceAdd, Option.bind_some, Nat.reduceBEq, kbA_r, EB2]
  first | exact ⟨rfl, rfl⟩ | exact rfl
theorem kaa_T (h : AH) : T Tryz.prog Γ Fn.kaa [] h fun v h' => v = .agg (brokenV.c false) ∧ h' = h := by
  refine kaa_e (aw_sound tabOK mixed [] _ _ _ ?_)
  unfold kaa_c
  simp only [EZ, q_bx, if_true, if_false, Nat.reduceAdd, Option.bind_some, Nat.reduceBEq, kaa_r, EB2]
  first | exact ⟨rfl, rfl⟩ | exact rfl
theorem kbG_T (n : Int) (h : AH) : T Tryz.prog Γ Fn.kbG [.int .i64 n] h fun v h' => v = .agg ((DValue.mk 1 n).c false) ∧ h' = h := by
  refine kbG_e (aw_sound tabOK mixed [] _ _ _ ?_)
  unfold kbG_c
  simp only [EZ, q_bx, if_true, if_false, Nat.reduceAdd, Option.bind_some, Nat.reduceBEq, kbG_r, EB2]
  first | exact ⟨rfl, rfl⟩ | exact rfl
theorem kah_T (n : Int) (h : AH) : T Tryz.prog Γ Fn.kah [.int .i64 n] h fun v h' => v = .agg ((DValue.mk 1 n).c false) ∧ h' = h := by
  refine kah_e (aw_sound tabOK mixed [] _ _ _ ?_)
  unfold kah_c
  simp only [EZ, q_bx, if_true, if_false, Nat.reduceAdd, Option.bind_some, Nat.reduceBEq, kah_r, EB2]
  first | exact ⟨rfl, rfl⟩ | exact rfl
end Go.Proofs.YtccjhmhkfnnmaaaGreat
