import Derived.Test.YtccjhmhkfnnmaaaGreatR6H
import Derived.Test.YtccjhmhkfnnmaaaGreatAmBox2
import Derived.Test.YtccjhmhkfnnmaaaGreatAmVal
set_option linter.unusedVariables false
set_option linter.unusedSimpArgs false
namespace Go.Proofs.YtccjhmhkfnnmaaaGreat
open Go.AM
set_option linter.unusedVariables false
set_option linter.unusedSimpArgs false
variable {Γ : Glob}
def inR (n lo hi : Int) : Bool := decide (lo ≤ n) && decide (n ≤ hi)
theorem kbI_T (n lo hi : Int) (h : AH) : T Tryz.prog Γ Fn.kbI [.int .i64 n, .int .i64 lo, .int .i64 hi] h fun v h' => v = .bool (inR n lo hi) ∧ h' = h := by
  refine kbI_e (aw_sound tabOK mixed [] _ _ _ ?_)
  unfold kbI_c
  simp only [EZ, q_bx, if_true, if_false, Nat.reduceAdd, Option.bind_some, Nat.reduceBEq, kbI_r]
  refine k_split (fun h1 => ?_) (fun h1 => ?_) <;> simp only [EZ, q_bx, if_true, if_false, Nat.reduceAdd, Option.bind_some, Nat.reduceBEq, kbI_r, h1]
  · exact ⟨rfl, by simp only [inR, h1, Bool.true_and]⟩
  · exact ⟨rfl, by simp only [inR, h1, Bool.false_and]⟩
theorem kam_T (n lo hi : Int) (h : AH) : T Tryz.prog Γ Fn.kam [.int .i64 n, .int .i64 lo, .int .i64 hi] h fun v h' => v = .bool (inR n lo hi) ∧ h' = h := by
  refine kam_e (aw_sound tabOK mixed [] _ _ _ ?_)
  unfold kam_c
  simp only [EZ, q_bx, if_true, if_false, Nat.reduceAdd, Option.bind_some, Nat.reduceBEq, kam_r]
  refine k_split (fun h1 => ?_) (fun h1 => ?_) <;> simp only [EZ, q_bx, if_true, if_false, Nat.reduceAdd, Option.bind_some, Nat.reduceBEq, kam_r, h1]
  · exact ⟨rfl, by simp only [inR, h1, Bool.true_and]⟩
  · exact ⟨rfl, by simp only [inR, h1, Bool.false_and]⟩
theorem kbC_T (β : Bool) (v : DVat) (hl : v.links.length ≤ 1048576) (peer : Int) (h : AH) : T Tryz.prog Γ Fn.kbC [.agg (v.c β), .int .i64 peer] h fun r h' => r = .int .i64 (idxI (fun l : DLink => l.peer == peer) v.links) ∧ h' = h := by
  have L0 := len_vm β 7 false v.links (DLink.c β)
  refine kbC_e (aw_sound tabOK mixed [] _ _ _ ?_)
  unfold kbC_c
  simp only [EZ, q_bx, if_true, if_false, Nat.reduceAdd, Option.bind_some, Nat.reduceBEq, kbC_r]
  refine loopI tabOK mixed [] (fun k : Nat => k ≤ v.links.length ∧ ∀ (i : Nat) (hi : i < v.links.length), i < k → (v.links[i].peer == peer) = false) (fun k => v.links.length - k)
    (fun k => kbC_s0 (.int .i64 peer) (.lp ([] : List (List AV)).length 0) (.int .i64 k) (([] : List (List AV)) ++ [v.c β]) h) 0 ⟨by omega, fun i hi h => by omega⟩ ⟨by simp [kbC_s0, LeL, LeV], rfl, rfl⟩ ?_
  rintro k ⟨hk, ht⟩
  simp only [EZ, q_bx, if_true, if_false, Nat.reduceAdd, Option.bind_some, Nat.reduceBEq, kbC_r, kbC_s0, DVat.c, L0]
  refine c_split (fun hlt => ?_) (fun hge => ?_)
  · have hlt : k < v.links.length := by simpa using hlt
    have i0 := idx_vm (β := β) (sz := 7) (ex := false) (ce := DLink.c β) hlt
    cases hp : v.links[k].peer == peer
    · simp only [EZ, q_bx, if_true, if_false, Nat.reduceAdd, Option.bind_some, Nat.reduceBEq, kbC_r, i0, DVat.c, DLink.c, hp]
      exact ⟨k + 1, ⟨hlt, step_lt (P := fun l : DLink => (l.peer == peer) = false) ht hp⟩, by omega, ⟨by rw [wN (by omega)]; simp [kbC_s0, LeL, LeV], rfl, rfl⟩⟩
    · simp only [EZ, q_bx, if_true, if_false, Nat.reduceAdd, Option.bind_some, Nat.reduceBEq, kbC_r, i0, DVat.c, DLink.c, hp]
      exact ⟨rfl, by rw [idxI_at (p := fun l : DLink => l.peer == peer) hlt ht hp]⟩
  · have hge : k = v.links.length := by simp at hge; omega
    subst hge
    simp only [EZ, q_bx, if_true, if_false, Nat.reduceAdd, Option.bind_some, Nat.reduceBEq, kbC_r]
    exact ⟨rfl, by rw [idxI_none (p := fun l : DLink => l.peer == peer) fun i hi => ht i hi hi]⟩
theorem kad_T (β : Bool) (x : DLink) (peer : Int) (H : AH) {k : Nat} (hk : hget H k = some (0, [.int .i64 peer])) : T Tryz.prog Γ Fn.kad [.agg (x.c β), .gp k 0 0] H fun v h' => v = .bool (x.peer == peer) ∧ h' = H := by
  refine kad_e (aw_sound tabOK mixed [] _ _ _ ?_)
  unfold kad_c
  have hc : ∀ (e : List AV) (l : List (List AV)) (off n : Nat), (St.mk e l H).cells (.gp k 0 off) n = sub [.int .i64 peer] off n := fun e l off n => cells_gp hk
  simp only [EZ, q_bx, if_true, if_false, Nat.reduceAdd, Option.bind_some, Nat.reduceBEq, kad_r, DLink.c, hc]
  first | exact ⟨rfl, rfl⟩ | exact rfl
theorem kac_T (β : Bool) (v : DVat) (hl : v.links.length ≤ 1048576) (peer : Int) (h : AH) : T Tryz.prog Γ Fn.kac [.agg (v.c β), .int .i64 peer] h fun r h' => r = .int .i64 (idxI (fun l : DLink => l.peer == peer) v.links) ∧ h' = h := by
  refine (?_ : T Tryz.prog Γ Fn.kac _ h fun r h' => r = .int .i64 (idxI (fun l : DLink => l.peer == peer) v.links) ∧ ∃ N, h' = h ++ N).drop (by rintro v h' ⟨rfl, N, rfl⟩; exact ⟨N, rfl, .int _ _, rfl, rfl⟩)
  refine kac_e (aw_sound tabOK mixed [3] _ _ _ ?_)
  unfold kac_c
  simp only [EZ, q_bx, if_true, if_false, Nat.reduceAdd, Option.bind_some, Nat.reduceBEq, kac_r, box_g _ _ (show List.all [AV.int .i64 peer] noLp = true from rfl), push_s, DVat.c]
  have hcall := indexFunc_D (P := Tryz.prog) (Γ := Γ) tabOK mixed (sz := 7) (agg := true) (fun hw => kby_e hw) (β := β) (l := v.links) (c := DLink.c β) (by omega) (fun x => ⟨⟨rfl, .inl rfl⟩, rfl⟩) (g := Fn.kad) (first := []) (caps := [.gp h.length 0 0]) rfl (fun l : DLink => l.peer == peer) (h := h ++ [some (0, [.int .i64 peer])]) (fun x hx => kad_T β x peer _ (hget_last _ _))
  refine TCall.val (by simp only [EO]) hcall ?_
  simp only [EZ, q_bx, if_true, if_false, Nat.reduceAdd, Option.bind_some, Nat.reduceBEq, kac_r]
  exact ⟨rfl, _, rfl⟩
end Go.Proofs.YtccjhmhkfnnmaaaGreat
