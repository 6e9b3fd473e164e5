import Derived.Test.YtccjhmhkfnnmaaaGreatR6VB
import Derived.Test.YtccjhmhkfnnmaaaGreatR6SH
import Derived.Test.YtccjhmhkfnnmaaaGreatAmBools
import Derived.Test.YtccjhmhkfnnmaaaGreatAmApp2
set_option linter.unusedVariables false
set_option linter.unusedSimpArgs false
namespace Go.Proofs.YtccjhmhkfnnmaaaGreat
open Go.AM
set_option linter.unusedVariables false
set_option linter.unusedSimpArgs false
variable {Γ : Glob}
def posF (p : Nat → Bool) (k : Nat) : List Int := ((List.range k).filter p).map fun (i : Nat) => (i : Int)
theorem posF_succ (p : Nat → Bool) (k : Nat) : posF p (k + 1) = posF p k ++ if p k = true then [(k : Int)] else [] := by
  simp only [posF, List.range_succ, List.filter_append, List.map_append]
  congr 1
  simp only [List.filter_cons, List.filter_nil]
  split <;> rfl
theorem posF_len (p : Nat → Bool) (k : Nat) : (posF p k).length ≤ k := by
  simp only [posF, List.length_map]
  exact Nat.le_trans (List.length_filter_le ..) (by simp)
theorem posF_in {p : Nat → Bool} {k : Nat} {x : Int} (h : x ∈ posF p k) : ∃ i : Nat, i < k ∧ x = i := by
  simp only [posF, List.mem_map, List.mem_filter, List.mem_range] at h
  obtain ⟨i, ⟨h1, _⟩, rfl⟩ := h
  exact ⟨i, h1, rfl⟩
def proxP (v : DVat) (peer : Int) (i : Nat) : Bool := match v.entities[i]? with | some e => decide (e.kind = 3) && decide (e.peer = peer) | none => false
def proxF (v : DVat) (peer : Int) : List Int := posF (proxP v peer) v.entities.length
theorem proxP_at {v : DVat} {peer : Int} {k : Nat} (hk : k < v.entities.length) : proxP v peer k = (decide (v.entities[k].kind = 3) && decide (v.entities[k].peer = peer)) := by
  simp only [proxP, List.getElem?_eq_getElem hk]
theorem kbF_T (β : Bool) (v : DVat) (hv : v.entities.length ≤ 1048576) (peer : Int) (h : AH) : T Tryz.prog Γ Fn.kbF [.agg (v.c β), .int .i64 peer] h (Fresh h [.c (.sl 1 (idata (proxF v peer)))]) := by
  have L0 := len_vm β 12 false v.entities (DEntity.c β)
  refine T.freshC ?_
  refine kbF_e (aw_sound tabOK mixed [] _ _ _ ?_)
  unfold kbF_c
  simp only [EZ, q_bx, if_true, if_false, Nat.reduceAdd, Option.bind_some, Nat.reduceBEq, kbF_r, EA]
  refine loopI tabOK mixed [] (fun x : Nat × AV × AH × List Nat => x.1 ≤ v.entities.length ∧ Own x.2.2.1 x.2.1 (.sl 1 (idata (posF (proxP v peer) x.1))) x.2.2.2 ∧ x.2.2.2.Nodup ∧ (∀ c ∈ x.2.2.2, h.length ≤ c) ∧ ∃ N, x.2.2.1 = h ++ N) (fun x => v.entities.length - x.1)
    (fun x => kbF_s0 (.int .i64 peer) (.lp ([] : List (List AV)).length 0) x.2.1 (.int .i64 x.1) (([] : List (List AV)) ++ [v.c β]) x.2.2.1) (0, .gs h.length 0 0 0 0 1 true, h ++ [some (0, [])], [h.length]) ⟨by simp, bsl0_own h 1, by simp, by simp, _, rfl⟩ ⟨by simp [kbF_s0, LeL, LeV], rfl, rfl⟩ ?_
  rintro ⟨k, w, H, fp⟩ ⟨hk, ho, nd, hfp, N, hN⟩
  simp only at hk ho nd hfp hN
  subst hN
  simp only [EZ, q_bx, if_true, if_false, Nat.reduceAdd, Option.bind_some, Nat.reduceBEq, kbF_r, kbF_s0, DVat.c, L0]
  refine c_split (fun hlt => ?_) (fun hge => ?_)
  rotate_left
  · have hge : k = v.entities.length := by simp at hge; omega
    subst hge
    simp only [EZ, q_bx, if_true, if_false, Nat.reduceAdd, Option.bind_some, Nat.reduceBEq, kbF_r]
    exact ⟨ho.outOK, N, fp, rfl, ho, nd, hfp⟩
  have hlt : k < v.entities.length := by simpa using hlt
  have i0 := idx_vm (β := β) (sz := 12) (ex := false) (ce := DEntity.c β) hlt
  have pe := proxP_at (peer := peer) hlt
  have hs := posF_succ (proxP v peer) k
  obtain ⟨e, he⟩ : ∃ e, e = v.entities[k] := ⟨_, rfl⟩
  rw [← he] at i0 pe
  have out : proxP v peer k = false → ∃ y : Nat × AV × AH × List Nat, (y.1 ≤ v.entities.length ∧ Own y.2.2.1 y.2.1 (.sl 1 (idata (posF (proxP v peer) y.1))) y.2.2.2 ∧ y.2.2.2.Nodup ∧ (∀ c ∈ y.2.2.2, h.length ≤ c) ∧ ∃ N, y.2.2.1 = h ++ N) ∧ v.entities.length - y.1 < v.entities.length - k ∧ y = (k + 1, w, h ++ N, fp) := fun hp =>
    ⟨(k + 1, w, h ++ N, fp), ⟨hlt, by simp only; rw [hs, hp]; simpa using ho, nd, hfp, N, rfl⟩, by simp only; omega, rfl⟩
  by_cases b1 : e.kind = 3
  rotate_left
  · obtain ⟨y, y1, y2, rfl⟩ := out (by rw [pe, decide_eq_false b1]; rfl)
    simp only [EZ, q_bx, if_true, if_false, Nat.reduceAdd, Option.bind_some, Nat.reduceBEq, kbF_r, i0, DVat.c, L0, DEntity.c, beq_dec, decide_eq_false b1]
    exact ⟨_, y1, y2, ⟨by rw [wN (by omega)]; simp [kbF_s0, LeL, LeV], rfl, rfl⟩⟩
  by_cases b2 : e.peer = peer
  rotate_left
  · obtain ⟨y, y1, y2, rfl⟩ := out (by rw [pe, decide_eq_false b2, Bool.and_false])
    simp only [EZ, q_bx, if_true, if_false, Nat.reduceAdd, Option.bind_some, Nat.reduceBEq, kbF_r, i0, DVat.c, L0, DEntity.c, beq_dec, decide_eq_true b1, decide_eq_false b2]
    exact ⟨_, y1, y2, ⟨by rw [wN (by omega)]; simp [kbF_s0, LeL, LeV], rfl, rfl⟩⟩
  have hp : proxP v peer k = true := by rw [pe, decide_eq_true b1, decide_eq_true b2]; rfl
  have hbl := posF_len (proxP v peer) k
  obtain ⟨v', H', fp', ea, o', nd', hf', hl', hm'⟩ := app_ext (bytes := 8) ho (ys := [.int .i64 k]) (row := [.i .i64 k]) (f2 := []) (by simpa using nd) (by omega) rfl (.i .nil) (by simp only [List.length_map, maxMade]; omega)
  obtain ⟨N', rfl⟩ := ext_of hl' hf' hfp
  simp only [EZ, q_bx, if_true, if_false, Nat.reduceAdd, Option.bind_some, Nat.reduceBEq, kbF_r, EA, i0, DVat.c, L0, DEntity.c, beq_dec, decide_eq_true b1, decide_eq_true b2, ea]
  refine ⟨(k + 1, v', h ++ N', fp'), ⟨hlt, by simp only; rw [hs, hp, if_pos rfl, idata, List.map_append]; exact o', nd', fun c hc => ?_, N', rfl⟩, by simp only; omega, ⟨by rw [wN (by omega)]; simp [kbF_s0, LeL, LeV], rfl, rfl⟩⟩
  rcases hm' c hc with g | g | g
  · exact hfp c g
  · simp at g
  · simp at g; omega
theorem kbH_T {H : AH} {n : Nat} (hn : n ≤ 1048576) (l0 l : List Int) {w u : AV} {fw fu : List Nat} (hl : l.length ≤ 2097152) (hr : ∀ x ∈ l, ∃ i : Nat, i < n ∧ x = i) (ow : Own H w (.sl 1 (bdata (mkB n l0))) fw) (ou : Own H u (.sl 1 (idata l)) fu) (hd : ∀ c ∈ fu, c ∉ fw) :
    T Tryz.prog Γ Fn.kbH [w, u] H fun r h' => Own h' w (.sl 1 (bdata (mkB n (l0 ++ l)))) fw ∧ h'.length = H.length ∧ ∀ c, c ∉ fw → h'[c]? = H[c]? := by
  have L1 := (len_own ou).2
  rw [idata_len] at L1
  refine kbH_e (aw_sound tabOK mixed [] _ _ _ ?_)
  unfold kbH_c
  simp only [EZ, q_bx, if_true, if_false, Nat.reduceAdd, Option.bind_some, Nat.reduceBEq, kbH_r]
  refine loopI tabOK mixed [] (fun x : Nat × AH => x.1 ≤ l.length ∧ Own x.2 w (.sl 1 (bdata (mkB n (l0 ++ l.take x.1)))) fw ∧ x.2.length = H.length ∧ ∀ c, c ∉ fw → x.2[c]? = H[c]?) (fun x => l.length - x.1)
    (fun x => kbH_s0 w u (.int .i64 x.1) [] x.2) (0, H) ⟨by simp, by simpa using ow, rfl, fun _ _ => rfl⟩ ⟨by simp [kbH_s0, LeL, LeV], rfl, rfl⟩ ?_
  rintro ⟨k, H1⟩ ⟨hk, ho, hle, hfr⟩
  simp only at hk ho hle hfr
  have L0 := (len_own ho).2
  rw [show (bdata (mkB n (l0 ++ l.take k))).length = n by simp [bdata, mkB_len]] at L0
  simp only [EZ, q_bx, if_true, if_false, Nat.reduceAdd, Option.bind_some, Nat.reduceBEq, kbH_r, kbH_s0, L1]
  refine c_split (fun hlt => ?_) (fun hge => ?_)
  rotate_left
  · have hge : k = l.length := by simp at hge; omega
    subst hge
    simp only [EZ, q_bx, if_true, if_false, Nat.reduceAdd, Option.bind_some, Nat.reduceBEq, kbH_r]
    rw [List.take_length] at ho
    exact ⟨rfl, ho, hle, hfr⟩
  have hlt : k < l.length := by simpa using hlt
  have ou1 : Own H1 u (.sl 1 (idata l)) fu := ou.frame fun c hc => hfr c (hd c hc)
  obtain ⟨p, ip, cp⟩ := own_int ou1 hlt
  obtain ⟨i, hi, ei⟩ := hr l[k] (List.getElem_mem hlt)
  rw [ei] at cp
  simp only [EZ, q_bx, if_true, if_false, Nat.reduceAdd, Option.bind_some, Nat.reduceBEq, kbH_r, ip, cp, L0, L1]
  refine TCall.val (by simp only [EO]) (kbI_T _ _ _ _) ?_
  have ein : inR (i : Int) 0 (IntKind.i64.wrap ((n : Int) - 1)) = true := (inR_pos _ (by omega)).2 ⟨i, rfl, hi⟩
  rw [ein]
  obtain ⟨q, H2, iq, sq, oq, lq, fq⟩ := set_bool ho (k := i) (by rw [mkB_len]; exact hi) true
  simp only [EZ, q_bx, if_true, if_false, Nat.reduceAdd, Option.bind_some, Nat.reduceBEq, kbH_r, ip, cp, iq, sq]
  refine ⟨(k + 1, H2), ⟨hlt, ?_, by simp only; omega, fun c hc => by simp only; rw [fq c hc, hfr c hc]⟩, by simp only; omega, ⟨by rw [wN (by omega)]; simp [kbH_s0, LeL, LeV], rfl, rfl⟩⟩
  simp only
  rw [List.take_succ_eq_append_getElem hlt, ei, ← List.append_assoc, ← mkB_set _ hi]
  exact oq
end Go.Proofs.YtccjhmhkfnnmaaaGreat
