import Derived.Test.YtjmcfdhklogpkaaR2M
set_option linter.unusedVariables false
set_option linter.unusedSimpArgs false
namespace Go.Proofs.Ytjmcfdhklogpkaa
open Go.AM
set_option linter.unusedVariables false
set_option linter.unusedSimpArgs false
variable {Γ : Glob}
/-! References in messages. -/
def refs1 (x : DValue) : List Int := if x.kind = 1 then [x.n] else []
def refsF (l : List DValue) : List Int := l.flatMap refs1
def refsInF (l : List DSent) : List Int := l.flatMap fun s => refsF s.args
theorem refs1_len (x : DValue) : (refs1 x).length ≤ 1 := by unfold refs1; split <;> simp
theorem refsF_len : ∀ (l : List DValue), (refsF l).length ≤ l.length
  | [] => Nat.le_refl _
  | x :: l => by have h1 := refsF_len l; have h2 := refs1_len x; simp only [refsF, List.flatMap_cons, List.length_append, List.length_cons] at *; omega
theorem refsF_take {l : List DValue} {k : Nat} (hk : k < l.length) : refsF (l.take (k + 1)) = refsF (l.take k) ++ refs1 l[k] := by
  simp only [refsF]; rw [List.take_succ_eq_append_getElem hk, List.flatMap_append]; simp only [List.flatMap_cons, List.flatMap_nil, List.append_nil]
theorem refsInF_take {l : List DSent} {k : Nat} (hk : k < l.length) : refsInF (l.take (k + 1)) = refsInF (l.take k) ++ refsF l[k].args := by
  simp only [refsInF]; rw [List.take_succ_eq_append_getElem hk, List.flatMap_append]; simp only [List.flatMap_cons, List.flatMap_nil, List.append_nil]
theorem refsInF_len {N : Nat} : ∀ {l : List DSent}, (∀ x ∈ l, x.args.length ≤ N) → (refsInF l).length ≤ l.length * N
  | [], _ => by simp [refsInF]
  | x :: l, h => by
    have h1 := refsInF_len fun y hy => h y (List.mem_cons_of_mem _ hy); have h2 := refsF_len x.args; have h3 := h x (by simp)
    simp only [refsInF, List.flatMap_cons, List.length_append, List.length_cons, Nat.succ_mul] at *; omega
theorem sum_szGo {α : Type} {f : α → Int → Int} {m : α → Nat} {B : Int} (hf : ∀ x left, 0 ≤ left → left ≤ B → 0 ≤ f x left → (m x : Int) ≤ left - f x left) : ∀ {l : List α} {left : Int}, 0 ≤ left → left ≤ B → 0 ≤ szGo f l left → ((l.map m).sum : Int) ≤ left - szGo f l left
  | [], left, _, _, _ => by simp [szGo]
  | x :: r, left, h0, h1, h2 => by
    simp only [szGo] at h2 ⊢
    split at h2
    · omega
    · rename_i hn
      rw [if_neg hn]
      have q1 := hf x left h0 h1 (by omega)
      have q3 := sum_szGo hf (l := r) (left := f x left) (by omega) (by omega) h2
      simp only [List.map_cons, List.sum_cons]; omega
theorem args_sz (x : DSent) (l0 : Int) (h0 : 0 ≤ l0) (h1 : l0 ≤ 1048576) (h : 0 ≤ x.szf l0) : (x.args.length : Int) ≤ l0 - x.szf l0 := by
  simp only [DSent.szf] at h ⊢
  split at h; · omega
  rename_i n1; rw [if_neg n1]
  split at h; · omega
  rename_i n2; rw [if_neg n2]
  have e : szN x.args (l0 - x.name.size) = l0 - x.name.size - x.args.length := by
    unfold szN at n2 ⊢
    by_cases g : l0 - x.name.size - x.args.length < 0
    · rw [if_pos g] at n2; omega
    · rw [if_neg g]
  omega
theorem refsInF_sum : ∀ (l : List DSent), (refsInF l).length ≤ (l.map fun x => x.args.length).sum
  | [] => by simp [refsInF]
  | x :: l => by
    have h1 := refsInF_sum l; have h2 := refsF_len x.args
    simp only [refsInF, List.flatMap_cons, List.length_append, List.map_cons, List.sum_cons] at *; omega
theorem refsInF_sz {l : List DSent} (h : ¬ szL DSent.szf l 1048576 < 0) : (refsInF l).length ≤ 1048576 := by
  have h1 := refsInF_sum l
  have h : 0 ≤ szL DSent.szf l 1048576 := Int.not_lt.1 h
  unfold szL at h
  split at h
  · omega
  · have := sum_szGo (m := fun x : DSent => x.args.length) (B := 1048576) args_sz (by omega) (by omega) h
    omega
theorem ints_flat (l : List Int) : (l.map fun n => [CD.i .i64 n]).flatten.all CD.flat = true := by
  rw [List.all_flatten, List.all_eq_true]; intro y hy; obtain ⟨x, _, rfl⟩ := List.mem_map.1 hy; rfl

theorem impl_refsIn_T (β : Bool) (l : List DValue) (hl : l.length ≤ 1048576) (h : AH) : T Try.prog Γ Fn.impl_refsIn [.vs β 2 false (l.map (DValue.c β))] h (Fresh h [.c (.sl 1 ((refsF l).map fun n => [.i .i64 n]))]) := by
  have L0 := len_vm β 2 false l (DValue.c β)
  generalize e0 : AV.vs β 2 false (l.map (DValue.c β)) = a0 at *
  refine T.freshC ?_
  refine impl_refsIn_e (aw_sound tabOK mixed [] _ _ _ ?_)
  unfold impl_refsIn_c
  simp only [EV, EL, EB, EF, q_bx, if_true, if_false, Bool.false_eq_true, Nat.reduceAdd, Option.bind_some, Bool.not_true, Bool.not_false, Nat.reduceBEq, impl_refsIn_r, EA, L0]
  refine loopI tabOK mixed [] (fun x : Nat × AV × AH × List Nat × List (List AV) => x.1 ≤ l.length ∧ Own x.2.2.1 x.2.1 (.sl 1 ((refsF (l.take x.1)).map fun n => [.i .i64 n])) x.2.2.2.1 ∧ x.2.2.2.1.Nodup ∧ (∀ c ∈ x.2.2.2.1, h.length ≤ c) ∧ ∃ N, x.2.2.1 = h ++ N) (fun x => l.length - x.1)
    (fun x => impl_refsIn_s0 x.2.1 a0 (.int .i64 l.length) (.int .i64 x.1) x.2.2.2.2 x.2.2.1) (0, .gs h.length 0 0 0 0 1 true, h ++ [some (0, [])], [h.length], []) ⟨by simp, bsl0_own h 1, by simp, by simp, _, rfl⟩ ⟨by simp [impl_refsIn_s0, LeL, LeV], rfl, rfl⟩ ?_
  rintro ⟨k, v, H, fp, L⟩ ⟨hk, ho, nd, hfp, N, hN⟩
  simp only at hk ho nd hfp hN
  subst hN
  simp only [EV, EL, EB, EF, q_bx, if_true, if_false, Bool.false_eq_true, Nat.reduceAdd, Option.bind_some, Bool.not_true, Bool.not_false, Nat.reduceBEq, impl_refsIn_r, impl_refsIn_s0]
  refine c_split (fun hlt => ?_) (fun hge => ?_)
  rotate_left
  · have hge : k = l.length := by simp at hge; omega
    subst hge
    simp only [EV, EL, EB, EF, q_bx, if_true, if_false, Bool.false_eq_true, Nat.reduceAdd, Option.bind_some, Bool.not_true, Bool.not_false, Nat.reduceBEq, impl_refsIn_r]
    rw [List.take_length] at ho
    exact ⟨ho.outOK, N, fp, rfl, ho, nd, hfp⟩
  have hlt : k < l.length := by simpa using hlt
  have i0 := idx_vm (β := β) (sz := 2) (ex := false) (ce := DValue.c β) hlt
  rw [e0] at i0
  have ht := refsF_take hlt
  by_cases hp : l[k].kind = 1
  rotate_left
  · rw [refs1, if_neg hp, List.append_nil] at ht
    simp only [EV, EL, EB, EF, q_bx, if_true, if_false, Bool.false_eq_true, Nat.reduceAdd, Option.bind_some, Bool.not_true, Bool.not_false, Nat.reduceBEq, impl_refsIn_r, i0, DValue.c, beq_dec, decide_eq_false hp]
    exact ⟨(k + 1, v, h ++ N, fp, _), ⟨hlt, by simp only; rw [ht]; exact ho, nd, hfp, N, rfl⟩, by simp only; omega, ⟨by rw [wN (by omega)]; simp [impl_refsIn_s0, LeL, LeV], rfl, rfl⟩⟩
  rw [refs1, if_pos hp] at ht
  have hbl := refsF_len (l.take k)
  rw [List.length_take] at hbl
  obtain ⟨v', H', fp', ea, o', nd', hf', hl', hm'⟩ := app_ext (bytes := 8) ho (ys := [.int .i64 l[k].n]) (row := [.i .i64 l[k].n]) (f2 := []) (by simpa using nd) (by omega) rfl (.i .nil) (by simp only [List.length_map, maxMade]; omega)
  obtain ⟨N', rfl⟩ := ext_of hl' hf' hfp
  simp only [EV, EL, EB, EF, q_bx, if_true, if_false, Bool.false_eq_true, Nat.reduceAdd, Option.bind_some, Bool.not_true, Bool.not_false, Nat.reduceBEq, impl_refsIn_r, EA, i0, DValue.c, beq_dec, decide_eq_true hp, ea]
  refine ⟨(k + 1, v', h ++ N', fp', _), ⟨hlt, by simp only; rw [ht, List.map_append]; exact o', nd', fun c hc => ?_, N', rfl⟩, by simp only; omega, ⟨by rw [wN (by omega)]; simp [impl_refsIn_s0, LeL, LeV], rfl, rfl⟩⟩
  rcases hm' c hc with g | g | g
  · exact hfp c g
  · simp at g
  · simp at g; omega

theorem impl_RefsIn_T (β : Bool) (l : List DSent) (hl : l.length ≤ 1048576) (ho' : ∀ x ∈ l, x.ok 1048576) (hR : (refsInF l).length ≤ 1048576) (h : AH) : T Try.prog Γ Fn.impl_RefsIn [.vs β 7 false (l.map (DSent.c β))] h (Fresh h [.c (.sl 1 ((refsInF l).map fun n => [.i .i64 n]))]) := by
  have L0 := len_vm β 7 false l (DSent.c β)
  generalize e0 : AV.vs β 7 false (l.map (DSent.c β)) = a0 at *
  refine T.freshC ?_
  refine impl_RefsIn_e (aw_sound tabOK mixed [] _ _ _ ?_)
  unfold impl_RefsIn_c
  simp only [EV, EL, EB, EF, q_bx, if_true, if_false, Bool.false_eq_true, Nat.reduceAdd, Option.bind_some, Bool.not_true, Bool.not_false, Nat.reduceBEq, impl_RefsIn_r, EA, L0]
  refine loopI tabOK mixed [] (fun x : Nat × AV × AH × List Nat × List (List AV) => x.1 ≤ l.length ∧ Own x.2.2.1 x.2.1 (.sl 1 ((refsInF (l.take x.1)).map fun n => [.i .i64 n])) x.2.2.2.1 ∧ x.2.2.2.1.Nodup ∧ (∀ c ∈ x.2.2.2.1, h.length ≤ c) ∧ HExt h x.2.2.1) (fun x => l.length - x.1)
    (fun x => impl_RefsIn_s0 x.2.1 a0 (.int .i64 l.length) (.int .i64 x.1) x.2.2.2.2 x.2.2.1) (0, .gs h.length 0 0 0 0 1 true, h ++ [some (0, [])], [h.length], []) ⟨by simp, bsl0_own h 1, by simp, by simp, HExt.app _ _⟩ ⟨by simp [impl_RefsIn_s0, LeL, LeV], rfl, rfl⟩ ?_
  rintro ⟨k, v, H, fp, L⟩ ⟨hk, ho, nd, hfp, hN⟩
  simp only at hk ho nd hfp hN
  simp only [EV, EL, EB, EF, q_bx, if_true, if_false, Bool.false_eq_true, Nat.reduceAdd, Option.bind_some, Bool.not_true, Bool.not_false, Nat.reduceBEq, impl_RefsIn_r, impl_RefsIn_s0]
  refine c_split (fun hlt => ?_) (fun hge => ?_)
  rotate_left
  · have hge : k = l.length := by simp at hge; omega
    subst hge
    simp only [EV, EL, EB, EF, q_bx, if_true, if_false, Bool.false_eq_true, Nat.reduceAdd, Option.bind_some, Bool.not_true, Bool.not_false, Nat.reduceBEq, impl_RefsIn_r]
    rw [List.take_length] at ho
    obtain ⟨N, rfl⟩ := hN.out
    exact ⟨ho.outOK, N, fp, rfl, ho, nd, hfp⟩
  have hlt : k < l.length := by simpa using hlt
  have i0 := idx_vm (β := β) (sz := 7) (ex := false) (ce := DSent.c β) hlt
  rw [e0] at i0
  have ht := refsInF_take hlt
  have hle : (refsInF (l.take k)).length + (refsF l[k].args).length ≤ (refsInF l).length := by
    rw [← List.length_append, ← ht]
    have : refsInF l = refsInF (l.take (k + 1)) ++ refsInF (l.drop (k + 1)) := by simp only [refsInF]; rw [← List.flatMap_append, List.take_append_drop]
    rw [this, List.length_append]; omega
  have hox := ho' _ (List.getElem_mem hlt)
  simp only [EV, EL, EB, EF, q_bx, if_true, if_false, Bool.false_eq_true, Nat.reduceAdd, Option.bind_some, Bool.not_true, Bool.not_false, Nat.reduceBEq, impl_RefsIn_r, i0, DSent.c]
  refine TCall.ref (by simp only [EO]) (impl_refsIn_T β l[k].args hox.2 _) ?_
  rintro w H1 fr
  replace fr : Fresh H _ _ _ := fr
  obtain ⟨fw, ow, nw, bw, ew⟩ := fr.c1
  replace ho := ho.ext ew
  obtain ⟨v', H', fp', ea, o', nd', hf', hl', hm'⟩ := app_list (bytes := 8) ho nd (by omega) ow (ints_flat _) (by simp only [List.length_map, maxMade]; omega)
  simp only [EV, EL, EB, EF, q_bx, if_true, if_false, Bool.false_eq_true, Nat.reduceAdd, Option.bind_some, Bool.not_true, Bool.not_false, Nat.reduceBEq, impl_RefsIn_r, EA, ea]
  have hx1 := hN.trans ew
  refine ⟨(k + 1, v', H', fp', _), ⟨hlt, by simp only; rw [ht, List.map_append]; exact o', nd', fun c hc => ?_, ⟨Nat.le_trans hx1.len hl', fun c hc => ?_⟩⟩, by simp only; omega, ⟨by rw [wN (by omega)]; simp [impl_RefsIn_s0, LeL, LeV], rfl, rfl⟩⟩
  · rcases hm' c hc with g | g
    · exact hfp c g
    · have := hx1.len; omega
  · have := hx1.len
    rw [hf' c (fun hm => by have := hfp c hm; omega) (by omega)]; exact hx1.fr c hc

theorem spec_l19Ref_T (β : Bool) (x : DValue) (H : AH) {v : AV} {xs : List Int} {fp : List Nat} (o : Own H v (.sl 1 (xs.map fun n => [.i .i64 n])) fp) (nd : fp.Nodup) (hb : xs.length ≤ 1073741824) :
    T Try.prog Γ Fn.spec_l19Ref [v, .agg (x.c β)] H fun v' H' => ∃ fp', Own H' v' (.sl 1 ((xs ++ refs1 x).map fun n => [.i .i64 n])) fp' ∧ fp'.Nodup ∧ (∀ c, c ∉ fp → c < H.length → H'[c]? = H[c]?) ∧ H.length ≤ H'.length ∧ ∀ c ∈ fp', c ∈ fp ∨ H.length ≤ c := by
  obtain ⟨c1, c2, c3, c4⟩ := o.cell
  refine spec_l19Ref_e (aw_sound tabOK mixed [] _ _ _ ?_)
  unfold spec_l19Ref_c
  by_cases hp : x.kind = 1
  rotate_left
  · simp only [EV, EL, EB, EF, q_bx, if_true, if_false, Bool.false_eq_true, Nat.reduceAdd, Option.bind_some, Bool.not_true, Bool.not_false, Nat.reduceBEq, spec_l19Ref_r, DValue.c, beq_dec, decide_eq_false hp]
    refine ⟨o.outOK, fp, ?_, nd, by simp, by simp, fun c hc => .inl hc⟩
    rw [refs1, if_neg hp, List.append_nil]; exact o
  obtain ⟨v', H', fp', ea, o', nd', hf', hl', hm'⟩ := app_ext (bytes := 8) o (ys := [.int .i64 x.n]) (row := [.i .i64 x.n]) (f2 := []) (by simpa using nd) (by omega) rfl (.i .nil) (by simp only [List.length_map, maxMade]; omega)
  simp only [EV, EL, EB, EF, q_bx, if_true, if_false, Bool.false_eq_true, Nat.reduceAdd, Option.bind_some, Bool.not_true, Bool.not_false, Nat.reduceBEq, spec_l19Ref_r, EA, DValue.c, beq_dec, decide_eq_true hp, ea]
  refine ⟨o'.outOK, fp', ?_, nd', hf', hl', fun c hc => ?_⟩
  · rw [refs1, if_pos hp, List.map_append]; exact o'
  · rcases hm' c hc with g | g | g
    · exact .inl g
    · simp at g
    · exact .inr g

theorem spec_RefsIn_T (β : Bool) (l : List DSent) (hl : l.length ≤ 1048576) (ho' : ∀ x ∈ l, x.ok 1048576) (hR : (refsInF l).length ≤ 1048576) (h : AH) : T Try.prog Γ Fn.spec_RefsIn [.vs β 7 false (l.map (DSent.c β))] h (Fresh h [.c (.sl 1 ((refsInF l).map fun n => [.i .i64 n]))]) := by
  have L0 := len_vm β 7 false l (DSent.c β)
  generalize e0 : AV.vs β 7 false (l.map (DSent.c β)) = a0 at *
  refine T.freshC ?_
  refine spec_RefsIn_e (aw_sound tabOK mixed [] _ _ _ ?_)
  unfold spec_RefsIn_c
  simp only [EV, EL, EB, EF, q_bx, if_true, if_false, Bool.false_eq_true, Nat.reduceAdd, Option.bind_some, Bool.not_true, Bool.not_false, Nat.reduceBEq, spec_RefsIn_r, EA, L0]
  refine loopI tabOK mixed [] (fun x : Nat × AV × AH × List Nat => x.1 ≤ l.length ∧ Own x.2.2.1 x.2.1 (.sl 1 ((refsInF (l.take x.1)).map fun n => [.i .i64 n])) x.2.2.2 ∧ x.2.2.2.Nodup ∧ (∀ c ∈ x.2.2.2, h.length ≤ c) ∧ HExt h x.2.2.1) (fun x => l.length - x.1)
    (fun x => spec_RefsIn_s0 a0 x.2.1 (.int .i64 x.1) [] x.2.2.1) (0, .gs h.length 0 0 0 0 1 true, h ++ [some (0, [])], [h.length]) ⟨by simp, bsl0_own h 1, by simp, by simp, HExt.app _ _⟩ ⟨by simp [spec_RefsIn_s0, LeL, LeV], rfl, rfl⟩ ?_
  rintro ⟨k, v, H, fp⟩ ⟨hk, ho, nd, hfp, hN⟩
  simp only at hk ho nd hfp hN
  simp only [EV, EL, EB, EF, q_bx, if_true, if_false, Bool.false_eq_true, Nat.reduceAdd, Option.bind_some, Bool.not_true, Bool.not_false, Nat.reduceBEq, spec_RefsIn_r, spec_RefsIn_s0, L0]
  refine c_split (fun hlt => ?_) (fun hge => ?_)
  rotate_left
  · have hge : k = l.length := by simp at hge; omega
    subst hge
    simp only [EV, EL, EB, EF, q_bx, if_true, if_false, Bool.false_eq_true, Nat.reduceAdd, Option.bind_some, Bool.not_true, Bool.not_false, Nat.reduceBEq, spec_RefsIn_r]
    rw [List.take_length] at ho
    obtain ⟨N, rfl⟩ := hN.out
    exact ⟨ho.outOK, N, fp, rfl, ho, nd, hfp⟩
  have hlt : k < l.length := by simpa using hlt
  have i0 := idx_vm (β := β) (sz := 7) (ex := false) (ce := DSent.c β) hlt
  rw [e0] at i0
  have ht := refsInF_take hlt
  have hle : (refsInF (l.take k)).length + (refsF l[k].args).length ≤ (refsInF l).length := by
    rw [← List.length_append, ← ht]
    have : refsInF l = refsInF (l.take (k + 1)) ++ refsInF (l.drop (k + 1)) := by simp only [refsInF]; rw [← List.flatMap_append, List.take_append_drop]
    rw [this, List.length_append]; omega
  have hox := ho' _ (List.getElem_mem hlt)
  have hal : l[k].args.length ≤ 1048576 := hox.2
  have L1 := len_vm β 2 false l[k].args (DValue.c β)
  simp only [EV, EL, EB, EF, q_bx, if_true, if_false, Bool.false_eq_true, Nat.reduceAdd, Option.bind_some, Bool.not_true, Bool.not_false, Nat.reduceBEq, spec_RefsIn_r, i0, DSent.c]
  refine loopI tabOK mixed [] (fun x : Nat × AV × AH × List Nat => x.1 ≤ l[k].args.length ∧ Own x.2.2.1 x.2.1 (.sl 1 ((refsInF (l.take k) ++ refsF (l[k].args.take x.1)).map fun n => [.i .i64 n])) x.2.2.2 ∧ x.2.2.2.Nodup ∧ (∀ c ∈ x.2.2.2, h.length ≤ c) ∧ HExt h x.2.2.1) (fun x => l[k].args.length - x.1)
    (fun x => spec_RefsIn_s1 a0 x.2.1 (.int .i64 k) (.int .i64 x.1) [] x.2.2.1) (0, v, H, fp) ⟨by simp, by simpa [refsF] using ho, nd, hfp, hN⟩ ⟨by simp [spec_RefsIn_s1, LeL, LeV], rfl, rfl⟩ ?_
  rintro ⟨j, v, H, fp⟩ ⟨hj, ho, nd, hfp, hN⟩
  simp only at hj ho nd hfp hN
  simp only [EV, EL, EB, EF, q_bx, if_true, if_false, Bool.false_eq_true, Nat.reduceAdd, Option.bind_some, Bool.not_true, Bool.not_false, Nat.reduceBEq, spec_RefsIn_r, spec_RefsIn_s1, i0, DSent.c, L1]
  refine c_split (fun hlt2 => ?_) (fun hge => ?_)
  rotate_left
  · have hge : j = l[k].args.length := by simp at hge; omega
    subst hge
    simp only [EV, EL, EB, EF, q_bx, if_true, if_false, Bool.false_eq_true, Nat.reduceAdd, Option.bind_some, Bool.not_true, Bool.not_false, Nat.reduceBEq, spec_RefsIn_r]
    rw [List.take_length] at ho
    exact ⟨(k + 1, v, H, fp), ⟨hlt, by simp only; rw [ht]; exact ho, nd, hfp, hN⟩, by simp only; omega, ⟨by rw [wN (by omega)]; simp [spec_RefsIn_s0, LeL, LeV], rfl, rfl⟩⟩
  have hlt2 : j < l[k].args.length := by simpa using hlt2
  have i1 := idx_vm (β := β) (sz := 2) (ex := false) (ce := DValue.c β) hlt2
  have ht2 := refsF_take hlt2
  have hle2 := refsF_len (l[k].args.take j)
  rw [List.length_take] at hle2
  obtain ⟨c1, c2, c3, c4⟩ := ho.cell
  simp only [EV, EL, EB, EF, q_bx, if_true, if_false, Bool.false_eq_true, Nat.reduceAdd, Option.bind_some, Bool.not_true, Bool.not_false, Nat.reduceBEq, spec_RefsIn_r, i0, i1, DSent.c, DValue.c]
  have h12 : (refsInF (l.take k)).length ≤ 1048576 := by omega
  refine TCall.ref (by simp only [EO, c4]) (spec_l19Ref_T β _ _ ho nd (by rw [List.length_append]; omega)) ?_
  rintro v' H' ⟨fp', o', nd', hf', hl', hm'⟩
  replace hf' : ∀ c, c ∉ fp → c < H.length → H'[c]? = H[c]? := hf'
  replace hl' : H.length ≤ H'.length := hl'
  replace hm' : ∀ c ∈ fp', c ∈ fp ∨ H.length ≤ c := hm'
  simp only [EV, EL, EB, EF, q_bx, if_true, if_false, Bool.false_eq_true, Nat.reduceAdd, Option.bind_some, Bool.not_true, Bool.not_false, Nat.reduceBEq, spec_RefsIn_r]
  have := hN.len
  refine ⟨(j + 1, v', H', fp'), ⟨hlt2, by simp only; rw [ht2, ← List.append_assoc]; exact o', nd', fun c hc => ?_, ⟨Nat.le_trans hN.len hl', fun c hc => ?_⟩⟩, by simp only; omega, ⟨by rw [wN (by omega)]; simp [spec_RefsIn_s1, LeL, LeV], rfl, rfl⟩⟩
  · rcases hm' c hc with g | g
    · exact hfp c g
    · omega
  · rw [hf' c (fun hm => by have := hfp c hm; omega) (by omega)]; exact hN.fr c hc

end Go.Proofs.Ytjmcfdhklogpkaa
