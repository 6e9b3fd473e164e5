import Derived.Test.YtjohoameeeaafaaR1H
import Derived.Test.YtjohoameeeaafaaAmApp2
set_option linter.unusedVariables false
set_option linter.unusedSimpArgs false
namespace Go.Proofs.Ytjohoameeeaafaa
open Go.AM
set_option linter.unusedVariables false
set_option linter.unusedSimpArgs false
set_option maxHeartbeats 1000000
variable {Γ : Glob}
theorem laws_eqIntS_T (β β' : Bool) (l m : List Int) (hl : l.length ≤ 1073741824) (h : AH) : T Try.prog Γ Fn.laws_eqIntS [.vs β 1 false (l.map fun n => [.int .i64 n]), .vs β' 1 false (m.map fun n => [.int .i64 n])] h fun v h' => v = .bool (decide (l = m)) ∧ h' = h :=
  flatEq_D (sz := 1) (agg := false) (ek := .num) tabOK mixed (fun hw => laws_eqIntS_e hw) (by omega) (fun x => ⟨rfl, .inr rfl⟩) (fun x => ⟨rfl, .inr rfl⟩) (fun x y => by simp [elV, aBin, aArith, ne_int])
theorem laws_markIntS_T (l : List Int) (k : Int) (hk : 0 ≤ k) (hb : k + cntL (fun (_ : Int) => (1 : Int)) l ≤ 9223372036854775000) (hl : l.length ≤ 1073741824) (H : AH) {a : AV} {fp : List Nat} (o : Own H a (.sl 1 (l.map (fun n : Int => [CD.i .i64 n]))) fp) (nd : fp.Nodup) :
    T Try.prog Γ Fn.laws_markIntS [a, .int .i64 k] H fun v h' => v = .int .i64 (k + cntL (fun (_ : Int) => (1 : Int)) l) ∧ (h'.length = H.length ∧ (∀ c, c ∉ fp → h'[c]? = H[c]?) ∧ Own h' a (.sl 1 ((mkL (fun (_ : Int) k => k) (fun (_ : Int) => (1 : Int)) l k).map (fun n : Int => [CD.i .i64 n]))) fp) := by
  rcases o.sl_inv with ⟨rfl, e, rfl⟩ | ⟨b, g, cap, ex, as0, tail, fp, rfl, rfl, hg, hsz, ht, hc, hown⟩
  · have e : l = [] := by simpa using e
    subst e
    have L0 : lenI false .nils = some (.int .i64 0) := rfl
    refine laws_markIntS_e (aw_sound tabOK mixed [] _ _ _ ?_)
    unfold laws_markIntS_c
    simp only [EV, EL, EB, EF, EM, q_bx, if_true, if_false, Bool.false_eq_true, Nat.reduceAdd, Option.bind_some, Bool.not_true, Bool.not_false, Nat.reduceBEq, Nat.reduceLeDiff, nn_b, nn_s, nn_i, laws_markIntS_r]
    refine loopI tabOK mixed [] (fun _ : Unit => True) (fun _ => 0) (fun _ => laws_markIntS_s0 .nils (.int .i64 k) (.int .i64 0) [] H) () trivial ⟨by simp [laws_markIntS_s0, LeL, LeV], rfl, rfl⟩ ?_
    intro _ _
    simp only [EV, EL, EB, EF, EM, q_bx, if_true, if_false, Bool.false_eq_true, Nat.reduceAdd, Option.bind_some, Bool.not_true, Bool.not_false, Nat.reduceBEq, Nat.reduceLeDiff, nn_b, nn_s, nn_i, laws_markIntS_r, laws_markIntS_s0, L0, show decide ((0 : Int) < 0) = false from rfl]
    refine ⟨rfl, by simp [cntL], ?_⟩
    first | exact ⟨rfl, fun _ _ => rfl, .nil _⟩ | exact ⟨fun _ _ => trivial, .nil _⟩
  simp only [List.length_map] at hc o ⊢
  have L0 : lenI false (.gs b g 0 l.length cap 1 ex) = some (.int .i64 l.length) := rfl
  have hbf : b ∉ fp := (List.nodup_cons.1 nd).1
  refine laws_markIntS_e (aw_sound tabOK mixed [] _ _ _ ?_)
  unfold laws_markIntS_c
  simp only [EV, EL, EB, EF, EM, q_bx, if_true, if_false, Bool.false_eq_true, Nat.reduceAdd, Option.bind_some, Bool.not_true, Bool.not_false, Nat.reduceBEq, Nat.reduceLeDiff, nn_b, nn_s, nn_i, laws_markIntS_r]
  refine loopI tabOK mixed [] (fun y : Nat × AH × List AV × List AV × List Nat × List Nat => y.1 ≤ l.length ∧ MInv H b g tail fp (fun n : Int => [CD.i .i64 n]) (l.drop y.1) (mkL (fun (_ : Int) k => k) (fun (_ : Int) => (1 : Int)) (l.take y.1) k) y.2.1 y.2.2.1 y.2.2.2.1 y.2.2.2.2.1 y.2.2.2.2.2) (fun y => l.length - y.1)
    (fun y => laws_markIntS_s0 (.gs b g 0 l.length cap 1 ex) (.int .i64 (k + cntL (fun (_ : Int) => (1 : Int)) (l.take y.1))) (.int .i64 y.1) [] y.2.1) (0, H, [], as0, [], fp) ⟨by simp, by simpa [mkL] using MInv.start hg hown⟩ ⟨by simp [laws_markIntS_s0, LeL, LeV, cntL], rfl, rfl⟩ ?_
  rintro ⟨j, H', as1, as2, f1, f2⟩ ⟨hj, iv⟩
  simp only at hj iv
  simp only [EV, EL, EB, EF, EM, q_bx, if_true, if_false, Bool.false_eq_true, Nat.reduceAdd, Option.bind_some, Bool.not_true, Bool.not_false, Nat.reduceBEq, Nat.reduceLeDiff, nn_b, nn_s, nn_i, laws_markIntS_r, laws_markIntS_s0, L0]
  refine c_split (fun hlt => ?_) (fun hge => ?_)
  rotate_left
  · have hge : j = l.length := by simp at hge; omega
    subst hge
    simp only [EV, EL, EB, EF, EM, q_bx, if_true, if_false, Bool.false_eq_true, Nat.reduceAdd, Option.bind_some, Bool.not_true, Bool.not_false, Nat.reduceBEq, Nat.reduceLeDiff, nn_b, nn_s, nn_i, laws_markIntS_r]
    rw [List.drop_length, List.take_length] at iv
    rw [List.take_length]
    exact ⟨rfl, rfl, iv.done mkL_len (fun _ => rfl) ht hc⟩
  have hlt : j < l.length := by simpa using hlt
  have htk := cntL_take (fun (_ : Int) => (1 : Int)) hlt
  have hle := cntL_le (c := (fun (_ : Int) => (1 : Int))) (fun _ => by omega) hlt
  have hnn := cntL_nn (c := (fun (_ : Int) => (1 : Int))) (fun _ => by omega) (l.take j)
  have hmt := mkL_take (fun (_ : Int) k => k) (fun (_ : Int) => (1 : Int)) hlt k
  rw [List.drop_eq_getElem_cons hlt] at iv
  obtain ⟨x, hx⟩ : ∃ x, x = l[j] := ⟨_, rfl⟩
  rw [← hx] at iv
  try rw [← hx] at htk hle
  try rw [← hx] at hmt
  obtain ⟨kj, hkj⟩ : ∃ kj, kj = k + cntL (fun (_ : Int) => (1 : Int)) (l.take j) := ⟨_, rfl⟩
  rw [← hkj] at hmt
  rw [← hkj]
  have hk0 : 0 ≤ kj := by omega
  have hkb : kj + 1 ≤ 9223372036854775000 := by omega
  obtain ⟨h1, h2, cs, post, fx, fr, e1, e2, rfl, rfl, q1, q2⟩ := iv.open
  have hfx : ∀ c ∈ fx, c ≠ b := fun c hc e => hbf (by rw [iv.fps, ← e]; simp [hc])
  have ndx : fx.Nodup := (List.nodup_append.1 (List.nodup_append.1 (iv.fps ▸ (List.nodup_cons.1 nd).2)).2.1).1
  have hn0 : as1.length = j * 1 := by rw [iv.o1.len, flat_len' (sz := 1) (fun y _ => rfl), mkL_len, List.length_take, Nat.min_eq_left hj]
  have i0 : aIdxs 1 (.gs b g 0 l.length cap 1 ex) (j : Int) = some (.gp b g as1.length) := by rw [idx_gs hlt, hn0, Nat.zero_add]
  obtain ⟨rfl, rfl⟩ : cs = [.int .i64 x] ∧ fx = [] := by
    simp only [ownL_c, ownL_n, own_i] at q1; obtain ⟨_, _, _, _, rfl, rfl, ⟨rfl, rfl⟩, rfl, rfl⟩ := q1; exact ⟨rfl, rfl⟩
  replace e1 : H' = h1 ++ some (g, as1 ++ elc [.int .i64 x] (post ++ tail)) :: h2 := e1
  subst e1
  have w1 : IntKind.i64.wrap (kj + 1) = kj + 1 := wrap_nat (by omega) (by omega)
  simp only [EV, EL, EB, EF, EM, q_bx, if_true, if_false, Bool.false_eq_true, Nat.reduceAdd, Option.bind_some, Bool.not_true, Bool.not_false, Nat.reduceBEq, Nat.reduceLeDiff, nn_b, nn_s, nn_i, laws_markIntS_r, i0, st_el0 e2 rfl, w1]
  refine ⟨(j + 1, _, as1 ++ [.int .i64 kj], post, f1 ++ [], fr), ⟨hlt, ?inv⟩, (by simp only; omega), ⟨?le, rfl, rfl⟩⟩
  case inv => simp only; rw [hmt]; exact iv.next (y := kj) nd q2 (by simp) (hget_at e2) (fun c hc _ => at_ne e2 hc) (.i .nil)
  case le => rw [htk, wN (by omega), ← Int.add_assoc, ← hkj]; (try simp [laws_markIntS_s0, LeL, LeV])
theorem laws_markWireS_T (l : List DWire) (k : Int) (hk : 0 ≤ k) (hb : k + cntL DWire.cnt l ≤ 9223372036854775000) (hl : l.length ≤ 1073741824) (H : AH) {a : AV} {fp : List Nat} (o : Own H a (.sl 2 (l.map DWire.cd)) fp) (nd : fp.Nodup) :
    T Try.prog Γ Fn.laws_markWireS [a, .int .i64 k] H fun v h' => v = .int .i64 (k + cntL DWire.cnt l) ∧ (h'.length = H.length ∧ (∀ c, c ∉ fp → h'[c]? = H[c]?) ∧ Own h' a (.sl 2 ((mkL DWire.mk_ DWire.cnt l k).map DWire.cd)) fp) := by
  rcases o.sl_inv with ⟨rfl, e, rfl⟩ | ⟨b, g, cap, ex, as0, tail, fp, rfl, rfl, hg, hsz, ht, hc, hown⟩
  · have e : l = [] := by simpa using e
    subst e
    have L0 : lenI false .nils = some (.int .i64 0) := rfl
    refine laws_markWireS_e (aw_sound tabOK mixed [] _ _ _ ?_)
    unfold laws_markWireS_c
    simp only [EV, EL, EB, EF, EM, q_bx, if_true, if_false, Bool.false_eq_true, Nat.reduceAdd, Option.bind_some, Bool.not_true, Bool.not_false, Nat.reduceBEq, Nat.reduceLeDiff, nn_b, nn_s, nn_i, laws_markWireS_r]
    refine loopI tabOK mixed [] (fun _ : Unit => True) (fun _ => 0) (fun _ => laws_markWireS_s0 .nils (.int .i64 k) (.int .i64 0) [] H) () trivial ⟨by simp [laws_markWireS_s0, LeL, LeV], rfl, rfl⟩ ?_
    intro _ _
    simp only [EV, EL, EB, EF, EM, q_bx, if_true, if_false, Bool.false_eq_true, Nat.reduceAdd, Option.bind_some, Bool.not_true, Bool.not_false, Nat.reduceBEq, Nat.reduceLeDiff, nn_b, nn_s, nn_i, laws_markWireS_r, laws_markWireS_s0, L0, show decide ((0 : Int) < 0) = false from rfl]
    refine ⟨rfl, by simp [cntL], ?_⟩
    first | exact ⟨rfl, fun _ _ => rfl, .nil _⟩ | exact ⟨fun _ _ => trivial, .nil _⟩
  simp only [List.length_map] at hc o ⊢
  have L0 : lenI false (.gs b g 0 l.length cap 2 ex) = some (.int .i64 l.length) := rfl
  have hbf : b ∉ fp := (List.nodup_cons.1 nd).1
  refine laws_markWireS_e (aw_sound tabOK mixed [] _ _ _ ?_)
  unfold laws_markWireS_c
  simp only [EV, EL, EB, EF, EM, q_bx, if_true, if_false, Bool.false_eq_true, Nat.reduceAdd, Option.bind_some, Bool.not_true, Bool.not_false, Nat.reduceBEq, Nat.reduceLeDiff, nn_b, nn_s, nn_i, laws_markWireS_r]
  refine loopI tabOK mixed [] (fun y : Nat × AH × List AV × List AV × List Nat × List Nat => y.1 ≤ l.length ∧ MInv H b g tail fp DWire.cd (l.drop y.1) (mkL DWire.mk_ DWire.cnt (l.take y.1) k) y.2.1 y.2.2.1 y.2.2.2.1 y.2.2.2.2.1 y.2.2.2.2.2) (fun y => l.length - y.1)
    (fun y => laws_markWireS_s0 (.gs b g 0 l.length cap 2 ex) (.int .i64 (k + cntL DWire.cnt (l.take y.1))) (.int .i64 y.1) [] y.2.1) (0, H, [], as0, [], fp) ⟨by simp, by simpa [mkL] using MInv.start hg hown⟩ ⟨by simp [laws_markWireS_s0, LeL, LeV, cntL], rfl, rfl⟩ ?_
  rintro ⟨j, H', as1, as2, f1, f2⟩ ⟨hj, iv⟩
  simp only at hj iv
  simp only [EV, EL, EB, EF, EM, q_bx, if_true, if_false, Bool.false_eq_true, Nat.reduceAdd, Option.bind_some, Bool.not_true, Bool.not_false, Nat.reduceBEq, Nat.reduceLeDiff, nn_b, nn_s, nn_i, laws_markWireS_r, laws_markWireS_s0, L0]
  refine c_split (fun hlt => ?_) (fun hge => ?_)
  rotate_left
  · have hge : j = l.length := by simp at hge; omega
    subst hge
    simp only [EV, EL, EB, EF, EM, q_bx, if_true, if_false, Bool.false_eq_true, Nat.reduceAdd, Option.bind_some, Bool.not_true, Bool.not_false, Nat.reduceBEq, Nat.reduceLeDiff, nn_b, nn_s, nn_i, laws_markWireS_r]
    rw [List.drop_length, List.take_length] at iv
    rw [List.take_length]
    exact ⟨rfl, rfl, iv.done mkL_len (fun _ => rfl) ht hc⟩
  have hlt : j < l.length := by simpa using hlt
  have htk := cntL_take DWire.cnt hlt
  have hle := cntL_le (c := DWire.cnt) DWire.cnt_nn hlt
  have hnn := cntL_nn (c := DWire.cnt) DWire.cnt_nn (l.take j)
  have hmt := mkL_take DWire.mk_ DWire.cnt hlt k
  rw [List.drop_eq_getElem_cons hlt] at iv
  obtain ⟨x, hx⟩ : ∃ x, x = l[j] := ⟨_, rfl⟩
  rw [← hx] at iv
  try rw [← hx] at htk hle
  try rw [← hx] at hmt
  obtain ⟨kj, hkj⟩ : ∃ kj, kj = k + cntL DWire.cnt (l.take j) := ⟨_, rfl⟩
  rw [← hkj] at hmt
  rw [← hkj]
  have hk0 : 0 ≤ kj := by omega
  have hkb : kj + DWire.cnt x ≤ 9223372036854775000 := by omega
  obtain ⟨h1, h2, cs, post, fx, fr, e1, e2, rfl, rfl, q1, q2⟩ := iv.open
  have hfx : ∀ c ∈ fx, c ≠ b := fun c hc e => hbf (by rw [iv.fps, ← e]; simp [hc])
  have ndx : fx.Nodup := (List.nodup_append.1 (List.nodup_append.1 (iv.fps ▸ (List.nodup_cons.1 nd).2)).2.1).1
  have hn0 : as1.length = j * 2 := by rw [iv.o1.len, flat_len' (sz := 2) (fun y _ => rfl), mkL_len, List.length_take, Nat.min_eq_left hj]
  have i0 : aIdxs 2 (.gs b g 0 l.length cap 2 ex) (j : Int) = some (.gp b g as1.length) := by rw [idx_gs hlt, hn0, Nat.zero_add]
  simp only [DWire.cnt] at hkb
  simp only [DWire.cd, ownL_c, ownL_n, own_i, own_b, own_s] at q1
  obtain ⟨_, _, _, _, rfl, e0z, ⟨rfl, rfl⟩, ⟨_, _, _, _, rfl, e1z, ⟨rfl, rfl⟩, ⟨rfl, e2z⟩⟩⟩ := q1
  have hfxe : fx = [] := by rw [e0z, e1z, e2z]; simp
  have ow : OwnL H' [] [] fx := by rw [hfxe]; exact .nil
  have hlen0 := (rfl : H'.length = H'.length)
  have fr0 : ∀ c, c ≠ b → c ∉ fx → H'[c]? = H'[c]? := fun _ _ _ => rfl
  have w0 : IntKind.i64.wrap (kj + 1) = kj + 1 := (wrap_nat (by omega) (by omega)).trans (by omega)
  have w1 : IntKind.i64.wrap (kj + 1 + 1) = kj + 2 := (wrap_nat (by omega) (by omega)).trans (by omega)
  obtain ⟨H0, hH0⟩ : ∃ H0, H0 = H' := ⟨_, rfl⟩
  rw [← hH0] at iv q2 ow fr0 hlen0
  have fr0 : ∀ c, c ≠ b → c ∉ fx → H'[c]? = H0[c]? := fun _ _ _ => by rw [hH0]
  have hlen0 : H'.length = H0.length := by rw [hH0]
  rw [hH0] at ow
  replace e1 : H' = h1 ++ some (g, as1 ++ elc [.int .i64 x.kind, .int .i64 x.n] (post ++ tail)) :: h2 := e1
  subst e1
  simp only [EV, EL, EB, EF, EM, q_bx, if_true, if_false, Bool.false_eq_true, Nat.reduceAdd, Option.bind_some, Bool.not_true, Bool.not_false, Nat.reduceBEq, Nat.reduceLeDiff, nn_b, nn_s, nn_i, laws_markWireS_r, i0, st_el e2 rfl, rd_el e2 rfl, w0, w1]
  refine ⟨(j + 1, _, as1 ++ [.int .i64 (kj), .int .i64 (kj + 1)], post, f1 ++ [], fr), ⟨hlt, ?inv⟩, (by simp only; omega), ⟨?le, rfl, rfl⟩⟩
  case inv =>
    simp only; rw [hmt]
    subst hfxe
    exact iv.next (y := DWire.mk_ x kj) nd q2 (by rw [← hlen0]; (try simp)) (hget_at e2) (fun c h1 h2 => (at_ne e2 h1).trans (fr0 c h1 h2)) (.i (.i .nil))
  case le =>
    have hfin : k + cntL DWire.cnt (l.take (j + 1)) = kj + 2 := by rw [htk]; simp only [DWire.cnt]; omega
    rw [hfin, wN (by omega)]; (try simp [laws_markWireS_s0, LeL, LeV])
theorem laws_markGiftS_T (l : List DGift) (k : Int) (hk : 0 ≤ k) (hb : k + cntL DGift.cnt l ≤ 9223372036854775000) (hl : l.length ≤ 1073741824) (H : AH) {a : AV} {fp : List Nat} (o : Own H a (.sl 4 (l.map DGift.cd)) fp) (nd : fp.Nodup) :
    T Try.prog Γ Fn.laws_markGiftS [a, .int .i64 k] H fun v h' => v = .int .i64 (k + cntL DGift.cnt l) ∧ (h'.length = H.length ∧ (∀ c, c ∉ fp → h'[c]? = H[c]?) ∧ Own h' a (.sl 4 ((mkL DGift.mk_ DGift.cnt l k).map DGift.cd)) fp) := by
  rcases o.sl_inv with ⟨rfl, e, rfl⟩ | ⟨b, g, cap, ex, as0, tail, fp, rfl, rfl, hg, hsz, ht, hc, hown⟩
  · have e : l = [] := by simpa using e
    subst e
    have L0 : lenI false .nils = some (.int .i64 0) := rfl
    refine laws_markGiftS_e (aw_sound tabOK mixed [] _ _ _ ?_)
    unfold laws_markGiftS_c
    simp only [EV, EL, EB, EF, EM, q_bx, if_true, if_false, Bool.false_eq_true, Nat.reduceAdd, Option.bind_some, Bool.not_true, Bool.not_false, Nat.reduceBEq, Nat.reduceLeDiff, nn_b, nn_s, nn_i, laws_markGiftS_r]
    refine loopI tabOK mixed [] (fun _ : Unit => True) (fun _ => 0) (fun _ => laws_markGiftS_s0 .nils (.int .i64 k) (.int .i64 0) [] H) () trivial ⟨by simp [laws_markGiftS_s0, LeL, LeV], rfl, rfl⟩ ?_
    intro _ _
    simp only [EV, EL, EB, EF, EM, q_bx, if_true, if_false, Bool.false_eq_true, Nat.reduceAdd, Option.bind_some, Bool.not_true, Bool.not_false, Nat.reduceBEq, Nat.reduceLeDiff, nn_b, nn_s, nn_i, laws_markGiftS_r, laws_markGiftS_s0, L0, show decide ((0 : Int) < 0) = false from rfl]
    refine ⟨rfl, by simp [cntL], ?_⟩
    first | exact ⟨rfl, fun _ _ => rfl, .nil _⟩ | exact ⟨fun _ _ => trivial, .nil _⟩
  simp only [List.length_map] at hc o ⊢
  have L0 : lenI false (.gs b g 0 l.length cap 4 ex) = some (.int .i64 l.length) := rfl
  have hbf : b ∉ fp := (List.nodup_cons.1 nd).1
  refine laws_markGiftS_e (aw_sound tabOK mixed [] _ _ _ ?_)
  unfold laws_markGiftS_c
  simp only [EV, EL, EB, EF, EM, q_bx, if_true, if_false, Bool.false_eq_true, Nat.reduceAdd, Option.bind_some, Bool.not_true, Bool.not_false, Nat.reduceBEq, Nat.reduceLeDiff, nn_b, nn_s, nn_i, laws_markGiftS_r]
  refine loopI tabOK mixed [] (fun y : Nat × AH × List AV × List AV × List Nat × List Nat => y.1 ≤ l.length ∧ MInv H b g tail fp DGift.cd (l.drop y.1) (mkL DGift.mk_ DGift.cnt (l.take y.1) k) y.2.1 y.2.2.1 y.2.2.2.1 y.2.2.2.2.1 y.2.2.2.2.2) (fun y => l.length - y.1)
    (fun y => laws_markGiftS_s0 (.gs b g 0 l.length cap 4 ex) (.int .i64 (k + cntL DGift.cnt (l.take y.1))) (.int .i64 y.1) [] y.2.1) (0, H, [], as0, [], fp) ⟨by simp, by simpa [mkL] using MInv.start hg hown⟩ ⟨by simp [laws_markGiftS_s0, LeL, LeV, cntL], rfl, rfl⟩ ?_
  rintro ⟨j, H', as1, as2, f1, f2⟩ ⟨hj, iv⟩
  simp only at hj iv
  simp only [EV, EL, EB, EF, EM, q_bx, if_true, if_false, Bool.false_eq_true, Nat.reduceAdd, Option.bind_some, Bool.not_true, Bool.not_false, Nat.reduceBEq, Nat.reduceLeDiff, nn_b, nn_s, nn_i, laws_markGiftS_r, laws_markGiftS_s0, L0]
  refine c_split (fun hlt => ?_) (fun hge => ?_)
  rotate_left
  · have hge : j = l.length := by simp at hge; omega
    subst hge
    simp only [EV, EL, EB, EF, EM, q_bx, if_true, if_false, Bool.false_eq_true, Nat.reduceAdd, Option.bind_some, Bool.not_true, Bool.not_false, Nat.reduceBEq, Nat.reduceLeDiff, nn_b, nn_s, nn_i, laws_markGiftS_r]
    rw [List.drop_length, List.take_length] at iv
    rw [List.take_length]
    exact ⟨rfl, rfl, iv.done mkL_len (fun _ => rfl) ht hc⟩
  have hlt : j < l.length := by simpa using hlt
  have htk := cntL_take DGift.cnt hlt
  have hle := cntL_le (c := DGift.cnt) DGift.cnt_nn hlt
  have hnn := cntL_nn (c := DGift.cnt) DGift.cnt_nn (l.take j)
  have hmt := mkL_take DGift.mk_ DGift.cnt hlt k
  rw [List.drop_eq_getElem_cons hlt] at iv
  obtain ⟨x, hx⟩ : ∃ x, x = l[j] := ⟨_, rfl⟩
  rw [← hx] at iv
  try rw [← hx] at htk hle
  try rw [← hx] at hmt
  obtain ⟨kj, hkj⟩ : ∃ kj, kj = k + cntL DGift.cnt (l.take j) := ⟨_, rfl⟩
  rw [← hkj] at hmt
  rw [← hkj]
  have hk0 : 0 ≤ kj := by omega
  have hkb : kj + DGift.cnt x ≤ 9223372036854775000 := by omega
  obtain ⟨h1, h2, cs, post, fx, fr, e1, e2, rfl, rfl, q1, q2⟩ := iv.open
  have hfx : ∀ c ∈ fx, c ≠ b := fun c hc e => hbf (by rw [iv.fps, ← e]; simp [hc])
  have ndx : fx.Nodup := (List.nodup_append.1 (List.nodup_append.1 (iv.fps ▸ (List.nodup_cons.1 nd).2)).2.1).1
  have hn0 : as1.length = j * 4 := by rw [iv.o1.len, flat_len' (sz := 4) (fun y _ => rfl), mkL_len, List.length_take, Nat.min_eq_left hj]
  have i0 : aIdxs 4 (.gs b g 0 l.length cap 4 ex) (j : Int) = some (.gp b g as1.length) := by rw [idx_gs hlt, hn0, Nat.zero_add]
  simp only [DGift.cnt] at hkb
  simp only [DGift.cd, ownL_c, ownL_n, own_i, own_b, own_s] at q1
  obtain ⟨_, _, _, _, rfl, e0z, ⟨rfl, rfl⟩, ⟨_, _, _, _, rfl, e1z, ⟨rfl, rfl⟩, ⟨_, _, _, _, rfl, e2z, ⟨rfl, rfl⟩, ⟨_, _, _, _, rfl, e3z, ⟨rfl, rfl⟩, ⟨rfl, e4z⟩⟩⟩⟩⟩ := q1
  have hfxe : fx = [] := by rw [e0z, e1z, e2z, e3z, e4z]; simp
  have ow : OwnL H' [] [] fx := by rw [hfxe]; exact .nil
  have hlen0 := (rfl : H'.length = H'.length)
  have fr0 : ∀ c, c ≠ b → c ∉ fx → H'[c]? = H'[c]? := fun _ _ _ => rfl
  have w0 : IntKind.i64.wrap (kj + 1) = kj + 1 := (wrap_nat (by omega) (by omega)).trans (by omega)
  have w1 : IntKind.i64.wrap (kj + 1 + 1) = kj + 2 := (wrap_nat (by omega) (by omega)).trans (by omega)
  have w2 : IntKind.i64.wrap (kj + 2 + 1) = kj + 3 := (wrap_nat (by omega) (by omega)).trans (by omega)
  have w3 : IntKind.i64.wrap (kj + 3 + 1) = kj + 4 := (wrap_nat (by omega) (by omega)).trans (by omega)
  obtain ⟨H0, hH0⟩ : ∃ H0, H0 = H' := ⟨_, rfl⟩
  rw [← hH0] at iv q2 ow fr0 hlen0
  have fr0 : ∀ c, c ≠ b → c ∉ fx → H'[c]? = H0[c]? := fun _ _ _ => by rw [hH0]
  have hlen0 : H'.length = H0.length := by rw [hH0]
  rw [hH0] at ow
  replace e1 : H' = h1 ++ some (g, as1 ++ elc [.int .i64 x.nonce, .int .i64 x.giver, .int .i64 x.taker, .int .i64 x.entity] (post ++ tail)) :: h2 := e1
  subst e1
  simp only [EV, EL, EB, EF, EM, q_bx, if_true, if_false, Bool.false_eq_true, Nat.reduceAdd, Option.bind_some, Bool.not_true, Bool.not_false, Nat.reduceBEq, Nat.reduceLeDiff, nn_b, nn_s, nn_i, laws_markGiftS_r, i0, st_el e2 rfl, rd_el e2 rfl, w0, w1, w2, w3]
  refine ⟨(j + 1, _, as1 ++ [.int .i64 (kj), .int .i64 (kj + 1), .int .i64 (kj + 2), .int .i64 (kj + 3)], post, f1 ++ [], fr), ⟨hlt, ?inv⟩, (by simp only; omega), ⟨?le, rfl, rfl⟩⟩
  case inv =>
    simp only; rw [hmt]
    subst hfxe
    exact iv.next (y := DGift.mk_ x kj) nd q2 (by rw [← hlen0]; (try simp)) (hget_at e2) (fun c h1 h2 => (at_ne e2 h1).trans (fr0 c h1 h2)) (.i (.i (.i (.i .nil))))
  case le =>
    have hfin : k + cntL DGift.cnt (l.take (j + 1)) = kj + 4 := by rw [htk]; simp only [DGift.cnt]; omega
    rw [hfin, wN (by omega)]; (try simp [laws_markGiftS_s0, LeL, LeV])
theorem laws_markBoxS_T (l : List DBox) (k : Int) (hk : 0 ≤ k) (hb : k + cntL DBox.cnt l ≤ 9223372036854775000) (hl : l.length ≤ 1073741824) (H : AH) {a : AV} {fp : List Nat} (o : Own H a (.sl 4 (l.map DBox.cd)) fp) (nd : fp.Nodup) :
    T Try.prog Γ Fn.laws_markBoxS [a, .int .i64 k] H fun v h' => v = .int .i64 (k + cntL DBox.cnt l) ∧ (h'.length = H.length ∧ (∀ c, c ∉ fp → h'[c]? = H[c]?) ∧ Own h' a (.sl 4 ((mkL DBox.mk_ DBox.cnt l k).map DBox.cd)) fp) := by
  rcases o.sl_inv with ⟨rfl, e, rfl⟩ | ⟨b, g, cap, ex, as0, tail, fp, rfl, rfl, hg, hsz, ht, hc, hown⟩
  · have e : l = [] := by simpa using e
    subst e
    have L0 : lenI false .nils = some (.int .i64 0) := rfl
    refine laws_markBoxS_e (aw_sound tabOK mixed [] _ _ _ ?_)
    unfold laws_markBoxS_c
    simp only [EV, EL, EB, EF, EM, q_bx, if_true, if_false, Bool.false_eq_true, Nat.reduceAdd, Option.bind_some, Bool.not_true, Bool.not_false, Nat.reduceBEq, Nat.reduceLeDiff, nn_b, nn_s, nn_i, laws_markBoxS_r]
    refine loopI tabOK mixed [] (fun _ : Unit => True) (fun _ => 0) (fun _ => laws_markBoxS_s0 .nils (.int .i64 k) (.int .i64 0) [] H) () trivial ⟨by simp [laws_markBoxS_s0, LeL, LeV], rfl, rfl⟩ ?_
    intro _ _
    simp only [EV, EL, EB, EF, EM, q_bx, if_true, if_false, Bool.false_eq_true, Nat.reduceAdd, Option.bind_some, Bool.not_true, Bool.not_false, Nat.reduceBEq, Nat.reduceLeDiff, nn_b, nn_s, nn_i, laws_markBoxS_r, laws_markBoxS_s0, L0, show decide ((0 : Int) < 0) = false from rfl]
    refine ⟨rfl, by simp [cntL], ?_⟩
    first | exact ⟨rfl, fun _ _ => rfl, .nil _⟩ | exact ⟨fun _ _ => trivial, .nil _⟩
  simp only [List.length_map] at hc o ⊢
  have L0 : lenI false (.gs b g 0 l.length cap 4 ex) = some (.int .i64 l.length) := rfl
  have hbf : b ∉ fp := (List.nodup_cons.1 nd).1
  refine laws_markBoxS_e (aw_sound tabOK mixed [] _ _ _ ?_)
  unfold laws_markBoxS_c
  simp only [EV, EL, EB, EF, EM, q_bx, if_true, if_false, Bool.false_eq_true, Nat.reduceAdd, Option.bind_some, Bool.not_true, Bool.not_false, Nat.reduceBEq, Nat.reduceLeDiff, nn_b, nn_s, nn_i, laws_markBoxS_r]
  refine loopI tabOK mixed [] (fun y : Nat × AH × List AV × List AV × List Nat × List Nat => y.1 ≤ l.length ∧ MInv H b g tail fp DBox.cd (l.drop y.1) (mkL DBox.mk_ DBox.cnt (l.take y.1) k) y.2.1 y.2.2.1 y.2.2.2.1 y.2.2.2.2.1 y.2.2.2.2.2) (fun y => l.length - y.1)
    (fun y => laws_markBoxS_s0 (.gs b g 0 l.length cap 4 ex) (.int .i64 (k + cntL DBox.cnt (l.take y.1))) (.int .i64 y.1) [] y.2.1) (0, H, [], as0, [], fp) ⟨by simp, by simpa [mkL] using MInv.start hg hown⟩ ⟨by simp [laws_markBoxS_s0, LeL, LeV, cntL], rfl, rfl⟩ ?_
  rintro ⟨j, H', as1, as2, f1, f2⟩ ⟨hj, iv⟩
  simp only at hj iv
  simp only [EV, EL, EB, EF, EM, q_bx, if_true, if_false, Bool.false_eq_true, Nat.reduceAdd, Option.bind_some, Bool.not_true, Bool.not_false, Nat.reduceBEq, Nat.reduceLeDiff, nn_b, nn_s, nn_i, laws_markBoxS_r, laws_markBoxS_s0, L0]
  refine c_split (fun hlt => ?_) (fun hge => ?_)
  rotate_left
  · have hge : j = l.length := by simp at hge; omega
    subst hge
    simp only [EV, EL, EB, EF, EM, q_bx, if_true, if_false, Bool.false_eq_true, Nat.reduceAdd, Option.bind_some, Bool.not_true, Bool.not_false, Nat.reduceBEq, Nat.reduceLeDiff, nn_b, nn_s, nn_i, laws_markBoxS_r]
    rw [List.drop_length, List.take_length] at iv
    rw [List.take_length]
    exact ⟨rfl, rfl, iv.done mkL_len (fun _ => rfl) ht hc⟩
  have hlt : j < l.length := by simpa using hlt
  have htk := cntL_take DBox.cnt hlt
  have hle := cntL_le (c := DBox.cnt) DBox.cnt_nn hlt
  have hnn := cntL_nn (c := DBox.cnt) DBox.cnt_nn (l.take j)
  have hmt := mkL_take DBox.mk_ DBox.cnt hlt k
  rw [List.drop_eq_getElem_cons hlt] at iv
  obtain ⟨x, hx⟩ : ∃ x, x = l[j] := ⟨_, rfl⟩
  rw [← hx] at iv
  try rw [← hx] at htk hle
  try rw [← hx] at hmt
  obtain ⟨kj, hkj⟩ : ∃ kj, kj = k + cntL DBox.cnt (l.take j) := ⟨_, rfl⟩
  rw [← hkj] at hmt
  rw [← hkj]
  have hk0 : 0 ≤ kj := by omega
  have hkb : kj + DBox.cnt x ≤ 9223372036854775000 := by omega
  obtain ⟨h1, h2, cs, post, fx, fr, e1, e2, rfl, rfl, q1, q2⟩ := iv.open
  have hfx : ∀ c ∈ fx, c ≠ b := fun c hc e => hbf (by rw [iv.fps, ← e]; simp [hc])
  have ndx : fx.Nodup := (List.nodup_append.1 (List.nodup_append.1 (iv.fps ▸ (List.nodup_cons.1 nd).2)).2.1).1
  have hn0 : as1.length = j * 4 := by rw [iv.o1.len, flat_len' (sz := 4) (fun y _ => rfl), mkL_len, List.length_take, Nat.min_eq_left hj]
  have i0 : aIdxs 4 (.gs b g 0 l.length cap 4 ex) (j : Int) = some (.gp b g as1.length) := by rw [idx_gs hlt, hn0, Nat.zero_add]
  simp only [DBox.cnt] at hkb
  simp only [DBox.cd, ownL_c, ownL_n, own_i, own_b, own_s] at q1
  obtain ⟨_, _, _, _, rfl, e0z, ⟨rfl, rfl⟩, ⟨_, _, _, _, rfl, e1z, ⟨rfl, rfl⟩, ⟨_, _, _, _, rfl, e2z, ⟨rfl, rfl⟩, ⟨_, _, _, _, rfl, e3z, ⟨rfl, rfl⟩, ⟨rfl, e4z⟩⟩⟩⟩⟩ := q1
  have hfxe : fx = [] := by rw [e0z, e1z, e2z, e3z, e4z]; simp
  have ow : OwnL H' [] [] fx := by rw [hfxe]; exact .nil
  have hlen0 := (rfl : H'.length = H'.length)
  have fr0 : ∀ c, c ≠ b → c ∉ fx → H'[c]? = H'[c]? := fun _ _ _ => rfl
  have w0 : IntKind.i64.wrap (kj + 1) = kj + 1 := (wrap_nat (by omega) (by omega)).trans (by omega)
  have w1 : IntKind.i64.wrap (kj + 1 + 1) = kj + 2 := (wrap_nat (by omega) (by omega)).trans (by omega)
  have w2 : IntKind.i64.wrap (kj + 2 + 1) = kj + 3 := (wrap_nat (by omega) (by omega)).trans (by omega)
  have w3 : IntKind.i64.wrap (kj + 3 + 1) = kj + 4 := (wrap_nat (by omega) (by omega)).trans (by omega)
  obtain ⟨H0, hH0⟩ : ∃ H0, H0 = H' := ⟨_, rfl⟩
  rw [← hH0] at iv q2 ow fr0 hlen0
  have fr0 : ∀ c, c ≠ b → c ∉ fx → H'[c]? = H0[c]? := fun _ _ _ => by rw [hH0]
  have hlen0 : H'.length = H0.length := by rw [hH0]
  rw [hH0] at ow
  replace e1 : H' = h1 ++ some (g, as1 ++ elc [.int .i64 x.id, .int .i64 x.brand, .int .i64 x.value.kind, .int .i64 x.value.n] (post ++ tail)) :: h2 := e1
  subst e1
  simp only [EV, EL, EB, EF, EM, q_bx, if_true, if_false, Bool.false_eq_true, Nat.reduceAdd, Option.bind_some, Bool.not_true, Bool.not_false, Nat.reduceBEq, Nat.reduceLeDiff, nn_b, nn_s, nn_i, laws_markBoxS_r, i0, st_el e2 rfl, rd_el e2 rfl, w0, w1, w2, w3]
  refine ⟨(j + 1, _, as1 ++ [.int .i64 (kj), .int .i64 (kj + 1), .int .i64 (kj + 2), .int .i64 (kj + 3)], post, f1 ++ [], fr), ⟨hlt, ?inv⟩, (by simp only; omega), ⟨?le, rfl, rfl⟩⟩
  case inv =>
    simp only; rw [hmt]
    subst hfxe
    exact iv.next (y := DBox.mk_ x kj) nd q2 (by rw [← hlen0]; (try simp)) (hget_at e2) (fun c h1 h2 => (at_ne e2 h1).trans (fr0 c h1 h2)) (.i (.i (.i (.i .nil))))
  case le =>
    have hfin : k + cntL DBox.cnt (l.take (j + 1)) = kj + 4 := by rw [htk]; simp only [DBox.cnt]; omega
    rw [hfin, wN (by omega)]; (try simp [laws_markBoxS_s0, LeL, LeV])
theorem laws_heldIntS_T (β : Bool) (l : List Int) (k : Int) (hk : 0 ≤ k) (hb : k + cntL (fun (_ : Int) => (1 : Int)) l ≤ 9223372036854775000) (hl : l.length ≤ 1073741824) (h : AH) :
    T Try.prog Γ Fn.laws_heldIntS [.vs β 1 false ((mkL (fun (_ : Int) k => k) (fun (_ : Int) => (1 : Int)) l k).map (fun n : Int => [AV.int .i64 n])), .int .i64 k] h fun v h' => v = .int .i64 (k + cntL (fun (_ : Int) => (1 : Int)) l) ∧ h' = h := by
  obtain ⟨M, hM⟩ : ∃ M, M = mkL (fun (_ : Int) k => k) (fun (_ : Int) => (1 : Int)) l k := ⟨_, rfl⟩
  have hlen : M.length = l.length := by rw [hM]; exact mkL_len
  rw [← hM]
  have L0 := len_vm β 1 false M (fun n : Int => [AV.int .i64 n])
  rw [hlen] at L0
  refine laws_heldIntS_e (aw_sound tabOK mixed [] _ _ _ ?_)
  unfold laws_heldIntS_c
  simp only [EV, EL, EB, EF, EM, q_bx, if_true, if_false, Bool.false_eq_true, Nat.reduceAdd, Option.bind_some, Bool.not_true, Bool.not_false, Nat.reduceBEq, Nat.reduceLeDiff, nn_b, nn_s, nn_i, laws_heldIntS_r]
  refine loopI tabOK mixed [] (fun j : Nat => j ≤ l.length) (fun j => l.length - j)
    (fun j => laws_heldIntS_s0 (.vs β 1 false (M.map (fun n : Int => [AV.int .i64 n]))) (.int .i64 (k + cntL (fun (_ : Int) => (1 : Int)) (l.take j))) (.int .i64 j) [] h) 0 (by omega) ⟨by simp [laws_heldIntS_s0, LeL, LeV, cntL], rfl, rfl⟩ ?_
  intro j hj
  simp only [EV, EL, EB, EF, EM, q_bx, if_true, if_false, Bool.false_eq_true, Nat.reduceAdd, Option.bind_some, Bool.not_true, Bool.not_false, Nat.reduceBEq, Nat.reduceLeDiff, nn_b, nn_s, nn_i, laws_heldIntS_r, laws_heldIntS_s0, L0]
  refine c_split (fun hlt => ?_) (fun hge => ?_)
  rotate_left
  · have hge : j = l.length := by simp at hge; omega
    subst hge
    simp only [EV, EL, EB, EF, EM, q_bx, if_true, if_false, Bool.false_eq_true, Nat.reduceAdd, Option.bind_some, Bool.not_true, Bool.not_false, Nat.reduceBEq, Nat.reduceLeDiff, nn_b, nn_s, nn_i, laws_heldIntS_r]
    rw [List.take_length]
    first | exact ⟨rfl, rfl⟩ | exact rfl
  have hlt : j < l.length := by simpa using hlt
  have htk := cntL_take (fun (_ : Int) => (1 : Int)) hlt
  have hle := cntL_le (c := (fun (_ : Int) => (1 : Int))) (fun _ => by omega) hlt
  have hnn := cntL_nn (c := (fun (_ : Int) => (1 : Int))) (fun _ => by omega) (l.take j)
  have hg := mkL_get (fun (_ : Int) k => k) (fun (_ : Int) => (1 : Int)) hlt k
  have hltM : j < M.length := by omega
  have i0 := idx_vm (β := β) (sz := 1) (ex := false) (ce := (fun n : Int => [AV.int .i64 n])) hltM
  rw [← hM, List.getElem?_eq_getElem hltM] at hg
  injection hg with hg
  rw [hg] at i0
  obtain ⟨x, hx⟩ : ∃ x, x = l[j] := ⟨_, rfl⟩
  try rw [← hx] at i0
  try rw [← hx] at htk hle
  obtain ⟨kj, hkj⟩ : ∃ kj, kj = k + cntL (fun (_ : Int) => (1 : Int)) (l.take j) := ⟨_, rfl⟩
  rw [← hkj] at i0
  rw [← hkj]
  have hk0 : 0 ≤ kj := by omega
  have hkb : kj + 1 ≤ 9223372036854775000 := by omega
  have w1 : IntKind.i64.wrap (kj + 1) = kj + 1 := wrap_nat (by omega) (by omega)
  simp only [EV, EL, EB, EF, EM, q_bx, if_true, if_false, Bool.false_eq_true, Nat.reduceAdd, Option.bind_some, Bool.not_true, Bool.not_false, Nat.reduceBEq, Nat.reduceLeDiff, nn_b, nn_s, nn_i, laws_heldIntS_r, i0, w1, bne_self_eq_false]
  exact ⟨j + 1, hlt, by omega, ⟨by rw [htk, wN (by omega), ← Int.add_assoc, ← hkj]; (try simp [laws_heldIntS_s0, LeL, LeV]), rfl, rfl⟩⟩
theorem laws_heldWireS_T (β : Bool) (l : List DWire) (k : Int) (hk : 0 ≤ k) (hb : k + cntL DWire.cnt l ≤ 9223372036854775000) (hl : l.length ≤ 1073741824) (h : AH) :
    T Try.prog Γ Fn.laws_heldWireS [.vs β 2 false ((mkL DWire.mk_ DWire.cnt l k).map (DWire.c β)), .int .i64 k] h fun v h' => v = .int .i64 (k + cntL DWire.cnt l) ∧ h' = h := by
  obtain ⟨M, hM⟩ : ∃ M, M = mkL DWire.mk_ DWire.cnt l k := ⟨_, rfl⟩
  have hlen : M.length = l.length := by rw [hM]; exact mkL_len
  rw [← hM]
  have L0 := len_vm β 2 false M (DWire.c β)
  rw [hlen] at L0
  refine laws_heldWireS_e (aw_sound tabOK mixed [] _ _ _ ?_)
  unfold laws_heldWireS_c
  simp only [EV, EL, EB, EF, EM, q_bx, if_true, if_false, Bool.false_eq_true, Nat.reduceAdd, Option.bind_some, Bool.not_true, Bool.not_false, Nat.reduceBEq, Nat.reduceLeDiff, nn_b, nn_s, nn_i, laws_heldWireS_r]
  refine loopI tabOK mixed [] (fun j : Nat => j ≤ l.length) (fun j => l.length - j)
    (fun j => laws_heldWireS_s0 (.vs β 2 false (M.map (DWire.c β))) (.int .i64 (k + cntL DWire.cnt (l.take j))) (.int .i64 j) [] h) 0 (by omega) ⟨by simp [laws_heldWireS_s0, LeL, LeV, cntL], rfl, rfl⟩ ?_
  intro j hj
  simp only [EV, EL, EB, EF, EM, q_bx, if_true, if_false, Bool.false_eq_true, Nat.reduceAdd, Option.bind_some, Bool.not_true, Bool.not_false, Nat.reduceBEq, Nat.reduceLeDiff, nn_b, nn_s, nn_i, laws_heldWireS_r, laws_heldWireS_s0, L0]
  refine c_split (fun hlt => ?_) (fun hge => ?_)
  rotate_left
  · have hge : j = l.length := by simp at hge; omega
    subst hge
    simp only [EV, EL, EB, EF, EM, q_bx, if_true, if_false, Bool.false_eq_true, Nat.reduceAdd, Option.bind_some, Bool.not_true, Bool.not_false, Nat.reduceBEq, Nat.reduceLeDiff, nn_b, nn_s, nn_i, laws_heldWireS_r]
    rw [List.take_length]
    first | exact ⟨rfl, rfl⟩ | exact rfl
  have hlt : j < l.length := by simpa using hlt
  have htk := cntL_take DWire.cnt hlt
  have hle := cntL_le (c := DWire.cnt) DWire.cnt_nn hlt
  have hnn := cntL_nn (c := DWire.cnt) DWire.cnt_nn (l.take j)
  have hg := mkL_get DWire.mk_ DWire.cnt hlt k
  have hltM : j < M.length := by omega
  have i0 := idx_vm (β := β) (sz := 2) (ex := false) (ce := (DWire.c β)) hltM
  rw [← hM, List.getElem?_eq_getElem hltM] at hg
  injection hg with hg
  rw [hg] at i0
  obtain ⟨x, hx⟩ : ∃ x, x = l[j] := ⟨_, rfl⟩
  try rw [← hx] at i0
  try rw [← hx] at htk hle
  obtain ⟨kj, hkj⟩ : ∃ kj, kj = k + cntL DWire.cnt (l.take j) := ⟨_, rfl⟩
  rw [← hkj] at i0
  rw [← hkj]
  have hk0 : 0 ≤ kj := by omega
  have hkb : kj + DWire.cnt x ≤ 9223372036854775000 := by omega
  simp only [DWire.cnt] at hkb
  have w0 : IntKind.i64.wrap (kj + 1) = kj + 1 := (wrap_nat (by omega) (by omega)).trans (by omega)
  have w1 : IntKind.i64.wrap (kj + 1 + 1) = kj + 2 := (wrap_nat (by omega) (by omega)).trans (by omega)
  simp only [EV, EL, EB, EF, EM, q_bx, if_true, if_false, Bool.false_eq_true, Nat.reduceAdd, Option.bind_some, Bool.not_true, Bool.not_false, Nat.reduceBEq, Nat.reduceLeDiff, nn_b, nn_s, nn_i, laws_heldWireS_r, i0, DWire.c, DWire.mk_, bne_self_eq_false, beq_self_eq_true, w0, w1]
  have hfin : k + cntL DWire.cnt (l.take (j + 1)) = kj + 2 := by rw [htk]; simp only [DWire.cnt]; omega
  exact ⟨j + 1, hlt, by omega, ⟨by rw [hfin, wN (by omega)]; (try simp [laws_heldWireS_s0, LeL, LeV]), rfl, rfl⟩⟩
theorem laws_heldGiftS_T (β : Bool) (l : List DGift) (k : Int) (hk : 0 ≤ k) (hb : k + cntL DGift.cnt l ≤ 9223372036854775000) (hl : l.length ≤ 1073741824) (h : AH) :
    T Try.prog Γ Fn.laws_heldGiftS [.vs β 4 false ((mkL DGift.mk_ DGift.cnt l k).map (DGift.c β)), .int .i64 k] h fun v h' => v = .int .i64 (k + cntL DGift.cnt l) ∧ h' = h := by
  obtain ⟨M, hM⟩ : ∃ M, M = mkL DGift.mk_ DGift.cnt l k := ⟨_, rfl⟩
  have hlen : M.length = l.length := by rw [hM]; exact mkL_len
  rw [← hM]
  have L0 := len_vm β 4 false M (DGift.c β)
  rw [hlen] at L0
  refine laws_heldGiftS_e (aw_sound tabOK mixed [] _ _ _ ?_)
  unfold laws_heldGiftS_c
  simp only [EV, EL, EB, EF, EM, q_bx, if_true, if_false, Bool.false_eq_true, Nat.reduceAdd, Option.bind_some, Bool.not_true, Bool.not_false, Nat.reduceBEq, Nat.reduceLeDiff, nn_b, nn_s, nn_i, laws_heldGiftS_r]
  refine loopI tabOK mixed [] (fun j : Nat => j ≤ l.length) (fun j => l.length - j)
    (fun j => laws_heldGiftS_s0 (.vs β 4 false (M.map (DGift.c β))) (.int .i64 (k + cntL DGift.cnt (l.take j))) (.int .i64 j) [] h) 0 (by omega) ⟨by simp [laws_heldGiftS_s0, LeL, LeV, cntL], rfl, rfl⟩ ?_
  intro j hj
  simp only [EV, EL, EB, EF, EM, q_bx, if_true, if_false, Bool.false_eq_true, Nat.reduceAdd, Option.bind_some, Bool.not_true, Bool.not_false, Nat.reduceBEq, Nat.reduceLeDiff, nn_b, nn_s, nn_i, laws_heldGiftS_r, laws_heldGiftS_s0, L0]
  refine c_split (fun hlt => ?_) (fun hge => ?_)
  rotate_left
  · have hge : j = l.length := by simp at hge; omega
    subst hge
    simp only [EV, EL, EB, EF, EM, q_bx, if_true, if_false, Bool.false_eq_true, Nat.reduceAdd, Option.bind_some, Bool.not_true, Bool.not_false, Nat.reduceBEq, Nat.reduceLeDiff, nn_b, nn_s, nn_i, laws_heldGiftS_r]
    rw [List.take_length]
    first | exact ⟨rfl, rfl⟩ | exact rfl
  have hlt : j < l.length := by simpa using hlt
  have htk := cntL_take DGift.cnt hlt
  have hle := cntL_le (c := DGift.cnt) DGift.cnt_nn hlt
  have hnn := cntL_nn (c := DGift.cnt) DGift.cnt_nn (l.take j)
  have hg := mkL_get DGift.mk_ DGift.cnt hlt k
  have hltM : j < M.length := by omega
  have i0 := idx_vm (β := β) (sz := 4) (ex := false) (ce := (DGift.c β)) hltM
  rw [← hM, List.getElem?_eq_getElem hltM] at hg
  injection hg with hg
  rw [hg] at i0
  obtain ⟨x, hx⟩ : ∃ x, x = l[j] := ⟨_, rfl⟩
  try rw [← hx] at i0
  try rw [← hx] at htk hle
  obtain ⟨kj, hkj⟩ : ∃ kj, kj = k + cntL DGift.cnt (l.take j) := ⟨_, rfl⟩
  rw [← hkj] at i0
  rw [← hkj]
  have hk0 : 0 ≤ kj := by omega
  have hkb : kj + DGift.cnt x ≤ 9223372036854775000 := by omega
  simp only [DGift.cnt] at hkb
  have w0 : IntKind.i64.wrap (kj + 1) = kj + 1 := (wrap_nat (by omega) (by omega)).trans (by omega)
  have w1 : IntKind.i64.wrap (kj + 1 + 1) = kj + 2 := (wrap_nat (by omega) (by omega)).trans (by omega)
  have w2 : IntKind.i64.wrap (kj + 2 + 1) = kj + 3 := (wrap_nat (by omega) (by omega)).trans (by omega)
  have w3 : IntKind.i64.wrap (kj + 3 + 1) = kj + 4 := (wrap_nat (by omega) (by omega)).trans (by omega)
  simp only [EV, EL, EB, EF, EM, q_bx, if_true, if_false, Bool.false_eq_true, Nat.reduceAdd, Option.bind_some, Bool.not_true, Bool.not_false, Nat.reduceBEq, Nat.reduceLeDiff, nn_b, nn_s, nn_i, laws_heldGiftS_r, i0, DGift.c, DGift.mk_, bne_self_eq_false, beq_self_eq_true, w0, w1, w2, w3]
  have hfin : k + cntL DGift.cnt (l.take (j + 1)) = kj + 4 := by rw [htk]; simp only [DGift.cnt]; omega
  exact ⟨j + 1, hlt, by omega, ⟨by rw [hfin, wN (by omega)]; (try simp [laws_heldGiftS_s0, LeL, LeV]), rfl, rfl⟩⟩
theorem laws_heldBoxS_T (β : Bool) (l : List DBox) (k : Int) (hk : 0 ≤ k) (hb : k + cntL DBox.cnt l ≤ 9223372036854775000) (hl : l.length ≤ 1073741824) (h : AH) :
    T Try.prog Γ Fn.laws_heldBoxS [.vs β 4 false ((mkL DBox.mk_ DBox.cnt l k).map (DBox.c β)), .int .i64 k] h fun v h' => v = .int .i64 (k + cntL DBox.cnt l) ∧ h' = h := by
  obtain ⟨M, hM⟩ : ∃ M, M = mkL DBox.mk_ DBox.cnt l k := ⟨_, rfl⟩
  have hlen : M.length = l.length := by rw [hM]; exact mkL_len
  rw [← hM]
  have L0 := len_vm β 4 false M (DBox.c β)
  rw [hlen] at L0
  refine laws_heldBoxS_e (aw_sound tabOK mixed [] _ _ _ ?_)
  unfold laws_heldBoxS_c
  simp only [EV, EL, EB, EF, EM, q_bx, if_true, if_false, Bool.false_eq_true, Nat.reduceAdd, Option.bind_some, Bool.not_true, Bool.not_false, Nat.reduceBEq, Nat.reduceLeDiff, nn_b, nn_s, nn_i, laws_heldBoxS_r]
  refine loopI tabOK mixed [] (fun j : Nat => j ≤ l.length) (fun j => l.length - j)
    (fun j => laws_heldBoxS_s0 (.vs β 4 false (M.map (DBox.c β))) (.int .i64 (k + cntL DBox.cnt (l.take j))) (.int .i64 j) [] h) 0 (by omega) ⟨by simp [laws_heldBoxS_s0, LeL, LeV, cntL], rfl, rfl⟩ ?_
  intro j hj
  simp only [EV, EL, EB, EF, EM, q_bx, if_true, if_false, Bool.false_eq_true, Nat.reduceAdd, Option.bind_some, Bool.not_true, Bool.not_false, Nat.reduceBEq, Nat.reduceLeDiff, nn_b, nn_s, nn_i, laws_heldBoxS_r, laws_heldBoxS_s0, L0]
  refine c_split (fun hlt => ?_) (fun hge => ?_)
  rotate_left
  · have hge : j = l.length := by simp at hge; omega
    subst hge
    simp only [EV, EL, EB, EF, EM, q_bx, if_true, if_false, Bool.false_eq_true, Nat.reduceAdd, Option.bind_some, Bool.not_true, Bool.not_false, Nat.reduceBEq, Nat.reduceLeDiff, nn_b, nn_s, nn_i, laws_heldBoxS_r]
    rw [List.take_length]
    first | exact ⟨rfl, rfl⟩ | exact rfl
  have hlt : j < l.length := by simpa using hlt
  have htk := cntL_take DBox.cnt hlt
  have hle := cntL_le (c := DBox.cnt) DBox.cnt_nn hlt
  have hnn := cntL_nn (c := DBox.cnt) DBox.cnt_nn (l.take j)
  have hg := mkL_get DBox.mk_ DBox.cnt hlt k
  have hltM : j < M.length := by omega
  have i0 := idx_vm (β := β) (sz := 4) (ex := false) (ce := (DBox.c β)) hltM
  rw [← hM, List.getElem?_eq_getElem hltM] at hg
  injection hg with hg
  rw [hg] at i0
  obtain ⟨x, hx⟩ : ∃ x, x = l[j] := ⟨_, rfl⟩
  try rw [← hx] at i0
  try rw [← hx] at htk hle
  obtain ⟨kj, hkj⟩ : ∃ kj, kj = k + cntL DBox.cnt (l.take j) := ⟨_, rfl⟩
  rw [← hkj] at i0
  rw [← hkj]
  have hk0 : 0 ≤ kj := by omega
  have hkb : kj + DBox.cnt x ≤ 9223372036854775000 := by omega
  simp only [DBox.cnt] at hkb
  have w0 : IntKind.i64.wrap (kj + 1) = kj + 1 := (wrap_nat (by omega) (by omega)).trans (by omega)
  have w1 : IntKind.i64.wrap (kj + 1 + 1) = kj + 2 := (wrap_nat (by omega) (by omega)).trans (by omega)
  have w2 : IntKind.i64.wrap (kj + 2 + 1) = kj + 3 := (wrap_nat (by omega) (by omega)).trans (by omega)
  have w3 : IntKind.i64.wrap (kj + 3 + 1) = kj + 4 := (wrap_nat (by omega) (by omega)).trans (by omega)
  simp only [EV, EL, EB, EF, EM, q_bx, if_true, if_false, Bool.false_eq_true, Nat.reduceAdd, Option.bind_some, Bool.not_true, Bool.not_false, Nat.reduceBEq, Nat.reduceLeDiff, nn_b, nn_s, nn_i, laws_heldBoxS_r, i0, DBox.c, DBox.mk_, bne_self_eq_false, beq_self_eq_true, w0, w1, w2, w3]
  have hfin : k + cntL DBox.cnt (l.take (j + 1)) = kj + 4 := by rw [htk]; simp only [DBox.cnt]; omega
  exact ⟨j + 1, hlt, by omega, ⟨by rw [hfin, wN (by omega)]; (try simp [laws_heldBoxS_s0, LeL, LeV]), rfl, rfl⟩⟩
theorem laws_markMessage_T (x : DMessage) (k : Int) (hk : 0 ≤ k) (hb : k + x.cntA ≤ 9223372036854775000) (hx : x.ok 1073741824) (H : AH) {aa : List AV} {fp : List Nat} (o : OwnL H aa x.cd fp) (nd : fp.Nodup) :
    T Try.prog Γ Fn.laws_markMessage [.agg aa, .int .i64 k] H fun v h' => v = .int .i64 (k + x.cntA) ∧ (h'.length = H.length ∧ (∀ c, c ∉ fp → h'[c]? = H[c]?) ∧ OwnL h' aa (x.mkA k).cd fp) := by
  have z0 := cntL_nn (c := DWire.cnt) DWire.cnt_nn x.args
  simp only [DMessage.cntA] at hb
  simp only [DMessage.cd, ownL_c, ownL_n, own_i, own_b, own_s] at o
  obtain ⟨_, _, _, _, rfl, e0z, ⟨rfl, rfl⟩, ⟨_, _, _, _, rfl, e1z, ⟨rfl, rfl⟩, ⟨_, _, _, _, rfl, e2z, ⟨rfl, rfl⟩, ⟨_, _, _, _, rfl, e3z, ⟨rfl, rfl⟩, ⟨_, _, _, _, rfl, e4z, ⟨rfl, rfl⟩, ⟨a5, _, g5, _, rfl, e5z, u5, ⟨_, _, _, _, rfl, e6z, ⟨rfl, rfl⟩, ⟨_, _, _, _, rfl, e7z, ⟨rfl, rfl⟩, ⟨_, _, _, _, rfl, e8z, ⟨rfl, rfl⟩, ⟨_, _, _, _, rfl, e9z, ⟨rfl, rfl⟩, ⟨_, _, _, _, rfl, e10z, ⟨rfl, rfl⟩, ⟨_, _, _, _, rfl, e11z, ⟨rfl, rfl⟩, ⟨rfl, e12z⟩⟩⟩⟩⟩⟩⟩⟩⟩⟩⟩⟩⟩ := o
  have hfxe : fp = (g5 ++ []) := by rw [e0z, e1z, e2z, e3z, e4z, e5z, e6z, e7z, e8z, e9z, e10z, e11z, e12z]; simp
  have ow : OwnL H [a5] [(.sl 2 (x.args.map DWire.cd))] fp := by rw [hfxe]; exact (.o u5 .nil)
  obtain ⟨c5a, c5b, c5c, c5d⟩ := u5.cell
  clear e0z e1z e2z e3z e4z e5z e6z e7z e8z e9z e10z e11z e12z hfxe
  have fr0 : ∀ c, c ∉ fp → H[c]? = H[c]? := fun _ _ => rfl
  have len0 : H.length = H.length := rfl
  refine laws_markMessage_e (aw_sound tabOK mixed [] _ _ _ ?_)
  unfold laws_markMessage_c
  simp only [EV, EL, EB, EF, EM, q_bx, if_true, if_false, Bool.false_eq_true, Nat.reduceAdd, Option.bind_some, Bool.not_true, Bool.not_false, Nat.reduceBEq, Nat.reduceLeDiff, nn_b, nn_s, nn_i, laws_markMessage_r, c5a, c5b, c5c, EB2]
  obtain ⟨gi0, oi0, ni0, si0, bk0⟩ := OwnL.pick (A := []) (D := []) rfl ow nd
  refine TCall.ref (by simp only [EO, c5d]) (laws_markWireS_T x.args (k) (by omega) (by omega) (hx.2) _ oi0 ni0) ?_
  rintro _ h0 ⟨rfl, hlen0, hfr0, un0⟩
  replace ow := bk0 h0 _ hfr0 un0
  have fr1 : ∀ c, c ∉ fp → h0[c]? = H[c]? := fun c hc => (hfr0 c (fun h => hc (si0 c h))).trans (fr0 c hc)
  have len1 : h0.length = H.length := hlen0.trans len0
  simp only [EV, EL, EB, EF, EM, q_bx, if_true, if_false, Bool.false_eq_true, Nat.reduceAdd, Option.bind_some, Bool.not_true, Bool.not_false, Nat.reduceBEq, Nat.reduceLeDiff, nn_b, nn_s, nn_i, laws_markMessage_r, c5a, c5b, c5c, EB2]
  refine ⟨rfl, by simp only [DMessage.cntA, Int.zero_add, Int.add_assoc], ?_⟩
  refine ⟨len1, fr1, ?_⟩
  obtain ⟨F0, R0, E0, O0, hz⟩ := ow
  have hz : R0 = [] := hz
  rw [E0, hz]; exact (.i (.i (.i (.i (.s (.o O0 (.i (.i (.i (.i (.i (.i .nil))))))))))))
theorem laws_heldMessage_T (β : Bool) (x : DMessage) (k : Int) (hk : 0 ≤ k) (hb : k + x.cntA ≤ 9223372036854775000) (hx : x.ok 1073741824) (h : AH) :
    T Try.prog Γ Fn.laws_heldMessage [.agg ((x.mkA k).c β), .int .i64 k] h fun v h' => v = .int .i64 (k + x.cntA) ∧ h' = h := by
  have z0 := cntL_nn (c := DWire.cnt) DWire.cnt_nn x.args
  simp only [DMessage.cntA] at hb
  have y0 : decide (k + cntL DWire.cnt x.args < 0) = false := by simp; omega
  refine laws_heldMessage_e (aw_sound tabOK mixed [] _ _ _ ?_)
  unfold laws_heldMessage_c
  simp only [EV, EL, EB, EF, EM, q_bx, if_true, if_false, Bool.false_eq_true, Nat.reduceAdd, Option.bind_some, Bool.not_true, Bool.not_false, Nat.reduceBEq, Nat.reduceLeDiff, nn_b, nn_s, nn_i, laws_heldMessage_r, DMessage.c, DMessage.mkA, EB2, y0]
  refine TCall.val (by simp only [EO]) (laws_heldWireS_T β x.args (k) (by omega) (by omega) (hx.2) _) ?_
  simp only [EV, EL, EB, EF, EM, q_bx, if_true, if_false, Bool.false_eq_true, Nat.reduceAdd, Option.bind_some, Bool.not_true, Bool.not_false, Nat.reduceBEq, Nat.reduceLeDiff, nn_b, nn_s, nn_i, laws_heldMessage_r, DMessage.c, DMessage.mkA, EB2, y0]
  refine ⟨rfl, ?_⟩; simp only [DMessage.cntA, Int.zero_add, Int.add_assoc]
end Go.Proofs.Ytjohoameeeaafaa
