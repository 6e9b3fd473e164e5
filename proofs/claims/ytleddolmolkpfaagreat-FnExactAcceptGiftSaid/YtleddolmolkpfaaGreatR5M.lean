import Derived.Test.YtleddolmolkpfaaGreatR5H
import Derived.Test.YtleddolmolkpfaaGreatAmApp2
set_option linter.unusedVariables false
set_option linter.unusedSimpArgs false
namespace Go.Proofs.YtleddolmolkpfaaGreat
open Go.AM
set_option linter.unusedVariables false
set_option linter.unusedSimpArgs false
set_option maxHeartbeats 1000000
variable {Γ : Glob}
theorem laws_markText_T (k : Int) (hk : 0 ≤ k) (hb : k ≤ 9223372036854775000) (h : AH) : T Tryz.prog Γ Fn.laws_markText [.int .i64 k] h fun v h' => v = .str (markT k) ∧ h' = h := by
  refine (?_ : T Tryz.prog Γ Fn.laws_markText _ h fun v h' => v = .str (markT k) ∧ ∃ N, h' = h ++ N).drop (by rintro v h' ⟨rfl, N, rfl⟩; exact ⟨N, rfl, .str _, rfl, rfl⟩)
  refine laws_markText_e (aw_sound tabOK mixed [] _ _ _ ?_)
  unfold laws_markText_c
  simp only [EV, EL, EB, EF, EM, q_bx, if_true, if_false, Bool.false_eq_true, Nat.reduceAdd, Option.bind_some, Bool.not_true, Bool.not_false, Nat.reduceBEq, Nat.reduceLeDiff, nn_b, nn_s, nn_i, laws_markText_r]
  by_cases h0 : k ≤ 0
  · simp only [EV, EL, EB, EF, EM, q_bx, if_true, if_false, Bool.false_eq_true, Nat.reduceAdd, Option.bind_some, Bool.not_true, Bool.not_false, Nat.reduceBEq, Nat.reduceLeDiff, nn_b, nn_s, nn_i, laws_markText_r, decide_eq_true h0]
    exact ⟨rfl, by rw [markT, if_pos h0], [], by simp⟩
  simp only [EV, EL, EB, EF, EM, q_bx, if_true, if_false, Bool.false_eq_true, Nat.reduceAdd, Option.bind_some, Bool.not_true, Bool.not_false, Nat.reduceBEq, Nat.reduceLeDiff, nn_b, nn_s, nn_i, laws_markText_r, decide_eq_false h0]
  have hm : markT k = ⟨#[109]⟩ ++ digN k.toNat ⟨#[]⟩ := by rw [markT, if_neg h0]
  refine loopI tabOK mixed [] (fun x : Nat × ByteArray × AH => digN k.toNat ⟨#[]⟩ = digN x.1 x.2.1 ∧ x.1 + x.2.1.size ≤ 9223372036854775000 ∧ ∃ N, x.2.2 = h ++ N) (fun x => x.1)
    (fun x => laws_markText_s0 (.int .i64 x.1) (.str x.2.1) [] x.2.2) (k.toNat, ⟨#[]⟩, h) ⟨rfl, (by simp only [show (ByteArray.mk #[]).size = 0 from rfl]; omega), [], by simp⟩ ⟨by
      have : ((k.toNat : Nat) : Int) = k := by omega
      simp [laws_markText_s0, LeL, LeV, this], rfl, rfl⟩ ?_
  rintro ⟨n, s, H⟩ ⟨hI, hs, N, hN⟩
  simp only at hI hs hN
  simp only [EV, EL, EB, EF, EM, q_bx, if_true, if_false, Bool.false_eq_true, Nat.reduceAdd, Option.bind_some, Bool.not_true, Bool.not_false, Nat.reduceBEq, Nat.reduceLeDiff, nn_b, nn_s, nn_i, laws_markText_s0]
  by_cases hn : (0 : Int) < (n : Int)
  rotate_left
  · have : n = 0 := by omega
    subst this
    have e0 : digN 0 s = s := by unfold digN; rw [dif_pos rfl]
    have ead : aBin .add .num (.str ⟨#[109]⟩) (.str s) = some (.str (⟨#[109]⟩ ++ s)) := by
      have : (ByteArray.mk #[109]).size = 1 := rfl
      have : IntKind.i64.max = 9223372036854775807 := rfl
      simp only [aBin]; rw [if_neg]; omega
    simp only [EV, EL, EB, EF, EM, q_bx, if_true, if_false, Bool.false_eq_true, Nat.reduceAdd, Option.bind_some, Bool.not_true, Bool.not_false, Nat.reduceBEq, Nat.reduceLeDiff, nn_b, nn_s, nn_i, laws_markText_r, decide_eq_false hn, ead]
    exact ⟨rfl, by rw [hm, hI, e0], N, hN⟩
  have hnp : 0 < n := by omega
  have er : aBin .rem .num (.int .i64 (n : Int)) (.int .i64 10) = some (.int .i64 ((n % 10 : Nat) : Int)) := by
    simp only [aBin, aArith, if_true]; rw [if_neg (by decide)]; simp [Int.tmod_eq_emod_of_nonneg]
  have eq : aBin .quo .num (.int .i64 (n : Int)) (.int .i64 10) = some (.int .i64 ((n / 10 : Nat) : Int)) := by
    simp only [aBin, aArith, if_true]; rw [if_neg (by decide), Int.tdiv_eq_ediv_of_nonneg (by omega), wrap_nat (by omega) (by omega)]; simp
  have ew : IntKind.i64.wrap (48 + ((n % 10 : Nat) : Int)) = ((48 + n % 10 : Nat) : Int) := by rw [wrap_nat (by omega) (by omega)]; simp
  have ec : IntKind.u8.wrap ((48 + n % 10 : Nat) : Int) = ((48 + n % 10 : Nat) : Int) := by
    simp [IntKind.wrap, IntKind.bits, IntKind.signed]; omega
  have p_cvi : ∀ (gl : Bool) (s : St) (x : X) (m : Int), s.eval Γ x = .int .i64 m → AM.step Γ gl s (.cvi .u8 x) = .val (.int .u8 (IntKind.u8.wrap m)) s := fun gl s x m e => by simp only [AM.step, e]
  have p_cvt : ∀ (gl : Bool) (e : List AV) (l : List (List AV)) (c : Nat), (St.mk e l (H ++ [some (0, [.int .u8 (c : Int)])])).eval Γ (.t 12) = .gs H.length 0 0 1 1 1 true → AM.step Γ gl (St.mk e l (H ++ [some (0, [.int .u8 (c : Int)])])) (.cvt (.t 12)) = .val (.str ⟨#[UInt8.ofNat c]⟩) (St.mk e l (H ++ [some (0, [.int .u8 (c : Int)])])) := fun gl e l c he => by
    simp only [AM.step, he, St.sliceCells, if_true, hget_last, Option.bind_some]
    simp [sub, bytesOfCells, AR.ofO]
  have ead : ∀ c : UInt8, aBin .add .num (.str ⟨#[c]⟩) (.str s) = some (.str (⟨#[c]⟩ ++ s)) := fun c => by
    have : (ByteArray.mk #[c]).size = 1 := rfl
    have : IntKind.i64.max = 9223372036854775807 := rfl
    simp only [aBin]; rw [if_neg]; omega
  have hcv : ∀ (e : List AV) (l : List (List AV)) (h : AH) (gl : Bool) (x : X) (m : Int), (St.mk e l h).eval Γ x = .int .i64 m → AM.step Γ gl (St.mk e l h) (.cvi .u8 x) = .val (.int .u8 (IntKind.u8.wrap m)) (St.mk e l h) := fun e l h gl x m he => p_cvi gl _ x m he
  simp only [EV, EL, EB, EF, EM, q_bx, if_true, if_false, Bool.false_eq_true, Nat.reduceAdd, Option.bind_some, Bool.not_true, Bool.not_false, Nat.reduceBEq, Nat.reduceLeDiff, nn_b, nn_s, nn_i, laws_markText_r, decide_eq_true hn, er, eq, ew]
  rw [hcv _ _ _ _ _ _ rfl, ec]
  simp only [EV, EL, EB, EF, EM, q_bx, if_true, if_false, Bool.false_eq_true, Nat.reduceAdd, Option.bind_some, Bool.not_true, Bool.not_false, Nat.reduceBEq, Nat.reduceLeDiff, nn_b, nn_s, nn_i, laws_markText_r, List.replicate, List.flatten_cons, List.flatten_nil, app_n, app_c, Nat.zero_mul, bslK_s _ _ _ _ _ _ (show List.all [AV.int .u8 ((48 + n % 10 : Nat) : Int)] noLp = true from rfl)]
  rw [p_cvt _ _ _ _ rfl]
  simp only [EV, EL, EB, EF, EM, q_bx, if_true, if_false, Bool.false_eq_true, Nat.reduceAdd, Option.bind_some, Bool.not_true, Bool.not_false, Nat.reduceBEq, Nat.reduceLeDiff, nn_b, nn_s, nn_i, laws_markText_r, ead, eq]
  refine ⟨(n / 10, ⟨#[UInt8.ofNat (48 + n % 10)]⟩ ++ s, H ++ [some (0, [.int .u8 ((48 + n % 10 : Nat) : Int)])]), ⟨?_, ?_, N ++ _, by simp only; rw [hN, List.append_assoc]⟩, by simp only; omega, ⟨by simp [laws_markText_s0, LeL, LeV], rfl, rfl⟩⟩
  · simp only; rw [hI]; conv => lhs; unfold digN
    rw [dif_neg (by omega)]
  · simp only [ByteArray.size_append]
    have : (ByteArray.mk #[UInt8.ofNat (48 + n % 10)]).size = 1 := rfl
    omega
theorem laws_markValueS_T (l : List DValue) (k : Int) (hk : 0 ≤ k) (hb : k + cntL DValue.cnt l ≤ 9223372036854775000) (hl : l.length ≤ 1073741824) (H : AH) {a : AV} {fp : List Nat} (o : Own H a (.sl 2 (l.map DValue.cd)) fp) (nd : fp.Nodup) :
    T Tryz.prog Γ Fn.laws_markValueS [a, .int .i64 k] H fun v h' => v = .int .i64 (k + cntL DValue.cnt l) ∧ (h'.length = H.length ∧ (∀ c, c ∉ fp → h'[c]? = H[c]?) ∧ Own h' a (.sl 2 ((mkL DValue.mk_ DValue.cnt l k).map DValue.cd)) fp) := by
  rcases o.sl_inv with ⟨rfl, e, rfl⟩ | ⟨b, g, cap, ex, as0, tail, fp, rfl, rfl, hg, hsz, ht, hc, hown⟩
  · have e : l = [] := by simpa using e
    subst e
    have L0 : lenI false .nils = some (.int .i64 0) := rfl
    refine laws_markValueS_e (aw_sound tabOK mixed [] _ _ _ ?_)
    unfold laws_markValueS_c
    simp only [EV, EL, EB, EF, EM, q_bx, if_true, if_false, Bool.false_eq_true, Nat.reduceAdd, Option.bind_some, Bool.not_true, Bool.not_false, Nat.reduceBEq, Nat.reduceLeDiff, nn_b, nn_s, nn_i, laws_markValueS_r]
    refine loopI tabOK mixed [] (fun _ : Unit => True) (fun _ => 0) (fun _ => laws_markValueS_s0 .nils (.int .i64 k) (.int .i64 0) [] H) () trivial ⟨by simp [laws_markValueS_s0, LeL, LeV], rfl, rfl⟩ ?_
    intro _ _
    simp only [EV, EL, EB, EF, EM, q_bx, if_true, if_false, Bool.false_eq_true, Nat.reduceAdd, Option.bind_some, Bool.not_true, Bool.not_false, Nat.reduceBEq, Nat.reduceLeDiff, nn_b, nn_s, nn_i, laws_markValueS_r, laws_markValueS_s0, L0, show decide ((0 : Int) < 0) = false from rfl]
    refine ⟨rfl, by simp [cntL], ?_⟩
    first | exact ⟨rfl, fun _ _ => rfl, .nil _⟩ | exact ⟨fun _ _ => trivial, .nil _⟩
  simp only [List.length_map] at hc o ⊢
  have L0 : lenI false (.gs b g 0 l.length cap 2 ex) = some (.int .i64 l.length) := rfl
  have hbf : b ∉ fp := (List.nodup_cons.1 nd).1
  refine laws_markValueS_e (aw_sound tabOK mixed [] _ _ _ ?_)
  unfold laws_markValueS_c
  simp only [EV, EL, EB, EF, EM, q_bx, if_true, if_false, Bool.false_eq_true, Nat.reduceAdd, Option.bind_some, Bool.not_true, Bool.not_false, Nat.reduceBEq, Nat.reduceLeDiff, nn_b, nn_s, nn_i, laws_markValueS_r]
  refine loopI tabOK mixed [] (fun y : Nat × AH × List AV × List AV × List Nat × List Nat => y.1 ≤ l.length ∧ MInv H b g tail fp DValue.cd (l.drop y.1) (mkL DValue.mk_ DValue.cnt (l.take y.1) k) y.2.1 y.2.2.1 y.2.2.2.1 y.2.2.2.2.1 y.2.2.2.2.2) (fun y => l.length - y.1)
    (fun y => laws_markValueS_s0 (.gs b g 0 l.length cap 2 ex) (.int .i64 (k + cntL DValue.cnt (l.take y.1))) (.int .i64 y.1) [] y.2.1) (0, H, [], as0, [], fp) ⟨by simp, by simpa [mkL] using MInv.start hg hown⟩ ⟨by simp [laws_markValueS_s0, LeL, LeV, cntL], rfl, rfl⟩ ?_
  rintro ⟨j, H', as1, as2, f1, f2⟩ ⟨hj, iv⟩
  simp only at hj iv
  simp only [EV, EL, EB, EF, EM, q_bx, if_true, if_false, Bool.false_eq_true, Nat.reduceAdd, Option.bind_some, Bool.not_true, Bool.not_false, Nat.reduceBEq, Nat.reduceLeDiff, nn_b, nn_s, nn_i, laws_markValueS_r, laws_markValueS_s0, L0]
  refine c_split (fun hlt => ?_) (fun hge => ?_)
  rotate_left
  · have hge : j = l.length := by simp at hge; omega
    subst hge
    simp only [EV, EL, EB, EF, EM, q_bx, if_true, if_false, Bool.false_eq_true, Nat.reduceAdd, Option.bind_some, Bool.not_true, Bool.not_false, Nat.reduceBEq, Nat.reduceLeDiff, nn_b, nn_s, nn_i, laws_markValueS_r]
    rw [List.drop_length, List.take_length] at iv
    rw [List.take_length]
    exact ⟨rfl, rfl, iv.done mkL_len (fun _ => rfl) ht hc⟩
  have hlt : j < l.length := by simpa using hlt
  have htk := cntL_take DValue.cnt hlt
  have hle := cntL_le (c := DValue.cnt) DValue.cnt_nn hlt
  have hnn := cntL_nn (c := DValue.cnt) DValue.cnt_nn (l.take j)
  have hmt := mkL_take DValue.mk_ DValue.cnt hlt k
  rw [List.drop_eq_getElem_cons hlt] at iv
  obtain ⟨x, hx⟩ : ∃ x, x = l[j] := ⟨_, rfl⟩
  rw [← hx] at iv
  try rw [← hx] at htk hle
  try rw [← hx] at hmt
  obtain ⟨kj, hkj⟩ : ∃ kj, kj = k + cntL DValue.cnt (l.take j) := ⟨_, rfl⟩
  rw [← hkj] at hmt
  rw [← hkj]
  have hk0 : 0 ≤ kj := by omega
  have hkb : kj + DValue.cnt x ≤ 9223372036854775000 := by omega
  obtain ⟨h1, h2, cs, post, fx, fr, e1, e2, rfl, rfl, q1, q2⟩ := iv.open
  have hfx : ∀ c ∈ fx, c ≠ b := fun c hc e => hbf (by rw [iv.fps, ← e]; simp [hc])
  have ndx : fx.Nodup := (List.nodup_append.1 (List.nodup_append.1 (iv.fps ▸ (List.nodup_cons.1 nd).2)).2.1).1
  have hn0 : as1.length = j * 2 := by rw [iv.o1.len, flat_len' (sz := 2) (fun y _ => rfl), mkL_len, List.length_take, Nat.min_eq_left hj]
  have i0 : aIdxs 2 (.gs b g 0 l.length cap 2 ex) (j : Int) = some (.gp b g as1.length) := by rw [idx_gs hlt, hn0, Nat.zero_add]
  simp only [DValue.cnt] at hkb
  simp only [DValue.cd, ownL_c, ownL_n, own_i, own_b, own_s] at q1
  obtain ⟨_, _, _, _, rfl, e0z, ⟨rfl, rfl⟩, ⟨_, _, _, _, rfl, e1z, ⟨rfl, rfl⟩, ⟨rfl, e2z⟩⟩⟩ := q1
  have hfxe : fx = [] := by rw [e0z, e1z, e2z]; simp
  have ow : OwnL H' [] [] fx := by rw [hfxe]; exact .nil
  have hlen0 := (rfl : H'.length = H'.length)
  have fr0 : ∀ c, c ≠ b → c ∉ fx → H'[c]? = H'[c]? := fun _ _ _ => rfl
  have w0 : IntKind.i64.wrap (kj + 1) = kj + 1 := (wrap_nat (by omega) (by omega)).trans (by omega)
  have w1 : IntKind.i64.wrap (kj + 1 + 1) = kj + 2 := (wrap_nat (by omega) (by omega)).trans (by omega)
  obtain ⟨H0, hH0⟩ : ∃ H0, H0 = H' := ⟨_, rfl⟩
  rw [← hH0] at iv q2 ow fr0 hlen0
  have fr0 : ∀ c, c ≠ b → c ∉ fx → H'[c]? = H0[c]? := fun _ _ _ => by rw [hH0]
  have hlen0 : H'.length = H0.length := by rw [hH0]
  rw [hH0] at ow
  replace e1 : H' = h1 ++ some (g, as1 ++ elc [.int .i64 x.kind, .int .i64 x.n] (post ++ tail)) :: h2 := e1
  subst e1
  simp only [EV, EL, EB, EF, EM, q_bx, if_true, if_false, Bool.false_eq_true, Nat.reduceAdd, Option.bind_some, Bool.not_true, Bool.not_false, Nat.reduceBEq, Nat.reduceLeDiff, nn_b, nn_s, nn_i, laws_markValueS_r, i0, st_el e2 rfl, rd_el e2 rfl, w0, w1]
  refine ⟨(j + 1, _, as1 ++ [.int .i64 (kj), .int .i64 (kj + 1)], post, f1 ++ [], fr), ⟨hlt, ?inv⟩, (by simp only; omega), ⟨?le, rfl, rfl⟩⟩
  case inv =>
    simp only; rw [hmt]
    subst hfxe
    exact iv.next (y := DValue.mk_ x kj) nd q2 (by rw [← hlen0]; (try simp)) (hget_at e2) (fun c h1 h2 => (at_ne e2 h1).trans (fr0 c h1 h2)) (.i (.i .nil))
  case le =>
    have hfin : k + cntL DValue.cnt (l.take (j + 1)) = kj + 2 := by rw [htk]; simp only [DValue.cnt]; omega
    rw [hfin, wN (by omega)]; (try simp [laws_markValueS_s0, LeL, LeV])
theorem laws_markSentS_T (l : List DSent) (k : Int) (hk : 0 ≤ k) (hb : k + cntL DSent.cnt l ≤ 9223372036854775000) (hl : l.length ≤ 1073741824) (ho : ∀ x ∈ l, x.ok 1073741824) (H : AH) {a : AV} {fp : List Nat} (o : Own H a (.sl 7 (l.map DSent.cd)) fp) (nd : fp.Nodup) :
    T Tryz.prog Γ Fn.laws_markSentS [a, .int .i64 k] H fun v h' => v = .int .i64 (k + cntL DSent.cnt l) ∧ (h'.length = H.length ∧ (∀ c, c ∉ fp → h'[c]? = H[c]?) ∧ Own h' a (.sl 7 ((mkL DSent.mk_ DSent.cnt l k).map DSent.cd)) fp) := by
  rcases o.sl_inv with ⟨rfl, e, rfl⟩ | ⟨b, g, cap, ex, as0, tail, fp, rfl, rfl, hg, hsz, ht, hc, hown⟩
  · have e : l = [] := by simpa using e
    subst e
    have L0 : lenI false .nils = some (.int .i64 0) := rfl
    refine laws_markSentS_e (aw_sound tabOK mixed [] _ _ _ ?_)
    unfold laws_markSentS_c
    simp only [EV, EL, EB, EF, EM, q_bx, if_true, if_false, Bool.false_eq_true, Nat.reduceAdd, Option.bind_some, Bool.not_true, Bool.not_false, Nat.reduceBEq, Nat.reduceLeDiff, nn_b, nn_s, nn_i, laws_markSentS_r]
    refine loopI tabOK mixed [] (fun _ : Unit => True) (fun _ => 0) (fun _ => laws_markSentS_s0 .nils (.int .i64 k) (.int .i64 0) [] H) () trivial ⟨by simp [laws_markSentS_s0, LeL, LeV], rfl, rfl⟩ ?_
    intro _ _
    simp only [EV, EL, EB, EF, EM, q_bx, if_true, if_false, Bool.false_eq_true, Nat.reduceAdd, Option.bind_some, Bool.not_true, Bool.not_false, Nat.reduceBEq, Nat.reduceLeDiff, nn_b, nn_s, nn_i, laws_markSentS_r, laws_markSentS_s0, L0, show decide ((0 : Int) < 0) = false from rfl]
    refine ⟨rfl, by simp [cntL], ?_⟩
    first | exact ⟨rfl, fun _ _ => rfl, .nil _⟩ | exact ⟨fun _ _ => trivial, .nil _⟩
  simp only [List.length_map] at hc o ⊢
  have L0 : lenI false (.gs b g 0 l.length cap 7 ex) = some (.int .i64 l.length) := rfl
  have hbf : b ∉ fp := (List.nodup_cons.1 nd).1
  refine laws_markSentS_e (aw_sound tabOK mixed [] _ _ _ ?_)
  unfold laws_markSentS_c
  simp only [EV, EL, EB, EF, EM, q_bx, if_true, if_false, Bool.false_eq_true, Nat.reduceAdd, Option.bind_some, Bool.not_true, Bool.not_false, Nat.reduceBEq, Nat.reduceLeDiff, nn_b, nn_s, nn_i, laws_markSentS_r]
  refine loopI tabOK mixed [] (fun y : Nat × AH × List AV × List AV × List Nat × List Nat => y.1 ≤ l.length ∧ MInv H b g tail fp DSent.cd (l.drop y.1) (mkL DSent.mk_ DSent.cnt (l.take y.1) k) y.2.1 y.2.2.1 y.2.2.2.1 y.2.2.2.2.1 y.2.2.2.2.2) (fun y => l.length - y.1)
    (fun y => laws_markSentS_s0 (.gs b g 0 l.length cap 7 ex) (.int .i64 (k + cntL DSent.cnt (l.take y.1))) (.int .i64 y.1) [] y.2.1) (0, H, [], as0, [], fp) ⟨by simp, by simpa [mkL] using MInv.start hg hown⟩ ⟨by simp [laws_markSentS_s0, LeL, LeV, cntL], rfl, rfl⟩ ?_
  rintro ⟨j, H', as1, as2, f1, f2⟩ ⟨hj, iv⟩
  simp only at hj iv
  simp only [EV, EL, EB, EF, EM, q_bx, if_true, if_false, Bool.false_eq_true, Nat.reduceAdd, Option.bind_some, Bool.not_true, Bool.not_false, Nat.reduceBEq, Nat.reduceLeDiff, nn_b, nn_s, nn_i, laws_markSentS_r, laws_markSentS_s0, L0]
  refine c_split (fun hlt => ?_) (fun hge => ?_)
  rotate_left
  · have hge : j = l.length := by simp at hge; omega
    subst hge
    simp only [EV, EL, EB, EF, EM, q_bx, if_true, if_false, Bool.false_eq_true, Nat.reduceAdd, Option.bind_some, Bool.not_true, Bool.not_false, Nat.reduceBEq, Nat.reduceLeDiff, nn_b, nn_s, nn_i, laws_markSentS_r]
    rw [List.drop_length, List.take_length] at iv
    rw [List.take_length]
    exact ⟨rfl, rfl, iv.done mkL_len (fun _ => rfl) ht hc⟩
  have hlt : j < l.length := by simpa using hlt
  have htk := cntL_take DSent.cnt hlt
  have hle := cntL_le (c := DSent.cnt) DSent.cnt_nn hlt
  have hnn := cntL_nn (c := DSent.cnt) DSent.cnt_nn (l.take j)
  have hmt := mkL_take DSent.mk_ DSent.cnt hlt k
  rw [List.drop_eq_getElem_cons hlt] at iv
  obtain ⟨x, hx⟩ : ∃ x, x = l[j] := ⟨_, rfl⟩
  rw [← hx] at iv
  try rw [← hx] at htk hle
  try rw [← hx] at hmt
  obtain ⟨kj, hkj⟩ : ∃ kj, kj = k + cntL DSent.cnt (l.take j) := ⟨_, rfl⟩
  rw [← hkj] at hmt
  rw [← hkj]
  have hk0 : 0 ≤ kj := by omega
  have hkb : kj + DSent.cnt x ≤ 9223372036854775000 := by omega
  obtain ⟨h1, h2, cs, post, fx, fr, e1, e2, rfl, rfl, q1, q2⟩ := iv.open
  have hfx : ∀ c ∈ fx, c ≠ b := fun c hc e => hbf (by rw [iv.fps, ← e]; simp [hc])
  have ndx : fx.Nodup := (List.nodup_append.1 (List.nodup_append.1 (iv.fps ▸ (List.nodup_cons.1 nd).2)).2.1).1
  have hn0 : as1.length = j * 7 := by rw [iv.o1.len, flat_len' (sz := 7) (fun y _ => rfl), mkL_len, List.length_take, Nat.min_eq_left hj]
  have i0 : aIdxs 7 (.gs b g 0 l.length cap 7 ex) (j : Int) = some (.gp b g as1.length) := by rw [idx_gs hlt, hn0, Nat.zero_add]
  have z0 := cntL_nn (c := DValue.cnt) DValue.cnt_nn x.args
  simp only [DSent.cnt] at hkb
  have hox := ho _ (List.getElem_mem hlt); rw [← hx] at hox
  simp only [DSent.cd, ownL_c, ownL_n, own_i, own_b, own_s] at q1
  obtain ⟨_, _, _, _, rfl, e0z, ⟨rfl, rfl⟩, ⟨_, _, _, _, rfl, e1z, ⟨rfl, rfl⟩, ⟨a2, _, g2, _, rfl, e2z, u2, ⟨_, _, _, _, rfl, e3z, ⟨rfl, rfl⟩, ⟨_, _, _, _, rfl, e4z, ⟨rfl, rfl⟩, ⟨_, _, _, _, rfl, e5z, ⟨rfl, rfl⟩, ⟨_, _, _, _, rfl, e6z, ⟨rfl, rfl⟩, ⟨rfl, e7z⟩⟩⟩⟩⟩⟩⟩⟩ := q1
  have hfxe : fx = (g2 ++ []) := by rw [e0z, e1z, e2z, e3z, e4z, e5z, e6z, e7z]; simp
  have ow : OwnL H' [a2] [.sl 2 (x.args.map DValue.cd)] fx := by rw [hfxe]; exact (.o u2 .nil)
  obtain ⟨c2a, c2b, c2c, c2d⟩ := u2.cell
  have hlen0 := (rfl : H'.length = H'.length)
  have fr0 : ∀ c, c ≠ b → c ∉ fx → H'[c]? = H'[c]? := fun _ _ _ => rfl
  have w0 : IntKind.i64.wrap (kj + 1) = kj + 1 := (wrap_nat (by omega) (by omega)).trans (by omega)
  have w1 : IntKind.i64.wrap (kj + 1 + 1) = kj + 2 := (wrap_nat (by omega) (by omega)).trans (by omega)
  have w3 : IntKind.i64.wrap (kj + 2 + cntL DValue.cnt x.args + 1) = kj + 3 + cntL DValue.cnt x.args := (wrap_nat (by omega) (by omega)).trans (by omega)
  have w4 : IntKind.i64.wrap (kj + 3 + cntL DValue.cnt x.args + 1) = kj + 4 + cntL DValue.cnt x.args := (wrap_nat (by omega) (by omega)).trans (by omega)
  have w5 : IntKind.i64.wrap (kj + 4 + cntL DValue.cnt x.args + 1) = kj + 5 + cntL DValue.cnt x.args := (wrap_nat (by omega) (by omega)).trans (by omega)
  have w6 : IntKind.i64.wrap (kj + 5 + cntL DValue.cnt x.args + 1) = kj + 6 + cntL DValue.cnt x.args := (wrap_nat (by omega) (by omega)).trans (by omega)
  obtain ⟨H0, hH0⟩ : ∃ H0, H0 = H' := ⟨_, rfl⟩
  rw [← hH0] at iv q2 ow fr0 hlen0
  have fr0 : ∀ c, c ≠ b → c ∉ fx → H'[c]? = H0[c]? := fun _ _ _ => by rw [hH0]
  have hlen0 : H'.length = H0.length := by rw [hH0]
  rw [hH0] at ow
  replace e1 : H' = h1 ++ some (g, as1 ++ elc [.int .i64 x.target, .str x.name, a2, .int .i64 x.result, .int .i64 x.tag.vat, .int .i64 x.tag.entity, .int .i64 x.tag.seq] (post ++ tail)) :: h2 := e1
  subst e1
  simp only [EV, EL, EB, EF, EM, q_bx, if_true, if_false, Bool.false_eq_true, Nat.reduceAdd, Option.bind_some, Bool.not_true, Bool.not_false, Nat.reduceBEq, Nat.reduceLeDiff, nn_b, nn_s, nn_i, laws_markSentS_r, i0, st_el e2 rfl, rd_el e2 rfl, w0, w1, w3, w4, w5, w6, c2a, c2b, c2c]
  refine TCall.val (by simp only [EO]) (laws_markText_T (kj + 1) (by omega) (by omega) _) ?_
  simp only [EV, EL, EB, EF, EM, q_bx, if_true, if_false, Bool.false_eq_true, Nat.reduceAdd, Option.bind_some, Bool.not_true, Bool.not_false, Nat.reduceBEq, Nat.reduceLeDiff, nn_b, nn_s, nn_i, laws_markSentS_r, i0, st_el e2 rfl, rd_el e2 rfl, w0, w1, w3, w4, w5, w6, c2a, c2b, c2c]
  obtain ⟨gi1, oi1, ni1, si1, bk1⟩ := OwnL.pick (A := []) (D := []) rfl (ow.frame fun c hc => at_ne e2 (hfx c hc)) ndx
  refine TCall.ref (by simp only [EO, c2d]) (laws_markValueS_T x.args (kj + 2) (by omega) (by omega) (hox.2) _ oi1 ni1) ?_
  rintro _ hn ⟨rfl, hlen1, hfr1, un1⟩
  replace ow := bk1 hn _ hfr1 un1
  have fr1 : ∀ c, c ≠ b → c ∉ fx → hn[c]? = H0[c]? := fun c h1 h2 => (hfr1 c (fun h => h2 (si1 c h))).trans ((at_ne e2 h1).trans (fr0 c h1 h2))
  have hlen1 : hn.length = H0.length := by rw [hlen1]; (try rw [← hlen0]); (try simp)
  obtain ⟨p1, r1, rfl, eh1⟩ := heap_at (frame_hget (hget_at e2) (hfr1 b (fun h => hfx b (si1 b h) rfl)))
  simp only [EV, EL, EB, EF, EM, q_bx, if_true, if_false, Bool.false_eq_true, Nat.reduceAdd, Option.bind_some, Bool.not_true, Bool.not_false, Nat.reduceBEq, Nat.reduceLeDiff, nn_b, nn_s, nn_i, laws_markSentS_r, i0, st_el eh1 rfl, rd_el eh1 rfl, w0, w1, w3, w4, w5, w6, c2a, c2b, c2c]
  refine ⟨(j + 1, _, as1 ++ [.int .i64 (kj), .str (markT (kj + 1)), a2, .int .i64 (kj + 2 + cntL DValue.cnt x.args), .int .i64 (kj + 3 + cntL DValue.cnt x.args), .int .i64 (kj + 4 + cntL DValue.cnt x.args), .int .i64 (kj + 5 + cntL DValue.cnt x.args)], post, f1 ++ fx, fr), ⟨hlt, ?inv⟩, (by simp only; omega), ⟨?le, rfl, rfl⟩⟩
  case inv =>
    simp only; rw [hmt]
    replace ow := ow.frame fun c hc => at_ne (x := some (g, as1 ++ elc [.int .i64 (kj), .str (markT (kj + 1)), a2, .int .i64 (kj + 2 + cntL DValue.cnt x.args), .int .i64 (kj + 3 + cntL DValue.cnt x.args), .int .i64 (kj + 4 + cntL DValue.cnt x.args), .int .i64 (kj + 5 + cntL DValue.cnt x.args)] (post ++ tail))) eh1 (hfx c hc)
    obtain ⟨F0, R0, E0, O0, hz⟩ := ow
    have hz : R0 = [] := hz
    refine iv.next (y := DSent.mk_ x kj) nd q2 (by rw [← hlen1]; (try simp)) (hget_at eh1) (fun c h1 h2 => (at_ne eh1 h1).trans (fr1 c h1 h2)) ?_
    rw [E0, hz]; exact (.i (.s (.o O0 (.i (.i (.i (.i .nil)))))))
  case le =>
    have hfin : k + cntL DSent.cnt (l.take (j + 1)) = kj + 6 + cntL DValue.cnt x.args := by rw [htk]; simp only [DSent.cnt]; omega
    rw [hfin, wN (by omega)]; (try simp [laws_markSentS_s0, LeL, LeV])
theorem laws_markAskerS_T (l : List DAsker) (k : Int) (hk : 0 ≤ k) (hb : k + cntL DAsker.cnt l ≤ 9223372036854775000) (hl : l.length ≤ 1073741824) (H : AH) {a : AV} {fp : List Nat} (o : Own H a (.sl 2 (l.map DAsker.cd)) fp) (nd : fp.Nodup) :
    T Tryz.prog Γ Fn.laws_markAskerS [a, .int .i64 k] H fun v h' => v = .int .i64 (k + cntL DAsker.cnt l) ∧ (h'.length = H.length ∧ (∀ c, c ∉ fp → h'[c]? = H[c]?) ∧ Own h' a (.sl 2 ((mkL DAsker.mk_ DAsker.cnt l k).map DAsker.cd)) fp) := by
  rcases o.sl_inv with ⟨rfl, e, rfl⟩ | ⟨b, g, cap, ex, as0, tail, fp, rfl, rfl, hg, hsz, ht, hc, hown⟩
  · have e : l = [] := by simpa using e
    subst e
    have L0 : lenI false .nils = some (.int .i64 0) := rfl
    refine laws_markAskerS_e (aw_sound tabOK mixed [] _ _ _ ?_)
    unfold laws_markAskerS_c
    simp only [EV, EL, EB, EF, EM, q_bx, if_true, if_false, Bool.false_eq_true, Nat.reduceAdd, Option.bind_some, Bool.not_true, Bool.not_false, Nat.reduceBEq, Nat.reduceLeDiff, nn_b, nn_s, nn_i, laws_markAskerS_r]
    refine loopI tabOK mixed [] (fun _ : Unit => True) (fun _ => 0) (fun _ => laws_markAskerS_s0 .nils (.int .i64 k) (.int .i64 0) [] H) () trivial ⟨by simp [laws_markAskerS_s0, LeL, LeV], rfl, rfl⟩ ?_
    intro _ _
    simp only [EV, EL, EB, EF, EM, q_bx, if_true, if_false, Bool.false_eq_true, Nat.reduceAdd, Option.bind_some, Bool.not_true, Bool.not_false, Nat.reduceBEq, Nat.reduceLeDiff, nn_b, nn_s, nn_i, laws_markAskerS_r, laws_markAskerS_s0, L0, show decide ((0 : Int) < 0) = false from rfl]
    refine ⟨rfl, by simp [cntL], ?_⟩
    first | exact ⟨rfl, fun _ _ => rfl, .nil _⟩ | exact ⟨fun _ _ => trivial, .nil _⟩
  simp only [List.length_map] at hc o ⊢
  have L0 : lenI false (.gs b g 0 l.length cap 2 ex) = some (.int .i64 l.length) := rfl
  have hbf : b ∉ fp := (List.nodup_cons.1 nd).1
  refine laws_markAskerS_e (aw_sound tabOK mixed [] _ _ _ ?_)
  unfold laws_markAskerS_c
  simp only [EV, EL, EB, EF, EM, q_bx, if_true, if_false, Bool.false_eq_true, Nat.reduceAdd, Option.bind_some, Bool.not_true, Bool.not_false, Nat.reduceBEq, Nat.reduceLeDiff, nn_b, nn_s, nn_i, laws_markAskerS_r]
  refine loopI tabOK mixed [] (fun y : Nat × AH × List AV × List AV × List Nat × List Nat => y.1 ≤ l.length ∧ MInv H b g tail fp DAsker.cd (l.drop y.1) (mkL DAsker.mk_ DAsker.cnt (l.take y.1) k) y.2.1 y.2.2.1 y.2.2.2.1 y.2.2.2.2.1 y.2.2.2.2.2) (fun y => l.length - y.1)
    (fun y => laws_markAskerS_s0 (.gs b g 0 l.length cap 2 ex) (.int .i64 (k + cntL DAsker.cnt (l.take y.1))) (.int .i64 y.1) [] y.2.1) (0, H, [], as0, [], fp) ⟨by simp, by simpa [mkL] using MInv.start hg hown⟩ ⟨by simp [laws_markAskerS_s0, LeL, LeV, cntL], rfl, rfl⟩ ?_
  rintro ⟨j, H', as1, as2, f1, f2⟩ ⟨hj, iv⟩
  simp only at hj iv
  simp only [EV, EL, EB, EF, EM, q_bx, if_true, if_false, Bool.false_eq_true, Nat.reduceAdd, Option.bind_some, Bool.not_true, Bool.not_false, Nat.reduceBEq, Nat.reduceLeDiff, nn_b, nn_s, nn_i, laws_markAskerS_r, laws_markAskerS_s0, L0]
  refine c_split (fun hlt => ?_) (fun hge => ?_)
  rotate_left
  · have hge : j = l.length := by simp at hge; omega
    subst hge
    simp only [EV, EL, EB, EF, EM, q_bx, if_true, if_false, Bool.false_eq_true, Nat.reduceAdd, Option.bind_some, Bool.not_true, Bool.not_false, Nat.reduceBEq, Nat.reduceLeDiff, nn_b, nn_s, nn_i, laws_markAskerS_r]
    rw [List.drop_length, List.take_length] at iv
    rw [List.take_length]
    exact ⟨rfl, rfl, iv.done mkL_len (fun _ => rfl) ht hc⟩
  have hlt : j < l.length := by simpa using hlt
  have htk := cntL_take DAsker.cnt hlt
  have hle := cntL_le (c := DAsker.cnt) DAsker.cnt_nn hlt
  have hnn := cntL_nn (c := DAsker.cnt) DAsker.cnt_nn (l.take j)
  have hmt := mkL_take DAsker.mk_ DAsker.cnt hlt k
  rw [List.drop_eq_getElem_cons hlt] at iv
  obtain ⟨x, hx⟩ : ∃ x, x = l[j] := ⟨_, rfl⟩
  rw [← hx] at iv
  try rw [← hx] at htk hle
  try rw [← hx] at hmt
  obtain ⟨kj, hkj⟩ : ∃ kj, kj = k + cntL DAsker.cnt (l.take j) := ⟨_, rfl⟩
  rw [← hkj] at hmt
  rw [← hkj]
  have hk0 : 0 ≤ kj := by omega
  have hkb : kj + DAsker.cnt x ≤ 9223372036854775000 := by omega
  obtain ⟨h1, h2, cs, post, fx, fr, e1, e2, rfl, rfl, q1, q2⟩ := iv.open
  have hfx : ∀ c ∈ fx, c ≠ b := fun c hc e => hbf (by rw [iv.fps, ← e]; simp [hc])
  have ndx : fx.Nodup := (List.nodup_append.1 (List.nodup_append.1 (iv.fps ▸ (List.nodup_cons.1 nd).2)).2.1).1
  have hn0 : as1.length = j * 2 := by rw [iv.o1.len, flat_len' (sz := 2) (fun y _ => rfl), mkL_len, List.length_take, Nat.min_eq_left hj]
  have i0 : aIdxs 2 (.gs b g 0 l.length cap 2 ex) (j : Int) = some (.gp b g as1.length) := by rw [idx_gs hlt, hn0, Nat.zero_add]
  simp only [DAsker.cnt] at hkb
  simp only [DAsker.cd, ownL_c, ownL_n, own_i, own_b, own_s] at q1
  obtain ⟨_, _, _, _, rfl, e0z, ⟨rfl, rfl⟩, ⟨_, _, _, _, rfl, e1z, ⟨rfl, rfl⟩, ⟨rfl, e2z⟩⟩⟩ := q1
  have hfxe : fx = [] := by rw [e0z, e1z, e2z]; simp
  have ow : OwnL H' [] [] fx := by rw [hfxe]; exact .nil
  have hlen0 := (rfl : H'.length = H'.length)
  have fr0 : ∀ c, c ≠ b → c ∉ fx → H'[c]? = H'[c]? := fun _ _ _ => rfl
  have w0 : IntKind.i64.wrap (kj + 1) = kj + 1 := (wrap_nat (by omega) (by omega)).trans (by omega)
  have w1 : IntKind.i64.wrap (kj + 1 + 1) = kj + 2 := (wrap_nat (by omega) (by omega)).trans (by omega)
  obtain ⟨H0, hH0⟩ : ∃ H0, H0 = H' := ⟨_, rfl⟩
  rw [← hH0] at iv q2 ow fr0 hlen0
  have fr0 : ∀ c, c ≠ b → c ∉ fx → H'[c]? = H0[c]? := fun _ _ _ => by rw [hH0]
  have hlen0 : H'.length = H0.length := by rw [hH0]
  rw [hH0] at ow
  replace e1 : H' = h1 ++ some (g, as1 ++ elc [.int .i64 x.peer, .int .i64 x.question] (post ++ tail)) :: h2 := e1
  subst e1
  simp only [EV, EL, EB, EF, EM, q_bx, if_true, if_false, Bool.false_eq_true, Nat.reduceAdd, Option.bind_some, Bool.not_true, Bool.not_false, Nat.reduceBEq, Nat.reduceLeDiff, nn_b, nn_s, nn_i, laws_markAskerS_r, i0, st_el e2 rfl, rd_el e2 rfl, w0, w1]
  refine ⟨(j + 1, _, as1 ++ [.int .i64 (kj), .int .i64 (kj + 1)], post, f1 ++ [], fr), ⟨hlt, ?inv⟩, (by simp only; omega), ⟨?le, rfl, rfl⟩⟩
  case inv =>
    simp only; rw [hmt]
    subst hfxe
    exact iv.next (y := DAsker.mk_ x kj) nd q2 (by rw [← hlen0]; (try simp)) (hget_at e2) (fun c h1 h2 => (at_ne e2 h1).trans (fr0 c h1 h2)) (.i (.i .nil))
  case le =>
    have hfin : k + cntL DAsker.cnt (l.take (j + 1)) = kj + 2 := by rw [htk]; simp only [DAsker.cnt]; omega
    rw [hfin, wN (by omega)]; (try simp [laws_markAskerS_s0, LeL, LeV])
theorem laws_markEntityS_T (l : List DEntity) (k : Int) (hk : 0 ≤ k) (hb : k + cntL DEntity.cnt l ≤ 9223372036854775000) (hl : l.length ≤ 1073741824) (ho : ∀ x ∈ l, x.ok 1073741824) (H : AH) {a : AV} {fp : List Nat} (o : Own H a (.sl 12 (l.map DEntity.cd)) fp) (nd : fp.Nodup) :
    T Tryz.prog Γ Fn.laws_markEntityS [a, .int .i64 k] H fun v h' => v = .int .i64 (k + cntL DEntity.cnt l) ∧ (h'.length = H.length ∧ (∀ c, c ∉ fp → h'[c]? = H[c]?) ∧ Own h' a (.sl 12 ((mkL DEntity.mk_ DEntity.cnt l k).map DEntity.cd)) fp) := by
  rcases o.sl_inv with ⟨rfl, e, rfl⟩ | ⟨b, g, cap, ex, as0, tail, fp, rfl, rfl, hg, hsz, ht, hc, hown⟩
  · have e : l = [] := by simpa using e
    subst e
    have L0 : lenI false .nils = some (.int .i64 0) := rfl
    refine laws_markEntityS_e (aw_sound tabOK mixed [] _ _ _ ?_)
    unfold laws_markEntityS_c
    simp only [EV, EL, EB, EF, EM, q_bx, if_true, if_false, Bool.false_eq_true, Nat.reduceAdd, Option.bind_some, Bool.not_true, Bool.not_false, Nat.reduceBEq, Nat.reduceLeDiff, nn_b, nn_s, nn_i, laws_markEntityS_r]
    refine loopI tabOK mixed [] (fun _ : Unit => True) (fun _ => 0) (fun _ => laws_markEntityS_s0 .nils (.int .i64 k) (.int .i64 0) [] H) () trivial ⟨by simp [laws_markEntityS_s0, LeL, LeV], rfl, rfl⟩ ?_
    intro _ _
    simp only [EV, EL, EB, EF, EM, q_bx, if_true, if_false, Bool.false_eq_true, Nat.reduceAdd, Option.bind_some, Bool.not_true, Bool.not_false, Nat.reduceBEq, Nat.reduceLeDiff, nn_b, nn_s, nn_i, laws_markEntityS_r, laws_markEntityS_s0, L0, show decide ((0 : Int) < 0) = false from rfl]
    refine ⟨rfl, by simp [cntL], ?_⟩
    first | exact ⟨rfl, fun _ _ => rfl, .nil _⟩ | exact ⟨fun _ _ => trivial, .nil _⟩
  simp only [List.length_map] at hc o ⊢
  have L0 : lenI false (.gs b g 0 l.length cap 12 ex) = some (.int .i64 l.length) := rfl
  have hbf : b ∉ fp := (List.nodup_cons.1 nd).1
  refine laws_markEntityS_e (aw_sound tabOK mixed [] _ _ _ ?_)
  unfold laws_markEntityS_c
  simp only [EV, EL, EB, EF, EM, q_bx, if_true, if_false, Bool.false_eq_true, Nat.reduceAdd, Option.bind_some, Bool.not_true, Bool.not_false, Nat.reduceBEq, Nat.reduceLeDiff, nn_b, nn_s, nn_i, laws_markEntityS_r]
  refine loopI tabOK mixed [] (fun y : Nat × AH × List AV × List AV × List Nat × List Nat => y.1 ≤ l.length ∧ MInv H b g tail fp DEntity.cd (l.drop y.1) (mkL DEntity.mk_ DEntity.cnt (l.take y.1) k) y.2.1 y.2.2.1 y.2.2.2.1 y.2.2.2.2.1 y.2.2.2.2.2) (fun y => l.length - y.1)
    (fun y => laws_markEntityS_s0 (.gs b g 0 l.length cap 12 ex) (.int .i64 (k + cntL DEntity.cnt (l.take y.1))) (.int .i64 y.1) [] y.2.1) (0, H, [], as0, [], fp) ⟨by simp, by simpa [mkL] using MInv.start hg hown⟩ ⟨by simp [laws_markEntityS_s0, LeL, LeV, cntL], rfl, rfl⟩ ?_
  rintro ⟨j, H', as1, as2, f1, f2⟩ ⟨hj, iv⟩
  simp only at hj iv
  simp only [EV, EL, EB, EF, EM, q_bx, if_true, if_false, Bool.false_eq_true, Nat.reduceAdd, Option.bind_some, Bool.not_true, Bool.not_false, Nat.reduceBEq, Nat.reduceLeDiff, nn_b, nn_s, nn_i, laws_markEntityS_r, laws_markEntityS_s0, L0]
  refine c_split (fun hlt => ?_) (fun hge => ?_)
  rotate_left
  · have hge : j = l.length := by simp at hge; omega
    subst hge
    simp only [EV, EL, EB, EF, EM, q_bx, if_true, if_false, Bool.false_eq_true, Nat.reduceAdd, Option.bind_some, Bool.not_true, Bool.not_false, Nat.reduceBEq, Nat.reduceLeDiff, nn_b, nn_s, nn_i, laws_markEntityS_r]
    rw [List.drop_length, List.take_length] at iv
    rw [List.take_length]
    exact ⟨rfl, rfl, iv.done mkL_len (fun _ => rfl) ht hc⟩
  have hlt : j < l.length := by simpa using hlt
  have htk := cntL_take DEntity.cnt hlt
  have hle := cntL_le (c := DEntity.cnt) DEntity.cnt_nn hlt
  have hnn := cntL_nn (c := DEntity.cnt) DEntity.cnt_nn (l.take j)
  have hmt := mkL_take DEntity.mk_ DEntity.cnt hlt k
  rw [List.drop_eq_getElem_cons hlt] at iv
  obtain ⟨x, hx⟩ : ∃ x, x = l[j] := ⟨_, rfl⟩
  rw [← hx] at iv
  try rw [← hx] at htk hle
  try rw [← hx] at hmt
  obtain ⟨kj, hkj⟩ : ∃ kj, kj = k + cntL DEntity.cnt (l.take j) := ⟨_, rfl⟩
  rw [← hkj] at hmt
  rw [← hkj]
  have hk0 : 0 ≤ kj := by omega
  have hkb : kj + DEntity.cnt x ≤ 9223372036854775000 := by omega
  obtain ⟨h1, h2, cs, post, fx, fr, e1, e2, rfl, rfl, q1, q2⟩ := iv.open
  have hfx : ∀ c ∈ fx, c ≠ b := fun c hc e => hbf (by rw [iv.fps, ← e]; simp [hc])
  have ndx : fx.Nodup := (List.nodup_append.1 (List.nodup_append.1 (iv.fps ▸ (List.nodup_cons.1 nd).2)).2.1).1
  have hn0 : as1.length = j * 12 := by rw [iv.o1.len, flat_len' (sz := 12) (fun y _ => rfl), mkL_len, List.length_take, Nat.min_eq_left hj]
  have i0 : aIdxs 12 (.gs b g 0 l.length cap 12 ex) (j : Int) = some (.gp b g as1.length) := by rw [idx_gs hlt, hn0, Nat.zero_add]
  have z0 := cntL_nn (c := DValue.cnt) DValue.cnt_nn x.slots
  have z1 := cntL_nn (c := DSent.cnt) DSent.cnt_nn x.queue
  have z2 := cntL_nn (c := DAsker.cnt) DAsker.cnt_nn x.askers
  simp only [DEntity.cnt] at hkb
  have hox := ho _ (List.getElem_mem hlt); rw [← hx] at hox
  simp only [DEntity.cd, ownL_c, ownL_n, own_i, own_b, own_s] at q1
  obtain ⟨_, _, _, _, rfl, e0z, ⟨rfl, rfl⟩, ⟨_, _, _, _, rfl, e1z, ⟨rfl, rfl⟩, ⟨a2, _, g2, _, rfl, e2z, u2, ⟨_, _, _, _, rfl, e3z, ⟨rfl, rfl⟩, ⟨_, _, _, _, rfl, e4z, ⟨rfl, rfl⟩, ⟨_, _, _, _, rfl, e5z, ⟨rfl, rfl⟩, ⟨a6, _, g6, _, rfl, e6z, u6, ⟨a7, _, g7, _, rfl, e7z, u7, ⟨_, _, _, _, rfl, e8z, ⟨rfl, rfl⟩, ⟨_, _, _, _, rfl, e9z, ⟨rfl, rfl⟩, ⟨_, _, _, _, rfl, e10z, ⟨rfl, rfl⟩, ⟨_, _, _, _, rfl, e11z, ⟨rfl, rfl⟩, ⟨rfl, e12z⟩⟩⟩⟩⟩⟩⟩⟩⟩⟩⟩⟩⟩ := q1
  have hfxe : fx = (g2 ++ (g6 ++ (g7 ++ []))) := by rw [e0z, e1z, e2z, e3z, e4z, e5z, e6z, e7z, e8z, e9z, e10z, e11z, e12z]; simp
  have ow : OwnL H' [a2, a6, a7] [.sl 2 (x.slots.map DValue.cd), .sl 7 (x.queue.map DSent.cd), .sl 2 (x.askers.map DAsker.cd)] fx := by rw [hfxe]; exact (.o u2 (.o u6 (.o u7 .nil)))
  obtain ⟨c2a, c2b, c2c, c2d⟩ := u2.cell
  obtain ⟨c6a, c6b, c6c, c6d⟩ := u6.cell
  obtain ⟨c7a, c7b, c7c, c7d⟩ := u7.cell
  have hlen0 := (rfl : H'.length = H'.length)
  have fr0 : ∀ c, c ≠ b → c ∉ fx → H'[c]? = H'[c]? := fun _ _ _ => rfl
  have w0 : IntKind.i64.wrap (kj + 1) = kj + 1 := (wrap_nat (by omega) (by omega)).trans (by omega)
  have w1 : IntKind.i64.wrap (kj + 1 + 1) = kj + 2 := (wrap_nat (by omega) (by omega)).trans (by omega)
  have w3 : IntKind.i64.wrap (kj + 2 + cntL DValue.cnt x.slots + 1) = kj + 3 + cntL DValue.cnt x.slots := (wrap_nat (by omega) (by omega)).trans (by omega)
  have w4 : IntKind.i64.wrap (kj + 3 + cntL DValue.cnt x.slots + 1) = kj + 4 + cntL DValue.cnt x.slots := (wrap_nat (by omega) (by omega)).trans (by omega)
  have w5 : IntKind.i64.wrap (kj + 4 + cntL DValue.cnt x.slots + 1) = kj + 5 + cntL DValue.cnt x.slots := (wrap_nat (by omega) (by omega)).trans (by omega)
  have w8 : IntKind.i64.wrap (kj + 5 + cntL DValue.cnt x.slots + cntL DSent.cnt x.queue + cntL DAsker.cnt x.askers + 1) = kj + 6 + cntL DValue.cnt x.slots + cntL DSent.cnt x.queue + cntL DAsker.cnt x.askers := (wrap_nat (by omega) (by omega)).trans (by omega)
  have w9 : IntKind.i64.wrap (kj + 6 + cntL DValue.cnt x.slots + cntL DSent.cnt x.queue + cntL DAsker.cnt x.askers + 1) = kj + 7 + cntL DValue.cnt x.slots + cntL DSent.cnt x.queue + cntL DAsker.cnt x.askers := (wrap_nat (by omega) (by omega)).trans (by omega)
  have w10 : IntKind.i64.wrap (kj + 7 + cntL DValue.cnt x.slots + cntL DSent.cnt x.queue + cntL DAsker.cnt x.askers + 1) = kj + 8 + cntL DValue.cnt x.slots + cntL DSent.cnt x.queue + cntL DAsker.cnt x.askers := (wrap_nat (by omega) (by omega)).trans (by omega)
  have w11 : IntKind.i64.wrap (kj + 8 + cntL DValue.cnt x.slots + cntL DSent.cnt x.queue + cntL DAsker.cnt x.askers + 1) = kj + 9 + cntL DValue.cnt x.slots + cntL DSent.cnt x.queue + cntL DAsker.cnt x.askers := (wrap_nat (by omega) (by omega)).trans (by omega)
  obtain ⟨H0, hH0⟩ : ∃ H0, H0 = H' := ⟨_, rfl⟩
  rw [← hH0] at iv q2 ow fr0 hlen0
  have fr0 : ∀ c, c ≠ b → c ∉ fx → H'[c]? = H0[c]? := fun _ _ _ => by rw [hH0]
  have hlen0 : H'.length = H0.length := by rw [hH0]
  rw [hH0] at ow
  replace e1 : H' = h1 ++ some (g, as1 ++ elc [.int .i64 x.kind, .int .i64 x.script, a2, .int .i64 x.state, .int .i64 x.value.kind, .int .i64 x.value.n, a6, a7, .int .i64 x.peer, .int .i64 x.pos, .int .i64 x.count, .int .i64 x.sent] (post ++ tail)) :: h2 := e1
  subst e1
  simp only [EV, EL, EB, EF, EM, q_bx, if_true, if_false, Bool.false_eq_true, Nat.reduceAdd, Option.bind_some, Bool.not_true, Bool.not_false, Nat.reduceBEq, Nat.reduceLeDiff, nn_b, nn_s, nn_i, laws_markEntityS_r, i0, st_el e2 rfl, rd_el e2 rfl, w0, w1, w3, w4, w5, w8, w9, w10, w11, c2a, c2b, c2c, c6a, c6b, c6c, c7a, c7b, c7c]
  obtain ⟨gi1, oi1, ni1, si1, bk1⟩ := OwnL.pick (A := []) (D := []) rfl (ow.frame fun c hc => at_ne e2 (hfx c hc)) ndx
  refine TCall.ref (by simp only [EO, c2d]) (laws_markValueS_T x.slots (kj + 2) (by omega) (by omega) (hox.1) _ oi1 ni1) ?_
  rintro _ hn ⟨rfl, hlen1, hfr1, un1⟩
  replace ow := bk1 hn _ hfr1 un1
  have fr1 : ∀ c, c ≠ b → c ∉ fx → hn[c]? = H0[c]? := fun c h1 h2 => (hfr1 c (fun h => h2 (si1 c h))).trans ((at_ne e2 h1).trans (fr0 c h1 h2))
  have hlen1 : hn.length = H0.length := by rw [hlen1]; (try rw [← hlen0]); (try simp)
  obtain ⟨p1, r1, rfl, eh1⟩ := heap_at (frame_hget (hget_at e2) (hfr1 b (fun h => hfx b (si1 b h) rfl)))
  simp only [EV, EL, EB, EF, EM, q_bx, if_true, if_false, Bool.false_eq_true, Nat.reduceAdd, Option.bind_some, Bool.not_true, Bool.not_false, Nat.reduceBEq, Nat.reduceLeDiff, nn_b, nn_s, nn_i, laws_markEntityS_r, i0, st_el eh1 rfl, rd_el eh1 rfl, w0, w1, w3, w4, w5, w8, w9, w10, w11, c2a, c2b, c2c, c6a, c6b, c6c, c7a, c7b, c7c]
  obtain ⟨gi2, oi2, ni2, si2, bk2⟩ := OwnL.pick (A := [a2]) (D := [_]) rfl (ow.frame fun c hc => at_ne eh1 (hfx c hc)) ndx
  refine TCall.ref (by simp only [EO, c6d]) (laws_markSentS_T x.queue (kj + 5 + cntL DValue.cnt x.slots) (by omega) (by omega) (hox.2.1) (hox.2.2.1) _ oi2 ni2) ?_
  rintro _ hn ⟨rfl, hlen2, hfr2, un2⟩
  replace ow := bk2 hn _ hfr2 un2
  have fr2 : ∀ c, c ≠ b → c ∉ fx → hn[c]? = H0[c]? := fun c h1 h2 => (hfr2 c (fun h => h2 (si2 c h))).trans ((at_ne eh1 h1).trans (fr1 c h1 h2))
  have hlen2 : hn.length = H0.length := by rw [hlen2]; (try rw [← hlen1]); (try simp)
  obtain ⟨p2, r2, rfl, eh2⟩ := heap_at (frame_hget (hget_at eh1) (hfr2 b (fun h => hfx b (si2 b h) rfl)))
  simp only [EV, EL, EB, EF, EM, q_bx, if_true, if_false, Bool.false_eq_true, Nat.reduceAdd, Option.bind_some, Bool.not_true, Bool.not_false, Nat.reduceBEq, Nat.reduceLeDiff, nn_b, nn_s, nn_i, laws_markEntityS_r, i0, st_el eh2 rfl, rd_el eh2 rfl, w0, w1, w3, w4, w5, w8, w9, w10, w11, c2a, c2b, c2c, c6a, c6b, c6c, c7a, c7b, c7c]
  obtain ⟨gi3, oi3, ni3, si3, bk3⟩ := OwnL.pick (A := [a2, a6]) (D := [_, _]) rfl (ow.frame fun c hc => at_ne eh2 (hfx c hc)) ndx
  refine TCall.ref (by simp only [EO, c7d]) (laws_markAskerS_T x.askers (kj + 5 + cntL DValue.cnt x.slots + cntL DSent.cnt x.queue) (by omega) (by omega) (hox.2.2.2) _ oi3 ni3) ?_
  rintro _ hn ⟨rfl, hlen3, hfr3, un3⟩
  replace ow := bk3 hn _ hfr3 un3
  have fr3 : ∀ c, c ≠ b → c ∉ fx → hn[c]? = H0[c]? := fun c h1 h2 => (hfr3 c (fun h => h2 (si3 c h))).trans ((at_ne eh2 h1).trans (fr2 c h1 h2))
  have hlen3 : hn.length = H0.length := by rw [hlen3]; (try rw [← hlen2]); (try simp)
  obtain ⟨p3, r3, rfl, eh3⟩ := heap_at (frame_hget (hget_at eh2) (hfr3 b (fun h => hfx b (si3 b h) rfl)))
  simp only [EV, EL, EB, EF, EM, q_bx, if_true, if_false, Bool.false_eq_true, Nat.reduceAdd, Option.bind_some, Bool.not_true, Bool.not_false, Nat.reduceBEq, Nat.reduceLeDiff, nn_b, nn_s, nn_i, laws_markEntityS_r, i0, st_el eh3 rfl, rd_el eh3 rfl, w0, w1, w3, w4, w5, w8, w9, w10, w11, c2a, c2b, c2c, c6a, c6b, c6c, c7a, c7b, c7c]
  refine ⟨(j + 1, _, as1 ++ [.int .i64 (kj), .int .i64 (kj + 1), a2, .int .i64 (kj + 2 + cntL DValue.cnt x.slots), .int .i64 (kj + 3 + cntL DValue.cnt x.slots), .int .i64 (kj + 4 + cntL DValue.cnt x.slots), a6, a7, .int .i64 (kj + 5 + cntL DValue.cnt x.slots + cntL DSent.cnt x.queue + cntL DAsker.cnt x.askers), .int .i64 (kj + 6 + cntL DValue.cnt x.slots + cntL DSent.cnt x.queue + cntL DAsker.cnt x.askers), .int .i64 (kj + 7 + cntL DValue.cnt x.slots + cntL DSent.cnt x.queue + cntL DAsker.cnt x.askers), .int .i64 (kj + 8 + cntL DValue.cnt x.slots + cntL DSent.cnt x.queue + cntL DAsker.cnt x.askers)], post, f1 ++ fx, fr), ⟨hlt, ?inv⟩, (by simp only; omega), ⟨?le, rfl, rfl⟩⟩
  case inv =>
    simp only; rw [hmt]
    replace ow := ow.frame fun c hc => at_ne (x := some (g, as1 ++ elc [.int .i64 (kj), .int .i64 (kj + 1), a2, .int .i64 (kj + 2 + cntL DValue.cnt x.slots), .int .i64 (kj + 3 + cntL DValue.cnt x.slots), .int .i64 (kj + 4 + cntL DValue.cnt x.slots), a6, a7, .int .i64 (kj + 5 + cntL DValue.cnt x.slots + cntL DSent.cnt x.queue + cntL DAsker.cnt x.askers), .int .i64 (kj + 6 + cntL DValue.cnt x.slots + cntL DSent.cnt x.queue + cntL DAsker.cnt x.askers), .int .i64 (kj + 7 + cntL DValue.cnt x.slots + cntL DSent.cnt x.queue + cntL DAsker.cnt x.askers), .int .i64 (kj + 8 + cntL DValue.cnt x.slots + cntL DSent.cnt x.queue + cntL DAsker.cnt x.askers)] (post ++ tail))) eh3 (hfx c hc)
    obtain ⟨F0, R0, E0, O0, ⟨F1, R1, E1, O1, ⟨F2, R2, E2, O2, hz⟩⟩⟩ := ow
    have hz : R2 = [] := hz
    refine iv.next (y := DEntity.mk_ x kj) nd q2 (by rw [← hlen3]; (try simp)) (hget_at eh3) (fun c h1 h2 => (at_ne eh3 h1).trans (fr3 c h1 h2)) ?_
    rw [E0, E1, E2, hz]; exact (.i (.i (.o O0 (.i (.i (.i (.o O1 (.o O2 (.i (.i (.i (.i .nil))))))))))))
  case le =>
    have hfin : k + cntL DEntity.cnt (l.take (j + 1)) = kj + 9 + cntL DValue.cnt x.slots + cntL DSent.cnt x.queue + cntL DAsker.cnt x.askers := by rw [htk]; simp only [DEntity.cnt]; omega
    rw [hfin, wN (by omega)]; (try simp [laws_markEntityS_s0, LeL, LeV])
theorem laws_markExportS_T (l : List DExport) (k : Int) (hk : 0 ≤ k) (hb : k + cntL DExport.cnt l ≤ 9223372036854775000) (hl : l.length ≤ 1073741824) (H : AH) {a : AV} {fp : List Nat} (o : Own H a (.sl 3 (l.map DExport.cd)) fp) (nd : fp.Nodup) :
    T Tryz.prog Γ Fn.laws_markExportS [a, .int .i64 k] H fun v h' => v = .int .i64 (k + cntL DExport.cnt l) ∧ (h'.length = H.length ∧ (∀ c, c ∉ fp → h'[c]? = H[c]?) ∧ Own h' a (.sl 3 ((mkL DExport.mk_ DExport.cnt l k).map DExport.cd)) fp) := by
  rcases o.sl_inv with ⟨rfl, e, rfl⟩ | ⟨b, g, cap, ex, as0, tail, fp, rfl, rfl, hg, hsz, ht, hc, hown⟩
  · have e : l = [] := by simpa using e
    subst e
    have L0 : lenI false .nils = some (.int .i64 0) := rfl
    refine laws_markExportS_e (aw_sound tabOK mixed [] _ _ _ ?_)
    unfold laws_markExportS_c
    simp only [EV, EL, EB, EF, EM, q_bx, if_true, if_false, Bool.false_eq_true, Nat.reduceAdd, Option.bind_some, Bool.not_true, Bool.not_false, Nat.reduceBEq, Nat.reduceLeDiff, nn_b, nn_s, nn_i, laws_markExportS_r]
    refine loopI tabOK mixed [] (fun _ : Unit => True) (fun _ => 0) (fun _ => laws_markExportS_s0 .nils (.int .i64 k) (.int .i64 0) [] H) () trivial ⟨by simp [laws_markExportS_s0, LeL, LeV], rfl, rfl⟩ ?_
    intro _ _
    simp only [EV, EL, EB, EF, EM, q_bx, if_true, if_false, Bool.false_eq_true, Nat.reduceAdd, Option.bind_some, Bool.not_true, Bool.not_false, Nat.reduceBEq, Nat.reduceLeDiff, nn_b, nn_s, nn_i, laws_markExportS_r, laws_markExportS_s0, L0, show decide ((0 : Int) < 0) = false from rfl]
    refine ⟨rfl, by simp [cntL], ?_⟩
    first | exact ⟨rfl, fun _ _ => rfl, .nil _⟩ | exact ⟨fun _ _ => trivial, .nil _⟩
  simp only [List.length_map] at hc o ⊢
  have L0 : lenI false (.gs b g 0 l.length cap 3 ex) = some (.int .i64 l.length) := rfl
  have hbf : b ∉ fp := (List.nodup_cons.1 nd).1
  refine laws_markExportS_e (aw_sound tabOK mixed [] _ _ _ ?_)
  unfold laws_markExportS_c
  simp only [EV, EL, EB, EF, EM, q_bx, if_true, if_false, Bool.false_eq_true, Nat.reduceAdd, Option.bind_some, Bool.not_true, Bool.not_false, Nat.reduceBEq, Nat.reduceLeDiff, nn_b, nn_s, nn_i, laws_markExportS_r]
  refine loopI tabOK mixed [] (fun y : Nat × AH × List AV × List AV × List Nat × List Nat => y.1 ≤ l.length ∧ MInv H b g tail fp DExport.cd (l.drop y.1) (mkL DExport.mk_ DExport.cnt (l.take y.1) k) y.2.1 y.2.2.1 y.2.2.2.1 y.2.2.2.2.1 y.2.2.2.2.2) (fun y => l.length - y.1)
    (fun y => laws_markExportS_s0 (.gs b g 0 l.length cap 3 ex) (.int .i64 (k + cntL DExport.cnt (l.take y.1))) (.int .i64 y.1) [] y.2.1) (0, H, [], as0, [], fp) ⟨by simp, by simpa [mkL] using MInv.start hg hown⟩ ⟨by simp [laws_markExportS_s0, LeL, LeV, cntL], rfl, rfl⟩ ?_
  rintro ⟨j, H', as1, as2, f1, f2⟩ ⟨hj, iv⟩
  simp only at hj iv
  simp only [EV, EL, EB, EF, EM, q_bx, if_true, if_false, Bool.false_eq_true, Nat.reduceAdd, Option.bind_some, Bool.not_true, Bool.not_false, Nat.reduceBEq, Nat.reduceLeDiff, nn_b, nn_s, nn_i, laws_markExportS_r, laws_markExportS_s0, L0]
  refine c_split (fun hlt => ?_) (fun hge => ?_)
  rotate_left
  · have hge : j = l.length := by simp at hge; omega
    subst hge
    simp only [EV, EL, EB, EF, EM, q_bx, if_true, if_false, Bool.false_eq_true, Nat.reduceAdd, Option.bind_some, Bool.not_true, Bool.not_false, Nat.reduceBEq, Nat.reduceLeDiff, nn_b, nn_s, nn_i, laws_markExportS_r]
    rw [List.drop_length, List.take_length] at iv
    rw [List.take_length]
    exact ⟨rfl, rfl, iv.done mkL_len (fun _ => rfl) ht hc⟩
  have hlt : j < l.length := by simpa using hlt
  have htk := cntL_take DExport.cnt hlt
  have hle := cntL_le (c := DExport.cnt) DExport.cnt_nn hlt
  have hnn := cntL_nn (c := DExport.cnt) DExport.cnt_nn (l.take j)
  have hmt := mkL_take DExport.mk_ DExport.cnt hlt k
  rw [List.drop_eq_getElem_cons hlt] at iv
  obtain ⟨x, hx⟩ : ∃ x, x = l[j] := ⟨_, rfl⟩
  rw [← hx] at iv
  try rw [← hx] at htk hle
  try rw [← hx] at hmt
  obtain ⟨kj, hkj⟩ : ∃ kj, kj = k + cntL DExport.cnt (l.take j) := ⟨_, rfl⟩
  rw [← hkj] at hmt
  rw [← hkj]
  have hk0 : 0 ≤ kj := by omega
  have hkb : kj + DExport.cnt x ≤ 9223372036854775000 := by omega
  obtain ⟨h1, h2, cs, post, fx, fr, e1, e2, rfl, rfl, q1, q2⟩ := iv.open
  have hfx : ∀ c ∈ fx, c ≠ b := fun c hc e => hbf (by rw [iv.fps, ← e]; simp [hc])
  have ndx : fx.Nodup := (List.nodup_append.1 (List.nodup_append.1 (iv.fps ▸ (List.nodup_cons.1 nd).2)).2.1).1
  have hn0 : as1.length = j * 3 := by rw [iv.o1.len, flat_len' (sz := 3) (fun y _ => rfl), mkL_len, List.length_take, Nat.min_eq_left hj]
  have i0 : aIdxs 3 (.gs b g 0 l.length cap 3 ex) (j : Int) = some (.gp b g as1.length) := by rw [idx_gs hlt, hn0, Nat.zero_add]
  simp only [DExport.cnt] at hkb
  simp only [DExport.cd, ownL_c, ownL_n, own_i, own_b, own_s] at q1
  obtain ⟨_, _, _, _, rfl, e0z, ⟨rfl, rfl⟩, ⟨_, _, _, _, rfl, e1z, ⟨rfl, rfl⟩, ⟨_, _, _, _, rfl, e2z, ⟨rfl, rfl⟩, ⟨rfl, e3z⟩⟩⟩⟩ := q1
  have hfxe : fx = [] := by rw [e0z, e1z, e2z, e3z]; simp
  have ow : OwnL H' [] [] fx := by rw [hfxe]; exact .nil
  have hlen0 := (rfl : H'.length = H'.length)
  have fr0 : ∀ c, c ≠ b → c ∉ fx → H'[c]? = H'[c]? := fun _ _ _ => rfl
  have w0 : IntKind.i64.wrap (kj + 1) = kj + 1 := (wrap_nat (by omega) (by omega)).trans (by omega)
  have w1 : IntKind.i64.wrap (kj + 1 + 1) = kj + 2 := (wrap_nat (by omega) (by omega)).trans (by omega)
  have w2 : IntKind.i64.wrap (kj + 2 + 1) = kj + 3 := (wrap_nat (by omega) (by omega)).trans (by omega)
  obtain ⟨H0, hH0⟩ : ∃ H0, H0 = H' := ⟨_, rfl⟩
  rw [← hH0] at iv q2 ow fr0 hlen0
  have fr0 : ∀ c, c ≠ b → c ∉ fx → H'[c]? = H0[c]? := fun _ _ _ => by rw [hH0]
  have hlen0 : H'.length = H0.length := by rw [hH0]
  rw [hH0] at ow
  replace e1 : H' = h1 ++ some (g, as1 ++ elc [.int .i64 x.pos, .int .i64 x.entity, .int .i64 x.count] (post ++ tail)) :: h2 := e1
  subst e1
  simp only [EV, EL, EB, EF, EM, q_bx, if_true, if_false, Bool.false_eq_true, Nat.reduceAdd, Option.bind_some, Bool.not_true, Bool.not_false, Nat.reduceBEq, Nat.reduceLeDiff, nn_b, nn_s, nn_i, laws_markExportS_r, i0, st_el e2 rfl, rd_el e2 rfl, w0, w1, w2]
  refine ⟨(j + 1, _, as1 ++ [.int .i64 (kj), .int .i64 (kj + 1), .int .i64 (kj + 2)], post, f1 ++ [], fr), ⟨hlt, ?inv⟩, (by simp only; omega), ⟨?le, rfl, rfl⟩⟩
  case inv =>
    simp only; rw [hmt]
    subst hfxe
    exact iv.next (y := DExport.mk_ x kj) nd q2 (by rw [← hlen0]; (try simp)) (hget_at e2) (fun c h1 h2 => (at_ne e2 h1).trans (fr0 c h1 h2)) (.i (.i (.i .nil)))
  case le =>
    have hfin : k + cntL DExport.cnt (l.take (j + 1)) = kj + 3 := by rw [htk]; simp only [DExport.cnt]; omega
    rw [hfin, wN (by omega)]; (try simp [laws_markExportS_s0, LeL, LeV])
theorem laws_markQuestionS_T (l : List DQuestion) (k : Int) (hk : 0 ≤ k) (hb : k + cntL DQuestion.cnt l ≤ 9223372036854775000) (hl : l.length ≤ 1073741824) (H : AH) {a : AV} {fp : List Nat} (o : Own H a (.sl 2 (l.map DQuestion.cd)) fp) (nd : fp.Nodup) :
    T Tryz.prog Γ Fn.laws_markQuestionS [a, .int .i64 k] H fun v h' => v = .int .i64 (k + cntL DQuestion.cnt l) ∧ (h'.length = H.length ∧ (∀ c, c ∉ fp → h'[c]? = H[c]?) ∧ Own h' a (.sl 2 ((mkL DQuestion.mk_ DQuestion.cnt l k).map DQuestion.cd)) fp) := by
  rcases o.sl_inv with ⟨rfl, e, rfl⟩ | ⟨b, g, cap, ex, as0, tail, fp, rfl, rfl, hg, hsz, ht, hc, hown⟩
  · have e : l = [] := by simpa using e
    subst e
    have L0 : lenI false .nils = some (.int .i64 0) := rfl
    refine laws_markQuestionS_e (aw_sound tabOK mixed [] _ _ _ ?_)
    unfold laws_markQuestionS_c
    simp only [EV, EL, EB, EF, EM, q_bx, if_true, if_false, Bool.false_eq_true, Nat.reduceAdd, Option.bind_some, Bool.not_true, Bool.not_false, Nat.reduceBEq, Nat.reduceLeDiff, nn_b, nn_s, nn_i, laws_markQuestionS_r]
    refine loopI tabOK mixed [] (fun _ : Unit => True) (fun _ => 0) (fun _ => laws_markQuestionS_s0 .nils (.int .i64 k) (.int .i64 0) [] H) () trivial ⟨by simp [laws_markQuestionS_s0, LeL, LeV], rfl, rfl⟩ ?_
    intro _ _
    simp only [EV, EL, EB, EF, EM, q_bx, if_true, if_false, Bool.false_eq_true, Nat.reduceAdd, Option.bind_some, Bool.not_true, Bool.not_false, Nat.reduceBEq, Nat.reduceLeDiff, nn_b, nn_s, nn_i, laws_markQuestionS_r, laws_markQuestionS_s0, L0, show decide ((0 : Int) < 0) = false from rfl]
    refine ⟨rfl, by simp [cntL], ?_⟩
    first | exact ⟨rfl, fun _ _ => rfl, .nil _⟩ | exact ⟨fun _ _ => trivial, .nil _⟩
  simp only [List.length_map] at hc o ⊢
  have L0 : lenI false (.gs b g 0 l.length cap 2 ex) = some (.int .i64 l.length) := rfl
  have hbf : b ∉ fp := (List.nodup_cons.1 nd).1
  refine laws_markQuestionS_e (aw_sound tabOK mixed [] _ _ _ ?_)
  unfold laws_markQuestionS_c
  simp only [EV, EL, EB, EF, EM, q_bx, if_true, if_false, Bool.false_eq_true, Nat.reduceAdd, Option.bind_some, Bool.not_true, Bool.not_false, Nat.reduceBEq, Nat.reduceLeDiff, nn_b, nn_s, nn_i, laws_markQuestionS_r]
  refine loopI tabOK mixed [] (fun y : Nat × AH × List AV × List AV × List Nat × List Nat => y.1 ≤ l.length ∧ MInv H b g tail fp DQuestion.cd (l.drop y.1) (mkL DQuestion.mk_ DQuestion.cnt (l.take y.1) k) y.2.1 y.2.2.1 y.2.2.2.1 y.2.2.2.2.1 y.2.2.2.2.2) (fun y => l.length - y.1)
    (fun y => laws_markQuestionS_s0 (.gs b g 0 l.length cap 2 ex) (.int .i64 (k + cntL DQuestion.cnt (l.take y.1))) (.int .i64 y.1) [] y.2.1) (0, H, [], as0, [], fp) ⟨by simp, by simpa [mkL] using MInv.start hg hown⟩ ⟨by simp [laws_markQuestionS_s0, LeL, LeV, cntL], rfl, rfl⟩ ?_
  rintro ⟨j, H', as1, as2, f1, f2⟩ ⟨hj, iv⟩
  simp only at hj iv
  simp only [EV, EL, EB, EF, EM, q_bx, if_true, if_false, Bool.false_eq_true, Nat.reduceAdd, Option.bind_some, Bool.not_true, Bool.not_false, Nat.reduceBEq, Nat.reduceLeDiff, nn_b, nn_s, nn_i, laws_markQuestionS_r, laws_markQuestionS_s0, L0]
  refine c_split (fun hlt => ?_) (fun hge => ?_)
  rotate_left
  · have hge : j = l.length := by simp at hge; omega
    subst hge
    simp only [EV, EL, EB, EF, EM, q_bx, if_true, if_false, Bool.false_eq_true, Nat.reduceAdd, Option.bind_some, Bool.not_true, Bool.not_false, Nat.reduceBEq, Nat.reduceLeDiff, nn_b, nn_s, nn_i, laws_markQuestionS_r]
    rw [List.drop_length, List.take_length] at iv
    rw [List.take_length]
    exact ⟨rfl, rfl, iv.done mkL_len (fun _ => rfl) ht hc⟩
  have hlt : j < l.length := by simpa using hlt
  have htk := cntL_take DQuestion.cnt hlt
  have hle := cntL_le (c := DQuestion.cnt) DQuestion.cnt_nn hlt
  have hnn := cntL_nn (c := DQuestion.cnt) DQuestion.cnt_nn (l.take j)
  have hmt := mkL_take DQuestion.mk_ DQuestion.cnt hlt k
  rw [List.drop_eq_getElem_cons hlt] at iv
  obtain ⟨x, hx⟩ : ∃ x, x = l[j] := ⟨_, rfl⟩
  rw [← hx] at iv
  try rw [← hx] at htk hle
  try rw [← hx] at hmt
  obtain ⟨kj, hkj⟩ : ∃ kj, kj = k + cntL DQuestion.cnt (l.take j) := ⟨_, rfl⟩
  rw [← hkj] at hmt
  rw [← hkj]
  have hk0 : 0 ≤ kj := by omega
  have hkb : kj + DQuestion.cnt x ≤ 9223372036854775000 := by omega
  obtain ⟨h1, h2, cs, post, fx, fr, e1, e2, rfl, rfl, q1, q2⟩ := iv.open
  have hfx : ∀ c ∈ fx, c ≠ b := fun c hc e => hbf (by rw [iv.fps, ← e]; simp [hc])
  have ndx : fx.Nodup := (List.nodup_append.1 (List.nodup_append.1 (iv.fps ▸ (List.nodup_cons.1 nd).2)).2.1).1
  have hn0 : as1.length = j * 2 := by rw [iv.o1.len, flat_len' (sz := 2) (fun y _ => rfl), mkL_len, List.length_take, Nat.min_eq_left hj]
  have i0 : aIdxs 2 (.gs b g 0 l.length cap 2 ex) (j : Int) = some (.gp b g as1.length) := by rw [idx_gs hlt, hn0, Nat.zero_add]
  simp only [DQuestion.cnt] at hkb
  simp only [DQuestion.cd, ownL_c, ownL_n, own_i, own_b, own_s] at q1
  obtain ⟨_, _, _, _, rfl, e0z, ⟨rfl, rfl⟩, ⟨_, _, _, _, rfl, e1z, ⟨rfl, rfl⟩, ⟨rfl, e2z⟩⟩⟩ := q1
  have hfxe : fx = [] := by rw [e0z, e1z, e2z]; simp
  have ow : OwnL H' [] [] fx := by rw [hfxe]; exact .nil
  have hlen0 := (rfl : H'.length = H'.length)
  have fr0 : ∀ c, c ≠ b → c ∉ fx → H'[c]? = H'[c]? := fun _ _ _ => rfl
  have w0 : IntKind.i64.wrap (kj + 1) = kj + 1 := (wrap_nat (by omega) (by omega)).trans (by omega)
  have w1 : IntKind.i64.wrap (kj + 1 + 1) = kj + 2 := (wrap_nat (by omega) (by omega)).trans (by omega)
  obtain ⟨H0, hH0⟩ : ∃ H0, H0 = H' := ⟨_, rfl⟩
  rw [← hH0] at iv q2 ow fr0 hlen0
  have fr0 : ∀ c, c ≠ b → c ∉ fx → H'[c]? = H0[c]? := fun _ _ _ => by rw [hH0]
  have hlen0 : H'.length = H0.length := by rw [hH0]
  rw [hH0] at ow
  replace e1 : H' = h1 ++ some (g, as1 ++ elc [.int .i64 x.id, .int .i64 x.promise] (post ++ tail)) :: h2 := e1
  subst e1
  simp only [EV, EL, EB, EF, EM, q_bx, if_true, if_false, Bool.false_eq_true, Nat.reduceAdd, Option.bind_some, Bool.not_true, Bool.not_false, Nat.reduceBEq, Nat.reduceLeDiff, nn_b, nn_s, nn_i, laws_markQuestionS_r, i0, st_el e2 rfl, rd_el e2 rfl, w0, w1]
  refine ⟨(j + 1, _, as1 ++ [.int .i64 (kj), .int .i64 (kj + 1)], post, f1 ++ [], fr), ⟨hlt, ?inv⟩, (by simp only; omega), ⟨?le, rfl, rfl⟩⟩
  case inv =>
    simp only; rw [hmt]
    subst hfxe
    exact iv.next (y := DQuestion.mk_ x kj) nd q2 (by rw [← hlen0]; (try simp)) (hget_at e2) (fun c h1 h2 => (at_ne e2 h1).trans (fr0 c h1 h2)) (.i (.i .nil))
  case le =>
    have hfin : k + cntL DQuestion.cnt (l.take (j + 1)) = kj + 2 := by rw [htk]; simp only [DQuestion.cnt]; omega
    rw [hfin, wN (by omega)]; (try simp [laws_markQuestionS_s0, LeL, LeV])
theorem laws_markLinkS_T (l : List DLink) (k : Int) (hk : 0 ≤ k) (hb : k + cntL DLink.cnt l ≤ 9223372036854775000) (hl : l.length ≤ 1073741824) (ho : ∀ x ∈ l, x.ok 1073741824) (H : AH) {a : AV} {fp : List Nat} (o : Own H a (.sl 7 (l.map DLink.cd)) fp) (nd : fp.Nodup) :
    T Tryz.prog Γ Fn.laws_markLinkS [a, .int .i64 k] H fun v h' => v = .int .i64 (k + cntL DLink.cnt l) ∧ (h'.length = H.length ∧ (∀ c, c ∉ fp → h'[c]? = H[c]?) ∧ Own h' a (.sl 7 ((mkL DLink.mk_ DLink.cnt l k).map DLink.cd)) fp) := by
  rcases o.sl_inv with ⟨rfl, e, rfl⟩ | ⟨b, g, cap, ex, as0, tail, fp, rfl, rfl, hg, hsz, ht, hc, hown⟩
  · have e : l = [] := by simpa using e
    subst e
    have L0 : lenI false .nils = some (.int .i64 0) := rfl
    refine laws_markLinkS_e (aw_sound tabOK mixed [] _ _ _ ?_)
    unfold laws_markLinkS_c
    simp only [EV, EL, EB, EF, EM, q_bx, if_true, if_false, Bool.false_eq_true, Nat.reduceAdd, Option.bind_some, Bool.not_true, Bool.not_false, Nat.reduceBEq, Nat.reduceLeDiff, nn_b, nn_s, nn_i, laws_markLinkS_r]
    refine loopI tabOK mixed [] (fun _ : Unit => True) (fun _ => 0) (fun _ => laws_markLinkS_s0 .nils (.int .i64 k) (.int .i64 0) [] H) () trivial ⟨by simp [laws_markLinkS_s0, LeL, LeV], rfl, rfl⟩ ?_
    intro _ _
    simp only [EV, EL, EB, EF, EM, q_bx, if_true, if_false, Bool.false_eq_true, Nat.reduceAdd, Option.bind_some, Bool.not_true, Bool.not_false, Nat.reduceBEq, Nat.reduceLeDiff, nn_b, nn_s, nn_i, laws_markLinkS_r, laws_markLinkS_s0, L0, show decide ((0 : Int) < 0) = false from rfl]
    refine ⟨rfl, by simp [cntL], ?_⟩
    first | exact ⟨rfl, fun _ _ => rfl, .nil _⟩ | exact ⟨fun _ _ => trivial, .nil _⟩
  simp only [List.length_map] at hc o ⊢
  have L0 : lenI false (.gs b g 0 l.length cap 7 ex) = some (.int .i64 l.length) := rfl
  have hbf : b ∉ fp := (List.nodup_cons.1 nd).1
  refine laws_markLinkS_e (aw_sound tabOK mixed [] _ _ _ ?_)
  unfold laws_markLinkS_c
  simp only [EV, EL, EB, EF, EM, q_bx, if_true, if_false, Bool.false_eq_true, Nat.reduceAdd, Option.bind_some, Bool.not_true, Bool.not_false, Nat.reduceBEq, Nat.reduceLeDiff, nn_b, nn_s, nn_i, laws_markLinkS_r]
  refine loopI tabOK mixed [] (fun y : Nat × AH × List AV × List AV × List Nat × List Nat => y.1 ≤ l.length ∧ MInv H b g tail fp DLink.cd (l.drop y.1) (mkL DLink.mk_ DLink.cnt (l.take y.1) k) y.2.1 y.2.2.1 y.2.2.2.1 y.2.2.2.2.1 y.2.2.2.2.2) (fun y => l.length - y.1)
    (fun y => laws_markLinkS_s0 (.gs b g 0 l.length cap 7 ex) (.int .i64 (k + cntL DLink.cnt (l.take y.1))) (.int .i64 y.1) [] y.2.1) (0, H, [], as0, [], fp) ⟨by simp, by simpa [mkL] using MInv.start hg hown⟩ ⟨by simp [laws_markLinkS_s0, LeL, LeV, cntL], rfl, rfl⟩ ?_
  rintro ⟨j, H', as1, as2, f1, f2⟩ ⟨hj, iv⟩
  simp only at hj iv
  simp only [EV, EL, EB, EF, EM, q_bx, if_true, if_false, Bool.false_eq_true, Nat.reduceAdd, Option.bind_some, Bool.not_true, Bool.not_false, Nat.reduceBEq, Nat.reduceLeDiff, nn_b, nn_s, nn_i, laws_markLinkS_r, laws_markLinkS_s0, L0]
  refine c_split (fun hlt => ?_) (fun hge => ?_)
  rotate_left
  · have hge : j = l.length := by simp at hge; omega
    subst hge
    simp only [EV, EL, EB, EF, EM, q_bx, if_true, if_false, Bool.false_eq_true, Nat.reduceAdd, Option.bind_some, Bool.not_true, Bool.not_false, Nat.reduceBEq, Nat.reduceLeDiff, nn_b, nn_s, nn_i, laws_markLinkS_r]
    rw [List.drop_length, List.take_length] at iv
    rw [List.take_length]
    exact ⟨rfl, rfl, iv.done mkL_len (fun _ => rfl) ht hc⟩
  have hlt : j < l.length := by simpa using hlt
  have htk := cntL_take DLink.cnt hlt
  have hle := cntL_le (c := DLink.cnt) DLink.cnt_nn hlt
  have hnn := cntL_nn (c := DLink.cnt) DLink.cnt_nn (l.take j)
  have hmt := mkL_take DLink.mk_ DLink.cnt hlt k
  rw [List.drop_eq_getElem_cons hlt] at iv
  obtain ⟨x, hx⟩ : ∃ x, x = l[j] := ⟨_, rfl⟩
  rw [← hx] at iv
  try rw [← hx] at htk hle
  try rw [← hx] at hmt
  obtain ⟨kj, hkj⟩ : ∃ kj, kj = k + cntL DLink.cnt (l.take j) := ⟨_, rfl⟩
  rw [← hkj] at hmt
  rw [← hkj]
  have hk0 : 0 ≤ kj := by omega
  have hkb : kj + DLink.cnt x ≤ 9223372036854775000 := by omega
  obtain ⟨h1, h2, cs, post, fx, fr, e1, e2, rfl, rfl, q1, q2⟩ := iv.open
  have hfx : ∀ c ∈ fx, c ≠ b := fun c hc e => hbf (by rw [iv.fps, ← e]; simp [hc])
  have ndx : fx.Nodup := (List.nodup_append.1 (List.nodup_append.1 (iv.fps ▸ (List.nodup_cons.1 nd).2)).2.1).1
  have hn0 : as1.length = j * 7 := by rw [iv.o1.len, flat_len' (sz := 7) (fun y _ => rfl), mkL_len, List.length_take, Nat.min_eq_left hj]
  have i0 : aIdxs 7 (.gs b g 0 l.length cap 7 ex) (j : Int) = some (.gp b g as1.length) := by rw [idx_gs hlt, hn0, Nat.zero_add]
  have z0 := cntL_nn (c := DExport.cnt) DExport.cnt_nn x.exports
  have z1 := cntL_nn (c := DQuestion.cnt) DQuestion.cnt_nn x.questions
  have z2 := cntL_nn (c := DQuestion.cnt) DQuestion.cnt_nn x.answers
  simp only [DLink.cnt] at hkb
  have hox := ho _ (List.getElem_mem hlt); rw [← hx] at hox
  simp only [DLink.cd, ownL_c, ownL_n, own_i, own_b, own_s] at q1
  obtain ⟨_, _, _, _, rfl, e0z, ⟨rfl, rfl⟩, ⟨_, _, _, _, rfl, e1z, ⟨rfl, rfl⟩, ⟨a2, _, g2, _, rfl, e2z, u2, ⟨_, _, _, _, rfl, e3z, ⟨rfl, rfl⟩, ⟨a4, _, g4, _, rfl, e4z, u4, ⟨_, _, _, _, rfl, e5z, ⟨rfl, rfl⟩, ⟨a6, _, g6, _, rfl, e6z, u6, ⟨rfl, e7z⟩⟩⟩⟩⟩⟩⟩⟩ := q1
  have hfxe : fx = (g2 ++ (g4 ++ (g6 ++ []))) := by rw [e0z, e1z, e2z, e3z, e4z, e5z, e6z, e7z]; simp
  have ow : OwnL H' [a2, a4, a6] [.sl 3 (x.exports.map DExport.cd), .sl 2 (x.questions.map DQuestion.cd), .sl 2 (x.answers.map DQuestion.cd)] fx := by rw [hfxe]; exact (.o u2 (.o u4 (.o u6 .nil)))
  obtain ⟨c2a, c2b, c2c, c2d⟩ := u2.cell
  obtain ⟨c4a, c4b, c4c, c4d⟩ := u4.cell
  obtain ⟨c6a, c6b, c6c, c6d⟩ := u6.cell
  have hlen0 := (rfl : H'.length = H'.length)
  have fr0 : ∀ c, c ≠ b → c ∉ fx → H'[c]? = H'[c]? := fun _ _ _ => rfl
  have w0 : IntKind.i64.wrap (kj + 1) = kj + 1 := (wrap_nat (by omega) (by omega)).trans (by omega)
  have w1 : IntKind.i64.wrap (kj + 1 + 1) = kj + 2 := (wrap_nat (by omega) (by omega)).trans (by omega)
  have m1 : aBin .rem .num (.int .i64 (kj + 1)) (.int .i64 3) = some (.int .i64 ((kj + 1) % 3)) := by simp only [aBin, aArith, if_true]; rw [if_neg (by decide), Int.tmod_eq_emod_of_nonneg (by omega)]
  have w3 : IntKind.i64.wrap (kj + 2 + cntL DExport.cnt x.exports + 1) = kj + 3 + cntL DExport.cnt x.exports := (wrap_nat (by omega) (by omega)).trans (by omega)
  have w5 : IntKind.i64.wrap (kj + 3 + cntL DExport.cnt x.exports + cntL DQuestion.cnt x.questions + 1) = kj + 4 + cntL DExport.cnt x.exports + cntL DQuestion.cnt x.questions := (wrap_nat (by omega) (by omega)).trans (by omega)
  obtain ⟨H0, hH0⟩ : ∃ H0, H0 = H' := ⟨_, rfl⟩
  rw [← hH0] at iv q2 ow fr0 hlen0
  have fr0 : ∀ c, c ≠ b → c ∉ fx → H'[c]? = H0[c]? := fun _ _ _ => by rw [hH0]
  have hlen0 : H'.length = H0.length := by rw [hH0]
  rw [hH0] at ow
  replace e1 : H' = h1 ++ some (g, as1 ++ elc [.int .i64 x.peer, .bool x.up, a2, .int .i64 x.next, a4, .int .i64 x.asked, a6] (post ++ tail)) :: h2 := e1
  subst e1
  simp only [EV, EL, EB, EF, EM, q_bx, if_true, if_false, Bool.false_eq_true, Nat.reduceAdd, Option.bind_some, Bool.not_true, Bool.not_false, Nat.reduceBEq, Nat.reduceLeDiff, nn_b, nn_s, nn_i, laws_markLinkS_r, i0, st_el e2 rfl, rd_el e2 rfl, w0, w1, m1, beq_dec, w3, w5, c2a, c2b, c2c, c4a, c4b, c4c, c6a, c6b, c6c]
  obtain ⟨gi1, oi1, ni1, si1, bk1⟩ := OwnL.pick (A := []) (D := []) rfl (ow.frame fun c hc => at_ne e2 (hfx c hc)) ndx
  refine TCall.ref (by simp only [EO, c2d]) (laws_markExportS_T x.exports (kj + 2) (by omega) (by omega) (hox.1) _ oi1 ni1) ?_
  rintro _ hn ⟨rfl, hlen1, hfr1, un1⟩
  replace ow := bk1 hn _ hfr1 un1
  have fr1 : ∀ c, c ≠ b → c ∉ fx → hn[c]? = H0[c]? := fun c h1 h2 => (hfr1 c (fun h => h2 (si1 c h))).trans ((at_ne e2 h1).trans (fr0 c h1 h2))
  have hlen1 : hn.length = H0.length := by rw [hlen1]; (try rw [← hlen0]); (try simp)
  obtain ⟨p1, r1, rfl, eh1⟩ := heap_at (frame_hget (hget_at e2) (hfr1 b (fun h => hfx b (si1 b h) rfl)))
  simp only [EV, EL, EB, EF, EM, q_bx, if_true, if_false, Bool.false_eq_true, Nat.reduceAdd, Option.bind_some, Bool.not_true, Bool.not_false, Nat.reduceBEq, Nat.reduceLeDiff, nn_b, nn_s, nn_i, laws_markLinkS_r, i0, st_el eh1 rfl, rd_el eh1 rfl, w0, w1, m1, beq_dec, w3, w5, c2a, c2b, c2c, c4a, c4b, c4c, c6a, c6b, c6c]
  obtain ⟨gi2, oi2, ni2, si2, bk2⟩ := OwnL.pick (A := [a2]) (D := [_]) rfl (ow.frame fun c hc => at_ne eh1 (hfx c hc)) ndx
  refine TCall.ref (by simp only [EO, c4d]) (laws_markQuestionS_T x.questions (kj + 3 + cntL DExport.cnt x.exports) (by omega) (by omega) (hox.2.1) _ oi2 ni2) ?_
  rintro _ hn ⟨rfl, hlen2, hfr2, un2⟩
  replace ow := bk2 hn _ hfr2 un2
  have fr2 : ∀ c, c ≠ b → c ∉ fx → hn[c]? = H0[c]? := fun c h1 h2 => (hfr2 c (fun h => h2 (si2 c h))).trans ((at_ne eh1 h1).trans (fr1 c h1 h2))
  have hlen2 : hn.length = H0.length := by rw [hlen2]; (try rw [← hlen1]); (try simp)
  obtain ⟨p2, r2, rfl, eh2⟩ := heap_at (frame_hget (hget_at eh1) (hfr2 b (fun h => hfx b (si2 b h) rfl)))
  simp only [EV, EL, EB, EF, EM, q_bx, if_true, if_false, Bool.false_eq_true, Nat.reduceAdd, Option.bind_some, Bool.not_true, Bool.not_false, Nat.reduceBEq, Nat.reduceLeDiff, nn_b, nn_s, nn_i, laws_markLinkS_r, i0, st_el eh2 rfl, rd_el eh2 rfl, w0, w1, m1, beq_dec, w3, w5, c2a, c2b, c2c, c4a, c4b, c4c, c6a, c6b, c6c]
  obtain ⟨gi3, oi3, ni3, si3, bk3⟩ := OwnL.pick (A := [a2, a4]) (D := [_, _]) rfl (ow.frame fun c hc => at_ne eh2 (hfx c hc)) ndx
  refine TCall.ref (by simp only [EO, c6d]) (laws_markQuestionS_T x.answers (kj + 4 + cntL DExport.cnt x.exports + cntL DQuestion.cnt x.questions) (by omega) (by omega) (hox.2.2) _ oi3 ni3) ?_
  rintro _ hn ⟨rfl, hlen3, hfr3, un3⟩
  replace ow := bk3 hn _ hfr3 un3
  have fr3 : ∀ c, c ≠ b → c ∉ fx → hn[c]? = H0[c]? := fun c h1 h2 => (hfr3 c (fun h => h2 (si3 c h))).trans ((at_ne eh2 h1).trans (fr2 c h1 h2))
  have hlen3 : hn.length = H0.length := by rw [hlen3]; (try rw [← hlen2]); (try simp)
  obtain ⟨p3, r3, rfl, eh3⟩ := heap_at (frame_hget (hget_at eh2) (hfr3 b (fun h => hfx b (si3 b h) rfl)))
  simp only [EV, EL, EB, EF, EM, q_bx, if_true, if_false, Bool.false_eq_true, Nat.reduceAdd, Option.bind_some, Bool.not_true, Bool.not_false, Nat.reduceBEq, Nat.reduceLeDiff, nn_b, nn_s, nn_i, laws_markLinkS_r, i0, st_el eh3 rfl, rd_el eh3 rfl, w0, w1, m1, beq_dec, w3, w5, c2a, c2b, c2c, c4a, c4b, c4c, c6a, c6b, c6c]
  refine ⟨(j + 1, _, as1 ++ [.int .i64 (kj), .bool (decide ((kj + 1) % 3 = 0)), a2, .int .i64 (kj + 2 + cntL DExport.cnt x.exports), a4, .int .i64 (kj + 3 + cntL DExport.cnt x.exports + cntL DQuestion.cnt x.questions), a6], post, f1 ++ fx, fr), ⟨hlt, ?inv⟩, (by simp only; omega), ⟨?le, rfl, rfl⟩⟩
  case inv =>
    simp only; rw [hmt]
    replace ow := ow.frame fun c hc => at_ne (x := some (g, as1 ++ elc [.int .i64 (kj), .bool (decide ((kj + 1) % 3 = 0)), a2, .int .i64 (kj + 2 + cntL DExport.cnt x.exports), a4, .int .i64 (kj + 3 + cntL DExport.cnt x.exports + cntL DQuestion.cnt x.questions), a6] (post ++ tail))) eh3 (hfx c hc)
    obtain ⟨F0, R0, E0, O0, ⟨F1, R1, E1, O1, ⟨F2, R2, E2, O2, hz⟩⟩⟩ := ow
    have hz : R2 = [] := hz
    refine iv.next (y := DLink.mk_ x kj) nd q2 (by rw [← hlen3]; (try simp)) (hget_at eh3) (fun c h1 h2 => (at_ne eh3 h1).trans (fr3 c h1 h2)) ?_
    rw [E0, E1, E2, hz]; exact (.i (.b (.o O0 (.i (.o O1 (.i (.o O2 .nil)))))))
  case le =>
    have hfin : k + cntL DLink.cnt (l.take (j + 1)) = kj + 4 + cntL DExport.cnt x.exports + cntL DQuestion.cnt x.questions + cntL DQuestion.cnt x.answers := by rw [htk]; simp only [DLink.cnt]; omega
    rw [hfin, wN (by omega)]; (try simp [laws_markLinkS_s0, LeL, LeV])
theorem laws_markWireS_T (l : List DWire) (k : Int) (hk : 0 ≤ k) (hb : k + cntL DWire.cnt l ≤ 9223372036854775000) (hl : l.length ≤ 1073741824) (H : AH) {a : AV} {fp : List Nat} (o : Own H a (.sl 2 (l.map DWire.cd)) fp) (nd : fp.Nodup) :
    T Tryz.prog Γ Fn.laws_markWireS [a, .int .i64 k] H fun v h' => v = .int .i64 (k + cntL DWire.cnt l) ∧ (h'.length = H.length ∧ (∀ c, c ∉ fp → h'[c]? = H[c]?) ∧ Own h' a (.sl 2 ((mkL DWire.mk_ DWire.cnt l k).map DWire.cd)) fp) := by
  rcases o.sl_inv with ⟨rfl, e, rfl⟩ | ⟨b, g, cap, ex, as0, tail, fp, rfl, rfl, hg, hsz, ht, hc, hown⟩
  · have e : l = [] := by simpa using e
    subst e
    have L0 : lenI false .nils = some (.int .i64 0) := rfl
    refine laws_markWireS_e (aw_sound tabOK mixed [] _ _ _ ?_)
    unfold laws_markWireS_c
    simp only [EV, EL, EB, EF, EM, q_bx, if_true, if_false, Bool.false_eq_true, Nat.reduceAdd, Option.bind_some, Bool.not_true, Bool.not_false, Nat.reduceBEq, Nat.reduceLeDiff, nn_b, nn_s, nn_i, laws_markWireS_r]
    refine loopI tabOK mixed [] (fun _ : Unit => True) (fun _ => 0) (fun _ => laws_markWireS_s0 .nils (.int .i64 k) (.int .i64 0) [] H) () trivial ⟨by simp [laws_markWireS_s0, LeL, LeV], rfl, rfl⟩ ?_
    intro _ _
    simp only [EV, EL, EB, EF, EM, q_bx, if_true, if_false, Bool.false_eq_true, Nat.reduceAdd, Option.bind_some, Bool.not_true, Bool.not_false, Nat.reduceBEq, Nat.reduceLeDiff, nn_b, nn_s, nn_i, laws_markWireS_r, laws_markWireS_s0, L0, show decide ((0 : Int) < 0) = false from rfl]
    refine ⟨rfl, by simp [cntL], ?_⟩
    first | exact ⟨rfl, fun _ _ => rfl, .nil _⟩ | exact ⟨fun _ _ => trivial, .nil _⟩
  simp only [List.length_map] at hc o ⊢
  have L0 : lenI false (.gs b g 0 l.length cap 2 ex) = some (.int .i64 l.length) := rfl
  have hbf : b ∉ fp := (List.nodup_cons.1 nd).1
  refine laws_markWireS_e (aw_sound tabOK mixed [] _ _ _ ?_)
  unfold laws_markWireS_c
  simp only [EV, EL, EB, EF, EM, q_bx, if_true, if_false, Bool.false_eq_true, Nat.reduceAdd, Option.bind_some, Bool.not_true, Bool.not_false, Nat.reduceBEq, Nat.reduceLeDiff, nn_b, nn_s, nn_i, laws_markWireS_r]
  refine loopI tabOK mixed [] (fun y : Nat × AH × List AV × List AV × List Nat × List Nat => y.1 ≤ l.length ∧ MInv H b g tail fp DWire.cd (l.drop y.1) (mkL DWire.mk_ DWire.cnt (l.take y.1) k) y.2.1 y.2.2.1 y.2.2.2.1 y.2.2.2.2.1 y.2.2.2.2.2) (fun y => l.length - y.1)
    (fun y => laws_markWireS_s0 (.gs b g 0 l.length cap 2 ex) (.int .i64 (k + cntL DWire.cnt (l.take y.1))) (.int .i64 y.1) [] y.2.1) (0, H, [], as0, [], fp) ⟨by simp, by simpa [mkL] using MInv.start hg hown⟩ ⟨by simp [laws_markWireS_s0, LeL, LeV, cntL], rfl, rfl⟩ ?_
  rintro ⟨j, H', as1, as2, f1, f2⟩ ⟨hj, iv⟩
  simp only at hj iv
  simp only [EV, EL, EB, EF, EM, q_bx, if_true, if_false, Bool.false_eq_true, Nat.reduceAdd, Option.bind_some, Bool.not_true, Bool.not_false, Nat.reduceBEq, Nat.reduceLeDiff, nn_b, nn_s, nn_i, laws_markWireS_r, laws_markWireS_s0, L0]
  refine c_split (fun hlt => ?_) (fun hge => ?_)
  rotate_left
  · have hge : j = l.length := by simp at hge; omega
    subst hge
    simp only [EV, EL, EB, EF, EM, q_bx, if_true, if_false, Bool.false_eq_true, Nat.reduceAdd, Option.bind_some, Bool.not_true, Bool.not_false, Nat.reduceBEq, Nat.reduceLeDiff, nn_b, nn_s, nn_i, laws_markWireS_r]
    rw [List.drop_length, List.take_length] at iv
    rw [List.take_length]
    exact ⟨rfl, rfl, iv.done mkL_len (fun _ => rfl) ht hc⟩
  have hlt : j < l.length := by simpa using hlt
  have htk := cntL_take DWire.cnt hlt
  have hle := cntL_le (c := DWire.cnt) DWire.cnt_nn hlt
  have hnn := cntL_nn (c := DWire.cnt) DWire.cnt_nn (l.take j)
  have hmt := mkL_take DWire.mk_ DWire.cnt hlt k
  rw [List.drop_eq_getElem_cons hlt] at iv
  obtain ⟨x, hx⟩ : ∃ x, x = l[j] := ⟨_, rfl⟩
  rw [← hx] at iv
  try rw [← hx] at htk hle
  try rw [← hx] at hmt
  obtain ⟨kj, hkj⟩ : ∃ kj, kj = k + cntL DWire.cnt (l.take j) := ⟨_, rfl⟩
  rw [← hkj] at hmt
  rw [← hkj]
  have hk0 : 0 ≤ kj := by omega
  have hkb : kj + DWire.cnt x ≤ 9223372036854775000 := by omega
  obtain ⟨h1, h2, cs, post, fx, fr, e1, e2, rfl, rfl, q1, q2⟩ := iv.open
  have hfx : ∀ c ∈ fx, c ≠ b := fun c hc e => hbf (by rw [iv.fps, ← e]; simp [hc])
  have ndx : fx.Nodup := (List.nodup_append.1 (List.nodup_append.1 (iv.fps ▸ (List.nodup_cons.1 nd).2)).2.1).1
  have hn0 : as1.length = j * 2 := by rw [iv.o1.len, flat_len' (sz := 2) (fun y _ => rfl), mkL_len, List.length_take, Nat.min_eq_left hj]
  have i0 : aIdxs 2 (.gs b g 0 l.length cap 2 ex) (j : Int) = some (.gp b g as1.length) := by rw [idx_gs hlt, hn0, Nat.zero_add]
  simp only [DWire.cnt] at hkb
  simp only [DWire.cd, ownL_c, ownL_n, own_i, own_b, own_s] at q1
  obtain ⟨_, _, _, _, rfl, e0z, ⟨rfl, rfl⟩, ⟨_, _, _, _, rfl, e1z, ⟨rfl, rfl⟩, ⟨rfl, e2z⟩⟩⟩ := q1
  have hfxe : fx = [] := by rw [e0z, e1z, e2z]; simp
  have ow : OwnL H' [] [] fx := by rw [hfxe]; exact .nil
  have hlen0 := (rfl : H'.length = H'.length)
  have fr0 : ∀ c, c ≠ b → c ∉ fx → H'[c]? = H'[c]? := fun _ _ _ => rfl
  have w0 : IntKind.i64.wrap (kj + 1) = kj + 1 := (wrap_nat (by omega) (by omega)).trans (by omega)
  have w1 : IntKind.i64.wrap (kj + 1 + 1) = kj + 2 := (wrap_nat (by omega) (by omega)).trans (by omega)
  obtain ⟨H0, hH0⟩ : ∃ H0, H0 = H' := ⟨_, rfl⟩
  rw [← hH0] at iv q2 ow fr0 hlen0
  have fr0 : ∀ c, c ≠ b → c ∉ fx → H'[c]? = H0[c]? := fun _ _ _ => by rw [hH0]
  have hlen0 : H'.length = H0.length := by rw [hH0]
  rw [hH0] at ow
  replace e1 : H' = h1 ++ some (g, as1 ++ elc [.int .i64 x.kind, .int .i64 x.n] (post ++ tail)) :: h2 := e1
  subst e1
  simp only [EV, EL, EB, EF, EM, q_bx, if_true, if_false, Bool.false_eq_true, Nat.reduceAdd, Option.bind_some, Bool.not_true, Bool.not_false, Nat.reduceBEq, Nat.reduceLeDiff, nn_b, nn_s, nn_i, laws_markWireS_r, i0, st_el e2 rfl, rd_el e2 rfl, w0, w1]
  refine ⟨(j + 1, _, as1 ++ [.int .i64 (kj), .int .i64 (kj + 1)], post, f1 ++ [], fr), ⟨hlt, ?inv⟩, (by simp only; omega), ⟨?le, rfl, rfl⟩⟩
  case inv =>
    simp only; rw [hmt]
    subst hfxe
    exact iv.next (y := DWire.mk_ x kj) nd q2 (by rw [← hlen0]; (try simp)) (hget_at e2) (fun c h1 h2 => (at_ne e2 h1).trans (fr0 c h1 h2)) (.i (.i .nil))
  case le =>
    have hfin : k + cntL DWire.cnt (l.take (j + 1)) = kj + 2 := by rw [htk]; simp only [DWire.cnt]; omega
    rw [hfin, wN (by omega)]; (try simp [laws_markWireS_s0, LeL, LeV])
theorem laws_markOutgoingS_T (l : List DOutgoing) (k : Int) (hk : 0 ≤ k) (hb : k + cntL DOutgoing.cnt l ≤ 9223372036854775000) (hl : l.length ≤ 1073741824) (ho : ∀ x ∈ l, x.ok 1073741824) (H : AH) {a : AV} {fp : List Nat} (o : Own H a (.sl 13 (l.map DOutgoing.cd)) fp) (nd : fp.Nodup) :
    T Tryz.prog Γ Fn.laws_markOutgoingS [a, .int .i64 k] H fun v h' => v = .int .i64 (k + cntL DOutgoing.cnt l) ∧ (h'.length = H.length ∧ (∀ c, c ∉ fp → h'[c]? = H[c]?) ∧ Own h' a (.sl 13 ((mkL DOutgoing.mk_ DOutgoing.cnt l k).map DOutgoing.cd)) fp) := by
  rcases o.sl_inv with ⟨rfl, e, rfl⟩ | ⟨b, g, cap, ex, as0, tail, fp, rfl, rfl, hg, hsz, ht, hc, hown⟩
  · have e : l = [] := by simpa using e
    subst e
    have L0 : lenI false .nils = some (.int .i64 0) := rfl
    refine laws_markOutgoingS_e (aw_sound tabOK mixed [] _ _ _ ?_)
    unfold laws_markOutgoingS_c
    simp only [EV, EL, EB, EF, EM, q_bx, if_true, if_false, Bool.false_eq_true, Nat.reduceAdd, Option.bind_some, Bool.not_true, Bool.not_false, Nat.reduceBEq, Nat.reduceLeDiff, nn_b, nn_s, nn_i, laws_markOutgoingS_r]
    refine loopI tabOK mixed [] (fun _ : Unit => True) (fun _ => 0) (fun _ => laws_markOutgoingS_s0 .nils (.int .i64 k) (.int .i64 0) [] H) () trivial ⟨by simp [laws_markOutgoingS_s0, LeL, LeV], rfl, rfl⟩ ?_
    intro _ _
    simp only [EV, EL, EB, EF, EM, q_bx, if_true, if_false, Bool.false_eq_true, Nat.reduceAdd, Option.bind_some, Bool.not_true, Bool.not_false, Nat.reduceBEq, Nat.reduceLeDiff, nn_b, nn_s, nn_i, laws_markOutgoingS_r, laws_markOutgoingS_s0, L0, show decide ((0 : Int) < 0) = false from rfl]
    refine ⟨rfl, by simp [cntL], ?_⟩
    first | exact ⟨rfl, fun _ _ => rfl, .nil _⟩ | exact ⟨fun _ _ => trivial, .nil _⟩
  simp only [List.length_map] at hc o ⊢
  have L0 : lenI false (.gs b g 0 l.length cap 13 ex) = some (.int .i64 l.length) := rfl
  have hbf : b ∉ fp := (List.nodup_cons.1 nd).1
  refine laws_markOutgoingS_e (aw_sound tabOK mixed [] _ _ _ ?_)
  unfold laws_markOutgoingS_c
  simp only [EV, EL, EB, EF, EM, q_bx, if_true, if_false, Bool.false_eq_true, Nat.reduceAdd, Option.bind_some, Bool.not_true, Bool.not_false, Nat.reduceBEq, Nat.reduceLeDiff, nn_b, nn_s, nn_i, laws_markOutgoingS_r]
  refine loopI tabOK mixed [] (fun y : Nat × AH × List AV × List AV × List Nat × List Nat => y.1 ≤ l.length ∧ MInv H b g tail fp DOutgoing.cd (l.drop y.1) (mkL DOutgoing.mk_ DOutgoing.cnt (l.take y.1) k) y.2.1 y.2.2.1 y.2.2.2.1 y.2.2.2.2.1 y.2.2.2.2.2) (fun y => l.length - y.1)
    (fun y => laws_markOutgoingS_s0 (.gs b g 0 l.length cap 13 ex) (.int .i64 (k + cntL DOutgoing.cnt (l.take y.1))) (.int .i64 y.1) [] y.2.1) (0, H, [], as0, [], fp) ⟨by simp, by simpa [mkL] using MInv.start hg hown⟩ ⟨by simp [laws_markOutgoingS_s0, LeL, LeV, cntL], rfl, rfl⟩ ?_
  rintro ⟨j, H', as1, as2, f1, f2⟩ ⟨hj, iv⟩
  simp only at hj iv
  simp only [EV, EL, EB, EF, EM, q_bx, if_true, if_false, Bool.false_eq_true, Nat.reduceAdd, Option.bind_some, Bool.not_true, Bool.not_false, Nat.reduceBEq, Nat.reduceLeDiff, nn_b, nn_s, nn_i, laws_markOutgoingS_r, laws_markOutgoingS_s0, L0]
  refine c_split (fun hlt => ?_) (fun hge => ?_)
  rotate_left
  · have hge : j = l.length := by simp at hge; omega
    subst hge
    simp only [EV, EL, EB, EF, EM, q_bx, if_true, if_false, Bool.false_eq_true, Nat.reduceAdd, Option.bind_some, Bool.not_true, Bool.not_false, Nat.reduceBEq, Nat.reduceLeDiff, nn_b, nn_s, nn_i, laws_markOutgoingS_r]
    rw [List.drop_length, List.take_length] at iv
    rw [List.take_length]
    exact ⟨rfl, rfl, iv.done mkL_len (fun _ => rfl) ht hc⟩
  have hlt : j < l.length := by simpa using hlt
  have htk := cntL_take DOutgoing.cnt hlt
  have hle := cntL_le (c := DOutgoing.cnt) DOutgoing.cnt_nn hlt
  have hnn := cntL_nn (c := DOutgoing.cnt) DOutgoing.cnt_nn (l.take j)
  have hmt := mkL_take DOutgoing.mk_ DOutgoing.cnt hlt k
  rw [List.drop_eq_getElem_cons hlt] at iv
  obtain ⟨x, hx⟩ : ∃ x, x = l[j] := ⟨_, rfl⟩
  rw [← hx] at iv
  try rw [← hx] at htk hle
  try rw [← hx] at hmt
  obtain ⟨kj, hkj⟩ : ∃ kj, kj = k + cntL DOutgoing.cnt (l.take j) := ⟨_, rfl⟩
  rw [← hkj] at hmt
  rw [← hkj]
  have hk0 : 0 ≤ kj := by omega
  have hkb : kj + DOutgoing.cnt x ≤ 9223372036854775000 := by omega
  obtain ⟨h1, h2, cs, post, fx, fr, e1, e2, rfl, rfl, q1, q2⟩ := iv.open
  have hfx : ∀ c ∈ fx, c ≠ b := fun c hc e => hbf (by rw [iv.fps, ← e]; simp [hc])
  have ndx : fx.Nodup := (List.nodup_append.1 (List.nodup_append.1 (iv.fps ▸ (List.nodup_cons.1 nd).2)).2.1).1
  have hn0 : as1.length = j * 13 := by rw [iv.o1.len, flat_len' (sz := 13) (fun y _ => rfl), mkL_len, List.length_take, Nat.min_eq_left hj]
  have i0 : aIdxs 13 (.gs b g 0 l.length cap 13 ex) (j : Int) = some (.gp b g as1.length) := by rw [idx_gs hlt, hn0, Nat.zero_add]
  have z0 := cntL_nn (c := DWire.cnt) DWire.cnt_nn x.message.args
  simp only [DOutgoing.cnt] at hkb
  have hox := ho _ (List.getElem_mem hlt); rw [← hx] at hox
  simp only [DOutgoing.cd, ownL_c, ownL_n, own_i, own_b, own_s] at q1
  obtain ⟨_, _, _, _, rfl, e0z, ⟨rfl, rfl⟩, ⟨_, _, _, _, rfl, e1z, ⟨rfl, rfl⟩, ⟨_, _, _, _, rfl, e2z, ⟨rfl, rfl⟩, ⟨_, _, _, _, rfl, e3z, ⟨rfl, rfl⟩, ⟨_, _, _, _, rfl, e4z, ⟨rfl, rfl⟩, ⟨_, _, _, _, rfl, e5z, ⟨rfl, rfl⟩, ⟨a6, _, g6, _, rfl, e6z, u6, ⟨_, _, _, _, rfl, e7z, ⟨rfl, rfl⟩, ⟨_, _, _, _, rfl, e8z, ⟨rfl, rfl⟩, ⟨_, _, _, _, rfl, e9z, ⟨rfl, rfl⟩, ⟨_, _, _, _, rfl, e10z, ⟨rfl, rfl⟩, ⟨_, _, _, _, rfl, e11z, ⟨rfl, rfl⟩, ⟨_, _, _, _, rfl, e12z, ⟨rfl, rfl⟩, ⟨rfl, e13z⟩⟩⟩⟩⟩⟩⟩⟩⟩⟩⟩⟩⟩⟩ := q1
  have hfxe : fx = (g6 ++ []) := by rw [e0z, e1z, e2z, e3z, e4z, e5z, e6z, e7z, e8z, e9z, e10z, e11z, e12z, e13z]; simp
  have ow : OwnL H' [a6] [.sl 2 (x.message.args.map DWire.cd)] fx := by rw [hfxe]; exact (.o u6 .nil)
  obtain ⟨c6a, c6b, c6c, c6d⟩ := u6.cell
  have hlen0 := (rfl : H'.length = H'.length)
  have fr0 : ∀ c, c ≠ b → c ∉ fx → H'[c]? = H'[c]? := fun _ _ _ => rfl
  have w0 : IntKind.i64.wrap (kj + 1) = kj + 1 := (wrap_nat (by omega) (by omega)).trans (by omega)
  have w1 : IntKind.i64.wrap (kj + 1 + 1) = kj + 2 := (wrap_nat (by omega) (by omega)).trans (by omega)
  have w2 : IntKind.i64.wrap (kj + 2 + 1) = kj + 3 := (wrap_nat (by omega) (by omega)).trans (by omega)
  have w3 : IntKind.i64.wrap (kj + 3 + 1) = kj + 4 := (wrap_nat (by omega) (by omega)).trans (by omega)
  have w4 : IntKind.i64.wrap (kj + 4 + 1) = kj + 5 := (wrap_nat (by omega) (by omega)).trans (by omega)
  have w5 : IntKind.i64.wrap (kj + 5 + 1) = kj + 6 := (wrap_nat (by omega) (by omega)).trans (by omega)
  have w7 : IntKind.i64.wrap (kj + 6 + cntL DWire.cnt x.message.args + 1) = kj + 7 + cntL DWire.cnt x.message.args := (wrap_nat (by omega) (by omega)).trans (by omega)
  have w8 : IntKind.i64.wrap (kj + 7 + cntL DWire.cnt x.message.args + 1) = kj + 8 + cntL DWire.cnt x.message.args := (wrap_nat (by omega) (by omega)).trans (by omega)
  have w9 : IntKind.i64.wrap (kj + 8 + cntL DWire.cnt x.message.args + 1) = kj + 9 + cntL DWire.cnt x.message.args := (wrap_nat (by omega) (by omega)).trans (by omega)
  have w10 : IntKind.i64.wrap (kj + 9 + cntL DWire.cnt x.message.args + 1) = kj + 10 + cntL DWire.cnt x.message.args := (wrap_nat (by omega) (by omega)).trans (by omega)
  have w11 : IntKind.i64.wrap (kj + 10 + cntL DWire.cnt x.message.args + 1) = kj + 11 + cntL DWire.cnt x.message.args := (wrap_nat (by omega) (by omega)).trans (by omega)
  have w12 : IntKind.i64.wrap (kj + 11 + cntL DWire.cnt x.message.args + 1) = kj + 12 + cntL DWire.cnt x.message.args := (wrap_nat (by omega) (by omega)).trans (by omega)
  obtain ⟨H0, hH0⟩ : ∃ H0, H0 = H' := ⟨_, rfl⟩
  rw [← hH0] at iv q2 ow fr0 hlen0
  have fr0 : ∀ c, c ≠ b → c ∉ fx → H'[c]? = H0[c]? := fun _ _ _ => by rw [hH0]
  have hlen0 : H'.length = H0.length := by rw [hH0]
  rw [hH0] at ow
  replace e1 : H' = h1 ++ some (g, as1 ++ elc [.int .i64 x.to_, .int .i64 x.message.kind, .int .i64 x.message.pos, .int .i64 x.message.answer, .int .i64 x.message.question, .str x.message.name, a6, .int .i64 x.message.value.kind, .int .i64 x.message.value.n, .int .i64 x.message.count, .int .i64 x.message.tag.vat, .int .i64 x.message.tag.entity, .int .i64 x.message.tag.seq] (post ++ tail)) :: h2 := e1
  subst e1
  simp only [EV, EL, EB, EF, EM, q_bx, if_true, if_false, Bool.false_eq_true, Nat.reduceAdd, Option.bind_some, Bool.not_true, Bool.not_false, Nat.reduceBEq, Nat.reduceLeDiff, nn_b, nn_s, nn_i, laws_markOutgoingS_r, i0, st_el e2 rfl, rd_el e2 rfl, w0, w1, w2, w3, w4, w5, w7, w8, w9, w10, w11, w12, c6a, c6b, c6c]
  refine TCall.val (by simp only [EO]) (laws_markText_T (kj + 5) (by omega) (by omega) _) ?_
  simp only [EV, EL, EB, EF, EM, q_bx, if_true, if_false, Bool.false_eq_true, Nat.reduceAdd, Option.bind_some, Bool.not_true, Bool.not_false, Nat.reduceBEq, Nat.reduceLeDiff, nn_b, nn_s, nn_i, laws_markOutgoingS_r, i0, st_el e2 rfl, rd_el e2 rfl, w0, w1, w2, w3, w4, w5, w7, w8, w9, w10, w11, w12, c6a, c6b, c6c]
  obtain ⟨gi1, oi1, ni1, si1, bk1⟩ := OwnL.pick (A := []) (D := []) rfl (ow.frame fun c hc => at_ne e2 (hfx c hc)) ndx
  refine TCall.ref (by simp only [EO, c6d]) (laws_markWireS_T x.message.args (kj + 6) (by omega) (by omega) (hox.2) _ oi1 ni1) ?_
  rintro _ hn ⟨rfl, hlen1, hfr1, un1⟩
  replace ow := bk1 hn _ hfr1 un1
  have fr1 : ∀ c, c ≠ b → c ∉ fx → hn[c]? = H0[c]? := fun c h1 h2 => (hfr1 c (fun h => h2 (si1 c h))).trans ((at_ne e2 h1).trans (fr0 c h1 h2))
  have hlen1 : hn.length = H0.length := by rw [hlen1]; (try rw [← hlen0]); (try simp)
  obtain ⟨p1, r1, rfl, eh1⟩ := heap_at (frame_hget (hget_at e2) (hfr1 b (fun h => hfx b (si1 b h) rfl)))
  simp only [EV, EL, EB, EF, EM, q_bx, if_true, if_false, Bool.false_eq_true, Nat.reduceAdd, Option.bind_some, Bool.not_true, Bool.not_false, Nat.reduceBEq, Nat.reduceLeDiff, nn_b, nn_s, nn_i, laws_markOutgoingS_r, i0, st_el eh1 rfl, rd_el eh1 rfl, w0, w1, w2, w3, w4, w5, w7, w8, w9, w10, w11, w12, c6a, c6b, c6c]
  refine ⟨(j + 1, _, as1 ++ [.int .i64 (kj), .int .i64 (kj + 1), .int .i64 (kj + 2), .int .i64 (kj + 3), .int .i64 (kj + 4), .str (markT (kj + 5)), a6, .int .i64 (kj + 6 + cntL DWire.cnt x.message.args), .int .i64 (kj + 7 + cntL DWire.cnt x.message.args), .int .i64 (kj + 8 + cntL DWire.cnt x.message.args), .int .i64 (kj + 9 + cntL DWire.cnt x.message.args), .int .i64 (kj + 10 + cntL DWire.cnt x.message.args), .int .i64 (kj + 11 + cntL DWire.cnt x.message.args)], post, f1 ++ fx, fr), ⟨hlt, ?inv⟩, (by simp only; omega), ⟨?le, rfl, rfl⟩⟩
  case inv =>
    simp only; rw [hmt]
    replace ow := ow.frame fun c hc => at_ne (x := some (g, as1 ++ elc [.int .i64 (kj), .int .i64 (kj + 1), .int .i64 (kj + 2), .int .i64 (kj + 3), .int .i64 (kj + 4), .str (markT (kj + 5)), a6, .int .i64 (kj + 6 + cntL DWire.cnt x.message.args), .int .i64 (kj + 7 + cntL DWire.cnt x.message.args), .int .i64 (kj + 8 + cntL DWire.cnt x.message.args), .int .i64 (kj + 9 + cntL DWire.cnt x.message.args), .int .i64 (kj + 10 + cntL DWire.cnt x.message.args), .int .i64 (kj + 11 + cntL DWire.cnt x.message.args)] (post ++ tail))) eh1 (hfx c hc)
    obtain ⟨F0, R0, E0, O0, hz⟩ := ow
    have hz : R0 = [] := hz
    refine iv.next (y := DOutgoing.mk_ x kj) nd q2 (by rw [← hlen1]; (try simp)) (hget_at eh1) (fun c h1 h2 => (at_ne eh1 h1).trans (fr1 c h1 h2)) ?_
    rw [E0, hz]; exact (.i (.i (.i (.i (.i (.s (.o O0 (.i (.i (.i (.i (.i (.i .nil)))))))))))))
  case le =>
    have hfin : k + cntL DOutgoing.cnt (l.take (j + 1)) = kj + 12 + cntL DWire.cnt x.message.args := by rw [htk]; simp only [DOutgoing.cnt]; omega
    rw [hfin, wN (by omega)]; (try simp [laws_markOutgoingS_s0, LeL, LeV])
theorem laws_markGiftS_T (l : List DGift) (k : Int) (hk : 0 ≤ k) (hb : k + cntL DGift.cnt l ≤ 9223372036854775000) (hl : l.length ≤ 1073741824) (H : AH) {a : AV} {fp : List Nat} (o : Own H a (.sl 4 (l.map DGift.cd)) fp) (nd : fp.Nodup) :
    T Tryz.prog Γ Fn.laws_markGiftS [a, .int .i64 k] H fun v h' => v = .int .i64 (k + cntL DGift.cnt l) ∧ (h'.length = H.length ∧ (∀ c, c ∉ fp → h'[c]? = H[c]?) ∧ Own h' a (.sl 4 ((mkL DGift.mk_ DGift.cnt l k).map DGift.cd)) fp) := by
  rcases o.sl_inv with ⟨rfl, e, rfl⟩ | ⟨b, g, cap, ex, as0, tail, fp, rfl, rfl, hg, hsz, ht, hc, hown⟩
  · have e : l = [] := by simpa using e
    subst e
    have L0 : lenI false .nils = some (.int .i64 0) := rfl
    refine laws_markGiftS_e (aw_sound tabOK mixed [] _ _ _ ?_)
    unfold laws_markGiftS_c
    simp only [EV, EL, EB, EF, EM, q_bx, if_true, if_false, Bool.false_eq_true, Nat.reduceAdd, Option.bind_some, Bool.not_true, Bool.not_false, Nat.reduceBEq, Nat.reduceLeDiff, nn_b, nn_s, nn_i, laws_markGiftS_r]
    refine loopI tabOK mixed [] (fun _ : Unit => True) (fun _ => 0) (fun _ => laws_markGiftS_s0 .nils (.int .i64 k) (.int .i64 0) [] H) () trivial ⟨by simp [laws_markGiftS_s0, LeL, LeV], rfl, rfl⟩ ?_
    intro _ _
    simp only [EV, EL, EB, EF, EM, q_bx, if_true, if_false, Bool.false_eq_true, Nat.reduceAdd, Option.bind_some, Bool.not_true, Bool.not_false, Nat.reduceBEq, Nat.reduceLeDiff, nn_b, nn_s, nn_i, laws_markGiftS_r, laws_markGiftS_s0, L0, show decide ((0 : Int) < 0) = false from rfl]
    refine ⟨rfl, by simp [cntL], ?_⟩
    first | exact ⟨rfl, fun _ _ => rfl, .nil _⟩ | exact ⟨fun _ _ => trivial, .nil _⟩
  simp only [List.length_map] at hc o ⊢
  have L0 : lenI false (.gs b g 0 l.length cap 4 ex) = some (.int .i64 l.length) := rfl
  have hbf : b ∉ fp := (List.nodup_cons.1 nd).1
  refine laws_markGiftS_e (aw_sound tabOK mixed [] _ _ _ ?_)
  unfold laws_markGiftS_c
  simp only [EV, EL, EB, EF, EM, q_bx, if_true, if_false, Bool.false_eq_true, Nat.reduceAdd, Option.bind_some, Bool.not_true, Bool.not_false, Nat.reduceBEq, Nat.reduceLeDiff, nn_b, nn_s, nn_i, laws_markGiftS_r]
  refine loopI tabOK mixed [] (fun y : Nat × AH × List AV × List AV × List Nat × List Nat => y.1 ≤ l.length ∧ MInv H b g tail fp DGift.cd (l.drop y.1) (mkL DGift.mk_ DGift.cnt (l.take y.1) k) y.2.1 y.2.2.1 y.2.2.2.1 y.2.2.2.2.1 y.2.2.2.2.2) (fun y => l.length - y.1)
    (fun y => laws_markGiftS_s0 (.gs b g 0 l.length cap 4 ex) (.int .i64 (k + cntL DGift.cnt (l.take y.1))) (.int .i64 y.1) [] y.2.1) (0, H, [], as0, [], fp) ⟨by simp, by simpa [mkL] using MInv.start hg hown⟩ ⟨by simp [laws_markGiftS_s0, LeL, LeV, cntL], rfl, rfl⟩ ?_
  rintro ⟨j, H', as1, as2, f1, f2⟩ ⟨hj, iv⟩
  simp only at hj iv
  simp only [EV, EL, EB, EF, EM, q_bx, if_true, if_false, Bool.false_eq_true, Nat.reduceAdd, Option.bind_some, Bool.not_true, Bool.not_false, Nat.reduceBEq, Nat.reduceLeDiff, nn_b, nn_s, nn_i, laws_markGiftS_r, laws_markGiftS_s0, L0]
  refine c_split (fun hlt => ?_) (fun hge => ?_)
  rotate_left
  · have hge : j = l.length := by simp at hge; omega
    subst hge
    simp only [EV, EL, EB, EF, EM, q_bx, if_true, if_false, Bool.false_eq_true, Nat.reduceAdd, Option.bind_some, Bool.not_true, Bool.not_false, Nat.reduceBEq, Nat.reduceLeDiff, nn_b, nn_s, nn_i, laws_markGiftS_r]
    rw [List.drop_length, List.take_length] at iv
    rw [List.take_length]
    exact ⟨rfl, rfl, iv.done mkL_len (fun _ => rfl) ht hc⟩
  have hlt : j < l.length := by simpa using hlt
  have htk := cntL_take DGift.cnt hlt
  have hle := cntL_le (c := DGift.cnt) DGift.cnt_nn hlt
  have hnn := cntL_nn (c := DGift.cnt) DGift.cnt_nn (l.take j)
  have hmt := mkL_take DGift.mk_ DGift.cnt hlt k
  rw [List.drop_eq_getElem_cons hlt] at iv
  obtain ⟨x, hx⟩ : ∃ x, x = l[j] := ⟨_, rfl⟩
  rw [← hx] at iv
  try rw [← hx] at htk hle
  try rw [← hx] at hmt
  obtain ⟨kj, hkj⟩ : ∃ kj, kj = k + cntL DGift.cnt (l.take j) := ⟨_, rfl⟩
  rw [← hkj] at hmt
  rw [← hkj]
  have hk0 : 0 ≤ kj := by omega
  have hkb : kj + DGift.cnt x ≤ 9223372036854775000 := by omega
  obtain ⟨h1, h2, cs, post, fx, fr, e1, e2, rfl, rfl, q1, q2⟩ := iv.open
  have hfx : ∀ c ∈ fx, c ≠ b := fun c hc e => hbf (by rw [iv.fps, ← e]; simp [hc])
  have ndx : fx.Nodup := (List.nodup_append.1 (List.nodup_append.1 (iv.fps ▸ (List.nodup_cons.1 nd).2)).2.1).1
  have hn0 : as1.length = j * 4 := by rw [iv.o1.len, flat_len' (sz := 4) (fun y _ => rfl), mkL_len, List.length_take, Nat.min_eq_left hj]
  have i0 : aIdxs 4 (.gs b g 0 l.length cap 4 ex) (j : Int) = some (.gp b g as1.length) := by rw [idx_gs hlt, hn0, Nat.zero_add]
  simp only [DGift.cnt] at hkb
  simp only [DGift.cd, ownL_c, ownL_n, own_i, own_b, own_s] at q1
  obtain ⟨_, _, _, _, rfl, e0z, ⟨rfl, rfl⟩, ⟨_, _, _, _, rfl, e1z, ⟨rfl, rfl⟩, ⟨_, _, _, _, rfl, e2z, ⟨rfl, rfl⟩, ⟨_, _, _, _, rfl, e3z, ⟨rfl, rfl⟩, ⟨rfl, e4z⟩⟩⟩⟩⟩ := q1
  have hfxe : fx = [] := by rw [e0z, e1z, e2z, e3z, e4z]; simp
  have ow : OwnL H' [] [] fx := by rw [hfxe]; exact .nil
  have hlen0 := (rfl : H'.length = H'.length)
  have fr0 : ∀ c, c ≠ b → c ∉ fx → H'[c]? = H'[c]? := fun _ _ _ => rfl
  have w0 : IntKind.i64.wrap (kj + 1) = kj + 1 := (wrap_nat (by omega) (by omega)).trans (by omega)
  have w1 : IntKind.i64.wrap (kj + 1 + 1) = kj + 2 := (wrap_nat (by omega) (by omega)).trans (by omega)
  have w2 : IntKind.i64.wrap (kj + 2 + 1) = kj + 3 := (wrap_nat (by omega) (by omega)).trans (by omega)
  have w3 : IntKind.i64.wrap (kj + 3 + 1) = kj + 4 := (wrap_nat (by omega) (by omega)).trans (by omega)
  obtain ⟨H0, hH0⟩ : ∃ H0, H0 = H' := ⟨_, rfl⟩
  rw [← hH0] at iv q2 ow fr0 hlen0
  have fr0 : ∀ c, c ≠ b → c ∉ fx → H'[c]? = H0[c]? := fun _ _ _ => by rw [hH0]
  have hlen0 : H'.length = H0.length := by rw [hH0]
  rw [hH0] at ow
  replace e1 : H' = h1 ++ some (g, as1 ++ elc [.int .i64 x.nonce, .int .i64 x.giver, .int .i64 x.taker, .int .i64 x.entity] (post ++ tail)) :: h2 := e1
  subst e1
  simp only [EV, EL, EB, EF, EM, q_bx, if_true, if_false, Bool.false_eq_true, Nat.reduceAdd, Option.bind_some, Bool.not_true, Bool.not_false, Nat.reduceBEq, Nat.reduceLeDiff, nn_b, nn_s, nn_i, laws_markGiftS_r, i0, st_el e2 rfl, rd_el e2 rfl, w0, w1, w2, w3]
  refine ⟨(j + 1, _, as1 ++ [.int .i64 (kj), .int .i64 (kj + 1), .int .i64 (kj + 2), .int .i64 (kj + 3)], post, f1 ++ [], fr), ⟨hlt, ?inv⟩, (by simp only; omega), ⟨?le, rfl, rfl⟩⟩
  case inv =>
    simp only; rw [hmt]
    subst hfxe
    exact iv.next (y := DGift.mk_ x kj) nd q2 (by rw [← hlen0]; (try simp)) (hget_at e2) (fun c h1 h2 => (at_ne e2 h1).trans (fr0 c h1 h2)) (.i (.i (.i (.i .nil))))
  case le =>
    have hfin : k + cntL DGift.cnt (l.take (j + 1)) = kj + 4 := by rw [htk]; simp only [DGift.cnt]; omega
    rw [hfin, wN (by omega)]; (try simp [laws_markGiftS_s0, LeL, LeV])
theorem laws_heldValueS_T (β : Bool) (l : List DValue) (k : Int) (hk : 0 ≤ k) (hb : k + cntL DValue.cnt l ≤ 9223372036854775000) (hl : l.length ≤ 1073741824) (h : AH) :
    T Tryz.prog Γ Fn.laws_heldValueS [.vs β 2 false ((mkL DValue.mk_ DValue.cnt l k).map (DValue.c β)), .int .i64 k] h fun v h' => v = .int .i64 (k + cntL DValue.cnt l) ∧ h' = h := by
  obtain ⟨M, hM⟩ : ∃ M, M = mkL DValue.mk_ DValue.cnt l k := ⟨_, rfl⟩
  have hlen : M.length = l.length := by rw [hM]; exact mkL_len
  rw [← hM]
  have L0 := len_vm β 2 false M (DValue.c β)
  rw [hlen] at L0
  refine laws_heldValueS_e (aw_sound tabOK mixed [] _ _ _ ?_)
  unfold laws_heldValueS_c
  simp only [EV, EL, EB, EF, EM, q_bx, if_true, if_false, Bool.false_eq_true, Nat.reduceAdd, Option.bind_some, Bool.not_true, Bool.not_false, Nat.reduceBEq, Nat.reduceLeDiff, nn_b, nn_s, nn_i, laws_heldValueS_r]
  refine loopI tabOK mixed [] (fun j : Nat => j ≤ l.length) (fun j => l.length - j)
    (fun j => laws_heldValueS_s0 (.vs β 2 false (M.map (DValue.c β))) (.int .i64 (k + cntL DValue.cnt (l.take j))) (.int .i64 j) [] h) 0 (by omega) ⟨by simp [laws_heldValueS_s0, LeL, LeV, cntL], rfl, rfl⟩ ?_
  intro j hj
  simp only [EV, EL, EB, EF, EM, q_bx, if_true, if_false, Bool.false_eq_true, Nat.reduceAdd, Option.bind_some, Bool.not_true, Bool.not_false, Nat.reduceBEq, Nat.reduceLeDiff, nn_b, nn_s, nn_i, laws_heldValueS_r, laws_heldValueS_s0, L0]
  refine c_split (fun hlt => ?_) (fun hge => ?_)
  rotate_left
  · have hge : j = l.length := by simp at hge; omega
    subst hge
    simp only [EV, EL, EB, EF, EM, q_bx, if_true, if_false, Bool.false_eq_true, Nat.reduceAdd, Option.bind_some, Bool.not_true, Bool.not_false, Nat.reduceBEq, Nat.reduceLeDiff, nn_b, nn_s, nn_i, laws_heldValueS_r]
    rw [List.take_length]
    first | exact ⟨rfl, rfl⟩ | exact rfl
  have hlt : j < l.length := by simpa using hlt
  have htk := cntL_take DValue.cnt hlt
  have hle := cntL_le (c := DValue.cnt) DValue.cnt_nn hlt
  have hnn := cntL_nn (c := DValue.cnt) DValue.cnt_nn (l.take j)
  have hg := mkL_get DValue.mk_ DValue.cnt hlt k
  have hltM : j < M.length := by omega
  have i0 := idx_vm (β := β) (sz := 2) (ex := false) (ce := (DValue.c β)) hltM
  rw [← hM, List.getElem?_eq_getElem hltM] at hg
  injection hg with hg
  rw [hg] at i0
  obtain ⟨x, hx⟩ : ∃ x, x = l[j] := ⟨_, rfl⟩
  try rw [← hx] at i0
  try rw [← hx] at htk hle
  obtain ⟨kj, hkj⟩ : ∃ kj, kj = k + cntL DValue.cnt (l.take j) := ⟨_, rfl⟩
  rw [← hkj] at i0
  rw [← hkj]
  have hk0 : 0 ≤ kj := by omega
  have hkb : kj + DValue.cnt x ≤ 9223372036854775000 := by omega
  simp only [DValue.cnt] at hkb
  have w0 : IntKind.i64.wrap (kj + 1) = kj + 1 := (wrap_nat (by omega) (by omega)).trans (by omega)
  have w1 : IntKind.i64.wrap (kj + 1 + 1) = kj + 2 := (wrap_nat (by omega) (by omega)).trans (by omega)
  simp only [EV, EL, EB, EF, EM, q_bx, if_true, if_false, Bool.false_eq_true, Nat.reduceAdd, Option.bind_some, Bool.not_true, Bool.not_false, Nat.reduceBEq, Nat.reduceLeDiff, nn_b, nn_s, nn_i, laws_heldValueS_r, i0, DValue.c, DValue.mk_, bne_self_eq_false, beq_self_eq_true, w0, w1]
  have hfin : k + cntL DValue.cnt (l.take (j + 1)) = kj + 2 := by rw [htk]; simp only [DValue.cnt]; omega
  exact ⟨j + 1, hlt, by omega, ⟨by rw [hfin, wN (by omega)]; (try simp [laws_heldValueS_s0, LeL, LeV]), rfl, rfl⟩⟩
theorem laws_heldSentS_T (β : Bool) (l : List DSent) (k : Int) (hk : 0 ≤ k) (hb : k + cntL DSent.cnt l ≤ 9223372036854775000) (hl : l.length ≤ 1073741824) (ho : ∀ x ∈ l, x.ok 1073741824) (h : AH) :
    T Tryz.prog Γ Fn.laws_heldSentS [.vs β 7 false ((mkL DSent.mk_ DSent.cnt l k).map (DSent.c β)), .int .i64 k] h fun v h' => v = .int .i64 (k + cntL DSent.cnt l) ∧ h' = h := by
  obtain ⟨M, hM⟩ : ∃ M, M = mkL DSent.mk_ DSent.cnt l k := ⟨_, rfl⟩
  have hlen : M.length = l.length := by rw [hM]; exact mkL_len
  rw [← hM]
  have L0 := len_vm β 7 false M (DSent.c β)
  rw [hlen] at L0
  refine laws_heldSentS_e (aw_sound tabOK mixed [] _ _ _ ?_)
  unfold laws_heldSentS_c
  simp only [EV, EL, EB, EF, EM, q_bx, if_true, if_false, Bool.false_eq_true, Nat.reduceAdd, Option.bind_some, Bool.not_true, Bool.not_false, Nat.reduceBEq, Nat.reduceLeDiff, nn_b, nn_s, nn_i, laws_heldSentS_r]
  refine loopI tabOK mixed [] (fun j : Nat => j ≤ l.length) (fun j => l.length - j)
    (fun j => laws_heldSentS_s0 (.vs β 7 false (M.map (DSent.c β))) (.int .i64 (k + cntL DSent.cnt (l.take j))) (.int .i64 j) [] h) 0 (by omega) ⟨by simp [laws_heldSentS_s0, LeL, LeV, cntL], rfl, rfl⟩ ?_
  intro j hj
  simp only [EV, EL, EB, EF, EM, q_bx, if_true, if_false, Bool.false_eq_true, Nat.reduceAdd, Option.bind_some, Bool.not_true, Bool.not_false, Nat.reduceBEq, Nat.reduceLeDiff, nn_b, nn_s, nn_i, laws_heldSentS_r, laws_heldSentS_s0, L0]
  refine c_split (fun hlt => ?_) (fun hge => ?_)
  rotate_left
  · have hge : j = l.length := by simp at hge; omega
    subst hge
    simp only [EV, EL, EB, EF, EM, q_bx, if_true, if_false, Bool.false_eq_true, Nat.reduceAdd, Option.bind_some, Bool.not_true, Bool.not_false, Nat.reduceBEq, Nat.reduceLeDiff, nn_b, nn_s, nn_i, laws_heldSentS_r]
    rw [List.take_length]
    first | exact ⟨rfl, rfl⟩ | exact rfl
  have hlt : j < l.length := by simpa using hlt
  have htk := cntL_take DSent.cnt hlt
  have hle := cntL_le (c := DSent.cnt) DSent.cnt_nn hlt
  have hnn := cntL_nn (c := DSent.cnt) DSent.cnt_nn (l.take j)
  have hg := mkL_get DSent.mk_ DSent.cnt hlt k
  have hltM : j < M.length := by omega
  have i0 := idx_vm (β := β) (sz := 7) (ex := false) (ce := (DSent.c β)) hltM
  rw [← hM, List.getElem?_eq_getElem hltM] at hg
  injection hg with hg
  rw [hg] at i0
  obtain ⟨x, hx⟩ : ∃ x, x = l[j] := ⟨_, rfl⟩
  try rw [← hx] at i0
  try rw [← hx] at htk hle
  obtain ⟨kj, hkj⟩ : ∃ kj, kj = k + cntL DSent.cnt (l.take j) := ⟨_, rfl⟩
  rw [← hkj] at i0
  rw [← hkj]
  have hk0 : 0 ≤ kj := by omega
  have hkb : kj + DSent.cnt x ≤ 9223372036854775000 := by omega
  have z0 := cntL_nn (c := DValue.cnt) DValue.cnt_nn x.args
  simp only [DSent.cnt] at hkb
  have hox := ho _ (List.getElem_mem hlt); rw [← hx] at hox
  have w0 : IntKind.i64.wrap (kj + 1) = kj + 1 := (wrap_nat (by omega) (by omega)).trans (by omega)
  have w1 : IntKind.i64.wrap (kj + 1 + 1) = kj + 2 := (wrap_nat (by omega) (by omega)).trans (by omega)
  have y2 : decide (kj + 2 + cntL DValue.cnt x.args < 0) = false := by simp; omega
  have w3 : IntKind.i64.wrap (kj + 2 + cntL DValue.cnt x.args + 1) = kj + 3 + cntL DValue.cnt x.args := (wrap_nat (by omega) (by omega)).trans (by omega)
  have w4 : IntKind.i64.wrap (kj + 3 + cntL DValue.cnt x.args + 1) = kj + 4 + cntL DValue.cnt x.args := (wrap_nat (by omega) (by omega)).trans (by omega)
  have w5 : IntKind.i64.wrap (kj + 4 + cntL DValue.cnt x.args + 1) = kj + 5 + cntL DValue.cnt x.args := (wrap_nat (by omega) (by omega)).trans (by omega)
  have w6 : IntKind.i64.wrap (kj + 5 + cntL DValue.cnt x.args + 1) = kj + 6 + cntL DValue.cnt x.args := (wrap_nat (by omega) (by omega)).trans (by omega)
  simp only [EV, EL, EB, EF, EM, q_bx, if_true, if_false, Bool.false_eq_true, Nat.reduceAdd, Option.bind_some, Bool.not_true, Bool.not_false, Nat.reduceBEq, Nat.reduceLeDiff, nn_b, nn_s, nn_i, laws_heldSentS_r, laws_heldSentS_d0_q, i0, DSent.c, DSent.mk_, bne_self_eq_false, beq_self_eq_true, w0, w1, y2, w3, w4, w5, w6]
  refine TCall.val (by simp only [EO]) (laws_markText_T (kj + 1) (by omega) (by omega) _) ?_
  simp only [EV, EL, EB, EF, EM, q_bx, if_true, if_false, Bool.false_eq_true, Nat.reduceAdd, Option.bind_some, Bool.not_true, Bool.not_false, Nat.reduceBEq, Nat.reduceLeDiff, nn_b, nn_s, nn_i, laws_heldSentS_r, laws_heldSentS_d0_q, i0, DSent.c, DSent.mk_, bne_self_eq_false, beq_self_eq_true, w0, w1, y2, w3, w4, w5, w6]
  refine TCall.val (by simp only [EO]) (laws_heldValueS_T β x.args (kj + 2) (by omega) (by omega) (hox.2) _) ?_
  simp only [EV, EL, EB, EF, EM, q_bx, if_true, if_false, Bool.false_eq_true, Nat.reduceAdd, Option.bind_some, Bool.not_true, Bool.not_false, Nat.reduceBEq, Nat.reduceLeDiff, nn_b, nn_s, nn_i, laws_heldSentS_r, laws_heldSentS_d0_q, i0, DSent.c, DSent.mk_, bne_self_eq_false, beq_self_eq_true, w0, w1, y2, w3, w4, w5, w6]
  have hfin : k + cntL DSent.cnt (l.take (j + 1)) = kj + 6 + cntL DValue.cnt x.args := by rw [htk]; simp only [DSent.cnt]; omega
  exact ⟨j + 1, hlt, by omega, ⟨by rw [hfin, wN (by omega)]; (try simp [laws_heldSentS_s0, LeL, LeV]), rfl, rfl⟩⟩
theorem laws_heldAskerS_T (β : Bool) (l : List DAsker) (k : Int) (hk : 0 ≤ k) (hb : k + cntL DAsker.cnt l ≤ 9223372036854775000) (hl : l.length ≤ 1073741824) (h : AH) :
    T Tryz.prog Γ Fn.laws_heldAskerS [.vs β 2 false ((mkL DAsker.mk_ DAsker.cnt l k).map (DAsker.c β)), .int .i64 k] h fun v h' => v = .int .i64 (k + cntL DAsker.cnt l) ∧ h' = h := by
  obtain ⟨M, hM⟩ : ∃ M, M = mkL DAsker.mk_ DAsker.cnt l k := ⟨_, rfl⟩
  have hlen : M.length = l.length := by rw [hM]; exact mkL_len
  rw [← hM]
  have L0 := len_vm β 2 false M (DAsker.c β)
  rw [hlen] at L0
  refine laws_heldAskerS_e (aw_sound tabOK mixed [] _ _ _ ?_)
  unfold laws_heldAskerS_c
  simp only [EV, EL, EB, EF, EM, q_bx, if_true, if_false, Bool.false_eq_true, Nat.reduceAdd, Option.bind_some, Bool.not_true, Bool.not_false, Nat.reduceBEq, Nat.reduceLeDiff, nn_b, nn_s, nn_i, laws_heldAskerS_r]
  refine loopI tabOK mixed [] (fun j : Nat => j ≤ l.length) (fun j => l.length - j)
    (fun j => laws_heldAskerS_s0 (.vs β 2 false (M.map (DAsker.c β))) (.int .i64 (k + cntL DAsker.cnt (l.take j))) (.int .i64 j) [] h) 0 (by omega) ⟨by simp [laws_heldAskerS_s0, LeL, LeV, cntL], rfl, rfl⟩ ?_
  intro j hj
  simp only [EV, EL, EB, EF, EM, q_bx, if_true, if_false, Bool.false_eq_true, Nat.reduceAdd, Option.bind_some, Bool.not_true, Bool.not_false, Nat.reduceBEq, Nat.reduceLeDiff, nn_b, nn_s, nn_i, laws_heldAskerS_r, laws_heldAskerS_s0, L0]
  refine c_split (fun hlt => ?_) (fun hge => ?_)
  rotate_left
  · have hge : j = l.length := by simp at hge; omega
    subst hge
    simp only [EV, EL, EB, EF, EM, q_bx, if_true, if_false, Bool.false_eq_true, Nat.reduceAdd, Option.bind_some, Bool.not_true, Bool.not_false, Nat.reduceBEq, Nat.reduceLeDiff, nn_b, nn_s, nn_i, laws_heldAskerS_r]
    rw [List.take_length]
    first | exact ⟨rfl, rfl⟩ | exact rfl
  have hlt : j < l.length := by simpa using hlt
  have htk := cntL_take DAsker.cnt hlt
  have hle := cntL_le (c := DAsker.cnt) DAsker.cnt_nn hlt
  have hnn := cntL_nn (c := DAsker.cnt) DAsker.cnt_nn (l.take j)
  have hg := mkL_get DAsker.mk_ DAsker.cnt hlt k
  have hltM : j < M.length := by omega
  have i0 := idx_vm (β := β) (sz := 2) (ex := false) (ce := (DAsker.c β)) hltM
  rw [← hM, List.getElem?_eq_getElem hltM] at hg
  injection hg with hg
  rw [hg] at i0
  obtain ⟨x, hx⟩ : ∃ x, x = l[j] := ⟨_, rfl⟩
  try rw [← hx] at i0
  try rw [← hx] at htk hle
  obtain ⟨kj, hkj⟩ : ∃ kj, kj = k + cntL DAsker.cnt (l.take j) := ⟨_, rfl⟩
  rw [← hkj] at i0
  rw [← hkj]
  have hk0 : 0 ≤ kj := by omega
  have hkb : kj + DAsker.cnt x ≤ 9223372036854775000 := by omega
  simp only [DAsker.cnt] at hkb
  have w0 : IntKind.i64.wrap (kj + 1) = kj + 1 := (wrap_nat (by omega) (by omega)).trans (by omega)
  have w1 : IntKind.i64.wrap (kj + 1 + 1) = kj + 2 := (wrap_nat (by omega) (by omega)).trans (by omega)
  simp only [EV, EL, EB, EF, EM, q_bx, if_true, if_false, Bool.false_eq_true, Nat.reduceAdd, Option.bind_some, Bool.not_true, Bool.not_false, Nat.reduceBEq, Nat.reduceLeDiff, nn_b, nn_s, nn_i, laws_heldAskerS_r, i0, DAsker.c, DAsker.mk_, bne_self_eq_false, beq_self_eq_true, w0, w1]
  have hfin : k + cntL DAsker.cnt (l.take (j + 1)) = kj + 2 := by rw [htk]; simp only [DAsker.cnt]; omega
  exact ⟨j + 1, hlt, by omega, ⟨by rw [hfin, wN (by omega)]; (try simp [laws_heldAskerS_s0, LeL, LeV]), rfl, rfl⟩⟩
theorem laws_heldEntityS_T (β : Bool) (l : List DEntity) (k : Int) (hk : 0 ≤ k) (hb : k + cntL DEntity.cnt l ≤ 9223372036854775000) (hl : l.length ≤ 1073741824) (ho : ∀ x ∈ l, x.ok 1073741824) (h : AH) :
    T Tryz.prog Γ Fn.laws_heldEntityS [.vs β 12 false ((mkL DEntity.mk_ DEntity.cnt l k).map (DEntity.c β)), .int .i64 k] h fun v h' => v = .int .i64 (k + cntL DEntity.cnt l) ∧ h' = h := by
  obtain ⟨M, hM⟩ : ∃ M, M = mkL DEntity.mk_ DEntity.cnt l k := ⟨_, rfl⟩
  have hlen : M.length = l.length := by rw [hM]; exact mkL_len
  rw [← hM]
  have L0 := len_vm β 12 false M (DEntity.c β)
  rw [hlen] at L0
  refine laws_heldEntityS_e (aw_sound tabOK mixed [] _ _ _ ?_)
  unfold laws_heldEntityS_c
  simp only [EV, EL, EB, EF, EM, q_bx, if_true, if_false, Bool.false_eq_true, Nat.reduceAdd, Option.bind_some, Bool.not_true, Bool.not_false, Nat.reduceBEq, Nat.reduceLeDiff, nn_b, nn_s, nn_i, laws_heldEntityS_r]
  refine loopI tabOK mixed [] (fun j : Nat => j ≤ l.length) (fun j => l.length - j)
    (fun j => laws_heldEntityS_s0 (.vs β 12 false (M.map (DEntity.c β))) (.int .i64 (k + cntL DEntity.cnt (l.take j))) (.int .i64 j) [] h) 0 (by omega) ⟨by simp [laws_heldEntityS_s0, LeL, LeV, cntL], rfl, rfl⟩ ?_
  intro j hj
  simp only [EV, EL, EB, EF, EM, q_bx, if_true, if_false, Bool.false_eq_true, Nat.reduceAdd, Option.bind_some, Bool.not_true, Bool.not_false, Nat.reduceBEq, Nat.reduceLeDiff, nn_b, nn_s, nn_i, laws_heldEntityS_r, laws_heldEntityS_s0, L0]
  refine c_split (fun hlt => ?_) (fun hge => ?_)
  rotate_left
  · have hge : j = l.length := by simp at hge; omega
    subst hge
    simp only [EV, EL, EB, EF, EM, q_bx, if_true, if_false, Bool.false_eq_true, Nat.reduceAdd, Option.bind_some, Bool.not_true, Bool.not_false, Nat.reduceBEq, Nat.reduceLeDiff, nn_b, nn_s, nn_i, laws_heldEntityS_r]
    rw [List.take_length]
    first | exact ⟨rfl, rfl⟩ | exact rfl
  have hlt : j < l.length := by simpa using hlt
  have htk := cntL_take DEntity.cnt hlt
  have hle := cntL_le (c := DEntity.cnt) DEntity.cnt_nn hlt
  have hnn := cntL_nn (c := DEntity.cnt) DEntity.cnt_nn (l.take j)
  have hg := mkL_get DEntity.mk_ DEntity.cnt hlt k
  have hltM : j < M.length := by omega
  have i0 := idx_vm (β := β) (sz := 12) (ex := false) (ce := (DEntity.c β)) hltM
  rw [← hM, List.getElem?_eq_getElem hltM] at hg
  injection hg with hg
  rw [hg] at i0
  obtain ⟨x, hx⟩ : ∃ x, x = l[j] := ⟨_, rfl⟩
  try rw [← hx] at i0
  try rw [← hx] at htk hle
  obtain ⟨kj, hkj⟩ : ∃ kj, kj = k + cntL DEntity.cnt (l.take j) := ⟨_, rfl⟩
  rw [← hkj] at i0
  rw [← hkj]
  have hk0 : 0 ≤ kj := by omega
  have hkb : kj + DEntity.cnt x ≤ 9223372036854775000 := by omega
  have z0 := cntL_nn (c := DValue.cnt) DValue.cnt_nn x.slots
  have z1 := cntL_nn (c := DSent.cnt) DSent.cnt_nn x.queue
  have z2 := cntL_nn (c := DAsker.cnt) DAsker.cnt_nn x.askers
  simp only [DEntity.cnt] at hkb
  have hox := ho _ (List.getElem_mem hlt); rw [← hx] at hox
  have w0 : IntKind.i64.wrap (kj + 1) = kj + 1 := (wrap_nat (by omega) (by omega)).trans (by omega)
  have w1 : IntKind.i64.wrap (kj + 1 + 1) = kj + 2 := (wrap_nat (by omega) (by omega)).trans (by omega)
  have y2 : decide (kj + 2 + cntL DValue.cnt x.slots < 0) = false := by simp; omega
  have w3 : IntKind.i64.wrap (kj + 2 + cntL DValue.cnt x.slots + 1) = kj + 3 + cntL DValue.cnt x.slots := (wrap_nat (by omega) (by omega)).trans (by omega)
  have w4 : IntKind.i64.wrap (kj + 3 + cntL DValue.cnt x.slots + 1) = kj + 4 + cntL DValue.cnt x.slots := (wrap_nat (by omega) (by omega)).trans (by omega)
  have w5 : IntKind.i64.wrap (kj + 4 + cntL DValue.cnt x.slots + 1) = kj + 5 + cntL DValue.cnt x.slots := (wrap_nat (by omega) (by omega)).trans (by omega)
  have y6 : decide (kj + 5 + cntL DValue.cnt x.slots + cntL DSent.cnt x.queue < 0) = false := by simp; omega
  have y7 : decide (kj + 5 + cntL DValue.cnt x.slots + cntL DSent.cnt x.queue + cntL DAsker.cnt x.askers < 0) = false := by simp; omega
  have w8 : IntKind.i64.wrap (kj + 5 + cntL DValue.cnt x.slots + cntL DSent.cnt x.queue + cntL DAsker.cnt x.askers + 1) = kj + 6 + cntL DValue.cnt x.slots + cntL DSent.cnt x.queue + cntL DAsker.cnt x.askers := (wrap_nat (by omega) (by omega)).trans (by omega)
  have w9 : IntKind.i64.wrap (kj + 6 + cntL DValue.cnt x.slots + cntL DSent.cnt x.queue + cntL DAsker.cnt x.askers + 1) = kj + 7 + cntL DValue.cnt x.slots + cntL DSent.cnt x.queue + cntL DAsker.cnt x.askers := (wrap_nat (by omega) (by omega)).trans (by omega)
  have w10 : IntKind.i64.wrap (kj + 7 + cntL DValue.cnt x.slots + cntL DSent.cnt x.queue + cntL DAsker.cnt x.askers + 1) = kj + 8 + cntL DValue.cnt x.slots + cntL DSent.cnt x.queue + cntL DAsker.cnt x.askers := (wrap_nat (by omega) (by omega)).trans (by omega)
  have w11 : IntKind.i64.wrap (kj + 8 + cntL DValue.cnt x.slots + cntL DSent.cnt x.queue + cntL DAsker.cnt x.askers + 1) = kj + 9 + cntL DValue.cnt x.slots + cntL DSent.cnt x.queue + cntL DAsker.cnt x.askers := (wrap_nat (by omega) (by omega)).trans (by omega)
  simp only [EV, EL, EB, EF, EM, q_bx, if_true, if_false, Bool.false_eq_true, Nat.reduceAdd, Option.bind_some, Bool.not_true, Bool.not_false, Nat.reduceBEq, Nat.reduceLeDiff, nn_b, nn_s, nn_i, laws_heldEntityS_r, i0, DEntity.c, DEntity.mk_, bne_self_eq_false, beq_self_eq_true, w0, w1, y2, w3, w4, w5, y6, y7, w8, w9, w10, w11]
  refine TCall.val (by simp only [EO]) (laws_heldValueS_T β x.slots (kj + 2) (by omega) (by omega) (hox.1) _) ?_
  simp only [EV, EL, EB, EF, EM, q_bx, if_true, if_false, Bool.false_eq_true, Nat.reduceAdd, Option.bind_some, Bool.not_true, Bool.not_false, Nat.reduceBEq, Nat.reduceLeDiff, nn_b, nn_s, nn_i, laws_heldEntityS_r, i0, DEntity.c, DEntity.mk_, bne_self_eq_false, beq_self_eq_true, w0, w1, y2, w3, w4, w5, y6, y7, w8, w9, w10, w11]
  refine TCall.val (by simp only [EO]) (laws_heldSentS_T β x.queue (kj + 5 + cntL DValue.cnt x.slots) (by omega) (by omega) (hox.2.1) (hox.2.2.1) _) ?_
  simp only [EV, EL, EB, EF, EM, q_bx, if_true, if_false, Bool.false_eq_true, Nat.reduceAdd, Option.bind_some, Bool.not_true, Bool.not_false, Nat.reduceBEq, Nat.reduceLeDiff, nn_b, nn_s, nn_i, laws_heldEntityS_r, i0, DEntity.c, DEntity.mk_, bne_self_eq_false, beq_self_eq_true, w0, w1, y2, w3, w4, w5, y6, y7, w8, w9, w10, w11]
  refine TCall.val (by simp only [EO]) (laws_heldAskerS_T β x.askers (kj + 5 + cntL DValue.cnt x.slots + cntL DSent.cnt x.queue) (by omega) (by omega) (hox.2.2.2) _) ?_
  simp only [EV, EL, EB, EF, EM, q_bx, if_true, if_false, Bool.false_eq_true, Nat.reduceAdd, Option.bind_some, Bool.not_true, Bool.not_false, Nat.reduceBEq, Nat.reduceLeDiff, nn_b, nn_s, nn_i, laws_heldEntityS_r, i0, DEntity.c, DEntity.mk_, bne_self_eq_false, beq_self_eq_true, w0, w1, y2, w3, w4, w5, y6, y7, w8, w9, w10, w11]
  have hfin : k + cntL DEntity.cnt (l.take (j + 1)) = kj + 9 + cntL DValue.cnt x.slots + cntL DSent.cnt x.queue + cntL DAsker.cnt x.askers := by rw [htk]; simp only [DEntity.cnt]; omega
  exact ⟨j + 1, hlt, by omega, ⟨by rw [hfin, wN (by omega)]; (try simp [laws_heldEntityS_s0, LeL, LeV]), rfl, rfl⟩⟩
theorem laws_heldExportS_T (β : Bool) (l : List DExport) (k : Int) (hk : 0 ≤ k) (hb : k + cntL DExport.cnt l ≤ 9223372036854775000) (hl : l.length ≤ 1073741824) (h : AH) :
    T Tryz.prog Γ Fn.laws_heldExportS [.vs β 3 false ((mkL DExport.mk_ DExport.cnt l k).map (DExport.c β)), .int .i64 k] h fun v h' => v = .int .i64 (k + cntL DExport.cnt l) ∧ h' = h := by
  obtain ⟨M, hM⟩ : ∃ M, M = mkL DExport.mk_ DExport.cnt l k := ⟨_, rfl⟩
  have hlen : M.length = l.length := by rw [hM]; exact mkL_len
  rw [← hM]
  have L0 := len_vm β 3 false M (DExport.c β)
  rw [hlen] at L0
  refine laws_heldExportS_e (aw_sound tabOK mixed [] _ _ _ ?_)
  unfold laws_heldExportS_c
  simp only [EV, EL, EB, EF, EM, q_bx, if_true, if_false, Bool.false_eq_true, Nat.reduceAdd, Option.bind_some, Bool.not_true, Bool.not_false, Nat.reduceBEq, Nat.reduceLeDiff, nn_b, nn_s, nn_i, laws_heldExportS_r]
  refine loopI tabOK mixed [] (fun j : Nat => j ≤ l.length) (fun j => l.length - j)
    (fun j => laws_heldExportS_s0 (.vs β 3 false (M.map (DExport.c β))) (.int .i64 (k + cntL DExport.cnt (l.take j))) (.int .i64 j) [] h) 0 (by omega) ⟨by simp [laws_heldExportS_s0, LeL, LeV, cntL], rfl, rfl⟩ ?_
  intro j hj
  simp only [EV, EL, EB, EF, EM, q_bx, if_true, if_false, Bool.false_eq_true, Nat.reduceAdd, Option.bind_some, Bool.not_true, Bool.not_false, Nat.reduceBEq, Nat.reduceLeDiff, nn_b, nn_s, nn_i, laws_heldExportS_r, laws_heldExportS_s0, L0]
  refine c_split (fun hlt => ?_) (fun hge => ?_)
  rotate_left
  · have hge : j = l.length := by simp at hge; omega
    subst hge
    simp only [EV, EL, EB, EF, EM, q_bx, if_true, if_false, Bool.false_eq_true, Nat.reduceAdd, Option.bind_some, Bool.not_true, Bool.not_false, Nat.reduceBEq, Nat.reduceLeDiff, nn_b, nn_s, nn_i, laws_heldExportS_r]
    rw [List.take_length]
    first | exact ⟨rfl, rfl⟩ | exact rfl
  have hlt : j < l.length := by simpa using hlt
  have htk := cntL_take DExport.cnt hlt
  have hle := cntL_le (c := DExport.cnt) DExport.cnt_nn hlt
  have hnn := cntL_nn (c := DExport.cnt) DExport.cnt_nn (l.take j)
  have hg := mkL_get DExport.mk_ DExport.cnt hlt k
  have hltM : j < M.length := by omega
  have i0 := idx_vm (β := β) (sz := 3) (ex := false) (ce := (DExport.c β)) hltM
  rw [← hM, List.getElem?_eq_getElem hltM] at hg
  injection hg with hg
  rw [hg] at i0
  obtain ⟨x, hx⟩ : ∃ x, x = l[j] := ⟨_, rfl⟩
  try rw [← hx] at i0
  try rw [← hx] at htk hle
  obtain ⟨kj, hkj⟩ : ∃ kj, kj = k + cntL DExport.cnt (l.take j) := ⟨_, rfl⟩
  rw [← hkj] at i0
  rw [← hkj]
  have hk0 : 0 ≤ kj := by omega
  have hkb : kj + DExport.cnt x ≤ 9223372036854775000 := by omega
  simp only [DExport.cnt] at hkb
  have w0 : IntKind.i64.wrap (kj + 1) = kj + 1 := (wrap_nat (by omega) (by omega)).trans (by omega)
  have w1 : IntKind.i64.wrap (kj + 1 + 1) = kj + 2 := (wrap_nat (by omega) (by omega)).trans (by omega)
  have w2 : IntKind.i64.wrap (kj + 2 + 1) = kj + 3 := (wrap_nat (by omega) (by omega)).trans (by omega)
  simp only [EV, EL, EB, EF, EM, q_bx, if_true, if_false, Bool.false_eq_true, Nat.reduceAdd, Option.bind_some, Bool.not_true, Bool.not_false, Nat.reduceBEq, Nat.reduceLeDiff, nn_b, nn_s, nn_i, laws_heldExportS_r, i0, DExport.c, DExport.mk_, bne_self_eq_false, beq_self_eq_true, w0, w1, w2]
  have hfin : k + cntL DExport.cnt (l.take (j + 1)) = kj + 3 := by rw [htk]; simp only [DExport.cnt]; omega
  exact ⟨j + 1, hlt, by omega, ⟨by rw [hfin, wN (by omega)]; (try simp [laws_heldExportS_s0, LeL, LeV]), rfl, rfl⟩⟩
theorem laws_heldQuestionS_T (β : Bool) (l : List DQuestion) (k : Int) (hk : 0 ≤ k) (hb : k + cntL DQuestion.cnt l ≤ 9223372036854775000) (hl : l.length ≤ 1073741824) (h : AH) :
    T Tryz.prog Γ Fn.laws_heldQuestionS [.vs β 2 false ((mkL DQuestion.mk_ DQuestion.cnt l k).map (DQuestion.c β)), .int .i64 k] h fun v h' => v = .int .i64 (k + cntL DQuestion.cnt l) ∧ h' = h := by
  obtain ⟨M, hM⟩ : ∃ M, M = mkL DQuestion.mk_ DQuestion.cnt l k := ⟨_, rfl⟩
  have hlen : M.length = l.length := by rw [hM]; exact mkL_len
  rw [← hM]
  have L0 := len_vm β 2 false M (DQuestion.c β)
  rw [hlen] at L0
  refine laws_heldQuestionS_e (aw_sound tabOK mixed [] _ _ _ ?_)
  unfold laws_heldQuestionS_c
  simp only [EV, EL, EB, EF, EM, q_bx, if_true, if_false, Bool.false_eq_true, Nat.reduceAdd, Option.bind_some, Bool.not_true, Bool.not_false, Nat.reduceBEq, Nat.reduceLeDiff, nn_b, nn_s, nn_i, laws_heldQuestionS_r]
  refine loopI tabOK mixed [] (fun j : Nat => j ≤ l.length) (fun j => l.length - j)
    (fun j => laws_heldQuestionS_s0 (.vs β 2 false (M.map (DQuestion.c β))) (.int .i64 (k + cntL DQuestion.cnt (l.take j))) (.int .i64 j) [] h) 0 (by omega) ⟨by simp [laws_heldQuestionS_s0, LeL, LeV, cntL], rfl, rfl⟩ ?_
  intro j hj
  simp only [EV, EL, EB, EF, EM, q_bx, if_true, if_false, Bool.false_eq_true, Nat.reduceAdd, Option.bind_some, Bool.not_true, Bool.not_false, Nat.reduceBEq, Nat.reduceLeDiff, nn_b, nn_s, nn_i, laws_heldQuestionS_r, laws_heldQuestionS_s0, L0]
  refine c_split (fun hlt => ?_) (fun hge => ?_)
  rotate_left
  · have hge : j = l.length := by simp at hge; omega
    subst hge
    simp only [EV, EL, EB, EF, EM, q_bx, if_true, if_false, Bool.false_eq_true, Nat.reduceAdd, Option.bind_some, Bool.not_true, Bool.not_false, Nat.reduceBEq, Nat.reduceLeDiff, nn_b, nn_s, nn_i, laws_heldQuestionS_r]
    rw [List.take_length]
    first | exact ⟨rfl, rfl⟩ | exact rfl
  have hlt : j < l.length := by simpa using hlt
  have htk := cntL_take DQuestion.cnt hlt
  have hle := cntL_le (c := DQuestion.cnt) DQuestion.cnt_nn hlt
  have hnn := cntL_nn (c := DQuestion.cnt) DQuestion.cnt_nn (l.take j)
  have hg := mkL_get DQuestion.mk_ DQuestion.cnt hlt k
  have hltM : j < M.length := by omega
  have i0 := idx_vm (β := β) (sz := 2) (ex := false) (ce := (DQuestion.c β)) hltM
  rw [← hM, List.getElem?_eq_getElem hltM] at hg
  injection hg with hg
  rw [hg] at i0
  obtain ⟨x, hx⟩ : ∃ x, x = l[j] := ⟨_, rfl⟩
  try rw [← hx] at i0
  try rw [← hx] at htk hle
  obtain ⟨kj, hkj⟩ : ∃ kj, kj = k + cntL DQuestion.cnt (l.take j) := ⟨_, rfl⟩
  rw [← hkj] at i0
  rw [← hkj]
  have hk0 : 0 ≤ kj := by omega
  have hkb : kj + DQuestion.cnt x ≤ 9223372036854775000 := by omega
  simp only [DQuestion.cnt] at hkb
  have w0 : IntKind.i64.wrap (kj + 1) = kj + 1 := (wrap_nat (by omega) (by omega)).trans (by omega)
  have w1 : IntKind.i64.wrap (kj + 1 + 1) = kj + 2 := (wrap_nat (by omega) (by omega)).trans (by omega)
  simp only [EV, EL, EB, EF, EM, q_bx, if_true, if_false, Bool.false_eq_true, Nat.reduceAdd, Option.bind_some, Bool.not_true, Bool.not_false, Nat.reduceBEq, Nat.reduceLeDiff, nn_b, nn_s, nn_i, laws_heldQuestionS_r, i0, DQuestion.c, DQuestion.mk_, bne_self_eq_false, beq_self_eq_true, w0, w1]
  have hfin : k + cntL DQuestion.cnt (l.take (j + 1)) = kj + 2 := by rw [htk]; simp only [DQuestion.cnt]; omega
  exact ⟨j + 1, hlt, by omega, ⟨by rw [hfin, wN (by omega)]; (try simp [laws_heldQuestionS_s0, LeL, LeV]), rfl, rfl⟩⟩
theorem laws_heldLinkS_T (β : Bool) (l : List DLink) (k : Int) (hk : 0 ≤ k) (hb : k + cntL DLink.cnt l ≤ 9223372036854775000) (hl : l.length ≤ 1073741824) (ho : ∀ x ∈ l, x.ok 1073741824) (h : AH) :
    T Tryz.prog Γ Fn.laws_heldLinkS [.vs β 7 false ((mkL DLink.mk_ DLink.cnt l k).map (DLink.c β)), .int .i64 k] h fun v h' => v = .int .i64 (k + cntL DLink.cnt l) ∧ h' = h := by
  obtain ⟨M, hM⟩ : ∃ M, M = mkL DLink.mk_ DLink.cnt l k := ⟨_, rfl⟩
  have hlen : M.length = l.length := by rw [hM]; exact mkL_len
  rw [← hM]
  have L0 := len_vm β 7 false M (DLink.c β)
  rw [hlen] at L0
  refine laws_heldLinkS_e (aw_sound tabOK mixed [] _ _ _ ?_)
  unfold laws_heldLinkS_c
  simp only [EV, EL, EB, EF, EM, q_bx, if_true, if_false, Bool.false_eq_true, Nat.reduceAdd, Option.bind_some, Bool.not_true, Bool.not_false, Nat.reduceBEq, Nat.reduceLeDiff, nn_b, nn_s, nn_i, laws_heldLinkS_r]
  refine loopI tabOK mixed [] (fun j : Nat => j ≤ l.length) (fun j => l.length - j)
    (fun j => laws_heldLinkS_s0 (.vs β 7 false (M.map (DLink.c β))) (.int .i64 (k + cntL DLink.cnt (l.take j))) (.int .i64 j) [] h) 0 (by omega) ⟨by simp [laws_heldLinkS_s0, LeL, LeV, cntL], rfl, rfl⟩ ?_
  intro j hj
  simp only [EV, EL, EB, EF, EM, q_bx, if_true, if_false, Bool.false_eq_true, Nat.reduceAdd, Option.bind_some, Bool.not_true, Bool.not_false, Nat.reduceBEq, Nat.reduceLeDiff, nn_b, nn_s, nn_i, laws_heldLinkS_r, laws_heldLinkS_s0, L0]
  refine c_split (fun hlt => ?_) (fun hge => ?_)
  rotate_left
  · have hge : j = l.length := by simp at hge; omega
    subst hge
    simp only [EV, EL, EB, EF, EM, q_bx, if_true, if_false, Bool.false_eq_true, Nat.reduceAdd, Option.bind_some, Bool.not_true, Bool.not_false, Nat.reduceBEq, Nat.reduceLeDiff, nn_b, nn_s, nn_i, laws_heldLinkS_r]
    rw [List.take_length]
    first | exact ⟨rfl, rfl⟩ | exact rfl
  have hlt : j < l.length := by simpa using hlt
  have htk := cntL_take DLink.cnt hlt
  have hle := cntL_le (c := DLink.cnt) DLink.cnt_nn hlt
  have hnn := cntL_nn (c := DLink.cnt) DLink.cnt_nn (l.take j)
  have hg := mkL_get DLink.mk_ DLink.cnt hlt k
  have hltM : j < M.length := by omega
  have i0 := idx_vm (β := β) (sz := 7) (ex := false) (ce := (DLink.c β)) hltM
  rw [← hM, List.getElem?_eq_getElem hltM] at hg
  injection hg with hg
  rw [hg] at i0
  obtain ⟨x, hx⟩ : ∃ x, x = l[j] := ⟨_, rfl⟩
  try rw [← hx] at i0
  try rw [← hx] at htk hle
  obtain ⟨kj, hkj⟩ : ∃ kj, kj = k + cntL DLink.cnt (l.take j) := ⟨_, rfl⟩
  rw [← hkj] at i0
  rw [← hkj]
  have hk0 : 0 ≤ kj := by omega
  have hkb : kj + DLink.cnt x ≤ 9223372036854775000 := by omega
  have z0 := cntL_nn (c := DExport.cnt) DExport.cnt_nn x.exports
  have z1 := cntL_nn (c := DQuestion.cnt) DQuestion.cnt_nn x.questions
  have z2 := cntL_nn (c := DQuestion.cnt) DQuestion.cnt_nn x.answers
  simp only [DLink.cnt] at hkb
  have hox := ho _ (List.getElem_mem hlt); rw [← hx] at hox
  have w0 : IntKind.i64.wrap (kj + 1) = kj + 1 := (wrap_nat (by omega) (by omega)).trans (by omega)
  have w1 : IntKind.i64.wrap (kj + 1 + 1) = kj + 2 := (wrap_nat (by omega) (by omega)).trans (by omega)
  have m1 : aBin .rem .num (.int .i64 (kj + 1)) (.int .i64 3) = some (.int .i64 ((kj + 1) % 3)) := by simp only [aBin, aArith, if_true]; rw [if_neg (by decide), Int.tmod_eq_emod_of_nonneg (by omega)]
  have y2 : decide (kj + 2 + cntL DExport.cnt x.exports < 0) = false := by simp; omega
  have w3 : IntKind.i64.wrap (kj + 2 + cntL DExport.cnt x.exports + 1) = kj + 3 + cntL DExport.cnt x.exports := (wrap_nat (by omega) (by omega)).trans (by omega)
  have y4 : decide (kj + 3 + cntL DExport.cnt x.exports + cntL DQuestion.cnt x.questions < 0) = false := by simp; omega
  have w5 : IntKind.i64.wrap (kj + 3 + cntL DExport.cnt x.exports + cntL DQuestion.cnt x.questions + 1) = kj + 4 + cntL DExport.cnt x.exports + cntL DQuestion.cnt x.questions := (wrap_nat (by omega) (by omega)).trans (by omega)
  have y6 : decide (kj + 4 + cntL DExport.cnt x.exports + cntL DQuestion.cnt x.questions + cntL DQuestion.cnt x.answers < 0) = false := by simp; omega
  simp only [EV, EL, EB, EF, EM, q_bx, if_true, if_false, Bool.false_eq_true, Nat.reduceAdd, Option.bind_some, Bool.not_true, Bool.not_false, Nat.reduceBEq, Nat.reduceLeDiff, nn_b, nn_s, nn_i, laws_heldLinkS_r, i0, DLink.c, DLink.mk_, bne_self_eq_false, beq_self_eq_true, w0, w1, m1, beq_dec, y2, w3, y4, w5, y6]
  refine TCall.val (by simp only [EO]) (laws_heldExportS_T β x.exports (kj + 2) (by omega) (by omega) (hox.1) _) ?_
  simp only [EV, EL, EB, EF, EM, q_bx, if_true, if_false, Bool.false_eq_true, Nat.reduceAdd, Option.bind_some, Bool.not_true, Bool.not_false, Nat.reduceBEq, Nat.reduceLeDiff, nn_b, nn_s, nn_i, laws_heldLinkS_r, i0, DLink.c, DLink.mk_, bne_self_eq_false, beq_self_eq_true, w0, w1, m1, beq_dec, y2, w3, y4, w5, y6]
  refine TCall.val (by simp only [EO]) (laws_heldQuestionS_T β x.questions (kj + 3 + cntL DExport.cnt x.exports) (by omega) (by omega) (hox.2.1) _) ?_
  simp only [EV, EL, EB, EF, EM, q_bx, if_true, if_false, Bool.false_eq_true, Nat.reduceAdd, Option.bind_some, Bool.not_true, Bool.not_false, Nat.reduceBEq, Nat.reduceLeDiff, nn_b, nn_s, nn_i, laws_heldLinkS_r, i0, DLink.c, DLink.mk_, bne_self_eq_false, beq_self_eq_true, w0, w1, m1, beq_dec, y2, w3, y4, w5, y6]
  refine TCall.val (by simp only [EO]) (laws_heldQuestionS_T β x.answers (kj + 4 + cntL DExport.cnt x.exports + cntL DQuestion.cnt x.questions) (by omega) (by omega) (hox.2.2) _) ?_
  simp only [EV, EL, EB, EF, EM, q_bx, if_true, if_false, Bool.false_eq_true, Nat.reduceAdd, Option.bind_some, Bool.not_true, Bool.not_false, Nat.reduceBEq, Nat.reduceLeDiff, nn_b, nn_s, nn_i, laws_heldLinkS_r, i0, DLink.c, DLink.mk_, bne_self_eq_false, beq_self_eq_true, w0, w1, m1, beq_dec, y2, w3, y4, w5, y6]
  have hfin : k + cntL DLink.cnt (l.take (j + 1)) = kj + 4 + cntL DExport.cnt x.exports + cntL DQuestion.cnt x.questions + cntL DQuestion.cnt x.answers := by rw [htk]; simp only [DLink.cnt]; omega
  exact ⟨j + 1, hlt, by omega, ⟨by rw [hfin, wN (by omega)]; (try simp [laws_heldLinkS_s0, LeL, LeV]), rfl, rfl⟩⟩
theorem laws_heldWireS_T (β : Bool) (l : List DWire) (k : Int) (hk : 0 ≤ k) (hb : k + cntL DWire.cnt l ≤ 9223372036854775000) (hl : l.length ≤ 1073741824) (h : AH) :
    T Tryz.prog Γ Fn.laws_heldWireS [.vs β 2 false ((mkL DWire.mk_ DWire.cnt l k).map (DWire.c β)), .int .i64 k] h fun v h' => v = .int .i64 (k + cntL DWire.cnt l) ∧ h' = h := by
  obtain ⟨M, hM⟩ : ∃ M, M = mkL DWire.mk_ DWire.cnt l k := ⟨_, rfl⟩
  have hlen : M.length = l.length := by rw [hM]; exact mkL_len
  rw [← hM]
  have L0 := len_vm β 2 false M (DWire.c β)
  rw [hlen] at L0
  refine laws_heldWireS_e (aw_sound tabOK mixed [] _ _ _ ?_)
  unfold laws_heldWireS_c
  simp only [EV, EL, EB, EF, EM, q_bx, if_true, if_false, Bool.false_eq_true, Nat.reduceAdd, Option.bind_some, Bool.not_true, Bool.not_false, Nat.reduceBEq, Nat.reduceLeDiff, nn_b, nn_s, nn_i, laws_heldWireS_r]
  refine loopI tabOK mixed [] (fun j : Nat => j ≤ l.length) (fun j => l.length - j)
    (fun j => laws_heldWireS_s0 (.vs β 2 false (M.map (DWire.c β))) (.int .i64 (k + cntL DWire.cnt (l.take j))) (.int .i64 j) [] h) 0 (by omega) ⟨by simp [laws_heldWireS_s0, LeL, LeV, cntL], rfl, rfl⟩ ?_
  intro j hj
  simp only [EV, EL, EB, EF, EM, q_bx, if_true, if_false, Bool.false_eq_true, Nat.reduceAdd, Option.bind_some, Bool.not_true, Bool.not_false, Nat.reduceBEq, Nat.reduceLeDiff, nn_b, nn_s, nn_i, laws_heldWireS_r, laws_heldWireS_s0, L0]
  refine c_split (fun hlt => ?_) (fun hge => ?_)
  rotate_left
  · have hge : j = l.length := by simp at hge; omega
    subst hge
    simp only [EV, EL, EB, EF, EM, q_bx, if_true, if_false, Bool.false_eq_true, Nat.reduceAdd, Option.bind_some, Bool.not_true, Bool.not_false, Nat.reduceBEq, Nat.reduceLeDiff, nn_b, nn_s, nn_i, laws_heldWireS_r]
    rw [List.take_length]
    first | exact ⟨rfl, rfl⟩ | exact rfl
  have hlt : j < l.length := by simpa using hlt
  have htk := cntL_take DWire.cnt hlt
  have hle := cntL_le (c := DWire.cnt) DWire.cnt_nn hlt
  have hnn := cntL_nn (c := DWire.cnt) DWire.cnt_nn (l.take j)
  have hg := mkL_get DWire.mk_ DWire.cnt hlt k
  have hltM : j < M.length := by omega
  have i0 := idx_vm (β := β) (sz := 2) (ex := false) (ce := (DWire.c β)) hltM
  rw [← hM, List.getElem?_eq_getElem hltM] at hg
  injection hg with hg
  rw [hg] at i0
  obtain ⟨x, hx⟩ : ∃ x, x = l[j] := ⟨_, rfl⟩
  try rw [← hx] at i0
  try rw [← hx] at htk hle
  obtain ⟨kj, hkj⟩ : ∃ kj, kj = k + cntL DWire.cnt (l.take j) := ⟨_, rfl⟩
  rw [← hkj] at i0
  rw [← hkj]
  have hk0 : 0 ≤ kj := by omega
  have hkb : kj + DWire.cnt x ≤ 9223372036854775000 := by omega
  simp only [DWire.cnt] at hkb
  have w0 : IntKind.i64.wrap (kj + 1) = kj + 1 := (wrap_nat (by omega) (by omega)).trans (by omega)
  have w1 : IntKind.i64.wrap (kj + 1 + 1) = kj + 2 := (wrap_nat (by omega) (by omega)).trans (by omega)
  simp only [EV, EL, EB, EF, EM, q_bx, if_true, if_false, Bool.false_eq_true, Nat.reduceAdd, Option.bind_some, Bool.not_true, Bool.not_false, Nat.reduceBEq, Nat.reduceLeDiff, nn_b, nn_s, nn_i, laws_heldWireS_r, i0, DWire.c, DWire.mk_, bne_self_eq_false, beq_self_eq_true, w0, w1]
  have hfin : k + cntL DWire.cnt (l.take (j + 1)) = kj + 2 := by rw [htk]; simp only [DWire.cnt]; omega
  exact ⟨j + 1, hlt, by omega, ⟨by rw [hfin, wN (by omega)]; (try simp [laws_heldWireS_s0, LeL, LeV]), rfl, rfl⟩⟩
set_option maxRecDepth 20000 in
theorem laws_heldOutgoingS_T (β : Bool) (l : List DOutgoing) (k : Int) (hk : 0 ≤ k) (hb : k + cntL DOutgoing.cnt l ≤ 9223372036854775000) (hl : l.length ≤ 1073741824) (ho : ∀ x ∈ l, x.ok 1073741824) (h : AH) :
    T Tryz.prog Γ Fn.laws_heldOutgoingS [.vs β 13 false ((mkL DOutgoing.mk_ DOutgoing.cnt l k).map (DOutgoing.c β)), .int .i64 k] h fun v h' => v = .int .i64 (k + cntL DOutgoing.cnt l) ∧ h' = h := by
  obtain ⟨M, hM⟩ : ∃ M, M = mkL DOutgoing.mk_ DOutgoing.cnt l k := ⟨_, rfl⟩
  have hlen : M.length = l.length := by rw [hM]; exact mkL_len
  rw [← hM]
  have L0 := len_vm β 13 false M (DOutgoing.c β)
  rw [hlen] at L0
  refine laws_heldOutgoingS_e (aw_sound tabOK mixed [] _ _ _ ?_)
  unfold laws_heldOutgoingS_c
  simp only [EV, EL, EB, EF, EM, q_bx, if_true, if_false, Bool.false_eq_true, Nat.reduceAdd, Option.bind_some, Bool.not_true, Bool.not_false, Nat.reduceBEq, Nat.reduceLeDiff, nn_b, nn_s, nn_i, laws_heldOutgoingS_r]
  refine loopI tabOK mixed [] (fun j : Nat => j ≤ l.length) (fun j => l.length - j)
    (fun j => laws_heldOutgoingS_s0 (.vs β 13 false (M.map (DOutgoing.c β))) (.int .i64 (k + cntL DOutgoing.cnt (l.take j))) (.int .i64 j) [] h) 0 (by omega) ⟨by simp [laws_heldOutgoingS_s0, LeL, LeV, cntL], rfl, rfl⟩ ?_
  intro j hj
  simp only [EV, EL, EB, EF, EM, q_bx, if_true, if_false, Bool.false_eq_true, Nat.reduceAdd, Option.bind_some, Bool.not_true, Bool.not_false, Nat.reduceBEq, Nat.reduceLeDiff, nn_b, nn_s, nn_i, laws_heldOutgoingS_r, laws_heldOutgoingS_s0, L0]
  refine c_split (fun hlt => ?_) (fun hge => ?_)
  rotate_left
  · have hge : j = l.length := by simp at hge; omega
    subst hge
    simp only [EV, EL, EB, EF, EM, q_bx, if_true, if_false, Bool.false_eq_true, Nat.reduceAdd, Option.bind_some, Bool.not_true, Bool.not_false, Nat.reduceBEq, Nat.reduceLeDiff, nn_b, nn_s, nn_i, laws_heldOutgoingS_r]
    rw [List.take_length]
    first | exact ⟨rfl, rfl⟩ | exact rfl
  have hlt : j < l.length := by simpa using hlt
  have htk := cntL_take DOutgoing.cnt hlt
  have hle := cntL_le (c := DOutgoing.cnt) DOutgoing.cnt_nn hlt
  have hnn := cntL_nn (c := DOutgoing.cnt) DOutgoing.cnt_nn (l.take j)
  have hg := mkL_get DOutgoing.mk_ DOutgoing.cnt hlt k
  have hltM : j < M.length := by omega
  have i0 := idx_vm (β := β) (sz := 13) (ex := false) (ce := (DOutgoing.c β)) hltM
  rw [← hM, List.getElem?_eq_getElem hltM] at hg
  injection hg with hg
  rw [hg] at i0
  obtain ⟨x, hx⟩ : ∃ x, x = l[j] := ⟨_, rfl⟩
  try rw [← hx] at i0
  try rw [← hx] at htk hle
  obtain ⟨kj, hkj⟩ : ∃ kj, kj = k + cntL DOutgoing.cnt (l.take j) := ⟨_, rfl⟩
  rw [← hkj] at i0
  rw [← hkj]
  have hk0 : 0 ≤ kj := by omega
  have hkb : kj + DOutgoing.cnt x ≤ 9223372036854775000 := by omega
  have z0 := cntL_nn (c := DWire.cnt) DWire.cnt_nn x.message.args
  simp only [DOutgoing.cnt] at hkb
  have hox := ho _ (List.getElem_mem hlt); rw [← hx] at hox
  have w0 : IntKind.i64.wrap (kj + 1) = kj + 1 := (wrap_nat (by omega) (by omega)).trans (by omega)
  have w1 : IntKind.i64.wrap (kj + 1 + 1) = kj + 2 := (wrap_nat (by omega) (by omega)).trans (by omega)
  have w2 : IntKind.i64.wrap (kj + 2 + 1) = kj + 3 := (wrap_nat (by omega) (by omega)).trans (by omega)
  have w3 : IntKind.i64.wrap (kj + 3 + 1) = kj + 4 := (wrap_nat (by omega) (by omega)).trans (by omega)
  have w4 : IntKind.i64.wrap (kj + 4 + 1) = kj + 5 := (wrap_nat (by omega) (by omega)).trans (by omega)
  have w5 : IntKind.i64.wrap (kj + 5 + 1) = kj + 6 := (wrap_nat (by omega) (by omega)).trans (by omega)
  have y6 : decide (kj + 6 + cntL DWire.cnt x.message.args < 0) = false := by simp; omega
  have w7 : IntKind.i64.wrap (kj + 6 + cntL DWire.cnt x.message.args + 1) = kj + 7 + cntL DWire.cnt x.message.args := (wrap_nat (by omega) (by omega)).trans (by omega)
  have w8 : IntKind.i64.wrap (kj + 7 + cntL DWire.cnt x.message.args + 1) = kj + 8 + cntL DWire.cnt x.message.args := (wrap_nat (by omega) (by omega)).trans (by omega)
  have w9 : IntKind.i64.wrap (kj + 8 + cntL DWire.cnt x.message.args + 1) = kj + 9 + cntL DWire.cnt x.message.args := (wrap_nat (by omega) (by omega)).trans (by omega)
  have w10 : IntKind.i64.wrap (kj + 9 + cntL DWire.cnt x.message.args + 1) = kj + 10 + cntL DWire.cnt x.message.args := (wrap_nat (by omega) (by omega)).trans (by omega)
  have w11 : IntKind.i64.wrap (kj + 10 + cntL DWire.cnt x.message.args + 1) = kj + 11 + cntL DWire.cnt x.message.args := (wrap_nat (by omega) (by omega)).trans (by omega)
  have w12 : IntKind.i64.wrap (kj + 11 + cntL DWire.cnt x.message.args + 1) = kj + 12 + cntL DWire.cnt x.message.args := (wrap_nat (by omega) (by omega)).trans (by omega)
  simp only [EV, EL, EB, EF, EM, q_bx, if_true, if_false, Bool.false_eq_true, Nat.reduceAdd, Option.bind_some, Bool.not_true, Bool.not_false, Nat.reduceBEq, Nat.reduceLeDiff, nn_b, nn_s, nn_i, laws_heldOutgoingS_r, laws_heldOutgoingS_d0_q, i0, DOutgoing.c, DOutgoing.mk_, bne_self_eq_false, beq_self_eq_true, w0, w1, w2, w3, w4, w5, y6, w7, w8, w9, w10, w11, w12]
  refine TCall.val (by simp only [EO]) (laws_markText_T (kj + 5) (by omega) (by omega) _) ?_
  simp only [EV, EL, EB, EF, EM, q_bx, if_true, if_false, Bool.false_eq_true, Nat.reduceAdd, Option.bind_some, Bool.not_true, Bool.not_false, Nat.reduceBEq, Nat.reduceLeDiff, nn_b, nn_s, nn_i, laws_heldOutgoingS_r, laws_heldOutgoingS_d0_q, i0, DOutgoing.c, DOutgoing.mk_, bne_self_eq_false, beq_self_eq_true, w0, w1, w2, w3, w4, w5, y6, w7, w8, w9, w10, w11, w12]
  refine TCall.val (by simp only [EO]) (laws_heldWireS_T β x.message.args (kj + 6) (by omega) (by omega) (hox.2) _) ?_
  simp only [EV, EL, EB, EF, EM, q_bx, if_true, if_false, Bool.false_eq_true, Nat.reduceAdd, Option.bind_some, Bool.not_true, Bool.not_false, Nat.reduceBEq, Nat.reduceLeDiff, nn_b, nn_s, nn_i, laws_heldOutgoingS_r, laws_heldOutgoingS_d0_q, i0, DOutgoing.c, DOutgoing.mk_, bne_self_eq_false, beq_self_eq_true, w0, w1, w2, w3, w4, w5, y6, w7, w8, w9, w10, w11, w12]
  have hfin : k + cntL DOutgoing.cnt (l.take (j + 1)) = kj + 12 + cntL DWire.cnt x.message.args := by rw [htk]; simp only [DOutgoing.cnt]; omega
  exact ⟨j + 1, hlt, by omega, ⟨by rw [hfin, wN (by omega)]; (try simp [laws_heldOutgoingS_s0, LeL, LeV]), rfl, rfl⟩⟩
theorem laws_heldGiftS_T (β : Bool) (l : List DGift) (k : Int) (hk : 0 ≤ k) (hb : k + cntL DGift.cnt l ≤ 9223372036854775000) (hl : l.length ≤ 1073741824) (h : AH) :
    T Tryz.prog Γ Fn.laws_heldGiftS [.vs β 4 false ((mkL DGift.mk_ DGift.cnt l k).map (DGift.c β)), .int .i64 k] h fun v h' => v = .int .i64 (k + cntL DGift.cnt l) ∧ h' = h := by
  obtain ⟨M, hM⟩ : ∃ M, M = mkL DGift.mk_ DGift.cnt l k := ⟨_, rfl⟩
  have hlen : M.length = l.length := by rw [hM]; exact mkL_len
  rw [← hM]
  have L0 := len_vm β 4 false M (DGift.c β)
  rw [hlen] at L0
  refine laws_heldGiftS_e (aw_sound tabOK mixed [] _ _ _ ?_)
  unfold laws_heldGiftS_c
  simp only [EV, EL, EB, EF, EM, q_bx, if_true, if_false, Bool.false_eq_true, Nat.reduceAdd, Option.bind_some, Bool.not_true, Bool.not_false, Nat.reduceBEq, Nat.reduceLeDiff, nn_b, nn_s, nn_i, laws_heldGiftS_r]
  refine loopI tabOK mixed [] (fun j : Nat => j ≤ l.length) (fun j => l.length - j)
    (fun j => laws_heldGiftS_s0 (.vs β 4 false (M.map (DGift.c β))) (.int .i64 (k + cntL DGift.cnt (l.take j))) (.int .i64 j) [] h) 0 (by omega) ⟨by simp [laws_heldGiftS_s0, LeL, LeV, cntL], rfl, rfl⟩ ?_
  intro j hj
  simp only [EV, EL, EB, EF, EM, q_bx, if_true, if_false, Bool.false_eq_true, Nat.reduceAdd, Option.bind_some, Bool.not_true, Bool.not_false, Nat.reduceBEq, Nat.reduceLeDiff, nn_b, nn_s, nn_i, laws_heldGiftS_r, laws_heldGiftS_s0, L0]
  refine c_split (fun hlt => ?_) (fun hge => ?_)
  rotate_left
  · have hge : j = l.length := by simp at hge; omega
    subst hge
    simp only [EV, EL, EB, EF, EM, q_bx, if_true, if_false, Bool.false_eq_true, Nat.reduceAdd, Option.bind_some, Bool.not_true, Bool.not_false, Nat.reduceBEq, Nat.reduceLeDiff, nn_b, nn_s, nn_i, laws_heldGiftS_r]
    rw [List.take_length]
    first | exact ⟨rfl, rfl⟩ | exact rfl
  have hlt : j < l.length := by simpa using hlt
  have htk := cntL_take DGift.cnt hlt
  have hle := cntL_le (c := DGift.cnt) DGift.cnt_nn hlt
  have hnn := cntL_nn (c := DGift.cnt) DGift.cnt_nn (l.take j)
  have hg := mkL_get DGift.mk_ DGift.cnt hlt k
  have hltM : j < M.length := by omega
  have i0 := idx_vm (β := β) (sz := 4) (ex := false) (ce := (DGift.c β)) hltM
  rw [← hM, List.getElem?_eq_getElem hltM] at hg
  injection hg with hg
  rw [hg] at i0
  obtain ⟨x, hx⟩ : ∃ x, x = l[j] := ⟨_, rfl⟩
  try rw [← hx] at i0
  try rw [← hx] at htk hle
  obtain ⟨kj, hkj⟩ : ∃ kj, kj = k + cntL DGift.cnt (l.take j) := ⟨_, rfl⟩
  rw [← hkj] at i0
  rw [← hkj]
  have hk0 : 0 ≤ kj := by omega
  have hkb : kj + DGift.cnt x ≤ 9223372036854775000 := by omega
  simp only [DGift.cnt] at hkb
  have w0 : IntKind.i64.wrap (kj + 1) = kj + 1 := (wrap_nat (by omega) (by omega)).trans (by omega)
  have w1 : IntKind.i64.wrap (kj + 1 + 1) = kj + 2 := (wrap_nat (by omega) (by omega)).trans (by omega)
  have w2 : IntKind.i64.wrap (kj + 2 + 1) = kj + 3 := (wrap_nat (by omega) (by omega)).trans (by omega)
  have w3 : IntKind.i64.wrap (kj + 3 + 1) = kj + 4 := (wrap_nat (by omega) (by omega)).trans (by omega)
  simp only [EV, EL, EB, EF, EM, q_bx, if_true, if_false, Bool.false_eq_true, Nat.reduceAdd, Option.bind_some, Bool.not_true, Bool.not_false, Nat.reduceBEq, Nat.reduceLeDiff, nn_b, nn_s, nn_i, laws_heldGiftS_r, i0, DGift.c, DGift.mk_, bne_self_eq_false, beq_self_eq_true, w0, w1, w2, w3]
  have hfin : k + cntL DGift.cnt (l.take (j + 1)) = kj + 4 := by rw [htk]; simp only [DGift.cnt]; omega
  exact ⟨j + 1, hlt, by omega, ⟨by rw [hfin, wN (by omega)]; (try simp [laws_heldGiftS_s0, LeL, LeV]), rfl, rfl⟩⟩
theorem laws_markVat_T (x : DVat) (k : Int) (hk : 0 ≤ k) (hb : k + x.cntA ≤ 9223372036854775000) (hx : x.ok 1073741824) (H : AH) {aa : List AV} {fp : List Nat} (o : OwnL H aa x.cd fp) (nd : fp.Nodup) :
    T Tryz.prog Γ Fn.laws_markVat [.agg aa, .int .i64 k] H fun v h' => v = .int .i64 (k + x.cntA) ∧ (h'.length = H.length ∧ (∀ c, c ∉ fp → h'[c]? = H[c]?) ∧ OwnL h' aa (x.mkA k).cd fp) := by
  have z0 := cntL_nn (c := DEntity.cnt) DEntity.cnt_nn x.entities
  have z1 := cntL_nn (c := DSent.cnt) DSent.cnt_nn x.loop
  have z2 := cntL_nn (c := DLink.cnt) DLink.cnt_nn x.links
  have z3 := cntL_nn (c := DOutgoing.cnt) DOutgoing.cnt_nn x.out
  simp only [DVat.cntA] at hb
  simp only [DVat.cd, ownL_c, ownL_n, own_i, own_b, own_s] at o
  obtain ⟨_, _, _, _, rfl, e0z, ⟨rfl, rfl⟩, ⟨a1, _, g1, _, rfl, e1z, u1, ⟨a2, _, g2, _, rfl, e2z, u2, ⟨a3, _, g3, _, rfl, e3z, u3, ⟨a4, _, g4, _, rfl, e4z, u4, ⟨rfl, e5z⟩⟩⟩⟩⟩⟩ := o
  have hfxe : fp = (g1 ++ (g2 ++ (g3 ++ (g4 ++ [])))) := by rw [e0z, e1z, e2z, e3z, e4z, e5z]; simp
  have ow : OwnL H [a1, a2, a3, a4] [(.sl 12 (x.entities.map DEntity.cd)), (.sl 7 (x.loop.map DSent.cd)), (.sl 7 (x.links.map DLink.cd)), (.sl 13 (x.out.map DOutgoing.cd))] fp := by rw [hfxe]; exact (.o u1 (.o u2 (.o u3 (.o u4 .nil))))
  obtain ⟨c1a, c1b, c1c, c1d⟩ := u1.cell
  obtain ⟨c2a, c2b, c2c, c2d⟩ := u2.cell
  obtain ⟨c3a, c3b, c3c, c3d⟩ := u3.cell
  obtain ⟨c4a, c4b, c4c, c4d⟩ := u4.cell
  clear e0z e1z e2z e3z e4z e5z hfxe
  have fr0 : ∀ c, c ∉ fp → H[c]? = H[c]? := fun _ _ => rfl
  have len0 : H.length = H.length := rfl
  refine laws_markVat_e (aw_sound tabOK mixed [] _ _ _ ?_)
  unfold laws_markVat_c
  simp only [EV, EL, EB, EF, EM, q_bx, if_true, if_false, Bool.false_eq_true, Nat.reduceAdd, Option.bind_some, Bool.not_true, Bool.not_false, Nat.reduceBEq, Nat.reduceLeDiff, nn_b, nn_s, nn_i, laws_markVat_r, c1a, c1b, c1c, c2a, c2b, c2c, c3a, c3b, c3c, c4a, c4b, c4c, EB2]
  obtain ⟨gi0, oi0, ni0, si0, bk0⟩ := OwnL.pick (A := []) (D := []) rfl ow nd
  refine TCall.ref (by simp only [EO, c1d]) (laws_markEntityS_T x.entities (k) (by omega) (by omega) (hx.1) (hx.2.1) _ oi0 ni0) ?_
  rintro _ h0 ⟨rfl, hlen0, hfr0, un0⟩
  replace ow := bk0 h0 _ hfr0 un0
  have fr1 : ∀ c, c ∉ fp → h0[c]? = H[c]? := fun c hc => (hfr0 c (fun h => hc (si0 c h))).trans (fr0 c hc)
  have len1 : h0.length = H.length := hlen0.trans len0
  simp only [EV, EL, EB, EF, EM, q_bx, if_true, if_false, Bool.false_eq_true, Nat.reduceAdd, Option.bind_some, Bool.not_true, Bool.not_false, Nat.reduceBEq, Nat.reduceLeDiff, nn_b, nn_s, nn_i, laws_markVat_r, c1a, c1b, c1c, c2a, c2b, c2c, c3a, c3b, c3c, c4a, c4b, c4c, EB2]
  obtain ⟨gi1, oi1, ni1, si1, bk1⟩ := OwnL.pick (A := [a1]) (D := [_]) rfl ow nd
  refine TCall.ref (by simp only [EO, c2d]) (laws_markSentS_T x.loop (k + cntL DEntity.cnt x.entities) (by omega) (by omega) (hx.2.2.1) (hx.2.2.2.1) _ oi1 ni1) ?_
  rintro _ h1 ⟨rfl, hlen1, hfr1, un1⟩
  replace ow := bk1 h1 _ hfr1 un1
  have fr2 : ∀ c, c ∉ fp → h1[c]? = H[c]? := fun c hc => (hfr1 c (fun h => hc (si1 c h))).trans (fr1 c hc)
  have len2 : h1.length = H.length := hlen1.trans len1
  simp only [EV, EL, EB, EF, EM, q_bx, if_true, if_false, Bool.false_eq_true, Nat.reduceAdd, Option.bind_some, Bool.not_true, Bool.not_false, Nat.reduceBEq, Nat.reduceLeDiff, nn_b, nn_s, nn_i, laws_markVat_r, c1a, c1b, c1c, c2a, c2b, c2c, c3a, c3b, c3c, c4a, c4b, c4c, EB2]
  obtain ⟨gi2, oi2, ni2, si2, bk2⟩ := OwnL.pick (A := [a1, a2]) (D := [_, _]) rfl ow nd
  refine TCall.ref (by simp only [EO, c3d]) (laws_markLinkS_T x.links (k + cntL DEntity.cnt x.entities + cntL DSent.cnt x.loop) (by omega) (by omega) (hx.2.2.2.2.1) (hx.2.2.2.2.2.1) _ oi2 ni2) ?_
  rintro _ h2 ⟨rfl, hlen2, hfr2, un2⟩
  replace ow := bk2 h2 _ hfr2 un2
  have fr3 : ∀ c, c ∉ fp → h2[c]? = H[c]? := fun c hc => (hfr2 c (fun h => hc (si2 c h))).trans (fr2 c hc)
  have len3 : h2.length = H.length := hlen2.trans len2
  simp only [EV, EL, EB, EF, EM, q_bx, if_true, if_false, Bool.false_eq_true, Nat.reduceAdd, Option.bind_some, Bool.not_true, Bool.not_false, Nat.reduceBEq, Nat.reduceLeDiff, nn_b, nn_s, nn_i, laws_markVat_r, c1a, c1b, c1c, c2a, c2b, c2c, c3a, c3b, c3c, c4a, c4b, c4c, EB2]
  obtain ⟨gi3, oi3, ni3, si3, bk3⟩ := OwnL.pick (A := [a1, a2, a3]) (D := [_, _, _]) rfl ow nd
  refine TCall.ref (by simp only [EO, c4d]) (laws_markOutgoingS_T x.out (k + cntL DEntity.cnt x.entities + cntL DSent.cnt x.loop + cntL DLink.cnt x.links) (by omega) (by omega) (hx.2.2.2.2.2.2.1) (hx.2.2.2.2.2.2.2) _ oi3 ni3) ?_
  rintro _ h3 ⟨rfl, hlen3, hfr3, un3⟩
  replace ow := bk3 h3 _ hfr3 un3
  have fr4 : ∀ c, c ∉ fp → h3[c]? = H[c]? := fun c hc => (hfr3 c (fun h => hc (si3 c h))).trans (fr3 c hc)
  have len4 : h3.length = H.length := hlen3.trans len3
  simp only [EV, EL, EB, EF, EM, q_bx, if_true, if_false, Bool.false_eq_true, Nat.reduceAdd, Option.bind_some, Bool.not_true, Bool.not_false, Nat.reduceBEq, Nat.reduceLeDiff, nn_b, nn_s, nn_i, laws_markVat_r, c1a, c1b, c1c, c2a, c2b, c2c, c3a, c3b, c3c, c4a, c4b, c4c, EB2]
  refine ⟨rfl, by simp only [DVat.cntA, Int.zero_add, Int.add_assoc], ?_⟩
  refine ⟨len4, fr4, ?_⟩
  obtain ⟨F0, R0, E0, O0, ⟨F1, R1, E1, O1, ⟨F2, R2, E2, O2, ⟨F3, R3, E3, O3, hz⟩⟩⟩⟩ := ow
  have hz : R3 = [] := hz
  rw [E0, E1, E2, E3, hz]; exact (.i (.o O0 (.o O1 (.o O2 (.o O3 .nil)))))
theorem laws_heldVat_T (β : Bool) (x : DVat) (k : Int) (hk : 0 ≤ k) (hb : k + x.cntA ≤ 9223372036854775000) (hx : x.ok 1073741824) (h : AH) :
    T Tryz.prog Γ Fn.laws_heldVat [.agg ((x.mkA k).c β), .int .i64 k] h fun v h' => v = .int .i64 (k + x.cntA) ∧ h' = h := by
  have z0 := cntL_nn (c := DEntity.cnt) DEntity.cnt_nn x.entities
  have z1 := cntL_nn (c := DSent.cnt) DSent.cnt_nn x.loop
  have z2 := cntL_nn (c := DLink.cnt) DLink.cnt_nn x.links
  have z3 := cntL_nn (c := DOutgoing.cnt) DOutgoing.cnt_nn x.out
  simp only [DVat.cntA] at hb
  have y0 : decide (k + cntL DEntity.cnt x.entities < 0) = false := by simp; omega
  have y1 : decide (k + cntL DEntity.cnt x.entities + cntL DSent.cnt x.loop < 0) = false := by simp; omega
  have y2 : decide (k + cntL DEntity.cnt x.entities + cntL DSent.cnt x.loop + cntL DLink.cnt x.links < 0) = false := by simp; omega
  have y3 : decide (k + cntL DEntity.cnt x.entities + cntL DSent.cnt x.loop + cntL DLink.cnt x.links + cntL DOutgoing.cnt x.out < 0) = false := by simp; omega
  refine laws_heldVat_e (aw_sound tabOK mixed [] _ _ _ ?_)
  unfold laws_heldVat_c
  simp only [EV, EL, EB, EF, EM, q_bx, if_true, if_false, Bool.false_eq_true, Nat.reduceAdd, Option.bind_some, Bool.not_true, Bool.not_false, Nat.reduceBEq, Nat.reduceLeDiff, nn_b, nn_s, nn_i, laws_heldVat_r, DVat.c, DVat.mkA, EB2, y0, y1, y2, y3]
  refine TCall.val (by simp only [EO]) (laws_heldEntityS_T β x.entities (k) (by omega) (by omega) (hx.1) (hx.2.1) _) ?_
  simp only [EV, EL, EB, EF, EM, q_bx, if_true, if_false, Bool.false_eq_true, Nat.reduceAdd, Option.bind_some, Bool.not_true, Bool.not_false, Nat.reduceBEq, Nat.reduceLeDiff, nn_b, nn_s, nn_i, laws_heldVat_r, DVat.c, DVat.mkA, EB2, y0, y1, y2, y3]
  refine TCall.val (by simp only [EO]) (laws_heldSentS_T β x.loop (k + cntL DEntity.cnt x.entities) (by omega) (by omega) (hx.2.2.1) (hx.2.2.2.1) _) ?_
  simp only [EV, EL, EB, EF, EM, q_bx, if_true, if_false, Bool.false_eq_true, Nat.reduceAdd, Option.bind_some, Bool.not_true, Bool.not_false, Nat.reduceBEq, Nat.reduceLeDiff, nn_b, nn_s, nn_i, laws_heldVat_r, DVat.c, DVat.mkA, EB2, y0, y1, y2, y3]
  refine TCall.val (by simp only [EO]) (laws_heldLinkS_T β x.links (k + cntL DEntity.cnt x.entities + cntL DSent.cnt x.loop) (by omega) (by omega) (hx.2.2.2.2.1) (hx.2.2.2.2.2.1) _) ?_
  simp only [EV, EL, EB, EF, EM, q_bx, if_true, if_false, Bool.false_eq_true, Nat.reduceAdd, Option.bind_some, Bool.not_true, Bool.not_false, Nat.reduceBEq, Nat.reduceLeDiff, nn_b, nn_s, nn_i, laws_heldVat_r, DVat.c, DVat.mkA, EB2, y0, y1, y2, y3]
  refine TCall.val (by simp only [EO]) (laws_heldOutgoingS_T β x.out (k + cntL DEntity.cnt x.entities + cntL DSent.cnt x.loop + cntL DLink.cnt x.links) (by omega) (by omega) (hx.2.2.2.2.2.2.1) (hx.2.2.2.2.2.2.2) _) ?_
  simp only [EV, EL, EB, EF, EM, q_bx, if_true, if_false, Bool.false_eq_true, Nat.reduceAdd, Option.bind_some, Bool.not_true, Bool.not_false, Nat.reduceBEq, Nat.reduceLeDiff, nn_b, nn_s, nn_i, laws_heldVat_r, DVat.c, DVat.mkA, EB2, y0, y1, y2, y3]
  refine ⟨rfl, ?_⟩; simp only [DVat.cntA, Int.zero_add, Int.add_assoc]
end Go.Proofs.YtleddolmolkpfaaGreat

