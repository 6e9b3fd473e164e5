import Derived.Test.YtleddolmolkpfaaGreatR5H
import Derived.Test.YtleddolmolkpfaaGreatAmApp2
set_option linter.unusedVariables false
set_option linter.unusedSimpArgs false
namespace Go.Proofs.YtleddolmolkpfaaGreat
open Go.AM
set_option linter.unusedVariables false
set_option linter.unusedSimpArgs false
set_option maxHeartbeats 1000000
theorem EZM : type_of% (And.intro EV (And.intro EL (And.intro EB (And.intro EF (And.intro EM (And.intro @Bool.false_eq_true (And.intro @Bool.not_true (And.intro @Bool.not_false (And.intro @nn_b (And.intro @nn_s (@nn_i))))))))))) := And.intro EV (And.intro EL (And.intro EB (And.intro EF (And.intro EM (And.intro @Bool.false_eq_true (And.intro @Bool.not_true (And.intro @Bool.not_false (And.intro @nn_b (And.intro @nn_s (@nn_i))))))))))
variable {Γ : Glob}
theorem kbt_T (k : Int) (hk : 0 ≤ k) (hb : k ≤ 9223372036854775000) (h : AH) : T Tryz.prog Γ Fn.kbt [.int .i64 k] h fun v h' => v = .str (markT k) ∧ h' = h := by
  refine (?_ : T Tryz.prog Γ Fn.kbt _ h fun v h' => v = .str (markT k) ∧ ∃ N, h' = h ++ N).drop (by rintro v h' ⟨rfl, N, rfl⟩; exact ⟨N, rfl, .str _, rfl, rfl⟩)
  refine kbt_e (aw_sound tabOK mixed [] _ _ _ ?_)
  unfold kbt_c
  simp only [EZM, q_bx, if_true, if_false, Nat.reduceAdd, Option.bind_some, Nat.reduceBEq, Nat.reduceLeDiff, kbt_r]
  by_cases h0 : k ≤ 0
  · simp only [EZM, q_bx, if_true, if_false, Nat.reduceAdd, Option.bind_some, Nat.reduceBEq, Nat.reduceLeDiff, kbt_r, decide_eq_true h0]
    exact ⟨rfl, by rw [markT, if_pos h0], [], by simp⟩
  simp only [EZM, q_bx, if_true, if_false, Nat.reduceAdd, Option.bind_some, Nat.reduceBEq, Nat.reduceLeDiff, kbt_r, decide_eq_false h0]
  have hm : markT k = ⟨#[109]⟩ ++ digN k.toNat ⟨#[]⟩ := by rw [markT, if_neg h0]
  refine loopI tabOK mixed [] (fun x : Nat × ByteArray × AH => digN k.toNat ⟨#[]⟩ = digN x.1 x.2.1 ∧ x.1 + x.2.1.size ≤ 9223372036854775000 ∧ ∃ N, x.2.2 = h ++ N) (fun x => x.1)
    (fun x => kbt_s0 (.int .i64 x.1) (.str x.2.1) [] x.2.2) (k.toNat, ⟨#[]⟩, h) ⟨rfl, (by simp only [show (ByteArray.mk #[]).size = 0 from rfl]; omega), [], by simp⟩ ⟨by
      have : ((k.toNat : Nat) : Int) = k := by omega
      simp [kbt_s0, LeL, LeV, this], rfl, rfl⟩ ?_
  rintro ⟨n, s, H⟩ ⟨hI, hs, N, hN⟩
  simp only at hI hs hN
  simp only [EZM, q_bx, if_true, if_false, Nat.reduceAdd, Option.bind_some, Nat.reduceBEq, Nat.reduceLeDiff, kbt_s0]
  by_cases hn : (0 : Int) < (n : Int)
  rotate_left
  · have : n = 0 := by omega
    subst this
    have e0 : digN 0 s = s := by unfold digN; rw [dif_pos rfl]
    have ead : aBin .add .num (.str ⟨#[109]⟩) (.str s) = some (.str (⟨#[109]⟩ ++ s)) := by
      have : (ByteArray.mk #[109]).size = 1 := rfl
      have : IntKind.i64.max = 9223372036854775807 := rfl
      simp only [aBin]; rw [if_neg]; omega
    simp only [EZM, q_bx, if_true, if_false, Nat.reduceAdd, Option.bind_some, Nat.reduceBEq, Nat.reduceLeDiff, kbt_r, decide_eq_false hn, ead]
    exact ⟨rfl, by rw [hm, hI, e0], N, hN⟩
  have hnp : 0 < n := by omega
  have er : aBin .rem .num (.int .i64 (n : Int)) (.int .i64 10) = some (.int .i64 ((n % 10 : Nat) : Int)) := by
    simp only [aBin, aArith, if_true]; rw [if_neg (by decide)]; simp [Int.tmod_eq_emod_of_nonneg]
  have eq : aBin .quo .num (.int .i64 (n : Int)) (.int .i64 10) = some (.int .i64 ((n / 10 : Nat) : Int)) := by
    simp only [aBin, aArith, if_true]; rw [if_neg (by decide), Int.tdiv_eq_ediv_of_nonneg (by omega), wrap_nat (by omega) (by omega)]; simp
  have ew : IntKind.i64.wrap (48 + ((n % 10 : Nat) : Int)) = ((48 + n % 10 : Nat) : Int) := by rw [wrap_nat (by omega) (by omega)]; simp
  have ec : IntKind.u8.wrap ((48 + n % 10 : Nat) : Int) = ((48 + n % 10 : Nat) : Int) := by
    simp [IntKind.wrap, IntKind.bits, IntKind.signed]; omega
  have p_cvi : ∀ (gl : Bool) (s : St) (x : X) (m : Int), s.eval Γ x = .int .i64 m → AM.step Γ gl s (.cvi .u8 x) = .val (.int .u8 (IntKind.u8.wrap m)) s := fun gl s x m e => by simp only [AM.step, e]
  have p_cvt : ∀ (gl : Bool) (e : List AV) (l : List (List AV)) (c : Nat), (St.mk e l (H ++ [some (0, [.int .u8 (c : Int)])])).eval Γ (.t 12) = .gs H.length 0 0 1 1 1 true → AM.step Γ gl (St.mk e l (H ++ [some (0, [.int .u8 (c : Int)])])) (.cvt (.t 12)) = .val (.str ⟨#[UInt8.ofNat c]⟩) (St.mk e l (H ++ [some (0, [.int .u8 (c : Int)])])) := fun gl e l c he => by
    simp only [AM.step, he, St.sliceCells, if_true, hget_last, Option.bind_some]
    simp [sub, bytesOfCells, AR.ofO]
  have ead : ∀ c : UInt8, aBin .add .num (.str ⟨#[c]⟩) (.str s) = some (.str (⟨#[c]⟩ ++ s)) := fun c => by
    have : (ByteArray.mk #[c]).size = 1 := rfl
    have : IntKind.i64.max = 9223372036854775807 := rfl
    simp only [aBin]; rw [if_neg]; omega
  have hcv : ∀ (e : List AV) (l : List (List AV)) (h : AH) (gl : Bool) (x : X) (m : Int), (St.mk e l h).eval Γ x = .int .i64 m → AM.step Γ gl (St.mk e l h) (.cvi .u8 x) = .val (.int .u8 (IntKind.u8.wrap m)) (St.mk e l h) := fun e l h gl x m he => p_cvi gl _ x m he
  simp only [EZM, q_bx, if_true, if_false, Nat.reduceAdd, Option.bind_some, Nat.reduceBEq, Nat.reduceLeDiff, kbt_r, decide_eq_true hn, er, eq, ew]
  rw [hcv _ _ _ _ _ _ rfl, ec]
  simp only [EZM, q_bx, if_true, if_false, Nat.reduceAdd, Option.bind_some, Nat.reduceBEq, Nat.reduceLeDiff, kbt_r, List.replicate, List.flatten_cons, List.flatten_nil, app_n, app_c, Nat.zero_mul, bslK_s _ _ _ _ _ _ (show List.all [AV.int .u8 ((48 + n % 10 : Nat) : Int)] noLp = true from rfl)]
  rw [p_cvt _ _ _ _ rfl]
  simp only [EZM, q_bx, if_true, if_false, Nat.reduceAdd, Option.bind_some, Nat.reduceBEq, Nat.reduceLeDiff, kbt_r, ead, eq]
  refine ⟨(n / 10, ⟨#[UInt8.ofNat (48 + n % 10)]⟩ ++ s, H ++ [some (0, [.int .u8 ((48 + n % 10 : Nat) : Int)])]), ⟨?_, ?_, N ++ _, by simp only; rw [hN, List.append_assoc]⟩, by simp only; omega, ⟨by simp [kbt_s0, LeL, LeV], rfl, rfl⟩⟩
  · simp only; rw [hI]; conv => lhs; unfold digN
    rw [dif_neg (by omega)]
  · simp only [ByteArray.size_append]
    have : (ByteArray.mk #[UInt8.ofNat (48 + n % 10)]).size = 1 := rfl
    omega
theorem kbu_T (l : List DValue) (k : Int) (hk : 0 ≤ k) (hb : k + cntL DValue.cnt l ≤ 9223372036854775000) (hl : l.length ≤ 1073741824) (H : AH) {a : AV} {fp : List Nat} (o : Own H a (.sl 2 (l.map DValue.cd)) fp) (nd : fp.Nodup) :
    T Tryz.prog Γ Fn.kbu [a, .int .i64 k] H fun v h' => v = .int .i64 (k + cntL DValue.cnt l) ∧ (h'.length = H.length ∧ (∀ c, c ∉ fp → h'[c]? = H[c]?) ∧ Own h' a (.sl 2 ((mkL DValue.mk_ DValue.cnt l k).map DValue.cd)) fp) := by
  rcases o.sl_inv with ⟨rfl, e, rfl⟩ | ⟨b, g, cap, ex, as0, tail, fp, rfl, rfl, hg, hsz, ht, hc, hown⟩
  · have e : l = [] := by simpa using e
    subst e
    have L0 : lenI false .nils = some (.int .i64 0) := rfl
    refine kbu_e (aw_sound tabOK mixed [] _ _ _ ?_)
    unfold kbu_c
    simp only [EZM, q_bx, if_true, if_false, Nat.reduceAdd, Option.bind_some, Nat.reduceBEq, Nat.reduceLeDiff, kbu_r]
    refine loopI tabOK mixed [] (fun _ : Unit => True) (fun _ => 0) (fun _ => kbu_s0 .nils (.int .i64 k) (.int .i64 0) [] H) () trivial ⟨by simp [kbu_s0, LeL, LeV], rfl, rfl⟩ ?_
    intro _ _
    simp only [EZM, q_bx, if_true, if_false, Nat.reduceAdd, Option.bind_some, Nat.reduceBEq, Nat.reduceLeDiff, kbu_r, kbu_s0, L0, show decide ((0 : Int) < 0) = false from rfl]
    refine ⟨rfl, by simp [cntL], ?_⟩
    first | exact ⟨rfl, fun _ _ => rfl, .nil _⟩ | exact ⟨fun _ _ => trivial, .nil _⟩
  simp only [List.length_map] at hc o ⊢
  have L0 : lenI false (.gs b g 0 l.length cap 2 ex) = some (.int .i64 l.length) := rfl
  have hbf : b ∉ fp := (List.nodup_cons.1 nd).1
  refine kbu_e (aw_sound tabOK mixed [] _ _ _ ?_)
  unfold kbu_c
  simp only [EZM, q_bx, if_true, if_false, Nat.reduceAdd, Option.bind_some, Nat.reduceBEq, Nat.reduceLeDiff, kbu_r]
  refine loopI tabOK mixed [] (fun y : Nat × AH × List AV × List AV × List Nat × List Nat => y.1 ≤ l.length ∧ MInv H b g tail fp DValue.cd (l.drop y.1) (mkL DValue.mk_ DValue.cnt (l.take y.1) k) y.2.1 y.2.2.1 y.2.2.2.1 y.2.2.2.2.1 y.2.2.2.2.2) (fun y => l.length - y.1)
    (fun y => kbu_s0 (.gs b g 0 l.length cap 2 ex) (.int .i64 (k + cntL DValue.cnt (l.take y.1))) (.int .i64 y.1) [] y.2.1) (0, H, [], as0, [], fp) ⟨by simp, by simpa [mkL] using MInv.start hg hown⟩ ⟨by simp [kbu_s0, LeL, LeV, cntL], rfl, rfl⟩ ?_
  rintro ⟨j, H', as1, as2, f1, f2⟩ ⟨hj, iv⟩
  simp only at hj iv
  simp only [EZM, q_bx, if_true, if_false, Nat.reduceAdd, Option.bind_some, Nat.reduceBEq, Nat.reduceLeDiff, kbu_r, kbu_s0, L0]
  refine c_split (fun hlt => ?_) (fun hge => ?_)
  rotate_left
  · have hge : j = l.length := by simp at hge; omega
    subst hge
    simp only [EZM, q_bx, if_true, if_false, Nat.reduceAdd, Option.bind_some, Nat.reduceBEq, Nat.reduceLeDiff, kbu_r]
    rw [List.drop_length, List.take_length] at iv
    rw [List.take_length]
    exact ⟨rfl, rfl, iv.done mkL_len (fun _ => rfl) ht hc⟩
  have hlt : j < l.length := by simpa using hlt
  have htk := cntL_take DValue.cnt hlt
  have hle := cntL_le (c := DValue.cnt) DValue.cnt_nn hlt
  have hnn := cntL_nn (c := DValue.cnt) DValue.cnt_nn (l.take j)
  have hmt := mkL_take DValue.mk_ DValue.cnt hlt k
  rw [List.drop_eq_getElem_cons hlt] at iv
  obtain ⟨x, hx⟩ : ∃ x, x = l[j] := ⟨_, rfl⟩
  rw [← hx] at iv
  try rw [← hx] at htk hle
  try rw [← hx] at hmt
  obtain ⟨kj, hkj⟩ : ∃ kj, kj = k + cntL DValue.cnt (l.take j) := ⟨_, rfl⟩
  rw [← hkj] at hmt
  rw [← hkj]
  have hk0 : 0 ≤ kj := by omega
  have hkb : kj + DValue.cnt x ≤ 9223372036854775000 := by omega
  obtain ⟨h1, h2, cs, post, fx, fr, e1, e2, rfl, rfl, q1, q2⟩ := iv.open
  have hfx : ∀ c ∈ fx, c ≠ b := fun c hc e => hbf (by rw [iv.fps, ← e]; simp [hc])
  have ndx : fx.Nodup := (List.nodup_append.1 (List.nodup_append.1 (iv.fps ▸ (List.nodup_cons.1 nd).2)).2.1).1
  have hn0 : as1.length = j * 2 := by rw [iv.o1.len, flat_len' (sz := 2) (fun y _ => rfl), mkL_len, List.length_take, Nat.min_eq_left hj]
  have i0 : aIdxs 2 (.gs b g 0 l.length cap 2 ex) (j : Int) = some (.gp b g as1.length) := by rw [idx_gs hlt, hn0, Nat.zero_add]
  simp only [DValue.cnt] at hkb
  simp only [DValue.cd, ownL_c, ownL_n, own_i, own_b, own_s] at q1
  obtain ⟨_, _, _, _, rfl, e0z, ⟨rfl, rfl⟩, ⟨_, _, _, _, rfl, e1z, ⟨rfl, rfl⟩, ⟨rfl, e2z⟩⟩⟩ := q1
  have hfxe : fx = [] := by rw [e0z, e1z, e2z]; simp
  have ow : OwnL H' [] [] fx := by rw [hfxe]; exact .nil
  have hlen0 := (rfl : H'.length = H'.length)
  have fr0 : ∀ c, c ≠ b → c ∉ fx → H'[c]? = H'[c]? := fun _ _ _ => rfl
  have w0 : IntKind.i64.wrap (kj + 1) = kj + 1 := (wrap_nat (by omega) (by omega)).trans (by omega)
  have w1 : IntKind.i64.wrap (kj + 1 + 1) = kj + 2 := (wrap_nat (by omega) (by omega)).trans (by omega)
  obtain ⟨H0, hH0⟩ : ∃ H0, H0 = H' := ⟨_, rfl⟩
  rw [← hH0] at iv q2 ow fr0 hlen0
  have fr0 : ∀ c, c ≠ b → c ∉ fx → H'[c]? = H0[c]? := fun _ _ _ => by rw [hH0]
  have hlen0 : H'.length = H0.length := by rw [hH0]
  rw [hH0] at ow
  replace e1 : H' = h1 ++ some (g, as1 ++ elc [.int .i64 x.kind, .int .i64 x.n] (post ++ tail)) :: h2 := e1
  subst e1
  simp only [EZM, q_bx, if_true, if_false, Nat.reduceAdd, Option.bind_some, Nat.reduceBEq, Nat.reduceLeDiff, kbu_r, i0, st_el e2 rfl, rd_el e2 rfl, w0, w1]
  refine ⟨(j + 1, _, as1 ++ [.int .i64 (kj), .int .i64 (kj + 1)], post, f1 ++ [], fr), ⟨hlt, ?inv⟩, (by simp only; omega), ⟨?le, rfl, rfl⟩⟩
  case inv =>
    simp only; rw [hmt]
    subst hfxe
    exact iv.next (y := DValue.mk_ x kj) nd q2 (by rw [← hlen0]; (try simp)) (hget_at e2) (fun c h1 h2 => (at_ne e2 h1).trans (fr0 c h1 h2)) (.i (.i .nil))
  case le =>
    have hfin : k + cntL DValue.cnt (l.take (j + 1)) = kj + 2 := by rw [htk]; simp only [DValue.cnt]; omega
    rw [hfin, wN (by omega)]; (try simp [kbu_s0, LeL, LeV])
theorem kbs_T (l : List DSent) (k : Int) (hk : 0 ≤ k) (hb : k + cntL DSent.cnt l ≤ 9223372036854775000) (hl : l.length ≤ 1073741824) (ho : ∀ x ∈ l, x.ok 1073741824) (H : AH) {a : AV} {fp : List Nat} (o : Own H a (.sl 7 (l.map DSent.cd)) fp) (nd : fp.Nodup) :
    T Tryz.prog Γ Fn.kbs [a, .int .i64 k] H fun v h' => v = .int .i64 (k + cntL DSent.cnt l) ∧ (h'.length = H.length ∧ (∀ c, c ∉ fp → h'[c]? = H[c]?) ∧ Own h' a (.sl 7 ((mkL DSent.mk_ DSent.cnt l k).map DSent.cd)) fp) := by
  rcases o.sl_inv with ⟨rfl, e, rfl⟩ | ⟨b, g, cap, ex, as0, tail, fp, rfl, rfl, hg, hsz, ht, hc, hown⟩
  · have e : l = [] := by simpa using e
    subst e
    have L0 : lenI false .nils = some (.int .i64 0) := rfl
    refine kbs_e (aw_sound tabOK mixed [] _ _ _ ?_)
    unfold kbs_c
    simp only [EZM, q_bx, if_true, if_false, Nat.reduceAdd, Option.bind_some, Nat.reduceBEq, Nat.reduceLeDiff, kbs_r]
    refine loopI tabOK mixed [] (fun _ : Unit => True) (fun _ => 0) (fun _ => kbs_s0 .nils (.int .i64 k) (.int .i64 0) [] H) () trivial ⟨by simp [kbs_s0, LeL, LeV], rfl, rfl⟩ ?_
    intro _ _
    simp only [EZM, q_bx, if_true, if_false, Nat.reduceAdd, Option.bind_some, Nat.reduceBEq, Nat.reduceLeDiff, kbs_r, kbs_s0, L0, show decide ((0 : Int) < 0) = false from rfl]
    refine ⟨rfl, by simp [cntL], ?_⟩
    first | exact ⟨rfl, fun _ _ => rfl, .nil _⟩ | exact ⟨fun _ _ => trivial, .nil _⟩
  simp only [List.length_map] at hc o ⊢
  have L0 : lenI false (.gs b g 0 l.length cap 7 ex) = some (.int .i64 l.length) := rfl
  have hbf : b ∉ fp := (List.nodup_cons.1 nd).1
  refine kbs_e (aw_sound tabOK mixed [] _ _ _ ?_)
  unfold kbs_c
  simp only [EZM, q_bx, if_true, if_false, Nat.reduceAdd, Option.bind_some, Nat.reduceBEq, Nat.reduceLeDiff, kbs_r]
  refine loopI tabOK mixed [] (fun y : Nat × AH × List AV × List AV × List Nat × List Nat => y.1 ≤ l.length ∧ MInv H b g tail fp DSent.cd (l.drop y.1) (mkL DSent.mk_ DSent.cnt (l.take y.1) k) y.2.1 y.2.2.1 y.2.2.2.1 y.2.2.2.2.1 y.2.2.2.2.2) (fun y => l.length - y.1)
    (fun y => kbs_s0 (.gs b g 0 l.length cap 7 ex) (.int .i64 (k + cntL DSent.cnt (l.take y.1))) (.int .i64 y.1) [] y.2.1) (0, H, [], as0, [], fp) ⟨by simp, by simpa [mkL] using MInv.start hg hown⟩ ⟨by simp [kbs_s0, LeL, LeV, cntL], rfl, rfl⟩ ?_
  rintro ⟨j, H', as1, as2, f1, f2⟩ ⟨hj, iv⟩
  simp only at hj iv
  simp only [EZM, q_bx, if_true, if_false, Nat.reduceAdd, Option.bind_some, Nat.reduceBEq, Nat.reduceLeDiff, kbs_r, kbs_s0, L0]
  refine c_split (fun hlt => ?_) (fun hge => ?_)
  rotate_left
  · have hge : j = l.length := by simp at hge; omega
    subst hge
    simp only [EZM, q_bx, if_true, if_false, Nat.reduceAdd, Option.bind_some, Nat.reduceBEq, Nat.reduceLeDiff, kbs_r]
    rw [List.drop_length, List.take_length] at iv
    rw [List.take_length]
    exact ⟨rfl, rfl, iv.done mkL_len (fun _ => rfl) ht hc⟩
  have hlt : j < l.length := by simpa using hlt
  have htk := cntL_take DSent.cnt hlt
  have hle := cntL_le (c := DSent.cnt) DSent.cnt_nn hlt
  have hnn := cntL_nn (c := DSent.cnt) DSent.cnt_nn (l.take j)
  have hmt := mkL_take DSent.mk_ DSent.cnt hlt k
  rw [List.drop_eq_getElem_cons hlt] at iv
  obtain ⟨x, hx⟩ : ∃ x, x = l[j] := ⟨_, rfl⟩
  rw [← hx] at iv
  try rw [← hx] at htk hle
  try rw [← hx] at hmt
  obtain ⟨kj, hkj⟩ : ∃ kj, kj = k + cntL DSent.cnt (l.take j) := ⟨_, rfl⟩
  rw [← hkj] at hmt
  rw [← hkj]
  have hk0 : 0 ≤ kj := by omega
  have hkb : kj + DSent.cnt x ≤ 9223372036854775000 := by omega
  obtain ⟨h1, h2, cs, post, fx, fr, e1, e2, rfl, rfl, q1, q2⟩ := iv.open
  have hfx : ∀ c ∈ fx, c ≠ b := fun c hc e => hbf (by rw [iv.fps, ← e]; simp [hc])
  have ndx : fx.Nodup := (List.nodup_append.1 (List.nodup_append.1 (iv.fps ▸ (List.nodup_cons.1 nd).2)).2.1).1
  have hn0 : as1.length = j * 7 := by rw [iv.o1.len, flat_len' (sz := 7) (fun y _ => rfl), mkL_len, List.length_take, Nat.min_eq_left hj]
  have i0 : aIdxs 7 (.gs b g 0 l.length cap 7 ex) (j : Int) = some (.gp b g as1.length) := by rw [idx_gs hlt, hn0, Nat.zero_add]
  have z0 := cntL_nn (c := DValue.cnt) DValue.cnt_nn x.args
  simp only [DSent.cnt] at hkb
  have hox := ho _ (List.getElem_mem hlt); rw [← hx] at hox
  simp only [DSent.cd, ownL_c, ownL_n, own_i, own_b, own_s] at q1
  obtain ⟨_, _, _, _, rfl, e0z, ⟨rfl, rfl⟩, ⟨_, _, _, _, rfl, e1z, ⟨rfl, rfl⟩, ⟨a2, _, g2, _, rfl, e2z, u2, ⟨_, _, _, _, rfl, e3z, ⟨rfl, rfl⟩, ⟨_, _, _, _, rfl, e4z, ⟨rfl, rfl⟩, ⟨_, _, _, _, rfl, e5z, ⟨rfl, rfl⟩, ⟨_, _, _, _, rfl, e6z, ⟨rfl, rfl⟩, ⟨rfl, e7z⟩⟩⟩⟩⟩⟩⟩⟩ := q1
  have hfxe : fx = (g2 ++ []) := by rw [e0z, e1z, e2z, e3z, e4z, e5z, e6z, e7z]; simp
  have ow : OwnL H' [a2] [.sl 2 (x.args.map DValue.cd)] fx := by rw [hfxe]; exact (.o u2 .nil)
  obtain ⟨c2a, c2b, c2c, c2d⟩ := u2.cell
  have hlen0 := (rfl : H'.length = H'.length)
  have fr0 : ∀ c, c ≠ b → c ∉ fx → H'[c]? = H'[c]? := fun _ _ _ => rfl
  have w0 : IntKind.i64.wrap (kj + 1) = kj + 1 := (wrap_nat (by omega) (by omega)).trans (by omega)
  have w1 : IntKind.i64.wrap (kj + 1 + 1) = kj + 2 := (wrap_nat (by omega) (by omega)).trans (by omega)
  have w3 : IntKind.i64.wrap (kj + 2 + cntL DValue.cnt x.args + 1) = kj + 3 + cntL DValue.cnt x.args := (wrap_nat (by omega) (by omega)).trans (by omega)
  have w4 : IntKind.i64.wrap (kj + 3 + cntL DValue.cnt x.args + 1) = kj + 4 + cntL DValue.cnt x.args := (wrap_nat (by omega) (by omega)).trans (by omega)
  have w5 : IntKind.i64.wrap (kj + 4 + cntL DValue.cnt x.args + 1) = kj + 5 + cntL DValue.cnt x.args := (wrap_nat (by omega) (by omega)).trans (by omega)
  have w6 : IntKind.i64.wrap (kj + 5 + cntL DValue.cnt x.args + 1) = kj + 6 + cntL DValue.cnt x.args := (wrap_nat (by omega) (by omega)).trans (by omega)
  obtain ⟨H0, hH0⟩ : ∃ H0, H0 = H' := ⟨_, rfl⟩
  rw [← hH0] at iv q2 ow fr0 hlen0
  have fr0 : ∀ c, c ≠ b → c ∉ fx → H'[c]? = H0[c]? := fun _ _ _ => by rw [hH0]
  have hlen0 : H'.length = H0.length := by rw [hH0]
  rw [hH0] at ow
  replace e1 : H' = h1 ++ some (g, as1 ++ elc [.int .i64 x.target, .str x.name, a2, .int .i64 x.result, .int .i64 x.tag.vat, .int .i64 x.tag.entity, .int .i64 x.tag.seq] (post ++ tail)) :: h2 := e1
  subst e1
  simp only [EZM, q_bx, if_true, if_false, Nat.reduceAdd, Option.bind_some, Nat.reduceBEq, Nat.reduceLeDiff, kbs_r, i0, st_el e2 rfl, rd_el e2 rfl, w0, w1, w3, w4, w5, w6, c2a, c2b, c2c]
  refine TCall.val (by simp only [EO]) (kbt_T (kj + 1) (by omega) (by omega) _) ?_
  simp only [EZM, q_bx, if_true, if_false, Nat.reduceAdd, Option.bind_some, Nat.reduceBEq, Nat.reduceLeDiff, kbs_r, i0, st_el e2 rfl, rd_el e2 rfl, w0, w1, w3, w4, w5, w6, c2a, c2b, c2c]
  obtain ⟨gi1, oi1, ni1, si1, bk1⟩ := OwnL.pick (A := []) (D := []) rfl (ow.frame fun c hc => at_ne e2 (hfx c hc)) ndx
  refine TCall.ref (by simp only [EO, c2d]) (kbu_T x.args (kj + 2) (by omega) (by omega) (hox.2) _ oi1 ni1) ?_
  rintro _ hn ⟨rfl, hlen1, hfr1, un1⟩
  replace ow := bk1 hn _ hfr1 un1
  have fr1 : ∀ c, c ≠ b → c ∉ fx → hn[c]? = H0[c]? := fun c h1 h2 => (hfr1 c (fun h => h2 (si1 c h))).trans ((at_ne e2 h1).trans (fr0 c h1 h2))
  have hlen1 : hn.length = H0.length := by rw [hlen1]; (try rw [← hlen0]); (try simp)
  obtain ⟨p1, r1, rfl, eh1⟩ := heap_at (frame_hget (hget_at e2) (hfr1 b (fun h => hfx b (si1 b h) rfl)))
  simp only [EZM, q_bx, if_true, if_false, Nat.reduceAdd, Option.bind_some, Nat.reduceBEq, Nat.reduceLeDiff, kbs_r, i0, st_el eh1 rfl, rd_el eh1 rfl, w0, w1, w3, w4, w5, w6, c2a, c2b, c2c]
  refine ⟨(j + 1, _, as1 ++ [.int .i64 (kj), .str (markT (kj + 1)), a2, .int .i64 (kj + 2 + cntL DValue.cnt x.args), .int .i64 (kj + 3 + cntL DValue.cnt x.args), .int .i64 (kj + 4 + cntL DValue.cnt x.args), .int .i64 (kj + 5 + cntL DValue.cnt x.args)], post, f1 ++ fx, fr), ⟨hlt, ?inv⟩, (by simp only; omega), ⟨?le, rfl, rfl⟩⟩
  case inv =>
    simp only; rw [hmt]
    replace ow := ow.frame fun c hc => at_ne (x := some (g, as1 ++ elc [.int .i64 (kj), .str (markT (kj + 1)), a2, .int .i64 (kj + 2 + cntL DValue.cnt x.args), .int .i64 (kj + 3 + cntL DValue.cnt x.args), .int .i64 (kj + 4 + cntL DValue.cnt x.args), .int .i64 (kj + 5 + cntL DValue.cnt x.args)] (post ++ tail))) eh1 (hfx c hc)
    obtain ⟨F0, R0, E0, O0, hz⟩ := ow
    have hz : R0 = [] := hz
    refine iv.next (y := DSent.mk_ x kj) nd q2 (by rw [← hlen1]; (try simp)) (hget_at eh1) (fun c h1 h2 => (at_ne eh1 h1).trans (fr1 c h1 h2)) ?_
    rw [E0, hz]; exact (.i (.s (.o O0 (.i (.i (.i (.i .nil)))))))
  case le =>
    have hfin : k + cntL DSent.cnt (l.take (j + 1)) = kj + 6 + cntL DValue.cnt x.args := by rw [htk]; simp only [DSent.cnt]; omega
    rw [hfin, wN (by omega)]; (try simp [kbs_s0, LeL, LeV])
theorem kbf_T (l : List DAsker) (k : Int) (hk : 0 ≤ k) (hb : k + cntL DAsker.cnt l ≤ 9223372036854775000) (hl : l.length ≤ 1073741824) (H : AH) {a : AV} {fp : List Nat} (o : Own H a (.sl 2 (l.map DAsker.cd)) fp) (nd : fp.Nodup) :
    T Tryz.prog Γ Fn.kbf [a, .int .i64 k] H fun v h' => v = .int .i64 (k + cntL DAsker.cnt l) ∧ (h'.length = H.length ∧ (∀ c, c ∉ fp → h'[c]? = H[c]?) ∧ Own h' a (.sl 2 ((mkL DAsker.mk_ DAsker.cnt l k).map DAsker.cd)) fp) := by
  rcases o.sl_inv with ⟨rfl, e, rfl⟩ | ⟨b, g, cap, ex, as0, tail, fp, rfl, rfl, hg, hsz, ht, hc, hown⟩
  · have e : l = [] := by simpa using e
    subst e
    have L0 : lenI false .nils = some (.int .i64 0) := rfl
    refine kbf_e (aw_sound tabOK mixed [] _ _ _ ?_)
    unfold kbf_c
    simp only [EZM, q_bx, if_true, if_false, Nat.reduceAdd, Option.bind_some, Nat.reduceBEq, Nat.reduceLeDiff, kbf_r]
    refine loopI tabOK mixed [] (fun _ : Unit => True) (fun _ => 0) (fun _ => kbf_s0 .nils (.int .i64 k) (.int .i64 0) [] H) () trivial ⟨by simp [kbf_s0, LeL, LeV], rfl, rfl⟩ ?_
    intro _ _
    simp only [EZM, q_bx, if_true, if_false, Nat.reduceAdd, Option.bind_some, Nat.reduceBEq, Nat.reduceLeDiff, kbf_r, kbf_s0, L0, show decide ((0 : Int) < 0) = false from rfl]
    refine ⟨rfl, by simp [cntL], ?_⟩
    first | exact ⟨rfl, fun _ _ => rfl, .nil _⟩ | exact ⟨fun _ _ => trivial, .nil _⟩
  simp only [List.length_map] at hc o ⊢
  have L0 : lenI false (.gs b g 0 l.length cap 2 ex) = some (.int .i64 l.length) := rfl
  have hbf : b ∉ fp := (List.nodup_cons.1 nd).1
  refine kbf_e (aw_sound tabOK mixed [] _ _ _ ?_)
  unfold kbf_c
  simp only [EZM, q_bx, if_true, if_false, Nat.reduceAdd, Option.bind_some, Nat.reduceBEq, Nat.reduceLeDiff, kbf_r]
  refine loopI tabOK mixed [] (fun y : Nat × AH × List AV × List AV × List Nat × List Nat => y.1 ≤ l.length ∧ MInv H b g tail fp DAsker.cd (l.drop y.1) (mkL DAsker.mk_ DAsker.cnt (l.take y.1) k) y.2.1 y.2.2.1 y.2.2.2.1 y.2.2.2.2.1 y.2.2.2.2.2) (fun y => l.length - y.1)
    (fun y => kbf_s0 (.gs b g 0 l.length cap 2 ex) (.int .i64 (k + cntL DAsker.cnt (l.take y.1))) (.int .i64 y.1) [] y.2.1) (0, H, [], as0, [], fp) ⟨by simp, by simpa [mkL] using MInv.start hg hown⟩ ⟨by simp [kbf_s0, LeL, LeV, cntL], rfl, rfl⟩ ?_
  rintro ⟨j, H', as1, as2, f1, f2⟩ ⟨hj, iv⟩
  simp only at hj iv
  simp only [EZM, q_bx, if_true, if_false, Nat.reduceAdd, Option.bind_some, Nat.reduceBEq, Nat.reduceLeDiff, kbf_r, kbf_s0, L0]
  refine c_split (fun hlt => ?_) (fun hge => ?_)
  rotate_left
  · have hge : j = l.length := by simp at hge; omega
    subst hge
    simp only [EZM, q_bx, if_true, if_false, Nat.reduceAdd, Option.bind_some, Nat.reduceBEq, Nat.reduceLeDiff, kbf_r]
    rw [List.drop_length, List.take_length] at iv
    rw [List.take_length]
    exact ⟨rfl, rfl, iv.done mkL_len (fun _ => rfl) ht hc⟩
  have hlt : j < l.length := by simpa using hlt
  have htk := cntL_take DAsker.cnt hlt
  have hle := cntL_le (c := DAsker.cnt) DAsker.cnt_nn hlt
  have hnn := cntL_nn (c := DAsker.cnt) DAsker.cnt_nn (l.take j)
  have hmt := mkL_take DAsker.mk_ DAsker.cnt hlt k
  rw [List.drop_eq_getElem_cons hlt] at iv
  obtain ⟨x, hx⟩ : ∃ x, x = l[j] := ⟨_, rfl⟩
  rw [← hx] at iv
  try rw [← hx] at htk hle
  try rw [← hx] at hmt
  obtain ⟨kj, hkj⟩ : ∃ kj, kj = k + cntL DAsker.cnt (l.take j) := ⟨_, rfl⟩
  rw [← hkj] at hmt
  rw [← hkj]
  have hk0 : 0 ≤ kj := by omega
  have hkb : kj + DAsker.cnt x ≤ 9223372036854775000 := by omega
  obtain ⟨h1, h2, cs, post, fx, fr, e1, e2, rfl, rfl, q1, q2⟩ := iv.open
  have hfx : ∀ c ∈ fx, c ≠ b := fun c hc e => hbf (by rw [iv.fps, ← e]; simp [hc])
  have ndx : fx.Nodup := (List.nodup_append.1 (List.nodup_append.1 (iv.fps ▸ (List.nodup_cons.1 nd).2)).2.1).1
  have hn0 : as1.length = j * 2 := by rw [iv.o1.len, flat_len' (sz := 2) (fun y _ => rfl), mkL_len, List.length_take, Nat.min_eq_left hj]
  have i0 : aIdxs 2 (.gs b g 0 l.length cap 2 ex) (j : Int) = some (.gp b g as1.length) := by rw [idx_gs hlt, hn0, Nat.zero_add]
  simp only [DAsker.cnt] at hkb
  simp only [DAsker.cd, ownL_c, ownL_n, own_i, own_b, own_s] at q1
  obtain ⟨_, _, _, _, rfl, e0z, ⟨rfl, rfl⟩, ⟨_, _, _, _, rfl, e1z, ⟨rfl, rfl⟩, ⟨rfl, e2z⟩⟩⟩ := q1
  have hfxe : fx = [] := by rw [e0z, e1z, e2z]; simp
  have ow : OwnL H' [] [] fx := by rw [hfxe]; exact .nil
  have hlen0 := (rfl : H'.length = H'.length)
  have fr0 : ∀ c, c ≠ b → c ∉ fx → H'[c]? = H'[c]? := fun _ _ _ => rfl
  have w0 : IntKind.i64.wrap (kj + 1) = kj + 1 := (wrap_nat (by omega) (by omega)).trans (by omega)
  have w1 : IntKind.i64.wrap (kj + 1 + 1) = kj + 2 := (wrap_nat (by omega) (by omega)).trans (by omega)
  obtain ⟨H0, hH0⟩ : ∃ H0, H0 = H' := ⟨_, rfl⟩
  rw [← hH0] at iv q2 ow fr0 hlen0
  have fr0 : ∀ c, c ≠ b → c ∉ fx → H'[c]? = H0[c]? := fun _ _ _ => by rw [hH0]
  have hlen0 : H'.length = H0.length := by rw [hH0]
  rw [hH0] at ow
  replace e1 : H' = h1 ++ some (g, as1 ++ elc [.int .i64 x.peer, .int .i64 x.question] (post ++ tail)) :: h2 := e1
  subst e1
  simp only [EZM, q_bx, if_true, if_false, Nat.reduceAdd, Option.bind_some, Nat.reduceBEq, Nat.reduceLeDiff, kbf_r, i0, st_el e2 rfl, rd_el e2 rfl, w0, w1]
  refine ⟨(j + 1, _, as1 ++ [.int .i64 (kj), .int .i64 (kj + 1)], post, f1 ++ [], fr), ⟨hlt, ?inv⟩, (by simp only; omega), ⟨?le, rfl, rfl⟩⟩
  case inv =>
    simp only; rw [hmt]
    subst hfxe
    exact iv.next (y := DAsker.mk_ x kj) nd q2 (by rw [← hlen0]; (try simp)) (hget_at e2) (fun c h1 h2 => (at_ne e2 h1).trans (fr0 c h1 h2)) (.i (.i .nil))
  case le =>
    have hfin : k + cntL DAsker.cnt (l.take (j + 1)) = kj + 2 := by rw [htk]; simp only [DAsker.cnt]; omega
    rw [hfin, wN (by omega)]; (try simp [kbf_s0, LeL, LeV])
theorem kbh_T (l : List DEntity) (k : Int) (hk : 0 ≤ k) (hb : k + cntL DEntity.cnt l ≤ 9223372036854775000) (hl : l.length ≤ 1073741824) (ho : ∀ x ∈ l, x.ok 1073741824) (H : AH) {a : AV} {fp : List Nat} (o : Own H a (.sl 12 (l.map DEntity.cd)) fp) (nd : fp.Nodup) :
    T Tryz.prog Γ Fn.kbh [a, .int .i64 k] H fun v h' => v = .int .i64 (k + cntL DEntity.cnt l) ∧ (h'.length = H.length ∧ (∀ c, c ∉ fp → h'[c]? = H[c]?) ∧ Own h' a (.sl 12 ((mkL DEntity.mk_ DEntity.cnt l k).map DEntity.cd)) fp) := by
  rcases o.sl_inv with ⟨rfl, e, rfl⟩ | ⟨b, g, cap, ex, as0, tail, fp, rfl, rfl, hg, hsz, ht, hc, hown⟩
  · have e : l = [] := by simpa using e
    subst e
    have L0 : lenI false .nils = some (.int .i64 0) := rfl
    refine kbh_e (aw_sound tabOK mixed [] _ _ _ ?_)
    unfold kbh_c
    simp only [EZM, q_bx, if_true, if_false, Nat.reduceAdd, Option.bind_some, Nat.reduceBEq, Nat.reduceLeDiff, kbh_r]
    refine loopI tabOK mixed [] (fun _ : Unit => True) (fun _ => 0) (fun _ => kbh_s0 .nils (.int .i64 k) (.int .i64 0) [] H) () trivial ⟨by simp [kbh_s0, LeL, LeV], rfl, rfl⟩ ?_
    intro _ _
    simp only [EZM, q_bx, if_true, if_false, Nat.reduceAdd, Option.bind_some, Nat.reduceBEq, Nat.reduceLeDiff, kbh_r, kbh_s0, L0, show decide ((0 : Int) < 0) = false from rfl]
    refine ⟨rfl, by simp [cntL], ?_⟩
    first | exact ⟨rfl, fun _ _ => rfl, .nil _⟩ | exact ⟨fun _ _ => trivial, .nil _⟩
  simp only [List.length_map] at hc o ⊢
  have L0 : lenI false (.gs b g 0 l.length cap 12 ex) = some (.int .i64 l.length) := rfl
  have hbf : b ∉ fp := (List.nodup_cons.1 nd).1
  refine kbh_e (aw_sound tabOK mixed [] _ _ _ ?_)
  unfold kbh_c
  simp only [EZM, q_bx, if_true, if_false, Nat.reduceAdd, Option.bind_some, Nat.reduceBEq, Nat.reduceLeDiff, kbh_r]
  refine loopI tabOK mixed [] (fun y : Nat × AH × List AV × List AV × List Nat × List Nat => y.1 ≤ l.length ∧ MInv H b g tail fp DEntity.cd (l.drop y.1) (mkL DEntity.mk_ DEntity.cnt (l.take y.1) k) y.2.1 y.2.2.1 y.2.2.2.1 y.2.2.2.2.1 y.2.2.2.2.2) (fun y => l.length - y.1)
    (fun y => kbh_s0 (.gs b g 0 l.length cap 12 ex) (.int .i64 (k + cntL DEntity.cnt (l.take y.1))) (.int .i64 y.1) [] y.2.1) (0, H, [], as0, [], fp) ⟨by simp, by simpa [mkL] using MInv.start hg hown⟩ ⟨by simp [kbh_s0, LeL, LeV, cntL], rfl, rfl⟩ ?_
  rintro ⟨j, H', as1, as2, f1, f2⟩ ⟨hj, iv⟩
  simp only at hj iv
  simp only [EZM, q_bx, if_true, if_false, Nat.reduceAdd, Option.bind_some, Nat.reduceBEq, Nat.reduceLeDiff, kbh_r, kbh_s0, L0]
  refine c_split (fun hlt => ?_) (fun hge => ?_)
  rotate_left
  · have hge : j = l.length := by simp at hge; omega
    subst hge
    simp only [EZM, q_bx, if_true, if_false, Nat.reduceAdd, Option.bind_some, Nat.reduceBEq, Nat.reduceLeDiff, kbh_r]
    rw [List.drop_length, List.take_length] at iv
    rw [List.take_length]
    exact ⟨rfl, rfl, iv.done mkL_len (fun _ => rfl) ht hc⟩
  have hlt : j < l.length := by simpa using hlt
  have htk := cntL_take DEntity.cnt hlt
  have hle := cntL_le (c := DEntity.cnt) DEntity.cnt_nn hlt
  have hnn := cntL_nn (c := DEntity.cnt) DEntity.cnt_nn (l.take j)
  have hmt := mkL_take DEntity.mk_ DEntity.cnt hlt k
  rw [List.drop_eq_getElem_cons hlt] at iv
  obtain ⟨x, hx⟩ : ∃ x, x = l[j] := ⟨_, rfl⟩
  rw [← hx] at iv
  try rw [← hx] at htk hle
  try rw [← hx] at hmt
  obtain ⟨kj, hkj⟩ : ∃ kj, kj = k + cntL DEntity.cnt (l.take j) := ⟨_, rfl⟩
  rw [← hkj] at hmt
  rw [← hkj]
  have hk0 : 0 ≤ kj := by omega
  have hkb : kj + DEntity.cnt x ≤ 9223372036854775000 := by omega
  obtain ⟨h1, h2, cs, post, fx, fr, e1, e2, rfl, rfl, q1, q2⟩ := iv.open
  have hfx : ∀ c ∈ fx, c ≠ b := fun c hc e => hbf (by rw [iv.fps, ← e]; simp [hc])
  have ndx : fx.Nodup := (List.nodup_append.1 (List.nodup_append.1 (iv.fps ▸ (List.nodup_cons.1 nd).2)).2.1).1
  have hn0 : as1.length = j * 12 := by rw [iv.o1.len, flat_len' (sz := 12) (fun y _ => rfl), mkL_len, List.length_take, Nat.min_eq_left hj]
  have i0 : aIdxs 12 (.gs b g 0 l.length cap 12 ex) (j : Int) = some (.gp b g as1.length) := by rw [idx_gs hlt, hn0, Nat.zero_add]
  have z0 := cntL_nn (c := DValue.cnt) DValue.cnt_nn x.slots
  have z1 := cntL_nn (c := DSent.cnt) DSent.cnt_nn x.queue
  have z2 := cntL_nn (c := DAsker.cnt) DAsker.cnt_nn x.askers
  simp only [DEntity.cnt] at hkb
  have hox := ho _ (List.getElem_mem hlt); rw [← hx] at hox
  simp only [DEntity.cd, ownL_c, ownL_n, own_i, own_b, own_s] at q1
  obtain ⟨_, _, _, _, rfl, e0z, ⟨rfl, rfl⟩, ⟨_, _, _, _, rfl, e1z, ⟨rfl, rfl⟩, ⟨a2, _, g2, _, rfl, e2z, u2, ⟨_, _, _, _, rfl, e3z, ⟨rfl, rfl⟩, ⟨_, _, _, _, rfl, e4z, ⟨rfl, rfl⟩, ⟨_, _, _, _, rfl, e5z, ⟨rfl, rfl⟩, ⟨a6, _, g6, _, rfl, e6z, u6, ⟨a7, _, g7, _, rfl, e7z, u7, ⟨_, _, _, _, rfl, e8z, ⟨rfl, rfl⟩, ⟨_, _, _, _, rfl, e9z, ⟨rfl, rfl⟩, ⟨_, _, _, _, rfl, e10z, ⟨rfl, rfl⟩, ⟨_, _, _, _, rfl, e11z, ⟨rfl, rfl⟩, ⟨rfl, e12z⟩⟩⟩⟩⟩⟩⟩⟩⟩⟩⟩⟩⟩ := q1
  have hfxe : fx = (g2 ++ (g6 ++ (g7 ++ []))) := by rw [e0z, e1z, e2z, e3z, e4z, e5z, e6z, e7z, e8z, e9z, e10z, e11z, e12z]; simp
  have ow : OwnL H' [a2, a6, a7] [.sl 2 (x.slots.map DValue.cd), .sl 7 (x.queue.map DSent.cd), .sl 2 (x.askers.map DAsker.cd)] fx := by rw [hfxe]; exact (.o u2 (.o u6 (.o u7 .nil)))
  obtain ⟨c2a, c2b, c2c, c2d⟩ := u2.cell
  obtain ⟨c6a, c6b, c6c, c6d⟩ := u6.cell
  obtain ⟨c7a, c7b, c7c, c7d⟩ := u7.cell
  have hlen0 := (rfl : H'.length = H'.length)
  have fr0 : ∀ c, c ≠ b → c ∉ fx → H'[c]? = H'[c]? := fun _ _ _ => rfl
  have w0 : IntKind.i64.wrap (kj + 1) = kj + 1 := (wrap_nat (by omega) (by omega)).trans (by omega)
  have w1 : IntKind.i64.wrap (kj + 1 + 1) = kj + 2 := (wrap_nat (by omega) (by omega)).trans (by omega)
  have w3 : IntKind.i64.wrap (kj + 2 + cntL DValue.cnt x.slots + 1) = kj + 3 + cntL DValue.cnt x.slots := (wrap_nat (by omega) (by omega)).trans (by omega)
  have w4 : IntKind.i64.wrap (kj + 3 + cntL DValue.cnt x.slots + 1) = kj + 4 + cntL DValue.cnt x.slots := (wrap_nat (by omega) (by omega)).trans (by omega)
  have w5 : IntKind.i64.wrap (kj + 4 + cntL DValue.cnt x.slots + 1) = kj + 5 + cntL DValue.cnt x.slots := (wrap_nat (by omega) (by omega)).trans (by omega)
  have w8 : IntKind.i64.wrap (kj + 5 + cntL DValue.cnt x.slots + cntL DSent.cnt x.queue + cntL DAsker.cnt x.askers + 1) = kj + 6 + cntL DValue.cnt x.slots + cntL DSent.cnt x.queue + cntL DAsker.cnt x.askers := (wrap_nat (by omega) (by omega)).trans (by omega)
  have w9 : IntKind.i64.wrap (kj + 6 + cntL DValue.cnt x.slots + cntL DSent.cnt x.queue + cntL DAsker.cnt x.askers + 1) = kj + 7 + cntL DValue.cnt x.slots + cntL DSent.cnt x.queue + cntL DAsker.cnt x.askers := (wrap_nat (by omega) (by omega)).trans (by omega)
  have w10 : IntKind.i64.wrap (kj + 7 + cntL DValue.cnt x.slots + cntL DSent.cnt x.queue + cntL DAsker.cnt x.askers + 1) = kj + 8 + cntL DValue.cnt x.slots + cntL DSent.cnt x.queue + cntL DAsker.cnt x.askers := (wrap_nat (by omega) (by omega)).trans (by omega)
  have w11 : IntKind.i64.wrap (kj + 8 + cntL DValue.cnt x.slots + cntL DSent.cnt x.queue + cntL DAsker.cnt x.askers + 1) = kj + 9 + cntL DValue.cnt x.slots + cntL DSent.cnt x.queue + cntL DAsker.cnt x.askers := (wrap_nat (by omega) (by omega)).trans (by omega)
  obtain ⟨H0, hH0⟩ : ∃ H0, H0 = H' := ⟨_, rfl⟩
  rw [← hH0] at iv q2 ow fr0 hlen0
  have fr0 : ∀ c, c ≠ b → c ∉ fx → H'[c]? = H0[c]? := fun _ _ _ => by rw [hH0]
  have hlen0 : H'.length = H0.length := by rw [hH0]
  rw [hH0] at ow
  replace e1 : H' = h1 ++ some (g, as1 ++ elc [.int .i64 x.kind, .int .i64 x.script, a2, .int .i64 x.state, .int .i64 x.value.kind, .int .i64 x.value.n, a6, a7, .int .i64 x.peer, .int .i64 x.pos, .int .i64 x.count, .int .i64 x.sent] (post ++ tail)) :: h2 := e1
  subst e1
  simp only [EZM, q_bx, if_true, if_false, Nat.reduceAdd, Option.bind_some, Nat.reduceBEq, Nat.reduceLeDiff, kbh_r, i0, st_el e2 rfl, rd_el e2 rfl, w0, w1, w3, w4, w5, w8, w9, w10, w11, c2a, c2b, c2c, c6a, c6b, c6c, c7a, c7b, c7c]
  obtain ⟨gi1, oi1, ni1, si1, bk1⟩ := OwnL.pick (A := []) (D := []) rfl (ow.frame fun c hc => at_ne e2 (hfx c hc)) ndx
  refine TCall.ref (by simp only [EO, c2d]) (kbu_T x.slots (kj + 2) (by omega) (by omega) (hox.1) _ oi1 ni1) ?_
  rintro _ hn ⟨rfl, hlen1, hfr1, un1⟩
  replace ow := bk1 hn _ hfr1 un1
  have fr1 : ∀ c, c ≠ b → c ∉ fx → hn[c]? = H0[c]? := fun c h1 h2 => (hfr1 c (fun h => h2 (si1 c h))).trans ((at_ne e2 h1).trans (fr0 c h1 h2))
  have hlen1 : hn.length = H0.length := by rw [hlen1]; (try rw [← hlen0]); (try simp)
  obtain ⟨p1, r1, rfl, eh1⟩ := heap_at (frame_hget (hget_at e2) (hfr1 b (fun h => hfx b (si1 b h) rfl)))
  simp only [EZM, q_bx, if_true, if_false, Nat.reduceAdd, Option.bind_some, Nat.reduceBEq, Nat.reduceLeDiff, kbh_r, i0, st_el eh1 rfl, rd_el eh1 rfl, w0, w1, w3, w4, w5, w8, w9, w10, w11, c2a, c2b, c2c, c6a, c6b, c6c, c7a, c7b, c7c]
  obtain ⟨gi2, oi2, ni2, si2, bk2⟩ := OwnL.pick (A := [a2]) (D := [_]) rfl (ow.frame fun c hc => at_ne eh1 (hfx c hc)) ndx
  refine TCall.ref (by simp only [EO, c6d]) (kbs_T x.queue (kj + 5 + cntL DValue.cnt x.slots) (by omega) (by omega) (hox.2.1) (hox.2.2.1) _ oi2 ni2) ?_
  rintro _ hn ⟨rfl, hlen2, hfr2, un2⟩
  replace ow := bk2 hn _ hfr2 un2
  have fr2 : ∀ c, c ≠ b → c ∉ fx → hn[c]? = H0[c]? := fun c h1 h2 => (hfr2 c (fun h => h2 (si2 c h))).trans ((at_ne eh1 h1).trans (fr1 c h1 h2))
  have hlen2 : hn.length = H0.length := by rw [hlen2]; (try rw [← hlen1]); (try simp)
  obtain ⟨p2, r2, rfl, eh2⟩ := heap_at (frame_hget (hget_at eh1) (hfr2 b (fun h => hfx b (si2 b h) rfl)))
  simp only [EZM, q_bx, if_true, if_false, Nat.reduceAdd, Option.bind_some, Nat.reduceBEq, Nat.reduceLeDiff, kbh_r, i0, st_el eh2 rfl, rd_el eh2 rfl, w0, w1, w3, w4, w5, w8, w9, w10, w11, c2a, c2b, c2c, c6a, c6b, c6c, c7a, c7b, c7c]
  obtain ⟨gi3, oi3, ni3, si3, bk3⟩ := OwnL.pick (A := [a2, a6]) (D := [_, _]) rfl (ow.frame fun c hc => at_ne eh2 (hfx c hc)) ndx
  refine TCall.ref (by simp only [EO, c7d]) (kbf_T x.askers (kj + 5 + cntL DValue.cnt x.slots + cntL DSent.cnt x.queue) (by omega) (by omega) (hox.2.2.2) _ oi3 ni3) ?_
  rintro _ hn ⟨rfl, hlen3, hfr3, un3⟩
  replace ow := bk3 hn _ hfr3 un3
  have fr3 : ∀ c, c ≠ b → c ∉ fx → hn[c]? = H0[c]? := fun c h1 h2 => (hfr3 c (fun h => h2 (si3 c h))).trans ((at_ne eh2 h1).trans (fr2 c h1 h2))
  have hlen3 : hn.length = H0.length := by rw [hlen3]; (try rw [← hlen2]); (try simp)
  obtain ⟨p3, r3, rfl, eh3⟩ := heap_at (frame_hget (hget_at eh2) (hfr3 b (fun h => hfx b (si3 b h) rfl)))
  simp only [EZM, q_bx, if_true, if_false, Nat.reduceAdd, Option.bind_some, Nat.reduceBEq, Nat.reduceLeDiff, kbh_r, i0, st_el eh3 rfl, rd_el eh3 rfl, w0, w1, w3, w4, w5, w8, w9, w10, w11, c2a, c2b, c2c, c6a, c6b, c6c, c7a, c7b, c7c]
  refine ⟨(j + 1, _, as1 ++ [.int .i64 (kj), .int .i64 (kj + 1), a2, .int .i64 (kj + 2 + cntL DValue.cnt x.slots), .int .i64 (kj + 3 + cntL DValue.cnt x.slots), .int .i64 (kj + 4 + cntL DValue.cnt x.slots), a6, a7, .int .i64 (kj + 5 + cntL DValue.cnt x.slots + cntL DSent.cnt x.queue + cntL DAsker.cnt x.askers), .int .i64 (kj + 6 + cntL DValue.cnt x.slots + cntL DSent.cnt x.queue + cntL DAsker.cnt x.askers), .int .i64 (kj + 7 + cntL DValue.cnt x.slots + cntL DSent.cnt x.queue + cntL DAsker.cnt x.askers), .int .i64 (kj + 8 + cntL DValue.cnt x.slots + cntL DSent.cnt x.queue + cntL DAsker.cnt x.askers)], post, f1 ++ fx, fr), ⟨hlt, ?inv⟩, (by simp only; omega), ⟨?le, rfl, rfl⟩⟩
  case inv =>
    simp only; rw [hmt]
    replace ow := ow.frame fun c hc => at_ne (x := some (g, as1 ++ elc [.int .i64 (kj), .int .i64 (kj + 1), a2, .int .i64 (kj + 2 + cntL DValue.cnt x.slots), .int .i64 (kj + 3 + cntL DValue.cnt x.slots), .int .i64 (kj + 4 + cntL DValue.cnt x.slots), a6, a7, .int .i64 (kj + 5 + cntL DValue.cnt x.slots + cntL DSent.cnt x.queue + cntL DAsker.cnt x.askers), .int .i64 (kj + 6 + cntL DValue.cnt x.slots + cntL DSent.cnt x.queue + cntL DAsker.cnt x.askers), .int .i64 (kj + 7 + cntL DValue.cnt x.slots + cntL DSent.cnt x.queue + cntL DAsker.cnt x.askers), .int .i64 (kj + 8 + cntL DValue.cnt x.slots + cntL DSent.cnt x.queue + cntL DAsker.cnt x.askers)] (post ++ tail))) eh3 (hfx c hc)
    obtain ⟨F0, R0, E0, O0, ⟨F1, R1, E1, O1, ⟨F2, R2, E2, O2, hz⟩⟩⟩ := ow
    have hz : R2 = [] := hz
    refine iv.next (y := DEntity.mk_ x kj) nd q2 (by rw [← hlen3]; (try simp)) (hget_at eh3) (fun c h1 h2 => (at_ne eh3 h1).trans (fr3 c h1 h2)) ?_
    rw [E0, E1, E2, hz]; exact (.i (.i (.o O0 (.i (.i (.i (.o O1 (.o O2 (.i (.i (.i (.i .nil))))))))))))
  case le =>
    have hfin : k + cntL DEntity.cnt (l.take (j + 1)) = kj + 9 + cntL DValue.cnt x.slots + cntL DSent.cnt x.queue + cntL DAsker.cnt x.askers := by rw [htk]; simp only [DEntity.cnt]; omega
    rw [hfin, wN (by omega)]; (try simp [kbh_s0, LeL, LeV])
theorem kbi_T (l : List DExport) (k : Int) (hk : 0 ≤ k) (hb : k + cntL DExport.cnt l ≤ 9223372036854775000) (hl : l.length ≤ 1073741824) (H : AH) {a : AV} {fp : List Nat} (o : Own H a (.sl 3 (l.map DExport.cd)) fp) (nd : fp.Nodup) :
    T Tryz.prog Γ Fn.kbi [a, .int .i64 k] H fun v h' => v = .int .i64 (k + cntL DExport.cnt l) ∧ (h'.length = H.length ∧ (∀ c, c ∉ fp → h'[c]? = H[c]?) ∧ Own h' a (.sl 3 ((mkL DExport.mk_ DExport.cnt l k).map DExport.cd)) fp) := by
  rcases o.sl_inv with ⟨rfl, e, rfl⟩ | ⟨b, g, cap, ex, as0, tail, fp, rfl, rfl, hg, hsz, ht, hc, hown⟩
  · have e : l = [] := by simpa using e
    subst e
    have L0 : lenI false .nils = some (.int .i64 0) := rfl
    refine kbi_e (aw_sound tabOK mixed [] _ _ _ ?_)
    unfold kbi_c
    simp only [EZM, q_bx, if_true, if_false, Nat.reduceAdd, Option.bind_some, Nat.reduceBEq, Nat.reduceLeDiff, kbi_r]
    refine loopI tabOK mixed [] (fun _ : Unit => True) (fun _ => 0) (fun _ => kbi_s0 .nils (.int .i64 k) (.int .i64 0) [] H) () trivial ⟨by simp [kbi_s0, LeL, LeV], rfl, rfl⟩ ?_
    intro _ _
    simp only [EZM, q_bx, if_true, if_false, Nat.reduceAdd, Option.bind_some, Nat.reduceBEq, Nat.reduceLeDiff, kbi_r, kbi_s0, L0, show decide ((0 : Int) < 0) = false from rfl]
    refine ⟨rfl, by simp [cntL], ?_⟩
    first | exact ⟨rfl, fun _ _ => rfl, .nil _⟩ | exact ⟨fun _ _ => trivial, .nil _⟩
  simp only [List.length_map] at hc o ⊢
  have L0 : lenI false (.gs b g 0 l.length cap 3 ex) = some (.int .i64 l.length) := rfl
  have hbf : b ∉ fp := (List.nodup_cons.1 nd).1
  refine kbi_e (aw_sound tabOK mixed [] _ _ _ ?_)
  unfold kbi_c
  simp only [EZM, q_bx, if_true, if_false, Nat.reduceAdd, Option.bind_some, Nat.reduceBEq, Nat.reduceLeDiff, kbi_r]
  refine loopI tabOK mixed [] (fun y : Nat × AH × List AV × List AV × List Nat × List Nat => y.1 ≤ l.length ∧ MInv H b g tail fp DExport.cd (l.drop y.1) (mkL DExport.mk_ DExport.cnt (l.take y.1) k) y.2.1 y.2.2.1 y.2.2.2.1 y.2.2.2.2.1 y.2.2.2.2.2) (fun y => l.length - y.1)
    (fun y => kbi_s0 (.gs b g 0 l.length cap 3 ex) (.int .i64 (k + cntL DExport.cnt (l.take y.1))) (.int .i64 y.1) [] y.2.1) (0, H, [], as0, [], fp) ⟨by simp, by simpa [mkL] using MInv.start hg hown⟩ ⟨by simp [kbi_s0, LeL, LeV, cntL], rfl, rfl⟩ ?_
  rintro ⟨j, H', as1, as2, f1, f2⟩ ⟨hj, iv⟩
  simp only at hj iv
  simp only [EZM, q_bx, if_true, if_false, Nat.reduceAdd, Option.bind_some, Nat.reduceBEq, Nat.reduceLeDiff, kbi_r, kbi_s0, L0]
  refine c_split (fun hlt => ?_) (fun hge => ?_)
  rotate_left
  · have hge : j = l.length := by simp at hge; omega
    subst hge
    simp only [EZM, q_bx, if_true, if_false, Nat.reduceAdd, Option.bind_some, Nat.reduceBEq, Nat.reduceLeDiff, kbi_r]
    rw [List.drop_length, List.take_length] at iv
    rw [List.take_length]
    exact ⟨rfl, rfl, iv.done mkL_len (fun _ => rfl) ht hc⟩
  have hlt : j < l.length := by simpa using hlt
  have htk := cntL_take DExport.cnt hlt
  have hle := cntL_le (c := DExport.cnt) DExport.cnt_nn hlt
  have hnn := cntL_nn (c := DExport.cnt) DExport.cnt_nn (l.take j)
  have hmt := mkL_take DExport.mk_ DExport.cnt hlt k
  rw [List.drop_eq_getElem_cons hlt] at iv
  obtain ⟨x, hx⟩ : ∃ x, x = l[j] := ⟨_, rfl⟩
  rw [← hx] at iv
  try rw [← hx] at htk hle
  try rw [← hx] at hmt
  obtain ⟨kj, hkj⟩ : ∃ kj, kj = k + cntL DExport.cnt (l.take j) := ⟨_, rfl⟩
  rw [← hkj] at hmt
  rw [← hkj]
  have hk0 : 0 ≤ kj := by omega
  have hkb : kj + DExport.cnt x ≤ 9223372036854775000 := by omega
  obtain ⟨h1, h2, cs, post, fx, fr, e1, e2, rfl, rfl, q1, q2⟩ := iv.open
  have hfx : ∀ c ∈ fx, c ≠ b := fun c hc e => hbf (by rw [iv.fps, ← e]; simp [hc])
  have ndx : fx.Nodup := (List.nodup_append.1 (List.nodup_append.1 (iv.fps ▸ (List.nodup_cons.1 nd).2)).2.1).1
  have hn0 : as1.length = j * 3 := by rw [iv.o1.len, flat_len' (sz := 3) (fun y _ => rfl), mkL_len, List.length_take, Nat.min_eq_left hj]
  have i0 : aIdxs 3 (.gs b g 0 l.length cap 3 ex) (j : Int) = some (.gp b g as1.length) := by rw [idx_gs hlt, hn0, Nat.zero_add]
  simp only [DExport.cnt] at hkb
  simp only [DExport.cd, ownL_c, ownL_n, own_i, own_b, own_s] at q1
  obtain ⟨_, _, _, _, rfl, e0z, ⟨rfl, rfl⟩, ⟨_, _, _, _, rfl, e1z, ⟨rfl, rfl⟩, ⟨_, _, _, _, rfl, e2z, ⟨rfl, rfl⟩, ⟨rfl, e3z⟩⟩⟩⟩ := q1
  have hfxe : fx = [] := by rw [e0z, e1z, e2z, e3z]; simp
  have ow : OwnL H' [] [] fx := by rw [hfxe]; exact .nil
  have hlen0 := (rfl : H'.length = H'.length)
  have fr0 : ∀ c, c ≠ b → c ∉ fx → H'[c]? = H'[c]? := fun _ _ _ => rfl
  have w0 : IntKind.i64.wrap (kj + 1) = kj + 1 := (wrap_nat (by omega) (by omega)).trans (by omega)
  have w1 : IntKind.i64.wrap (kj + 1 + 1) = kj + 2 := (wrap_nat (by omega) (by omega)).trans (by omega)
  have w2 : IntKind.i64.wrap (kj + 2 + 1) = kj + 3 := (wrap_nat (by omega) (by omega)).trans (by omega)
  obtain ⟨H0, hH0⟩ : ∃ H0, H0 = H' := ⟨_, rfl⟩
  rw [← hH0] at iv q2 ow fr0 hlen0
  have fr0 : ∀ c, c ≠ b → c ∉ fx → H'[c]? = H0[c]? := fun _ _ _ => by rw [hH0]
  have hlen0 : H'.length = H0.length := by rw [hH0]
  rw [hH0] at ow
  replace e1 : H' = h1 ++ some (g, as1 ++ elc [.int .i64 x.pos, .int .i64 x.entity, .int .i64 x.count] (post ++ tail)) :: h2 := e1
  subst e1
  simp only [EZM, q_bx, if_true, if_false, Nat.reduceAdd, Option.bind_some, Nat.reduceBEq, Nat.reduceLeDiff, kbi_r, i0, st_el e2 rfl, rd_el e2 rfl, w0, w1, w2]
  refine ⟨(j + 1, _, as1 ++ [.int .i64 (kj), .int .i64 (kj + 1), .int .i64 (kj + 2)], post, f1 ++ [], fr), ⟨hlt, ?inv⟩, (by simp only; omega), ⟨?le, rfl, rfl⟩⟩
  case inv =>
    simp only; rw [hmt]
    subst hfxe
    exact iv.next (y := DExport.mk_ x kj) nd q2 (by rw [← hlen0]; (try simp)) (hget_at e2) (fun c h1 h2 => (at_ne e2 h1).trans (fr0 c h1 h2)) (.i (.i (.i .nil)))
  case le =>
    have hfin : k + cntL DExport.cnt (l.take (j + 1)) = kj + 3 := by rw [htk]; simp only [DExport.cnt]; omega
    rw [hfin, wN (by omega)]; (try simp [kbi_s0, LeL, LeV])
theorem kbq_T (l : List DQuestion) (k : Int) (hk : 0 ≤ k) (hb : k + cntL DQuestion.cnt l ≤ 9223372036854775000) (hl : l.length ≤ 1073741824) (H : AH) {a : AV} {fp : List Nat} (o : Own H a (.sl 2 (l.map DQuestion.cd)) fp) (nd : fp.Nodup) :
    T Tryz.prog Γ Fn.kbq [a, .int .i64 k] H fun v h' => v = .int .i64 (k + cntL DQuestion.cnt l) ∧ (h'.length = H.length ∧ (∀ c, c ∉ fp → h'[c]? = H[c]?) ∧ Own h' a (.sl 2 ((mkL DQuestion.mk_ DQuestion.cnt l k).map DQuestion.cd)) fp) := by
  rcases o.sl_inv with ⟨rfl, e, rfl⟩ | ⟨b, g, cap, ex, as0, tail, fp, rfl, rfl, hg, hsz, ht, hc, hown⟩
  · have e : l = [] := by simpa using e
    subst e
    have L0 : lenI false .nils = some (.int .i64 0) := rfl
    refine kbq_e (aw_sound tabOK mixed [] _ _ _ ?_)
    unfold kbq_c
    simp only [EZM, q_bx, if_true, if_false, Nat.reduceAdd, Option.bind_some, Nat.reduceBEq, Nat.reduceLeDiff, kbq_r]
    refine loopI tabOK mixed [] (fun _ : Unit => True) (fun _ => 0) (fun _ => kbq_s0 .nils (.int .i64 k) (.int .i64 0) [] H) () trivial ⟨by simp [kbq_s0, LeL, LeV], rfl, rfl⟩ ?_
    intro _ _
    simp only [EZM, q_bx, if_true, if_false, Nat.reduceAdd, Option.bind_some, Nat.reduceBEq, Nat.reduceLeDiff, kbq_r, kbq_s0, L0, show decide ((0 : Int) < 0) = false from rfl]
    refine ⟨rfl, by simp [cntL], ?_⟩
    first | exact ⟨rfl, fun _ _ => rfl, .nil _⟩ | exact ⟨fun _ _ => trivial, .nil _⟩
  simp only [List.length_map] at hc o ⊢
  have L0 : lenI false (.gs b g 0 l.length cap 2 ex) = some (.int .i64 l.length) := rfl
  have hbf : b ∉ fp := (List.nodup_cons.1 nd).1
  refine kbq_e (aw_sound tabOK mixed [] _ _ _ ?_)
  unfold kbq_c
  simp only [EZM, q_bx, if_true, if_false, Nat.reduceAdd, Option.bind_some, Nat.reduceBEq, Nat.reduceLeDiff, kbq_r]
  refine loopI tabOK mixed [] (fun y : Nat × AH × List AV × List AV × List Nat × List Nat => y.1 ≤ l.length ∧ MInv H b g tail fp DQuestion.cd (l.drop y.1) (mkL DQuestion.mk_ DQuestion.cnt (l.take y.1) k) y.2.1 y.2.2.1 y.2.2.2.1 y.2.2.2.2.1 y.2.2.2.2.2) (fun y => l.length - y.1)
    (fun y => kbq_s0 (.gs b g 0 l.length cap 2 ex) (.int .i64 (k + cntL DQuestion.cnt (l.take y.1))) (.int .i64 y.1) [] y.2.1) (0, H, [], as0, [], fp) ⟨by simp, by simpa [mkL] using MInv.start hg hown⟩ ⟨by simp [kbq_s0, LeL, LeV, cntL], rfl, rfl⟩ ?_
  rintro ⟨j, H', as1, as2, f1, f2⟩ ⟨hj, iv⟩
  simp only at hj iv
  simp only [EZM, q_bx, if_true, if_false, Nat.reduceAdd, Option.bind_some, Nat.reduceBEq, Nat.reduceLeDiff, kbq_r, kbq_s0, L0]
  refine c_split (fun hlt => ?_) (fun hge => ?_)
  rotate_left
  · have hge : j = l.length := by simp at hge; omega
    subst hge
    simp only [EZM, q_bx, if_true, if_false, Nat.reduceAdd, Option.bind_some, Nat.reduceBEq, Nat.reduceLeDiff, kbq_r]
    rw [List.drop_length, List.take_length] at iv
    rw [List.take_length]
    exact ⟨rfl, rfl, iv.done mkL_len (fun _ => rfl) ht hc⟩
  have hlt : j < l.length := by simpa using hlt
  have htk := cntL_take DQuestion.cnt hlt
  have hle := cntL_le (c := DQuestion.cnt) DQuestion.cnt_nn hlt
  have hnn := cntL_nn (c := DQuestion.cnt) DQuestion.cnt_nn (l.take j)
  have hmt := mkL_take DQuestion.mk_ DQuestion.cnt hlt k
  rw [List.drop_eq_getElem_cons hlt] at iv
  obtain ⟨x, hx⟩ : ∃ x, x = l[j] := ⟨_, rfl⟩
  rw [← hx] at iv
  try rw [← hx] at htk hle
  try rw [← hx] at hmt
  obtain ⟨kj, hkj⟩ : ∃ kj, kj = k + cntL DQuestion.cnt (l.take j) := ⟨_, rfl⟩
  rw [← hkj] at hmt
  rw [← hkj]
  have hk0 : 0 ≤ kj := by omega
  have hkb : kj + DQuestion.cnt x ≤ 9223372036854775000 := by omega
  obtain ⟨h1, h2, cs, post, fx, fr, e1, e2, rfl, rfl, q1, q2⟩ := iv.open
  have hfx : ∀ c ∈ fx, c ≠ b := fun c hc e => hbf (by rw [iv.fps, ← e]; simp [hc])
  have ndx : fx.Nodup := (List.nodup_append.1 (List.nodup_append.1 (iv.fps ▸ (List.nodup_cons.1 nd).2)).2.1).1
  have hn0 : as1.length = j * 2 := by rw [iv.o1.len, flat_len' (sz := 2) (fun y _ => rfl), mkL_len, List.length_take, Nat.min_eq_left hj]
  have i0 : aIdxs 2 (.gs b g 0 l.length cap 2 ex) (j : Int) = some (.gp b g as1.length) := by rw [idx_gs hlt, hn0, Nat.zero_add]
  simp only [DQuestion.cnt] at hkb
  simp only [DQuestion.cd, ownL_c, ownL_n, own_i, own_b, own_s] at q1
  obtain ⟨_, _, _, _, rfl, e0z, ⟨rfl, rfl⟩, ⟨_, _, _, _, rfl, e1z, ⟨rfl, rfl⟩, ⟨rfl, e2z⟩⟩⟩ := q1
  have hfxe : fx = [] := by rw [e0z, e1z, e2z]; simp
  have ow : OwnL H' [] [] fx := by rw [hfxe]; exact .nil
  have hlen0 := (rfl : H'.length = H'.length)
  have fr0 : ∀ c, c ≠ b → c ∉ fx → H'[c]? = H'[c]? := fun _ _ _ => rfl
  have w0 : IntKind.i64.wrap (kj + 1) = kj + 1 := (wrap_nat (by omega) (by omega)).trans (by omega)
  have w1 : IntKind.i64.wrap (kj + 1 + 1) = kj + 2 := (wrap_nat (by omega) (by omega)).trans (by omega)
  obtain ⟨H0, hH0⟩ : ∃ H0, H0 = H' := ⟨_, rfl⟩
  rw [← hH0] at iv q2 ow fr0 hlen0
  have fr0 : ∀ c, c ≠ b → c ∉ fx → H'[c]? = H0[c]? := fun _ _ _ => by rw [hH0]
  have hlen0 : H'.length = H0.length := by rw [hH0]
  rw [hH0] at ow
  replace e1 : H' = h1 ++ some (g, as1 ++ elc [.int .i64 x.id, .int .i64 x.promise] (post ++ tail)) :: h2 := e1
  subst e1
  simp only [EZM, q_bx, if_true, if_false, Nat.reduceAdd, Option.bind_some, Nat.reduceBEq, Nat.reduceLeDiff, kbq_r, i0, st_el e2 rfl, rd_el e2 rfl, w0, w1]
  refine ⟨(j + 1, _, as1 ++ [.int .i64 (kj), .int .i64 (kj + 1)], post, f1 ++ [], fr), ⟨hlt, ?inv⟩, (by simp only; omega), ⟨?le, rfl, rfl⟩⟩
  case inv =>
    simp only; rw [hmt]
    subst hfxe
    exact iv.next (y := DQuestion.mk_ x kj) nd q2 (by rw [← hlen0]; (try simp)) (hget_at e2) (fun c h1 h2 => (at_ne e2 h1).trans (fr0 c h1 h2)) (.i (.i .nil))
  case le =>
    have hfin : k + cntL DQuestion.cnt (l.take (j + 1)) = kj + 2 := by rw [htk]; simp only [DQuestion.cnt]; omega
    rw [hfin, wN (by omega)]; (try simp [kbq_s0, LeL, LeV])
theorem kbk_T (l : List DLink) (k : Int) (hk : 0 ≤ k) (hb : k + cntL DLink.cnt l ≤ 9223372036854775000) (hl : l.length ≤ 1073741824) (ho : ∀ x ∈ l, x.ok 1073741824) (H : AH) {a : AV} {fp : List Nat} (o : Own H a (.sl 7 (l.map DLink.cd)) fp) (nd : fp.Nodup) :
    T Tryz.prog Γ Fn.kbk [a, .int .i64 k] H fun v h' => v = .int .i64 (k + cntL DLink.cnt l) ∧ (h'.length = H.length ∧ (∀ c, c ∉ fp → h'[c]? = H[c]?) ∧ Own h' a (.sl 7 ((mkL DLink.mk_ DLink.cnt l k).map DLink.cd)) fp) := by
  rcases o.sl_inv with ⟨rfl, e, rfl⟩ | ⟨b, g, cap, ex, as0, tail, fp, rfl, rfl, hg, hsz, ht, hc, hown⟩
  · have e : l = [] := by simpa using e
    subst e
    have L0 : lenI false .nils = some (.int .i64 0) := rfl
    refine kbk_e (aw_sound tabOK mixed [] _ _ _ ?_)
    unfold kbk_c
    simp only [EZM, q_bx, if_true, if_false, Nat.reduceAdd, Option.bind_some, Nat.reduceBEq, Nat.reduceLeDiff, kbk_r]
    refine loopI tabOK mixed [] (fun _ : Unit => True) (fun _ => 0) (fun _ => kbk_s0 .nils (.int .i64 k) (.int .i64 0) [] H) () trivial ⟨by simp [kbk_s0, LeL, LeV], rfl, rfl⟩ ?_
    intro _ _
    simp only [EZM, q_bx, if_true, if_false, Nat.reduceAdd, Option.bind_some, Nat.reduceBEq, Nat.reduceLeDiff, kbk_r, kbk_s0, L0, show decide ((0 : Int) < 0) = false from rfl]
    refine ⟨rfl, by simp [cntL], ?_⟩
    first | exact ⟨rfl, fun _ _ => rfl, .nil _⟩ | exact ⟨fun _ _ => trivial, .nil _⟩
  simp only [List.length_map] at hc o ⊢
  have L0 : lenI false (.gs b g 0 l.length cap 7 ex) = some (.int .i64 l.length) := rfl
  have hbf : b ∉ fp := (List.nodup_cons.1 nd).1
  refine kbk_e (aw_sound tabOK mixed [] _ _ _ ?_)
  unfold kbk_c
  simp only [EZM, q_bx, if_true, if_false, Nat.reduceAdd, Option.bind_some, Nat.reduceBEq, Nat.reduceLeDiff, kbk_r]
  refine loopI tabOK mixed [] (fun y : Nat × AH × List AV × List AV × List Nat × List Nat => y.1 ≤ l.length ∧ MInv H b g tail fp DLink.cd (l.drop y.1) (mkL DLink.mk_ DLink.cnt (l.take y.1) k) y.2.1 y.2.2.1 y.2.2.2.1 y.2.2.2.2.1 y.2.2.2.2.2) (fun y => l.length - y.1)
    (fun y => kbk_s0 (.gs b g 0 l.length cap 7 ex) (.int .i64 (k + cntL DLink.cnt (l.take y.1))) (.int .i64 y.1) [] y.2.1) (0, H, [], as0, [], fp) ⟨by simp, by simpa [mkL] using MInv.start hg hown⟩ ⟨by simp [kbk_s0, LeL, LeV, cntL], rfl, rfl⟩ ?_
  rintro ⟨j, H', as1, as2, f1, f2⟩ ⟨hj, iv⟩
  simp only at hj iv
  simp only [EZM, q_bx, if_true, if_false, Nat.reduceAdd, Option.bind_some, Nat.reduceBEq, Nat.reduceLeDiff, kbk_r, kbk_s0, L0]
  refine c_split (fun hlt => ?_) (fun hge => ?_)
  rotate_left
  · have hge : j = l.length := by simp at hge; omega
    subst hge
    simp only [EZM, q_bx, if_true, if_false, Nat.reduceAdd, Option.bind_some, Nat.reduceBEq, Nat.reduceLeDiff, kbk_r]
    rw [List.drop_length, List.take_length] at iv
    rw [List.take_length]
    exact ⟨rfl, rfl, iv.done mkL_len (fun _ => rfl) ht hc⟩
  have hlt : j < l.length := by simpa using hlt
  have htk := cntL_take DLink.cnt hlt
  have hle := cntL_le (c := DLink.cnt) DLink.cnt_nn hlt
  have hnn := cntL_nn (c := DLink.cnt) DLink.cnt_nn (l.take j)
  have hmt := mkL_take DLink.mk_ DLink.cnt hlt k
  rw [List.drop_eq_getElem_cons hlt] at iv
  obtain ⟨x, hx⟩ : ∃ x, x = l[j] := ⟨_, rfl⟩
  rw [← hx] at iv
  try rw [← hx] at htk hle
  try rw [← hx] at hmt
  obtain ⟨kj, hkj⟩ : ∃ kj, kj = k + cntL DLink.cnt (l.take j) := ⟨_, rfl⟩
  rw [← hkj] at hmt
  rw [← hkj]
  have hk0 : 0 ≤ kj := by omega
  have hkb : kj + DLink.cnt x ≤ 9223372036854775000 := by omega
  obtain ⟨h1, h2, cs, post, fx, fr, e1, e2, rfl, rfl, q1, q2⟩ := iv.open
  have hfx : ∀ c ∈ fx, c ≠ b := fun c hc e => hbf (by rw [iv.fps, ← e]; simp [hc])
  have ndx : fx.Nodup := (List.nodup_append.1 (List.nodup_append.1 (iv.fps ▸ (List.nodup_cons.1 nd).2)).2.1).1
  have hn0 : as1.length = j * 7 := by rw [iv.o1.len, flat_len' (sz := 7) (fun y _ => rfl), mkL_len, List.length_take, Nat.min_eq_left hj]
  have i0 : aIdxs 7 (.gs b g 0 l.length cap 7 ex) (j : Int) = some (.gp b g as1.length) := by rw [idx_gs hlt, hn0, Nat.zero_add]
  have z0 := cntL_nn (c := DExport.cnt) DExport.cnt_nn x.exports
  have z1 := cntL_nn (c := DQuestion.cnt) DQuestion.cnt_nn x.questions
  have z2 := cntL_nn (c := DQuestion.cnt) DQuestion.cnt_nn x.answers
  simp only [DLink.cnt] at hkb
  have hox := ho _ (List.getElem_mem hlt); rw [← hx] at hox
  simp only [DLink.cd, ownL_c, ownL_n, own_i, own_b, own_s] at q1
  obtain ⟨_, _, _, _, rfl, e0z, ⟨rfl, rfl⟩, ⟨_, _, _, _, rfl, e1z, ⟨rfl, rfl⟩, ⟨a2, _, g2, _, rfl, e2z, u2, ⟨_, _, _, _, rfl, e3z, ⟨rfl, rfl⟩, ⟨a4, _, g4, _, rfl, e4z, u4, ⟨_, _, _, _, rfl, e5z, ⟨rfl, rfl⟩, ⟨a6, _, g6, _, rfl, e6z, u6, ⟨rfl, e7z⟩⟩⟩⟩⟩⟩⟩⟩ := q1
  have hfxe : fx = (g2 ++ (g4 ++ (g6 ++ []))) := by rw [e0z, e1z, e2z, e3z, e4z, e5z, e6z, e7z]; simp
  have ow : OwnL H' [a2, a4, a6] [.sl 3 (x.exports.map DExport.cd), .sl 2 (x.questions.map DQuestion.cd), .sl 2 (x.answers.map DQuestion.cd)] fx := by rw [hfxe]; exact (.o u2 (.o u4 (.o u6 .nil)))
  obtain ⟨c2a, c2b, c2c, c2d⟩ := u2.cell
  obtain ⟨c4a, c4b, c4c, c4d⟩ := u4.cell
  obtain ⟨c6a, c6b, c6c, c6d⟩ := u6.cell
  have hlen0 := (rfl : H'.length = H'.length)
  have fr0 : ∀ c, c ≠ b → c ∉ fx → H'[c]? = H'[c]? := fun _ _ _ => rfl
  have w0 : IntKind.i64.wrap (kj + 1) = kj + 1 := (wrap_nat (by omega) (by omega)).trans (by omega)
  have w1 : IntKind.i64.wrap (kj + 1 + 1) = kj + 2 := (wrap_nat (by omega) (by omega)).trans (by omega)
  have m1 : aBin .rem .num (.int .i64 (kj + 1)) (.int .i64 3) = some (.int .i64 ((kj + 1) % 3)) := by simp only [aBin, aArith, if_true]; rw [if_neg (by decide), Int.tmod_eq_emod_of_nonneg (by omega)]
  have w3 : IntKind.i64.wrap (kj + 2 + cntL DExport.cnt x.exports + 1) = kj + 3 + cntL DExport.cnt x.exports := (wrap_nat (by omega) (by omega)).trans (by omega)
  have w5 : IntKind.i64.wrap (kj + 3 + cntL DExport.cnt x.exports + cntL DQuestion.cnt x.questions + 1) = kj + 4 + cntL DExport.cnt x.exports + cntL DQuestion.cnt x.questions := (wrap_nat (by omega) (by omega)).trans (by omega)
  obtain ⟨H0, hH0⟩ : ∃ H0, H0 = H' := ⟨_, rfl⟩
  rw [← hH0] at iv q2 ow fr0 hlen0
  have fr0 : ∀ c, c ≠ b → c ∉ fx → H'[c]? = H0[c]? := fun _ _ _ => by rw [hH0]
  have hlen0 : H'.length = H0.length := by rw [hH0]
  rw [hH0] at ow
  replace e1 : H' = h1 ++ some (g, as1 ++ elc [.int .i64 x.peer, .bool x.up, a2, .int .i64 x.next, a4, .int .i64 x.asked, a6] (post ++ tail)) :: h2 := e1
  subst e1
  simp only [EZM, q_bx, if_true, if_false, Nat.reduceAdd, Option.bind_some, Nat.reduceBEq, Nat.reduceLeDiff, kbk_r, i0, st_el e2 rfl, rd_el e2 rfl, w0, w1, m1, beq_dec, w3, w5, c2a, c2b, c2c, c4a, c4b, c4c, c6a, c6b, c6c]
  obtain ⟨gi1, oi1, ni1, si1, bk1⟩ := OwnL.pick (A := []) (D := []) rfl (ow.frame fun c hc => at_ne e2 (hfx c hc)) ndx
  refine TCall.ref (by simp only [EO, c2d]) (kbi_T x.exports (kj + 2) (by omega) (by omega) (hox.1) _ oi1 ni1) ?_
  rintro _ hn ⟨rfl, hlen1, hfr1, un1⟩
  replace ow := bk1 hn _ hfr1 un1
  have fr1 : ∀ c, c ≠ b → c ∉ fx → hn[c]? = H0[c]? := fun c h1 h2 => (hfr1 c (fun h => h2 (si1 c h))).trans ((at_ne e2 h1).trans (fr0 c h1 h2))
  have hlen1 : hn.length = H0.length := by rw [hlen1]; (try rw [← hlen0]); (try simp)
  obtain ⟨p1, r1, rfl, eh1⟩ := heap_at (frame_hget (hget_at e2) (hfr1 b (fun h => hfx b (si1 b h) rfl)))
  simp only [EZM, q_bx, if_true, if_false, Nat.reduceAdd, Option.bind_some, Nat.reduceBEq, Nat.reduceLeDiff, kbk_r, i0, st_el eh1 rfl, rd_el eh1 rfl, w0, w1, m1, beq_dec, w3, w5, c2a, c2b, c2c, c4a, c4b, c4c, c6a, c6b, c6c]
  obtain ⟨gi2, oi2, ni2, si2, bk2⟩ := OwnL.pick (A := [a2]) (D := [_]) rfl (ow.frame fun c hc => at_ne eh1 (hfx c hc)) ndx
  refine TCall.ref (by simp only [EO, c4d]) (kbq_T x.questions (kj + 3 + cntL DExport.cnt x.exports) (by omega) (by omega) (hox.2.1) _ oi2 ni2) ?_
  rintro _ hn ⟨rfl, hlen2, hfr2, un2⟩
  replace ow := bk2 hn _ hfr2 un2
  have fr2 : ∀ c, c ≠ b → c ∉ fx → hn[c]? = H0[c]? := fun c h1 h2 => (hfr2 c (fun h => h2 (si2 c h))).trans ((at_ne eh1 h1).trans (fr1 c h1 h2))
  have hlen2 : hn.length = H0.length := by rw [hlen2]; (try rw [← hlen1]); (try simp)
  obtain ⟨p2, r2, rfl, eh2⟩ := heap_at (frame_hget (hget_at eh1) (hfr2 b (fun h => hfx b (si2 b h) rfl)))
  simp only [EZM, q_bx, if_true, if_false, Nat.reduceAdd, Option.bind_some, Nat.reduceBEq, Nat.reduceLeDiff, kbk_r, i0, st_el eh2 rfl, rd_el eh2 rfl, w0, w1, m1, beq_dec, w3, w5, c2a, c2b, c2c, c4a, c4b, c4c, c6a, c6b, c6c]
  obtain ⟨gi3, oi3, ni3, si3, bk3⟩ := OwnL.pick (A := [a2, a4]) (D := [_, _]) rfl (ow.frame fun c hc => at_ne eh2 (hfx c hc)) ndx
  refine TCall.ref (by simp only [EO, c6d]) (kbq_T x.answers (kj + 4 + cntL DExport.cnt x.exports + cntL DQuestion.cnt x.questions) (by omega) (by omega) (hox.2.2) _ oi3 ni3) ?_
  rintro _ hn ⟨rfl, hlen3, hfr3, un3⟩
  replace ow := bk3 hn _ hfr3 un3
  have fr3 : ∀ c, c ≠ b → c ∉ fx → hn[c]? = H0[c]? := fun c h1 h2 => (hfr3 c (fun h => h2 (si3 c h))).trans ((at_ne eh2 h1).trans (fr2 c h1 h2))
  have hlen3 : hn.length = H0.length := by rw [hlen3]; (try rw [← hlen2]); (try simp)
  obtain ⟨p3, r3, rfl, eh3⟩ := heap_at (frame_hget (hget_at eh2) (hfr3 b (fun h => hfx b (si3 b h) rfl)))
  simp only [EZM, q_bx, if_true, if_false, Nat.reduceAdd, Option.bind_some, Nat.reduceBEq, Nat.reduceLeDiff, kbk_r, i0, st_el eh3 rfl, rd_el eh3 rfl, w0, w1, m1, beq_dec, w3, w5, c2a, c2b, c2c, c4a, c4b, c4c, c6a, c6b, c6c]
  refine ⟨(j + 1, _, as1 ++ [.int .i64 (kj), .bool (decide ((kj + 1) % 3 = 0)), a2, .int .i64 (kj + 2 + cntL DExport.cnt x.exports), a4, .int .i64 (kj + 3 + cntL DExport.cnt x.exports + cntL DQuestion.cnt x.questions), a6], post, f1 ++ fx, fr), ⟨hlt, ?inv⟩, (by simp only; omega), ⟨?le, rfl, rfl⟩⟩
  case inv =>
    simp only; rw [hmt]
    replace ow := ow.frame fun c hc => at_ne (x := some (g, as1 ++ elc [.int .i64 (kj), .bool (decide ((kj + 1) % 3 = 0)), a2, .int .i64 (kj + 2 + cntL DExport.cnt x.exports), a4, .int .i64 (kj + 3 + cntL DExport.cnt x.exports + cntL DQuestion.cnt x.questions), a6] (post ++ tail))) eh3 (hfx c hc)
    obtain ⟨F0, R0, E0, O0, ⟨F1, R1, E1, O1, ⟨F2, R2, E2, O2, hz⟩⟩⟩ := ow
    have hz : R2 = [] := hz
    refine iv.next (y := DLink.mk_ x kj) nd q2 (by rw [← hlen3]; (try simp)) (hget_at eh3) (fun c h1 h2 => (at_ne eh3 h1).trans (fr3 c h1 h2)) ?_
    rw [E0, E1, E2, hz]; exact (.i (.b (.o O0 (.i (.o O1 (.i (.o O2 .nil)))))))
  case le =>
    have hfin : k + cntL DLink.cnt (l.take (j + 1)) = kj + 4 + cntL DExport.cnt x.exports + cntL DQuestion.cnt x.questions + cntL DQuestion.cnt x.answers := by rw [htk]; simp only [DLink.cnt]; omega
    rw [hfin, wN (by omega)]; (try simp [kbk_s0, LeL, LeV])
theorem kbw_T (l : List DWire) (k : Int) (hk : 0 ≤ k) (hb : k + cntL DWire.cnt l ≤ 9223372036854775000) (hl : l.length ≤ 1073741824) (H : AH) {a : AV} {fp : List Nat} (o : Own H a (.sl 2 (l.map DWire.cd)) fp) (nd : fp.Nodup) :
    T Tryz.prog Γ Fn.kbw [a, .int .i64 k] H fun v h' => v = .int .i64 (k + cntL DWire.cnt l) ∧ (h'.length = H.length ∧ (∀ c, c ∉ fp → h'[c]? = H[c]?) ∧ Own h' a (.sl 2 ((mkL DWire.mk_ DWire.cnt l k).map DWire.cd)) fp) := by
  rcases o.sl_inv with ⟨rfl, e, rfl⟩ | ⟨b, g, cap, ex, as0, tail, fp, rfl, rfl, hg, hsz, ht, hc, hown⟩
  · have e : l = [] := by simpa using e
    subst e
    have L0 : lenI false .nils = some (.int .i64 0) := rfl
    refine kbw_e (aw_sound tabOK mixed [] _ _ _ ?_)
    unfold kbw_c
    simp only [EZM, q_bx, if_true, if_false, Nat.reduceAdd, Option.bind_some, Nat.reduceBEq, Nat.reduceLeDiff, kbw_r]
    refine loopI tabOK mixed [] (fun _ : Unit => True) (fun _ => 0) (fun _ => kbw_s0 .nils (.int .i64 k) (.int .i64 0) [] H) () trivial ⟨by simp [kbw_s0, LeL, LeV], rfl, rfl⟩ ?_
    intro _ _
    simp only [EZM, q_bx, if_true, if_false, Nat.reduceAdd, Option.bind_some, Nat.reduceBEq, Nat.reduceLeDiff, kbw_r, kbw_s0, L0, show decide ((0 : Int) < 0) = false from rfl]
    refine ⟨rfl, by simp [cntL], ?_⟩
    first | exact ⟨rfl, fun _ _ => rfl, .nil _⟩ | exact ⟨fun _ _ => trivial, .nil _⟩
  simp only [List.length_map] at hc o ⊢
  have L0 : lenI false (.gs b g 0 l.length cap 2 ex) = some (.int .i64 l.length) := rfl
  have hbf : b ∉ fp := (List.nodup_cons.1 nd).1
  refine kbw_e (aw_sound tabOK mixed [] _ _ _ ?_)
  unfold kbw_c
  simp only [EZM, q_bx, if_true, if_false, Nat.reduceAdd, Option.bind_some, Nat.reduceBEq, Nat.reduceLeDiff, kbw_r]
  refine loopI tabOK mixed [] (fun y : Nat × AH × List AV × List AV × List Nat × List Nat => y.1 ≤ l.length ∧ MInv H b g tail fp DWire.cd (l.drop y.1) (mkL DWire.mk_ DWire.cnt (l.take y.1) k) y.2.1 y.2.2.1 y.2.2.2.1 y.2.2.2.2.1 y.2.2.2.2.2) (fun y => l.length - y.1)
    (fun y => kbw_s0 (.gs b g 0 l.length cap 2 ex) (.int .i64 (k + cntL DWire.cnt (l.take y.1))) (.int .i64 y.1) [] y.2.1) (0, H, [], as0, [], fp) ⟨by simp, by simpa [mkL] using MInv.start hg hown⟩ ⟨by simp [kbw_s0, LeL, LeV, cntL], rfl, rfl⟩ ?_
  rintro ⟨j, H', as1, as2, f1, f2⟩ ⟨hj, iv⟩
  simp only at hj iv
  simp only [EZM, q_bx, if_true, if_false, Nat.reduceAdd, Option.bind_some, Nat.reduceBEq, Nat.reduceLeDiff, kbw_r, kbw_s0, L0]
  refine c_split (fun hlt => ?_) (fun hge => ?_)
  rotate_left
  · have hge : j = l.length := by simp at hge; omega
    subst hge
    simp only [EZM, q_bx, if_true, if_false, Nat.reduceAdd, Option.bind_some, Nat.reduceBEq, Nat.reduceLeDiff, kbw_r]
    rw [List.drop_length, List.take_length] at iv
    rw [List.take_length]
    exact ⟨rfl, rfl, iv.done mkL_len (fun _ => rfl) ht hc⟩
  have hlt : j < l.length := by simpa using hlt
  have htk := cntL_take DWire.cnt hlt
  have hle := cntL_le (c := DWire.cnt) DWire.cnt_nn hlt
  have hnn := cntL_nn (c := DWire.cnt) DWire.cnt_nn (l.take j)
  have hmt := mkL_take DWire.mk_ DWire.cnt hlt k
  rw [List.drop_eq_getElem_cons hlt] at iv
  obtain ⟨x, hx⟩ : ∃ x, x = l[j] := ⟨_, rfl⟩
  rw [← hx] at iv
  try rw [← hx] at htk hle
  try rw [← hx] at hmt
  obtain ⟨kj, hkj⟩ : ∃ kj, kj = k + cntL DWire.cnt (l.take j) := ⟨_, rfl⟩
  rw [← hkj] at hmt
  rw [← hkj]
  have hk0 : 0 ≤ kj := by omega
  have hkb : kj + DWire.cnt x ≤ 9223372036854775000 := by omega
  obtain ⟨h1, h2, cs, post, fx, fr, e1, e2, rfl, rfl, q1, q2⟩ := iv.open
  have hfx : ∀ c ∈ fx, c ≠ b := fun c hc e => hbf (by rw [iv.fps, ← e]; simp [hc])
  have ndx : fx.Nodup := (List.nodup_append.1 (List.nodup_append.1 (iv.fps ▸ (List.nodup_cons.1 nd).2)).2.1).1
  have hn0 : as1.length = j * 2 := by rw [iv.o1.len, flat_len' (sz := 2) (fun y _ => rfl), mkL_len, List.length_take, Nat.min_eq_left hj]
  have i0 : aIdxs 2 (.gs b g 0 l.length cap 2 ex) (j : Int) = some (.gp b g as1.length) := by rw [idx_gs hlt, hn0, Nat.zero_add]
  simp only [DWire.cnt] at hkb
  simp only [DWire.cd, ownL_c, ownL_n, own_i, own_b, own_s] at q1
  obtain ⟨_, _, _, _, rfl, e0z, ⟨rfl, rfl⟩, ⟨_, _, _, _, rfl, e1z, ⟨rfl, rfl⟩, ⟨rfl, e2z⟩⟩⟩ := q1
  have hfxe : fx = [] := by rw [e0z, e1z, e2z]; simp
  have ow : OwnL H' [] [] fx := by rw [hfxe]; exact .nil
  have hlen0 := (rfl : H'.length = H'.length)
  have fr0 : ∀ c, c ≠ b → c ∉ fx → H'[c]? = H'[c]? := fun _ _ _ => rfl
  have w0 : IntKind.i64.wrap (kj + 1) = kj + 1 := (wrap_nat (by omega) (by omega)).trans (by omega)
  have w1 : IntKind.i64.wrap (kj + 1 + 1) = kj + 2 := (wrap_nat (by omega) (by omega)).trans (by omega)
  obtain ⟨H0, hH0⟩ : ∃ H0, H0 = H' := ⟨_, rfl⟩
  rw [← hH0] at iv q2 ow fr0 hlen0
  have fr0 : ∀ c, c ≠ b → c ∉ fx → H'[c]? = H0[c]? := fun _ _ _ => by rw [hH0]
  have hlen0 : H'.length = H0.length := by rw [hH0]
  rw [hH0] at ow
  replace e1 : H' = h1 ++ some (g, as1 ++ elc [.int .i64 x.kind, .int .i64 x.n] (post ++ tail)) :: h2 := e1
  subst e1
  simp only [EZM, q_bx, if_true, if_false, Nat.reduceAdd, Option.bind_some, Nat.reduceBEq, Nat.reduceLeDiff, kbw_r, i0, st_el e2 rfl, rd_el e2 rfl, w0, w1]
  refine ⟨(j + 1, _, as1 ++ [.int .i64 (kj), .int .i64 (kj + 1)], post, f1 ++ [], fr), ⟨hlt, ?inv⟩, (by simp only; omega), ⟨?le, rfl, rfl⟩⟩
  case inv =>
    simp only; rw [hmt]
    subst hfxe
    exact iv.next (y := DWire.mk_ x kj) nd q2 (by rw [← hlen0]; (try simp)) (hget_at e2) (fun c h1 h2 => (at_ne e2 h1).trans (fr0 c h1 h2)) (.i (.i .nil))
  case le =>
    have hfin : k + cntL DWire.cnt (l.take (j + 1)) = kj + 2 := by rw [htk]; simp only [DWire.cnt]; omega
    rw [hfin, wN (by omega)]; (try simp [kbw_s0, LeL, LeV])
theorem kbm_T (l : List DMessage) (k : Int) (hk : 0 ≤ k) (hb : k + cntL DMessage.cnt l ≤ 9223372036854775000) (hl : l.length ≤ 1073741824) (ho : ∀ x ∈ l, x.ok 1073741824) (H : AH) {a : AV} {fp : List Nat} (o : Own H a (.sl 12 (l.map DMessage.cd)) fp) (nd : fp.Nodup) :
    T Tryz.prog Γ Fn.kbm [a, .int .i64 k] H fun v h' => v = .int .i64 (k + cntL DMessage.cnt l) ∧ (h'.length = H.length ∧ (∀ c, c ∉ fp → h'[c]? = H[c]?) ∧ Own h' a (.sl 12 ((mkL DMessage.mk_ DMessage.cnt l k).map DMessage.cd)) fp) := by
  rcases o.sl_inv with ⟨rfl, e, rfl⟩ | ⟨b, g, cap, ex, as0, tail, fp, rfl, rfl, hg, hsz, ht, hc, hown⟩
  · have e : l = [] := by simpa using e
    subst e
    have L0 : lenI false .nils = some (.int .i64 0) := rfl
    refine kbm_e (aw_sound tabOK mixed [] _ _ _ ?_)
    unfold kbm_c
    simp only [EZM, q_bx, if_true, if_false, Nat.reduceAdd, Option.bind_some, Nat.reduceBEq, Nat.reduceLeDiff, kbm_r]
    refine loopI tabOK mixed [] (fun _ : Unit => True) (fun _ => 0) (fun _ => kbm_s0 .nils (.int .i64 k) (.int .i64 0) [] H) () trivial ⟨by simp [kbm_s0, LeL, LeV], rfl, rfl⟩ ?_
    intro _ _
    simp only [EZM, q_bx, if_true, if_false, Nat.reduceAdd, Option.bind_some, Nat.reduceBEq, Nat.reduceLeDiff, kbm_r, kbm_s0, L0, show decide ((0 : Int) < 0) = false from rfl]
    refine ⟨rfl, by simp [cntL], ?_⟩
    first | exact ⟨rfl, fun _ _ => rfl, .nil _⟩ | exact ⟨fun _ _ => trivial, .nil _⟩
  simp only [List.length_map] at hc o ⊢
  have L0 : lenI false (.gs b g 0 l.length cap 12 ex) = some (.int .i64 l.length) := rfl
  have hbf : b ∉ fp := (List.nodup_cons.1 nd).1
  refine kbm_e (aw_sound tabOK mixed [] _ _ _ ?_)
  unfold kbm_c
  simp only [EZM, q_bx, if_true, if_false, Nat.reduceAdd, Option.bind_some, Nat.reduceBEq, Nat.reduceLeDiff, kbm_r]
  refine loopI tabOK mixed [] (fun y : Nat × AH × List AV × List AV × List Nat × List Nat => y.1 ≤ l.length ∧ MInv H b g tail fp DMessage.cd (l.drop y.1) (mkL DMessage.mk_ DMessage.cnt (l.take y.1) k) y.2.1 y.2.2.1 y.2.2.2.1 y.2.2.2.2.1 y.2.2.2.2.2) (fun y => l.length - y.1)
    (fun y => kbm_s0 (.gs b g 0 l.length cap 12 ex) (.int .i64 (k + cntL DMessage.cnt (l.take y.1))) (.int .i64 y.1) [] y.2.1) (0, H, [], as0, [], fp) ⟨by simp, by simpa [mkL] using MInv.start hg hown⟩ ⟨by simp [kbm_s0, LeL, LeV, cntL], rfl, rfl⟩ ?_
  rintro ⟨j, H', as1, as2, f1, f2⟩ ⟨hj, iv⟩
  simp only at hj iv
  simp only [EZM, q_bx, if_true, if_false, Nat.reduceAdd, Option.bind_some, Nat.reduceBEq, Nat.reduceLeDiff, kbm_r, kbm_s0, L0]
  refine c_split (fun hlt => ?_) (fun hge => ?_)
  rotate_left
  · have hge : j = l.length := by simp at hge; omega
    subst hge
    simp only [EZM, q_bx, if_true, if_false, Nat.reduceAdd, Option.bind_some, Nat.reduceBEq, Nat.reduceLeDiff, kbm_r]
    rw [List.drop_length, List.take_length] at iv
    rw [List.take_length]
    exact ⟨rfl, rfl, iv.done mkL_len (fun _ => rfl) ht hc⟩
  have hlt : j < l.length := by simpa using hlt
  have htk := cntL_take DMessage.cnt hlt
  have hle := cntL_le (c := DMessage.cnt) DMessage.cnt_nn hlt
  have hnn := cntL_nn (c := DMessage.cnt) DMessage.cnt_nn (l.take j)
  have hmt := mkL_take DMessage.mk_ DMessage.cnt hlt k
  rw [List.drop_eq_getElem_cons hlt] at iv
  obtain ⟨x, hx⟩ : ∃ x, x = l[j] := ⟨_, rfl⟩
  rw [← hx] at iv
  try rw [← hx] at htk hle
  try rw [← hx] at hmt
  obtain ⟨kj, hkj⟩ : ∃ kj, kj = k + cntL DMessage.cnt (l.take j) := ⟨_, rfl⟩
  rw [← hkj] at hmt
  rw [← hkj]
  have hk0 : 0 ≤ kj := by omega
  have hkb : kj + DMessage.cnt x ≤ 9223372036854775000 := by omega
  obtain ⟨h1, h2, cs, post, fx, fr, e1, e2, rfl, rfl, q1, q2⟩ := iv.open
  have hfx : ∀ c ∈ fx, c ≠ b := fun c hc e => hbf (by rw [iv.fps, ← e]; simp [hc])
  have ndx : fx.Nodup := (List.nodup_append.1 (List.nodup_append.1 (iv.fps ▸ (List.nodup_cons.1 nd).2)).2.1).1
  have hn0 : as1.length = j * 12 := by rw [iv.o1.len, flat_len' (sz := 12) (fun y _ => rfl), mkL_len, List.length_take, Nat.min_eq_left hj]
  have i0 : aIdxs 12 (.gs b g 0 l.length cap 12 ex) (j : Int) = some (.gp b g as1.length) := by rw [idx_gs hlt, hn0, Nat.zero_add]
  have z0 := cntL_nn (c := DWire.cnt) DWire.cnt_nn x.args
  simp only [DMessage.cnt] at hkb
  have hox := ho _ (List.getElem_mem hlt); rw [← hx] at hox
  simp only [DMessage.cd, ownL_c, ownL_n, own_i, own_b, own_s] at q1
  obtain ⟨_, _, _, _, rfl, e0z, ⟨rfl, rfl⟩, ⟨_, _, _, _, rfl, e1z, ⟨rfl, rfl⟩, ⟨_, _, _, _, rfl, e2z, ⟨rfl, rfl⟩, ⟨_, _, _, _, rfl, e3z, ⟨rfl, rfl⟩, ⟨_, _, _, _, rfl, e4z, ⟨rfl, rfl⟩, ⟨a5, _, g5, _, rfl, e5z, u5, ⟨_, _, _, _, rfl, e6z, ⟨rfl, rfl⟩, ⟨_, _, _, _, rfl, e7z, ⟨rfl, rfl⟩, ⟨_, _, _, _, rfl, e8z, ⟨rfl, rfl⟩, ⟨_, _, _, _, rfl, e9z, ⟨rfl, rfl⟩, ⟨_, _, _, _, rfl, e10z, ⟨rfl, rfl⟩, ⟨_, _, _, _, rfl, e11z, ⟨rfl, rfl⟩, ⟨rfl, e12z⟩⟩⟩⟩⟩⟩⟩⟩⟩⟩⟩⟩⟩ := q1
  have hfxe : fx = (g5 ++ []) := by rw [e0z, e1z, e2z, e3z, e4z, e5z, e6z, e7z, e8z, e9z, e10z, e11z, e12z]; simp
  have ow : OwnL H' [a5] [.sl 2 (x.args.map DWire.cd)] fx := by rw [hfxe]; exact (.o u5 .nil)
  obtain ⟨c5a, c5b, c5c, c5d⟩ := u5.cell
  have hlen0 := (rfl : H'.length = H'.length)
  have fr0 : ∀ c, c ≠ b → c ∉ fx → H'[c]? = H'[c]? := fun _ _ _ => rfl
  have w0 : IntKind.i64.wrap (kj + 1) = kj + 1 := (wrap_nat (by omega) (by omega)).trans (by omega)
  have w1 : IntKind.i64.wrap (kj + 1 + 1) = kj + 2 := (wrap_nat (by omega) (by omega)).trans (by omega)
  have w2 : IntKind.i64.wrap (kj + 2 + 1) = kj + 3 := (wrap_nat (by omega) (by omega)).trans (by omega)
  have w3 : IntKind.i64.wrap (kj + 3 + 1) = kj + 4 := (wrap_nat (by omega) (by omega)).trans (by omega)
  have w4 : IntKind.i64.wrap (kj + 4 + 1) = kj + 5 := (wrap_nat (by omega) (by omega)).trans (by omega)
  have w6 : IntKind.i64.wrap (kj + 5 + cntL DWire.cnt x.args + 1) = kj + 6 + cntL DWire.cnt x.args := (wrap_nat (by omega) (by omega)).trans (by omega)
  have w7 : IntKind.i64.wrap (kj + 6 + cntL DWire.cnt x.args + 1) = kj + 7 + cntL DWire.cnt x.args := (wrap_nat (by omega) (by omega)).trans (by omega)
  have w8 : IntKind.i64.wrap (kj + 7 + cntL DWire.cnt x.args + 1) = kj + 8 + cntL DWire.cnt x.args := (wrap_nat (by omega) (by omega)).trans (by omega)
  have w9 : IntKind.i64.wrap (kj + 8 + cntL DWire.cnt x.args + 1) = kj + 9 + cntL DWire.cnt x.args := (wrap_nat (by omega) (by omega)).trans (by omega)
  have w10 : IntKind.i64.wrap (kj + 9 + cntL DWire.cnt x.args + 1) = kj + 10 + cntL DWire.cnt x.args := (wrap_nat (by omega) (by omega)).trans (by omega)
  have w11 : IntKind.i64.wrap (kj + 10 + cntL DWire.cnt x.args + 1) = kj + 11 + cntL DWire.cnt x.args := (wrap_nat (by omega) (by omega)).trans (by omega)
  obtain ⟨H0, hH0⟩ : ∃ H0, H0 = H' := ⟨_, rfl⟩
  rw [← hH0] at iv q2 ow fr0 hlen0
  have fr0 : ∀ c, c ≠ b → c ∉ fx → H'[c]? = H0[c]? := fun _ _ _ => by rw [hH0]
  have hlen0 : H'.length = H0.length := by rw [hH0]
  rw [hH0] at ow
  replace e1 : H' = h1 ++ some (g, as1 ++ elc [.int .i64 x.kind, .int .i64 x.pos, .int .i64 x.answer, .int .i64 x.question, .str x.name, a5, .int .i64 x.value.kind, .int .i64 x.value.n, .int .i64 x.count, .int .i64 x.tag.vat, .int .i64 x.tag.entity, .int .i64 x.tag.seq] (post ++ tail)) :: h2 := e1
  subst e1
  simp only [EZM, q_bx, if_true, if_false, Nat.reduceAdd, Option.bind_some, Nat.reduceBEq, Nat.reduceLeDiff, kbm_r, i0, st_el e2 rfl, rd_el e2 rfl, w0, w1, w2, w3, w4, w6, w7, w8, w9, w10, w11, c5a, c5b, c5c]
  refine TCall.val (by simp only [EO]) (kbt_T (kj + 4) (by omega) (by omega) _) ?_
  simp only [EZM, q_bx, if_true, if_false, Nat.reduceAdd, Option.bind_some, Nat.reduceBEq, Nat.reduceLeDiff, kbm_r, i0, st_el e2 rfl, rd_el e2 rfl, w0, w1, w2, w3, w4, w6, w7, w8, w9, w10, w11, c5a, c5b, c5c]
  obtain ⟨gi1, oi1, ni1, si1, bk1⟩ := OwnL.pick (A := []) (D := []) rfl (ow.frame fun c hc => at_ne e2 (hfx c hc)) ndx
  refine TCall.ref (by simp only [EO, c5d]) (kbw_T x.args (kj + 5) (by omega) (by omega) (hox.2) _ oi1 ni1) ?_
  rintro _ hn ⟨rfl, hlen1, hfr1, un1⟩
  replace ow := bk1 hn _ hfr1 un1
  have fr1 : ∀ c, c ≠ b → c ∉ fx → hn[c]? = H0[c]? := fun c h1 h2 => (hfr1 c (fun h => h2 (si1 c h))).trans ((at_ne e2 h1).trans (fr0 c h1 h2))
  have hlen1 : hn.length = H0.length := by rw [hlen1]; (try rw [← hlen0]); (try simp)
  obtain ⟨p1, r1, rfl, eh1⟩ := heap_at (frame_hget (hget_at e2) (hfr1 b (fun h => hfx b (si1 b h) rfl)))
  simp only [EZM, q_bx, if_true, if_false, Nat.reduceAdd, Option.bind_some, Nat.reduceBEq, Nat.reduceLeDiff, kbm_r, i0, st_el eh1 rfl, rd_el eh1 rfl, w0, w1, w2, w3, w4, w6, w7, w8, w9, w10, w11, c5a, c5b, c5c]
  refine ⟨(j + 1, _, as1 ++ [.int .i64 (kj), .int .i64 (kj + 1), .int .i64 (kj + 2), .int .i64 (kj + 3), .str (markT (kj + 4)), a5, .int .i64 (kj + 5 + cntL DWire.cnt x.args), .int .i64 (kj + 6 + cntL DWire.cnt x.args), .int .i64 (kj + 7 + cntL DWire.cnt x.args), .int .i64 (kj + 8 + cntL DWire.cnt x.args), .int .i64 (kj + 9 + cntL DWire.cnt x.args), .int .i64 (kj + 10 + cntL DWire.cnt x.args)], post, f1 ++ fx, fr), ⟨hlt, ?inv⟩, (by simp only; omega), ⟨?le, rfl, rfl⟩⟩
  case inv =>
    simp only; rw [hmt]
    replace ow := ow.frame fun c hc => at_ne (x := some (g, as1 ++ elc [.int .i64 (kj), .int .i64 (kj + 1), .int .i64 (kj + 2), .int .i64 (kj + 3), .str (markT (kj + 4)), a5, .int .i64 (kj + 5 + cntL DWire.cnt x.args), .int .i64 (kj + 6 + cntL DWire.cnt x.args), .int .i64 (kj + 7 + cntL DWire.cnt x.args), .int .i64 (kj + 8 + cntL DWire.cnt x.args), .int .i64 (kj + 9 + cntL DWire.cnt x.args), .int .i64 (kj + 10 + cntL DWire.cnt x.args)] (post ++ tail))) eh1 (hfx c hc)
    obtain ⟨F0, R0, E0, O0, hz⟩ := ow
    have hz : R0 = [] := hz
    refine iv.next (y := DMessage.mk_ x kj) nd q2 (by rw [← hlen1]; (try simp)) (hget_at eh1) (fun c h1 h2 => (at_ne eh1 h1).trans (fr1 c h1 h2)) ?_
    rw [E0, hz]; exact (.i (.i (.i (.i (.s (.o O0 (.i (.i (.i (.i (.i (.i .nil))))))))))))
  case le =>
    have hfin : k + cntL DMessage.cnt (l.take (j + 1)) = kj + 11 + cntL DWire.cnt x.args := by rw [htk]; simp only [DMessage.cnt]; omega
    rw [hfin, wN (by omega)]; (try simp [kbm_s0, LeL, LeV])
theorem kbp_T (l : List DOutgoing) (k : Int) (hk : 0 ≤ k) (hb : k + cntL DOutgoing.cnt l ≤ 9223372036854775000) (hl : l.length ≤ 1073741824) (ho : ∀ x ∈ l, x.ok 1073741824) (H : AH) {a : AV} {fp : List Nat} (o : Own H a (.sl 13 (l.map DOutgoing.cd)) fp) (nd : fp.Nodup) :
    T Tryz.prog Γ Fn.kbp [a, .int .i64 k] H fun v h' => v = .int .i64 (k + cntL DOutgoing.cnt l) ∧ (h'.length = H.length ∧ (∀ c, c ∉ fp → h'[c]? = H[c]?) ∧ Own h' a (.sl 13 ((mkL DOutgoing.mk_ DOutgoing.cnt l k).map DOutgoing.cd)) fp) := by
  rcases o.sl_inv with ⟨rfl, e, rfl⟩ | ⟨b, g, cap, ex, as0, tail, fp, rfl, rfl, hg, hsz, ht, hc, hown⟩
  · have e : l = [] := by simpa using e
    subst e
    have L0 : lenI false .nils = some (.int .i64 0) := rfl
    refine kbp_e (aw_sound tabOK mixed [] _ _ _ ?_)
    unfold kbp_c
    simp only [EZM, q_bx, if_true, if_false, Nat.reduceAdd, Option.bind_some, Nat.reduceBEq, Nat.reduceLeDiff, kbp_r]
    refine loopI tabOK mixed [] (fun _ : Unit => True) (fun _ => 0) (fun _ => kbp_s0 .nils (.int .i64 k) (.int .i64 0) [] H) () trivial ⟨by simp [kbp_s0, LeL, LeV], rfl, rfl⟩ ?_
    intro _ _
    simp only [EZM, q_bx, if_true, if_false, Nat.reduceAdd, Option.bind_some, Nat.reduceBEq, Nat.reduceLeDiff, kbp_r, kbp_s0, L0, show decide ((0 : Int) < 0) = false from rfl]
    refine ⟨rfl, by simp [cntL], ?_⟩
    first | exact ⟨rfl, fun _ _ => rfl, .nil _⟩ | exact ⟨fun _ _ => trivial, .nil _⟩
  simp only [List.length_map] at hc o ⊢
  have L0 : lenI false (.gs b g 0 l.length cap 13 ex) = some (.int .i64 l.length) := rfl
  have hbf : b ∉ fp := (List.nodup_cons.1 nd).1
  refine kbp_e (aw_sound tabOK mixed [] _ _ _ ?_)
  unfold kbp_c
  simp only [EZM, q_bx, if_true, if_false, Nat.reduceAdd, Option.bind_some, Nat.reduceBEq, Nat.reduceLeDiff, kbp_r]
  refine loopI tabOK mixed [] (fun y : Nat × AH × List AV × List AV × List Nat × List Nat => y.1 ≤ l.length ∧ MInv H b g tail fp DOutgoing.cd (l.drop y.1) (mkL DOutgoing.mk_ DOutgoing.cnt (l.take y.1) k) y.2.1 y.2.2.1 y.2.2.2.1 y.2.2.2.2.1 y.2.2.2.2.2) (fun y => l.length - y.1)
    (fun y => kbp_s0 (.gs b g 0 l.length cap 13 ex) (.int .i64 (k + cntL DOutgoing.cnt (l.take y.1))) (.int .i64 y.1) [] y.2.1) (0, H, [], as0, [], fp) ⟨by simp, by simpa [mkL] using MInv.start hg hown⟩ ⟨by simp [kbp_s0, LeL, LeV, cntL], rfl, rfl⟩ ?_
  rintro ⟨j, H', as1, as2, f1, f2⟩ ⟨hj, iv⟩
  simp only at hj iv
  simp only [EZM, q_bx, if_true, if_false, Nat.reduceAdd, Option.bind_some, Nat.reduceBEq, Nat.reduceLeDiff, kbp_r, kbp_s0, L0]
  refine c_split (fun hlt => ?_) (fun hge => ?_)
  rotate_left
  · have hge : j = l.length := by simp at hge; omega
    subst hge
    simp only [EZM, q_bx, if_true, if_false, Nat.reduceAdd, Option.bind_some, Nat.reduceBEq, Nat.reduceLeDiff, kbp_r]
    rw [List.drop_length, List.take_length] at iv
    rw [List.take_length]
    exact ⟨rfl, rfl, iv.done mkL_len (fun _ => rfl) ht hc⟩
  have hlt : j < l.length := by simpa using hlt
  have htk := cntL_take DOutgoing.cnt hlt
  have hle := cntL_le (c := DOutgoing.cnt) DOutgoing.cnt_nn hlt
  have hnn := cntL_nn (c := DOutgoing.cnt) DOutgoing.cnt_nn (l.take j)
  have hmt := mkL_take DOutgoing.mk_ DOutgoing.cnt hlt k
  rw [List.drop_eq_getElem_cons hlt] at iv
  obtain ⟨x, hx⟩ : ∃ x, x = l[j] := ⟨_, rfl⟩
  rw [← hx] at iv
  try rw [← hx] at htk hle
  try rw [← hx] at hmt
  obtain ⟨kj, hkj⟩ : ∃ kj, kj = k + cntL DOutgoing.cnt (l.take j) := ⟨_, rfl⟩
  rw [← hkj] at hmt
  rw [← hkj]
  have hk0 : 0 ≤ kj := by omega
  have hkb : kj + DOutgoing.cnt x ≤ 9223372036854775000 := by omega
  obtain ⟨h1, h2, cs, post, fx, fr, e1, e2, rfl, rfl, q1, q2⟩ := iv.open
  have hfx : ∀ c ∈ fx, c ≠ b := fun c hc e => hbf (by rw [iv.fps, ← e]; simp [hc])
  have ndx : fx.Nodup := (List.nodup_append.1 (List.nodup_append.1 (iv.fps ▸ (List.nodup_cons.1 nd).2)).2.1).1
  have hn0 : as1.length = j * 13 := by rw [iv.o1.len, flat_len' (sz := 13) (fun y _ => rfl), mkL_len, List.length_take, Nat.min_eq_left hj]
  have i0 : aIdxs 13 (.gs b g 0 l.length cap 13 ex) (j : Int) = some (.gp b g as1.length) := by rw [idx_gs hlt, hn0, Nat.zero_add]
  have z0 := cntL_nn (c := DWire.cnt) DWire.cnt_nn x.message.args
  simp only [DOutgoing.cnt] at hkb
  have hox := ho _ (List.getElem_mem hlt); rw [← hx] at hox
  simp only [DOutgoing.cd, ownL_c, ownL_n, own_i, own_b, own_s] at q1
  obtain ⟨_, _, _, _, rfl, e0z, ⟨rfl, rfl⟩, ⟨_, _, _, _, rfl, e1z, ⟨rfl, rfl⟩, ⟨_, _, _, _, rfl, e2z, ⟨rfl, rfl⟩, ⟨_, _, _, _, rfl, e3z, ⟨rfl, rfl⟩, ⟨_, _, _, _, rfl, e4z, ⟨rfl, rfl⟩, ⟨_, _, _, _, rfl, e5z, ⟨rfl, rfl⟩, ⟨a6, _, g6, _, rfl, e6z, u6, ⟨_, _, _, _, rfl, e7z, ⟨rfl, rfl⟩, ⟨_, _, _, _, rfl, e8z, ⟨rfl, rfl⟩, ⟨_, _, _, _, rfl, e9z, ⟨rfl, rfl⟩, ⟨_, _, _, _, rfl, e10z, ⟨rfl, rfl⟩, ⟨_, _, _, _, rfl, e11z, ⟨rfl, rfl⟩, ⟨_, _, _, _, rfl, e12z, ⟨rfl, rfl⟩, ⟨rfl, e13z⟩⟩⟩⟩⟩⟩⟩⟩⟩⟩⟩⟩⟩⟩ := q1
  have hfxe : fx = (g6 ++ []) := by rw [e0z, e1z, e2z, e3z, e4z, e5z, e6z, e7z, e8z, e9z, e10z, e11z, e12z, e13z]; simp
  have ow : OwnL H' [a6] [.sl 2 (x.message.args.map DWire.cd)] fx := by rw [hfxe]; exact (.o u6 .nil)
  obtain ⟨c6a, c6b, c6c, c6d⟩ := u6.cell
  have hlen0 := (rfl : H'.length = H'.length)
  have fr0 : ∀ c, c ≠ b → c ∉ fx → H'[c]? = H'[c]? := fun _ _ _ => rfl
  have w0 : IntKind.i64.wrap (kj + 1) = kj + 1 := (wrap_nat (by omega) (by omega)).trans (by omega)
  have w1 : IntKind.i64.wrap (kj + 1 + 1) = kj + 2 := (wrap_nat (by omega) (by omega)).trans (by omega)
  have w2 : IntKind.i64.wrap (kj + 2 + 1) = kj + 3 := (wrap_nat (by omega) (by omega)).trans (by omega)
  have w3 : IntKind.i64.wrap (kj + 3 + 1) = kj + 4 := (wrap_nat (by omega) (by omega)).trans (by omega)
  have w4 : IntKind.i64.wrap (kj + 4 + 1) = kj + 5 := (wrap_nat (by omega) (by omega)).trans (by omega)
  have w5 : IntKind.i64.wrap (kj + 5 + 1) = kj + 6 := (wrap_nat (by omega) (by omega)).trans (by omega)
  have w7 : IntKind.i64.wrap (kj + 6 + cntL DWire.cnt x.message.args + 1) = kj + 7 + cntL DWire.cnt x.message.args := (wrap_nat (by omega) (by omega)).trans (by omega)
  have w8 : IntKind.i64.wrap (kj + 7 + cntL DWire.cnt x.message.args + 1) = kj + 8 + cntL DWire.cnt x.message.args := (wrap_nat (by omega) (by omega)).trans (by omega)
  have w9 : IntKind.i64.wrap (kj + 8 + cntL DWire.cnt x.message.args + 1) = kj + 9 + cntL DWire.cnt x.message.args := (wrap_nat (by omega) (by omega)).trans (by omega)
  have w10 : IntKind.i64.wrap (kj + 9 + cntL DWire.cnt x.message.args + 1) = kj + 10 + cntL DWire.cnt x.message.args := (wrap_nat (by omega) (by omega)).trans (by omega)
  have w11 : IntKind.i64.wrap (kj + 10 + cntL DWire.cnt x.message.args + 1) = kj + 11 + cntL DWire.cnt x.message.args := (wrap_nat (by omega) (by omega)).trans (by omega)
  have w12 : IntKind.i64.wrap (kj + 11 + cntL DWire.cnt x.message.args + 1) = kj + 12 + cntL DWire.cnt x.message.args := (wrap_nat (by omega) (by omega)).trans (by omega)
  obtain ⟨H0, hH0⟩ : ∃ H0, H0 = H' := ⟨_, rfl⟩
  rw [← hH0] at iv q2 ow fr0 hlen0
  have fr0 : ∀ c, c ≠ b → c ∉ fx → H'[c]? = H0[c]? := fun _ _ _ => by rw [hH0]
  have hlen0 : H'.length = H0.length := by rw [hH0]
  rw [hH0] at ow
  replace e1 : H' = h1 ++ some (g, as1 ++ elc [.int .i64 x.to_, .int .i64 x.message.kind, .int .i64 x.message.pos, .int .i64 x.message.answer, .int .i64 x.message.question, .str x.message.name, a6, .int .i64 x.message.value.kind, .int .i64 x.message.value.n, .int .i64 x.message.count, .int .i64 x.message.tag.vat, .int .i64 x.message.tag.entity, .int .i64 x.message.tag.seq] (post ++ tail)) :: h2 := e1
  subst e1
  simp only [EZM, q_bx, if_true, if_false, Nat.reduceAdd, Option.bind_some, Nat.reduceBEq, Nat.reduceLeDiff, kbp_r, i0, st_el e2 rfl, rd_el e2 rfl, w0, w1, w2, w3, w4, w5, w7, w8, w9, w10, w11, w12, c6a, c6b, c6c]
  refine TCall.val (by simp only [EO]) (kbt_T (kj + 5) (by omega) (by omega) _) ?_
  simp only [EZM, q_bx, if_true, if_false, Nat.reduceAdd, Option.bind_some, Nat.reduceBEq, Nat.reduceLeDiff, kbp_r, i0, st_el e2 rfl, rd_el e2 rfl, w0, w1, w2, w3, w4, w5, w7, w8, w9, w10, w11, w12, c6a, c6b, c6c]
  obtain ⟨gi1, oi1, ni1, si1, bk1⟩ := OwnL.pick (A := []) (D := []) rfl (ow.frame fun c hc => at_ne e2 (hfx c hc)) ndx
  refine TCall.ref (by simp only [EO, c6d]) (kbw_T x.message.args (kj + 6) (by omega) (by omega) (hox.2) _ oi1 ni1) ?_
  rintro _ hn ⟨rfl, hlen1, hfr1, un1⟩
  replace ow := bk1 hn _ hfr1 un1
  have fr1 : ∀ c, c ≠ b → c ∉ fx → hn[c]? = H0[c]? := fun c h1 h2 => (hfr1 c (fun h => h2 (si1 c h))).trans ((at_ne e2 h1).trans (fr0 c h1 h2))
  have hlen1 : hn.length = H0.length := by rw [hlen1]; (try rw [← hlen0]); (try simp)
  obtain ⟨p1, r1, rfl, eh1⟩ := heap_at (frame_hget (hget_at e2) (hfr1 b (fun h => hfx b (si1 b h) rfl)))
  simp only [EZM, q_bx, if_true, if_false, Nat.reduceAdd, Option.bind_some, Nat.reduceBEq, Nat.reduceLeDiff, kbp_r, i0, st_el eh1 rfl, rd_el eh1 rfl, w0, w1, w2, w3, w4, w5, w7, w8, w9, w10, w11, w12, c6a, c6b, c6c]
  refine ⟨(j + 1, _, as1 ++ [.int .i64 (kj), .int .i64 (kj + 1), .int .i64 (kj + 2), .int .i64 (kj + 3), .int .i64 (kj + 4), .str (markT (kj + 5)), a6, .int .i64 (kj + 6 + cntL DWire.cnt x.message.args), .int .i64 (kj + 7 + cntL DWire.cnt x.message.args), .int .i64 (kj + 8 + cntL DWire.cnt x.message.args), .int .i64 (kj + 9 + cntL DWire.cnt x.message.args), .int .i64 (kj + 10 + cntL DWire.cnt x.message.args), .int .i64 (kj + 11 + cntL DWire.cnt x.message.args)], post, f1 ++ fx, fr), ⟨hlt, ?inv⟩, (by simp only; omega), ⟨?le, rfl, rfl⟩⟩
  case inv =>
    simp only; rw [hmt]
    replace ow := ow.frame fun c hc => at_ne (x := some (g, as1 ++ elc [.int .i64 (kj), .int .i64 (kj + 1), .int .i64 (kj + 2), .int .i64 (kj + 3), .int .i64 (kj + 4), .str (markT (kj + 5)), a6, .int .i64 (kj + 6 + cntL DWire.cnt x.message.args), .int .i64 (kj + 7 + cntL DWire.cnt x.message.args), .int .i64 (kj + 8 + cntL DWire.cnt x.message.args), .int .i64 (kj + 9 + cntL DWire.cnt x.message.args), .int .i64 (kj + 10 + cntL DWire.cnt x.message.args), .int .i64 (kj + 11 + cntL DWire.cnt x.message.args)] (post ++ tail))) eh1 (hfx c hc)
    obtain ⟨F0, R0, E0, O0, hz⟩ := ow
    have hz : R0 = [] := hz
    refine iv.next (y := DOutgoing.mk_ x kj) nd q2 (by rw [← hlen1]; (try simp)) (hget_at eh1) (fun c h1 h2 => (at_ne eh1 h1).trans (fr1 c h1 h2)) ?_
    rw [E0, hz]; exact (.i (.i (.i (.i (.i (.s (.o O0 (.i (.i (.i (.i (.i (.i .nil)))))))))))))
  case le =>
    have hfin : k + cntL DOutgoing.cnt (l.take (j + 1)) = kj + 12 + cntL DWire.cnt x.message.args := by rw [htk]; simp only [DOutgoing.cnt]; omega
    rw [hfin, wN (by omega)]; (try simp [kbp_s0, LeL, LeV])
theorem kbv_T (l : List DVat) (k : Int) (hk : 0 ≤ k) (hb : k + cntL DVat.cnt l ≤ 9223372036854775000) (hl : l.length ≤ 1073741824) (ho : ∀ x ∈ l, x.ok 1073741824) (H : AH) {a : AV} {fp : List Nat} (o : Own H a (.sl 5 (l.map DVat.cd)) fp) (nd : fp.Nodup) :
    T Tryz.prog Γ Fn.kbv [a, .int .i64 k] H fun v h' => v = .int .i64 (k + cntL DVat.cnt l) ∧ (h'.length = H.length ∧ (∀ c, c ∉ fp → h'[c]? = H[c]?) ∧ Own h' a (.sl 5 ((mkL DVat.mk_ DVat.cnt l k).map DVat.cd)) fp) := by
  rcases o.sl_inv with ⟨rfl, e, rfl⟩ | ⟨b, g, cap, ex, as0, tail, fp, rfl, rfl, hg, hsz, ht, hc, hown⟩
  · have e : l = [] := by simpa using e
    subst e
    have L0 : lenI false .nils = some (.int .i64 0) := rfl
    refine kbv_e (aw_sound tabOK mixed [] _ _ _ ?_)
    unfold kbv_c
    simp only [EZM, q_bx, if_true, if_false, Nat.reduceAdd, Option.bind_some, Nat.reduceBEq, Nat.reduceLeDiff, kbv_r]
    refine loopI tabOK mixed [] (fun _ : Unit => True) (fun _ => 0) (fun _ => kbv_s0 .nils (.int .i64 k) (.int .i64 0) [] H) () trivial ⟨by simp [kbv_s0, LeL, LeV], rfl, rfl⟩ ?_
    intro _ _
    simp only [EZM, q_bx, if_true, if_false, Nat.reduceAdd, Option.bind_some, Nat.reduceBEq, Nat.reduceLeDiff, kbv_r, kbv_s0, L0, show decide ((0 : Int) < 0) = false from rfl]
    refine ⟨rfl, by simp [cntL], ?_⟩
    first | exact ⟨rfl, fun _ _ => rfl, .nil _⟩ | exact ⟨fun _ _ => trivial, .nil _⟩
  simp only [List.length_map] at hc o ⊢
  have L0 : lenI false (.gs b g 0 l.length cap 5 ex) = some (.int .i64 l.length) := rfl
  have hbf : b ∉ fp := (List.nodup_cons.1 nd).1
  refine kbv_e (aw_sound tabOK mixed [] _ _ _ ?_)
  unfold kbv_c
  simp only [EZM, q_bx, if_true, if_false, Nat.reduceAdd, Option.bind_some, Nat.reduceBEq, Nat.reduceLeDiff, kbv_r]
  refine loopI tabOK mixed [] (fun y : Nat × AH × List AV × List AV × List Nat × List Nat => y.1 ≤ l.length ∧ MInv H b g tail fp DVat.cd (l.drop y.1) (mkL DVat.mk_ DVat.cnt (l.take y.1) k) y.2.1 y.2.2.1 y.2.2.2.1 y.2.2.2.2.1 y.2.2.2.2.2) (fun y => l.length - y.1)
    (fun y => kbv_s0 (.gs b g 0 l.length cap 5 ex) (.int .i64 (k + cntL DVat.cnt (l.take y.1))) (.int .i64 y.1) [] y.2.1) (0, H, [], as0, [], fp) ⟨by simp, by simpa [mkL] using MInv.start hg hown⟩ ⟨by simp [kbv_s0, LeL, LeV, cntL], rfl, rfl⟩ ?_
  rintro ⟨j, H', as1, as2, f1, f2⟩ ⟨hj, iv⟩
  simp only at hj iv
  simp only [EZM, q_bx, if_true, if_false, Nat.reduceAdd, Option.bind_some, Nat.reduceBEq, Nat.reduceLeDiff, kbv_r, kbv_s0, L0]
  refine c_split (fun hlt => ?_) (fun hge => ?_)
  rotate_left
  · have hge : j = l.length := by simp at hge; omega
    subst hge
    simp only [EZM, q_bx, if_true, if_false, Nat.reduceAdd, Option.bind_some, Nat.reduceBEq, Nat.reduceLeDiff, kbv_r]
    rw [List.drop_length, List.take_length] at iv
    rw [List.take_length]
    exact ⟨rfl, rfl, iv.done mkL_len (fun _ => rfl) ht hc⟩
  have hlt : j < l.length := by simpa using hlt
  have htk := cntL_take DVat.cnt hlt
  have hle := cntL_le (c := DVat.cnt) DVat.cnt_nn hlt
  have hnn := cntL_nn (c := DVat.cnt) DVat.cnt_nn (l.take j)
  have hmt := mkL_take DVat.mk_ DVat.cnt hlt k
  rw [List.drop_eq_getElem_cons hlt] at iv
  obtain ⟨x, hx⟩ : ∃ x, x = l[j] := ⟨_, rfl⟩
  rw [← hx] at iv
  try rw [← hx] at htk hle
  try rw [← hx] at hmt
  obtain ⟨kj, hkj⟩ : ∃ kj, kj = k + cntL DVat.cnt (l.take j) := ⟨_, rfl⟩
  rw [← hkj] at hmt
  rw [← hkj]
  have hk0 : 0 ≤ kj := by omega
  have hkb : kj + DVat.cnt x ≤ 9223372036854775000 := by omega
  obtain ⟨h1, h2, cs, post, fx, fr, e1, e2, rfl, rfl, q1, q2⟩ := iv.open
  have hfx : ∀ c ∈ fx, c ≠ b := fun c hc e => hbf (by rw [iv.fps, ← e]; simp [hc])
  have ndx : fx.Nodup := (List.nodup_append.1 (List.nodup_append.1 (iv.fps ▸ (List.nodup_cons.1 nd).2)).2.1).1
  have hn0 : as1.length = j * 5 := by rw [iv.o1.len, flat_len' (sz := 5) (fun y _ => rfl), mkL_len, List.length_take, Nat.min_eq_left hj]
  have i0 : aIdxs 5 (.gs b g 0 l.length cap 5 ex) (j : Int) = some (.gp b g as1.length) := by rw [idx_gs hlt, hn0, Nat.zero_add]
  have z0 := cntL_nn (c := DEntity.cnt) DEntity.cnt_nn x.entities
  have z1 := cntL_nn (c := DSent.cnt) DSent.cnt_nn x.loop
  have z2 := cntL_nn (c := DLink.cnt) DLink.cnt_nn x.links
  have z3 := cntL_nn (c := DOutgoing.cnt) DOutgoing.cnt_nn x.out
  simp only [DVat.cnt] at hkb
  have hox := ho _ (List.getElem_mem hlt); rw [← hx] at hox
  simp only [DVat.cd, ownL_c, ownL_n, own_i, own_b, own_s] at q1
  obtain ⟨_, _, _, _, rfl, e0z, ⟨rfl, rfl⟩, ⟨a1, _, g1, _, rfl, e1z, u1, ⟨a2, _, g2, _, rfl, e2z, u2, ⟨a3, _, g3, _, rfl, e3z, u3, ⟨a4, _, g4, _, rfl, e4z, u4, ⟨rfl, e5z⟩⟩⟩⟩⟩⟩ := q1
  have hfxe : fx = (g1 ++ (g2 ++ (g3 ++ (g4 ++ [])))) := by rw [e0z, e1z, e2z, e3z, e4z, e5z]; simp
  have ow : OwnL H' [a1, a2, a3, a4] [.sl 12 (x.entities.map DEntity.cd), .sl 7 (x.loop.map DSent.cd), .sl 7 (x.links.map DLink.cd), .sl 13 (x.out.map DOutgoing.cd)] fx := by rw [hfxe]; exact (.o u1 (.o u2 (.o u3 (.o u4 .nil))))
  obtain ⟨c1a, c1b, c1c, c1d⟩ := u1.cell
  obtain ⟨c2a, c2b, c2c, c2d⟩ := u2.cell
  obtain ⟨c3a, c3b, c3c, c3d⟩ := u3.cell
  obtain ⟨c4a, c4b, c4c, c4d⟩ := u4.cell
  have hlen0 := (rfl : H'.length = H'.length)
  have fr0 : ∀ c, c ≠ b → c ∉ fx → H'[c]? = H'[c]? := fun _ _ _ => rfl
  have w0 : IntKind.i64.wrap (kj + 1) = kj + 1 := (wrap_nat (by omega) (by omega)).trans (by omega)
  obtain ⟨H0, hH0⟩ : ∃ H0, H0 = H' := ⟨_, rfl⟩
  rw [← hH0] at iv q2 ow fr0 hlen0
  have fr0 : ∀ c, c ≠ b → c ∉ fx → H'[c]? = H0[c]? := fun _ _ _ => by rw [hH0]
  have hlen0 : H'.length = H0.length := by rw [hH0]
  rw [hH0] at ow
  replace e1 : H' = h1 ++ some (g, as1 ++ elc [.int .i64 x.id, a1, a2, a3, a4] (post ++ tail)) :: h2 := e1
  subst e1
  simp only [EZM, q_bx, if_true, if_false, Nat.reduceAdd, Option.bind_some, Nat.reduceBEq, Nat.reduceLeDiff, kbv_r, i0, st_el e2 rfl, rd_el e2 rfl, w0, c1a, c1b, c1c, c2a, c2b, c2c, c3a, c3b, c3c, c4a, c4b, c4c]
  obtain ⟨gi1, oi1, ni1, si1, bk1⟩ := OwnL.pick (A := []) (D := []) rfl (ow.frame fun c hc => at_ne e2 (hfx c hc)) ndx
  refine TCall.ref (by simp only [EO, c1d]) (kbh_T x.entities (kj + 1) (by omega) (by omega) (hox.1) (hox.2.1) _ oi1 ni1) ?_
  rintro _ hn ⟨rfl, hlen1, hfr1, un1⟩
  replace ow := bk1 hn _ hfr1 un1
  have fr1 : ∀ c, c ≠ b → c ∉ fx → hn[c]? = H0[c]? := fun c h1 h2 => (hfr1 c (fun h => h2 (si1 c h))).trans ((at_ne e2 h1).trans (fr0 c h1 h2))
  have hlen1 : hn.length = H0.length := by rw [hlen1]; (try rw [← hlen0]); (try simp)
  obtain ⟨p1, r1, rfl, eh1⟩ := heap_at (frame_hget (hget_at e2) (hfr1 b (fun h => hfx b (si1 b h) rfl)))
  simp only [EZM, q_bx, if_true, if_false, Nat.reduceAdd, Option.bind_some, Nat.reduceBEq, Nat.reduceLeDiff, kbv_r, i0, st_el eh1 rfl, rd_el eh1 rfl, w0, c1a, c1b, c1c, c2a, c2b, c2c, c3a, c3b, c3c, c4a, c4b, c4c]
  obtain ⟨gi2, oi2, ni2, si2, bk2⟩ := OwnL.pick (A := [a1]) (D := [_]) rfl (ow.frame fun c hc => at_ne eh1 (hfx c hc)) ndx
  refine TCall.ref (by simp only [EO, c2d]) (kbs_T x.loop (kj + 1 + cntL DEntity.cnt x.entities) (by omega) (by omega) (hox.2.2.1) (hox.2.2.2.1) _ oi2 ni2) ?_
  rintro _ hn ⟨rfl, hlen2, hfr2, un2⟩
  replace ow := bk2 hn _ hfr2 un2
  have fr2 : ∀ c, c ≠ b → c ∉ fx → hn[c]? = H0[c]? := fun c h1 h2 => (hfr2 c (fun h => h2 (si2 c h))).trans ((at_ne eh1 h1).trans (fr1 c h1 h2))
  have hlen2 : hn.length = H0.length := by rw [hlen2]; (try rw [← hlen1]); (try simp)
  obtain ⟨p2, r2, rfl, eh2⟩ := heap_at (frame_hget (hget_at eh1) (hfr2 b (fun h => hfx b (si2 b h) rfl)))
  simp only [EZM, q_bx, if_true, if_false, Nat.reduceAdd, Option.bind_some, Nat.reduceBEq, Nat.reduceLeDiff, kbv_r, i0, st_el eh2 rfl, rd_el eh2 rfl, w0, c1a, c1b, c1c, c2a, c2b, c2c, c3a, c3b, c3c, c4a, c4b, c4c]
  obtain ⟨gi3, oi3, ni3, si3, bk3⟩ := OwnL.pick (A := [a1, a2]) (D := [_, _]) rfl (ow.frame fun c hc => at_ne eh2 (hfx c hc)) ndx
  refine TCall.ref (by simp only [EO, c3d]) (kbk_T x.links (kj + 1 + cntL DEntity.cnt x.entities + cntL DSent.cnt x.loop) (by omega) (by omega) (hox.2.2.2.2.1) (hox.2.2.2.2.2.1) _ oi3 ni3) ?_
  rintro _ hn ⟨rfl, hlen3, hfr3, un3⟩
  replace ow := bk3 hn _ hfr3 un3
  have fr3 : ∀ c, c ≠ b → c ∉ fx → hn[c]? = H0[c]? := fun c h1 h2 => (hfr3 c (fun h => h2 (si3 c h))).trans ((at_ne eh2 h1).trans (fr2 c h1 h2))
  have hlen3 : hn.length = H0.length := by rw [hlen3]; (try rw [← hlen2]); (try simp)
  obtain ⟨p3, r3, rfl, eh3⟩ := heap_at (frame_hget (hget_at eh2) (hfr3 b (fun h => hfx b (si3 b h) rfl)))
  simp only [EZM, q_bx, if_true, if_false, Nat.reduceAdd, Option.bind_some, Nat.reduceBEq, Nat.reduceLeDiff, kbv_r, i0, st_el eh3 rfl, rd_el eh3 rfl, w0, c1a, c1b, c1c, c2a, c2b, c2c, c3a, c3b, c3c, c4a, c4b, c4c]
  obtain ⟨gi4, oi4, ni4, si4, bk4⟩ := OwnL.pick (A := [a1, a2, a3]) (D := [_, _, _]) rfl (ow.frame fun c hc => at_ne eh3 (hfx c hc)) ndx
  refine TCall.ref (by simp only [EO, c4d]) (kbp_T x.out (kj + 1 + cntL DEntity.cnt x.entities + cntL DSent.cnt x.loop + cntL DLink.cnt x.links) (by omega) (by omega) (hox.2.2.2.2.2.2.1) (hox.2.2.2.2.2.2.2) _ oi4 ni4) ?_
  rintro _ hn ⟨rfl, hlen4, hfr4, un4⟩
  replace ow := bk4 hn _ hfr4 un4
  have fr4 : ∀ c, c ≠ b → c ∉ fx → hn[c]? = H0[c]? := fun c h1 h2 => (hfr4 c (fun h => h2 (si4 c h))).trans ((at_ne eh3 h1).trans (fr3 c h1 h2))
  have hlen4 : hn.length = H0.length := by rw [hlen4]; (try rw [← hlen3]); (try simp)
  obtain ⟨p4, r4, rfl, eh4⟩ := heap_at (frame_hget (hget_at eh3) (hfr4 b (fun h => hfx b (si4 b h) rfl)))
  simp only [EZM, q_bx, if_true, if_false, Nat.reduceAdd, Option.bind_some, Nat.reduceBEq, Nat.reduceLeDiff, kbv_r, i0, st_el eh4 rfl, rd_el eh4 rfl, w0, c1a, c1b, c1c, c2a, c2b, c2c, c3a, c3b, c3c, c4a, c4b, c4c]
  refine ⟨(j + 1, _, as1 ++ [.int .i64 (kj), a1, a2, a3, a4], post, f1 ++ fx, fr), ⟨hlt, ?inv⟩, (by simp only; omega), ⟨?le, rfl, rfl⟩⟩
  case inv =>
    simp only; rw [hmt]
    replace ow := ow.frame fun c hc => at_ne (x := some (g, as1 ++ elc [.int .i64 (kj), a1, a2, a3, a4] (post ++ tail))) eh4 (hfx c hc)
    obtain ⟨F0, R0, E0, O0, ⟨F1, R1, E1, O1, ⟨F2, R2, E2, O2, ⟨F3, R3, E3, O3, hz⟩⟩⟩⟩ := ow
    have hz : R3 = [] := hz
    refine iv.next (y := DVat.mk_ x kj) nd q2 (by rw [← hlen4]; (try simp)) (hget_at eh4) (fun c h1 h2 => (at_ne eh4 h1).trans (fr4 c h1 h2)) ?_
    rw [E0, E1, E2, E3, hz]; exact (.i (.o O0 (.o O1 (.o O2 (.o O3 .nil)))))
  case le =>
    have hfin : k + cntL DVat.cnt (l.take (j + 1)) = kj + 1 + cntL DEntity.cnt x.entities + cntL DSent.cnt x.loop + cntL DLink.cnt x.links + cntL DOutgoing.cnt x.out := by rw [htk]; simp only [DVat.cnt]; omega
    rw [hfin, wN (by omega)]; (try simp [kbv_s0, LeL, LeV])
theorem kbj_T (l : List DInstr) (k : Int) (hk : 0 ≤ k) (hb : k + cntL DInstr.cnt l ≤ 9223372036854775000) (hl : l.length ≤ 1073741824) (ho : ∀ x ∈ l, x.ok 1073741824) (H : AH) {a : AV} {fp : List Nat} (o : Own H a (.sl 6 (l.map DInstr.cd)) fp) (nd : fp.Nodup) :
    T Tryz.prog Γ Fn.kbj [a, .int .i64 k] H fun v h' => v = .int .i64 (k + cntL DInstr.cnt l) ∧ (h'.length = H.length ∧ (∀ c, c ∉ fp → h'[c]? = H[c]?) ∧ Own h' a (.sl 6 ((mkL DInstr.mk_ DInstr.cnt l k).map DInstr.cd)) fp) := by
  rcases o.sl_inv with ⟨rfl, e, rfl⟩ | ⟨b, g, cap, ex, as0, tail, fp, rfl, rfl, hg, hsz, ht, hc, hown⟩
  · have e : l = [] := by simpa using e
    subst e
    have L0 : lenI false .nils = some (.int .i64 0) := rfl
    refine kbj_e (aw_sound tabOK mixed [] _ _ _ ?_)
    unfold kbj_c
    simp only [EZM, q_bx, if_true, if_false, Nat.reduceAdd, Option.bind_some, Nat.reduceBEq, Nat.reduceLeDiff, kbj_r]
    refine loopI tabOK mixed [] (fun _ : Unit => True) (fun _ => 0) (fun _ => kbj_s0 .nils (.int .i64 k) (.int .i64 0) [] H) () trivial ⟨by simp [kbj_s0, LeL, LeV], rfl, rfl⟩ ?_
    intro _ _
    simp only [EZM, q_bx, if_true, if_false, Nat.reduceAdd, Option.bind_some, Nat.reduceBEq, Nat.reduceLeDiff, kbj_r, kbj_s0, L0, show decide ((0 : Int) < 0) = false from rfl]
    refine ⟨rfl, by simp [cntL], ?_⟩
    first | exact ⟨rfl, fun _ _ => rfl, .nil _⟩ | exact ⟨fun _ _ => trivial, .nil _⟩
  simp only [List.length_map] at hc o ⊢
  have L0 : lenI false (.gs b g 0 l.length cap 6 ex) = some (.int .i64 l.length) := rfl
  have hbf : b ∉ fp := (List.nodup_cons.1 nd).1
  refine kbj_e (aw_sound tabOK mixed [] _ _ _ ?_)
  unfold kbj_c
  simp only [EZM, q_bx, if_true, if_false, Nat.reduceAdd, Option.bind_some, Nat.reduceBEq, Nat.reduceLeDiff, kbj_r]
  refine loopI tabOK mixed [] (fun y : Nat × AH × List AV × List AV × List Nat × List Nat => y.1 ≤ l.length ∧ MInv H b g tail fp DInstr.cd (l.drop y.1) (mkL DInstr.mk_ DInstr.cnt (l.take y.1) k) y.2.1 y.2.2.1 y.2.2.2.1 y.2.2.2.2.1 y.2.2.2.2.2) (fun y => l.length - y.1)
    (fun y => kbj_s0 (.gs b g 0 l.length cap 6 ex) (.int .i64 (k + cntL DInstr.cnt (l.take y.1))) (.int .i64 y.1) [] y.2.1) (0, H, [], as0, [], fp) ⟨by simp, by simpa [mkL] using MInv.start hg hown⟩ ⟨by simp [kbj_s0, LeL, LeV, cntL], rfl, rfl⟩ ?_
  rintro ⟨j, H', as1, as2, f1, f2⟩ ⟨hj, iv⟩
  simp only at hj iv
  simp only [EZM, q_bx, if_true, if_false, Nat.reduceAdd, Option.bind_some, Nat.reduceBEq, Nat.reduceLeDiff, kbj_r, kbj_s0, L0]
  refine c_split (fun hlt => ?_) (fun hge => ?_)
  rotate_left
  · have hge : j = l.length := by simp at hge; omega
    subst hge
    simp only [EZM, q_bx, if_true, if_false, Nat.reduceAdd, Option.bind_some, Nat.reduceBEq, Nat.reduceLeDiff, kbj_r]
    rw [List.drop_length, List.take_length] at iv
    rw [List.take_length]
    exact ⟨rfl, rfl, iv.done mkL_len (fun _ => rfl) ht hc⟩
  have hlt : j < l.length := by simpa using hlt
  have htk := cntL_take DInstr.cnt hlt
  have hle := cntL_le (c := DInstr.cnt) DInstr.cnt_nn hlt
  have hnn := cntL_nn (c := DInstr.cnt) DInstr.cnt_nn (l.take j)
  have hmt := mkL_take DInstr.mk_ DInstr.cnt hlt k
  rw [List.drop_eq_getElem_cons hlt] at iv
  obtain ⟨x, hx⟩ : ∃ x, x = l[j] := ⟨_, rfl⟩
  rw [← hx] at iv
  try rw [← hx] at htk hle
  try rw [← hx] at hmt
  obtain ⟨kj, hkj⟩ : ∃ kj, kj = k + cntL DInstr.cnt (l.take j) := ⟨_, rfl⟩
  rw [← hkj] at hmt
  rw [← hkj]
  have hk0 : 0 ≤ kj := by omega
  have hkb : kj + DInstr.cnt x ≤ 9223372036854775000 := by omega
  obtain ⟨h1, h2, cs, post, fx, fr, e1, e2, rfl, rfl, q1, q2⟩ := iv.open
  have hfx : ∀ c ∈ fx, c ≠ b := fun c hc e => hbf (by rw [iv.fps, ← e]; simp [hc])
  have ndx : fx.Nodup := (List.nodup_append.1 (List.nodup_append.1 (iv.fps ▸ (List.nodup_cons.1 nd).2)).2.1).1
  have hn0 : as1.length = j * 6 := by rw [iv.o1.len, flat_len' (sz := 6) (fun y _ => rfl), mkL_len, List.length_take, Nat.min_eq_left hj]
  have i0 : aIdxs 6 (.gs b g 0 l.length cap 6 ex) (j : Int) = some (.gp b g as1.length) := by rw [idx_gs hlt, hn0, Nat.zero_add]
  simp only [DInstr.cnt] at hkb
  have hox := ho _ (List.getElem_mem hlt); rw [← hx] at hox
  simp only [DInstr.cd, ownL_c, ownL_n, own_i, own_b, own_s] at q1
  obtain ⟨_, _, _, _, rfl, e0z, ⟨rfl, rfl⟩, ⟨_, _, _, _, rfl, e1z, ⟨rfl, rfl⟩, ⟨_, _, _, _, rfl, e2z, ⟨rfl, rfl⟩, ⟨_, _, _, _, rfl, e3z, ⟨rfl, rfl⟩, ⟨_, _, _, _, rfl, e4z, ⟨rfl, rfl⟩, ⟨_, _, _, _, rfl, e5z, ⟨rfl, rfl⟩, ⟨rfl, e6z⟩⟩⟩⟩⟩⟩⟩ := q1
  have hfxe : fx = [] := by rw [e0z, e1z, e2z, e3z, e4z, e5z, e6z]; simp
  have ow : OwnL H' [] [] fx := by rw [hfxe]; exact .nil
  have hlen0 := (rfl : H'.length = H'.length)
  have fr0 : ∀ c, c ≠ b → c ∉ fx → H'[c]? = H'[c]? := fun _ _ _ => rfl
  have w0 : IntKind.i64.wrap (kj + 1) = kj + 1 := (wrap_nat (by omega) (by omega)).trans (by omega)
  have w1 : IntKind.i64.wrap (kj + 1 + 1) = kj + 2 := (wrap_nat (by omega) (by omega)).trans (by omega)
  have w2 : IntKind.i64.wrap (kj + 2 + 1) = kj + 3 := (wrap_nat (by omega) (by omega)).trans (by omega)
  have w3 : IntKind.i64.wrap (kj + 3 + 1) = kj + 4 := (wrap_nat (by omega) (by omega)).trans (by omega)
  have w4 : IntKind.i64.wrap (kj + 4 + 1) = kj + 5 := (wrap_nat (by omega) (by omega)).trans (by omega)
  have w5 : IntKind.i64.wrap (kj + 5 + 1) = kj + 6 := (wrap_nat (by omega) (by omega)).trans (by omega)
  obtain ⟨H0, hH0⟩ : ∃ H0, H0 = H' := ⟨_, rfl⟩
  rw [← hH0] at iv q2 ow fr0 hlen0
  have fr0 : ∀ c, c ≠ b → c ∉ fx → H'[c]? = H0[c]? := fun _ _ _ => by rw [hH0]
  have hlen0 : H'.length = H0.length := by rw [hH0]
  rw [hH0] at ow
  replace e1 : H' = h1 ++ some (g, as1 ++ elc [.int .i64 x.op, .int .i64 x.a, .int .i64 x.b, .int .i64 x.c_, .int .i64 x.d, .str x.name] (post ++ tail)) :: h2 := e1
  subst e1
  simp only [EZM, q_bx, if_true, if_false, Nat.reduceAdd, Option.bind_some, Nat.reduceBEq, Nat.reduceLeDiff, kbj_r, i0, st_el e2 rfl, rd_el e2 rfl, w0, w1, w2, w3, w4, w5]
  refine TCall.val (by simp only [EO]) (kbt_T (kj + 5) (by omega) (by omega) _) ?_
  simp only [EZM, q_bx, if_true, if_false, Nat.reduceAdd, Option.bind_some, Nat.reduceBEq, Nat.reduceLeDiff, kbj_r, i0, st_el e2 rfl, rd_el e2 rfl, w0, w1, w2, w3, w4, w5]
  refine ⟨(j + 1, _, as1 ++ [.int .i64 (kj), .int .i64 (kj + 1), .int .i64 (kj + 2), .int .i64 (kj + 3), .int .i64 (kj + 4), .str (markT (kj + 5))], post, f1 ++ [], fr), ⟨hlt, ?inv⟩, (by simp only; omega), ⟨?le, rfl, rfl⟩⟩
  case inv =>
    simp only; rw [hmt]
    subst hfxe
    exact iv.next (y := DInstr.mk_ x kj) nd q2 (by rw [← hlen0]; (try simp)) (hget_at e2) (fun c h1 h2 => (at_ne e2 h1).trans (fr0 c h1 h2)) (.i (.i (.i (.i (.i (.s .nil))))))
  case le =>
    have hfin : k + cntL DInstr.cnt (l.take (j + 1)) = kj + 6 := by rw [htk]; simp only [DInstr.cnt]; omega
    rw [hfin, wN (by omega)]; (try simp [kbj_s0, LeL, LeV])
theorem kbn_T (l : List DMethod) (k : Int) (hk : 0 ≤ k) (hb : k + cntL DMethod.cnt l ≤ 9223372036854775000) (hl : l.length ≤ 1073741824) (ho : ∀ x ∈ l, x.ok 1073741824) (H : AH) {a : AV} {fp : List Nat} (o : Own H a (.sl 2 (l.map DMethod.cd)) fp) (nd : fp.Nodup) :
    T Tryz.prog Γ Fn.kbn [a, .int .i64 k] H fun v h' => v = .int .i64 (k + cntL DMethod.cnt l) ∧ (h'.length = H.length ∧ (∀ c, c ∉ fp → h'[c]? = H[c]?) ∧ Own h' a (.sl 2 ((mkL DMethod.mk_ DMethod.cnt l k).map DMethod.cd)) fp) := by
  rcases o.sl_inv with ⟨rfl, e, rfl⟩ | ⟨b, g, cap, ex, as0, tail, fp, rfl, rfl, hg, hsz, ht, hc, hown⟩
  · have e : l = [] := by simpa using e
    subst e
    have L0 : lenI false .nils = some (.int .i64 0) := rfl
    refine kbn_e (aw_sound tabOK mixed [] _ _ _ ?_)
    unfold kbn_c
    simp only [EZM, q_bx, if_true, if_false, Nat.reduceAdd, Option.bind_some, Nat.reduceBEq, Nat.reduceLeDiff, kbn_r]
    refine loopI tabOK mixed [] (fun _ : Unit => True) (fun _ => 0) (fun _ => kbn_s0 .nils (.int .i64 k) (.int .i64 0) [] H) () trivial ⟨by simp [kbn_s0, LeL, LeV], rfl, rfl⟩ ?_
    intro _ _
    simp only [EZM, q_bx, if_true, if_false, Nat.reduceAdd, Option.bind_some, Nat.reduceBEq, Nat.reduceLeDiff, kbn_r, kbn_s0, L0, show decide ((0 : Int) < 0) = false from rfl]
    refine ⟨rfl, by simp [cntL], ?_⟩
    first | exact ⟨rfl, fun _ _ => rfl, .nil _⟩ | exact ⟨fun _ _ => trivial, .nil _⟩
  simp only [List.length_map] at hc o ⊢
  have L0 : lenI false (.gs b g 0 l.length cap 2 ex) = some (.int .i64 l.length) := rfl
  have hbf : b ∉ fp := (List.nodup_cons.1 nd).1
  refine kbn_e (aw_sound tabOK mixed [] _ _ _ ?_)
  unfold kbn_c
  simp only [EZM, q_bx, if_true, if_false, Nat.reduceAdd, Option.bind_some, Nat.reduceBEq, Nat.reduceLeDiff, kbn_r]
  refine loopI tabOK mixed [] (fun y : Nat × AH × List AV × List AV × List Nat × List Nat => y.1 ≤ l.length ∧ MInv H b g tail fp DMethod.cd (l.drop y.1) (mkL DMethod.mk_ DMethod.cnt (l.take y.1) k) y.2.1 y.2.2.1 y.2.2.2.1 y.2.2.2.2.1 y.2.2.2.2.2) (fun y => l.length - y.1)
    (fun y => kbn_s0 (.gs b g 0 l.length cap 2 ex) (.int .i64 (k + cntL DMethod.cnt (l.take y.1))) (.int .i64 y.1) [] y.2.1) (0, H, [], as0, [], fp) ⟨by simp, by simpa [mkL] using MInv.start hg hown⟩ ⟨by simp [kbn_s0, LeL, LeV, cntL], rfl, rfl⟩ ?_
  rintro ⟨j, H', as1, as2, f1, f2⟩ ⟨hj, iv⟩
  simp only at hj iv
  simp only [EZM, q_bx, if_true, if_false, Nat.reduceAdd, Option.bind_some, Nat.reduceBEq, Nat.reduceLeDiff, kbn_r, kbn_s0, L0]
  refine c_split (fun hlt => ?_) (fun hge => ?_)
  rotate_left
  · have hge : j = l.length := by simp at hge; omega
    subst hge
    simp only [EZM, q_bx, if_true, if_false, Nat.reduceAdd, Option.bind_some, Nat.reduceBEq, Nat.reduceLeDiff, kbn_r]
    rw [List.drop_length, List.take_length] at iv
    rw [List.take_length]
    exact ⟨rfl, rfl, iv.done mkL_len (fun _ => rfl) ht hc⟩
  have hlt : j < l.length := by simpa using hlt
  have htk := cntL_take DMethod.cnt hlt
  have hle := cntL_le (c := DMethod.cnt) DMethod.cnt_nn hlt
  have hnn := cntL_nn (c := DMethod.cnt) DMethod.cnt_nn (l.take j)
  have hmt := mkL_take DMethod.mk_ DMethod.cnt hlt k
  rw [List.drop_eq_getElem_cons hlt] at iv
  obtain ⟨x, hx⟩ : ∃ x, x = l[j] := ⟨_, rfl⟩
  rw [← hx] at iv
  try rw [← hx] at htk hle
  try rw [← hx] at hmt
  obtain ⟨kj, hkj⟩ : ∃ kj, kj = k + cntL DMethod.cnt (l.take j) := ⟨_, rfl⟩
  rw [← hkj] at hmt
  rw [← hkj]
  have hk0 : 0 ≤ kj := by omega
  have hkb : kj + DMethod.cnt x ≤ 9223372036854775000 := by omega
  obtain ⟨h1, h2, cs, post, fx, fr, e1, e2, rfl, rfl, q1, q2⟩ := iv.open
  have hfx : ∀ c ∈ fx, c ≠ b := fun c hc e => hbf (by rw [iv.fps, ← e]; simp [hc])
  have ndx : fx.Nodup := (List.nodup_append.1 (List.nodup_append.1 (iv.fps ▸ (List.nodup_cons.1 nd).2)).2.1).1
  have hn0 : as1.length = j * 2 := by rw [iv.o1.len, flat_len' (sz := 2) (fun y _ => rfl), mkL_len, List.length_take, Nat.min_eq_left hj]
  have i0 : aIdxs 2 (.gs b g 0 l.length cap 2 ex) (j : Int) = some (.gp b g as1.length) := by rw [idx_gs hlt, hn0, Nat.zero_add]
  have z0 := cntL_nn (c := DInstr.cnt) DInstr.cnt_nn x.code
  simp only [DMethod.cnt] at hkb
  have hox := ho _ (List.getElem_mem hlt); rw [← hx] at hox
  simp only [DMethod.cd, ownL_c, ownL_n, own_i, own_b, own_s] at q1
  obtain ⟨_, _, _, _, rfl, e0z, ⟨rfl, rfl⟩, ⟨a1, _, g1, _, rfl, e1z, u1, ⟨rfl, e2z⟩⟩⟩ := q1
  have hfxe : fx = (g1 ++ []) := by rw [e0z, e1z, e2z]; simp
  have ow : OwnL H' [a1] [.sl 6 (x.code.map DInstr.cd)] fx := by rw [hfxe]; exact (.o u1 .nil)
  obtain ⟨c1a, c1b, c1c, c1d⟩ := u1.cell
  have hlen0 := (rfl : H'.length = H'.length)
  have fr0 : ∀ c, c ≠ b → c ∉ fx → H'[c]? = H'[c]? := fun _ _ _ => rfl
  have w0 : IntKind.i64.wrap (kj + 1) = kj + 1 := (wrap_nat (by omega) (by omega)).trans (by omega)
  obtain ⟨H0, hH0⟩ : ∃ H0, H0 = H' := ⟨_, rfl⟩
  rw [← hH0] at iv q2 ow fr0 hlen0
  have fr0 : ∀ c, c ≠ b → c ∉ fx → H'[c]? = H0[c]? := fun _ _ _ => by rw [hH0]
  have hlen0 : H'.length = H0.length := by rw [hH0]
  rw [hH0] at ow
  replace e1 : H' = h1 ++ some (g, as1 ++ elc [.str x.name, a1] (post ++ tail)) :: h2 := e1
  subst e1
  simp only [EZM, q_bx, if_true, if_false, Nat.reduceAdd, Option.bind_some, Nat.reduceBEq, Nat.reduceLeDiff, kbn_r, i0, st_el e2 rfl, rd_el e2 rfl, w0, c1a, c1b, c1c]
  refine TCall.val (by simp only [EO]) (kbt_T (kj) (by omega) (by omega) _) ?_
  simp only [EZM, q_bx, if_true, if_false, Nat.reduceAdd, Option.bind_some, Nat.reduceBEq, Nat.reduceLeDiff, kbn_r, i0, st_el e2 rfl, rd_el e2 rfl, w0, c1a, c1b, c1c]
  obtain ⟨gi1, oi1, ni1, si1, bk1⟩ := OwnL.pick (A := []) (D := []) rfl (ow.frame fun c hc => at_ne e2 (hfx c hc)) ndx
  refine TCall.ref (by simp only [EO, c1d]) (kbj_T x.code (kj + 1) (by omega) (by omega) (hox.2.1) (hox.2.2) _ oi1 ni1) ?_
  rintro _ hn ⟨rfl, hlen1, hfr1, un1⟩
  replace ow := bk1 hn _ hfr1 un1
  have fr1 : ∀ c, c ≠ b → c ∉ fx → hn[c]? = H0[c]? := fun c h1 h2 => (hfr1 c (fun h => h2 (si1 c h))).trans ((at_ne e2 h1).trans (fr0 c h1 h2))
  have hlen1 : hn.length = H0.length := by rw [hlen1]; (try rw [← hlen0]); (try simp)
  obtain ⟨p1, r1, rfl, eh1⟩ := heap_at (frame_hget (hget_at e2) (hfr1 b (fun h => hfx b (si1 b h) rfl)))
  simp only [EZM, q_bx, if_true, if_false, Nat.reduceAdd, Option.bind_some, Nat.reduceBEq, Nat.reduceLeDiff, kbn_r, i0, st_el eh1 rfl, rd_el eh1 rfl, w0, c1a, c1b, c1c]
  refine ⟨(j + 1, _, as1 ++ [.str (markT (kj)), a1], post, f1 ++ fx, fr), ⟨hlt, ?inv⟩, (by simp only; omega), ⟨?le, rfl, rfl⟩⟩
  case inv =>
    simp only; rw [hmt]
    replace ow := ow.frame fun c hc => at_ne (x := some (g, as1 ++ elc [.str (markT (kj)), a1] (post ++ tail))) eh1 (hfx c hc)
    obtain ⟨F0, R0, E0, O0, hz⟩ := ow
    have hz : R0 = [] := hz
    refine iv.next (y := DMethod.mk_ x kj) nd q2 (by rw [← hlen1]; (try simp)) (hget_at eh1) (fun c h1 h2 => (at_ne eh1 h1).trans (fr1 c h1 h2)) ?_
    rw [E0, hz]; exact (.s (.o O0 .nil))
  case le =>
    have hfin : k + cntL DMethod.cnt (l.take (j + 1)) = kj + 1 + cntL DInstr.cnt x.code := by rw [htk]; simp only [DMethod.cnt]; omega
    rw [hfin, wN (by omega)]; (try simp [kbn_s0, LeL, LeV])
theorem kbr_T (l : List DScript) (k : Int) (hk : 0 ≤ k) (hb : k + cntL DScript.cnt l ≤ 9223372036854775000) (hl : l.length ≤ 1073741824) (ho : ∀ x ∈ l, x.ok 1073741824) (H : AH) {a : AV} {fp : List Nat} (o : Own H a (.sl 2 (l.map DScript.cd)) fp) (nd : fp.Nodup) :
    T Tryz.prog Γ Fn.kbr [a, .int .i64 k] H fun v h' => v = .int .i64 (k + cntL DScript.cnt l) ∧ (h'.length = H.length ∧ (∀ c, c ∉ fp → h'[c]? = H[c]?) ∧ Own h' a (.sl 2 ((mkL DScript.mk_ DScript.cnt l k).map DScript.cd)) fp) := by
  rcases o.sl_inv with ⟨rfl, e, rfl⟩ | ⟨b, g, cap, ex, as0, tail, fp, rfl, rfl, hg, hsz, ht, hc, hown⟩
  · have e : l = [] := by simpa using e
    subst e
    have L0 : lenI false .nils = some (.int .i64 0) := rfl
    refine kbr_e (aw_sound tabOK mixed [] _ _ _ ?_)
    unfold kbr_c
    simp only [EZM, q_bx, if_true, if_false, Nat.reduceAdd, Option.bind_some, Nat.reduceBEq, Nat.reduceLeDiff, kbr_r]
    refine loopI tabOK mixed [] (fun _ : Unit => True) (fun _ => 0) (fun _ => kbr_s0 .nils (.int .i64 k) (.int .i64 0) [] H) () trivial ⟨by simp [kbr_s0, LeL, LeV], rfl, rfl⟩ ?_
    intro _ _
    simp only [EZM, q_bx, if_true, if_false, Nat.reduceAdd, Option.bind_some, Nat.reduceBEq, Nat.reduceLeDiff, kbr_r, kbr_s0, L0, show decide ((0 : Int) < 0) = false from rfl]
    refine ⟨rfl, by simp [cntL], ?_⟩
    first | exact ⟨rfl, fun _ _ => rfl, .nil _⟩ | exact ⟨fun _ _ => trivial, .nil _⟩
  simp only [List.length_map] at hc o ⊢
  have L0 : lenI false (.gs b g 0 l.length cap 2 ex) = some (.int .i64 l.length) := rfl
  have hbf : b ∉ fp := (List.nodup_cons.1 nd).1
  refine kbr_e (aw_sound tabOK mixed [] _ _ _ ?_)
  unfold kbr_c
  simp only [EZM, q_bx, if_true, if_false, Nat.reduceAdd, Option.bind_some, Nat.reduceBEq, Nat.reduceLeDiff, kbr_r]
  refine loopI tabOK mixed [] (fun y : Nat × AH × List AV × List AV × List Nat × List Nat => y.1 ≤ l.length ∧ MInv H b g tail fp DScript.cd (l.drop y.1) (mkL DScript.mk_ DScript.cnt (l.take y.1) k) y.2.1 y.2.2.1 y.2.2.2.1 y.2.2.2.2.1 y.2.2.2.2.2) (fun y => l.length - y.1)
    (fun y => kbr_s0 (.gs b g 0 l.length cap 2 ex) (.int .i64 (k + cntL DScript.cnt (l.take y.1))) (.int .i64 y.1) [] y.2.1) (0, H, [], as0, [], fp) ⟨by simp, by simpa [mkL] using MInv.start hg hown⟩ ⟨by simp [kbr_s0, LeL, LeV, cntL], rfl, rfl⟩ ?_
  rintro ⟨j, H', as1, as2, f1, f2⟩ ⟨hj, iv⟩
  simp only at hj iv
  simp only [EZM, q_bx, if_true, if_false, Nat.reduceAdd, Option.bind_some, Nat.reduceBEq, Nat.reduceLeDiff, kbr_r, kbr_s0, L0]
  refine c_split (fun hlt => ?_) (fun hge => ?_)
  rotate_left
  · have hge : j = l.length := by simp at hge; omega
    subst hge
    simp only [EZM, q_bx, if_true, if_false, Nat.reduceAdd, Option.bind_some, Nat.reduceBEq, Nat.reduceLeDiff, kbr_r]
    rw [List.drop_length, List.take_length] at iv
    rw [List.take_length]
    exact ⟨rfl, rfl, iv.done mkL_len (fun _ => rfl) ht hc⟩
  have hlt : j < l.length := by simpa using hlt
  have htk := cntL_take DScript.cnt hlt
  have hle := cntL_le (c := DScript.cnt) DScript.cnt_nn hlt
  have hnn := cntL_nn (c := DScript.cnt) DScript.cnt_nn (l.take j)
  have hmt := mkL_take DScript.mk_ DScript.cnt hlt k
  rw [List.drop_eq_getElem_cons hlt] at iv
  obtain ⟨x, hx⟩ : ∃ x, x = l[j] := ⟨_, rfl⟩
  rw [← hx] at iv
  try rw [← hx] at htk hle
  try rw [← hx] at hmt
  obtain ⟨kj, hkj⟩ : ∃ kj, kj = k + cntL DScript.cnt (l.take j) := ⟨_, rfl⟩
  rw [← hkj] at hmt
  rw [← hkj]
  have hk0 : 0 ≤ kj := by omega
  have hkb : kj + DScript.cnt x ≤ 9223372036854775000 := by omega
  obtain ⟨h1, h2, cs, post, fx, fr, e1, e2, rfl, rfl, q1, q2⟩ := iv.open
  have hfx : ∀ c ∈ fx, c ≠ b := fun c hc e => hbf (by rw [iv.fps, ← e]; simp [hc])
  have ndx : fx.Nodup := (List.nodup_append.1 (List.nodup_append.1 (iv.fps ▸ (List.nodup_cons.1 nd).2)).2.1).1
  have hn0 : as1.length = j * 2 := by rw [iv.o1.len, flat_len' (sz := 2) (fun y _ => rfl), mkL_len, List.length_take, Nat.min_eq_left hj]
  have i0 : aIdxs 2 (.gs b g 0 l.length cap 2 ex) (j : Int) = some (.gp b g as1.length) := by rw [idx_gs hlt, hn0, Nat.zero_add]
  have z0 := cntL_nn (c := DMethod.cnt) DMethod.cnt_nn x.methods
  simp only [DScript.cnt] at hkb
  have hox := ho _ (List.getElem_mem hlt); rw [← hx] at hox
  simp only [DScript.cd, ownL_c, ownL_n, own_i, own_b, own_s] at q1
  obtain ⟨_, _, _, _, rfl, e0z, ⟨rfl, rfl⟩, ⟨a1, _, g1, _, rfl, e1z, u1, ⟨rfl, e2z⟩⟩⟩ := q1
  have hfxe : fx = (g1 ++ []) := by rw [e0z, e1z, e2z]; simp
  have ow : OwnL H' [a1] [.sl 2 (x.methods.map DMethod.cd)] fx := by rw [hfxe]; exact (.o u1 .nil)
  obtain ⟨c1a, c1b, c1c, c1d⟩ := u1.cell
  have hlen0 := (rfl : H'.length = H'.length)
  have fr0 : ∀ c, c ≠ b → c ∉ fx → H'[c]? = H'[c]? := fun _ _ _ => rfl
  have w0 : IntKind.i64.wrap (kj + 1) = kj + 1 := (wrap_nat (by omega) (by omega)).trans (by omega)
  obtain ⟨H0, hH0⟩ : ∃ H0, H0 = H' := ⟨_, rfl⟩
  rw [← hH0] at iv q2 ow fr0 hlen0
  have fr0 : ∀ c, c ≠ b → c ∉ fx → H'[c]? = H0[c]? := fun _ _ _ => by rw [hH0]
  have hlen0 : H'.length = H0.length := by rw [hH0]
  rw [hH0] at ow
  replace e1 : H' = h1 ++ some (g, as1 ++ elc [.str x.name, a1] (post ++ tail)) :: h2 := e1
  subst e1
  simp only [EZM, q_bx, if_true, if_false, Nat.reduceAdd, Option.bind_some, Nat.reduceBEq, Nat.reduceLeDiff, kbr_r, i0, st_el e2 rfl, rd_el e2 rfl, w0, c1a, c1b, c1c]
  refine TCall.val (by simp only [EO]) (kbt_T (kj) (by omega) (by omega) _) ?_
  simp only [EZM, q_bx, if_true, if_false, Nat.reduceAdd, Option.bind_some, Nat.reduceBEq, Nat.reduceLeDiff, kbr_r, i0, st_el e2 rfl, rd_el e2 rfl, w0, c1a, c1b, c1c]
  obtain ⟨gi1, oi1, ni1, si1, bk1⟩ := OwnL.pick (A := []) (D := []) rfl (ow.frame fun c hc => at_ne e2 (hfx c hc)) ndx
  refine TCall.ref (by simp only [EO, c1d]) (kbn_T x.methods (kj + 1) (by omega) (by omega) (hox.2.1) (hox.2.2) _ oi1 ni1) ?_
  rintro _ hn ⟨rfl, hlen1, hfr1, un1⟩
  replace ow := bk1 hn _ hfr1 un1
  have fr1 : ∀ c, c ≠ b → c ∉ fx → hn[c]? = H0[c]? := fun c h1 h2 => (hfr1 c (fun h => h2 (si1 c h))).trans ((at_ne e2 h1).trans (fr0 c h1 h2))
  have hlen1 : hn.length = H0.length := by rw [hlen1]; (try rw [← hlen0]); (try simp)
  obtain ⟨p1, r1, rfl, eh1⟩ := heap_at (frame_hget (hget_at e2) (hfr1 b (fun h => hfx b (si1 b h) rfl)))
  simp only [EZM, q_bx, if_true, if_false, Nat.reduceAdd, Option.bind_some, Nat.reduceBEq, Nat.reduceLeDiff, kbr_r, i0, st_el eh1 rfl, rd_el eh1 rfl, w0, c1a, c1b, c1c]
  refine ⟨(j + 1, _, as1 ++ [.str (markT (kj)), a1], post, f1 ++ fx, fr), ⟨hlt, ?inv⟩, (by simp only; omega), ⟨?le, rfl, rfl⟩⟩
  case inv =>
    simp only; rw [hmt]
    replace ow := ow.frame fun c hc => at_ne (x := some (g, as1 ++ elc [.str (markT (kj)), a1] (post ++ tail))) eh1 (hfx c hc)
    obtain ⟨F0, R0, E0, O0, hz⟩ := ow
    have hz : R0 = [] := hz
    refine iv.next (y := DScript.mk_ x kj) nd q2 (by rw [← hlen1]; (try simp)) (hget_at eh1) (fun c h1 h2 => (at_ne eh1 h1).trans (fr1 c h1 h2)) ?_
    rw [E0, hz]; exact (.s (.o O0 .nil))
  case le =>
    have hfin : k + cntL DScript.cnt (l.take (j + 1)) = kj + 1 + cntL DMethod.cnt x.methods := by rw [htk]; simp only [DScript.cnt]; omega
    rw [hfin, wN (by omega)]; (try simp [kbr_s0, LeL, LeV])
theorem kbg_T (l : List DChannel) (k : Int) (hk : 0 ≤ k) (hb : k + cntL DChannel.cnt l ≤ 9223372036854775000) (hl : l.length ≤ 1073741824) (ho : ∀ x ∈ l, x.ok 1073741824) (H : AH) {a : AV} {fp : List Nat} (o : Own H a (.sl 3 (l.map DChannel.cd)) fp) (nd : fp.Nodup) :
    T Tryz.prog Γ Fn.kbg [a, .int .i64 k] H fun v h' => v = .int .i64 (k + cntL DChannel.cnt l) ∧ (h'.length = H.length ∧ (∀ c, c ∉ fp → h'[c]? = H[c]?) ∧ Own h' a (.sl 3 ((mkL DChannel.mk_ DChannel.cnt l k).map DChannel.cd)) fp) := by
  rcases o.sl_inv with ⟨rfl, e, rfl⟩ | ⟨b, g, cap, ex, as0, tail, fp, rfl, rfl, hg, hsz, ht, hc, hown⟩
  · have e : l = [] := by simpa using e
    subst e
    have L0 : lenI false .nils = some (.int .i64 0) := rfl
    refine kbg_e (aw_sound tabOK mixed [] _ _ _ ?_)
    unfold kbg_c
    simp only [EZM, q_bx, if_true, if_false, Nat.reduceAdd, Option.bind_some, Nat.reduceBEq, Nat.reduceLeDiff, kbg_r]
    refine loopI tabOK mixed [] (fun _ : Unit => True) (fun _ => 0) (fun _ => kbg_s0 .nils (.int .i64 k) (.int .i64 0) [] H) () trivial ⟨by simp [kbg_s0, LeL, LeV], rfl, rfl⟩ ?_
    intro _ _
    simp only [EZM, q_bx, if_true, if_false, Nat.reduceAdd, Option.bind_some, Nat.reduceBEq, Nat.reduceLeDiff, kbg_r, kbg_s0, L0, show decide ((0 : Int) < 0) = false from rfl]
    refine ⟨rfl, by simp [cntL], ?_⟩
    first | exact ⟨rfl, fun _ _ => rfl, .nil _⟩ | exact ⟨fun _ _ => trivial, .nil _⟩
  simp only [List.length_map] at hc o ⊢
  have L0 : lenI false (.gs b g 0 l.length cap 3 ex) = some (.int .i64 l.length) := rfl
  have hbf : b ∉ fp := (List.nodup_cons.1 nd).1
  refine kbg_e (aw_sound tabOK mixed [] _ _ _ ?_)
  unfold kbg_c
  simp only [EZM, q_bx, if_true, if_false, Nat.reduceAdd, Option.bind_some, Nat.reduceBEq, Nat.reduceLeDiff, kbg_r]
  refine loopI tabOK mixed [] (fun y : Nat × AH × List AV × List AV × List Nat × List Nat => y.1 ≤ l.length ∧ MInv H b g tail fp DChannel.cd (l.drop y.1) (mkL DChannel.mk_ DChannel.cnt (l.take y.1) k) y.2.1 y.2.2.1 y.2.2.2.1 y.2.2.2.2.1 y.2.2.2.2.2) (fun y => l.length - y.1)
    (fun y => kbg_s0 (.gs b g 0 l.length cap 3 ex) (.int .i64 (k + cntL DChannel.cnt (l.take y.1))) (.int .i64 y.1) [] y.2.1) (0, H, [], as0, [], fp) ⟨by simp, by simpa [mkL] using MInv.start hg hown⟩ ⟨by simp [kbg_s0, LeL, LeV, cntL], rfl, rfl⟩ ?_
  rintro ⟨j, H', as1, as2, f1, f2⟩ ⟨hj, iv⟩
  simp only at hj iv
  simp only [EZM, q_bx, if_true, if_false, Nat.reduceAdd, Option.bind_some, Nat.reduceBEq, Nat.reduceLeDiff, kbg_r, kbg_s0, L0]
  refine c_split (fun hlt => ?_) (fun hge => ?_)
  rotate_left
  · have hge : j = l.length := by simp at hge; omega
    subst hge
    simp only [EZM, q_bx, if_true, if_false, Nat.reduceAdd, Option.bind_some, Nat.reduceBEq, Nat.reduceLeDiff, kbg_r]
    rw [List.drop_length, List.take_length] at iv
    rw [List.take_length]
    exact ⟨rfl, rfl, iv.done mkL_len (fun _ => rfl) ht hc⟩
  have hlt : j < l.length := by simpa using hlt
  have htk := cntL_take DChannel.cnt hlt
  have hle := cntL_le (c := DChannel.cnt) DChannel.cnt_nn hlt
  have hnn := cntL_nn (c := DChannel.cnt) DChannel.cnt_nn (l.take j)
  have hmt := mkL_take DChannel.mk_ DChannel.cnt hlt k
  rw [List.drop_eq_getElem_cons hlt] at iv
  obtain ⟨x, hx⟩ : ∃ x, x = l[j] := ⟨_, rfl⟩
  rw [← hx] at iv
  try rw [← hx] at htk hle
  try rw [← hx] at hmt
  obtain ⟨kj, hkj⟩ : ∃ kj, kj = k + cntL DChannel.cnt (l.take j) := ⟨_, rfl⟩
  rw [← hkj] at hmt
  rw [← hkj]
  have hk0 : 0 ≤ kj := by omega
  have hkb : kj + DChannel.cnt x ≤ 9223372036854775000 := by omega
  obtain ⟨h1, h2, cs, post, fx, fr, e1, e2, rfl, rfl, q1, q2⟩ := iv.open
  have hfx : ∀ c ∈ fx, c ≠ b := fun c hc e => hbf (by rw [iv.fps, ← e]; simp [hc])
  have ndx : fx.Nodup := (List.nodup_append.1 (List.nodup_append.1 (iv.fps ▸ (List.nodup_cons.1 nd).2)).2.1).1
  have hn0 : as1.length = j * 3 := by rw [iv.o1.len, flat_len' (sz := 3) (fun y _ => rfl), mkL_len, List.length_take, Nat.min_eq_left hj]
  have i0 : aIdxs 3 (.gs b g 0 l.length cap 3 ex) (j : Int) = some (.gp b g as1.length) := by rw [idx_gs hlt, hn0, Nat.zero_add]
  have z0 := cntL_nn (c := DMessage.cnt) DMessage.cnt_nn x.list
  simp only [DChannel.cnt] at hkb
  have hox := ho _ (List.getElem_mem hlt); rw [← hx] at hox
  simp only [DChannel.cd, ownL_c, ownL_n, own_i, own_b, own_s] at q1
  obtain ⟨_, _, _, _, rfl, e0z, ⟨rfl, rfl⟩, ⟨_, _, _, _, rfl, e1z, ⟨rfl, rfl⟩, ⟨a2, _, g2, _, rfl, e2z, u2, ⟨rfl, e3z⟩⟩⟩⟩ := q1
  have hfxe : fx = (g2 ++ []) := by rw [e0z, e1z, e2z, e3z]; simp
  have ow : OwnL H' [a2] [.sl 12 (x.list.map DMessage.cd)] fx := by rw [hfxe]; exact (.o u2 .nil)
  obtain ⟨c2a, c2b, c2c, c2d⟩ := u2.cell
  have hlen0 := (rfl : H'.length = H'.length)
  have fr0 : ∀ c, c ≠ b → c ∉ fx → H'[c]? = H'[c]? := fun _ _ _ => rfl
  have w0 : IntKind.i64.wrap (kj + 1) = kj + 1 := (wrap_nat (by omega) (by omega)).trans (by omega)
  have w1 : IntKind.i64.wrap (kj + 1 + 1) = kj + 2 := (wrap_nat (by omega) (by omega)).trans (by omega)
  obtain ⟨H0, hH0⟩ : ∃ H0, H0 = H' := ⟨_, rfl⟩
  rw [← hH0] at iv q2 ow fr0 hlen0
  have fr0 : ∀ c, c ≠ b → c ∉ fx → H'[c]? = H0[c]? := fun _ _ _ => by rw [hH0]
  have hlen0 : H'.length = H0.length := by rw [hH0]
  rw [hH0] at ow
  replace e1 : H' = h1 ++ some (g, as1 ++ elc [.int .i64 x.frm, .int .i64 x.to_, a2] (post ++ tail)) :: h2 := e1
  subst e1
  simp only [EZM, q_bx, if_true, if_false, Nat.reduceAdd, Option.bind_some, Nat.reduceBEq, Nat.reduceLeDiff, kbg_r, i0, st_el e2 rfl, rd_el e2 rfl, w0, w1, c2a, c2b, c2c]
  obtain ⟨gi1, oi1, ni1, si1, bk1⟩ := OwnL.pick (A := []) (D := []) rfl (ow.frame fun c hc => at_ne e2 (hfx c hc)) ndx
  refine TCall.ref (by simp only [EO, c2d]) (kbm_T x.list (kj + 2) (by omega) (by omega) (hox.1) (hox.2) _ oi1 ni1) ?_
  rintro _ hn ⟨rfl, hlen1, hfr1, un1⟩
  replace ow := bk1 hn _ hfr1 un1
  have fr1 : ∀ c, c ≠ b → c ∉ fx → hn[c]? = H0[c]? := fun c h1 h2 => (hfr1 c (fun h => h2 (si1 c h))).trans ((at_ne e2 h1).trans (fr0 c h1 h2))
  have hlen1 : hn.length = H0.length := by rw [hlen1]; (try rw [← hlen0]); (try simp)
  obtain ⟨p1, r1, rfl, eh1⟩ := heap_at (frame_hget (hget_at e2) (hfr1 b (fun h => hfx b (si1 b h) rfl)))
  simp only [EZM, q_bx, if_true, if_false, Nat.reduceAdd, Option.bind_some, Nat.reduceBEq, Nat.reduceLeDiff, kbg_r, i0, st_el eh1 rfl, rd_el eh1 rfl, w0, w1, c2a, c2b, c2c]
  refine ⟨(j + 1, _, as1 ++ [.int .i64 (kj), .int .i64 (kj + 1), a2], post, f1 ++ fx, fr), ⟨hlt, ?inv⟩, (by simp only; omega), ⟨?le, rfl, rfl⟩⟩
  case inv =>
    simp only; rw [hmt]
    replace ow := ow.frame fun c hc => at_ne (x := some (g, as1 ++ elc [.int .i64 (kj), .int .i64 (kj + 1), a2] (post ++ tail))) eh1 (hfx c hc)
    obtain ⟨F0, R0, E0, O0, hz⟩ := ow
    have hz : R0 = [] := hz
    refine iv.next (y := DChannel.mk_ x kj) nd q2 (by rw [← hlen1]; (try simp)) (hget_at eh1) (fun c h1 h2 => (at_ne eh1 h1).trans (fr1 c h1 h2)) ?_
    rw [E0, hz]; exact (.i (.i (.o O0 .nil)))
  case le =>
    have hfin : k + cntL DChannel.cnt (l.take (j + 1)) = kj + 2 + cntL DMessage.cnt x.list := by rw [htk]; simp only [DChannel.cnt]; omega
    rw [hfin, wN (by omega)]; (try simp [kbg_s0, LeL, LeV])
theorem kbo_T (l : List DNote) (k : Int) (hk : 0 ≤ k) (hb : k + cntL DNote.cnt l ≤ 9223372036854775000) (hl : l.length ≤ 1073741824) (H : AH) {a : AV} {fp : List Nat} (o : Own H a (.sl 6 (l.map DNote.cd)) fp) (nd : fp.Nodup) :
    T Tryz.prog Γ Fn.kbo [a, .int .i64 k] H fun v h' => v = .int .i64 (k + cntL DNote.cnt l) ∧ (h'.length = H.length ∧ (∀ c, c ∉ fp → h'[c]? = H[c]?) ∧ Own h' a (.sl 6 ((mkL DNote.mk_ DNote.cnt l k).map DNote.cd)) fp) := by
  rcases o.sl_inv with ⟨rfl, e, rfl⟩ | ⟨b, g, cap, ex, as0, tail, fp, rfl, rfl, hg, hsz, ht, hc, hown⟩
  · have e : l = [] := by simpa using e
    subst e
    have L0 : lenI false .nils = some (.int .i64 0) := rfl
    refine kbo_e (aw_sound tabOK mixed [] _ _ _ ?_)
    unfold kbo_c
    simp only [EZM, q_bx, if_true, if_false, Nat.reduceAdd, Option.bind_some, Nat.reduceBEq, Nat.reduceLeDiff, kbo_r]
    refine loopI tabOK mixed [] (fun _ : Unit => True) (fun _ => 0) (fun _ => kbo_s0 .nils (.int .i64 k) (.int .i64 0) [] H) () trivial ⟨by simp [kbo_s0, LeL, LeV], rfl, rfl⟩ ?_
    intro _ _
    simp only [EZM, q_bx, if_true, if_false, Nat.reduceAdd, Option.bind_some, Nat.reduceBEq, Nat.reduceLeDiff, kbo_r, kbo_s0, L0, show decide ((0 : Int) < 0) = false from rfl]
    refine ⟨rfl, by simp [cntL], ?_⟩
    first | exact ⟨rfl, fun _ _ => rfl, .nil _⟩ | exact ⟨fun _ _ => trivial, .nil _⟩
  simp only [List.length_map] at hc o ⊢
  have L0 : lenI false (.gs b g 0 l.length cap 6 ex) = some (.int .i64 l.length) := rfl
  have hbf : b ∉ fp := (List.nodup_cons.1 nd).1
  refine kbo_e (aw_sound tabOK mixed [] _ _ _ ?_)
  unfold kbo_c
  simp only [EZM, q_bx, if_true, if_false, Nat.reduceAdd, Option.bind_some, Nat.reduceBEq, Nat.reduceLeDiff, kbo_r]
  refine loopI tabOK mixed [] (fun y : Nat × AH × List AV × List AV × List Nat × List Nat => y.1 ≤ l.length ∧ MInv H b g tail fp DNote.cd (l.drop y.1) (mkL DNote.mk_ DNote.cnt (l.take y.1) k) y.2.1 y.2.2.1 y.2.2.2.1 y.2.2.2.2.1 y.2.2.2.2.2) (fun y => l.length - y.1)
    (fun y => kbo_s0 (.gs b g 0 l.length cap 6 ex) (.int .i64 (k + cntL DNote.cnt (l.take y.1))) (.int .i64 y.1) [] y.2.1) (0, H, [], as0, [], fp) ⟨by simp, by simpa [mkL] using MInv.start hg hown⟩ ⟨by simp [kbo_s0, LeL, LeV, cntL], rfl, rfl⟩ ?_
  rintro ⟨j, H', as1, as2, f1, f2⟩ ⟨hj, iv⟩
  simp only at hj iv
  simp only [EZM, q_bx, if_true, if_false, Nat.reduceAdd, Option.bind_some, Nat.reduceBEq, Nat.reduceLeDiff, kbo_r, kbo_s0, L0]
  refine c_split (fun hlt => ?_) (fun hge => ?_)
  rotate_left
  · have hge : j = l.length := by simp at hge; omega
    subst hge
    simp only [EZM, q_bx, if_true, if_false, Nat.reduceAdd, Option.bind_some, Nat.reduceBEq, Nat.reduceLeDiff, kbo_r]
    rw [List.drop_length, List.take_length] at iv
    rw [List.take_length]
    exact ⟨rfl, rfl, iv.done mkL_len (fun _ => rfl) ht hc⟩
  have hlt : j < l.length := by simpa using hlt
  have htk := cntL_take DNote.cnt hlt
  have hle := cntL_le (c := DNote.cnt) DNote.cnt_nn hlt
  have hnn := cntL_nn (c := DNote.cnt) DNote.cnt_nn (l.take j)
  have hmt := mkL_take DNote.mk_ DNote.cnt hlt k
  rw [List.drop_eq_getElem_cons hlt] at iv
  obtain ⟨x, hx⟩ : ∃ x, x = l[j] := ⟨_, rfl⟩
  rw [← hx] at iv
  try rw [← hx] at htk hle
  try rw [← hx] at hmt
  obtain ⟨kj, hkj⟩ : ∃ kj, kj = k + cntL DNote.cnt (l.take j) := ⟨_, rfl⟩
  rw [← hkj] at hmt
  rw [← hkj]
  have hk0 : 0 ≤ kj := by omega
  have hkb : kj + DNote.cnt x ≤ 9223372036854775000 := by omega
  obtain ⟨h1, h2, cs, post, fx, fr, e1, e2, rfl, rfl, q1, q2⟩ := iv.open
  have hfx : ∀ c ∈ fx, c ≠ b := fun c hc e => hbf (by rw [iv.fps, ← e]; simp [hc])
  have ndx : fx.Nodup := (List.nodup_append.1 (List.nodup_append.1 (iv.fps ▸ (List.nodup_cons.1 nd).2)).2.1).1
  have hn0 : as1.length = j * 6 := by rw [iv.o1.len, flat_len' (sz := 6) (fun y _ => rfl), mkL_len, List.length_take, Nat.min_eq_left hj]
  have i0 : aIdxs 6 (.gs b g 0 l.length cap 6 ex) (j : Int) = some (.gp b g as1.length) := by rw [idx_gs hlt, hn0, Nat.zero_add]
  simp only [DNote.cnt] at hkb
  simp only [DNote.cd, ownL_c, ownL_n, own_i, own_b, own_s] at q1
  obtain ⟨_, _, _, _, rfl, e0z, ⟨rfl, rfl⟩, ⟨_, _, _, _, rfl, e1z, ⟨rfl, rfl⟩, ⟨_, _, _, _, rfl, e2z, ⟨rfl, rfl⟩, ⟨_, _, _, _, rfl, e3z, ⟨rfl, rfl⟩, ⟨_, _, _, _, rfl, e4z, ⟨rfl, rfl⟩, ⟨_, _, _, _, rfl, e5z, ⟨rfl, rfl⟩, ⟨rfl, e6z⟩⟩⟩⟩⟩⟩⟩ := q1
  have hfxe : fx = [] := by rw [e0z, e1z, e2z, e3z, e4z, e5z, e6z]; simp
  have ow : OwnL H' [] [] fx := by rw [hfxe]; exact .nil
  have hlen0 := (rfl : H'.length = H'.length)
  have fr0 : ∀ c, c ≠ b → c ∉ fx → H'[c]? = H'[c]? := fun _ _ _ => rfl
  have w0 : IntKind.i64.wrap (kj + 1) = kj + 1 := (wrap_nat (by omega) (by omega)).trans (by omega)
  have w1 : IntKind.i64.wrap (kj + 1 + 1) = kj + 2 := (wrap_nat (by omega) (by omega)).trans (by omega)
  have w2 : IntKind.i64.wrap (kj + 2 + 1) = kj + 3 := (wrap_nat (by omega) (by omega)).trans (by omega)
  have w3 : IntKind.i64.wrap (kj + 3 + 1) = kj + 4 := (wrap_nat (by omega) (by omega)).trans (by omega)
  have w4 : IntKind.i64.wrap (kj + 4 + 1) = kj + 5 := (wrap_nat (by omega) (by omega)).trans (by omega)
  have w5 : IntKind.i64.wrap (kj + 5 + 1) = kj + 6 := (wrap_nat (by omega) (by omega)).trans (by omega)
  obtain ⟨H0, hH0⟩ : ∃ H0, H0 = H' := ⟨_, rfl⟩
  rw [← hH0] at iv q2 ow fr0 hlen0
  have fr0 : ∀ c, c ≠ b → c ∉ fx → H'[c]? = H0[c]? := fun _ _ _ => by rw [hH0]
  have hlen0 : H'.length = H0.length := by rw [hH0]
  rw [hH0] at ow
  replace e1 : H' = h1 ++ some (g, as1 ++ elc [.int .i64 x.kind, .int .i64 x.vat, .int .i64 x.entity, .int .i64 x.tag.vat, .int .i64 x.tag.entity, .int .i64 x.tag.seq] (post ++ tail)) :: h2 := e1
  subst e1
  simp only [EZM, q_bx, if_true, if_false, Nat.reduceAdd, Option.bind_some, Nat.reduceBEq, Nat.reduceLeDiff, kbo_r, i0, st_el e2 rfl, rd_el e2 rfl, w0, w1, w2, w3, w4, w5]
  refine ⟨(j + 1, _, as1 ++ [.int .i64 (kj), .int .i64 (kj + 1), .int .i64 (kj + 2), .int .i64 (kj + 3), .int .i64 (kj + 4), .int .i64 (kj + 5)], post, f1 ++ [], fr), ⟨hlt, ?inv⟩, (by simp only; omega), ⟨?le, rfl, rfl⟩⟩
  case inv =>
    simp only; rw [hmt]
    subst hfxe
    exact iv.next (y := DNote.mk_ x kj) nd q2 (by rw [← hlen0]; (try simp)) (hget_at e2) (fun c h1 h2 => (at_ne e2 h1).trans (fr0 c h1 h2)) (.i (.i (.i (.i (.i (.i .nil))))))
  case le =>
    have hfin : k + cntL DNote.cnt (l.take (j + 1)) = kj + 6 := by rw [htk]; simp only [DNote.cnt]; omega
    rw [hfin, wN (by omega)]; (try simp [kbo_s0, LeL, LeV])
theorem kbb_T (β : Bool) (l : List DValue) (k : Int) (hk : 0 ≤ k) (hb : k + cntL DValue.cnt l ≤ 9223372036854775000) (hl : l.length ≤ 1073741824) (h : AH) :
    T Tryz.prog Γ Fn.kbb [.vs β 2 false ((mkL DValue.mk_ DValue.cnt l k).map (DValue.c β)), .int .i64 k] h fun v h' => v = .int .i64 (k + cntL DValue.cnt l) ∧ h' = h := by
  obtain ⟨M, hM⟩ : ∃ M, M = mkL DValue.mk_ DValue.cnt l k := ⟨_, rfl⟩
  have hlen : M.length = l.length := by rw [hM]; exact mkL_len
  rw [← hM]
  have L0 := len_vm β 2 false M (DValue.c β)
  rw [hlen] at L0
  refine kbb_e (aw_sound tabOK mixed [] _ _ _ ?_)
  unfold kbb_c
  simp only [EZM, q_bx, if_true, if_false, Nat.reduceAdd, Option.bind_some, Nat.reduceBEq, Nat.reduceLeDiff, kbb_r]
  refine loopI tabOK mixed [] (fun j : Nat => j ≤ l.length) (fun j => l.length - j)
    (fun j => kbb_s0 (.vs β 2 false (M.map (DValue.c β))) (.int .i64 (k + cntL DValue.cnt (l.take j))) (.int .i64 j) [] h) 0 (by omega) ⟨by simp [kbb_s0, LeL, LeV, cntL], rfl, rfl⟩ ?_
  intro j hj
  simp only [EZM, q_bx, if_true, if_false, Nat.reduceAdd, Option.bind_some, Nat.reduceBEq, Nat.reduceLeDiff, kbb_r, kbb_s0, L0]
  refine c_split (fun hlt => ?_) (fun hge => ?_)
  rotate_left
  · have hge : j = l.length := by simp at hge; omega
    subst hge
    simp only [EZM, q_bx, if_true, if_false, Nat.reduceAdd, Option.bind_some, Nat.reduceBEq, Nat.reduceLeDiff, kbb_r]
    rw [List.take_length]
    first | exact ⟨rfl, rfl⟩ | exact rfl
  have hlt : j < l.length := by simpa using hlt
  have htk := cntL_take DValue.cnt hlt
  have hle := cntL_le (c := DValue.cnt) DValue.cnt_nn hlt
  have hnn := cntL_nn (c := DValue.cnt) DValue.cnt_nn (l.take j)
  have hg := mkL_get DValue.mk_ DValue.cnt hlt k
  have hltM : j < M.length := by omega
  have i0 := idx_vm (β := β) (sz := 2) (ex := false) (ce := (DValue.c β)) hltM
  rw [← hM, List.getElem?_eq_getElem hltM] at hg
  injection hg with hg
  rw [hg] at i0
  obtain ⟨x, hx⟩ : ∃ x, x = l[j] := ⟨_, rfl⟩
  try rw [← hx] at i0
  try rw [← hx] at htk hle
  obtain ⟨kj, hkj⟩ : ∃ kj, kj = k + cntL DValue.cnt (l.take j) := ⟨_, rfl⟩
  rw [← hkj] at i0
  rw [← hkj]
  have hk0 : 0 ≤ kj := by omega
  have hkb : kj + DValue.cnt x ≤ 9223372036854775000 := by omega
  simp only [DValue.cnt] at hkb
  have w0 : IntKind.i64.wrap (kj + 1) = kj + 1 := (wrap_nat (by omega) (by omega)).trans (by omega)
  have w1 : IntKind.i64.wrap (kj + 1 + 1) = kj + 2 := (wrap_nat (by omega) (by omega)).trans (by omega)
  simp only [EZM, q_bx, if_true, if_false, Nat.reduceAdd, Option.bind_some, Nat.reduceBEq, Nat.reduceLeDiff, kbb_r, i0, DValue.c, DValue.mk_, bne_self_eq_false, beq_self_eq_true, w0, w1]
  have hfin : k + cntL DValue.cnt (l.take (j + 1)) = kj + 2 := by rw [htk]; simp only [DValue.cnt]; omega
  exact ⟨j + 1, hlt, by omega, ⟨by rw [hfin, wN (by omega)]; (try simp [kbb_s0, LeL, LeV]), rfl, rfl⟩⟩
theorem kba_T (β : Bool) (l : List DSent) (k : Int) (hk : 0 ≤ k) (hb : k + cntL DSent.cnt l ≤ 9223372036854775000) (hl : l.length ≤ 1073741824) (ho : ∀ x ∈ l, x.ok 1073741824) (h : AH) :
    T Tryz.prog Γ Fn.kba [.vs β 7 false ((mkL DSent.mk_ DSent.cnt l k).map (DSent.c β)), .int .i64 k] h fun v h' => v = .int .i64 (k + cntL DSent.cnt l) ∧ h' = h := by
  obtain ⟨M, hM⟩ : ∃ M, M = mkL DSent.mk_ DSent.cnt l k := ⟨_, rfl⟩
  have hlen : M.length = l.length := by rw [hM]; exact mkL_len
  rw [← hM]
  have L0 := len_vm β 7 false M (DSent.c β)
  rw [hlen] at L0
  refine kba_e (aw_sound tabOK mixed [] _ _ _ ?_)
  unfold kba_c
  simp only [EZM, q_bx, if_true, if_false, Nat.reduceAdd, Option.bind_some, Nat.reduceBEq, Nat.reduceLeDiff, kba_r]
  refine loopI tabOK mixed [] (fun j : Nat => j ≤ l.length) (fun j => l.length - j)
    (fun j => kba_s0 (.vs β 7 false (M.map (DSent.c β))) (.int .i64 (k + cntL DSent.cnt (l.take j))) (.int .i64 j) [] h) 0 (by omega) ⟨by simp [kba_s0, LeL, LeV, cntL], rfl, rfl⟩ ?_
  intro j hj
  simp only [EZM, q_bx, if_true, if_false, Nat.reduceAdd, Option.bind_some, Nat.reduceBEq, Nat.reduceLeDiff, kba_r, kba_s0, L0]
  refine c_split (fun hlt => ?_) (fun hge => ?_)
  rotate_left
  · have hge : j = l.length := by simp at hge; omega
    subst hge
    simp only [EZM, q_bx, if_true, if_false, Nat.reduceAdd, Option.bind_some, Nat.reduceBEq, Nat.reduceLeDiff, kba_r]
    rw [List.take_length]
    first | exact ⟨rfl, rfl⟩ | exact rfl
  have hlt : j < l.length := by simpa using hlt
  have htk := cntL_take DSent.cnt hlt
  have hle := cntL_le (c := DSent.cnt) DSent.cnt_nn hlt
  have hnn := cntL_nn (c := DSent.cnt) DSent.cnt_nn (l.take j)
  have hg := mkL_get DSent.mk_ DSent.cnt hlt k
  have hltM : j < M.length := by omega
  have i0 := idx_vm (β := β) (sz := 7) (ex := false) (ce := (DSent.c β)) hltM
  rw [← hM, List.getElem?_eq_getElem hltM] at hg
  injection hg with hg
  rw [hg] at i0
  obtain ⟨x, hx⟩ : ∃ x, x = l[j] := ⟨_, rfl⟩
  try rw [← hx] at i0
  try rw [← hx] at htk hle
  obtain ⟨kj, hkj⟩ : ∃ kj, kj = k + cntL DSent.cnt (l.take j) := ⟨_, rfl⟩
  rw [← hkj] at i0
  rw [← hkj]
  have hk0 : 0 ≤ kj := by omega
  have hkb : kj + DSent.cnt x ≤ 9223372036854775000 := by omega
  have z0 := cntL_nn (c := DValue.cnt) DValue.cnt_nn x.args
  simp only [DSent.cnt] at hkb
  have hox := ho _ (List.getElem_mem hlt); rw [← hx] at hox
  have w0 : IntKind.i64.wrap (kj + 1) = kj + 1 := (wrap_nat (by omega) (by omega)).trans (by omega)
  have w1 : IntKind.i64.wrap (kj + 1 + 1) = kj + 2 := (wrap_nat (by omega) (by omega)).trans (by omega)
  have y2 : decide (kj + 2 + cntL DValue.cnt x.args < 0) = false := by simp; omega
  have w3 : IntKind.i64.wrap (kj + 2 + cntL DValue.cnt x.args + 1) = kj + 3 + cntL DValue.cnt x.args := (wrap_nat (by omega) (by omega)).trans (by omega)
  have w4 : IntKind.i64.wrap (kj + 3 + cntL DValue.cnt x.args + 1) = kj + 4 + cntL DValue.cnt x.args := (wrap_nat (by omega) (by omega)).trans (by omega)
  have w5 : IntKind.i64.wrap (kj + 4 + cntL DValue.cnt x.args + 1) = kj + 5 + cntL DValue.cnt x.args := (wrap_nat (by omega) (by omega)).trans (by omega)
  have w6 : IntKind.i64.wrap (kj + 5 + cntL DValue.cnt x.args + 1) = kj + 6 + cntL DValue.cnt x.args := (wrap_nat (by omega) (by omega)).trans (by omega)
  simp only [EZM, q_bx, if_true, if_false, Nat.reduceAdd, Option.bind_some, Nat.reduceBEq, Nat.reduceLeDiff, kba_r, kba_d0_q, i0, DSent.c, DSent.mk_, bne_self_eq_false, beq_self_eq_true, w0, w1, y2, w3, w4, w5, w6]
  refine TCall.val (by simp only [EO]) (kbt_T (kj + 1) (by omega) (by omega) _) ?_
  simp only [EZM, q_bx, if_true, if_false, Nat.reduceAdd, Option.bind_some, Nat.reduceBEq, Nat.reduceLeDiff, kba_r, kba_d0_q, i0, DSent.c, DSent.mk_, bne_self_eq_false, beq_self_eq_true, w0, w1, y2, w3, w4, w5, w6]
  refine TCall.val (by simp only [EO]) (kbb_T β x.args (kj + 2) (by omega) (by omega) (hox.2) _) ?_
  simp only [EZM, q_bx, if_true, if_false, Nat.reduceAdd, Option.bind_some, Nat.reduceBEq, Nat.reduceLeDiff, kba_r, kba_d0_q, i0, DSent.c, DSent.mk_, bne_self_eq_false, beq_self_eq_true, w0, w1, y2, w3, w4, w5, w6]
  have hfin : k + cntL DSent.cnt (l.take (j + 1)) = kj + 6 + cntL DValue.cnt x.args := by rw [htk]; simp only [DSent.cnt]; omega
  exact ⟨j + 1, hlt, by omega, ⟨by rw [hfin, wN (by omega)]; (try simp [kba_s0, LeL, LeV]), rfl, rfl⟩⟩
theorem kaY_T (β : Bool) (l : List DAsker) (k : Int) (hk : 0 ≤ k) (hb : k + cntL DAsker.cnt l ≤ 9223372036854775000) (hl : l.length ≤ 1073741824) (h : AH) :
    T Tryz.prog Γ Fn.kaY [.vs β 2 false ((mkL DAsker.mk_ DAsker.cnt l k).map (DAsker.c β)), .int .i64 k] h fun v h' => v = .int .i64 (k + cntL DAsker.cnt l) ∧ h' = h := by
  obtain ⟨M, hM⟩ : ∃ M, M = mkL DAsker.mk_ DAsker.cnt l k := ⟨_, rfl⟩
  have hlen : M.length = l.length := by rw [hM]; exact mkL_len
  rw [← hM]
  have L0 := len_vm β 2 false M (DAsker.c β)
  rw [hlen] at L0
  refine kaY_e (aw_sound tabOK mixed [] _ _ _ ?_)
  unfold kaY_c
  simp only [EZM, q_bx, if_true, if_false, Nat.reduceAdd, Option.bind_some, Nat.reduceBEq, Nat.reduceLeDiff, kaY_r]
  refine loopI tabOK mixed [] (fun j : Nat => j ≤ l.length) (fun j => l.length - j)
    (fun j => kaY_s0 (.vs β 2 false (M.map (DAsker.c β))) (.int .i64 (k + cntL DAsker.cnt (l.take j))) (.int .i64 j) [] h) 0 (by omega) ⟨by simp [kaY_s0, LeL, LeV, cntL], rfl, rfl⟩ ?_
  intro j hj
  simp only [EZM, q_bx, if_true, if_false, Nat.reduceAdd, Option.bind_some, Nat.reduceBEq, Nat.reduceLeDiff, kaY_r, kaY_s0, L0]
  refine c_split (fun hlt => ?_) (fun hge => ?_)
  rotate_left
  · have hge : j = l.length := by simp at hge; omega
    subst hge
    simp only [EZM, q_bx, if_true, if_false, Nat.reduceAdd, Option.bind_some, Nat.reduceBEq, Nat.reduceLeDiff, kaY_r]
    rw [List.take_length]
    first | exact ⟨rfl, rfl⟩ | exact rfl
  have hlt : j < l.length := by simpa using hlt
  have htk := cntL_take DAsker.cnt hlt
  have hle := cntL_le (c := DAsker.cnt) DAsker.cnt_nn hlt
  have hnn := cntL_nn (c := DAsker.cnt) DAsker.cnt_nn (l.take j)
  have hg := mkL_get DAsker.mk_ DAsker.cnt hlt k
  have hltM : j < M.length := by omega
  have i0 := idx_vm (β := β) (sz := 2) (ex := false) (ce := (DAsker.c β)) hltM
  rw [← hM, List.getElem?_eq_getElem hltM] at hg
  injection hg with hg
  rw [hg] at i0
  obtain ⟨x, hx⟩ : ∃ x, x = l[j] := ⟨_, rfl⟩
  try rw [← hx] at i0
  try rw [← hx] at htk hle
  obtain ⟨kj, hkj⟩ : ∃ kj, kj = k + cntL DAsker.cnt (l.take j) := ⟨_, rfl⟩
  rw [← hkj] at i0
  rw [← hkj]
  have hk0 : 0 ≤ kj := by omega
  have hkb : kj + DAsker.cnt x ≤ 9223372036854775000 := by omega
  simp only [DAsker.cnt] at hkb
  have w0 : IntKind.i64.wrap (kj + 1) = kj + 1 := (wrap_nat (by omega) (by omega)).trans (by omega)
  have w1 : IntKind.i64.wrap (kj + 1 + 1) = kj + 2 := (wrap_nat (by omega) (by omega)).trans (by omega)
  simp only [EZM, q_bx, if_true, if_false, Nat.reduceAdd, Option.bind_some, Nat.reduceBEq, Nat.reduceLeDiff, kaY_r, i0, DAsker.c, DAsker.mk_, bne_self_eq_false, beq_self_eq_true, w0, w1]
  have hfin : k + cntL DAsker.cnt (l.take (j + 1)) = kj + 2 := by rw [htk]; simp only [DAsker.cnt]; omega
  exact ⟨j + 1, hlt, by omega, ⟨by rw [hfin, wN (by omega)]; (try simp [kaY_s0, LeL, LeV]), rfl, rfl⟩⟩
theorem ka0_T (β : Bool) (l : List DEntity) (k : Int) (hk : 0 ≤ k) (hb : k + cntL DEntity.cnt l ≤ 9223372036854775000) (hl : l.length ≤ 1073741824) (ho : ∀ x ∈ l, x.ok 1073741824) (h : AH) :
    T Tryz.prog Γ Fn.ka0 [.vs β 12 false ((mkL DEntity.mk_ DEntity.cnt l k).map (DEntity.c β)), .int .i64 k] h fun v h' => v = .int .i64 (k + cntL DEntity.cnt l) ∧ h' = h := by
  obtain ⟨M, hM⟩ : ∃ M, M = mkL DEntity.mk_ DEntity.cnt l k := ⟨_, rfl⟩
  have hlen : M.length = l.length := by rw [hM]; exact mkL_len
  rw [← hM]
  have L0 := len_vm β 12 false M (DEntity.c β)
  rw [hlen] at L0
  refine ka0_e (aw_sound tabOK mixed [] _ _ _ ?_)
  unfold ka0_c
  simp only [EZM, q_bx, if_true, if_false, Nat.reduceAdd, Option.bind_some, Nat.reduceBEq, Nat.reduceLeDiff, ka0_r]
  refine loopI tabOK mixed [] (fun j : Nat => j ≤ l.length) (fun j => l.length - j)
    (fun j => ka0_s0 (.vs β 12 false (M.map (DEntity.c β))) (.int .i64 (k + cntL DEntity.cnt (l.take j))) (.int .i64 j) [] h) 0 (by omega) ⟨by simp [ka0_s0, LeL, LeV, cntL], rfl, rfl⟩ ?_
  intro j hj
  simp only [EZM, q_bx, if_true, if_false, Nat.reduceAdd, Option.bind_some, Nat.reduceBEq, Nat.reduceLeDiff, ka0_r, ka0_s0, L0]
  refine c_split (fun hlt => ?_) (fun hge => ?_)
  rotate_left
  · have hge : j = l.length := by simp at hge; omega
    subst hge
    simp only [EZM, q_bx, if_true, if_false, Nat.reduceAdd, Option.bind_some, Nat.reduceBEq, Nat.reduceLeDiff, ka0_r]
    rw [List.take_length]
    first | exact ⟨rfl, rfl⟩ | exact rfl
  have hlt : j < l.length := by simpa using hlt
  have htk := cntL_take DEntity.cnt hlt
  have hle := cntL_le (c := DEntity.cnt) DEntity.cnt_nn hlt
  have hnn := cntL_nn (c := DEntity.cnt) DEntity.cnt_nn (l.take j)
  have hg := mkL_get DEntity.mk_ DEntity.cnt hlt k
  have hltM : j < M.length := by omega
  have i0 := idx_vm (β := β) (sz := 12) (ex := false) (ce := (DEntity.c β)) hltM
  rw [← hM, List.getElem?_eq_getElem hltM] at hg
  injection hg with hg
  rw [hg] at i0
  obtain ⟨x, hx⟩ : ∃ x, x = l[j] := ⟨_, rfl⟩
  try rw [← hx] at i0
  try rw [← hx] at htk hle
  obtain ⟨kj, hkj⟩ : ∃ kj, kj = k + cntL DEntity.cnt (l.take j) := ⟨_, rfl⟩
  rw [← hkj] at i0
  rw [← hkj]
  have hk0 : 0 ≤ kj := by omega
  have hkb : kj + DEntity.cnt x ≤ 9223372036854775000 := by omega
  have z0 := cntL_nn (c := DValue.cnt) DValue.cnt_nn x.slots
  have z1 := cntL_nn (c := DSent.cnt) DSent.cnt_nn x.queue
  have z2 := cntL_nn (c := DAsker.cnt) DAsker.cnt_nn x.askers
  simp only [DEntity.cnt] at hkb
  have hox := ho _ (List.getElem_mem hlt); rw [← hx] at hox
  have w0 : IntKind.i64.wrap (kj + 1) = kj + 1 := (wrap_nat (by omega) (by omega)).trans (by omega)
  have w1 : IntKind.i64.wrap (kj + 1 + 1) = kj + 2 := (wrap_nat (by omega) (by omega)).trans (by omega)
  have y2 : decide (kj + 2 + cntL DValue.cnt x.slots < 0) = false := by simp; omega
  have w3 : IntKind.i64.wrap (kj + 2 + cntL DValue.cnt x.slots + 1) = kj + 3 + cntL DValue.cnt x.slots := (wrap_nat (by omega) (by omega)).trans (by omega)
  have w4 : IntKind.i64.wrap (kj + 3 + cntL DValue.cnt x.slots + 1) = kj + 4 + cntL DValue.cnt x.slots := (wrap_nat (by omega) (by omega)).trans (by omega)
  have w5 : IntKind.i64.wrap (kj + 4 + cntL DValue.cnt x.slots + 1) = kj + 5 + cntL DValue.cnt x.slots := (wrap_nat (by omega) (by omega)).trans (by omega)
  have y6 : decide (kj + 5 + cntL DValue.cnt x.slots + cntL DSent.cnt x.queue < 0) = false := by simp; omega
  have y7 : decide (kj + 5 + cntL DValue.cnt x.slots + cntL DSent.cnt x.queue + cntL DAsker.cnt x.askers < 0) = false := by simp; omega
  have w8 : IntKind.i64.wrap (kj + 5 + cntL DValue.cnt x.slots + cntL DSent.cnt x.queue + cntL DAsker.cnt x.askers + 1) = kj + 6 + cntL DValue.cnt x.slots + cntL DSent.cnt x.queue + cntL DAsker.cnt x.askers := (wrap_nat (by omega) (by omega)).trans (by omega)
  have w9 : IntKind.i64.wrap (kj + 6 + cntL DValue.cnt x.slots + cntL DSent.cnt x.queue + cntL DAsker.cnt x.askers + 1) = kj + 7 + cntL DValue.cnt x.slots + cntL DSent.cnt x.queue + cntL DAsker.cnt x.askers := (wrap_nat (by omega) (by omega)).trans (by omega)
  have w10 : IntKind.i64.wrap (kj + 7 + cntL DValue.cnt x.slots + cntL DSent.cnt x.queue + cntL DAsker.cnt x.askers + 1) = kj + 8 + cntL DValue.cnt x.slots + cntL DSent.cnt x.queue + cntL DAsker.cnt x.askers := (wrap_nat (by omega) (by omega)).trans (by omega)
  have w11 : IntKind.i64.wrap (kj + 8 + cntL DValue.cnt x.slots + cntL DSent.cnt x.queue + cntL DAsker.cnt x.askers + 1) = kj + 9 + cntL DValue.cnt x.slots + cntL DSent.cnt x.queue + cntL DAsker.cnt x.askers := (wrap_nat (by omega) (by omega)).trans (by omega)
  simp only [EZM, q_bx, if_true, if_false, Nat.reduceAdd, Option.bind_some, Nat.reduceBEq, Nat.reduceLeDiff, ka0_r, i0, DEntity.c, DEntity.mk_, bne_self_eq_false, beq_self_eq_true, w0, w1, y2, w3, w4, w5, y6, y7, w8, w9, w10, w11]
  refine TCall.val (by simp only [EO]) (kbb_T β x.slots (kj + 2) (by omega) (by omega) (hox.1) _) ?_
  simp only [EZM, q_bx, if_true, if_false, Nat.reduceAdd, Option.bind_some, Nat.reduceBEq, Nat.reduceLeDiff, ka0_r, i0, DEntity.c, DEntity.mk_, bne_self_eq_false, beq_self_eq_true, w0, w1, y2, w3, w4, w5, y6, y7, w8, w9, w10, w11]
  refine TCall.val (by simp only [EO]) (kba_T β x.queue (kj + 5 + cntL DValue.cnt x.slots) (by omega) (by omega) (hox.2.1) (hox.2.2.1) _) ?_
  simp only [EZM, q_bx, if_true, if_false, Nat.reduceAdd, Option.bind_some, Nat.reduceBEq, Nat.reduceLeDiff, ka0_r, i0, DEntity.c, DEntity.mk_, bne_self_eq_false, beq_self_eq_true, w0, w1, y2, w3, w4, w5, y6, y7, w8, w9, w10, w11]
  refine TCall.val (by simp only [EO]) (kaY_T β x.askers (kj + 5 + cntL DValue.cnt x.slots + cntL DSent.cnt x.queue) (by omega) (by omega) (hox.2.2.2) _) ?_
  simp only [EZM, q_bx, if_true, if_false, Nat.reduceAdd, Option.bind_some, Nat.reduceBEq, Nat.reduceLeDiff, ka0_r, i0, DEntity.c, DEntity.mk_, bne_self_eq_false, beq_self_eq_true, w0, w1, y2, w3, w4, w5, y6, y7, w8, w9, w10, w11]
  have hfin : k + cntL DEntity.cnt (l.take (j + 1)) = kj + 9 + cntL DValue.cnt x.slots + cntL DSent.cnt x.queue + cntL DAsker.cnt x.askers := by rw [htk]; simp only [DEntity.cnt]; omega
  exact ⟨j + 1, hlt, by omega, ⟨by rw [hfin, wN (by omega)]; (try simp [ka0_s0, LeL, LeV]), rfl, rfl⟩⟩
theorem ka1_T (β : Bool) (l : List DExport) (k : Int) (hk : 0 ≤ k) (hb : k + cntL DExport.cnt l ≤ 9223372036854775000) (hl : l.length ≤ 1073741824) (h : AH) :
    T Tryz.prog Γ Fn.ka1 [.vs β 3 false ((mkL DExport.mk_ DExport.cnt l k).map (DExport.c β)), .int .i64 k] h fun v h' => v = .int .i64 (k + cntL DExport.cnt l) ∧ h' = h := by
  obtain ⟨M, hM⟩ : ∃ M, M = mkL DExport.mk_ DExport.cnt l k := ⟨_, rfl⟩
  have hlen : M.length = l.length := by rw [hM]; exact mkL_len
  rw [← hM]
  have L0 := len_vm β 3 false M (DExport.c β)
  rw [hlen] at L0
  refine ka1_e (aw_sound tabOK mixed [] _ _ _ ?_)
  unfold ka1_c
  simp only [EZM, q_bx, if_true, if_false, Nat.reduceAdd, Option.bind_some, Nat.reduceBEq, Nat.reduceLeDiff, ka1_r]
  refine loopI tabOK mixed [] (fun j : Nat => j ≤ l.length) (fun j => l.length - j)
    (fun j => ka1_s0 (.vs β 3 false (M.map (DExport.c β))) (.int .i64 (k + cntL DExport.cnt (l.take j))) (.int .i64 j) [] h) 0 (by omega) ⟨by simp [ka1_s0, LeL, LeV, cntL], rfl, rfl⟩ ?_
  intro j hj
  simp only [EZM, q_bx, if_true, if_false, Nat.reduceAdd, Option.bind_some, Nat.reduceBEq, Nat.reduceLeDiff, ka1_r, ka1_s0, L0]
  refine c_split (fun hlt => ?_) (fun hge => ?_)
  rotate_left
  · have hge : j = l.length := by simp at hge; omega
    subst hge
    simp only [EZM, q_bx, if_true, if_false, Nat.reduceAdd, Option.bind_some, Nat.reduceBEq, Nat.reduceLeDiff, ka1_r]
    rw [List.take_length]
    first | exact ⟨rfl, rfl⟩ | exact rfl
  have hlt : j < l.length := by simpa using hlt
  have htk := cntL_take DExport.cnt hlt
  have hle := cntL_le (c := DExport.cnt) DExport.cnt_nn hlt
  have hnn := cntL_nn (c := DExport.cnt) DExport.cnt_nn (l.take j)
  have hg := mkL_get DExport.mk_ DExport.cnt hlt k
  have hltM : j < M.length := by omega
  have i0 := idx_vm (β := β) (sz := 3) (ex := false) (ce := (DExport.c β)) hltM
  rw [← hM, List.getElem?_eq_getElem hltM] at hg
  injection hg with hg
  rw [hg] at i0
  obtain ⟨x, hx⟩ : ∃ x, x = l[j] := ⟨_, rfl⟩
  try rw [← hx] at i0
  try rw [← hx] at htk hle
  obtain ⟨kj, hkj⟩ : ∃ kj, kj = k + cntL DExport.cnt (l.take j) := ⟨_, rfl⟩
  rw [← hkj] at i0
  rw [← hkj]
  have hk0 : 0 ≤ kj := by omega
  have hkb : kj + DExport.cnt x ≤ 9223372036854775000 := by omega
  simp only [DExport.cnt] at hkb
  have w0 : IntKind.i64.wrap (kj + 1) = kj + 1 := (wrap_nat (by omega) (by omega)).trans (by omega)
  have w1 : IntKind.i64.wrap (kj + 1 + 1) = kj + 2 := (wrap_nat (by omega) (by omega)).trans (by omega)
  have w2 : IntKind.i64.wrap (kj + 2 + 1) = kj + 3 := (wrap_nat (by omega) (by omega)).trans (by omega)
  simp only [EZM, q_bx, if_true, if_false, Nat.reduceAdd, Option.bind_some, Nat.reduceBEq, Nat.reduceLeDiff, ka1_r, i0, DExport.c, DExport.mk_, bne_self_eq_false, beq_self_eq_true, w0, w1, w2]
  have hfin : k + cntL DExport.cnt (l.take (j + 1)) = kj + 3 := by rw [htk]; simp only [DExport.cnt]; omega
  exact ⟨j + 1, hlt, by omega, ⟨by rw [hfin, wN (by omega)]; (try simp [ka1_s0, LeL, LeV]), rfl, rfl⟩⟩
theorem ka8_T (β : Bool) (l : List DQuestion) (k : Int) (hk : 0 ≤ k) (hb : k + cntL DQuestion.cnt l ≤ 9223372036854775000) (hl : l.length ≤ 1073741824) (h : AH) :
    T Tryz.prog Γ Fn.ka8 [.vs β 2 false ((mkL DQuestion.mk_ DQuestion.cnt l k).map (DQuestion.c β)), .int .i64 k] h fun v h' => v = .int .i64 (k + cntL DQuestion.cnt l) ∧ h' = h := by
  obtain ⟨M, hM⟩ : ∃ M, M = mkL DQuestion.mk_ DQuestion.cnt l k := ⟨_, rfl⟩
  have hlen : M.length = l.length := by rw [hM]; exact mkL_len
  rw [← hM]
  have L0 := len_vm β 2 false M (DQuestion.c β)
  rw [hlen] at L0
  refine ka8_e (aw_sound tabOK mixed [] _ _ _ ?_)
  unfold ka8_c
  simp only [EZM, q_bx, if_true, if_false, Nat.reduceAdd, Option.bind_some, Nat.reduceBEq, Nat.reduceLeDiff, ka8_r]
  refine loopI tabOK mixed [] (fun j : Nat => j ≤ l.length) (fun j => l.length - j)
    (fun j => ka8_s0 (.vs β 2 false (M.map (DQuestion.c β))) (.int .i64 (k + cntL DQuestion.cnt (l.take j))) (.int .i64 j) [] h) 0 (by omega) ⟨by simp [ka8_s0, LeL, LeV, cntL], rfl, rfl⟩ ?_
  intro j hj
  simp only [EZM, q_bx, if_true, if_false, Nat.reduceAdd, Option.bind_some, Nat.reduceBEq, Nat.reduceLeDiff, ka8_r, ka8_s0, L0]
  refine c_split (fun hlt => ?_) (fun hge => ?_)
  rotate_left
  · have hge : j = l.length := by simp at hge; omega
    subst hge
    simp only [EZM, q_bx, if_true, if_false, Nat.reduceAdd, Option.bind_some, Nat.reduceBEq, Nat.reduceLeDiff, ka8_r]
    rw [List.take_length]
    first | exact ⟨rfl, rfl⟩ | exact rfl
  have hlt : j < l.length := by simpa using hlt
  have htk := cntL_take DQuestion.cnt hlt
  have hle := cntL_le (c := DQuestion.cnt) DQuestion.cnt_nn hlt
  have hnn := cntL_nn (c := DQuestion.cnt) DQuestion.cnt_nn (l.take j)
  have hg := mkL_get DQuestion.mk_ DQuestion.cnt hlt k
  have hltM : j < M.length := by omega
  have i0 := idx_vm (β := β) (sz := 2) (ex := false) (ce := (DQuestion.c β)) hltM
  rw [← hM, List.getElem?_eq_getElem hltM] at hg
  injection hg with hg
  rw [hg] at i0
  obtain ⟨x, hx⟩ : ∃ x, x = l[j] := ⟨_, rfl⟩
  try rw [← hx] at i0
  try rw [← hx] at htk hle
  obtain ⟨kj, hkj⟩ : ∃ kj, kj = k + cntL DQuestion.cnt (l.take j) := ⟨_, rfl⟩
  rw [← hkj] at i0
  rw [← hkj]
  have hk0 : 0 ≤ kj := by omega
  have hkb : kj + DQuestion.cnt x ≤ 9223372036854775000 := by omega
  simp only [DQuestion.cnt] at hkb
  have w0 : IntKind.i64.wrap (kj + 1) = kj + 1 := (wrap_nat (by omega) (by omega)).trans (by omega)
  have w1 : IntKind.i64.wrap (kj + 1 + 1) = kj + 2 := (wrap_nat (by omega) (by omega)).trans (by omega)
  simp only [EZM, q_bx, if_true, if_false, Nat.reduceAdd, Option.bind_some, Nat.reduceBEq, Nat.reduceLeDiff, ka8_r, i0, DQuestion.c, DQuestion.mk_, bne_self_eq_false, beq_self_eq_true, w0, w1]
  have hfin : k + cntL DQuestion.cnt (l.take (j + 1)) = kj + 2 := by rw [htk]; simp only [DQuestion.cnt]; omega
  exact ⟨j + 1, hlt, by omega, ⟨by rw [hfin, wN (by omega)]; (try simp [ka8_s0, LeL, LeV]), rfl, rfl⟩⟩
theorem ka3_T (β : Bool) (l : List DLink) (k : Int) (hk : 0 ≤ k) (hb : k + cntL DLink.cnt l ≤ 9223372036854775000) (hl : l.length ≤ 1073741824) (ho : ∀ x ∈ l, x.ok 1073741824) (h : AH) :
    T Tryz.prog Γ Fn.ka3 [.vs β 7 false ((mkL DLink.mk_ DLink.cnt l k).map (DLink.c β)), .int .i64 k] h fun v h' => v = .int .i64 (k + cntL DLink.cnt l) ∧ h' = h := by
  obtain ⟨M, hM⟩ : ∃ M, M = mkL DLink.mk_ DLink.cnt l k := ⟨_, rfl⟩
  have hlen : M.length = l.length := by rw [hM]; exact mkL_len
  rw [← hM]
  have L0 := len_vm β 7 false M (DLink.c β)
  rw [hlen] at L0
  refine ka3_e (aw_sound tabOK mixed [] _ _ _ ?_)
  unfold ka3_c
  simp only [EZM, q_bx, if_true, if_false, Nat.reduceAdd, Option.bind_some, Nat.reduceBEq, Nat.reduceLeDiff, ka3_r]
  refine loopI tabOK mixed [] (fun j : Nat => j ≤ l.length) (fun j => l.length - j)
    (fun j => ka3_s0 (.vs β 7 false (M.map (DLink.c β))) (.int .i64 (k + cntL DLink.cnt (l.take j))) (.int .i64 j) [] h) 0 (by omega) ⟨by simp [ka3_s0, LeL, LeV, cntL], rfl, rfl⟩ ?_
  intro j hj
  simp only [EZM, q_bx, if_true, if_false, Nat.reduceAdd, Option.bind_some, Nat.reduceBEq, Nat.reduceLeDiff, ka3_r, ka3_s0, L0]
  refine c_split (fun hlt => ?_) (fun hge => ?_)
  rotate_left
  · have hge : j = l.length := by simp at hge; omega
    subst hge
    simp only [EZM, q_bx, if_true, if_false, Nat.reduceAdd, Option.bind_some, Nat.reduceBEq, Nat.reduceLeDiff, ka3_r]
    rw [List.take_length]
    first | exact ⟨rfl, rfl⟩ | exact rfl
  have hlt : j < l.length := by simpa using hlt
  have htk := cntL_take DLink.cnt hlt
  have hle := cntL_le (c := DLink.cnt) DLink.cnt_nn hlt
  have hnn := cntL_nn (c := DLink.cnt) DLink.cnt_nn (l.take j)
  have hg := mkL_get DLink.mk_ DLink.cnt hlt k
  have hltM : j < M.length := by omega
  have i0 := idx_vm (β := β) (sz := 7) (ex := false) (ce := (DLink.c β)) hltM
  rw [← hM, List.getElem?_eq_getElem hltM] at hg
  injection hg with hg
  rw [hg] at i0
  obtain ⟨x, hx⟩ : ∃ x, x = l[j] := ⟨_, rfl⟩
  try rw [← hx] at i0
  try rw [← hx] at htk hle
  obtain ⟨kj, hkj⟩ : ∃ kj, kj = k + cntL DLink.cnt (l.take j) := ⟨_, rfl⟩
  rw [← hkj] at i0
  rw [← hkj]
  have hk0 : 0 ≤ kj := by omega
  have hkb : kj + DLink.cnt x ≤ 9223372036854775000 := by omega
  have z0 := cntL_nn (c := DExport.cnt) DExport.cnt_nn x.exports
  have z1 := cntL_nn (c := DQuestion.cnt) DQuestion.cnt_nn x.questions
  have z2 := cntL_nn (c := DQuestion.cnt) DQuestion.cnt_nn x.answers
  simp only [DLink.cnt] at hkb
  have hox := ho _ (List.getElem_mem hlt); rw [← hx] at hox
  have w0 : IntKind.i64.wrap (kj + 1) = kj + 1 := (wrap_nat (by omega) (by omega)).trans (by omega)
  have w1 : IntKind.i64.wrap (kj + 1 + 1) = kj + 2 := (wrap_nat (by omega) (by omega)).trans (by omega)
  have m1 : aBin .rem .num (.int .i64 (kj + 1)) (.int .i64 3) = some (.int .i64 ((kj + 1) % 3)) := by simp only [aBin, aArith, if_true]; rw [if_neg (by decide), Int.tmod_eq_emod_of_nonneg (by omega)]
  have y2 : decide (kj + 2 + cntL DExport.cnt x.exports < 0) = false := by simp; omega
  have w3 : IntKind.i64.wrap (kj + 2 + cntL DExport.cnt x.exports + 1) = kj + 3 + cntL DExport.cnt x.exports := (wrap_nat (by omega) (by omega)).trans (by omega)
  have y4 : decide (kj + 3 + cntL DExport.cnt x.exports + cntL DQuestion.cnt x.questions < 0) = false := by simp; omega
  have w5 : IntKind.i64.wrap (kj + 3 + cntL DExport.cnt x.exports + cntL DQuestion.cnt x.questions + 1) = kj + 4 + cntL DExport.cnt x.exports + cntL DQuestion.cnt x.questions := (wrap_nat (by omega) (by omega)).trans (by omega)
  have y6 : decide (kj + 4 + cntL DExport.cnt x.exports + cntL DQuestion.cnt x.questions + cntL DQuestion.cnt x.answers < 0) = false := by simp; omega
  simp only [EZM, q_bx, if_true, if_false, Nat.reduceAdd, Option.bind_some, Nat.reduceBEq, Nat.reduceLeDiff, ka3_r, i0, DLink.c, DLink.mk_, bne_self_eq_false, beq_self_eq_true, w0, w1, m1, beq_dec, y2, w3, y4, w5, y6]
  refine TCall.val (by simp only [EO]) (ka1_T β x.exports (kj + 2) (by omega) (by omega) (hox.1) _) ?_
  simp only [EZM, q_bx, if_true, if_false, Nat.reduceAdd, Option.bind_some, Nat.reduceBEq, Nat.reduceLeDiff, ka3_r, i0, DLink.c, DLink.mk_, bne_self_eq_false, beq_self_eq_true, w0, w1, m1, beq_dec, y2, w3, y4, w5, y6]
  refine TCall.val (by simp only [EO]) (ka8_T β x.questions (kj + 3 + cntL DExport.cnt x.exports) (by omega) (by omega) (hox.2.1) _) ?_
  simp only [EZM, q_bx, if_true, if_false, Nat.reduceAdd, Option.bind_some, Nat.reduceBEq, Nat.reduceLeDiff, ka3_r, i0, DLink.c, DLink.mk_, bne_self_eq_false, beq_self_eq_true, w0, w1, m1, beq_dec, y2, w3, y4, w5, y6]
  refine TCall.val (by simp only [EO]) (ka8_T β x.answers (kj + 4 + cntL DExport.cnt x.exports + cntL DQuestion.cnt x.questions) (by omega) (by omega) (hox.2.2) _) ?_
  simp only [EZM, q_bx, if_true, if_false, Nat.reduceAdd, Option.bind_some, Nat.reduceBEq, Nat.reduceLeDiff, ka3_r, i0, DLink.c, DLink.mk_, bne_self_eq_false, beq_self_eq_true, w0, w1, m1, beq_dec, y2, w3, y4, w5, y6]
  have hfin : k + cntL DLink.cnt (l.take (j + 1)) = kj + 4 + cntL DExport.cnt x.exports + cntL DQuestion.cnt x.questions + cntL DQuestion.cnt x.answers := by rw [htk]; simp only [DLink.cnt]; omega
  exact ⟨j + 1, hlt, by omega, ⟨by rw [hfin, wN (by omega)]; (try simp [ka3_s0, LeL, LeV]), rfl, rfl⟩⟩
theorem kbd_T (β : Bool) (l : List DWire) (k : Int) (hk : 0 ≤ k) (hb : k + cntL DWire.cnt l ≤ 9223372036854775000) (hl : l.length ≤ 1073741824) (h : AH) :
    T Tryz.prog Γ Fn.kbd [.vs β 2 false ((mkL DWire.mk_ DWire.cnt l k).map (DWire.c β)), .int .i64 k] h fun v h' => v = .int .i64 (k + cntL DWire.cnt l) ∧ h' = h := by
  obtain ⟨M, hM⟩ : ∃ M, M = mkL DWire.mk_ DWire.cnt l k := ⟨_, rfl⟩
  have hlen : M.length = l.length := by rw [hM]; exact mkL_len
  rw [← hM]
  have L0 := len_vm β 2 false M (DWire.c β)
  rw [hlen] at L0
  refine kbd_e (aw_sound tabOK mixed [] _ _ _ ?_)
  unfold kbd_c
  simp only [EZM, q_bx, if_true, if_false, Nat.reduceAdd, Option.bind_some, Nat.reduceBEq, Nat.reduceLeDiff, kbd_r]
  refine loopI tabOK mixed [] (fun j : Nat => j ≤ l.length) (fun j => l.length - j)
    (fun j => kbd_s0 (.vs β 2 false (M.map (DWire.c β))) (.int .i64 (k + cntL DWire.cnt (l.take j))) (.int .i64 j) [] h) 0 (by omega) ⟨by simp [kbd_s0, LeL, LeV, cntL], rfl, rfl⟩ ?_
  intro j hj
  simp only [EZM, q_bx, if_true, if_false, Nat.reduceAdd, Option.bind_some, Nat.reduceBEq, Nat.reduceLeDiff, kbd_r, kbd_s0, L0]
  refine c_split (fun hlt => ?_) (fun hge => ?_)
  rotate_left
  · have hge : j = l.length := by simp at hge; omega
    subst hge
    simp only [EZM, q_bx, if_true, if_false, Nat.reduceAdd, Option.bind_some, Nat.reduceBEq, Nat.reduceLeDiff, kbd_r]
    rw [List.take_length]
    first | exact ⟨rfl, rfl⟩ | exact rfl
  have hlt : j < l.length := by simpa using hlt
  have htk := cntL_take DWire.cnt hlt
  have hle := cntL_le (c := DWire.cnt) DWire.cnt_nn hlt
  have hnn := cntL_nn (c := DWire.cnt) DWire.cnt_nn (l.take j)
  have hg := mkL_get DWire.mk_ DWire.cnt hlt k
  have hltM : j < M.length := by omega
  have i0 := idx_vm (β := β) (sz := 2) (ex := false) (ce := (DWire.c β)) hltM
  rw [← hM, List.getElem?_eq_getElem hltM] at hg
  injection hg with hg
  rw [hg] at i0
  obtain ⟨x, hx⟩ : ∃ x, x = l[j] := ⟨_, rfl⟩
  try rw [← hx] at i0
  try rw [← hx] at htk hle
  obtain ⟨kj, hkj⟩ : ∃ kj, kj = k + cntL DWire.cnt (l.take j) := ⟨_, rfl⟩
  rw [← hkj] at i0
  rw [← hkj]
  have hk0 : 0 ≤ kj := by omega
  have hkb : kj + DWire.cnt x ≤ 9223372036854775000 := by omega
  simp only [DWire.cnt] at hkb
  have w0 : IntKind.i64.wrap (kj + 1) = kj + 1 := (wrap_nat (by omega) (by omega)).trans (by omega)
  have w1 : IntKind.i64.wrap (kj + 1 + 1) = kj + 2 := (wrap_nat (by omega) (by omega)).trans (by omega)
  simp only [EZM, q_bx, if_true, if_false, Nat.reduceAdd, Option.bind_some, Nat.reduceBEq, Nat.reduceLeDiff, kbd_r, i0, DWire.c, DWire.mk_, bne_self_eq_false, beq_self_eq_true, w0, w1]
  have hfin : k + cntL DWire.cnt (l.take (j + 1)) = kj + 2 := by rw [htk]; simp only [DWire.cnt]; omega
  exact ⟨j + 1, hlt, by omega, ⟨by rw [hfin, wN (by omega)]; (try simp [kbd_s0, LeL, LeV]), rfl, rfl⟩⟩
theorem ka4_T (β : Bool) (l : List DMessage) (k : Int) (hk : 0 ≤ k) (hb : k + cntL DMessage.cnt l ≤ 9223372036854775000) (hl : l.length ≤ 1073741824) (ho : ∀ x ∈ l, x.ok 1073741824) (h : AH) :
    T Tryz.prog Γ Fn.ka4 [.vs β 12 false ((mkL DMessage.mk_ DMessage.cnt l k).map (DMessage.c β)), .int .i64 k] h fun v h' => v = .int .i64 (k + cntL DMessage.cnt l) ∧ h' = h := by
  obtain ⟨M, hM⟩ : ∃ M, M = mkL DMessage.mk_ DMessage.cnt l k := ⟨_, rfl⟩
  have hlen : M.length = l.length := by rw [hM]; exact mkL_len
  rw [← hM]
  have L0 := len_vm β 12 false M (DMessage.c β)
  rw [hlen] at L0
  refine ka4_e (aw_sound tabOK mixed [] _ _ _ ?_)
  unfold ka4_c
  simp only [EZM, q_bx, if_true, if_false, Nat.reduceAdd, Option.bind_some, Nat.reduceBEq, Nat.reduceLeDiff, ka4_r]
  refine loopI tabOK mixed [] (fun j : Nat => j ≤ l.length) (fun j => l.length - j)
    (fun j => ka4_s0 (.vs β 12 false (M.map (DMessage.c β))) (.int .i64 (k + cntL DMessage.cnt (l.take j))) (.int .i64 j) [] h) 0 (by omega) ⟨by simp [ka4_s0, LeL, LeV, cntL], rfl, rfl⟩ ?_
  intro j hj
  simp only [EZM, q_bx, if_true, if_false, Nat.reduceAdd, Option.bind_some, Nat.reduceBEq, Nat.reduceLeDiff, ka4_r, ka4_s0, L0]
  refine c_split (fun hlt => ?_) (fun hge => ?_)
  rotate_left
  · have hge : j = l.length := by simp at hge; omega
    subst hge
    simp only [EZM, q_bx, if_true, if_false, Nat.reduceAdd, Option.bind_some, Nat.reduceBEq, Nat.reduceLeDiff, ka4_r]
    rw [List.take_length]
    first | exact ⟨rfl, rfl⟩ | exact rfl
  have hlt : j < l.length := by simpa using hlt
  have htk := cntL_take DMessage.cnt hlt
  have hle := cntL_le (c := DMessage.cnt) DMessage.cnt_nn hlt
  have hnn := cntL_nn (c := DMessage.cnt) DMessage.cnt_nn (l.take j)
  have hg := mkL_get DMessage.mk_ DMessage.cnt hlt k
  have hltM : j < M.length := by omega
  have i0 := idx_vm (β := β) (sz := 12) (ex := false) (ce := (DMessage.c β)) hltM
  rw [← hM, List.getElem?_eq_getElem hltM] at hg
  injection hg with hg
  rw [hg] at i0
  obtain ⟨x, hx⟩ : ∃ x, x = l[j] := ⟨_, rfl⟩
  try rw [← hx] at i0
  try rw [← hx] at htk hle
  obtain ⟨kj, hkj⟩ : ∃ kj, kj = k + cntL DMessage.cnt (l.take j) := ⟨_, rfl⟩
  rw [← hkj] at i0
  rw [← hkj]
  have hk0 : 0 ≤ kj := by omega
  have hkb : kj + DMessage.cnt x ≤ 9223372036854775000 := by omega
  have z0 := cntL_nn (c := DWire.cnt) DWire.cnt_nn x.args
  simp only [DMessage.cnt] at hkb
  have hox := ho _ (List.getElem_mem hlt); rw [← hx] at hox
  have w0 : IntKind.i64.wrap (kj + 1) = kj + 1 := (wrap_nat (by omega) (by omega)).trans (by omega)
  have w1 : IntKind.i64.wrap (kj + 1 + 1) = kj + 2 := (wrap_nat (by omega) (by omega)).trans (by omega)
  have w2 : IntKind.i64.wrap (kj + 2 + 1) = kj + 3 := (wrap_nat (by omega) (by omega)).trans (by omega)
  have w3 : IntKind.i64.wrap (kj + 3 + 1) = kj + 4 := (wrap_nat (by omega) (by omega)).trans (by omega)
  have w4 : IntKind.i64.wrap (kj + 4 + 1) = kj + 5 := (wrap_nat (by omega) (by omega)).trans (by omega)
  have y5 : decide (kj + 5 + cntL DWire.cnt x.args < 0) = false := by simp; omega
  have w6 : IntKind.i64.wrap (kj + 5 + cntL DWire.cnt x.args + 1) = kj + 6 + cntL DWire.cnt x.args := (wrap_nat (by omega) (by omega)).trans (by omega)
  have w7 : IntKind.i64.wrap (kj + 6 + cntL DWire.cnt x.args + 1) = kj + 7 + cntL DWire.cnt x.args := (wrap_nat (by omega) (by omega)).trans (by omega)
  have w8 : IntKind.i64.wrap (kj + 7 + cntL DWire.cnt x.args + 1) = kj + 8 + cntL DWire.cnt x.args := (wrap_nat (by omega) (by omega)).trans (by omega)
  have w9 : IntKind.i64.wrap (kj + 8 + cntL DWire.cnt x.args + 1) = kj + 9 + cntL DWire.cnt x.args := (wrap_nat (by omega) (by omega)).trans (by omega)
  have w10 : IntKind.i64.wrap (kj + 9 + cntL DWire.cnt x.args + 1) = kj + 10 + cntL DWire.cnt x.args := (wrap_nat (by omega) (by omega)).trans (by omega)
  have w11 : IntKind.i64.wrap (kj + 10 + cntL DWire.cnt x.args + 1) = kj + 11 + cntL DWire.cnt x.args := (wrap_nat (by omega) (by omega)).trans (by omega)
  simp only [EZM, q_bx, if_true, if_false, Nat.reduceAdd, Option.bind_some, Nat.reduceBEq, Nat.reduceLeDiff, ka4_r, ka4_d0_q, i0, DMessage.c, DMessage.mk_, bne_self_eq_false, beq_self_eq_true, w0, w1, w2, w3, w4, y5, w6, w7, w8, w9, w10, w11]
  refine TCall.val (by simp only [EO]) (kbt_T (kj + 4) (by omega) (by omega) _) ?_
  simp only [EZM, q_bx, if_true, if_false, Nat.reduceAdd, Option.bind_some, Nat.reduceBEq, Nat.reduceLeDiff, ka4_r, ka4_d0_q, i0, DMessage.c, DMessage.mk_, bne_self_eq_false, beq_self_eq_true, w0, w1, w2, w3, w4, y5, w6, w7, w8, w9, w10, w11]
  refine TCall.val (by simp only [EO]) (kbd_T β x.args (kj + 5) (by omega) (by omega) (hox.2) _) ?_
  simp only [EZM, q_bx, if_true, if_false, Nat.reduceAdd, Option.bind_some, Nat.reduceBEq, Nat.reduceLeDiff, ka4_r, ka4_d0_q, i0, DMessage.c, DMessage.mk_, bne_self_eq_false, beq_self_eq_true, w0, w1, w2, w3, w4, y5, w6, w7, w8, w9, w10, w11]
  have hfin : k + cntL DMessage.cnt (l.take (j + 1)) = kj + 11 + cntL DWire.cnt x.args := by rw [htk]; simp only [DMessage.cnt]; omega
  exact ⟨j + 1, hlt, by omega, ⟨by rw [hfin, wN (by omega)]; (try simp [ka4_s0, LeL, LeV]), rfl, rfl⟩⟩
set_option maxRecDepth 20000 in
theorem ka7_T (β : Bool) (l : List DOutgoing) (k : Int) (hk : 0 ≤ k) (hb : k + cntL DOutgoing.cnt l ≤ 9223372036854775000) (hl : l.length ≤ 1073741824) (ho : ∀ x ∈ l, x.ok 1073741824) (h : AH) :
    T Tryz.prog Γ Fn.ka7 [.vs β 13 false ((mkL DOutgoing.mk_ DOutgoing.cnt l k).map (DOutgoing.c β)), .int .i64 k] h fun v h' => v = .int .i64 (k + cntL DOutgoing.cnt l) ∧ h' = h := by
  obtain ⟨M, hM⟩ : ∃ M, M = mkL DOutgoing.mk_ DOutgoing.cnt l k := ⟨_, rfl⟩
  have hlen : M.length = l.length := by rw [hM]; exact mkL_len
  rw [← hM]
  have L0 := len_vm β 13 false M (DOutgoing.c β)
  rw [hlen] at L0
  refine ka7_e (aw_sound tabOK mixed [] _ _ _ ?_)
  unfold ka7_c
  simp only [EZM, q_bx, if_true, if_false, Nat.reduceAdd, Option.bind_some, Nat.reduceBEq, Nat.reduceLeDiff, ka7_r]
  refine loopI tabOK mixed [] (fun j : Nat => j ≤ l.length) (fun j => l.length - j)
    (fun j => ka7_s0 (.vs β 13 false (M.map (DOutgoing.c β))) (.int .i64 (k + cntL DOutgoing.cnt (l.take j))) (.int .i64 j) [] h) 0 (by omega) ⟨by simp [ka7_s0, LeL, LeV, cntL], rfl, rfl⟩ ?_
  intro j hj
  simp only [EZM, q_bx, if_true, if_false, Nat.reduceAdd, Option.bind_some, Nat.reduceBEq, Nat.reduceLeDiff, ka7_r, ka7_s0, L0]
  refine c_split (fun hlt => ?_) (fun hge => ?_)
  rotate_left
  · have hge : j = l.length := by simp at hge; omega
    subst hge
    simp only [EZM, q_bx, if_true, if_false, Nat.reduceAdd, Option.bind_some, Nat.reduceBEq, Nat.reduceLeDiff, ka7_r]
    rw [List.take_length]
    first | exact ⟨rfl, rfl⟩ | exact rfl
  have hlt : j < l.length := by simpa using hlt
  have htk := cntL_take DOutgoing.cnt hlt
  have hle := cntL_le (c := DOutgoing.cnt) DOutgoing.cnt_nn hlt
  have hnn := cntL_nn (c := DOutgoing.cnt) DOutgoing.cnt_nn (l.take j)
  have hg := mkL_get DOutgoing.mk_ DOutgoing.cnt hlt k
  have hltM : j < M.length := by omega
  have i0 := idx_vm (β := β) (sz := 13) (ex := false) (ce := (DOutgoing.c β)) hltM
  rw [← hM, List.getElem?_eq_getElem hltM] at hg
  injection hg with hg
  rw [hg] at i0
  obtain ⟨x, hx⟩ : ∃ x, x = l[j] := ⟨_, rfl⟩
  try rw [← hx] at i0
  try rw [← hx] at htk hle
  obtain ⟨kj, hkj⟩ : ∃ kj, kj = k + cntL DOutgoing.cnt (l.take j) := ⟨_, rfl⟩
  rw [← hkj] at i0
  rw [← hkj]
  have hk0 : 0 ≤ kj := by omega
  have hkb : kj + DOutgoing.cnt x ≤ 9223372036854775000 := by omega
  have z0 := cntL_nn (c := DWire.cnt) DWire.cnt_nn x.message.args
  simp only [DOutgoing.cnt] at hkb
  have hox := ho _ (List.getElem_mem hlt); rw [← hx] at hox
  have w0 : IntKind.i64.wrap (kj + 1) = kj + 1 := (wrap_nat (by omega) (by omega)).trans (by omega)
  have w1 : IntKind.i64.wrap (kj + 1 + 1) = kj + 2 := (wrap_nat (by omega) (by omega)).trans (by omega)
  have w2 : IntKind.i64.wrap (kj + 2 + 1) = kj + 3 := (wrap_nat (by omega) (by omega)).trans (by omega)
  have w3 : IntKind.i64.wrap (kj + 3 + 1) = kj + 4 := (wrap_nat (by omega) (by omega)).trans (by omega)
  have w4 : IntKind.i64.wrap (kj + 4 + 1) = kj + 5 := (wrap_nat (by omega) (by omega)).trans (by omega)
  have w5 : IntKind.i64.wrap (kj + 5 + 1) = kj + 6 := (wrap_nat (by omega) (by omega)).trans (by omega)
  have y6 : decide (kj + 6 + cntL DWire.cnt x.message.args < 0) = false := by simp; omega
  have w7 : IntKind.i64.wrap (kj + 6 + cntL DWire.cnt x.message.args + 1) = kj + 7 + cntL DWire.cnt x.message.args := (wrap_nat (by omega) (by omega)).trans (by omega)
  have w8 : IntKind.i64.wrap (kj + 7 + cntL DWire.cnt x.message.args + 1) = kj + 8 + cntL DWire.cnt x.message.args := (wrap_nat (by omega) (by omega)).trans (by omega)
  have w9 : IntKind.i64.wrap (kj + 8 + cntL DWire.cnt x.message.args + 1) = kj + 9 + cntL DWire.cnt x.message.args := (wrap_nat (by omega) (by omega)).trans (by omega)
  have w10 : IntKind.i64.wrap (kj + 9 + cntL DWire.cnt x.message.args + 1) = kj + 10 + cntL DWire.cnt x.message.args := (wrap_nat (by omega) (by omega)).trans (by omega)
  have w11 : IntKind.i64.wrap (kj + 10 + cntL DWire.cnt x.message.args + 1) = kj + 11 + cntL DWire.cnt x.message.args := (wrap_nat (by omega) (by omega)).trans (by omega)
  have w12 : IntKind.i64.wrap (kj + 11 + cntL DWire.cnt x.message.args + 1) = kj + 12 + cntL DWire.cnt x.message.args := (wrap_nat (by omega) (by omega)).trans (by omega)
  simp only [EZM, q_bx, if_true, if_false, Nat.reduceAdd, Option.bind_some, Nat.reduceBEq, Nat.reduceLeDiff, ka7_r, ka7_d0_q, i0, DOutgoing.c, DOutgoing.mk_, bne_self_eq_false, beq_self_eq_true, w0, w1, w2, w3, w4, w5, y6, w7, w8, w9, w10, w11, w12]
  refine TCall.val (by simp only [EO]) (kbt_T (kj + 5) (by omega) (by omega) _) ?_
  simp only [EZM, q_bx, if_true, if_false, Nat.reduceAdd, Option.bind_some, Nat.reduceBEq, Nat.reduceLeDiff, ka7_r, ka7_d0_q, i0, DOutgoing.c, DOutgoing.mk_, bne_self_eq_false, beq_self_eq_true, w0, w1, w2, w3, w4, w5, y6, w7, w8, w9, w10, w11, w12]
  refine TCall.val (by simp only [EO]) (kbd_T β x.message.args (kj + 6) (by omega) (by omega) (hox.2) _) ?_
  simp only [EZM, q_bx, if_true, if_false, Nat.reduceAdd, Option.bind_some, Nat.reduceBEq, Nat.reduceLeDiff, ka7_r, ka7_d0_q, i0, DOutgoing.c, DOutgoing.mk_, bne_self_eq_false, beq_self_eq_true, w0, w1, w2, w3, w4, w5, y6, w7, w8, w9, w10, w11, w12]
  have hfin : k + cntL DOutgoing.cnt (l.take (j + 1)) = kj + 12 + cntL DWire.cnt x.message.args := by rw [htk]; simp only [DOutgoing.cnt]; omega
  exact ⟨j + 1, hlt, by omega, ⟨by rw [hfin, wN (by omega)]; (try simp [ka7_s0, LeL, LeV]), rfl, rfl⟩⟩
theorem kbc_T (β : Bool) (l : List DVat) (k : Int) (hk : 0 ≤ k) (hb : k + cntL DVat.cnt l ≤ 9223372036854775000) (hl : l.length ≤ 1073741824) (ho : ∀ x ∈ l, x.ok 1073741824) (h : AH) :
    T Tryz.prog Γ Fn.kbc [.vs β 5 false ((mkL DVat.mk_ DVat.cnt l k).map (DVat.c β)), .int .i64 k] h fun v h' => v = .int .i64 (k + cntL DVat.cnt l) ∧ h' = h := by
  obtain ⟨M, hM⟩ : ∃ M, M = mkL DVat.mk_ DVat.cnt l k := ⟨_, rfl⟩
  have hlen : M.length = l.length := by rw [hM]; exact mkL_len
  rw [← hM]
  have L0 := len_vm β 5 false M (DVat.c β)
  rw [hlen] at L0
  refine kbc_e (aw_sound tabOK mixed [] _ _ _ ?_)
  unfold kbc_c
  simp only [EZM, q_bx, if_true, if_false, Nat.reduceAdd, Option.bind_some, Nat.reduceBEq, Nat.reduceLeDiff, kbc_r]
  refine loopI tabOK mixed [] (fun j : Nat => j ≤ l.length) (fun j => l.length - j)
    (fun j => kbc_s0 (.vs β 5 false (M.map (DVat.c β))) (.int .i64 (k + cntL DVat.cnt (l.take j))) (.int .i64 j) [] h) 0 (by omega) ⟨by simp [kbc_s0, LeL, LeV, cntL], rfl, rfl⟩ ?_
  intro j hj
  simp only [EZM, q_bx, if_true, if_false, Nat.reduceAdd, Option.bind_some, Nat.reduceBEq, Nat.reduceLeDiff, kbc_r, kbc_s0, L0]
  refine c_split (fun hlt => ?_) (fun hge => ?_)
  rotate_left
  · have hge : j = l.length := by simp at hge; omega
    subst hge
    simp only [EZM, q_bx, if_true, if_false, Nat.reduceAdd, Option.bind_some, Nat.reduceBEq, Nat.reduceLeDiff, kbc_r]
    rw [List.take_length]
    first | exact ⟨rfl, rfl⟩ | exact rfl
  have hlt : j < l.length := by simpa using hlt
  have htk := cntL_take DVat.cnt hlt
  have hle := cntL_le (c := DVat.cnt) DVat.cnt_nn hlt
  have hnn := cntL_nn (c := DVat.cnt) DVat.cnt_nn (l.take j)
  have hg := mkL_get DVat.mk_ DVat.cnt hlt k
  have hltM : j < M.length := by omega
  have i0 := idx_vm (β := β) (sz := 5) (ex := false) (ce := (DVat.c β)) hltM
  rw [← hM, List.getElem?_eq_getElem hltM] at hg
  injection hg with hg
  rw [hg] at i0
  obtain ⟨x, hx⟩ : ∃ x, x = l[j] := ⟨_, rfl⟩
  try rw [← hx] at i0
  try rw [← hx] at htk hle
  obtain ⟨kj, hkj⟩ : ∃ kj, kj = k + cntL DVat.cnt (l.take j) := ⟨_, rfl⟩
  rw [← hkj] at i0
  rw [← hkj]
  have hk0 : 0 ≤ kj := by omega
  have hkb : kj + DVat.cnt x ≤ 9223372036854775000 := by omega
  have z0 := cntL_nn (c := DEntity.cnt) DEntity.cnt_nn x.entities
  have z1 := cntL_nn (c := DSent.cnt) DSent.cnt_nn x.loop
  have z2 := cntL_nn (c := DLink.cnt) DLink.cnt_nn x.links
  have z3 := cntL_nn (c := DOutgoing.cnt) DOutgoing.cnt_nn x.out
  simp only [DVat.cnt] at hkb
  have hox := ho _ (List.getElem_mem hlt); rw [← hx] at hox
  have w0 : IntKind.i64.wrap (kj + 1) = kj + 1 := (wrap_nat (by omega) (by omega)).trans (by omega)
  have y1 : decide (kj + 1 + cntL DEntity.cnt x.entities < 0) = false := by simp; omega
  have y2 : decide (kj + 1 + cntL DEntity.cnt x.entities + cntL DSent.cnt x.loop < 0) = false := by simp; omega
  have y3 : decide (kj + 1 + cntL DEntity.cnt x.entities + cntL DSent.cnt x.loop + cntL DLink.cnt x.links < 0) = false := by simp; omega
  have y4 : decide (kj + 1 + cntL DEntity.cnt x.entities + cntL DSent.cnt x.loop + cntL DLink.cnt x.links + cntL DOutgoing.cnt x.out < 0) = false := by simp; omega
  simp only [EZM, q_bx, if_true, if_false, Nat.reduceAdd, Option.bind_some, Nat.reduceBEq, Nat.reduceLeDiff, kbc_r, i0, DVat.c, DVat.mk_, bne_self_eq_false, beq_self_eq_true, w0, y1, y2, y3, y4]
  refine TCall.val (by simp only [EO]) (ka0_T β x.entities (kj + 1) (by omega) (by omega) (hox.1) (hox.2.1) _) ?_
  simp only [EZM, q_bx, if_true, if_false, Nat.reduceAdd, Option.bind_some, Nat.reduceBEq, Nat.reduceLeDiff, kbc_r, i0, DVat.c, DVat.mk_, bne_self_eq_false, beq_self_eq_true, w0, y1, y2, y3, y4]
  refine TCall.val (by simp only [EO]) (kba_T β x.loop (kj + 1 + cntL DEntity.cnt x.entities) (by omega) (by omega) (hox.2.2.1) (hox.2.2.2.1) _) ?_
  simp only [EZM, q_bx, if_true, if_false, Nat.reduceAdd, Option.bind_some, Nat.reduceBEq, Nat.reduceLeDiff, kbc_r, i0, DVat.c, DVat.mk_, bne_self_eq_false, beq_self_eq_true, w0, y1, y2, y3, y4]
  refine TCall.val (by simp only [EO]) (ka3_T β x.links (kj + 1 + cntL DEntity.cnt x.entities + cntL DSent.cnt x.loop) (by omega) (by omega) (hox.2.2.2.2.1) (hox.2.2.2.2.2.1) _) ?_
  simp only [EZM, q_bx, if_true, if_false, Nat.reduceAdd, Option.bind_some, Nat.reduceBEq, Nat.reduceLeDiff, kbc_r, i0, DVat.c, DVat.mk_, bne_self_eq_false, beq_self_eq_true, w0, y1, y2, y3, y4]
  refine TCall.val (by simp only [EO]) (ka7_T β x.out (kj + 1 + cntL DEntity.cnt x.entities + cntL DSent.cnt x.loop + cntL DLink.cnt x.links) (by omega) (by omega) (hox.2.2.2.2.2.2.1) (hox.2.2.2.2.2.2.2) _) ?_
  simp only [EZM, q_bx, if_true, if_false, Nat.reduceAdd, Option.bind_some, Nat.reduceBEq, Nat.reduceLeDiff, kbc_r, i0, DVat.c, DVat.mk_, bne_self_eq_false, beq_self_eq_true, w0, y1, y2, y3, y4]
  have hfin : k + cntL DVat.cnt (l.take (j + 1)) = kj + 1 + cntL DEntity.cnt x.entities + cntL DSent.cnt x.loop + cntL DLink.cnt x.links + cntL DOutgoing.cnt x.out := by rw [htk]; simp only [DVat.cnt]; omega
  exact ⟨j + 1, hlt, by omega, ⟨by rw [hfin, wN (by omega)]; (try simp [kbc_s0, LeL, LeV]), rfl, rfl⟩⟩
theorem ka2_T (β : Bool) (l : List DInstr) (k : Int) (hk : 0 ≤ k) (hb : k + cntL DInstr.cnt l ≤ 9223372036854775000) (hl : l.length ≤ 1073741824) (ho : ∀ x ∈ l, x.ok 1073741824) (h : AH) :
    T Tryz.prog Γ Fn.ka2 [.vs β 6 false ((mkL DInstr.mk_ DInstr.cnt l k).map (DInstr.c β)), .int .i64 k] h fun v h' => v = .int .i64 (k + cntL DInstr.cnt l) ∧ h' = h := by
  obtain ⟨M, hM⟩ : ∃ M, M = mkL DInstr.mk_ DInstr.cnt l k := ⟨_, rfl⟩
  have hlen : M.length = l.length := by rw [hM]; exact mkL_len
  rw [← hM]
  have L0 := len_vm β 6 false M (DInstr.c β)
  rw [hlen] at L0
  refine ka2_e (aw_sound tabOK mixed [] _ _ _ ?_)
  unfold ka2_c
  simp only [EZM, q_bx, if_true, if_false, Nat.reduceAdd, Option.bind_some, Nat.reduceBEq, Nat.reduceLeDiff, ka2_r]
  refine loopI tabOK mixed [] (fun j : Nat => j ≤ l.length) (fun j => l.length - j)
    (fun j => ka2_s0 (.vs β 6 false (M.map (DInstr.c β))) (.int .i64 (k + cntL DInstr.cnt (l.take j))) (.int .i64 j) [] h) 0 (by omega) ⟨by simp [ka2_s0, LeL, LeV, cntL], rfl, rfl⟩ ?_
  intro j hj
  simp only [EZM, q_bx, if_true, if_false, Nat.reduceAdd, Option.bind_some, Nat.reduceBEq, Nat.reduceLeDiff, ka2_r, ka2_s0, L0]
  refine c_split (fun hlt => ?_) (fun hge => ?_)
  rotate_left
  · have hge : j = l.length := by simp at hge; omega
    subst hge
    simp only [EZM, q_bx, if_true, if_false, Nat.reduceAdd, Option.bind_some, Nat.reduceBEq, Nat.reduceLeDiff, ka2_r]
    rw [List.take_length]
    first | exact ⟨rfl, rfl⟩ | exact rfl
  have hlt : j < l.length := by simpa using hlt
  have htk := cntL_take DInstr.cnt hlt
  have hle := cntL_le (c := DInstr.cnt) DInstr.cnt_nn hlt
  have hnn := cntL_nn (c := DInstr.cnt) DInstr.cnt_nn (l.take j)
  have hg := mkL_get DInstr.mk_ DInstr.cnt hlt k
  have hltM : j < M.length := by omega
  have i0 := idx_vm (β := β) (sz := 6) (ex := false) (ce := (DInstr.c β)) hltM
  rw [← hM, List.getElem?_eq_getElem hltM] at hg
  injection hg with hg
  rw [hg] at i0
  obtain ⟨x, hx⟩ : ∃ x, x = l[j] := ⟨_, rfl⟩
  try rw [← hx] at i0
  try rw [← hx] at htk hle
  obtain ⟨kj, hkj⟩ : ∃ kj, kj = k + cntL DInstr.cnt (l.take j) := ⟨_, rfl⟩
  rw [← hkj] at i0
  rw [← hkj]
  have hk0 : 0 ≤ kj := by omega
  have hkb : kj + DInstr.cnt x ≤ 9223372036854775000 := by omega
  simp only [DInstr.cnt] at hkb
  have hox := ho _ (List.getElem_mem hlt); rw [← hx] at hox
  have w0 : IntKind.i64.wrap (kj + 1) = kj + 1 := (wrap_nat (by omega) (by omega)).trans (by omega)
  have w1 : IntKind.i64.wrap (kj + 1 + 1) = kj + 2 := (wrap_nat (by omega) (by omega)).trans (by omega)
  have w2 : IntKind.i64.wrap (kj + 2 + 1) = kj + 3 := (wrap_nat (by omega) (by omega)).trans (by omega)
  have w3 : IntKind.i64.wrap (kj + 3 + 1) = kj + 4 := (wrap_nat (by omega) (by omega)).trans (by omega)
  have w4 : IntKind.i64.wrap (kj + 4 + 1) = kj + 5 := (wrap_nat (by omega) (by omega)).trans (by omega)
  have w5 : IntKind.i64.wrap (kj + 5 + 1) = kj + 6 := (wrap_nat (by omega) (by omega)).trans (by omega)
  simp only [EZM, q_bx, if_true, if_false, Nat.reduceAdd, Option.bind_some, Nat.reduceBEq, Nat.reduceLeDiff, ka2_r, ka2_d0_q, i0, DInstr.c, DInstr.mk_, bne_self_eq_false, beq_self_eq_true, w0, w1, w2, w3, w4, w5]
  refine TCall.val (by simp only [EO]) (kbt_T (kj + 5) (by omega) (by omega) _) ?_
  simp only [EZM, q_bx, if_true, if_false, Nat.reduceAdd, Option.bind_some, Nat.reduceBEq, Nat.reduceLeDiff, ka2_r, ka2_d0_q, i0, DInstr.c, DInstr.mk_, bne_self_eq_false, beq_self_eq_true, w0, w1, w2, w3, w4, w5]
  have hfin : k + cntL DInstr.cnt (l.take (j + 1)) = kj + 6 := by rw [htk]; simp only [DInstr.cnt]; omega
  exact ⟨j + 1, hlt, by omega, ⟨by rw [hfin, wN (by omega)]; (try simp [ka2_s0, LeL, LeV]), rfl, rfl⟩⟩
theorem ka5_T (β : Bool) (l : List DMethod) (k : Int) (hk : 0 ≤ k) (hb : k + cntL DMethod.cnt l ≤ 9223372036854775000) (hl : l.length ≤ 1073741824) (ho : ∀ x ∈ l, x.ok 1073741824) (h : AH) :
    T Tryz.prog Γ Fn.ka5 [.vs β 2 false ((mkL DMethod.mk_ DMethod.cnt l k).map (DMethod.c β)), .int .i64 k] h fun v h' => v = .int .i64 (k + cntL DMethod.cnt l) ∧ h' = h := by
  obtain ⟨M, hM⟩ : ∃ M, M = mkL DMethod.mk_ DMethod.cnt l k := ⟨_, rfl⟩
  have hlen : M.length = l.length := by rw [hM]; exact mkL_len
  rw [← hM]
  have L0 := len_vm β 2 false M (DMethod.c β)
  rw [hlen] at L0
  refine ka5_e (aw_sound tabOK mixed [] _ _ _ ?_)
  unfold ka5_c
  simp only [EZM, q_bx, if_true, if_false, Nat.reduceAdd, Option.bind_some, Nat.reduceBEq, Nat.reduceLeDiff, ka5_r]
  refine loopI tabOK mixed [] (fun j : Nat => j ≤ l.length) (fun j => l.length - j)
    (fun j => ka5_s0 (.vs β 2 false (M.map (DMethod.c β))) (.int .i64 (k + cntL DMethod.cnt (l.take j))) (.int .i64 j) [] h) 0 (by omega) ⟨by simp [ka5_s0, LeL, LeV, cntL], rfl, rfl⟩ ?_
  intro j hj
  simp only [EZM, q_bx, if_true, if_false, Nat.reduceAdd, Option.bind_some, Nat.reduceBEq, Nat.reduceLeDiff, ka5_r, ka5_s0, L0]
  refine c_split (fun hlt => ?_) (fun hge => ?_)
  rotate_left
  · have hge : j = l.length := by simp at hge; omega
    subst hge
    simp only [EZM, q_bx, if_true, if_false, Nat.reduceAdd, Option.bind_some, Nat.reduceBEq, Nat.reduceLeDiff, ka5_r]
    rw [List.take_length]
    first | exact ⟨rfl, rfl⟩ | exact rfl
  have hlt : j < l.length := by simpa using hlt
  have htk := cntL_take DMethod.cnt hlt
  have hle := cntL_le (c := DMethod.cnt) DMethod.cnt_nn hlt
  have hnn := cntL_nn (c := DMethod.cnt) DMethod.cnt_nn (l.take j)
  have hg := mkL_get DMethod.mk_ DMethod.cnt hlt k
  have hltM : j < M.length := by omega
  have i0 := idx_vm (β := β) (sz := 2) (ex := false) (ce := (DMethod.c β)) hltM
  rw [← hM, List.getElem?_eq_getElem hltM] at hg
  injection hg with hg
  rw [hg] at i0
  obtain ⟨x, hx⟩ : ∃ x, x = l[j] := ⟨_, rfl⟩
  try rw [← hx] at i0
  try rw [← hx] at htk hle
  obtain ⟨kj, hkj⟩ : ∃ kj, kj = k + cntL DMethod.cnt (l.take j) := ⟨_, rfl⟩
  rw [← hkj] at i0
  rw [← hkj]
  have hk0 : 0 ≤ kj := by omega
  have hkb : kj + DMethod.cnt x ≤ 9223372036854775000 := by omega
  have z0 := cntL_nn (c := DInstr.cnt) DInstr.cnt_nn x.code
  simp only [DMethod.cnt] at hkb
  have hox := ho _ (List.getElem_mem hlt); rw [← hx] at hox
  have w0 : IntKind.i64.wrap (kj + 1) = kj + 1 := (wrap_nat (by omega) (by omega)).trans (by omega)
  have y1 : decide (kj + 1 + cntL DInstr.cnt x.code < 0) = false := by simp; omega
  simp only [EZM, q_bx, if_true, if_false, Nat.reduceAdd, Option.bind_some, Nat.reduceBEq, Nat.reduceLeDiff, ka5_r, ka5_d0_q, i0, DMethod.c, DMethod.mk_, bne_self_eq_false, beq_self_eq_true, w0, y1]
  refine TCall.val (by simp only [EO]) (kbt_T (kj) (by omega) (by omega) _) ?_
  simp only [EZM, q_bx, if_true, if_false, Nat.reduceAdd, Option.bind_some, Nat.reduceBEq, Nat.reduceLeDiff, ka5_r, ka5_d0_q, i0, DMethod.c, DMethod.mk_, bne_self_eq_false, beq_self_eq_true, w0, y1]
  refine TCall.val (by simp only [EO]) (ka2_T β x.code (kj + 1) (by omega) (by omega) (hox.2.1) (hox.2.2) _) ?_
  simp only [EZM, q_bx, if_true, if_false, Nat.reduceAdd, Option.bind_some, Nat.reduceBEq, Nat.reduceLeDiff, ka5_r, ka5_d0_q, i0, DMethod.c, DMethod.mk_, bne_self_eq_false, beq_self_eq_true, w0, y1]
  have hfin : k + cntL DMethod.cnt (l.take (j + 1)) = kj + 1 + cntL DInstr.cnt x.code := by rw [htk]; simp only [DMethod.cnt]; omega
  exact ⟨j + 1, hlt, by omega, ⟨by rw [hfin, wN (by omega)]; (try simp [ka5_s0, LeL, LeV]), rfl, rfl⟩⟩
theorem ka9_T (β : Bool) (l : List DScript) (k : Int) (hk : 0 ≤ k) (hb : k + cntL DScript.cnt l ≤ 9223372036854775000) (hl : l.length ≤ 1073741824) (ho : ∀ x ∈ l, x.ok 1073741824) (h : AH) :
    T Tryz.prog Γ Fn.ka9 [.vs β 2 false ((mkL DScript.mk_ DScript.cnt l k).map (DScript.c β)), .int .i64 k] h fun v h' => v = .int .i64 (k + cntL DScript.cnt l) ∧ h' = h := by
  obtain ⟨M, hM⟩ : ∃ M, M = mkL DScript.mk_ DScript.cnt l k := ⟨_, rfl⟩
  have hlen : M.length = l.length := by rw [hM]; exact mkL_len
  rw [← hM]
  have L0 := len_vm β 2 false M (DScript.c β)
  rw [hlen] at L0
  refine ka9_e (aw_sound tabOK mixed [] _ _ _ ?_)
  unfold ka9_c
  simp only [EZM, q_bx, if_true, if_false, Nat.reduceAdd, Option.bind_some, Nat.reduceBEq, Nat.reduceLeDiff, ka9_r]
  refine loopI tabOK mixed [] (fun j : Nat => j ≤ l.length) (fun j => l.length - j)
    (fun j => ka9_s0 (.vs β 2 false (M.map (DScript.c β))) (.int .i64 (k + cntL DScript.cnt (l.take j))) (.int .i64 j) [] h) 0 (by omega) ⟨by simp [ka9_s0, LeL, LeV, cntL], rfl, rfl⟩ ?_
  intro j hj
  simp only [EZM, q_bx, if_true, if_false, Nat.reduceAdd, Option.bind_some, Nat.reduceBEq, Nat.reduceLeDiff, ka9_r, ka9_s0, L0]
  refine c_split (fun hlt => ?_) (fun hge => ?_)
  rotate_left
  · have hge : j = l.length := by simp at hge; omega
    subst hge
    simp only [EZM, q_bx, if_true, if_false, Nat.reduceAdd, Option.bind_some, Nat.reduceBEq, Nat.reduceLeDiff, ka9_r]
    rw [List.take_length]
    first | exact ⟨rfl, rfl⟩ | exact rfl
  have hlt : j < l.length := by simpa using hlt
  have htk := cntL_take DScript.cnt hlt
  have hle := cntL_le (c := DScript.cnt) DScript.cnt_nn hlt
  have hnn := cntL_nn (c := DScript.cnt) DScript.cnt_nn (l.take j)
  have hg := mkL_get DScript.mk_ DScript.cnt hlt k
  have hltM : j < M.length := by omega
  have i0 := idx_vm (β := β) (sz := 2) (ex := false) (ce := (DScript.c β)) hltM
  rw [← hM, List.getElem?_eq_getElem hltM] at hg
  injection hg with hg
  rw [hg] at i0
  obtain ⟨x, hx⟩ : ∃ x, x = l[j] := ⟨_, rfl⟩
  try rw [← hx] at i0
  try rw [← hx] at htk hle
  obtain ⟨kj, hkj⟩ : ∃ kj, kj = k + cntL DScript.cnt (l.take j) := ⟨_, rfl⟩
  rw [← hkj] at i0
  rw [← hkj]
  have hk0 : 0 ≤ kj := by omega
  have hkb : kj + DScript.cnt x ≤ 9223372036854775000 := by omega
  have z0 := cntL_nn (c := DMethod.cnt) DMethod.cnt_nn x.methods
  simp only [DScript.cnt] at hkb
  have hox := ho _ (List.getElem_mem hlt); rw [← hx] at hox
  have w0 : IntKind.i64.wrap (kj + 1) = kj + 1 := (wrap_nat (by omega) (by omega)).trans (by omega)
  have y1 : decide (kj + 1 + cntL DMethod.cnt x.methods < 0) = false := by simp; omega
  simp only [EZM, q_bx, if_true, if_false, Nat.reduceAdd, Option.bind_some, Nat.reduceBEq, Nat.reduceLeDiff, ka9_r, ka9_d0_q, i0, DScript.c, DScript.mk_, bne_self_eq_false, beq_self_eq_true, w0, y1]
  refine TCall.val (by simp only [EO]) (kbt_T (kj) (by omega) (by omega) _) ?_
  simp only [EZM, q_bx, if_true, if_false, Nat.reduceAdd, Option.bind_some, Nat.reduceBEq, Nat.reduceLeDiff, ka9_r, ka9_d0_q, i0, DScript.c, DScript.mk_, bne_self_eq_false, beq_self_eq_true, w0, y1]
  refine TCall.val (by simp only [EO]) (ka5_T β x.methods (kj + 1) (by omega) (by omega) (hox.2.1) (hox.2.2) _) ?_
  simp only [EZM, q_bx, if_true, if_false, Nat.reduceAdd, Option.bind_some, Nat.reduceBEq, Nat.reduceLeDiff, ka9_r, ka9_d0_q, i0, DScript.c, DScript.mk_, bne_self_eq_false, beq_self_eq_true, w0, y1]
  have hfin : k + cntL DScript.cnt (l.take (j + 1)) = kj + 1 + cntL DMethod.cnt x.methods := by rw [htk]; simp only [DScript.cnt]; omega
  exact ⟨j + 1, hlt, by omega, ⟨by rw [hfin, wN (by omega)]; (try simp [ka9_s0, LeL, LeV]), rfl, rfl⟩⟩
theorem kaZ_T (β : Bool) (l : List DChannel) (k : Int) (hk : 0 ≤ k) (hb : k + cntL DChannel.cnt l ≤ 9223372036854775000) (hl : l.length ≤ 1073741824) (ho : ∀ x ∈ l, x.ok 1073741824) (h : AH) :
    T Tryz.prog Γ Fn.kaZ [.vs β 3 false ((mkL DChannel.mk_ DChannel.cnt l k).map (DChannel.c β)), .int .i64 k] h fun v h' => v = .int .i64 (k + cntL DChannel.cnt l) ∧ h' = h := by
  obtain ⟨M, hM⟩ : ∃ M, M = mkL DChannel.mk_ DChannel.cnt l k := ⟨_, rfl⟩
  have hlen : M.length = l.length := by rw [hM]; exact mkL_len
  rw [← hM]
  have L0 := len_vm β 3 false M (DChannel.c β)
  rw [hlen] at L0
  refine kaZ_e (aw_sound tabOK mixed [] _ _ _ ?_)
  unfold kaZ_c
  simp only [EZM, q_bx, if_true, if_false, Nat.reduceAdd, Option.bind_some, Nat.reduceBEq, Nat.reduceLeDiff, kaZ_r]
  refine loopI tabOK mixed [] (fun j : Nat => j ≤ l.length) (fun j => l.length - j)
    (fun j => kaZ_s0 (.vs β 3 false (M.map (DChannel.c β))) (.int .i64 (k + cntL DChannel.cnt (l.take j))) (.int .i64 j) [] h) 0 (by omega) ⟨by simp [kaZ_s0, LeL, LeV, cntL], rfl, rfl⟩ ?_
  intro j hj
  simp only [EZM, q_bx, if_true, if_false, Nat.reduceAdd, Option.bind_some, Nat.reduceBEq, Nat.reduceLeDiff, kaZ_r, kaZ_s0, L0]
  refine c_split (fun hlt => ?_) (fun hge => ?_)
  rotate_left
  · have hge : j = l.length := by simp at hge; omega
    subst hge
    simp only [EZM, q_bx, if_true, if_false, Nat.reduceAdd, Option.bind_some, Nat.reduceBEq, Nat.reduceLeDiff, kaZ_r]
    rw [List.take_length]
    first | exact ⟨rfl, rfl⟩ | exact rfl
  have hlt : j < l.length := by simpa using hlt
  have htk := cntL_take DChannel.cnt hlt
  have hle := cntL_le (c := DChannel.cnt) DChannel.cnt_nn hlt
  have hnn := cntL_nn (c := DChannel.cnt) DChannel.cnt_nn (l.take j)
  have hg := mkL_get DChannel.mk_ DChannel.cnt hlt k
  have hltM : j < M.length := by omega
  have i0 := idx_vm (β := β) (sz := 3) (ex := false) (ce := (DChannel.c β)) hltM
  rw [← hM, List.getElem?_eq_getElem hltM] at hg
  injection hg with hg
  rw [hg] at i0
  obtain ⟨x, hx⟩ : ∃ x, x = l[j] := ⟨_, rfl⟩
  try rw [← hx] at i0
  try rw [← hx] at htk hle
  obtain ⟨kj, hkj⟩ : ∃ kj, kj = k + cntL DChannel.cnt (l.take j) := ⟨_, rfl⟩
  rw [← hkj] at i0
  rw [← hkj]
  have hk0 : 0 ≤ kj := by omega
  have hkb : kj + DChannel.cnt x ≤ 9223372036854775000 := by omega
  have z0 := cntL_nn (c := DMessage.cnt) DMessage.cnt_nn x.list
  simp only [DChannel.cnt] at hkb
  have hox := ho _ (List.getElem_mem hlt); rw [← hx] at hox
  have w0 : IntKind.i64.wrap (kj + 1) = kj + 1 := (wrap_nat (by omega) (by omega)).trans (by omega)
  have w1 : IntKind.i64.wrap (kj + 1 + 1) = kj + 2 := (wrap_nat (by omega) (by omega)).trans (by omega)
  have y2 : decide (kj + 2 + cntL DMessage.cnt x.list < 0) = false := by simp; omega
  simp only [EZM, q_bx, if_true, if_false, Nat.reduceAdd, Option.bind_some, Nat.reduceBEq, Nat.reduceLeDiff, kaZ_r, i0, DChannel.c, DChannel.mk_, bne_self_eq_false, beq_self_eq_true, w0, w1, y2]
  refine TCall.val (by simp only [EO]) (ka4_T β x.list (kj + 2) (by omega) (by omega) (hox.1) (hox.2) _) ?_
  simp only [EZM, q_bx, if_true, if_false, Nat.reduceAdd, Option.bind_some, Nat.reduceBEq, Nat.reduceLeDiff, kaZ_r, i0, DChannel.c, DChannel.mk_, bne_self_eq_false, beq_self_eq_true, w0, w1, y2]
  have hfin : k + cntL DChannel.cnt (l.take (j + 1)) = kj + 2 + cntL DMessage.cnt x.list := by rw [htk]; simp only [DChannel.cnt]; omega
  exact ⟨j + 1, hlt, by omega, ⟨by rw [hfin, wN (by omega)]; (try simp [kaZ_s0, LeL, LeV]), rfl, rfl⟩⟩
theorem ka6_T (β : Bool) (l : List DNote) (k : Int) (hk : 0 ≤ k) (hb : k + cntL DNote.cnt l ≤ 9223372036854775000) (hl : l.length ≤ 1073741824) (h : AH) :
    T Tryz.prog Γ Fn.ka6 [.vs β 6 false ((mkL DNote.mk_ DNote.cnt l k).map (DNote.c β)), .int .i64 k] h fun v h' => v = .int .i64 (k + cntL DNote.cnt l) ∧ h' = h := by
  obtain ⟨M, hM⟩ : ∃ M, M = mkL DNote.mk_ DNote.cnt l k := ⟨_, rfl⟩
  have hlen : M.length = l.length := by rw [hM]; exact mkL_len
  rw [← hM]
  have L0 := len_vm β 6 false M (DNote.c β)
  rw [hlen] at L0
  refine ka6_e (aw_sound tabOK mixed [] _ _ _ ?_)
  unfold ka6_c
  simp only [EZM, q_bx, if_true, if_false, Nat.reduceAdd, Option.bind_some, Nat.reduceBEq, Nat.reduceLeDiff, ka6_r]
  refine loopI tabOK mixed [] (fun j : Nat => j ≤ l.length) (fun j => l.length - j)
    (fun j => ka6_s0 (.vs β 6 false (M.map (DNote.c β))) (.int .i64 (k + cntL DNote.cnt (l.take j))) (.int .i64 j) [] h) 0 (by omega) ⟨by simp [ka6_s0, LeL, LeV, cntL], rfl, rfl⟩ ?_
  intro j hj
  simp only [EZM, q_bx, if_true, if_false, Nat.reduceAdd, Option.bind_some, Nat.reduceBEq, Nat.reduceLeDiff, ka6_r, ka6_s0, L0]
  refine c_split (fun hlt => ?_) (fun hge => ?_)
  rotate_left
  · have hge : j = l.length := by simp at hge; omega
    subst hge
    simp only [EZM, q_bx, if_true, if_false, Nat.reduceAdd, Option.bind_some, Nat.reduceBEq, Nat.reduceLeDiff, ka6_r]
    rw [List.take_length]
    first | exact ⟨rfl, rfl⟩ | exact rfl
  have hlt : j < l.length := by simpa using hlt
  have htk := cntL_take DNote.cnt hlt
  have hle := cntL_le (c := DNote.cnt) DNote.cnt_nn hlt
  have hnn := cntL_nn (c := DNote.cnt) DNote.cnt_nn (l.take j)
  have hg := mkL_get DNote.mk_ DNote.cnt hlt k
  have hltM : j < M.length := by omega
  have i0 := idx_vm (β := β) (sz := 6) (ex := false) (ce := (DNote.c β)) hltM
  rw [← hM, List.getElem?_eq_getElem hltM] at hg
  injection hg with hg
  rw [hg] at i0
  obtain ⟨x, hx⟩ : ∃ x, x = l[j] := ⟨_, rfl⟩
  try rw [← hx] at i0
  try rw [← hx] at htk hle
  obtain ⟨kj, hkj⟩ : ∃ kj, kj = k + cntL DNote.cnt (l.take j) := ⟨_, rfl⟩
  rw [← hkj] at i0
  rw [← hkj]
  have hk0 : 0 ≤ kj := by omega
  have hkb : kj + DNote.cnt x ≤ 9223372036854775000 := by omega
  simp only [DNote.cnt] at hkb
  have w0 : IntKind.i64.wrap (kj + 1) = kj + 1 := (wrap_nat (by omega) (by omega)).trans (by omega)
  have w1 : IntKind.i64.wrap (kj + 1 + 1) = kj + 2 := (wrap_nat (by omega) (by omega)).trans (by omega)
  have w2 : IntKind.i64.wrap (kj + 2 + 1) = kj + 3 := (wrap_nat (by omega) (by omega)).trans (by omega)
  have w3 : IntKind.i64.wrap (kj + 3 + 1) = kj + 4 := (wrap_nat (by omega) (by omega)).trans (by omega)
  have w4 : IntKind.i64.wrap (kj + 4 + 1) = kj + 5 := (wrap_nat (by omega) (by omega)).trans (by omega)
  have w5 : IntKind.i64.wrap (kj + 5 + 1) = kj + 6 := (wrap_nat (by omega) (by omega)).trans (by omega)
  simp only [EZM, q_bx, if_true, if_false, Nat.reduceAdd, Option.bind_some, Nat.reduceBEq, Nat.reduceLeDiff, ka6_r, i0, DNote.c, DNote.mk_, bne_self_eq_false, beq_self_eq_true, w0, w1, w2, w3, w4, w5]
  have hfin : k + cntL DNote.cnt (l.take (j + 1)) = kj + 6 := by rw [htk]; simp only [DNote.cnt]; omega
  exact ⟨j + 1, hlt, by omega, ⟨by rw [hfin, wN (by omega)]; (try simp [ka6_s0, LeL, LeV]), rfl, rfl⟩⟩
theorem kbl_T (x : DMessage) (k : Int) (hk : 0 ≤ k) (hb : k + x.cntA ≤ 9223372036854775000) (hx : x.ok 1073741824) (H : AH) {aa : List AV} {fp : List Nat} (o : OwnL H aa x.cd fp) (nd : fp.Nodup) :
    T Tryz.prog Γ Fn.kbl [.agg aa, .int .i64 k] H fun v h' => v = .int .i64 (k + x.cntA) ∧ (h'.length = H.length ∧ (∀ c, c ∉ fp → h'[c]? = H[c]?) ∧ OwnL h' aa (x.mkA k).cd fp) := by
  have z0 := cntL_nn (c := DWire.cnt) DWire.cnt_nn x.args
  simp only [DMessage.cntA] at hb
  simp only [DMessage.cd, ownL_c, ownL_n, own_i, own_b, own_s] at o
  obtain ⟨_, _, _, _, rfl, e0z, ⟨rfl, rfl⟩, ⟨_, _, _, _, rfl, e1z, ⟨rfl, rfl⟩, ⟨_, _, _, _, rfl, e2z, ⟨rfl, rfl⟩, ⟨_, _, _, _, rfl, e3z, ⟨rfl, rfl⟩, ⟨_, _, _, _, rfl, e4z, ⟨rfl, rfl⟩, ⟨a5, _, g5, _, rfl, e5z, u5, ⟨_, _, _, _, rfl, e6z, ⟨rfl, rfl⟩, ⟨_, _, _, _, rfl, e7z, ⟨rfl, rfl⟩, ⟨_, _, _, _, rfl, e8z, ⟨rfl, rfl⟩, ⟨_, _, _, _, rfl, e9z, ⟨rfl, rfl⟩, ⟨_, _, _, _, rfl, e10z, ⟨rfl, rfl⟩, ⟨_, _, _, _, rfl, e11z, ⟨rfl, rfl⟩, ⟨rfl, e12z⟩⟩⟩⟩⟩⟩⟩⟩⟩⟩⟩⟩⟩ := o
  have hfxe : fp = (g5 ++ []) := by rw [e0z, e1z, e2z, e3z, e4z, e5z, e6z, e7z, e8z, e9z, e10z, e11z, e12z]; simp
  have ow : OwnL H [a5] [(.sl 2 (x.args.map DWire.cd))] fp := by rw [hfxe]; exact (.o u5 .nil)
  obtain ⟨c5a, c5b, c5c, c5d⟩ := u5.cell
  clear e0z e1z e2z e3z e4z e5z e6z e7z e8z e9z e10z e11z e12z hfxe
  have fr0 : ∀ c, c ∉ fp → H[c]? = H[c]? := fun _ _ => rfl
  have len0 : H.length = H.length := rfl
  refine kbl_e (aw_sound tabOK mixed [] _ _ _ ?_)
  unfold kbl_c
  simp only [EZM, q_bx, if_true, if_false, Nat.reduceAdd, Option.bind_some, Nat.reduceBEq, Nat.reduceLeDiff, kbl_r, c5a, c5b, c5c, EB2]
  obtain ⟨gi0, oi0, ni0, si0, bk0⟩ := OwnL.pick (A := []) (D := []) rfl ow nd
  refine TCall.ref (by simp only [EO, c5d]) (kbw_T x.args (k) (by omega) (by omega) (hx.2) _ oi0 ni0) ?_
  rintro _ h0 ⟨rfl, hlen0, hfr0, un0⟩
  replace ow := bk0 h0 _ hfr0 un0
  have fr1 : ∀ c, c ∉ fp → h0[c]? = H[c]? := fun c hc => (hfr0 c (fun h => hc (si0 c h))).trans (fr0 c hc)
  have len1 : h0.length = H.length := hlen0.trans len0
  simp only [EZM, q_bx, if_true, if_false, Nat.reduceAdd, Option.bind_some, Nat.reduceBEq, Nat.reduceLeDiff, kbl_r, c5a, c5b, c5c, EB2]
  refine ⟨rfl, by simp only [DMessage.cntA, Int.zero_add, Int.add_assoc], ?_⟩
  refine ⟨len1, fr1, ?_⟩
  obtain ⟨F0, R0, E0, O0, hz⟩ := ow
  have hz : R0 = [] := hz
  rw [E0, hz]; exact (.i (.i (.i (.i (.s (.o O0 (.i (.i (.i (.i (.i (.i .nil))))))))))))
theorem kbx_T (x : DWorld) (k : Int) (hk : 0 ≤ k) (hb : k + x.cntA ≤ 9223372036854775000) (hx : x.ok 1073741824) (H : AH) {aa : List AV} {fp : List Nat} (o : OwnL H aa x.cd fp) (nd : fp.Nodup) :
    T Tryz.prog Γ Fn.kbx [.agg aa, .int .i64 k] H fun v h' => v = .int .i64 (k + x.cntA) ∧ (h'.length = H.length ∧ (∀ c, c ∉ fp → h'[c]? = H[c]?) ∧ OwnL h' aa (x.mkA k).cd fp) := by
  have z0 := cntL_nn (c := DScript.cnt) DScript.cnt_nn x.library
  have z1 := cntL_nn (c := DVat.cnt) DVat.cnt_nn x.vats
  have z2 := cntL_nn (c := DChannel.cnt) DChannel.cnt_nn x.channels
  have z3 := cntL_nn (c := DNote.cnt) DNote.cnt_nn x.notes
  simp only [DWorld.cntA] at hb
  simp only [DWorld.cd, ownL_c, ownL_n, own_i, own_b, own_s] at o
  obtain ⟨a0, _, g0, _, rfl, e0z, u0, ⟨a1, _, g1, _, rfl, e1z, u1, ⟨a2, _, g2, _, rfl, e2z, u2, ⟨a3, _, g3, _, rfl, e3z, u3, ⟨_, _, _, _, rfl, e4z, ⟨rfl, rfl⟩, ⟨rfl, e5z⟩⟩⟩⟩⟩⟩ := o
  have hfxe : fp = (g0 ++ (g1 ++ (g2 ++ (g3 ++ [])))) := by rw [e0z, e1z, e2z, e3z, e4z, e5z]; simp
  have ow : OwnL H [a0, a1, a2, a3] [(.sl 2 (x.library.map DScript.cd)), (.sl 5 (x.vats.map DVat.cd)), (.sl 3 (x.channels.map DChannel.cd)), (.sl 6 (x.notes.map DNote.cd))] fp := by rw [hfxe]; exact (.o u0 (.o u1 (.o u2 (.o u3 .nil))))
  obtain ⟨c0a, c0b, c0c, c0d⟩ := u0.cell
  obtain ⟨c1a, c1b, c1c, c1d⟩ := u1.cell
  obtain ⟨c2a, c2b, c2c, c2d⟩ := u2.cell
  obtain ⟨c3a, c3b, c3c, c3d⟩ := u3.cell
  clear e0z e1z e2z e3z e4z e5z hfxe
  have fr0 : ∀ c, c ∉ fp → H[c]? = H[c]? := fun _ _ => rfl
  have len0 : H.length = H.length := rfl
  refine kbx_e (aw_sound tabOK mixed [] _ _ _ ?_)
  unfold kbx_c
  simp only [EZM, q_bx, if_true, if_false, Nat.reduceAdd, Option.bind_some, Nat.reduceBEq, Nat.reduceLeDiff, kbx_r, c0a, c0b, c0c, c1a, c1b, c1c, c2a, c2b, c2c, c3a, c3b, c3c, EB2]
  obtain ⟨gi0, oi0, ni0, si0, bk0⟩ := OwnL.pick (A := []) (D := []) rfl ow nd
  refine TCall.ref (by simp only [EO, c0d]) (kbr_T x.library (k) (by omega) (by omega) (hx.1) (hx.2.1) _ oi0 ni0) ?_
  rintro _ h0 ⟨rfl, hlen0, hfr0, un0⟩
  replace ow := bk0 h0 _ hfr0 un0
  have fr1 : ∀ c, c ∉ fp → h0[c]? = H[c]? := fun c hc => (hfr0 c (fun h => hc (si0 c h))).trans (fr0 c hc)
  have len1 : h0.length = H.length := hlen0.trans len0
  simp only [EZM, q_bx, if_true, if_false, Nat.reduceAdd, Option.bind_some, Nat.reduceBEq, Nat.reduceLeDiff, kbx_r, c0a, c0b, c0c, c1a, c1b, c1c, c2a, c2b, c2c, c3a, c3b, c3c, EB2]
  obtain ⟨gi1, oi1, ni1, si1, bk1⟩ := OwnL.pick (A := [a0]) (D := [_]) rfl ow nd
  refine TCall.ref (by simp only [EO, c1d]) (kbv_T x.vats (k + cntL DScript.cnt x.library) (by omega) (by omega) (hx.2.2.1) (hx.2.2.2.1) _ oi1 ni1) ?_
  rintro _ h1 ⟨rfl, hlen1, hfr1, un1⟩
  replace ow := bk1 h1 _ hfr1 un1
  have fr2 : ∀ c, c ∉ fp → h1[c]? = H[c]? := fun c hc => (hfr1 c (fun h => hc (si1 c h))).trans (fr1 c hc)
  have len2 : h1.length = H.length := hlen1.trans len1
  simp only [EZM, q_bx, if_true, if_false, Nat.reduceAdd, Option.bind_some, Nat.reduceBEq, Nat.reduceLeDiff, kbx_r, c0a, c0b, c0c, c1a, c1b, c1c, c2a, c2b, c2c, c3a, c3b, c3c, EB2]
  obtain ⟨gi2, oi2, ni2, si2, bk2⟩ := OwnL.pick (A := [a0, a1]) (D := [_, _]) rfl ow nd
  refine TCall.ref (by simp only [EO, c2d]) (kbg_T x.channels (k + cntL DScript.cnt x.library + cntL DVat.cnt x.vats) (by omega) (by omega) (hx.2.2.2.2.1) (hx.2.2.2.2.2.1) _ oi2 ni2) ?_
  rintro _ h2 ⟨rfl, hlen2, hfr2, un2⟩
  replace ow := bk2 h2 _ hfr2 un2
  have fr3 : ∀ c, c ∉ fp → h2[c]? = H[c]? := fun c hc => (hfr2 c (fun h => hc (si2 c h))).trans (fr2 c hc)
  have len3 : h2.length = H.length := hlen2.trans len2
  simp only [EZM, q_bx, if_true, if_false, Nat.reduceAdd, Option.bind_some, Nat.reduceBEq, Nat.reduceLeDiff, kbx_r, c0a, c0b, c0c, c1a, c1b, c1c, c2a, c2b, c2c, c3a, c3b, c3c, EB2]
  obtain ⟨gi3, oi3, ni3, si3, bk3⟩ := OwnL.pick (A := [a0, a1, a2]) (D := [_, _, _]) rfl ow nd
  refine TCall.ref (by simp only [EO, c3d]) (kbo_T x.notes (k + cntL DScript.cnt x.library + cntL DVat.cnt x.vats + cntL DChannel.cnt x.channels) (by omega) (by omega) (hx.2.2.2.2.2.2) _ oi3 ni3) ?_
  rintro _ h3 ⟨rfl, hlen3, hfr3, un3⟩
  replace ow := bk3 h3 _ hfr3 un3
  have fr4 : ∀ c, c ∉ fp → h3[c]? = H[c]? := fun c hc => (hfr3 c (fun h => hc (si3 c h))).trans (fr3 c hc)
  have len4 : h3.length = H.length := hlen3.trans len3
  simp only [EZM, q_bx, if_true, if_false, Nat.reduceAdd, Option.bind_some, Nat.reduceBEq, Nat.reduceLeDiff, kbx_r, c0a, c0b, c0c, c1a, c1b, c1c, c2a, c2b, c2c, c3a, c3b, c3c, EB2]
  refine ⟨rfl, by simp only [DWorld.cntA, Int.zero_add, Int.add_assoc], ?_⟩
  refine ⟨len4, fr4, ?_⟩
  obtain ⟨F0, R0, E0, O0, ⟨F1, R1, E1, O1, ⟨F2, R2, E2, O2, ⟨F3, R3, E3, O3, hz⟩⟩⟩⟩ := ow
  have hz : R3 = [] := hz
  rw [E0, E1, E2, E3, hz]; exact (.o O0 (.o O1 (.o O2 (.o O3 (.i .nil)))))
theorem kbe_T (β : Bool) (x : DWorld) (k : Int) (hk : 0 ≤ k) (hb : k + x.cntA ≤ 9223372036854775000) (hx : x.ok 1073741824) (h : AH) :
    T Tryz.prog Γ Fn.kbe [.agg ((x.mkA k).c β), .int .i64 k] h fun v h' => v = .int .i64 (k + x.cntA) ∧ h' = h := by
  have z0 := cntL_nn (c := DScript.cnt) DScript.cnt_nn x.library
  have z1 := cntL_nn (c := DVat.cnt) DVat.cnt_nn x.vats
  have z2 := cntL_nn (c := DChannel.cnt) DChannel.cnt_nn x.channels
  have z3 := cntL_nn (c := DNote.cnt) DNote.cnt_nn x.notes
  simp only [DWorld.cntA] at hb
  have y0 : decide (k + cntL DScript.cnt x.library < 0) = false := by simp; omega
  have y1 : decide (k + cntL DScript.cnt x.library + cntL DVat.cnt x.vats < 0) = false := by simp; omega
  have y2 : decide (k + cntL DScript.cnt x.library + cntL DVat.cnt x.vats + cntL DChannel.cnt x.channels < 0) = false := by simp; omega
  have y3 : decide (k + cntL DScript.cnt x.library + cntL DVat.cnt x.vats + cntL DChannel.cnt x.channels + cntL DNote.cnt x.notes < 0) = false := by simp; omega
  refine kbe_e (aw_sound tabOK mixed [] _ _ _ ?_)
  unfold kbe_c
  simp only [EZM, q_bx, if_true, if_false, Nat.reduceAdd, Option.bind_some, Nat.reduceBEq, Nat.reduceLeDiff, kbe_r, DWorld.c, DWorld.mkA, EB2, y0, y1, y2, y3]
  refine TCall.val (by simp only [EO]) (ka9_T β x.library (k) (by omega) (by omega) (hx.1) (hx.2.1) _) ?_
  simp only [EZM, q_bx, if_true, if_false, Nat.reduceAdd, Option.bind_some, Nat.reduceBEq, Nat.reduceLeDiff, kbe_r, DWorld.c, DWorld.mkA, EB2, y0, y1, y2, y3]
  refine TCall.val (by simp only [EO]) (kbc_T β x.vats (k + cntL DScript.cnt x.library) (by omega) (by omega) (hx.2.2.1) (hx.2.2.2.1) _) ?_
  simp only [EZM, q_bx, if_true, if_false, Nat.reduceAdd, Option.bind_some, Nat.reduceBEq, Nat.reduceLeDiff, kbe_r, DWorld.c, DWorld.mkA, EB2, y0, y1, y2, y3]
  refine TCall.val (by simp only [EO]) (kaZ_T β x.channels (k + cntL DScript.cnt x.library + cntL DVat.cnt x.vats) (by omega) (by omega) (hx.2.2.2.2.1) (hx.2.2.2.2.2.1) _) ?_
  simp only [EZM, q_bx, if_true, if_false, Nat.reduceAdd, Option.bind_some, Nat.reduceBEq, Nat.reduceLeDiff, kbe_r, DWorld.c, DWorld.mkA, EB2, y0, y1, y2, y3]
  refine TCall.val (by simp only [EO]) (ka6_T β x.notes (k + cntL DScript.cnt x.library + cntL DVat.cnt x.vats + cntL DChannel.cnt x.channels) (by omega) (by omega) (hx.2.2.2.2.2.2) _) ?_
  simp only [EZM, q_bx, if_true, if_false, Nat.reduceAdd, Option.bind_some, Nat.reduceBEq, Nat.reduceLeDiff, kbe_r, DWorld.c, DWorld.mkA, EB2, y0, y1, y2, y3]
  refine ⟨rfl, ?_⟩; simp only [DWorld.cntA, Int.zero_add, Int.add_assoc]
end Go.Proofs.YtleddolmolkpfaaGreat
