import Derived.Test.YtccjhmhkfnnmaaaGreatR6H
import Derived.Test.YtccjhmhkfnnmaaaGreatAmApp2
set_option linter.unusedVariables false
set_option linter.unusedSimpArgs false
namespace Go.Proofs.YtccjhmhkfnnmaaaGreat
open Go.AM
set_option linter.unusedVariables false
set_option linter.unusedSimpArgs false
set_option maxHeartbeats 1000000
theorem EZM : type_of% (And.intro EV (And.intro EL (And.intro EB (And.intro EF (And.intro EM (And.intro @Bool.false_eq_true (And.intro @Bool.not_true (And.intro @Bool.not_false (And.intro @nn_b (And.intro @nn_s (@nn_i))))))))))) := And.intro EV (And.intro EL (And.intro EB (And.intro EF (And.intro EM (And.intro @Bool.false_eq_true (And.intro @Bool.not_true (And.intro @Bool.not_false (And.intro @nn_b (And.intro @nn_s (@nn_i))))))))))
variable {Γ : Glob}
theorem kaT_T (k : Int) (hk : 0 ≤ k) (hb : k ≤ 9223372036854775000) (h : AH) : T Tryz.prog Γ Fn.kaT [.int .i64 k] h fun v h' => v = .str (markT k) ∧ h' = h := by
  refine (?_ : T Tryz.prog Γ Fn.kaT _ h fun v h' => v = .str (markT k) ∧ ∃ N, h' = h ++ N).drop (by rintro v h' ⟨rfl, N, rfl⟩; exact ⟨N, rfl, .str _, rfl, rfl⟩)
  refine kaT_e (aw_sound tabOK mixed [] _ _ _ ?_)
  unfold kaT_c
  simp only [EZM, q_bx, if_true, if_false, Nat.reduceAdd, Option.bind_some, Nat.reduceBEq, Nat.reduceLeDiff, kaT_r]
  by_cases h0 : k ≤ 0
  · simp only [EZM, q_bx, if_true, if_false, Nat.reduceAdd, Option.bind_some, Nat.reduceBEq, Nat.reduceLeDiff, kaT_r, decide_eq_true h0]
    exact ⟨rfl, by rw [markT, if_pos h0], [], by simp⟩
  simp only [EZM, q_bx, if_true, if_false, Nat.reduceAdd, Option.bind_some, Nat.reduceBEq, Nat.reduceLeDiff, kaT_r, decide_eq_false h0]
  have hm : markT k = ⟨#[109]⟩ ++ digN k.toNat ⟨#[]⟩ := by rw [markT, if_neg h0]
  refine loopI tabOK mixed [] (fun x : Nat × ByteArray × AH => digN k.toNat ⟨#[]⟩ = digN x.1 x.2.1 ∧ x.1 + x.2.1.size ≤ 9223372036854775000 ∧ ∃ N, x.2.2 = h ++ N) (fun x => x.1)
    (fun x => kaT_s0 (.int .i64 x.1) (.str x.2.1) [] x.2.2) (k.toNat, ⟨#[]⟩, h) ⟨rfl, (by simp only [show (ByteArray.mk #[]).size = 0 from rfl]; omega), [], by simp⟩ ⟨by
      have : ((k.toNat : Nat) : Int) = k := by omega
      simp [kaT_s0, LeL, LeV, this], rfl, rfl⟩ ?_
  rintro ⟨n, s, H⟩ ⟨hI, hs, N, hN⟩
  simp only at hI hs hN
  simp only [EZM, q_bx, if_true, if_false, Nat.reduceAdd, Option.bind_some, Nat.reduceBEq, Nat.reduceLeDiff, kaT_s0]
  by_cases hn : (0 : Int) < (n : Int)
  rotate_left
  · have : n = 0 := by omega
    subst this
    have e0 : digN 0 s = s := by unfold digN; rw [dif_pos rfl]
    have ead : aBin .add .num (.str ⟨#[109]⟩) (.str s) = some (.str (⟨#[109]⟩ ++ s)) := by
      have : (ByteArray.mk #[109]).size = 1 := rfl
      have : IntKind.i64.max = 9223372036854775807 := rfl
      simp only [aBin]; rw [if_neg]; omega
    simp only [EZM, q_bx, if_true, if_false, Nat.reduceAdd, Option.bind_some, Nat.reduceBEq, Nat.reduceLeDiff, kaT_r, decide_eq_false hn, ead]
    exact ⟨rfl, by rw [hm, hI, e0], N, hN⟩
  have hnp : 0 < n := by omega
  have er : aBin .rem .num (.int .i64 (n : Int)) (.int .i64 10) = some (.int .i64 ((n % 10 : Nat) : Int)) := by
    simp only [aBin, aArith, if_true]; rw [if_neg (by decide)]; simp [Int.tmod_eq_emod_of_nonneg]
  have eq : aBin .quo .num (.int .i64 (n : Int)) (.int .i64 10) = some (.int .i64 ((n / 10 : Nat) : Int)) := by
    simp only [aBin, aArith, if_true]; rw [if_neg (by decide), Int.tdiv_eq_ediv_of_nonneg (by omega), wrap_nat (by omega) (by omega)]; simp
  have ew : IntKind.i64.wrap (48 + ((n % 10 : Nat) : Int)) = ((48 + n % 10 : Nat) : Int) := by rw [wrap_nat (by omega) (by omega)]; simp
  have ec : IntKind.u8.wrap ((48 + n % 10 : Nat) : Int) = ((48 + n % 10 : Nat) : Int) := by
    simp [IntKind.wrap, IntKind.bits, IntKind.signed]; omega
  have p_cvi : ∀ (gl : Bool) (s : St) (x : X) (m : Int), s.eval Γ x = .int .i64 m → AM.step Γ gl s (.cvi .u8 x) = .val (.int .u8 (IntKind.u8.wrap m)) s := fun gl s x m e => by simp only [AM.step, e]
  have p_cvt : ∀ (gl : Bool) (e : List AV) (l : List (List AV)) (c : Nat), (St.mk e l (H ++ [some (0, [.int .u8 (c : Int)])])).eval Γ (.t 12) = .gs H.length 0 0 1 1 1 true → AM.step Γ gl (St.mk e l (H ++ [some (0, [.int .u8 (c : Int)])])) (.cvt (.t 12)) = .val (.str ⟨#[UInt8.ofNat c]⟩) (St.mk e l (H ++ [some (0, [.int .u8 (c : Int)])])) := fun gl e l c he => by
    simp only [AM.step, he, St.sliceCells, if_true, hget_last, Option.bind_some]
    simp [sub, bytesOfCells, AR.ofO]
  have ead : ∀ c : UInt8, aBin .add .num (.str ⟨#[c]⟩) (.str s) = some (.str (⟨#[c]⟩ ++ s)) := fun c => by
    have : (ByteArray.mk #[c]).size = 1 := rfl
    have : IntKind.i64.max = 9223372036854775807 := rfl
    simp only [aBin]; rw [if_neg]; omega
  have hcv : ∀ (e : List AV) (l : List (List AV)) (h : AH) (gl : Bool) (x : X) (m : Int), (St.mk e l h).eval Γ x = .int .i64 m → AM.step Γ gl (St.mk e l h) (.cvi .u8 x) = .val (.int .u8 (IntKind.u8.wrap m)) (St.mk e l h) := fun e l h gl x m he => p_cvi gl _ x m he
  simp only [EZM, q_bx, if_true, if_false, Nat.reduceAdd, Option.bind_some, Nat.reduceBEq, Nat.reduceLeDiff, kaT_r, decide_eq_true hn, er, eq, ew]
  rw [hcv _ _ _ _ _ _ rfl, ec]
  simp only [EZM, q_bx, if_true, if_false, Nat.reduceAdd, Option.bind_some, Nat.reduceBEq, Nat.reduceLeDiff, kaT_r, List.replicate, List.flatten_cons, List.flatten_nil, app_n, app_c, Nat.zero_mul, bslK_s _ _ _ _ _ _ (show List.all [AV.int .u8 ((48 + n % 10 : Nat) : Int)] noLp = true from rfl)]
  rw [p_cvt _ _ _ _ rfl]
  simp only [EZM, q_bx, if_true, if_false, Nat.reduceAdd, Option.bind_some, Nat.reduceBEq, Nat.reduceLeDiff, kaT_r, ead, eq]
  refine ⟨(n / 10, ⟨#[UInt8.ofNat (48 + n % 10)]⟩ ++ s, H ++ [some (0, [.int .u8 ((48 + n % 10 : Nat) : Int)])]), ⟨?_, ?_, N ++ _, by simp only; rw [hN, List.append_assoc]⟩, by simp only; omega, ⟨by simp [kaT_s0, LeL, LeV], rfl, rfl⟩⟩
  · simp only; rw [hI]; conv => lhs; unfold digN
    rw [dif_neg (by omega)]
  · simp only [ByteArray.size_append]
    have : (ByteArray.mk #[UInt8.ofNat (48 + n % 10)]).size = 1 := rfl
    omega
theorem kau_T (β β' : Bool) (l m : List Int) (hl : l.length ≤ 1073741824) (h : AH) : T Tryz.prog Γ Fn.kau [.vs β 1 false (l.map fun n => [.int .i64 n]), .vs β' 1 false (m.map fun n => [.int .i64 n])] h fun v h' => v = .bool (decide (l = m)) ∧ h' = h :=
  flatEq_D (sz := 1) (agg := false) (ek := .num) tabOK mixed (fun hw => kau_e hw) (by omega) (fun x => ⟨rfl, .inr rfl⟩) (fun x => ⟨rfl, .inr rfl⟩) (fun x y => by simp [elV, aBin, aArith, ne_int])
theorem kaO_T (l : List Int) (k : Int) (hk : 0 ≤ k) (hb : k + cntL (fun (_ : Int) => (1 : Int)) l ≤ 9223372036854775000) (hl : l.length ≤ 1073741824) (H : AH) {a : AV} {fp : List Nat} (o : Own H a (.sl 1 (l.map (fun n : Int => [CD.i .i64 n]))) fp) (nd : fp.Nodup) :
    T Tryz.prog Γ Fn.kaO [a, .int .i64 k] H fun v h' => v = .int .i64 (k + cntL (fun (_ : Int) => (1 : Int)) l) ∧ (h'.length = H.length ∧ (∀ c, c ∉ fp → h'[c]? = H[c]?) ∧ Own h' a (.sl 1 ((mkL (fun (_ : Int) k => k) (fun (_ : Int) => (1 : Int)) l k).map (fun n : Int => [CD.i .i64 n]))) fp) := by
  rcases o.sl_inv with ⟨rfl, e, rfl⟩ | ⟨b, g, cap, ex, as0, tail, fp, rfl, rfl, hg, hsz, ht, hc, hown⟩
  · have e : l = [] := by simpa using e
    subst e
    have L0 : lenI false .nils = some (.int .i64 0) := rfl
    refine kaO_e (aw_sound tabOK mixed [] _ _ _ ?_)
    unfold kaO_c
    simp only [EZM, q_bx, if_true, if_false, Nat.reduceAdd, Option.bind_some, Nat.reduceBEq, Nat.reduceLeDiff, kaO_r]
    refine loopI tabOK mixed [] (fun _ : Unit => True) (fun _ => 0) (fun _ => kaO_s0 .nils (.int .i64 k) (.int .i64 0) [] H) () trivial ⟨by simp [kaO_s0, LeL, LeV], rfl, rfl⟩ ?_
    intro _ _
    simp only [EZM, q_bx, if_true, if_false, Nat.reduceAdd, Option.bind_some, Nat.reduceBEq, Nat.reduceLeDiff, kaO_r, kaO_s0, L0, show decide ((0 : Int) < 0) = false from rfl]
    refine ⟨rfl, by simp [cntL], ?_⟩
    first | exact ⟨rfl, fun _ _ => rfl, .nil _⟩ | exact ⟨fun _ _ => trivial, .nil _⟩
  simp only [List.length_map] at hc o ⊢
  have L0 : lenI false (.gs b g 0 l.length cap 1 ex) = some (.int .i64 l.length) := rfl
  have hbf : b ∉ fp := (List.nodup_cons.1 nd).1
  refine kaO_e (aw_sound tabOK mixed [] _ _ _ ?_)
  unfold kaO_c
  simp only [EZM, q_bx, if_true, if_false, Nat.reduceAdd, Option.bind_some, Nat.reduceBEq, Nat.reduceLeDiff, kaO_r]
  refine loopI tabOK mixed [] (fun y : Nat × AH × List AV × List AV × List Nat × List Nat => y.1 ≤ l.length ∧ MInv H b g tail fp (fun n : Int => [CD.i .i64 n]) (l.drop y.1) (mkL (fun (_ : Int) k => k) (fun (_ : Int) => (1 : Int)) (l.take y.1) k) y.2.1 y.2.2.1 y.2.2.2.1 y.2.2.2.2.1 y.2.2.2.2.2) (fun y => l.length - y.1)
    (fun y => kaO_s0 (.gs b g 0 l.length cap 1 ex) (.int .i64 (k + cntL (fun (_ : Int) => (1 : Int)) (l.take y.1))) (.int .i64 y.1) [] y.2.1) (0, H, [], as0, [], fp) ⟨by simp, by simpa [mkL] using MInv.start hg hown⟩ ⟨by simp [kaO_s0, LeL, LeV, cntL], rfl, rfl⟩ ?_
  rintro ⟨j, H', as1, as2, f1, f2⟩ ⟨hj, iv⟩
  simp only at hj iv
  simp only [EZM, q_bx, if_true, if_false, Nat.reduceAdd, Option.bind_some, Nat.reduceBEq, Nat.reduceLeDiff, kaO_r, kaO_s0, L0]
  refine c_split (fun hlt => ?_) (fun hge => ?_)
  rotate_left
  · have hge : j = l.length := by simp at hge; omega
    subst hge
    simp only [EZM, q_bx, if_true, if_false, Nat.reduceAdd, Option.bind_some, Nat.reduceBEq, Nat.reduceLeDiff, kaO_r]
    rw [List.drop_length, List.take_length] at iv
    rw [List.take_length]
    exact ⟨rfl, rfl, iv.done mkL_len (fun _ => rfl) ht hc⟩
  have hlt : j < l.length := by simpa using hlt
  have htk := cntL_take (fun (_ : Int) => (1 : Int)) hlt
  have hle := cntL_le (c := (fun (_ : Int) => (1 : Int))) (fun _ => by omega) hlt
  have hnn := cntL_nn (c := (fun (_ : Int) => (1 : Int))) (fun _ => by omega) (l.take j)
  have hmt := mkL_take (fun (_ : Int) k => k) (fun (_ : Int) => (1 : Int)) hlt k
  rw [List.drop_eq_getElem_cons hlt] at iv
  obtain ⟨x, hx⟩ : ∃ x, x = l[j] := ⟨_, rfl⟩
  rw [← hx] at iv
  try rw [← hx] at htk hle
  try rw [← hx] at hmt
  obtain ⟨kj, hkj⟩ : ∃ kj, kj = k + cntL (fun (_ : Int) => (1 : Int)) (l.take j) := ⟨_, rfl⟩
  rw [← hkj] at hmt
  rw [← hkj]
  have hk0 : 0 ≤ kj := by omega
  have hkb : kj + 1 ≤ 9223372036854775000 := by omega
  obtain ⟨h1, h2, cs, post, fx, fr, e1, e2, rfl, rfl, q1, q2⟩ := iv.open
  have hfx : ∀ c ∈ fx, c ≠ b := fun c hc e => hbf (by rw [iv.fps, ← e]; simp [hc])
  have ndx : fx.Nodup := (List.nodup_append.1 (List.nodup_append.1 (iv.fps ▸ (List.nodup_cons.1 nd).2)).2.1).1
  have hn0 : as1.length = j * 1 := by rw [iv.o1.len, flat_len' (sz := 1) (fun y _ => rfl), mkL_len, List.length_take, Nat.min_eq_left hj]
  have i0 : aIdxs 1 (.gs b g 0 l.length cap 1 ex) (j : Int) = some (.gp b g as1.length) := by rw [idx_gs hlt, hn0, Nat.zero_add]
  obtain ⟨rfl, rfl⟩ : cs = [.int .i64 x] ∧ fx = [] := by
    simp only [ownL_c, ownL_n, own_i] at q1; obtain ⟨_, _, _, _, rfl, rfl, ⟨rfl, rfl⟩, rfl, rfl⟩ := q1; exact ⟨rfl, rfl⟩
  replace e1 : H' = h1 ++ some (g, as1 ++ elc [.int .i64 x] (post ++ tail)) :: h2 := e1
  subst e1
  have w1 : IntKind.i64.wrap (kj + 1) = kj + 1 := wrap_nat (by omega) (by omega)
  simp only [EZM, q_bx, if_true, if_false, Nat.reduceAdd, Option.bind_some, Nat.reduceBEq, Nat.reduceLeDiff, kaO_r, i0, st_el0 e2 rfl, w1]
  refine ⟨(j + 1, _, as1 ++ [.int .i64 kj], post, f1 ++ [], fr), ⟨hlt, ?inv⟩, (by simp only; omega), ⟨?le, rfl, rfl⟩⟩
  case inv => simp only; rw [hmt]; exact iv.next (y := kj) nd q2 (by simp) (hget_at e2) (fun c hc _ => at_ne e2 hc) (.i .nil)
  case le => rw [htk, wN (by omega), ← Int.add_assoc, ← hkj]; (try simp [kaO_s0, LeL, LeV])
theorem kaU_T (l : List DValue) (k : Int) (hk : 0 ≤ k) (hb : k + cntL DValue.cnt l ≤ 9223372036854775000) (hl : l.length ≤ 1073741824) (H : AH) {a : AV} {fp : List Nat} (o : Own H a (.sl 2 (l.map DValue.cd)) fp) (nd : fp.Nodup) :
    T Tryz.prog Γ Fn.kaU [a, .int .i64 k] H fun v h' => v = .int .i64 (k + cntL DValue.cnt l) ∧ (h'.length = H.length ∧ (∀ c, c ∉ fp → h'[c]? = H[c]?) ∧ Own h' a (.sl 2 ((mkL DValue.mk_ DValue.cnt l k).map DValue.cd)) fp) := by
  rcases o.sl_inv with ⟨rfl, e, rfl⟩ | ⟨b, g, cap, ex, as0, tail, fp, rfl, rfl, hg, hsz, ht, hc, hown⟩
  · have e : l = [] := by simpa using e
    subst e
    have L0 : lenI false .nils = some (.int .i64 0) := rfl
    refine kaU_e (aw_sound tabOK mixed [] _ _ _ ?_)
    unfold kaU_c
    simp only [EZM, q_bx, if_true, if_false, Nat.reduceAdd, Option.bind_some, Nat.reduceBEq, Nat.reduceLeDiff, kaU_r]
    refine loopI tabOK mixed [] (fun _ : Unit => True) (fun _ => 0) (fun _ => kaU_s0 .nils (.int .i64 k) (.int .i64 0) [] H) () trivial ⟨by simp [kaU_s0, LeL, LeV], rfl, rfl⟩ ?_
    intro _ _
    simp only [EZM, q_bx, if_true, if_false, Nat.reduceAdd, Option.bind_some, Nat.reduceBEq, Nat.reduceLeDiff, kaU_r, kaU_s0, L0, show decide ((0 : Int) < 0) = false from rfl]
    refine ⟨rfl, by simp [cntL], ?_⟩
    first | exact ⟨rfl, fun _ _ => rfl, .nil _⟩ | exact ⟨fun _ _ => trivial, .nil _⟩
  simp only [List.length_map] at hc o ⊢
  have L0 : lenI false (.gs b g 0 l.length cap 2 ex) = some (.int .i64 l.length) := rfl
  have hbf : b ∉ fp := (List.nodup_cons.1 nd).1
  refine kaU_e (aw_sound tabOK mixed [] _ _ _ ?_)
  unfold kaU_c
  simp only [EZM, q_bx, if_true, if_false, Nat.reduceAdd, Option.bind_some, Nat.reduceBEq, Nat.reduceLeDiff, kaU_r]
  refine loopI tabOK mixed [] (fun y : Nat × AH × List AV × List AV × List Nat × List Nat => y.1 ≤ l.length ∧ MInv H b g tail fp DValue.cd (l.drop y.1) (mkL DValue.mk_ DValue.cnt (l.take y.1) k) y.2.1 y.2.2.1 y.2.2.2.1 y.2.2.2.2.1 y.2.2.2.2.2) (fun y => l.length - y.1)
    (fun y => kaU_s0 (.gs b g 0 l.length cap 2 ex) (.int .i64 (k + cntL DValue.cnt (l.take y.1))) (.int .i64 y.1) [] y.2.1) (0, H, [], as0, [], fp) ⟨by simp, by simpa [mkL] using MInv.start hg hown⟩ ⟨by simp [kaU_s0, LeL, LeV, cntL], rfl, rfl⟩ ?_
  rintro ⟨j, H', as1, as2, f1, f2⟩ ⟨hj, iv⟩
  simp only at hj iv
  simp only [EZM, q_bx, if_true, if_false, Nat.reduceAdd, Option.bind_some, Nat.reduceBEq, Nat.reduceLeDiff, kaU_r, kaU_s0, L0]
  refine c_split (fun hlt => ?_) (fun hge => ?_)
  rotate_left
  · have hge : j = l.length := by simp at hge; omega
    subst hge
    simp only [EZM, q_bx, if_true, if_false, Nat.reduceAdd, Option.bind_some, Nat.reduceBEq, Nat.reduceLeDiff, kaU_r]
    rw [List.drop_length, List.take_length] at iv
    rw [List.take_length]
    exact ⟨rfl, rfl, iv.done mkL_len (fun _ => rfl) ht hc⟩
  have hlt : j < l.length := by simpa using hlt
  have htk := cntL_take DValue.cnt hlt
  have hle := cntL_le (c := DValue.cnt) DValue.cnt_nn hlt
  have hnn := cntL_nn (c := DValue.cnt) DValue.cnt_nn (l.take j)
  have hmt := mkL_take DValue.mk_ DValue.cnt hlt k
  rw [List.drop_eq_getElem_cons hlt] at iv
  obtain ⟨x, hx⟩ : ∃ x, x = l[j] := ⟨_, rfl⟩
  rw [← hx] at iv
  try rw [← hx] at htk hle
  try rw [← hx] at hmt
  obtain ⟨kj, hkj⟩ : ∃ kj, kj = k + cntL DValue.cnt (l.take j) := ⟨_, rfl⟩
  rw [← hkj] at hmt
  rw [← hkj]
  have hk0 : 0 ≤ kj := by omega
  have hkb : kj + DValue.cnt x ≤ 9223372036854775000 := by omega
  obtain ⟨h1, h2, cs, post, fx, fr, e1, e2, rfl, rfl, q1, q2⟩ := iv.open
  have hfx : ∀ c ∈ fx, c ≠ b := fun c hc e => hbf (by rw [iv.fps, ← e]; simp [hc])
  have ndx : fx.Nodup := (List.nodup_append.1 (List.nodup_append.1 (iv.fps ▸ (List.nodup_cons.1 nd).2)).2.1).1
  have hn0 : as1.length = j * 2 := by rw [iv.o1.len, flat_len' (sz := 2) (fun y _ => rfl), mkL_len, List.length_take, Nat.min_eq_left hj]
  have i0 : aIdxs 2 (.gs b g 0 l.length cap 2 ex) (j : Int) = some (.gp b g as1.length) := by rw [idx_gs hlt, hn0, Nat.zero_add]
  simp only [DValue.cnt] at hkb
  simp only [DValue.cd, ownL_c, ownL_n, own_i, own_b, own_s] at q1
  obtain ⟨_, _, _, _, rfl, e0z, ⟨rfl, rfl⟩, ⟨_, _, _, _, rfl, e1z, ⟨rfl, rfl⟩, ⟨rfl, e2z⟩⟩⟩ := q1
  have hfxe : fx = [] := by rw [e0z, e1z, e2z]; simp
  have ow : OwnL H' [] [] fx := by rw [hfxe]; exact .nil
  have hlen0 := (rfl : H'.length = H'.length)
  have fr0 : ∀ c, c ≠ b → c ∉ fx → H'[c]? = H'[c]? := fun _ _ _ => rfl
  have w0 : IntKind.i64.wrap (kj + 1) = kj + 1 := (wrap_nat (by omega) (by omega)).trans (by omega)
  have w1 : IntKind.i64.wrap (kj + 1 + 1) = kj + 2 := (wrap_nat (by omega) (by omega)).trans (by omega)
  obtain ⟨H0, hH0⟩ : ∃ H0, H0 = H' := ⟨_, rfl⟩
  rw [← hH0] at iv q2 ow fr0 hlen0
  have fr0 : ∀ c, c ≠ b → c ∉ fx → H'[c]? = H0[c]? := fun _ _ _ => by rw [hH0]
  have hlen0 : H'.length = H0.length := by rw [hH0]
  rw [hH0] at ow
  replace e1 : H' = h1 ++ some (g, as1 ++ elc [.int .i64 x.kind, .int .i64 x.n] (post ++ tail)) :: h2 := e1
  subst e1
  simp only [EZM, q_bx, if_true, if_false, Nat.reduceAdd, Option.bind_some, Nat.reduceBEq, Nat.reduceLeDiff, kaU_r, i0, st_el e2 rfl, rd_el e2 rfl, w0, w1]
  refine ⟨(j + 1, _, as1 ++ [.int .i64 (kj), .int .i64 (kj + 1)], post, f1 ++ [], fr), ⟨hlt, ?inv⟩, (by simp only; omega), ⟨?le, rfl, rfl⟩⟩
  case inv =>
    simp only; rw [hmt]
    subst hfxe
    exact iv.next (y := DValue.mk_ x kj) nd q2 (by rw [← hlen0]; (try simp)) (hget_at e2) (fun c h1 h2 => (at_ne e2 h1).trans (fr0 c h1 h2)) (.i (.i .nil))
  case le =>
    have hfin : k + cntL DValue.cnt (l.take (j + 1)) = kj + 2 := by rw [htk]; simp only [DValue.cnt]; omega
    rw [hfin, wN (by omega)]; (try simp [kaU_s0, LeL, LeV])
theorem kaS_T (l : List DSent) (k : Int) (hk : 0 ≤ k) (hb : k + cntL DSent.cnt l ≤ 9223372036854775000) (hl : l.length ≤ 1073741824) (ho : ∀ x ∈ l, x.ok 1073741824) (H : AH) {a : AV} {fp : List Nat} (o : Own H a (.sl 7 (l.map DSent.cd)) fp) (nd : fp.Nodup) :
    T Tryz.prog Γ Fn.kaS [a, .int .i64 k] H fun v h' => v = .int .i64 (k + cntL DSent.cnt l) ∧ (h'.length = H.length ∧ (∀ c, c ∉ fp → h'[c]? = H[c]?) ∧ Own h' a (.sl 7 ((mkL DSent.mk_ DSent.cnt l k).map DSent.cd)) fp) := by
  rcases o.sl_inv with ⟨rfl, e, rfl⟩ | ⟨b, g, cap, ex, as0, tail, fp, rfl, rfl, hg, hsz, ht, hc, hown⟩
  · have e : l = [] := by simpa using e
    subst e
    have L0 : lenI false .nils = some (.int .i64 0) := rfl
    refine kaS_e (aw_sound tabOK mixed [] _ _ _ ?_)
    unfold kaS_c
    simp only [EZM, q_bx, if_true, if_false, Nat.reduceAdd, Option.bind_some, Nat.reduceBEq, Nat.reduceLeDiff, kaS_r]
    refine loopI tabOK mixed [] (fun _ : Unit => True) (fun _ => 0) (fun _ => kaS_s0 .nils (.int .i64 k) (.int .i64 0) [] H) () trivial ⟨by simp [kaS_s0, LeL, LeV], rfl, rfl⟩ ?_
    intro _ _
    simp only [EZM, q_bx, if_true, if_false, Nat.reduceAdd, Option.bind_some, Nat.reduceBEq, Nat.reduceLeDiff, kaS_r, kaS_s0, L0, show decide ((0 : Int) < 0) = false from rfl]
    refine ⟨rfl, by simp [cntL], ?_⟩
    first | exact ⟨rfl, fun _ _ => rfl, .nil _⟩ | exact ⟨fun _ _ => trivial, .nil _⟩
  simp only [List.length_map] at hc o ⊢
  have L0 : lenI false (.gs b g 0 l.length cap 7 ex) = some (.int .i64 l.length) := rfl
  have hbf : b ∉ fp := (List.nodup_cons.1 nd).1
  refine kaS_e (aw_sound tabOK mixed [] _ _ _ ?_)
  unfold kaS_c
  simp only [EZM, q_bx, if_true, if_false, Nat.reduceAdd, Option.bind_some, Nat.reduceBEq, Nat.reduceLeDiff, kaS_r]
  refine loopI tabOK mixed [] (fun y : Nat × AH × List AV × List AV × List Nat × List Nat => y.1 ≤ l.length ∧ MInv H b g tail fp DSent.cd (l.drop y.1) (mkL DSent.mk_ DSent.cnt (l.take y.1) k) y.2.1 y.2.2.1 y.2.2.2.1 y.2.2.2.2.1 y.2.2.2.2.2) (fun y => l.length - y.1)
    (fun y => kaS_s0 (.gs b g 0 l.length cap 7 ex) (.int .i64 (k + cntL DSent.cnt (l.take y.1))) (.int .i64 y.1) [] y.2.1) (0, H, [], as0, [], fp) ⟨by simp, by simpa [mkL] using MInv.start hg hown⟩ ⟨by simp [kaS_s0, LeL, LeV, cntL], rfl, rfl⟩ ?_
  rintro ⟨j, H', as1, as2, f1, f2⟩ ⟨hj, iv⟩
  simp only at hj iv
  simp only [EZM, q_bx, if_true, if_false, Nat.reduceAdd, Option.bind_some, Nat.reduceBEq, Nat.reduceLeDiff, kaS_r, kaS_s0, L0]
  refine c_split (fun hlt => ?_) (fun hge => ?_)
  rotate_left
  · have hge : j = l.length := by simp at hge; omega
    subst hge
    simp only [EZM, q_bx, if_true, if_false, Nat.reduceAdd, Option.bind_some, Nat.reduceBEq, Nat.reduceLeDiff, kaS_r]
    rw [List.drop_length, List.take_length] at iv
    rw [List.take_length]
    exact ⟨rfl, rfl, iv.done mkL_len (fun _ => rfl) ht hc⟩
  have hlt : j < l.length := by simpa using hlt
  have htk := cntL_take DSent.cnt hlt
  have hle := cntL_le (c := DSent.cnt) DSent.cnt_nn hlt
  have hnn := cntL_nn (c := DSent.cnt) DSent.cnt_nn (l.take j)
  have hmt := mkL_take DSent.mk_ DSent.cnt hlt k
  rw [List.drop_eq_getElem_cons hlt] at iv
  obtain ⟨x, hx⟩ : ∃ x, x = l[j] := ⟨_, rfl⟩
  rw [← hx] at iv
  try rw [← hx] at htk hle
  try rw [← hx] at hmt
  obtain ⟨kj, hkj⟩ : ∃ kj, kj = k + cntL DSent.cnt (l.take j) := ⟨_, rfl⟩
  rw [← hkj] at hmt
  rw [← hkj]
  have hk0 : 0 ≤ kj := by omega
  have hkb : kj + DSent.cnt x ≤ 9223372036854775000 := by omega
  obtain ⟨h1, h2, cs, post, fx, fr, e1, e2, rfl, rfl, q1, q2⟩ := iv.open
  have hfx : ∀ c ∈ fx, c ≠ b := fun c hc e => hbf (by rw [iv.fps, ← e]; simp [hc])
  have ndx : fx.Nodup := (List.nodup_append.1 (List.nodup_append.1 (iv.fps ▸ (List.nodup_cons.1 nd).2)).2.1).1
  have hn0 : as1.length = j * 7 := by rw [iv.o1.len, flat_len' (sz := 7) (fun y _ => rfl), mkL_len, List.length_take, Nat.min_eq_left hj]
  have i0 : aIdxs 7 (.gs b g 0 l.length cap 7 ex) (j : Int) = some (.gp b g as1.length) := by rw [idx_gs hlt, hn0, Nat.zero_add]
  have z0 := cntL_nn (c := DValue.cnt) DValue.cnt_nn x.args
  simp only [DSent.cnt] at hkb
  have hox := ho _ (List.getElem_mem hlt); rw [← hx] at hox
  simp only [DSent.cd, ownL_c, ownL_n, own_i, own_b, own_s] at q1
  obtain ⟨_, _, _, _, rfl, e0z, ⟨rfl, rfl⟩, ⟨_, _, _, _, rfl, e1z, ⟨rfl, rfl⟩, ⟨a2, _, g2, _, rfl, e2z, u2, ⟨_, _, _, _, rfl, e3z, ⟨rfl, rfl⟩, ⟨_, _, _, _, rfl, e4z, ⟨rfl, rfl⟩, ⟨_, _, _, _, rfl, e5z, ⟨rfl, rfl⟩, ⟨_, _, _, _, rfl, e6z, ⟨rfl, rfl⟩, ⟨rfl, e7z⟩⟩⟩⟩⟩⟩⟩⟩ := q1
  have hfxe : fx = (g2 ++ []) := by rw [e0z, e1z, e2z, e3z, e4z, e5z, e6z, e7z]; simp
  have ow : OwnL H' [a2] [.sl 2 (x.args.map DValue.cd)] fx := by rw [hfxe]; exact (.o u2 .nil)
  obtain ⟨c2a, c2b, c2c, c2d⟩ := u2.cell
  have hlen0 := (rfl : H'.length = H'.length)
  have fr0 : ∀ c, c ≠ b → c ∉ fx → H'[c]? = H'[c]? := fun _ _ _ => rfl
  have w0 : IntKind.i64.wrap (kj + 1) = kj + 1 := (wrap_nat (by omega) (by omega)).trans (by omega)
  have w1 : IntKind.i64.wrap (kj + 1 + 1) = kj + 2 := (wrap_nat (by omega) (by omega)).trans (by omega)
  have w3 : IntKind.i64.wrap (kj + 2 + cntL DValue.cnt x.args + 1) = kj + 3 + cntL DValue.cnt x.args := (wrap_nat (by omega) (by omega)).trans (by omega)
  have w4 : IntKind.i64.wrap (kj + 3 + cntL DValue.cnt x.args + 1) = kj + 4 + cntL DValue.cnt x.args := (wrap_nat (by omega) (by omega)).trans (by omega)
  have w5 : IntKind.i64.wrap (kj + 4 + cntL DValue.cnt x.args + 1) = kj + 5 + cntL DValue.cnt x.args := (wrap_nat (by omega) (by omega)).trans (by omega)
  have w6 : IntKind.i64.wrap (kj + 5 + cntL DValue.cnt x.args + 1) = kj + 6 + cntL DValue.cnt x.args := (wrap_nat (by omega) (by omega)).trans (by omega)
  obtain ⟨H0, hH0⟩ : ∃ H0, H0 = H' := ⟨_, rfl⟩
  rw [← hH0] at iv q2 ow fr0 hlen0
  have fr0 : ∀ c, c ≠ b → c ∉ fx → H'[c]? = H0[c]? := fun _ _ _ => by rw [hH0]
  have hlen0 : H'.length = H0.length := by rw [hH0]
  rw [hH0] at ow
  replace e1 : H' = h1 ++ some (g, as1 ++ elc [.int .i64 x.target, .str x.name, a2, .int .i64 x.result, .int .i64 x.tag.vat, .int .i64 x.tag.entity, .int .i64 x.tag.seq] (post ++ tail)) :: h2 := e1
  subst e1
  simp only [EZM, q_bx, if_true, if_false, Nat.reduceAdd, Option.bind_some, Nat.reduceBEq, Nat.reduceLeDiff, kaS_r, i0, st_el e2 rfl, rd_el e2 rfl, w0, w1, w3, w4, w5, w6, c2a, c2b, c2c]
  refine TCall.val (by simp only [EO]) (kaT_T (kj + 1) (by omega) (by omega) _) ?_
  simp only [EZM, q_bx, if_true, if_false, Nat.reduceAdd, Option.bind_some, Nat.reduceBEq, Nat.reduceLeDiff, kaS_r, i0, st_el e2 rfl, rd_el e2 rfl, w0, w1, w3, w4, w5, w6, c2a, c2b, c2c]
  obtain ⟨gi1, oi1, ni1, si1, bk1⟩ := OwnL.pick (A := []) (D := []) rfl (ow.frame fun c hc => at_ne e2 (hfx c hc)) ndx
  refine TCall.ref (by simp only [EO, c2d]) (kaU_T x.args (kj + 2) (by omega) (by omega) (hox.2) _ oi1 ni1) ?_
  rintro _ hn ⟨rfl, hlen1, hfr1, un1⟩
  replace ow := bk1 hn _ hfr1 un1
  have fr1 : ∀ c, c ≠ b → c ∉ fx → hn[c]? = H0[c]? := fun c h1 h2 => (hfr1 c (fun h => h2 (si1 c h))).trans ((at_ne e2 h1).trans (fr0 c h1 h2))
  have hlen1 : hn.length = H0.length := by rw [hlen1]; (try rw [← hlen0]); (try simp)
  obtain ⟨p1, r1, rfl, eh1⟩ := heap_at (frame_hget (hget_at e2) (hfr1 b (fun h => hfx b (si1 b h) rfl)))
  simp only [EZM, q_bx, if_true, if_false, Nat.reduceAdd, Option.bind_some, Nat.reduceBEq, Nat.reduceLeDiff, kaS_r, i0, st_el eh1 rfl, rd_el eh1 rfl, w0, w1, w3, w4, w5, w6, c2a, c2b, c2c]
  refine ⟨(j + 1, _, as1 ++ [.int .i64 (kj), .str (markT (kj + 1)), a2, .int .i64 (kj + 2 + cntL DValue.cnt x.args), .int .i64 (kj + 3 + cntL DValue.cnt x.args), .int .i64 (kj + 4 + cntL DValue.cnt x.args), .int .i64 (kj + 5 + cntL DValue.cnt x.args)], post, f1 ++ fx, fr), ⟨hlt, ?inv⟩, (by simp only; omega), ⟨?le, rfl, rfl⟩⟩
  case inv =>
    simp only; rw [hmt]
    replace ow := ow.frame fun c hc => at_ne (x := some (g, as1 ++ elc [.int .i64 (kj), .str (markT (kj + 1)), a2, .int .i64 (kj + 2 + cntL DValue.cnt x.args), .int .i64 (kj + 3 + cntL DValue.cnt x.args), .int .i64 (kj + 4 + cntL DValue.cnt x.args), .int .i64 (kj + 5 + cntL DValue.cnt x.args)] (post ++ tail))) eh1 (hfx c hc)
    obtain ⟨F0, R0, E0, O0, hz⟩ := ow
    have hz : R0 = [] := hz
    refine iv.next (y := DSent.mk_ x kj) nd q2 (by rw [← hlen1]; (try simp)) (hget_at eh1) (fun c h1 h2 => (at_ne eh1 h1).trans (fr1 c h1 h2)) ?_
    rw [E0, hz]; exact (.i (.s (.o O0 (.i (.i (.i (.i .nil)))))))
  case le =>
    have hfin : k + cntL DSent.cnt (l.take (j + 1)) = kj + 6 + cntL DValue.cnt x.args := by rw [htk]; simp only [DSent.cnt]; omega
    rw [hfin, wN (by omega)]; (try simp [kaS_s0, LeL, LeV])
theorem kaL_T (l : List DAsker) (k : Int) (hk : 0 ≤ k) (hb : k + cntL DAsker.cnt l ≤ 9223372036854775000) (hl : l.length ≤ 1073741824) (H : AH) {a : AV} {fp : List Nat} (o : Own H a (.sl 2 (l.map DAsker.cd)) fp) (nd : fp.Nodup) :
    T Tryz.prog Γ Fn.kaL [a, .int .i64 k] H fun v h' => v = .int .i64 (k + cntL DAsker.cnt l) ∧ (h'.length = H.length ∧ (∀ c, c ∉ fp → h'[c]? = H[c]?) ∧ Own h' a (.sl 2 ((mkL DAsker.mk_ DAsker.cnt l k).map DAsker.cd)) fp) := by
  rcases o.sl_inv with ⟨rfl, e, rfl⟩ | ⟨b, g, cap, ex, as0, tail, fp, rfl, rfl, hg, hsz, ht, hc, hown⟩
  · have e : l = [] := by simpa using e
    subst e
    have L0 : lenI false .nils = some (.int .i64 0) := rfl
    refine kaL_e (aw_sound tabOK mixed [] _ _ _ ?_)
    unfold kaL_c
    simp only [EZM, q_bx, if_true, if_false, Nat.reduceAdd, Option.bind_some, Nat.reduceBEq, Nat.reduceLeDiff, kaL_r]
    refine loopI tabOK mixed [] (fun _ : Unit => True) (fun _ => 0) (fun _ => kaL_s0 .nils (.int .i64 k) (.int .i64 0) [] H) () trivial ⟨by simp [kaL_s0, LeL, LeV], rfl, rfl⟩ ?_
    intro _ _
    simp only [EZM, q_bx, if_true, if_false, Nat.reduceAdd, Option.bind_some, Nat.reduceBEq, Nat.reduceLeDiff, kaL_r, kaL_s0, L0, show decide ((0 : Int) < 0) = false from rfl]
    refine ⟨rfl, by simp [cntL], ?_⟩
    first | exact ⟨rfl, fun _ _ => rfl, .nil _⟩ | exact ⟨fun _ _ => trivial, .nil _⟩
  simp only [List.length_map] at hc o ⊢
  have L0 : lenI false (.gs b g 0 l.length cap 2 ex) = some (.int .i64 l.length) := rfl
  have hbf : b ∉ fp := (List.nodup_cons.1 nd).1
  refine kaL_e (aw_sound tabOK mixed [] _ _ _ ?_)
  unfold kaL_c
  simp only [EZM, q_bx, if_true, if_false, Nat.reduceAdd, Option.bind_some, Nat.reduceBEq, Nat.reduceLeDiff, kaL_r]
  refine loopI tabOK mixed [] (fun y : Nat × AH × List AV × List AV × List Nat × List Nat => y.1 ≤ l.length ∧ MInv H b g tail fp DAsker.cd (l.drop y.1) (mkL DAsker.mk_ DAsker.cnt (l.take y.1) k) y.2.1 y.2.2.1 y.2.2.2.1 y.2.2.2.2.1 y.2.2.2.2.2) (fun y => l.length - y.1)
    (fun y => kaL_s0 (.gs b g 0 l.length cap 2 ex) (.int .i64 (k + cntL DAsker.cnt (l.take y.1))) (.int .i64 y.1) [] y.2.1) (0, H, [], as0, [], fp) ⟨by simp, by simpa [mkL] using MInv.start hg hown⟩ ⟨by simp [kaL_s0, LeL, LeV, cntL], rfl, rfl⟩ ?_
  rintro ⟨j, H', as1, as2, f1, f2⟩ ⟨hj, iv⟩
  simp only at hj iv
  simp only [EZM, q_bx, if_true, if_false, Nat.reduceAdd, Option.bind_some, Nat.reduceBEq, Nat.reduceLeDiff, kaL_r, kaL_s0, L0]
  refine c_split (fun hlt => ?_) (fun hge => ?_)
  rotate_left
  · have hge : j = l.length := by simp at hge; omega
    subst hge
    simp only [EZM, q_bx, if_true, if_false, Nat.reduceAdd, Option.bind_some, Nat.reduceBEq, Nat.reduceLeDiff, kaL_r]
    rw [List.drop_length, List.take_length] at iv
    rw [List.take_length]
    exact ⟨rfl, rfl, iv.done mkL_len (fun _ => rfl) ht hc⟩
  have hlt : j < l.length := by simpa using hlt
  have htk := cntL_take DAsker.cnt hlt
  have hle := cntL_le (c := DAsker.cnt) DAsker.cnt_nn hlt
  have hnn := cntL_nn (c := DAsker.cnt) DAsker.cnt_nn (l.take j)
  have hmt := mkL_take DAsker.mk_ DAsker.cnt hlt k
  rw [List.drop_eq_getElem_cons hlt] at iv
  obtain ⟨x, hx⟩ : ∃ x, x = l[j] := ⟨_, rfl⟩
  rw [← hx] at iv
  try rw [← hx] at htk hle
  try rw [← hx] at hmt
  obtain ⟨kj, hkj⟩ : ∃ kj, kj = k + cntL DAsker.cnt (l.take j) := ⟨_, rfl⟩
  rw [← hkj] at hmt
  rw [← hkj]
  have hk0 : 0 ≤ kj := by omega
  have hkb : kj + DAsker.cnt x ≤ 9223372036854775000 := by omega
  obtain ⟨h1, h2, cs, post, fx, fr, e1, e2, rfl, rfl, q1, q2⟩ := iv.open
  have hfx : ∀ c ∈ fx, c ≠ b := fun c hc e => hbf (by rw [iv.fps, ← e]; simp [hc])
  have ndx : fx.Nodup := (List.nodup_append.1 (List.nodup_append.1 (iv.fps ▸ (List.nodup_cons.1 nd).2)).2.1).1
  have hn0 : as1.length = j * 2 := by rw [iv.o1.len, flat_len' (sz := 2) (fun y _ => rfl), mkL_len, List.length_take, Nat.min_eq_left hj]
  have i0 : aIdxs 2 (.gs b g 0 l.length cap 2 ex) (j : Int) = some (.gp b g as1.length) := by rw [idx_gs hlt, hn0, Nat.zero_add]
  simp only [DAsker.cnt] at hkb
  simp only [DAsker.cd, ownL_c, ownL_n, own_i, own_b, own_s] at q1
  obtain ⟨_, _, _, _, rfl, e0z, ⟨rfl, rfl⟩, ⟨_, _, _, _, rfl, e1z, ⟨rfl, rfl⟩, ⟨rfl, e2z⟩⟩⟩ := q1
  have hfxe : fx = [] := by rw [e0z, e1z, e2z]; simp
  have ow : OwnL H' [] [] fx := by rw [hfxe]; exact .nil
  have hlen0 := (rfl : H'.length = H'.length)
  have fr0 : ∀ c, c ≠ b → c ∉ fx → H'[c]? = H'[c]? := fun _ _ _ => rfl
  have w0 : IntKind.i64.wrap (kj + 1) = kj + 1 := (wrap_nat (by omega) (by omega)).trans (by omega)
  have w1 : IntKind.i64.wrap (kj + 1 + 1) = kj + 2 := (wrap_nat (by omega) (by omega)).trans (by omega)
  obtain ⟨H0, hH0⟩ : ∃ H0, H0 = H' := ⟨_, rfl⟩
  rw [← hH0] at iv q2 ow fr0 hlen0
  have fr0 : ∀ c, c ≠ b → c ∉ fx → H'[c]? = H0[c]? := fun _ _ _ => by rw [hH0]
  have hlen0 : H'.length = H0.length := by rw [hH0]
  rw [hH0] at ow
  replace e1 : H' = h1 ++ some (g, as1 ++ elc [.int .i64 x.peer, .int .i64 x.question] (post ++ tail)) :: h2 := e1
  subst e1
  simp only [EZM, q_bx, if_true, if_false, Nat.reduceAdd, Option.bind_some, Nat.reduceBEq, Nat.reduceLeDiff, kaL_r, i0, st_el e2 rfl, rd_el e2 rfl, w0, w1]
  refine ⟨(j + 1, _, as1 ++ [.int .i64 (kj), .int .i64 (kj + 1)], post, f1 ++ [], fr), ⟨hlt, ?inv⟩, (by simp only; omega), ⟨?le, rfl, rfl⟩⟩
  case inv =>
    simp only; rw [hmt]
    subst hfxe
    exact iv.next (y := DAsker.mk_ x kj) nd q2 (by rw [← hlen0]; (try simp)) (hget_at e2) (fun c h1 h2 => (at_ne e2 h1).trans (fr0 c h1 h2)) (.i (.i .nil))
  case le =>
    have hfin : k + cntL DAsker.cnt (l.take (j + 1)) = kj + 2 := by rw [htk]; simp only [DAsker.cnt]; omega
    rw [hfin, wN (by omega)]; (try simp [kaL_s0, LeL, LeV])
theorem kaM_T (l : List DEntity) (k : Int) (hk : 0 ≤ k) (hb : k + cntL DEntity.cnt l ≤ 9223372036854775000) (hl : l.length ≤ 1073741824) (ho : ∀ x ∈ l, x.ok 1073741824) (H : AH) {a : AV} {fp : List Nat} (o : Own H a (.sl 12 (l.map DEntity.cd)) fp) (nd : fp.Nodup) :
    T Tryz.prog Γ Fn.kaM [a, .int .i64 k] H fun v h' => v = .int .i64 (k + cntL DEntity.cnt l) ∧ (h'.length = H.length ∧ (∀ c, c ∉ fp → h'[c]? = H[c]?) ∧ Own h' a (.sl 12 ((mkL DEntity.mk_ DEntity.cnt l k).map DEntity.cd)) fp) := by
  rcases o.sl_inv with ⟨rfl, e, rfl⟩ | ⟨b, g, cap, ex, as0, tail, fp, rfl, rfl, hg, hsz, ht, hc, hown⟩
  · have e : l = [] := by simpa using e
    subst e
    have L0 : lenI false .nils = some (.int .i64 0) := rfl
    refine kaM_e (aw_sound tabOK mixed [] _ _ _ ?_)
    unfold kaM_c
    simp only [EZM, q_bx, if_true, if_false, Nat.reduceAdd, Option.bind_some, Nat.reduceBEq, Nat.reduceLeDiff, kaM_r]
    refine loopI tabOK mixed [] (fun _ : Unit => True) (fun _ => 0) (fun _ => kaM_s0 .nils (.int .i64 k) (.int .i64 0) [] H) () trivial ⟨by simp [kaM_s0, LeL, LeV], rfl, rfl⟩ ?_
    intro _ _
    simp only [EZM, q_bx, if_true, if_false, Nat.reduceAdd, Option.bind_some, Nat.reduceBEq, Nat.reduceLeDiff, kaM_r, kaM_s0, L0, show decide ((0 : Int) < 0) = false from rfl]
    refine ⟨rfl, by simp [cntL], ?_⟩
    first | exact ⟨rfl, fun _ _ => rfl, .nil _⟩ | exact ⟨fun _ _ => trivial, .nil _⟩
  simp only [List.length_map] at hc o ⊢
  have L0 : lenI false (.gs b g 0 l.length cap 12 ex) = some (.int .i64 l.length) := rfl
  have hbf : b ∉ fp := (List.nodup_cons.1 nd).1
  refine kaM_e (aw_sound tabOK mixed [] _ _ _ ?_)
  unfold kaM_c
  simp only [EZM, q_bx, if_true, if_false, Nat.reduceAdd, Option.bind_some, Nat.reduceBEq, Nat.reduceLeDiff, kaM_r]
  refine loopI tabOK mixed [] (fun y : Nat × AH × List AV × List AV × List Nat × List Nat => y.1 ≤ l.length ∧ MInv H b g tail fp DEntity.cd (l.drop y.1) (mkL DEntity.mk_ DEntity.cnt (l.take y.1) k) y.2.1 y.2.2.1 y.2.2.2.1 y.2.2.2.2.1 y.2.2.2.2.2) (fun y => l.length - y.1)
    (fun y => kaM_s0 (.gs b g 0 l.length cap 12 ex) (.int .i64 (k + cntL DEntity.cnt (l.take y.1))) (.int .i64 y.1) [] y.2.1) (0, H, [], as0, [], fp) ⟨by simp, by simpa [mkL] using MInv.start hg hown⟩ ⟨by simp [kaM_s0, LeL, LeV, cntL], rfl, rfl⟩ ?_
  rintro ⟨j, H', as1, as2, f1, f2⟩ ⟨hj, iv⟩
  simp only at hj iv
  simp only [EZM, q_bx, if_true, if_false, Nat.reduceAdd, Option.bind_some, Nat.reduceBEq, Nat.reduceLeDiff, kaM_r, kaM_s0, L0]
  refine c_split (fun hlt => ?_) (fun hge => ?_)
  rotate_left
  · have hge : j = l.length := by simp at hge; omega
    subst hge
    simp only [EZM, q_bx, if_true, if_false, Nat.reduceAdd, Option.bind_some, Nat.reduceBEq, Nat.reduceLeDiff, kaM_r]
    rw [List.drop_length, List.take_length] at iv
    rw [List.take_length]
    exact ⟨rfl, rfl, iv.done mkL_len (fun _ => rfl) ht hc⟩
  have hlt : j < l.length := by simpa using hlt
  have htk := cntL_take DEntity.cnt hlt
  have hle := cntL_le (c := DEntity.cnt) DEntity.cnt_nn hlt
  have hnn := cntL_nn (c := DEntity.cnt) DEntity.cnt_nn (l.take j)
  have hmt := mkL_take DEntity.mk_ DEntity.cnt hlt k
  rw [List.drop_eq_getElem_cons hlt] at iv
  obtain ⟨x, hx⟩ : ∃ x, x = l[j] := ⟨_, rfl⟩
  rw [← hx] at iv
  try rw [← hx] at htk hle
  try rw [← hx] at hmt
  obtain ⟨kj, hkj⟩ : ∃ kj, kj = k + cntL DEntity.cnt (l.take j) := ⟨_, rfl⟩
  rw [← hkj] at hmt
  rw [← hkj]
  have hk0 : 0 ≤ kj := by omega
  have hkb : kj + DEntity.cnt x ≤ 9223372036854775000 := by omega
  obtain ⟨h1, h2, cs, post, fx, fr, e1, e2, rfl, rfl, q1, q2⟩ := iv.open
  have hfx : ∀ c ∈ fx, c ≠ b := fun c hc e => hbf (by rw [iv.fps, ← e]; simp [hc])
  have ndx : fx.Nodup := (List.nodup_append.1 (List.nodup_append.1 (iv.fps ▸ (List.nodup_cons.1 nd).2)).2.1).1
  have hn0 : as1.length = j * 12 := by rw [iv.o1.len, flat_len' (sz := 12) (fun y _ => rfl), mkL_len, List.length_take, Nat.min_eq_left hj]
  have i0 : aIdxs 12 (.gs b g 0 l.length cap 12 ex) (j : Int) = some (.gp b g as1.length) := by rw [idx_gs hlt, hn0, Nat.zero_add]
  have z0 := cntL_nn (c := DValue.cnt) DValue.cnt_nn x.slots
  have z1 := cntL_nn (c := DSent.cnt) DSent.cnt_nn x.queue
  have z2 := cntL_nn (c := DAsker.cnt) DAsker.cnt_nn x.askers
  simp only [DEntity.cnt] at hkb
  have hox := ho _ (List.getElem_mem hlt); rw [← hx] at hox
  simp only [DEntity.cd, ownL_c, ownL_n, own_i, own_b, own_s] at q1
  obtain ⟨_, _, _, _, rfl, e0z, ⟨rfl, rfl⟩, ⟨_, _, _, _, rfl, e1z, ⟨rfl, rfl⟩, ⟨a2, _, g2, _, rfl, e2z, u2, ⟨_, _, _, _, rfl, e3z, ⟨rfl, rfl⟩, ⟨_, _, _, _, rfl, e4z, ⟨rfl, rfl⟩, ⟨_, _, _, _, rfl, e5z, ⟨rfl, rfl⟩, ⟨a6, _, g6, _, rfl, e6z, u6, ⟨a7, _, g7, _, rfl, e7z, u7, ⟨_, _, _, _, rfl, e8z, ⟨rfl, rfl⟩, ⟨_, _, _, _, rfl, e9z, ⟨rfl, rfl⟩, ⟨_, _, _, _, rfl, e10z, ⟨rfl, rfl⟩, ⟨_, _, _, _, rfl, e11z, ⟨rfl, rfl⟩, ⟨rfl, e12z⟩⟩⟩⟩⟩⟩⟩⟩⟩⟩⟩⟩⟩ := q1
  have hfxe : fx = (g2 ++ (g6 ++ (g7 ++ []))) := by rw [e0z, e1z, e2z, e3z, e4z, e5z, e6z, e7z, e8z, e9z, e10z, e11z, e12z]; simp
  have ow : OwnL H' [a2, a6, a7] [.sl 2 (x.slots.map DValue.cd), .sl 7 (x.queue.map DSent.cd), .sl 2 (x.askers.map DAsker.cd)] fx := by rw [hfxe]; exact (.o u2 (.o u6 (.o u7 .nil)))
  obtain ⟨c2a, c2b, c2c, c2d⟩ := u2.cell
  obtain ⟨c6a, c6b, c6c, c6d⟩ := u6.cell
  obtain ⟨c7a, c7b, c7c, c7d⟩ := u7.cell
  have hlen0 := (rfl : H'.length = H'.length)
  have fr0 : ∀ c, c ≠ b → c ∉ fx → H'[c]? = H'[c]? := fun _ _ _ => rfl
  have w0 : IntKind.i64.wrap (kj + 1) = kj + 1 := (wrap_nat (by omega) (by omega)).trans (by omega)
  have w1 : IntKind.i64.wrap (kj + 1 + 1) = kj + 2 := (wrap_nat (by omega) (by omega)).trans (by omega)
  have w3 : IntKind.i64.wrap (kj + 2 + cntL DValue.cnt x.slots + 1) = kj + 3 + cntL DValue.cnt x.slots := (wrap_nat (by omega) (by omega)).trans (by omega)
  have w4 : IntKind.i64.wrap (kj + 3 + cntL DValue.cnt x.slots + 1) = kj + 4 + cntL DValue.cnt x.slots := (wrap_nat (by omega) (by omega)).trans (by omega)
  have w5 : IntKind.i64.wrap (kj + 4 + cntL DValue.cnt x.slots + 1) = kj + 5 + cntL DValue.cnt x.slots := (wrap_nat (by omega) (by omega)).trans (by omega)
  have w8 : IntKind.i64.wrap (kj + 5 + cntL DValue.cnt x.slots + cntL DSent.cnt x.queue + cntL DAsker.cnt x.askers + 1) = kj + 6 + cntL DValue.cnt x.slots + cntL DSent.cnt x.queue + cntL DAsker.cnt x.askers := (wrap_nat (by omega) (by omega)).trans (by omega)
  have w9 : IntKind.i64.wrap (kj + 6 + cntL DValue.cnt x.slots + cntL DSent.cnt x.queue + cntL DAsker.cnt x.askers + 1) = kj + 7 + cntL DValue.cnt x.slots + cntL DSent.cnt x.queue + cntL DAsker.cnt x.askers := (wrap_nat (by omega) (by omega)).trans (by omega)
  have w10 : IntKind.i64.wrap (kj + 7 + cntL DValue.cnt x.slots + cntL DSent.cnt x.queue + cntL DAsker.cnt x.askers + 1) = kj + 8 + cntL DValue.cnt x.slots + cntL DSent.cnt x.queue + cntL DAsker.cnt x.askers := (wrap_nat (by omega) (by omega)).trans (by omega)
  have w11 : IntKind.i64.wrap (kj + 8 + cntL DValue.cnt x.slots + cntL DSent.cnt x.queue + cntL DAsker.cnt x.askers + 1) = kj + 9 + cntL DValue.cnt x.slots + cntL DSent.cnt x.queue + cntL DAsker.cnt x.askers := (wrap_nat (by omega) (by omega)).trans (by omega)
  obtain ⟨H0, hH0⟩ : ∃ H0, H0 = H' := ⟨_, rfl⟩
  rw [← hH0] at iv q2 ow fr0 hlen0
  have fr0 : ∀ c, c ≠ b → c ∉ fx → H'[c]? = H0[c]? := fun _ _ _ => by rw [hH0]
  have hlen0 : H'.length = H0.length := by rw [hH0]
  rw [hH0] at ow
  replace e1 : H' = h1 ++ some (g, as1 ++ elc [.int .i64 x.kind, .int .i64 x.script, a2, .int .i64 x.state, .int .i64 x.value.kind, .int .i64 x.value.n, a6, a7, .int .i64 x.peer, .int .i64 x.pos, .int .i64 x.count, .int .i64 x.sent] (post ++ tail)) :: h2 := e1
  subst e1
  simp only [EZM, q_bx, if_true, if_false, Nat.reduceAdd, Option.bind_some, Nat.reduceBEq, Nat.reduceLeDiff, kaM_r, i0, st_el e2 rfl, rd_el e2 rfl, w0, w1, w3, w4, w5, w8, w9, w10, w11, c2a, c2b, c2c, c6a, c6b, c6c, c7a, c7b, c7c]
  obtain ⟨gi1, oi1, ni1, si1, bk1⟩ := OwnL.pick (A := []) (D := []) rfl (ow.frame fun c hc => at_ne e2 (hfx c hc)) ndx
  refine TCall.ref (by simp only [EO, c2d]) (kaU_T x.slots (kj + 2) (by omega) (by omega) (hox.1) _ oi1 ni1) ?_
  rintro _ hn ⟨rfl, hlen1, hfr1, un1⟩
  replace ow := bk1 hn _ hfr1 un1
  have fr1 : ∀ c, c ≠ b → c ∉ fx → hn[c]? = H0[c]? := fun c h1 h2 => (hfr1 c (fun h => h2 (si1 c h))).trans ((at_ne e2 h1).trans (fr0 c h1 h2))
  have hlen1 : hn.length = H0.length := by rw [hlen1]; (try rw [← hlen0]); (try simp)
  obtain ⟨p1, r1, rfl, eh1⟩ := heap_at (frame_hget (hget_at e2) (hfr1 b (fun h => hfx b (si1 b h) rfl)))
  simp only [EZM, q_bx, if_true, if_false, Nat.reduceAdd, Option.bind_some, Nat.reduceBEq, Nat.reduceLeDiff, kaM_r, i0, st_el eh1 rfl, rd_el eh1 rfl, w0, w1, w3, w4, w5, w8, w9, w10, w11, c2a, c2b, c2c, c6a, c6b, c6c, c7a, c7b, c7c]
  obtain ⟨gi2, oi2, ni2, si2, bk2⟩ := OwnL.pick (A := [a2]) (D := [_]) rfl (ow.frame fun c hc => at_ne eh1 (hfx c hc)) ndx
  refine TCall.ref (by simp only [EO, c6d]) (kaS_T x.queue (kj + 5 + cntL DValue.cnt x.slots) (by omega) (by omega) (hox.2.1) (hox.2.2.1) _ oi2 ni2) ?_
  rintro _ hn ⟨rfl, hlen2, hfr2, un2⟩
  replace ow := bk2 hn _ hfr2 un2
  have fr2 : ∀ c, c ≠ b → c ∉ fx → hn[c]? = H0[c]? := fun c h1 h2 => (hfr2 c (fun h => h2 (si2 c h))).trans ((at_ne eh1 h1).trans (fr1 c h1 h2))
  have hlen2 : hn.length = H0.length := by rw [hlen2]; (try rw [← hlen1]); (try simp)
  obtain ⟨p2, r2, rfl, eh2⟩ := heap_at (frame_hget (hget_at eh1) (hfr2 b (fun h => hfx b (si2 b h) rfl)))
  simp only [EZM, q_bx, if_true, if_false, Nat.reduceAdd, Option.bind_some, Nat.reduceBEq, Nat.reduceLeDiff, kaM_r, i0, st_el eh2 rfl, rd_el eh2 rfl, w0, w1, w3, w4, w5, w8, w9, w10, w11, c2a, c2b, c2c, c6a, c6b, c6c, c7a, c7b, c7c]
  obtain ⟨gi3, oi3, ni3, si3, bk3⟩ := OwnL.pick (A := [a2, a6]) (D := [_, _]) rfl (ow.frame fun c hc => at_ne eh2 (hfx c hc)) ndx
  refine TCall.ref (by simp only [EO, c7d]) (kaL_T x.askers (kj + 5 + cntL DValue.cnt x.slots + cntL DSent.cnt x.queue) (by omega) (by omega) (hox.2.2.2) _ oi3 ni3) ?_
  rintro _ hn ⟨rfl, hlen3, hfr3, un3⟩
  replace ow := bk3 hn _ hfr3 un3
  have fr3 : ∀ c, c ≠ b → c ∉ fx → hn[c]? = H0[c]? := fun c h1 h2 => (hfr3 c (fun h => h2 (si3 c h))).trans ((at_ne eh2 h1).trans (fr2 c h1 h2))
  have hlen3 : hn.length = H0.length := by rw [hlen3]; (try rw [← hlen2]); (try simp)
  obtain ⟨p3, r3, rfl, eh3⟩ := heap_at (frame_hget (hget_at eh2) (hfr3 b (fun h => hfx b (si3 b h) rfl)))
  simp only [EZM, q_bx, if_true, if_false, Nat.reduceAdd, Option.bind_some, Nat.reduceBEq, Nat.reduceLeDiff, kaM_r, i0, st_el eh3 rfl, rd_el eh3 rfl, w0, w1, w3, w4, w5, w8, w9, w10, w11, c2a, c2b, c2c, c6a, c6b, c6c, c7a, c7b, c7c]
  refine ⟨(j + 1, _, as1 ++ [.int .i64 (kj), .int .i64 (kj + 1), a2, .int .i64 (kj + 2 + cntL DValue.cnt x.slots), .int .i64 (kj + 3 + cntL DValue.cnt x.slots), .int .i64 (kj + 4 + cntL DValue.cnt x.slots), a6, a7, .int .i64 (kj + 5 + cntL DValue.cnt x.slots + cntL DSent.cnt x.queue + cntL DAsker.cnt x.askers), .int .i64 (kj + 6 + cntL DValue.cnt x.slots + cntL DSent.cnt x.queue + cntL DAsker.cnt x.askers), .int .i64 (kj + 7 + cntL DValue.cnt x.slots + cntL DSent.cnt x.queue + cntL DAsker.cnt x.askers), .int .i64 (kj + 8 + cntL DValue.cnt x.slots + cntL DSent.cnt x.queue + cntL DAsker.cnt x.askers)], post, f1 ++ fx, fr), ⟨hlt, ?inv⟩, (by simp only; omega), ⟨?le, rfl, rfl⟩⟩
  case inv =>
    simp only; rw [hmt]
    replace ow := ow.frame fun c hc => at_ne (x := some (g, as1 ++ elc [.int .i64 (kj), .int .i64 (kj + 1), a2, .int .i64 (kj + 2 + cntL DValue.cnt x.slots), .int .i64 (kj + 3 + cntL DValue.cnt x.slots), .int .i64 (kj + 4 + cntL DValue.cnt x.slots), a6, a7, .int .i64 (kj + 5 + cntL DValue.cnt x.slots + cntL DSent.cnt x.queue + cntL DAsker.cnt x.askers), .int .i64 (kj + 6 + cntL DValue.cnt x.slots + cntL DSent.cnt x.queue + cntL DAsker.cnt x.askers), .int .i64 (kj + 7 + cntL DValue.cnt x.slots + cntL DSent.cnt x.queue + cntL DAsker.cnt x.askers), .int .i64 (kj + 8 + cntL DValue.cnt x.slots + cntL DSent.cnt x.queue + cntL DAsker.cnt x.askers)] (post ++ tail))) eh3 (hfx c hc)
    obtain ⟨F0, R0, E0, O0, ⟨F1, R1, E1, O1, ⟨F2, R2, E2, O2, hz⟩⟩⟩ := ow
    have hz : R2 = [] := hz
    refine iv.next (y := DEntity.mk_ x kj) nd q2 (by rw [← hlen3]; (try simp)) (hget_at eh3) (fun c h1 h2 => (at_ne eh3 h1).trans (fr3 c h1 h2)) ?_
    rw [E0, E1, E2, hz]; exact (.i (.i (.o O0 (.i (.i (.i (.o O1 (.o O2 (.i (.i (.i (.i .nil))))))))))))
  case le =>
    have hfin : k + cntL DEntity.cnt (l.take (j + 1)) = kj + 9 + cntL DValue.cnt x.slots + cntL DSent.cnt x.queue + cntL DAsker.cnt x.askers := by rw [htk]; simp only [DEntity.cnt]; omega
    rw [hfin, wN (by omega)]; (try simp [kaM_s0, LeL, LeV])
theorem kaN_T (l : List DExport) (k : Int) (hk : 0 ≤ k) (hb : k + cntL DExport.cnt l ≤ 9223372036854775000) (hl : l.length ≤ 1073741824) (H : AH) {a : AV} {fp : List Nat} (o : Own H a (.sl 3 (l.map DExport.cd)) fp) (nd : fp.Nodup) :
    T Tryz.prog Γ Fn.kaN [a, .int .i64 k] H fun v h' => v = .int .i64 (k + cntL DExport.cnt l) ∧ (h'.length = H.length ∧ (∀ c, c ∉ fp → h'[c]? = H[c]?) ∧ Own h' a (.sl 3 ((mkL DExport.mk_ DExport.cnt l k).map DExport.cd)) fp) := by
  rcases o.sl_inv with ⟨rfl, e, rfl⟩ | ⟨b, g, cap, ex, as0, tail, fp, rfl, rfl, hg, hsz, ht, hc, hown⟩
  · have e : l = [] := by simpa using e
    subst e
    have L0 : lenI false .nils = some (.int .i64 0) := rfl
    refine kaN_e (aw_sound tabOK mixed [] _ _ _ ?_)
    unfold kaN_c
    simp only [EZM, q_bx, if_true, if_false, Nat.reduceAdd, Option.bind_some, Nat.reduceBEq, Nat.reduceLeDiff, kaN_r]
    refine loopI tabOK mixed [] (fun _ : Unit => True) (fun _ => 0) (fun _ => kaN_s0 .nils (.int .i64 k) (.int .i64 0) [] H) () trivial ⟨by simp [kaN_s0, LeL, LeV], rfl, rfl⟩ ?_
    intro _ _
    simp only [EZM, q_bx, if_true, if_false, Nat.reduceAdd, Option.bind_some, Nat.reduceBEq, Nat.reduceLeDiff, kaN_r, kaN_s0, L0, show decide ((0 : Int) < 0) = false from rfl]
    refine ⟨rfl, by simp [cntL], ?_⟩
    first | exact ⟨rfl, fun _ _ => rfl, .nil _⟩ | exact ⟨fun _ _ => trivial, .nil _⟩
  simp only [List.length_map] at hc o ⊢
  have L0 : lenI false (.gs b g 0 l.length cap 3 ex) = some (.int .i64 l.length) := rfl
  have hbf : b ∉ fp := (List.nodup_cons.1 nd).1
  refine kaN_e (aw_sound tabOK mixed [] _ _ _ ?_)
  unfold kaN_c
  simp only [EZM, q_bx, if_true, if_false, Nat.reduceAdd, Option.bind_some, Nat.reduceBEq, Nat.reduceLeDiff, kaN_r]
  refine loopI tabOK mixed [] (fun y : Nat × AH × List AV × List AV × List Nat × List Nat => y.1 ≤ l.length ∧ MInv H b g tail fp DExport.cd (l.drop y.1) (mkL DExport.mk_ DExport.cnt (l.take y.1) k) y.2.1 y.2.2.1 y.2.2.2.1 y.2.2.2.2.1 y.2.2.2.2.2) (fun y => l.length - y.1)
    (fun y => kaN_s0 (.gs b g 0 l.length cap 3 ex) (.int .i64 (k + cntL DExport.cnt (l.take y.1))) (.int .i64 y.1) [] y.2.1) (0, H, [], as0, [], fp) ⟨by simp, by simpa [mkL] using MInv.start hg hown⟩ ⟨by simp [kaN_s0, LeL, LeV, cntL], rfl, rfl⟩ ?_
  rintro ⟨j, H', as1, as2, f1, f2⟩ ⟨hj, iv⟩
  simp only at hj iv
  simp only [EZM, q_bx, if_true, if_false, Nat.reduceAdd, Option.bind_some, Nat.reduceBEq, Nat.reduceLeDiff, kaN_r, kaN_s0, L0]
  refine c_split (fun hlt => ?_) (fun hge => ?_)
  rotate_left
  · have hge : j = l.length := by simp at hge; omega
    subst hge
    simp only [EZM, q_bx, if_true, if_false, Nat.reduceAdd, Option.bind_some, Nat.reduceBEq, Nat.reduceLeDiff, kaN_r]
    rw [List.drop_length, List.take_length] at iv
    rw [List.take_length]
    exact ⟨rfl, rfl, iv.done mkL_len (fun _ => rfl) ht hc⟩
  have hlt : j < l.length := by simpa using hlt
  have htk := cntL_take DExport.cnt hlt
  have hle := cntL_le (c := DExport.cnt) DExport.cnt_nn hlt
  have hnn := cntL_nn (c := DExport.cnt) DExport.cnt_nn (l.take j)
  have hmt := mkL_take DExport.mk_ DExport.cnt hlt k
  rw [List.drop_eq_getElem_cons hlt] at iv
  obtain ⟨x, hx⟩ : ∃ x, x = l[j] := ⟨_, rfl⟩
  rw [← hx] at iv
  try rw [← hx] at htk hle
  try rw [← hx] at hmt
  obtain ⟨kj, hkj⟩ : ∃ kj, kj = k + cntL DExport.cnt (l.take j) := ⟨_, rfl⟩
  rw [← hkj] at hmt
  rw [← hkj]
  have hk0 : 0 ≤ kj := by omega
  have hkb : kj + DExport.cnt x ≤ 9223372036854775000 := by omega
  obtain ⟨h1, h2, cs, post, fx, fr, e1, e2, rfl, rfl, q1, q2⟩ := iv.open
  have hfx : ∀ c ∈ fx, c ≠ b := fun c hc e => hbf (by rw [iv.fps, ← e]; simp [hc])
  have ndx : fx.Nodup := (List.nodup_append.1 (List.nodup_append.1 (iv.fps ▸ (List.nodup_cons.1 nd).2)).2.1).1
  have hn0 : as1.length = j * 3 := by rw [iv.o1.len, flat_len' (sz := 3) (fun y _ => rfl), mkL_len, List.length_take, Nat.min_eq_left hj]
  have i0 : aIdxs 3 (.gs b g 0 l.length cap 3 ex) (j : Int) = some (.gp b g as1.length) := by rw [idx_gs hlt, hn0, Nat.zero_add]
  simp only [DExport.cnt] at hkb
  simp only [DExport.cd, ownL_c, ownL_n, own_i, own_b, own_s] at q1
  obtain ⟨_, _, _, _, rfl, e0z, ⟨rfl, rfl⟩, ⟨_, _, _, _, rfl, e1z, ⟨rfl, rfl⟩, ⟨_, _, _, _, rfl, e2z, ⟨rfl, rfl⟩, ⟨rfl, e3z⟩⟩⟩⟩ := q1
  have hfxe : fx = [] := by rw [e0z, e1z, e2z, e3z]; simp
  have ow : OwnL H' [] [] fx := by rw [hfxe]; exact .nil
  have hlen0 := (rfl : H'.length = H'.length)
  have fr0 : ∀ c, c ≠ b → c ∉ fx → H'[c]? = H'[c]? := fun _ _ _ => rfl
  have w0 : IntKind.i64.wrap (kj + 1) = kj + 1 := (wrap_nat (by omega) (by omega)).trans (by omega)
  have w1 : IntKind.i64.wrap (kj + 1 + 1) = kj + 2 := (wrap_nat (by omega) (by omega)).trans (by omega)
  have w2 : IntKind.i64.wrap (kj + 2 + 1) = kj + 3 := (wrap_nat (by omega) (by omega)).trans (by omega)
  obtain ⟨H0, hH0⟩ : ∃ H0, H0 = H' := ⟨_, rfl⟩
  rw [← hH0] at iv q2 ow fr0 hlen0
  have fr0 : ∀ c, c ≠ b → c ∉ fx → H'[c]? = H0[c]? := fun _ _ _ => by rw [hH0]
  have hlen0 : H'.length = H0.length := by rw [hH0]
  rw [hH0] at ow
  replace e1 : H' = h1 ++ some (g, as1 ++ elc [.int .i64 x.pos, .int .i64 x.entity, .int .i64 x.count] (post ++ tail)) :: h2 := e1
  subst e1
  simp only [EZM, q_bx, if_true, if_false, Nat.reduceAdd, Option.bind_some, Nat.reduceBEq, Nat.reduceLeDiff, kaN_r, i0, st_el e2 rfl, rd_el e2 rfl, w0, w1, w2]
  refine ⟨(j + 1, _, as1 ++ [.int .i64 (kj), .int .i64 (kj + 1), .int .i64 (kj + 2)], post, f1 ++ [], fr), ⟨hlt, ?inv⟩, (by simp only; omega), ⟨?le, rfl, rfl⟩⟩
  case inv =>
    simp only; rw [hmt]
    subst hfxe
    exact iv.next (y := DExport.mk_ x kj) nd q2 (by rw [← hlen0]; (try simp)) (hget_at e2) (fun c h1 h2 => (at_ne e2 h1).trans (fr0 c h1 h2)) (.i (.i (.i .nil)))
  case le =>
    have hfin : k + cntL DExport.cnt (l.take (j + 1)) = kj + 3 := by rw [htk]; simp only [DExport.cnt]; omega
    rw [hfin, wN (by omega)]; (try simp [kaN_s0, LeL, LeV])
theorem kaR_T (l : List DQuestion) (k : Int) (hk : 0 ≤ k) (hb : k + cntL DQuestion.cnt l ≤ 9223372036854775000) (hl : l.length ≤ 1073741824) (H : AH) {a : AV} {fp : List Nat} (o : Own H a (.sl 2 (l.map DQuestion.cd)) fp) (nd : fp.Nodup) :
    T Tryz.prog Γ Fn.kaR [a, .int .i64 k] H fun v h' => v = .int .i64 (k + cntL DQuestion.cnt l) ∧ (h'.length = H.length ∧ (∀ c, c ∉ fp → h'[c]? = H[c]?) ∧ Own h' a (.sl 2 ((mkL DQuestion.mk_ DQuestion.cnt l k).map DQuestion.cd)) fp) := by
  rcases o.sl_inv with ⟨rfl, e, rfl⟩ | ⟨b, g, cap, ex, as0, tail, fp, rfl, rfl, hg, hsz, ht, hc, hown⟩
  · have e : l = [] := by simpa using e
    subst e
    have L0 : lenI false .nils = some (.int .i64 0) := rfl
    refine kaR_e (aw_sound tabOK mixed [] _ _ _ ?_)
    unfold kaR_c
    simp only [EZM, q_bx, if_true, if_false, Nat.reduceAdd, Option.bind_some, Nat.reduceBEq, Nat.reduceLeDiff, kaR_r]
    refine loopI tabOK mixed [] (fun _ : Unit => True) (fun _ => 0) (fun _ => kaR_s0 .nils (.int .i64 k) (.int .i64 0) [] H) () trivial ⟨by simp [kaR_s0, LeL, LeV], rfl, rfl⟩ ?_
    intro _ _
    simp only [EZM, q_bx, if_true, if_false, Nat.reduceAdd, Option.bind_some, Nat.reduceBEq, Nat.reduceLeDiff, kaR_r, kaR_s0, L0, show decide ((0 : Int) < 0) = false from rfl]
    refine ⟨rfl, by simp [cntL], ?_⟩
    first | exact ⟨rfl, fun _ _ => rfl, .nil _⟩ | exact ⟨fun _ _ => trivial, .nil _⟩
  simp only [List.length_map] at hc o ⊢
  have L0 : lenI false (.gs b g 0 l.length cap 2 ex) = some (.int .i64 l.length) := rfl
  have hbf : b ∉ fp := (List.nodup_cons.1 nd).1
  refine kaR_e (aw_sound tabOK mixed [] _ _ _ ?_)
  unfold kaR_c
  simp only [EZM, q_bx, if_true, if_false, Nat.reduceAdd, Option.bind_some, Nat.reduceBEq, Nat.reduceLeDiff, kaR_r]
  refine loopI tabOK mixed [] (fun y : Nat × AH × List AV × List AV × List Nat × List Nat => y.1 ≤ l.length ∧ MInv H b g tail fp DQuestion.cd (l.drop y.1) (mkL DQuestion.mk_ DQuestion.cnt (l.take y.1) k) y.2.1 y.2.2.1 y.2.2.2.1 y.2.2.2.2.1 y.2.2.2.2.2) (fun y => l.length - y.1)
    (fun y => kaR_s0 (.gs b g 0 l.length cap 2 ex) (.int .i64 (k + cntL DQuestion.cnt (l.take y.1))) (.int .i64 y.1) [] y.2.1) (0, H, [], as0, [], fp) ⟨by simp, by simpa [mkL] using MInv.start hg hown⟩ ⟨by simp [kaR_s0, LeL, LeV, cntL], rfl, rfl⟩ ?_
  rintro ⟨j, H', as1, as2, f1, f2⟩ ⟨hj, iv⟩
  simp only at hj iv
  simp only [EZM, q_bx, if_true, if_false, Nat.reduceAdd, Option.bind_some, Nat.reduceBEq, Nat.reduceLeDiff, kaR_r, kaR_s0, L0]
  refine c_split (fun hlt => ?_) (fun hge => ?_)
  rotate_left
  · have hge : j = l.length := by simp at hge; omega
    subst hge
    simp only [EZM, q_bx, if_true, if_false, Nat.reduceAdd, Option.bind_some, Nat.reduceBEq, Nat.reduceLeDiff, kaR_r]
    rw [List.drop_length, List.take_length] at iv
    rw [List.take_length]
    exact ⟨rfl, rfl, iv.done mkL_len (fun _ => rfl) ht hc⟩
  have hlt : j < l.length := by simpa using hlt
  have htk := cntL_take DQuestion.cnt hlt
  have hle := cntL_le (c := DQuestion.cnt) DQuestion.cnt_nn hlt
  have hnn := cntL_nn (c := DQuestion.cnt) DQuestion.cnt_nn (l.take j)
  have hmt := mkL_take DQuestion.mk_ DQuestion.cnt hlt k
  rw [List.drop_eq_getElem_cons hlt] at iv
  obtain ⟨x, hx⟩ : ∃ x, x = l[j] := ⟨_, rfl⟩
  rw [← hx] at iv
  try rw [← hx] at htk hle
  try rw [← hx] at hmt
  obtain ⟨kj, hkj⟩ : ∃ kj, kj = k + cntL DQuestion.cnt (l.take j) := ⟨_, rfl⟩
  rw [← hkj] at hmt
  rw [← hkj]
  have hk0 : 0 ≤ kj := by omega
  have hkb : kj + DQuestion.cnt x ≤ 9223372036854775000 := by omega
  obtain ⟨h1, h2, cs, post, fx, fr, e1, e2, rfl, rfl, q1, q2⟩ := iv.open
  have hfx : ∀ c ∈ fx, c ≠ b := fun c hc e => hbf (by rw [iv.fps, ← e]; simp [hc])
  have ndx : fx.Nodup := (List.nodup_append.1 (List.nodup_append.1 (iv.fps ▸ (List.nodup_cons.1 nd).2)).2.1).1
  have hn0 : as1.length = j * 2 := by rw [iv.o1.len, flat_len' (sz := 2) (fun y _ => rfl), mkL_len, List.length_take, Nat.min_eq_left hj]
  have i0 : aIdxs 2 (.gs b g 0 l.length cap 2 ex) (j : Int) = some (.gp b g as1.length) := by rw [idx_gs hlt, hn0, Nat.zero_add]
  simp only [DQuestion.cnt] at hkb
  simp only [DQuestion.cd, ownL_c, ownL_n, own_i, own_b, own_s] at q1
  obtain ⟨_, _, _, _, rfl, e0z, ⟨rfl, rfl⟩, ⟨_, _, _, _, rfl, e1z, ⟨rfl, rfl⟩, ⟨rfl, e2z⟩⟩⟩ := q1
  have hfxe : fx = [] := by rw [e0z, e1z, e2z]; simp
  have ow : OwnL H' [] [] fx := by rw [hfxe]; exact .nil
  have hlen0 := (rfl : H'.length = H'.length)
  have fr0 : ∀ c, c ≠ b → c ∉ fx → H'[c]? = H'[c]? := fun _ _ _ => rfl
  have w0 : IntKind.i64.wrap (kj + 1) = kj + 1 := (wrap_nat (by omega) (by omega)).trans (by omega)
  have w1 : IntKind.i64.wrap (kj + 1 + 1) = kj + 2 := (wrap_nat (by omega) (by omega)).trans (by omega)
  obtain ⟨H0, hH0⟩ : ∃ H0, H0 = H' := ⟨_, rfl⟩
  rw [← hH0] at iv q2 ow fr0 hlen0
  have fr0 : ∀ c, c ≠ b → c ∉ fx → H'[c]? = H0[c]? := fun _ _ _ => by rw [hH0]
  have hlen0 : H'.length = H0.length := by rw [hH0]
  rw [hH0] at ow
  replace e1 : H' = h1 ++ some (g, as1 ++ elc [.int .i64 x.id, .int .i64 x.promise] (post ++ tail)) :: h2 := e1
  subst e1
  simp only [EZM, q_bx, if_true, if_false, Nat.reduceAdd, Option.bind_some, Nat.reduceBEq, Nat.reduceLeDiff, kaR_r, i0, st_el e2 rfl, rd_el e2 rfl, w0, w1]
  refine ⟨(j + 1, _, as1 ++ [.int .i64 (kj), .int .i64 (kj + 1)], post, f1 ++ [], fr), ⟨hlt, ?inv⟩, (by simp only; omega), ⟨?le, rfl, rfl⟩⟩
  case inv =>
    simp only; rw [hmt]
    subst hfxe
    exact iv.next (y := DQuestion.mk_ x kj) nd q2 (by rw [← hlen0]; (try simp)) (hget_at e2) (fun c h1 h2 => (at_ne e2 h1).trans (fr0 c h1 h2)) (.i (.i .nil))
  case le =>
    have hfin : k + cntL DQuestion.cnt (l.take (j + 1)) = kj + 2 := by rw [htk]; simp only [DQuestion.cnt]; omega
    rw [hfin, wN (by omega)]; (try simp [kaR_s0, LeL, LeV])
theorem kaP_T (l : List DLink) (k : Int) (hk : 0 ≤ k) (hb : k + cntL DLink.cnt l ≤ 9223372036854775000) (hl : l.length ≤ 1073741824) (ho : ∀ x ∈ l, x.ok 1073741824) (H : AH) {a : AV} {fp : List Nat} (o : Own H a (.sl 7 (l.map DLink.cd)) fp) (nd : fp.Nodup) :
    T Tryz.prog Γ Fn.kaP [a, .int .i64 k] H fun v h' => v = .int .i64 (k + cntL DLink.cnt l) ∧ (h'.length = H.length ∧ (∀ c, c ∉ fp → h'[c]? = H[c]?) ∧ Own h' a (.sl 7 ((mkL DLink.mk_ DLink.cnt l k).map DLink.cd)) fp) := by
  rcases o.sl_inv with ⟨rfl, e, rfl⟩ | ⟨b, g, cap, ex, as0, tail, fp, rfl, rfl, hg, hsz, ht, hc, hown⟩
  · have e : l = [] := by simpa using e
    subst e
    have L0 : lenI false .nils = some (.int .i64 0) := rfl
    refine kaP_e (aw_sound tabOK mixed [] _ _ _ ?_)
    unfold kaP_c
    simp only [EZM, q_bx, if_true, if_false, Nat.reduceAdd, Option.bind_some, Nat.reduceBEq, Nat.reduceLeDiff, kaP_r]
    refine loopI tabOK mixed [] (fun _ : Unit => True) (fun _ => 0) (fun _ => kaP_s0 .nils (.int .i64 k) (.int .i64 0) [] H) () trivial ⟨by simp [kaP_s0, LeL, LeV], rfl, rfl⟩ ?_
    intro _ _
    simp only [EZM, q_bx, if_true, if_false, Nat.reduceAdd, Option.bind_some, Nat.reduceBEq, Nat.reduceLeDiff, kaP_r, kaP_s0, L0, show decide ((0 : Int) < 0) = false from rfl]
    refine ⟨rfl, by simp [cntL], ?_⟩
    first | exact ⟨rfl, fun _ _ => rfl, .nil _⟩ | exact ⟨fun _ _ => trivial, .nil _⟩
  simp only [List.length_map] at hc o ⊢
  have L0 : lenI false (.gs b g 0 l.length cap 7 ex) = some (.int .i64 l.length) := rfl
  have hbf : b ∉ fp := (List.nodup_cons.1 nd).1
  refine kaP_e (aw_sound tabOK mixed [] _ _ _ ?_)
  unfold kaP_c
  simp only [EZM, q_bx, if_true, if_false, Nat.reduceAdd, Option.bind_some, Nat.reduceBEq, Nat.reduceLeDiff, kaP_r]
  refine loopI tabOK mixed [] (fun y : Nat × AH × List AV × List AV × List Nat × List Nat => y.1 ≤ l.length ∧ MInv H b g tail fp DLink.cd (l.drop y.1) (mkL DLink.mk_ DLink.cnt (l.take y.1) k) y.2.1 y.2.2.1 y.2.2.2.1 y.2.2.2.2.1 y.2.2.2.2.2) (fun y => l.length - y.1)
    (fun y => kaP_s0 (.gs b g 0 l.length cap 7 ex) (.int .i64 (k + cntL DLink.cnt (l.take y.1))) (.int .i64 y.1) [] y.2.1) (0, H, [], as0, [], fp) ⟨by simp, by simpa [mkL] using MInv.start hg hown⟩ ⟨by simp [kaP_s0, LeL, LeV, cntL], rfl, rfl⟩ ?_
  rintro ⟨j, H', as1, as2, f1, f2⟩ ⟨hj, iv⟩
  simp only at hj iv
  simp only [EZM, q_bx, if_true, if_false, Nat.reduceAdd, Option.bind_some, Nat.reduceBEq, Nat.reduceLeDiff, kaP_r, kaP_s0, L0]
  refine c_split (fun hlt => ?_) (fun hge => ?_)
  rotate_left
  · have hge : j = l.length := by simp at hge; omega
    subst hge
    simp only [EZM, q_bx, if_true, if_false, Nat.reduceAdd, Option.bind_some, Nat.reduceBEq, Nat.reduceLeDiff, kaP_r]
    rw [List.drop_length, List.take_length] at iv
    rw [List.take_length]
    exact ⟨rfl, rfl, iv.done mkL_len (fun _ => rfl) ht hc⟩
  have hlt : j < l.length := by simpa using hlt
  have htk := cntL_take DLink.cnt hlt
  have hle := cntL_le (c := DLink.cnt) DLink.cnt_nn hlt
  have hnn := cntL_nn (c := DLink.cnt) DLink.cnt_nn (l.take j)
  have hmt := mkL_take DLink.mk_ DLink.cnt hlt k
  rw [List.drop_eq_getElem_cons hlt] at iv
  obtain ⟨x, hx⟩ : ∃ x, x = l[j] := ⟨_, rfl⟩
  rw [← hx] at iv
  try rw [← hx] at htk hle
  try rw [← hx] at hmt
  obtain ⟨kj, hkj⟩ : ∃ kj, kj = k + cntL DLink.cnt (l.take j) := ⟨_, rfl⟩
  rw [← hkj] at hmt
  rw [← hkj]
  have hk0 : 0 ≤ kj := by omega
  have hkb : kj + DLink.cnt x ≤ 9223372036854775000 := by omega
  obtain ⟨h1, h2, cs, post, fx, fr, e1, e2, rfl, rfl, q1, q2⟩ := iv.open
  have hfx : ∀ c ∈ fx, c ≠ b := fun c hc e => hbf (by rw [iv.fps, ← e]; simp [hc])
  have ndx : fx.Nodup := (List.nodup_append.1 (List.nodup_append.1 (iv.fps ▸ (List.nodup_cons.1 nd).2)).2.1).1
  have hn0 : as1.length = j * 7 := by rw [iv.o1.len, flat_len' (sz := 7) (fun y _ => rfl), mkL_len, List.length_take, Nat.min_eq_left hj]
  have i0 : aIdxs 7 (.gs b g 0 l.length cap 7 ex) (j : Int) = some (.gp b g as1.length) := by rw [idx_gs hlt, hn0, Nat.zero_add]
  have z0 := cntL_nn (c := DExport.cnt) DExport.cnt_nn x.exports
  have z1 := cntL_nn (c := DQuestion.cnt) DQuestion.cnt_nn x.questions
  have z2 := cntL_nn (c := DQuestion.cnt) DQuestion.cnt_nn x.answers
  simp only [DLink.cnt] at hkb
  have hox := ho _ (List.getElem_mem hlt); rw [← hx] at hox
  simp only [DLink.cd, ownL_c, ownL_n, own_i, own_b, own_s] at q1
  obtain ⟨_, _, _, _, rfl, e0z, ⟨rfl, rfl⟩, ⟨_, _, _, _, rfl, e1z, ⟨rfl, rfl⟩, ⟨a2, _, g2, _, rfl, e2z, u2, ⟨_, _, _, _, rfl, e3z, ⟨rfl, rfl⟩, ⟨a4, _, g4, _, rfl, e4z, u4, ⟨_, _, _, _, rfl, e5z, ⟨rfl, rfl⟩, ⟨a6, _, g6, _, rfl, e6z, u6, ⟨rfl, e7z⟩⟩⟩⟩⟩⟩⟩⟩ := q1
  have hfxe : fx = (g2 ++ (g4 ++ (g6 ++ []))) := by rw [e0z, e1z, e2z, e3z, e4z, e5z, e6z, e7z]; simp
  have ow : OwnL H' [a2, a4, a6] [.sl 3 (x.exports.map DExport.cd), .sl 2 (x.questions.map DQuestion.cd), .sl 2 (x.answers.map DQuestion.cd)] fx := by rw [hfxe]; exact (.o u2 (.o u4 (.o u6 .nil)))
  obtain ⟨c2a, c2b, c2c, c2d⟩ := u2.cell
  obtain ⟨c4a, c4b, c4c, c4d⟩ := u4.cell
  obtain ⟨c6a, c6b, c6c, c6d⟩ := u6.cell
  have hlen0 := (rfl : H'.length = H'.length)
  have fr0 : ∀ c, c ≠ b → c ∉ fx → H'[c]? = H'[c]? := fun _ _ _ => rfl
  have w0 : IntKind.i64.wrap (kj + 1) = kj + 1 := (wrap_nat (by omega) (by omega)).trans (by omega)
  have w1 : IntKind.i64.wrap (kj + 1 + 1) = kj + 2 := (wrap_nat (by omega) (by omega)).trans (by omega)
  have m1 : aBin .rem .num (.int .i64 (kj + 1)) (.int .i64 3) = some (.int .i64 ((kj + 1) % 3)) := by simp only [aBin, aArith, if_true]; rw [if_neg (by decide), Int.tmod_eq_emod_of_nonneg (by omega)]
  have w3 : IntKind.i64.wrap (kj + 2 + cntL DExport.cnt x.exports + 1) = kj + 3 + cntL DExport.cnt x.exports := (wrap_nat (by omega) (by omega)).trans (by omega)
  have w5 : IntKind.i64.wrap (kj + 3 + cntL DExport.cnt x.exports + cntL DQuestion.cnt x.questions + 1) = kj + 4 + cntL DExport.cnt x.exports + cntL DQuestion.cnt x.questions := (wrap_nat (by omega) (by omega)).trans (by omega)
  obtain ⟨H0, hH0⟩ : ∃ H0, H0 = H' := ⟨_, rfl⟩
  rw [← hH0] at iv q2 ow fr0 hlen0
  have fr0 : ∀ c, c ≠ b → c ∉ fx → H'[c]? = H0[c]? := fun _ _ _ => by rw [hH0]
  have hlen0 : H'.length = H0.length := by rw [hH0]
  rw [hH0] at ow
  replace e1 : H' = h1 ++ some (g, as1 ++ elc [.int .i64 x.peer, .bool x.up, a2, .int .i64 x.next, a4, .int .i64 x.asked, a6] (post ++ tail)) :: h2 := e1
  subst e1
  simp only [EZM, q_bx, if_true, if_false, Nat.reduceAdd, Option.bind_some, Nat.reduceBEq, Nat.reduceLeDiff, kaP_r, i0, st_el e2 rfl, rd_el e2 rfl, w0, w1, m1, beq_dec, w3, w5, c2a, c2b, c2c, c4a, c4b, c4c, c6a, c6b, c6c]
  obtain ⟨gi1, oi1, ni1, si1, bk1⟩ := OwnL.pick (A := []) (D := []) rfl (ow.frame fun c hc => at_ne e2 (hfx c hc)) ndx
  refine TCall.ref (by simp only [EO, c2d]) (kaN_T x.exports (kj + 2) (by omega) (by omega) (hox.1) _ oi1 ni1) ?_
  rintro _ hn ⟨rfl, hlen1, hfr1, un1⟩
  replace ow := bk1 hn _ hfr1 un1
  have fr1 : ∀ c, c ≠ b → c ∉ fx → hn[c]? = H0[c]? := fun c h1 h2 => (hfr1 c (fun h => h2 (si1 c h))).trans ((at_ne e2 h1).trans (fr0 c h1 h2))
  have hlen1 : hn.length = H0.length := by rw [hlen1]; (try rw [← hlen0]); (try simp)
  obtain ⟨p1, r1, rfl, eh1⟩ := heap_at (frame_hget (hget_at e2) (hfr1 b (fun h => hfx b (si1 b h) rfl)))
  simp only [EZM, q_bx, if_true, if_false, Nat.reduceAdd, Option.bind_some, Nat.reduceBEq, Nat.reduceLeDiff, kaP_r, i0, st_el eh1 rfl, rd_el eh1 rfl, w0, w1, m1, beq_dec, w3, w5, c2a, c2b, c2c, c4a, c4b, c4c, c6a, c6b, c6c]
  obtain ⟨gi2, oi2, ni2, si2, bk2⟩ := OwnL.pick (A := [a2]) (D := [_]) rfl (ow.frame fun c hc => at_ne eh1 (hfx c hc)) ndx
  refine TCall.ref (by simp only [EO, c4d]) (kaR_T x.questions (kj + 3 + cntL DExport.cnt x.exports) (by omega) (by omega) (hox.2.1) _ oi2 ni2) ?_
  rintro _ hn ⟨rfl, hlen2, hfr2, un2⟩
  replace ow := bk2 hn _ hfr2 un2
  have fr2 : ∀ c, c ≠ b → c ∉ fx → hn[c]? = H0[c]? := fun c h1 h2 => (hfr2 c (fun h => h2 (si2 c h))).trans ((at_ne eh1 h1).trans (fr1 c h1 h2))
  have hlen2 : hn.length = H0.length := by rw [hlen2]; (try rw [← hlen1]); (try simp)
  obtain ⟨p2, r2, rfl, eh2⟩ := heap_at (frame_hget (hget_at eh1) (hfr2 b (fun h => hfx b (si2 b h) rfl)))
  simp only [EZM, q_bx, if_true, if_false, Nat.reduceAdd, Option.bind_some, Nat.reduceBEq, Nat.reduceLeDiff, kaP_r, i0, st_el eh2 rfl, rd_el eh2 rfl, w0, w1, m1, beq_dec, w3, w5, c2a, c2b, c2c, c4a, c4b, c4c, c6a, c6b, c6c]
  obtain ⟨gi3, oi3, ni3, si3, bk3⟩ := OwnL.pick (A := [a2, a4]) (D := [_, _]) rfl (ow.frame fun c hc => at_ne eh2 (hfx c hc)) ndx
  refine TCall.ref (by simp only [EO, c6d]) (kaR_T x.answers (kj + 4 + cntL DExport.cnt x.exports + cntL DQuestion.cnt x.questions) (by omega) (by omega) (hox.2.2) _ oi3 ni3) ?_
  rintro _ hn ⟨rfl, hlen3, hfr3, un3⟩
  replace ow := bk3 hn _ hfr3 un3
  have fr3 : ∀ c, c ≠ b → c ∉ fx → hn[c]? = H0[c]? := fun c h1 h2 => (hfr3 c (fun h => h2 (si3 c h))).trans ((at_ne eh2 h1).trans (fr2 c h1 h2))
  have hlen3 : hn.length = H0.length := by rw [hlen3]; (try rw [← hlen2]); (try simp)
  obtain ⟨p3, r3, rfl, eh3⟩ := heap_at (frame_hget (hget_at eh2) (hfr3 b (fun h => hfx b (si3 b h) rfl)))
  simp only [EZM, q_bx, if_true, if_false, Nat.reduceAdd, Option.bind_some, Nat.reduceBEq, Nat.reduceLeDiff, kaP_r, i0, st_el eh3 rfl, rd_el eh3 rfl, w0, w1, m1, beq_dec, w3, w5, c2a, c2b, c2c, c4a, c4b, c4c, c6a, c6b, c6c]
  refine ⟨(j + 1, _, as1 ++ [.int .i64 (kj), .bool (decide ((kj + 1) % 3 = 0)), a2, .int .i64 (kj + 2 + cntL DExport.cnt x.exports), a4, .int .i64 (kj + 3 + cntL DExport.cnt x.exports + cntL DQuestion.cnt x.questions), a6], post, f1 ++ fx, fr), ⟨hlt, ?inv⟩, (by simp only; omega), ⟨?le, rfl, rfl⟩⟩
  case inv =>
    simp only; rw [hmt]
    replace ow := ow.frame fun c hc => at_ne (x := some (g, as1 ++ elc [.int .i64 (kj), .bool (decide ((kj + 1) % 3 = 0)), a2, .int .i64 (kj + 2 + cntL DExport.cnt x.exports), a4, .int .i64 (kj + 3 + cntL DExport.cnt x.exports + cntL DQuestion.cnt x.questions), a6] (post ++ tail))) eh3 (hfx c hc)
    obtain ⟨F0, R0, E0, O0, ⟨F1, R1, E1, O1, ⟨F2, R2, E2, O2, hz⟩⟩⟩ := ow
    have hz : R2 = [] := hz
    refine iv.next (y := DLink.mk_ x kj) nd q2 (by rw [← hlen3]; (try simp)) (hget_at eh3) (fun c h1 h2 => (at_ne eh3 h1).trans (fr3 c h1 h2)) ?_
    rw [E0, E1, E2, hz]; exact (.i (.b (.o O0 (.i (.o O1 (.i (.o O2 .nil)))))))
  case le =>
    have hfin : k + cntL DLink.cnt (l.take (j + 1)) = kj + 4 + cntL DExport.cnt x.exports + cntL DQuestion.cnt x.questions + cntL DQuestion.cnt x.answers := by rw [htk]; simp only [DLink.cnt]; omega
    rw [hfin, wN (by omega)]; (try simp [kaP_s0, LeL, LeV])
theorem kaW_T (l : List DWire) (k : Int) (hk : 0 ≤ k) (hb : k + cntL DWire.cnt l ≤ 9223372036854775000) (hl : l.length ≤ 1073741824) (H : AH) {a : AV} {fp : List Nat} (o : Own H a (.sl 2 (l.map DWire.cd)) fp) (nd : fp.Nodup) :
    T Tryz.prog Γ Fn.kaW [a, .int .i64 k] H fun v h' => v = .int .i64 (k + cntL DWire.cnt l) ∧ (h'.length = H.length ∧ (∀ c, c ∉ fp → h'[c]? = H[c]?) ∧ Own h' a (.sl 2 ((mkL DWire.mk_ DWire.cnt l k).map DWire.cd)) fp) := by
  rcases o.sl_inv with ⟨rfl, e, rfl⟩ | ⟨b, g, cap, ex, as0, tail, fp, rfl, rfl, hg, hsz, ht, hc, hown⟩
  · have e : l = [] := by simpa using e
    subst e
    have L0 : lenI false .nils = some (.int .i64 0) := rfl
    refine kaW_e (aw_sound tabOK mixed [] _ _ _ ?_)
    unfold kaW_c
    simp only [EZM, q_bx, if_true, if_false, Nat.reduceAdd, Option.bind_some, Nat.reduceBEq, Nat.reduceLeDiff, kaW_r]
    refine loopI tabOK mixed [] (fun _ : Unit => True) (fun _ => 0) (fun _ => kaW_s0 .nils (.int .i64 k) (.int .i64 0) [] H) () trivial ⟨by simp [kaW_s0, LeL, LeV], rfl, rfl⟩ ?_
    intro _ _
    simp only [EZM, q_bx, if_true, if_false, Nat.reduceAdd, Option.bind_some, Nat.reduceBEq, Nat.reduceLeDiff, kaW_r, kaW_s0, L0, show decide ((0 : Int) < 0) = false from rfl]
    refine ⟨rfl, by simp [cntL], ?_⟩
    first | exact ⟨rfl, fun _ _ => rfl, .nil _⟩ | exact ⟨fun _ _ => trivial, .nil _⟩
  simp only [List.length_map] at hc o ⊢
  have L0 : lenI false (.gs b g 0 l.length cap 2 ex) = some (.int .i64 l.length) := rfl
  have hbf : b ∉ fp := (List.nodup_cons.1 nd).1
  refine kaW_e (aw_sound tabOK mixed [] _ _ _ ?_)
  unfold kaW_c
  simp only [EZM, q_bx, if_true, if_false, Nat.reduceAdd, Option.bind_some, Nat.reduceBEq, Nat.reduceLeDiff, kaW_r]
  refine loopI tabOK mixed [] (fun y : Nat × AH × List AV × List AV × List Nat × List Nat => y.1 ≤ l.length ∧ MInv H b g tail fp DWire.cd (l.drop y.1) (mkL DWire.mk_ DWire.cnt (l.take y.1) k) y.2.1 y.2.2.1 y.2.2.2.1 y.2.2.2.2.1 y.2.2.2.2.2) (fun y => l.length - y.1)
    (fun y => kaW_s0 (.gs b g 0 l.length cap 2 ex) (.int .i64 (k + cntL DWire.cnt (l.take y.1))) (.int .i64 y.1) [] y.2.1) (0, H, [], as0, [], fp) ⟨by simp, by simpa [mkL] using MInv.start hg hown⟩ ⟨by simp [kaW_s0, LeL, LeV, cntL], rfl, rfl⟩ ?_
  rintro ⟨j, H', as1, as2, f1, f2⟩ ⟨hj, iv⟩
  simp only at hj iv
  simp only [EZM, q_bx, if_true, if_false, Nat.reduceAdd, Option.bind_some, Nat.reduceBEq, Nat.reduceLeDiff, kaW_r, kaW_s0, L0]
  refine c_split (fun hlt => ?_) (fun hge => ?_)
  rotate_left
  · have hge : j = l.length := by simp at hge; omega
    subst hge
    simp only [EZM, q_bx, if_true, if_false, Nat.reduceAdd, Option.bind_some, Nat.reduceBEq, Nat.reduceLeDiff, kaW_r]
    rw [List.drop_length, List.take_length] at iv
    rw [List.take_length]
    exact ⟨rfl, rfl, iv.done mkL_len (fun _ => rfl) ht hc⟩
  have hlt : j < l.length := by simpa using hlt
  have htk := cntL_take DWire.cnt hlt
  have hle := cntL_le (c := DWire.cnt) DWire.cnt_nn hlt
  have hnn := cntL_nn (c := DWire.cnt) DWire.cnt_nn (l.take j)
  have hmt := mkL_take DWire.mk_ DWire.cnt hlt k
  rw [List.drop_eq_getElem_cons hlt] at iv
  obtain ⟨x, hx⟩ : ∃ x, x = l[j] := ⟨_, rfl⟩
  rw [← hx] at iv
  try rw [← hx] at htk hle
  try rw [← hx] at hmt
  obtain ⟨kj, hkj⟩ : ∃ kj, kj = k + cntL DWire.cnt (l.take j) := ⟨_, rfl⟩
  rw [← hkj] at hmt
  rw [← hkj]
  have hk0 : 0 ≤ kj := by omega
  have hkb : kj + DWire.cnt x ≤ 9223372036854775000 := by omega
  obtain ⟨h1, h2, cs, post, fx, fr, e1, e2, rfl, rfl, q1, q2⟩ := iv.open
  have hfx : ∀ c ∈ fx, c ≠ b := fun c hc e => hbf (by rw [iv.fps, ← e]; simp [hc])
  have ndx : fx.Nodup := (List.nodup_append.1 (List.nodup_append.1 (iv.fps ▸ (List.nodup_cons.1 nd).2)).2.1).1
  have hn0 : as1.length = j * 2 := by rw [iv.o1.len, flat_len' (sz := 2) (fun y _ => rfl), mkL_len, List.length_take, Nat.min_eq_left hj]
  have i0 : aIdxs 2 (.gs b g 0 l.length cap 2 ex) (j : Int) = some (.gp b g as1.length) := by rw [idx_gs hlt, hn0, Nat.zero_add]
  simp only [DWire.cnt] at hkb
  simp only [DWire.cd, ownL_c, ownL_n, own_i, own_b, own_s] at q1
  obtain ⟨_, _, _, _, rfl, e0z, ⟨rfl, rfl⟩, ⟨_, _, _, _, rfl, e1z, ⟨rfl, rfl⟩, ⟨rfl, e2z⟩⟩⟩ := q1
  have hfxe : fx = [] := by rw [e0z, e1z, e2z]; simp
  have ow : OwnL H' [] [] fx := by rw [hfxe]; exact .nil
  have hlen0 := (rfl : H'.length = H'.length)
  have fr0 : ∀ c, c ≠ b → c ∉ fx → H'[c]? = H'[c]? := fun _ _ _ => rfl
  have w0 : IntKind.i64.wrap (kj + 1) = kj + 1 := (wrap_nat (by omega) (by omega)).trans (by omega)
  have w1 : IntKind.i64.wrap (kj + 1 + 1) = kj + 2 := (wrap_nat (by omega) (by omega)).trans (by omega)
  obtain ⟨H0, hH0⟩ : ∃ H0, H0 = H' := ⟨_, rfl⟩
  rw [← hH0] at iv q2 ow fr0 hlen0
  have fr0 : ∀ c, c ≠ b → c ∉ fx → H'[c]? = H0[c]? := fun _ _ _ => by rw [hH0]
  have hlen0 : H'.length = H0.length := by rw [hH0]
  rw [hH0] at ow
  replace e1 : H' = h1 ++ some (g, as1 ++ elc [.int .i64 x.kind, .int .i64 x.n] (post ++ tail)) :: h2 := e1
  subst e1
  simp only [EZM, q_bx, if_true, if_false, Nat.reduceAdd, Option.bind_some, Nat.reduceBEq, Nat.reduceLeDiff, kaW_r, i0, st_el e2 rfl, rd_el e2 rfl, w0, w1]
  refine ⟨(j + 1, _, as1 ++ [.int .i64 (kj), .int .i64 (kj + 1)], post, f1 ++ [], fr), ⟨hlt, ?inv⟩, (by simp only; omega), ⟨?le, rfl, rfl⟩⟩
  case inv =>
    simp only; rw [hmt]
    subst hfxe
    exact iv.next (y := DWire.mk_ x kj) nd q2 (by rw [← hlen0]; (try simp)) (hget_at e2) (fun c h1 h2 => (at_ne e2 h1).trans (fr0 c h1 h2)) (.i (.i .nil))
  case le =>
    have hfin : k + cntL DWire.cnt (l.take (j + 1)) = kj + 2 := by rw [htk]; simp only [DWire.cnt]; omega
    rw [hfin, wN (by omega)]; (try simp [kaW_s0, LeL, LeV])
theorem kaQ_T (l : List DOutgoing) (k : Int) (hk : 0 ≤ k) (hb : k + cntL DOutgoing.cnt l ≤ 9223372036854775000) (hl : l.length ≤ 1073741824) (ho : ∀ x ∈ l, x.ok 1073741824) (H : AH) {a : AV} {fp : List Nat} (o : Own H a (.sl 13 (l.map DOutgoing.cd)) fp) (nd : fp.Nodup) :
    T Tryz.prog Γ Fn.kaQ [a, .int .i64 k] H fun v h' => v = .int .i64 (k + cntL DOutgoing.cnt l) ∧ (h'.length = H.length ∧ (∀ c, c ∉ fp → h'[c]? = H[c]?) ∧ Own h' a (.sl 13 ((mkL DOutgoing.mk_ DOutgoing.cnt l k).map DOutgoing.cd)) fp) := by
  rcases o.sl_inv with ⟨rfl, e, rfl⟩ | ⟨b, g, cap, ex, as0, tail, fp, rfl, rfl, hg, hsz, ht, hc, hown⟩
  · have e : l = [] := by simpa using e
    subst e
    have L0 : lenI false .nils = some (.int .i64 0) := rfl
    refine kaQ_e (aw_sound tabOK mixed [] _ _ _ ?_)
    unfold kaQ_c
    simp only [EZM, q_bx, if_true, if_false, Nat.reduceAdd, Option.bind_some, Nat.reduceBEq, Nat.reduceLeDiff, kaQ_r]
    refine loopI tabOK mixed [] (fun _ : Unit => True) (fun _ => 0) (fun _ => kaQ_s0 .nils (.int .i64 k) (.int .i64 0) [] H) () trivial ⟨by simp [kaQ_s0, LeL, LeV], rfl, rfl⟩ ?_
    intro _ _
    simp only [EZM, q_bx, if_true, if_false, Nat.reduceAdd, Option.bind_some, Nat.reduceBEq, Nat.reduceLeDiff, kaQ_r, kaQ_s0, L0, show decide ((0 : Int) < 0) = false from rfl]
    refine ⟨rfl, by simp [cntL], ?_⟩
    first | exact ⟨rfl, fun _ _ => rfl, .nil _⟩ | exact ⟨fun _ _ => trivial, .nil _⟩
  simp only [List.length_map] at hc o ⊢
  have L0 : lenI false (.gs b g 0 l.length cap 13 ex) = some (.int .i64 l.length) := rfl
  have hbf : b ∉ fp := (List.nodup_cons.1 nd).1
  refine kaQ_e (aw_sound tabOK mixed [] _ _ _ ?_)
  unfold kaQ_c
  simp only [EZM, q_bx, if_true, if_false, Nat.reduceAdd, Option.bind_some, Nat.reduceBEq, Nat.reduceLeDiff, kaQ_r]
  refine loopI tabOK mixed [] (fun y : Nat × AH × List AV × List AV × List Nat × List Nat => y.1 ≤ l.length ∧ MInv H b g tail fp DOutgoing.cd (l.drop y.1) (mkL DOutgoing.mk_ DOutgoing.cnt (l.take y.1) k) y.2.1 y.2.2.1 y.2.2.2.1 y.2.2.2.2.1 y.2.2.2.2.2) (fun y => l.length - y.1)
    (fun y => kaQ_s0 (.gs b g 0 l.length cap 13 ex) (.int .i64 (k + cntL DOutgoing.cnt (l.take y.1))) (.int .i64 y.1) [] y.2.1) (0, H, [], as0, [], fp) ⟨by simp, by simpa [mkL] using MInv.start hg hown⟩ ⟨by simp [kaQ_s0, LeL, LeV, cntL], rfl, rfl⟩ ?_
  rintro ⟨j, H', as1, as2, f1, f2⟩ ⟨hj, iv⟩
  simp only at hj iv
  simp only [EZM, q_bx, if_true, if_false, Nat.reduceAdd, Option.bind_some, Nat.reduceBEq, Nat.reduceLeDiff, kaQ_r, kaQ_s0, L0]
  refine c_split (fun hlt => ?_) (fun hge => ?_)
  rotate_left
  · have hge : j = l.length := by simp at hge; omega
    subst hge
    simp only [EZM, q_bx, if_true, if_false, Nat.reduceAdd, Option.bind_some, Nat.reduceBEq, Nat.reduceLeDiff, kaQ_r]
    rw [List.drop_length, List.take_length] at iv
    rw [List.take_length]
    exact ⟨rfl, rfl, iv.done mkL_len (fun _ => rfl) ht hc⟩
  have hlt : j < l.length := by simpa using hlt
  have htk := cntL_take DOutgoing.cnt hlt
  have hle := cntL_le (c := DOutgoing.cnt) DOutgoing.cnt_nn hlt
  have hnn := cntL_nn (c := DOutgoing.cnt) DOutgoing.cnt_nn (l.take j)
  have hmt := mkL_take DOutgoing.mk_ DOutgoing.cnt hlt k
  rw [List.drop_eq_getElem_cons hlt] at iv
  obtain ⟨x, hx⟩ : ∃ x, x = l[j] := ⟨_, rfl⟩
  rw [← hx] at iv
  try rw [← hx] at htk hle
  try rw [← hx] at hmt
  obtain ⟨kj, hkj⟩ : ∃ kj, kj = k + cntL DOutgoing.cnt (l.take j) := ⟨_, rfl⟩
  rw [← hkj] at hmt
  rw [← hkj]
  have hk0 : 0 ≤ kj := by omega
  have hkb : kj + DOutgoing.cnt x ≤ 9223372036854775000 := by omega
  obtain ⟨h1, h2, cs, post, fx, fr, e1, e2, rfl, rfl, q1, q2⟩ := iv.open
  have hfx : ∀ c ∈ fx, c ≠ b := fun c hc e => hbf (by rw [iv.fps, ← e]; simp [hc])
  have ndx : fx.Nodup := (List.nodup_append.1 (List.nodup_append.1 (iv.fps ▸ (List.nodup_cons.1 nd).2)).2.1).1
  have hn0 : as1.length = j * 13 := by rw [iv.o1.len, flat_len' (sz := 13) (fun y _ => rfl), mkL_len, List.length_take, Nat.min_eq_left hj]
  have i0 : aIdxs 13 (.gs b g 0 l.length cap 13 ex) (j : Int) = some (.gp b g as1.length) := by rw [idx_gs hlt, hn0, Nat.zero_add]
  have z0 := cntL_nn (c := DWire.cnt) DWire.cnt_nn x.message.args
  simp only [DOutgoing.cnt] at hkb
  have hox := ho _ (List.getElem_mem hlt); rw [← hx] at hox
  simp only [DOutgoing.cd, ownL_c, ownL_n, own_i, own_b, own_s] at q1
  obtain ⟨_, _, _, _, rfl, e0z, ⟨rfl, rfl⟩, ⟨_, _, _, _, rfl, e1z, ⟨rfl, rfl⟩, ⟨_, _, _, _, rfl, e2z, ⟨rfl, rfl⟩, ⟨_, _, _, _, rfl, e3z, ⟨rfl, rfl⟩, ⟨_, _, _, _, rfl, e4z, ⟨rfl, rfl⟩, ⟨_, _, _, _, rfl, e5z, ⟨rfl, rfl⟩, ⟨a6, _, g6, _, rfl, e6z, u6, ⟨_, _, _, _, rfl, e7z, ⟨rfl, rfl⟩, ⟨_, _, _, _, rfl, e8z, ⟨rfl, rfl⟩, ⟨_, _, _, _, rfl, e9z, ⟨rfl, rfl⟩, ⟨_, _, _, _, rfl, e10z, ⟨rfl, rfl⟩, ⟨_, _, _, _, rfl, e11z, ⟨rfl, rfl⟩, ⟨_, _, _, _, rfl, e12z, ⟨rfl, rfl⟩, ⟨rfl, e13z⟩⟩⟩⟩⟩⟩⟩⟩⟩⟩⟩⟩⟩⟩ := q1
  have hfxe : fx = (g6 ++ []) := by rw [e0z, e1z, e2z, e3z, e4z, e5z, e6z, e7z, e8z, e9z, e10z, e11z, e12z, e13z]; simp
  have ow : OwnL H' [a6] [.sl 2 (x.message.args.map DWire.cd)] fx := by rw [hfxe]; exact (.o u6 .nil)
  obtain ⟨c6a, c6b, c6c, c6d⟩ := u6.cell
  have hlen0 := (rfl : H'.length = H'.length)
  have fr0 : ∀ c, c ≠ b → c ∉ fx → H'[c]? = H'[c]? := fun _ _ _ => rfl
  have w0 : IntKind.i64.wrap (kj + 1) = kj + 1 := (wrap_nat (by omega) (by omega)).trans (by omega)
  have w1 : IntKind.i64.wrap (kj + 1 + 1) = kj + 2 := (wrap_nat (by omega) (by omega)).trans (by omega)
  have w2 : IntKind.i64.wrap (kj + 2 + 1) = kj + 3 := (wrap_nat (by omega) (by omega)).trans (by omega)
  have w3 : IntKind.i64.wrap (kj + 3 + 1) = kj + 4 := (wrap_nat (by omega) (by omega)).trans (by omega)
  have w4 : IntKind.i64.wrap (kj + 4 + 1) = kj + 5 := (wrap_nat (by omega) (by omega)).trans (by omega)
  have w5 : IntKind.i64.wrap (kj + 5 + 1) = kj + 6 := (wrap_nat (by omega) (by omega)).trans (by omega)
  have w7 : IntKind.i64.wrap (kj + 6 + cntL DWire.cnt x.message.args + 1) = kj + 7 + cntL DWire.cnt x.message.args := (wrap_nat (by omega) (by omega)).trans (by omega)
  have w8 : IntKind.i64.wrap (kj + 7 + cntL DWire.cnt x.message.args + 1) = kj + 8 + cntL DWire.cnt x.message.args := (wrap_nat (by omega) (by omega)).trans (by omega)
  have w9 : IntKind.i64.wrap (kj + 8 + cntL DWire.cnt x.message.args + 1) = kj + 9 + cntL DWire.cnt x.message.args := (wrap_nat (by omega) (by omega)).trans (by omega)
  have w10 : IntKind.i64.wrap (kj + 9 + cntL DWire.cnt x.message.args + 1) = kj + 10 + cntL DWire.cnt x.message.args := (wrap_nat (by omega) (by omega)).trans (by omega)
  have w11 : IntKind.i64.wrap (kj + 10 + cntL DWire.cnt x.message.args + 1) = kj + 11 + cntL DWire.cnt x.message.args := (wrap_nat (by omega) (by omega)).trans (by omega)
  have w12 : IntKind.i64.wrap (kj + 11 + cntL DWire.cnt x.message.args + 1) = kj + 12 + cntL DWire.cnt x.message.args := (wrap_nat (by omega) (by omega)).trans (by omega)
  obtain ⟨H0, hH0⟩ : ∃ H0, H0 = H' := ⟨_, rfl⟩
  rw [← hH0] at iv q2 ow fr0 hlen0
  have fr0 : ∀ c, c ≠ b → c ∉ fx → H'[c]? = H0[c]? := fun _ _ _ => by rw [hH0]
  have hlen0 : H'.length = H0.length := by rw [hH0]
  rw [hH0] at ow
  replace e1 : H' = h1 ++ some (g, as1 ++ elc [.int .i64 x.to_, .int .i64 x.message.kind, .int .i64 x.message.pos, .int .i64 x.message.answer, .int .i64 x.message.question, .str x.message.name, a6, .int .i64 x.message.value.kind, .int .i64 x.message.value.n, .int .i64 x.message.count, .int .i64 x.message.tag.vat, .int .i64 x.message.tag.entity, .int .i64 x.message.tag.seq] (post ++ tail)) :: h2 := e1
  subst e1
  simp only [EZM, q_bx, if_true, if_false, Nat.reduceAdd, Option.bind_some, Nat.reduceBEq, Nat.reduceLeDiff, kaQ_r, i0, st_el e2 rfl, rd_el e2 rfl, w0, w1, w2, w3, w4, w5, w7, w8, w9, w10, w11, w12, c6a, c6b, c6c]
  refine TCall.val (by simp only [EO]) (kaT_T (kj + 5) (by omega) (by omega) _) ?_
  simp only [EZM, q_bx, if_true, if_false, Nat.reduceAdd, Option.bind_some, Nat.reduceBEq, Nat.reduceLeDiff, kaQ_r, i0, st_el e2 rfl, rd_el e2 rfl, w0, w1, w2, w3, w4, w5, w7, w8, w9, w10, w11, w12, c6a, c6b, c6c]
  obtain ⟨gi1, oi1, ni1, si1, bk1⟩ := OwnL.pick (A := []) (D := []) rfl (ow.frame fun c hc => at_ne e2 (hfx c hc)) ndx
  refine TCall.ref (by simp only [EO, c6d]) (kaW_T x.message.args (kj + 6) (by omega) (by omega) (hox.2) _ oi1 ni1) ?_
  rintro _ hn ⟨rfl, hlen1, hfr1, un1⟩
  replace ow := bk1 hn _ hfr1 un1
  have fr1 : ∀ c, c ≠ b → c ∉ fx → hn[c]? = H0[c]? := fun c h1 h2 => (hfr1 c (fun h => h2 (si1 c h))).trans ((at_ne e2 h1).trans (fr0 c h1 h2))
  have hlen1 : hn.length = H0.length := by rw [hlen1]; (try rw [← hlen0]); (try simp)
  obtain ⟨p1, r1, rfl, eh1⟩ := heap_at (frame_hget (hget_at e2) (hfr1 b (fun h => hfx b (si1 b h) rfl)))
  simp only [EZM, q_bx, if_true, if_false, Nat.reduceAdd, Option.bind_some, Nat.reduceBEq, Nat.reduceLeDiff, kaQ_r, i0, st_el eh1 rfl, rd_el eh1 rfl, w0, w1, w2, w3, w4, w5, w7, w8, w9, w10, w11, w12, c6a, c6b, c6c]
  refine ⟨(j + 1, _, as1 ++ [.int .i64 (kj), .int .i64 (kj + 1), .int .i64 (kj + 2), .int .i64 (kj + 3), .int .i64 (kj + 4), .str (markT (kj + 5)), a6, .int .i64 (kj + 6 + cntL DWire.cnt x.message.args), .int .i64 (kj + 7 + cntL DWire.cnt x.message.args), .int .i64 (kj + 8 + cntL DWire.cnt x.message.args), .int .i64 (kj + 9 + cntL DWire.cnt x.message.args), .int .i64 (kj + 10 + cntL DWire.cnt x.message.args), .int .i64 (kj + 11 + cntL DWire.cnt x.message.args)], post, f1 ++ fx, fr), ⟨hlt, ?inv⟩, (by simp only; omega), ⟨?le, rfl, rfl⟩⟩
  case inv =>
    simp only; rw [hmt]
    replace ow := ow.frame fun c hc => at_ne (x := some (g, as1 ++ elc [.int .i64 (kj), .int .i64 (kj + 1), .int .i64 (kj + 2), .int .i64 (kj + 3), .int .i64 (kj + 4), .str (markT (kj + 5)), a6, .int .i64 (kj + 6 + cntL DWire.cnt x.message.args), .int .i64 (kj + 7 + cntL DWire.cnt x.message.args), .int .i64 (kj + 8 + cntL DWire.cnt x.message.args), .int .i64 (kj + 9 + cntL DWire.cnt x.message.args), .int .i64 (kj + 10 + cntL DWire.cnt x.message.args), .int .i64 (kj + 11 + cntL DWire.cnt x.message.args)] (post ++ tail))) eh1 (hfx c hc)
    obtain ⟨F0, R0, E0, O0, hz⟩ := ow
    have hz : R0 = [] := hz
    refine iv.next (y := DOutgoing.mk_ x kj) nd q2 (by rw [← hlen1]; (try simp)) (hget_at eh1) (fun c h1 h2 => (at_ne eh1 h1).trans (fr1 c h1 h2)) ?_
    rw [E0, hz]; exact (.i (.i (.i (.i (.i (.s (.o O0 (.i (.i (.i (.i (.i (.i .nil)))))))))))))
  case le =>
    have hfin : k + cntL DOutgoing.cnt (l.take (j + 1)) = kj + 12 + cntL DWire.cnt x.message.args := by rw [htk]; simp only [DOutgoing.cnt]; omega
    rw [hfin, wN (by omega)]; (try simp [kaQ_s0, LeL, LeV])
theorem kaK_T (β : Bool) (l : List Int) (k : Int) (hk : 0 ≤ k) (hb : k + cntL (fun (_ : Int) => (1 : Int)) l ≤ 9223372036854775000) (hl : l.length ≤ 1073741824) (h : AH) :
    T Tryz.prog Γ Fn.kaK [.vs β 1 false ((mkL (fun (_ : Int) k => k) (fun (_ : Int) => (1 : Int)) l k).map (fun n : Int => [AV.int .i64 n])), .int .i64 k] h fun v h' => v = .int .i64 (k + cntL (fun (_ : Int) => (1 : Int)) l) ∧ h' = h := by
  obtain ⟨M, hM⟩ : ∃ M, M = mkL (fun (_ : Int) k => k) (fun (_ : Int) => (1 : Int)) l k := ⟨_, rfl⟩
  have hlen : M.length = l.length := by rw [hM]; exact mkL_len
  rw [← hM]
  have L0 := len_vm β 1 false M (fun n : Int => [AV.int .i64 n])
  rw [hlen] at L0
  refine kaK_e (aw_sound tabOK mixed [] _ _ _ ?_)
  unfold kaK_c
  simp only [EZM, q_bx, if_true, if_false, Nat.reduceAdd, Option.bind_some, Nat.reduceBEq, Nat.reduceLeDiff, kaK_r]
  refine loopI tabOK mixed [] (fun j : Nat => j ≤ l.length) (fun j => l.length - j)
    (fun j => kaK_s0 (.vs β 1 false (M.map (fun n : Int => [AV.int .i64 n]))) (.int .i64 (k + cntL (fun (_ : Int) => (1 : Int)) (l.take j))) (.int .i64 j) [] h) 0 (by omega) ⟨by simp [kaK_s0, LeL, LeV, cntL], rfl, rfl⟩ ?_
  intro j hj
  simp only [EZM, q_bx, if_true, if_false, Nat.reduceAdd, Option.bind_some, Nat.reduceBEq, Nat.reduceLeDiff, kaK_r, kaK_s0, L0]
  refine c_split (fun hlt => ?_) (fun hge => ?_)
  rotate_left
  · have hge : j = l.length := by simp at hge; omega
    subst hge
    simp only [EZM, q_bx, if_true, if_false, Nat.reduceAdd, Option.bind_some, Nat.reduceBEq, Nat.reduceLeDiff, kaK_r]
    rw [List.take_length]
    first | exact ⟨rfl, rfl⟩ | exact rfl
  have hlt : j < l.length := by simpa using hlt
  have htk := cntL_take (fun (_ : Int) => (1 : Int)) hlt
  have hle := cntL_le (c := (fun (_ : Int) => (1 : Int))) (fun _ => by omega) hlt
  have hnn := cntL_nn (c := (fun (_ : Int) => (1 : Int))) (fun _ => by omega) (l.take j)
  have hg := mkL_get (fun (_ : Int) k => k) (fun (_ : Int) => (1 : Int)) hlt k
  have hltM : j < M.length := by omega
  have i0 := idx_vm (β := β) (sz := 1) (ex := false) (ce := (fun n : Int => [AV.int .i64 n])) hltM
  rw [← hM, List.getElem?_eq_getElem hltM] at hg
  injection hg with hg
  rw [hg] at i0
  obtain ⟨x, hx⟩ : ∃ x, x = l[j] := ⟨_, rfl⟩
  try rw [← hx] at i0
  try rw [← hx] at htk hle
  obtain ⟨kj, hkj⟩ : ∃ kj, kj = k + cntL (fun (_ : Int) => (1 : Int)) (l.take j) := ⟨_, rfl⟩
  rw [← hkj] at i0
  rw [← hkj]
  have hk0 : 0 ≤ kj := by omega
  have hkb : kj + 1 ≤ 9223372036854775000 := by omega
  have w1 : IntKind.i64.wrap (kj + 1) = kj + 1 := wrap_nat (by omega) (by omega)
  simp only [EZM, q_bx, if_true, if_false, Nat.reduceAdd, Option.bind_some, Nat.reduceBEq, Nat.reduceLeDiff, kaK_r, i0, w1, bne_self_eq_false]
  exact ⟨j + 1, hlt, by omega, ⟨by rw [htk, wN (by omega), ← Int.add_assoc, ← hkj]; (try simp [kaK_s0, LeL, LeV]), rfl, rfl⟩⟩
theorem kaV_T (x : DVat) (k : Int) (hk : 0 ≤ k) (hb : k + x.cntA ≤ 9223372036854775000) (hx : x.ok 1073741824) (H : AH) {aa : List AV} {fp : List Nat} (o : OwnL H aa x.cd fp) (nd : fp.Nodup) :
    T Tryz.prog Γ Fn.kaV [.agg aa, .int .i64 k] H fun v h' => v = .int .i64 (k + x.cntA) ∧ (h'.length = H.length ∧ (∀ c, c ∉ fp → h'[c]? = H[c]?) ∧ OwnL h' aa (x.mkA k).cd fp) := by
  have z0 := cntL_nn (c := DEntity.cnt) DEntity.cnt_nn x.entities
  have z1 := cntL_nn (c := DSent.cnt) DSent.cnt_nn x.loop
  have z2 := cntL_nn (c := DLink.cnt) DLink.cnt_nn x.links
  have z3 := cntL_nn (c := DOutgoing.cnt) DOutgoing.cnt_nn x.out
  simp only [DVat.cntA] at hb
  simp only [DVat.cd, ownL_c, ownL_n, own_i, own_b, own_s] at o
  obtain ⟨_, _, _, _, rfl, e0z, ⟨rfl, rfl⟩, ⟨a1, _, g1, _, rfl, e1z, u1, ⟨a2, _, g2, _, rfl, e2z, u2, ⟨a3, _, g3, _, rfl, e3z, u3, ⟨a4, _, g4, _, rfl, e4z, u4, ⟨rfl, e5z⟩⟩⟩⟩⟩⟩ := o
  have hfxe : fp = (g1 ++ (g2 ++ (g3 ++ (g4 ++ [])))) := by rw [e0z, e1z, e2z, e3z, e4z, e5z]; simp
  have ow : OwnL H [a1, a2, a3, a4] [(.sl 12 (x.entities.map DEntity.cd)), (.sl 7 (x.loop.map DSent.cd)), (.sl 7 (x.links.map DLink.cd)), (.sl 13 (x.out.map DOutgoing.cd))] fp := by rw [hfxe]; exact (.o u1 (.o u2 (.o u3 (.o u4 .nil))))
  obtain ⟨c1a, c1b, c1c, c1d⟩ := u1.cell
  obtain ⟨c2a, c2b, c2c, c2d⟩ := u2.cell
  obtain ⟨c3a, c3b, c3c, c3d⟩ := u3.cell
  obtain ⟨c4a, c4b, c4c, c4d⟩ := u4.cell
  clear e0z e1z e2z e3z e4z e5z hfxe
  have fr0 : ∀ c, c ∉ fp → H[c]? = H[c]? := fun _ _ => rfl
  have len0 : H.length = H.length := rfl
  refine kaV_e (aw_sound tabOK mixed [] _ _ _ ?_)
  unfold kaV_c
  simp only [EZM, q_bx, if_true, if_false, Nat.reduceAdd, Option.bind_some, Nat.reduceBEq, Nat.reduceLeDiff, kaV_r, c1a, c1b, c1c, c2a, c2b, c2c, c3a, c3b, c3c, c4a, c4b, c4c, EB2]
  obtain ⟨gi0, oi0, ni0, si0, bk0⟩ := OwnL.pick (A := []) (D := []) rfl ow nd
  refine TCall.ref (by simp only [EO, c1d]) (kaM_T x.entities (k) (by omega) (by omega) (hx.1) (hx.2.1) _ oi0 ni0) ?_
  rintro _ h0 ⟨rfl, hlen0, hfr0, un0⟩
  replace ow := bk0 h0 _ hfr0 un0
  have fr1 : ∀ c, c ∉ fp → h0[c]? = H[c]? := fun c hc => (hfr0 c (fun h => hc (si0 c h))).trans (fr0 c hc)
  have len1 : h0.length = H.length := hlen0.trans len0
  simp only [EZM, q_bx, if_true, if_false, Nat.reduceAdd, Option.bind_some, Nat.reduceBEq, Nat.reduceLeDiff, kaV_r, c1a, c1b, c1c, c2a, c2b, c2c, c3a, c3b, c3c, c4a, c4b, c4c, EB2]
  obtain ⟨gi1, oi1, ni1, si1, bk1⟩ := OwnL.pick (A := [a1]) (D := [_]) rfl ow nd
  refine TCall.ref (by simp only [EO, c2d]) (kaS_T x.loop (k + cntL DEntity.cnt x.entities) (by omega) (by omega) (hx.2.2.1) (hx.2.2.2.1) _ oi1 ni1) ?_
  rintro _ h1 ⟨rfl, hlen1, hfr1, un1⟩
  replace ow := bk1 h1 _ hfr1 un1
  have fr2 : ∀ c, c ∉ fp → h1[c]? = H[c]? := fun c hc => (hfr1 c (fun h => hc (si1 c h))).trans (fr1 c hc)
  have len2 : h1.length = H.length := hlen1.trans len1
  simp only [EZM, q_bx, if_true, if_false, Nat.reduceAdd, Option.bind_some, Nat.reduceBEq, Nat.reduceLeDiff, kaV_r, c1a, c1b, c1c, c2a, c2b, c2c, c3a, c3b, c3c, c4a, c4b, c4c, EB2]
  obtain ⟨gi2, oi2, ni2, si2, bk2⟩ := OwnL.pick (A := [a1, a2]) (D := [_, _]) rfl ow nd
  refine TCall.ref (by simp only [EO, c3d]) (kaP_T x.links (k + cntL DEntity.cnt x.entities + cntL DSent.cnt x.loop) (by omega) (by omega) (hx.2.2.2.2.1) (hx.2.2.2.2.2.1) _ oi2 ni2) ?_
  rintro _ h2 ⟨rfl, hlen2, hfr2, un2⟩
  replace ow := bk2 h2 _ hfr2 un2
  have fr3 : ∀ c, c ∉ fp → h2[c]? = H[c]? := fun c hc => (hfr2 c (fun h => hc (si2 c h))).trans (fr2 c hc)
  have len3 : h2.length = H.length := hlen2.trans len2
  simp only [EZM, q_bx, if_true, if_false, Nat.reduceAdd, Option.bind_some, Nat.reduceBEq, Nat.reduceLeDiff, kaV_r, c1a, c1b, c1c, c2a, c2b, c2c, c3a, c3b, c3c, c4a, c4b, c4c, EB2]
  obtain ⟨gi3, oi3, ni3, si3, bk3⟩ := OwnL.pick (A := [a1, a2, a3]) (D := [_, _, _]) rfl ow nd
  refine TCall.ref (by simp only [EO, c4d]) (kaQ_T x.out (k + cntL DEntity.cnt x.entities + cntL DSent.cnt x.loop + cntL DLink.cnt x.links) (by omega) (by omega) (hx.2.2.2.2.2.2.1) (hx.2.2.2.2.2.2.2) _ oi3 ni3) ?_
  rintro _ h3 ⟨rfl, hlen3, hfr3, un3⟩
  replace ow := bk3 h3 _ hfr3 un3
  have fr4 : ∀ c, c ∉ fp → h3[c]? = H[c]? := fun c hc => (hfr3 c (fun h => hc (si3 c h))).trans (fr3 c hc)
  have len4 : h3.length = H.length := hlen3.trans len3
  simp only [EZM, q_bx, if_true, if_false, Nat.reduceAdd, Option.bind_some, Nat.reduceBEq, Nat.reduceLeDiff, kaV_r, c1a, c1b, c1c, c2a, c2b, c2c, c3a, c3b, c3c, c4a, c4b, c4c, EB2]
  refine ⟨rfl, by simp only [DVat.cntA, Int.zero_add, Int.add_assoc], ?_⟩
  refine ⟨len4, fr4, ?_⟩
  obtain ⟨F0, R0, E0, O0, ⟨F1, R1, E1, O1, ⟨F2, R2, E2, O2, ⟨F3, R3, E3, O3, hz⟩⟩⟩⟩ := ow
  have hz : R3 = [] := hz
  rw [E0, E1, E2, E3, hz]; exact (.i (.o O0 (.o O1 (.o O2 (.o O3 .nil)))))
end Go.Proofs.YtccjhmhkfnnmaaaGreat
