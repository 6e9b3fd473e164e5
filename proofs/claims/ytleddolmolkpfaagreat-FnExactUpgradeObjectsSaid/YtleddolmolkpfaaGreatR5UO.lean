import Derived.Test.YtleddolmolkpfaaGreatR5UG
import Derived.Test.YtleddolmolkpfaaGreatR5SC
import Derived.Test.YtleddolmolkpfaaGreatAmMore2
set_option linter.unusedVariables false
set_option linter.unusedSimpArgs false
namespace Go.Proofs.YtleddolmolkpfaaGreat
open Go.AM
set_option linter.unusedVariables false
set_option linter.unusedSimpArgs false
variable {Γ : Glob}
def upV (v : DVat) (frm to_ n : Int) : DVat := { v with entities := (upG v.entities frm to_ n).1 }
theorem DVat.c_noLp' (β : Bool) (v : DVat) : (v.c β).all noLp = true := rfl
set_option maxHeartbeats 1000000 in
theorem impl_UpgradeObjects_T (β : Bool) (v : DVat) (hv : v.ok 1048576) (frm to_ n : Int) (h : AH) : T Tryz.prog Γ Fn.impl_UpgradeObjects [.agg (v.c β), .int .i64 frm, .int .i64 to_, .int .i64 n] h (Fresh h [.a (upV v frm to_ n).cd, .c (.i .i64 (upG v.entities frm to_ n).2)]) := by
  refine T.freshA2 rfl ?_
  refine impl_UpgradeObjects_e (aw_sound tabOK mixed [10] _ _ _ ?_)
  unfold impl_UpgradeObjects_c
  have al := fun (s : St) => alloc_g s _ (show List.all [AV.int .i64 0, .nils, .nils, .nils, .nils] noLp = true from rfl)
  simp only [EV, EL, EB, EF, q_bx, if_true, if_false, Bool.false_eq_true, Nat.reduceAdd, Option.bind_some, Bool.not_true, Bool.not_false, Nat.reduceBEq, impl_UpgradeObjects_r, EB2, ER, DVat.c, al, push_s]
  refine TCall.ref (by simp only [EO, DVat.c_noLp']) (impl_Vat_copied_T β v hv _) ?_
  rintro _ H1 fr
  replace fr : Fresh h _ _ _ := fr
  obtain ⟨aw, fw, rfl, ow, nw, bw, ew⟩ := fr.a1
  simp only [DVat.cd, ownL_c, ownL_n, own_i, own_b, own_s] at ow
  obtain ⟨_, _, _, _, rfl, rfl, ⟨rfl, rfl⟩, ⟨wE, _, fE, _, rfl, rfl, oE, ⟨w2, _, f2, _, rfl, rfl, o2, ⟨w3, _, f3, _, rfl, rfl, o3, ⟨w4, _, f4, _, rfl, rfl, o4, ⟨rfl, rfl⟩⟩⟩⟩⟩⟩ := ow
  obtain ⟨a1, a2, a3, a4⟩ := oE.cell
  obtain ⟨b1, b2, b3, b4⟩ := o2.cell
  obtain ⟨c1, c2, c3, c4⟩ := o3.cell
  obtain ⟨d1, d2, d3, d4⟩ := o4.cell
  have st := fun (e : List AV) (l : List (List AV)) => store_last (e := e) (l := l) (h := H1) (cs := [.int .i64 0, .nils, .nils, .nils, .nils]) (vs := [.int .i64 v.id, wE, w2, w3, w4]) (off := 0) (by simp) (by simp only [all_c1, all_n1, nn_i', a3, b3, c3, d3, Bool.and_self])
  simp only [EV, EL, EB, EF, q_bx, if_true, if_false, Bool.false_eq_true, Nat.reduceAdd, Option.bind_some, Bool.not_true, Bool.not_false, Nat.reduceBEq, impl_UpgradeObjects_r, EB2, ER, DVat.c, a1, a2, a3, b1, b2, b3, c1, c2, c3, d1, d2, d3, al, push_s, st]
  have hov : over [AV.int .i64 0, .nils, .nils, .nils, .nils] 0 [AV.int .i64 v.id, wE, w2, w3, w4] = [AV.int .i64 v.id, wE, w2, w3, w4] := rfl
  rw [hov]
  have lE := fun c hc => oE.lt c hc
  simp only [List.nil_append, List.append_nil] at nw bw
  obtain ⟨nE, n2, n3⟩ := List.nodup_append.1 nw
  refine TCall.ref (by simp only [EO]) (impl_Vat_upgrade_T v.entities hv.1 hv.2.1 frm to_ n _ (hget_last _ _) oE.grow nE (fun hc => by have := lE _ hc; omega)) ?_
  rintro _ H2 ⟨rfl, hl, fE', oE', nE', mE', rE'⟩
  have hl1 : H1.length + 1 ≤ H2.length := by simpa using hl
  have mE1 : ∀ c ∈ fE', c ∈ fE ∨ H1.length + 1 ≤ c := by simpa using mE'
  have rE1 : ∀ c, c ∉ fE → c < H1.length → H2[c]? = H1[c]? := fun c hc hcl => by
    have := rE' c hc (by simp; omega)
    rw [this]; exact List.getElem?_append_left hcl
  have hb2 : hget H2 H1.length = some (0, [AV.int .i64 v.id, wE, w2, w3, w4]) := by
    have h1 := hget_last H1 (0, [AV.int .i64 v.id, wE, w2, w3, w4])
    have := rE' H1.length (fun hc => by have := lE _ hc; omega) (by simp)
    unfold hget at h1 ⊢; rw [this]; exact h1
  have cl2 := fun (e : List AV) (l : List (List AV)) (off n : Nat) => cells_gp (e := e) (l := l) (b := H1.length) (off := off) (n := n) hb2
  simp only [EV, EL, EB, EF, q_bx, if_true, if_false, Bool.false_eq_true, Nat.reduceAdd, Option.bind_some, Bool.not_true, Bool.not_false, Nat.reduceBEq, impl_UpgradeObjects_r, EB2, ER, DVat.c, a1, a2, a3, b1, b2, b3, c1, c2, c3, d1, d2, d3, cl2]
  have hx := ew.upd (show H1.length ≤ H2.length by omega) rE1 (fun c hc => bw c (by simp [hc]))
  obtain ⟨N, hN⟩ := hx.out
  have rr : ∀ c, c ∈ f2 ++ (f3 ++ f4) → H2[c]? = H1[c]? := fun c hc => rE1 c (fun h => n3 c h c hc rfl) (by
    simp only [List.mem_append] at hc
    rcases hc with g | g | g
    · exact o2.lt c g
    · exact o3.lt c g
    · exact o4.lt c g)
  have el := ew.len
  refine ⟨by simp only [List.all_cons, List.all_nil, EO, a3, b3, c3, d3], _, N, fE' ++ (f2 ++ (f3 ++ f4)), rfl, hN, ?_, List.nodup_append.2 ⟨nE', n2, fun x hx' y hy e => ?_⟩, fun c hc => ?_⟩
  · have := @OwnL.nil H2
    have e4 : f4 = f4 ++ [] := by simp
    rw [e4]
    exact .i (.o oE' (.o (o2.frame fun c hc => rr c (by simp [hc])) (.o (o3.frame fun c hc => rr c (by simp [hc])) (.o (o4.frame fun c hc => rr c (by simp [hc])) .nil))))
  · subst e
    rcases mE1 x hx' with g | g
    · exact n3 x g x hy rfl
    · simp only [List.mem_append] at hy
      rcases hy with q | q | q
      · have := o2.lt x q; omega
      · have := o3.lt x q; omega
      · have := o4.lt x q; omega
  · rcases List.mem_append.1 hc with g | g
    · rcases mE1 c g with q | q
      · exact bw c (by simp [q])
      · omega
    · exact bw c (List.mem_append_right _ g)
set_option maxHeartbeats 1000000 in
theorem spec_UpgradeObjects_T (β : Bool) (v : DVat) (hv : v.ok 1048576) (frm to_ n : Int) (h : AH) : T Tryz.prog Γ Fn.spec_UpgradeObjects [.agg (v.c β), .int .i64 frm, .int .i64 to_, .int .i64 n] h (Fresh h [.a (upV v frm to_ n).cd, .c (.i .i64 (upG v.entities frm to_ n).2)]) := by
  refine T.freshA2 rfl ?_
  refine spec_UpgradeObjects_e (aw_sound tabOK mixed [] _ _ _ ?_)
  unfold spec_UpgradeObjects_c
  simp only [EV, EL, EB, EF, q_bx, if_true, if_false, Bool.false_eq_true, Nat.reduceAdd, Option.bind_some, Bool.not_true, Bool.not_false, Nat.reduceBEq, spec_UpgradeObjects_r, EB2, ER, DVat.c]
  refine TCall.ref (by simp only [EO, DVat.c_noLp']) (spec_l12Copy_T β v hv _) ?_
  rintro _ H1 fr
  replace fr : Fresh h _ _ _ := fr
  obtain ⟨aw, fw, rfl, ow, nw, bw, ew⟩ := fr.a1
  have ow0 := ow
  simp only [DVat.cd, ownL_c, ownL_n, own_i, own_b, own_s] at ow
  obtain ⟨_, _, _, _, rfl, rfl, ⟨rfl, rfl⟩, ⟨wE, _, fE, _, rfl, rfl, oE, ⟨w2, _, f2, _, rfl, rfl, o2, ⟨w3, _, f3, _, rfl, rfl, o3, ⟨w4, _, f4, _, rfl, rfl, o4, ⟨rfl, rfl⟩⟩⟩⟩⟩⟩ := ow
  obtain ⟨a1, a2, a3, a4⟩ := oE.cell
  obtain ⟨b1, b2, b3, b4⟩ := o2.cell
  obtain ⟨c1, c2, c3, c4⟩ := o3.cell
  obtain ⟨d1, d2, d3, d4⟩ := o4.cell
  have lE := fun c hc => oE.lt c hc
  have nw0 := nw
  have bw0 := bw
  simp only [List.nil_append, List.append_nil] at nw bw
  obtain ⟨nE, n2, n3⟩ := List.nodup_append.1 nw
  -- the end
  have fin : ∀ (H2 : AH) (fE' : List Nat) (l' : List DEntity), HExt h H2 → H1.length ≤ H2.length → Own H2 wE (.sl 12 (l'.map DEntity.cd)) fE' → fE'.Nodup → (∀ c ∈ fE', c ∈ fE ∨ H1.length ≤ c) → (∀ c, c ∉ fE → c < H1.length → H2[c]? = H1[c]?) →
      ∃ new fp, H2 = h ++ new ∧ OwnL H2 [.int .i64 v.id, wE, w2, w3, w4] ({ v with entities := l' } : DVat).cd fp ∧ fp.Nodup ∧ ∀ b ∈ fp, h.length ≤ b := by
    intro H2 fE' l' hx hl1 oE' nE' mE1 rE1
    obtain ⟨N, hN⟩ := hx.out
    have rr : ∀ c, c ∈ f2 ++ (f3 ++ f4) → H2[c]? = H1[c]? := fun c hc => rE1 c (fun h => n3 c h c hc rfl) (by
      simp only [List.mem_append] at hc
      rcases hc with g | g | g
      · exact o2.lt c g
      · exact o3.lt c g
      · exact o4.lt c g)
    have el := ew.len
    refine ⟨N, fE' ++ (f2 ++ (f3 ++ f4)), hN, ?_, List.nodup_append.2 ⟨nE', n2, fun x hx' y hy e => ?_⟩, fun c hc => ?_⟩
    · have := @OwnL.nil H2
      have e4 : f4 = f4 ++ [] := by simp
      rw [e4]
      exact .i (.o oE' (.o (o2.frame fun c hc => rr c (by simp [hc])) (.o (o3.frame fun c hc => rr c (by simp [hc])) (.o (o4.frame fun c hc => rr c (by simp [hc])) .nil))))
    · subst e
      rcases mE1 x hx' with g | g
      · exact n3 x g x hy rfl
      · simp only [List.mem_append] at hy
        rcases hy with q | q | q
        · have := o2.lt x q; omega
        · have := o3.lt x q; omega
        · have := o4.lt x q; omega
    · rcases List.mem_append.1 hc with g | g
      · rcases mE1 c g with q | q
        · exact bw c (by simp [q])
        · omega
      · exact bw c (List.mem_append_right _ g)
  simp only [EV, EL, EB, EF, q_bx, if_true, if_false, Bool.false_eq_true, Nat.reduceAdd, Option.bind_some, Bool.not_true, Bool.not_false, Nat.reduceBEq, spec_UpgradeObjects_r, EB2, ER, DVat.c, a1, a2, a3, b1, b2, b3, c1, c2, c3, d1, d2, d3]
  refine TCall.val (by simp only [EO]) (spec_l1In_T _ _ _ _) ?_
  cases h1 : inR to_ 0 5
  · have ug : upG v.entities frm to_ n = (v.entities, 0) := by unfold upG; rw [h1]; rfl
    simp only [EV, EL, EB, EF, q_bx, if_true, if_false, Bool.false_eq_true, Nat.reduceAdd, Option.bind_some, Bool.not_true, Bool.not_false, Nat.reduceBEq, spec_UpgradeObjects_r, EB2, ER, DVat.c, a1, a2, a3, b1, b2, b3, c1, c2, c3, d1, d2, d3, h1]
    obtain ⟨N, fp, q1, q2, q3, q4⟩ := fin H1 fE v.entities ew (Nat.le_refl _) oE nE (fun c hc => .inl hc) (fun _ _ _ => rfl)
    exact ⟨by simp only [List.all_cons, List.all_nil, EO, a3, b3, c3, d3], _, N, fp, by rw [ug]; rfl, q1, by unfold upV; rw [ug]; exact q2, q3, q4⟩
  simp only [EV, EL, EB, EF, q_bx, if_true, if_false, Bool.false_eq_true, Nat.reduceAdd, Option.bind_some, Bool.not_true, Bool.not_false, Nat.reduceBEq, spec_UpgradeObjects_r, EB2, ER, DVat.c, a1, a2, a3, b1, b2, b3, c1, c2, c3, d1, d2, d3, h1]
  refine TCall.val (by simp only [EO]) (spec_l1In_T _ _ _ _) ?_
  cases h2 : inR n 0 3
  · have ug : upG v.entities frm to_ n = (v.entities, 0) := by unfold upG; rw [h1, h2]; rfl
    simp only [EV, EL, EB, EF, q_bx, if_true, if_false, Bool.false_eq_true, Nat.reduceAdd, Option.bind_some, Bool.not_true, Bool.not_false, Nat.reduceBEq, spec_UpgradeObjects_r, EB2, ER, DVat.c, a1, a2, a3, b1, b2, b3, c1, c2, c3, d1, d2, d3, h2]
    obtain ⟨N, fp, q1, q2, q3, q4⟩ := fin H1 fE v.entities ew (Nat.le_refl _) oE nE (fun c hc => .inl hc) (fun _ _ _ => rfl)
    exact ⟨by simp only [List.all_cons, List.all_nil, EO, a3, b3, c3, d3], _, N, fp, by rw [ug]; rfl, q1, by unfold upV; rw [ug]; exact q2, q3, q4⟩
  have ug : upG v.entities frm to_ n = (upCur v.entities frm to_ n.toNat v.entities.length, upCnt v.entities frm v.entities.length) := by unfold upG; rw [h1, h2]; rfl
  have hn0 : 0 ≤ n ∧ n ≤ 3 := by simpa [inR] using h2
  obtain ⟨m, rfl⟩ : ∃ m : Nat, n = (m : Int) := ⟨n.toNat, by omega⟩
  have hm : m ≤ 3 := by omega
  rw [Int.toNat_natCast] at ug
  have hes := hv.2.1
  have hel := hv.1
  have L0 := len_vm β 12 false v.entities (DEntity.c β)
  simp only [EV, EL, EB, EF, q_bx, if_true, if_false, Bool.false_eq_true, Nat.reduceAdd, Option.bind_some, Bool.not_true, Bool.not_false, Nat.reduceBEq, spec_UpgradeObjects_r, EB2, ER, DVat.c, a1, a2, a3, b1, b2, b3, c1, c2, c3, d1, d2, d3, h2]
  refine loopI tabOK mixed [] (fun x : Nat × AH × List Nat => x.1 ≤ v.entities.length ∧ Own x.2.1 wE (.sl 12 ((upCur v.entities frm to_ m x.1).map DEntity.cd)) x.2.2 ∧ x.2.2.Nodup ∧ (∀ c ∈ x.2.2, c ∈ fE ∨ H1.length ≤ c) ∧ H1.length ≤ x.2.1.length ∧ (∀ c, c ∉ fE → c < H1.length → x.2.1[c]? = H1[c]?) ∧ HExt h x.2.1) (fun x => v.entities.length - x.1)
    (fun x => spec_UpgradeObjects_s0 (.int .i64 frm) (.int .i64 to_) (.int .i64 m) (.lp ([] : List (List AV)).length 0) (.lp (([] : List (List AV)).length + 1) 0) (.lp (([] : List (List AV)).length + 2) 0) (.int .i64 (upCnt v.entities frm x.1)) (.int .i64 x.1) (([] : List (List AV)) ++ [v.c β, [.int .i64 0, .nils, .nils, .nils, .nils], [.int .i64 v.id, wE, w2, w3, w4]]) x.2.1) (0, H1, fE) ⟨by simp, by simpa [upCur] using oE, nE, fun c hc => .inl hc, Nat.le_refl _, fun _ _ _ => rfl, ew⟩ ⟨by simp [spec_UpgradeObjects_s0, upCnt, LeL, LeV], rfl, rfl⟩ ?_
  rintro ⟨k, H0, f0⟩ ⟨hk, o0, n0, m0, l0, r0, x0⟩
  simp only at hk o0 n0 m0 l0 r0 x0
  simp only [EV, EL, EB, EF, q_bx, if_true, if_false, Bool.false_eq_true, Nat.reduceAdd, Option.bind_some, Bool.not_true, Bool.not_false, Nat.reduceBEq, spec_UpgradeObjects_r, spec_UpgradeObjects_s0, EB2, ER, DVat.c, a1, a2, a3, b1, b2, b3, c1, c2, c3, d1, d2, d3, L0]
  refine c_split (fun hlt => ?_) (fun hge => ?_)
  rotate_left
  · have hge : k = v.entities.length := by simp at hge; omega
    subst hge
    simp only [EV, EL, EB, EF, q_bx, if_true, if_false, Bool.false_eq_true, Nat.reduceAdd, Option.bind_some, Bool.not_true, Bool.not_false, Nat.reduceBEq, spec_UpgradeObjects_r, EB2, ER, DVat.c, a1, a2, a3, b1, b2, b3, c1, c2, c3, d1, d2, d3]
    obtain ⟨N, fp, q1, q2, q3, q4⟩ := fin H0 f0 _ x0 l0 o0 n0 m0 r0
    exact ⟨by simp only [List.all_cons, List.all_nil, EO, a3, b3, c3, d3], _, N, fp, by rw [ug]; rfl, q1, by unfold upV; rw [ug]; exact q2, q3, q4⟩
  have hlt : k < v.entities.length := by simpa using hlt
  have hlu : k < (upCur v.entities frm to_ m k).length := by rw [upCur_len]; exact hlt
  have hlm : k < ((upCur v.entities frm to_ m k).map DEntity.cd).length := by simpa using hlu
  have i1 := idx_vm (β := β) (sz := 12) (ex := false) (ce := DEntity.c β) hlt
  by_cases k1 : v.entities[k].kind = 1
  rotate_left
  · have us := up_same (frm := frm) (to_ := to_) (n := m) hlt (fun h => k1 h.1)
    simp only [EV, EL, EB, EF, q_bx, if_true, if_false, Bool.false_eq_true, Nat.reduceAdd, Option.bind_some, Bool.not_true, Bool.not_false, Nat.reduceBEq, spec_UpgradeObjects_r, EB2, ER, DVat.c, a1, a2, a3, b1, b2, b3, c1, c2, c3, d1, d2, d3, i1, DEntity.c, ne_int, decide_eq_false k1]
    exact ⟨(k + 1, H0, f0), ⟨hlt, by simp only; rw [us.1]; exact o0, n0, m0, l0, r0, x0⟩, by simp only; omega, ⟨by rw [wN (by omega)]; simp [spec_UpgradeObjects_s0, us.2, DVat.c, LeL, LeV], rfl, rfl⟩⟩
  by_cases k2 : v.entities[k].script = frm
  rotate_left
  · have us := up_same (frm := frm) (to_ := to_) (n := m) hlt (fun h => k2 h.2)
    simp only [EV, EL, EB, EF, q_bx, if_true, if_false, Bool.false_eq_true, Nat.reduceAdd, Option.bind_some, Bool.not_true, Bool.not_false, Nat.reduceBEq, spec_UpgradeObjects_r, EB2, ER, DVat.c, a1, a2, a3, b1, b2, b3, c1, c2, c3, d1, d2, d3, i1, DEntity.c, ne_int, decide_eq_true k1, decide_eq_false k2]
    exact ⟨(k + 1, H0, f0), ⟨hlt, by simp only; rw [us.1]; exact o0, n0, m0, l0, r0, x0⟩, by simp only; omega, ⟨by rw [wN (by omega)]; simp [spec_UpgradeObjects_s0, us.2, DVat.c, LeL, LeV], rfl, rfl⟩⟩
  have ct := upCnt_s (frm := frm) hlt
  rw [if_pos ⟨k1, k2⟩] at ct
  have cb := upCnt_le v.entities frm k
  have cw : IntKind.i64.wrap (upCnt v.entities frm k + 1) = upCnt v.entities frm k + 1 := by
    obtain ⟨q, hq⟩ : ∃ q : Nat, upCnt v.entities frm k = (q : Int) := ⟨(upCnt v.entities frm k).toNat, by omega⟩
    rw [hq, wN (by omega)]; omega
  obtain ⟨bE, gE, az, fz, i0, bl, bm, rw0, rd0, oz, nz, mz, lz⟩ := o0.row n0 hlm
  have f1' : aFld 1 (.gp bE gE (k * 12)) = some (.gp bE gE (k * 12 + 1)) := rfl
  have f2' : aFld 2 (.gp bE gE (k * 12)) = some (.gp bE gE (k * 12 + 2)) := rfl
  simp only [EV, EL, EB, EF, q_bx, if_true, if_false, Bool.false_eq_true, Nat.reduceAdd, Option.bind_some, Bool.not_true, Bool.not_false, Nat.reduceBEq, spec_UpgradeObjects_r, EA, EB2, ER, DVat.c, a1, a2, a3, b1, b2, b3, c1, c2, c3, d1, d2, d3, i1, DEntity.c, ne_int, decide_eq_true k1, decide_eq_true k2]
  refine loopI tabOK mixed [] (fun x : Nat × AV × AH × List Nat => x.1 ≤ m ∧ Own x.2.2.1 x.2.1 (.sl 2 (((List.range x.1).map (slotAt v.entities[k])).map DValue.cd)) x.2.2.2 ∧ x.2.2.2.Nodup ∧ (∀ c ∈ x.2.2.2, H0.length ≤ c) ∧ HExt H0 x.2.2.1) (fun x => m - x.1)
    (fun x => spec_UpgradeObjects_s1 (.int .i64 frm) (.int .i64 to_) (.int .i64 m) (.lp ([] : List (List AV)).length 0) (.lp (([] : List (List AV)).length + 1) 0) (.lp (([] : List (List AV)).length + 2) 0) (.int .i64 (upCnt v.entities frm k)) (.int .i64 k) x.2.1 (.int .i64 x.1) (([] : List (List AV)) ++ [v.c β, [.int .i64 0, .nils, .nils, .nils, .nils], [.int .i64 v.id, wE, w2, w3, w4]]) x.2.2.1) (0, .gs H0.length 0 0 0 0 2 true, H0 ++ [some (0, [])], [H0.length]) ⟨by simp, bsl0_own H0 2, by simp, by simp, HExt.app _ _⟩ ⟨by simp [spec_UpgradeObjects_s1, DVat.c, LeL, LeV], rfl, rfl⟩ ?_
  rintro ⟨j, w, H2, f1⟩ ⟨hj, o1, n1, m1, x1⟩
  simp only at hj o1 n1 m1 x1
  simp only [EV, EL, EB, EF, q_bx, if_true, if_false, Bool.false_eq_true, Nat.reduceAdd, Option.bind_some, Bool.not_true, Bool.not_false, Nat.reduceBEq, spec_UpgradeObjects_r, spec_UpgradeObjects_s1]
  refine c_split (fun hjl => ?_) (fun hjg => ?_)
  · have hjl : j < m := by simpa using hjl
    simp only [EV, EL, EB, EF, q_bx, if_true, if_false, Bool.false_eq_true, Nat.reduceAdd, Option.bind_some, Bool.not_true, Bool.not_false, Nat.reduceBEq, spec_UpgradeObjects_r, EA, EB2, ER, DVat.c, a1, a2, a3, b1, b2, b3, c1, c2, c3, d1, d2, d3, i1, DEntity.c]
    refine TCall.val (by simp only [EO]) (spec_SlotOf_at β v.entities[k] (hes _ (List.getElem_mem hlt)).1 j _) ?_
    obtain ⟨v', H', fp', ea, o', nd', hf', hl', hm'⟩ := app_ext (bytes := 16) o1 (ys := [.int .i64 (slotAt v.entities[k] j).kind, .int .i64 (slotAt v.entities[k] j).n]) (row := (slotAt v.entities[k] j).cd) (f2 := []) (by simpa using n1) (by omega) rfl (.i (.i .nil)) (by simp only [List.length_map, List.length_range, maxMade]; omega)
    simp only [EV, EL, EB, EF, q_bx, if_true, if_false, Bool.false_eq_true, Nat.reduceAdd, Option.bind_some, Bool.not_true, Bool.not_false, Nat.reduceBEq, spec_UpgradeObjects_r, EA, DValue.c, ea]
    refine ⟨(j + 1, v', H', fp'), ⟨hjl, by simp only; rw [List.range_succ, List.map_append, List.map_append]; exact o', nd', fun c hc => ?_, x1.upd hl' hf' m1⟩, by simp only; omega, ⟨by rw [wN (by omega)]; simp [spec_UpgradeObjects_s1, DVat.c, LeL, LeV], rfl, rfl⟩⟩
    rcases hm' c hc with g | g | g
    · exact m1 c g
    · simp at g
    · have := x1.len; omega
  have hjm : j = m := by simp at hjg; omega
  subst hjm
  obtain ⟨c1', c2', c3', c4'⟩ := o1.cell
  have hku : (upCur v.entities frm to_ j k)[k]'hlu = v.entities[k] := upCur_at hlt
  obtain ⟨H3, H4, f3', s1, s2, o3', n3', m3', l3', r3'⟩ := ent_store o0 n0 hlu i0 to_ o1 n1 m1 x1
  simp only [EV, EL, EB, EF, q_bx, if_true, if_false, Bool.false_eq_true, Nat.reduceAdd, Option.bind_some, Bool.not_true, Bool.not_false, Nat.reduceBEq, spec_UpgradeObjects_r, EA, EB2, ER, DVat.c, a1, a2, a3, b1, b2, b3, c1, c2, c3, d1, d2, d3, c1', c2', c3', i0, f1', f2', s1, s2]
  refine ⟨(k + 1, H4, f3'), ⟨hlt, ?_, n3', fun c hc => ?_, ?_, fun c hc hcl => ?_, ?_⟩, by simp only; omega, ⟨by rw [wN (by omega)]; simp [spec_UpgradeObjects_s0, DVat.c, ct, cw, LeL, LeV], rfl, rfl⟩⟩
  · simp only
    rw [upCur_s hlt]
    rw [hku] at o3'
    have : upOne frm to_ j v.entities[k] = { v.entities[k] with script := to_, slots := (List.range j).map (slotAt v.entities[k]) } := by unfold upOne; rw [if_pos ⟨k1, k2⟩]
    rw [this]; exact o3'
  · rcases m3' c hc with g | g
    · exact m0 c g
    · exact .inr (by omega)
  · have := x1.len; simp only; omega
  · have hc0 : c ∉ f0 := fun h => by
      rcases m0 c h with g | g
      · exact hc g
      · omega
    rw [r3' c hc0 (by omega), r0 c hc hcl]
  · refine x0.upd ?_ r3' (fun c hc => ?_)
    · have := x1.len; simp only; omega
    · rcases m0 c hc with g | g
      · exact bw c (by simp [g])
      · have := ew.len; omega

end Go.Proofs.YtleddolmolkpfaaGreat

