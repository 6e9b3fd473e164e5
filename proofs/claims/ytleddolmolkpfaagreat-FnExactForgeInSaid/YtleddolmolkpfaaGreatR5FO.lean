import Derived.Test.YtleddolmolkpfaaGreatR5WW
import Derived.Test.YtleddolmolkpfaaGreatR5LK
import Derived.Test.YtleddolmolkpfaaGreatAmEv
import Derived.Test.YtleddolmolkpfaaGreatAmRow2
import Derived.Test.YtleddolmolkpfaaGreatAmMore2
set_option linter.unusedVariables false
set_option linter.unusedSimpArgs false
namespace Go.Proofs.YtleddolmolkpfaaGreat
open Go.AM
set_option linter.unusedVariables false
set_option linter.unusedSimpArgs false
variable {Γ : Glob}
def chanP (a b : Int) (x : DChannel) : Bool := x.frm == a && x.to_ == b
theorem kak_T (β : Bool) (x : DChannel) (a b : Int) (H : AH) {k k2 : Nat} (hk : hget H k = some (0, [.int .i64 a])) (hk2 : hget H k2 = some (0, [.int .i64 b])) : T Tryz.prog Γ Fn.kak [.agg (x.c β), .gp k 0 0, .gp k2 0 0] H fun v h' => v = .bool (chanP a b x) ∧ h' = H := by
  have hc : ∀ (e : List AV) (l : List (List AV)) (off n : Nat), (St.mk e l H).cells (.gp k 0 off) n = sub [.int .i64 a] off n := fun e l off n => cells_gp hk
  have hc2 : ∀ (e : List AV) (l : List (List AV)) (off n : Nat), (St.mk e l H).cells (.gp k2 0 off) n = sub [.int .i64 b] off n := fun e l off n => cells_gp hk2
  refine kak_e (aw_sound tabOK mixed [] _ _ _ ?_)
  unfold kak_c
  cases hp : x.frm == a
  · simp only [EZ, q_bx, if_true, if_false, Nat.reduceAdd, Option.bind_some, Nat.reduceBEq, kak_r, DChannel.c, hc, hc2, hp]
    exact ⟨rfl, by simp only [chanP, hp, Bool.false_and]⟩
  · simp only [EZ, q_bx, if_true, if_false, Nat.reduceAdd, Option.bind_some, Nat.reduceBEq, kak_r, DChannel.c, hc, hc2, hp]
    exact ⟨rfl, by simp only [chanP, hp, Bool.true_and]⟩
theorem kaj_T (β : Bool) (l : List DChannel) (hl : l.length ≤ 1048577) (a b : Int) (h : AH) : T Tryz.prog Γ Fn.kaj [.vs β 3 false (l.map (DChannel.c β)), .int .i64 a, .int .i64 b] h fun r h' => r = .int .i64 (idxI (chanP a b) l) ∧ h' = h := by
  refine (?_ : T Tryz.prog Γ Fn.kaj _ h fun r h' => r = .int .i64 (idxI (chanP a b) l) ∧ ∃ N, h' = h ++ N).drop (by rintro v h' ⟨rfl, N, rfl⟩; exact ⟨N, rfl, .int _ _, rfl, rfl⟩)
  refine kaj_e (aw_sound tabOK mixed [4, 5] _ _ _ ?_)
  unfold kaj_c
  simp only [EZ, q_bx, if_true, if_false, Nat.reduceAdd, Option.bind_some, Nat.reduceBEq, kaj_r, box_g _ _ (show List.all [AV.int .i64 a] noLp = true from rfl), box_g _ _ (show List.all [AV.int .i64 b] noLp = true from rfl), push_s]
  have hcall := indexFunc_D (P := Tryz.prog) (Γ := Γ) tabOK mixed (sz := 3) (agg := true) (fun hw => kcE_e hw) (β := β) (l := l) (c := DChannel.c β) (by omega) (fun x => ⟨⟨rfl, .inl rfl⟩, rfl⟩) (g := Fn.kak) (first := []) (caps := [.gp h.length 0 0, .gp (h ++ [some (0, [AV.int .i64 a])]).length 0 0]) rfl (chanP a b) (h := (h ++ [some (0, [AV.int .i64 a])]) ++ [some (0, [AV.int .i64 b])]) (fun x _ => kak_T β x a b _ (hget_grow (hget_last _ _) _) (hget_last _ _))
  refine TCall.val (by simp only [EO]) hcall ?_
  simp only [EZ, q_bx, if_true, if_false, Nat.reduceAdd, Option.bind_some, Nat.reduceBEq, kaj_r]
  exact ⟨rfl, _, by rw [List.append_assoc]⟩
theorem kcM_T (β : Bool) (l : List DChannel) (hl : l.length ≤ 1048577) (a b : Int) (h : AH) : T Tryz.prog Γ Fn.kcM [.vs β 3 false (l.map (DChannel.c β)), .int .i64 a, .int .i64 b] h fun r h' => r = .int .i64 (idxI (chanP a b) l) ∧ h' = h := by
  have L0 := len_vm β 3 false l (DChannel.c β)
  refine kcM_e (aw_sound tabOK mixed [] _ _ _ ?_)
  unfold kcM_c
  simp only [EZ, q_bx, if_true, if_false, Nat.reduceAdd, Option.bind_some, Nat.reduceBEq, kcM_r]
  refine loopI tabOK mixed [] (fun k : Nat => k ≤ l.length ∧ ∀ (i : Nat) (hi : i < l.length), i < k → chanP a b l[i] = false) (fun k => l.length - k)
    (fun k => kcM_s0 (.vs β 3 false (l.map (DChannel.c β))) (.int .i64 a) (.int .i64 b) (.int .i64 k) ([] : List (List AV)) h) 0 ⟨by omega, fun i hi h => by omega⟩ ⟨by simp [kcM_s0, LeL, LeV], rfl, rfl⟩ ?_
  rintro k ⟨hk, ht⟩
  simp only [EZ, q_bx, if_true, if_false, Nat.reduceAdd, Option.bind_some, Nat.reduceBEq, kcM_r, kcM_s0, L0]
  refine c_split (fun hlt => ?_) (fun hge => ?_)
  · have hlt : k < l.length := by simpa using hlt
    have i0 := idx_vm (β := β) (sz := 3) (ex := false) (ce := DChannel.c β) hlt
    have nx : chanP a b l[k] = false → ∀ (i : Nat) (hi : i < l.length), i < k + 1 → chanP a b l[i] = false := fun hp i hi hik => by
      rcases Nat.lt_or_ge i k with g | g
      · exact ht i hi g
      · have : i = k := by omega
        subst this; exact hp
    cases hp : l[k].frm == a
    · simp only [EZ, q_bx, if_true, if_false, Nat.reduceAdd, Option.bind_some, Nat.reduceBEq, kcM_r, i0, DChannel.c, hp]
      exact ⟨k + 1, ⟨hlt, nx (by simp only [chanP, hp, Bool.false_and])⟩, by omega, ⟨by rw [wN (by omega)]; simp [kcM_s0, LeL, LeV], rfl, rfl⟩⟩
    cases hu : l[k].to_ == b
    · simp only [EZ, q_bx, if_true, if_false, Nat.reduceAdd, Option.bind_some, Nat.reduceBEq, kcM_r, i0, DChannel.c, hp, hu]
      exact ⟨k + 1, ⟨hlt, nx (by simp only [chanP, hp, hu, Bool.and_false])⟩, by omega, ⟨by rw [wN (by omega)]; simp [kcM_s0, LeL, LeV], rfl, rfl⟩⟩
    · simp only [EZ, q_bx, if_true, if_false, Nat.reduceAdd, Option.bind_some, Nat.reduceBEq, kcM_r, i0, DChannel.c, hp, hu]
      first | exact ⟨rfl, by rw [idxI_at (p := chanP a b) hlt ht (by simp only [chanP, hp, hu, Bool.and_self])], rfl⟩ | exact ⟨rfl, by rw [idxI_at (p := chanP a b) hlt ht (by simp only [chanP, hp, hu, Bool.and_self])]⟩
  · have hge : k = l.length := by simp at hge; omega
    subst hge
    simp only [EZ, q_bx, if_true, if_false, Nat.reduceAdd, Option.bind_some, Nat.reduceBEq, kcM_r]
    first | exact ⟨rfl, by rw [idxI_none (p := chanP a b) fun i hi => ht i hi hi], rfl⟩ | exact ⟨rfl, by rw [idxI_none (p := chanP a b) fun i hi => ht i hi hi]⟩
def putM (l : List DChannel) (a b : Int) (m : DMessage) : List DChannel × Bool :=
  match l.find? (chanP a b) with
  | none => (l, false)
  | some x => if 200 ≤ x.list.length then (l, false) else (l.set (idxI (chanP a b) l).toNat { x with list := x.list ++ [m] }, true)
theorem putM_none {l : List DChannel} {a b : Int} {m : DMessage} (h : l.find? (chanP a b) = none) : putM l a b m = (l, false) := by unfold putM; rw [h]
theorem putM_full {l : List DChannel} {a b : Int} {m : DMessage} {x : DChannel} (h : l.find? (chanP a b) = some x) (hx : 200 ≤ x.list.length) : putM l a b m = (l, false) := by unfold putM; rw [h]; simp only [if_pos hx]
theorem putM_ok {l : List DChannel} {a b : Int} {m : DMessage} {x : DChannel} (h : l.find? (chanP a b) = some x) (hx : ¬ 200 ≤ x.list.length) {k : Nat} (hk : idxI (chanP a b) l = (k : Int)) : putM l a b m = (l.set k { x with list := x.list ++ [m] }, true) := by unfold putM; rw [h, hk]; simp only [if_neg hx, Int.toNat_natCast]
theorem chan_cells {H : AH} {row : List AV} {x : DChannel} {f : List Nat} (o : OwnL H row x.cd f) : ∃ w, row = [.int .i64 x.frm, .int .i64 x.to_, w] ∧ Own H w (.sl 12 (x.list.map DMessage.cd)) f := by
  simp only [DChannel.cd, ownL_c, ownL_n, own_i, own_b, own_s] at o
  obtain ⟨_, _, _, _, rfl, rfl, ⟨rfl, rfl⟩, ⟨_, _, _, _, rfl, rfl, ⟨rfl, rfl⟩, ⟨w, _, fw, _, rfl, rfl, ow, ⟨rfl, rfl⟩⟩⟩⟩ := o
  exact ⟨w, rfl, by simpa using ow⟩
set_option maxHeartbeats 1000000 in
theorem kao_T (l : List DChannel) (hl : l.length ≤ 1048576) (hm : ∀ x ∈ l, x.ok 1048576) (m : DMessage) (a b : Int) (H : AH) {w : AV} {fw : List Nat} (ow : Own H w (.sl 3 (l.map DChannel.cd)) fw) (nw : fw.Nodup) {am : List AV} {fm : List Nat} (om : OwnL H am m.cd fm) (nm : fm.Nodup) (dis : ∀ c ∈ fw, c ∉ fm) :
    T Tryz.prog Γ Fn.kao [w, .int .i64 a, .int .i64 b, .agg am] H fun r H' => r = .bool (putM l a b m).2 ∧ H.length ≤ H'.length ∧ ∃ f', Own H' w (.sl 3 ((putM l a b m).1.map DChannel.cd)) f' ∧ f'.Nodup ∧ (∀ c ∈ f', c ∈ fw ∨ c ∈ fm ∨ H.length ≤ c) ∧ (∀ c, c ∉ fw → c < H.length → H'[c]? = H[c]?) := by
  obtain ⟨w1, w2, w3, w4⟩ := ow.cell
  have oo := om
  simp only [DMessage.cd, ownL_c, ownL_n, own_i, own_b, own_s] at oo
  obtain ⟨_, _, _, _, rfl, _, ⟨rfl, rfl⟩, ⟨_, _, _, _, rfl, _, ⟨rfl, rfl⟩, ⟨_, _, _, _, rfl, _, ⟨rfl, rfl⟩, ⟨_, _, _, _, rfl, _, ⟨rfl, rfl⟩, ⟨_, _, _, _, rfl, _, ⟨rfl, rfl⟩, ⟨az5, _, _, _, rfl, _, uz5, ⟨_, _, _, _, rfl, _, ⟨rfl, rfl⟩, ⟨_, _, _, _, rfl, _, ⟨rfl, rfl⟩, ⟨_, _, _, _, rfl, _, ⟨rfl, rfl⟩, ⟨_, _, _, _, rfl, _, ⟨rfl, rfl⟩, ⟨_, _, _, _, rfl, _, ⟨rfl, rfl⟩, ⟨_, _, _, _, rfl, _, ⟨rfl, rfl⟩, ⟨rfl, _⟩⟩⟩⟩⟩⟩⟩⟩⟩⟩⟩⟩⟩ := oo
  obtain ⟨cz5a, cz5b, cz5c, cz5d⟩ := uz5.cell
  refine kao_e (aw_sound tabOK mixed [] _ _ _ ?_)
  unfold kao_c
  simp only [EZ, q_bx, if_true, if_false, Nat.reduceAdd, Option.bind_some, Nat.reduceBEq, kao_r, kao_d0_q, EB2, ER]
  refine TCall.see (by simp only [EO, w4]) (snap_c (Own.see (DChannel.c_eq true) ow) (snap_c (.same _) (snap_c (.same _) snap_n))) (fun h => kaj_T true l (by omega) a b h) (.int _ _) ?_
  rcases idxI_cases (chanP a b) l with ⟨k, hk, e1, e2, e3⟩ | ⟨e1, e2, e3⟩
  rotate_left
  · have pe := putM_none (m := m) e2
    simp only [EZ, q_bx, if_true, if_false, Nat.reduceAdd, Option.bind_some, Nat.reduceBEq, kao_r, kao_d0_q, e1, show decide ((-1 : Int) < 0) = true from rfl]
    rw [pe]; refine ⟨rfl, rfl, Nat.le_refl _, fw, ow, nw, ?_⟩
    first | exact ⟨fun c hc => .inl hc, fun c _ _ => rfl⟩ | exact ⟨fun c hc => .inl hc, fun _ _ _ => trivial⟩ | exact ⟨fun c hc => .inl hc, trivial⟩ | exact fun c hc => .inl hc
  have hkm : k < (l.map DChannel.cd).length := by simpa using hk
  obtain ⟨bq, gq, pre, row, post, f, i0, mid, lr, orow, nf, sf, bf, bnf, close⟩ := ow.openRow nw hkm
  simp only [List.getElem_map] at orow
  obtain ⟨x, hxe⟩ : ∃ x, x = l[k] := ⟨_, rfl⟩
  rw [← hxe] at orow e3
  obtain ⟨wl, rfl, ol⟩ := chan_cells orow
  have fl2 : aFld 2 (.gp bq gq pre.length) = some (.gp bq gq (pre.length + 2)) := rfl
  have rd : ∀ (e : List AV) (L : List (List AV)), (St.mk e L H).cells (.gp bq gq (pre.length + 2)) 1 = some [wl] := fun e L => mid.cells e L 2 1 (by simp)
  obtain ⟨_, ll⟩ := len_own ol
  rw [List.length_map] at ll
  have k0 : decide ((k : Int) < 0) = false := decide_eq_false (by omega)
  by_cases hf : 200 ≤ x.list.length
  · have pe := putM_full (m := m) e3 hf
    simp only [EZ, q_bx, if_true, if_false, Nat.reduceAdd, Option.bind_some, Nat.reduceBEq, kao_r, kao_d0_q, e1, k0, i0, fl2, rd, ll, show decide ((200 : Int) ≤ (x.list.length : Int)) = true from decide_eq_true (by omega)]
    rw [pe]; refine ⟨rfl, rfl, Nat.le_refl _, fw, ow, nw, ?_⟩
    first | exact ⟨fun c hc => .inl hc, fun c _ _ => rfl⟩ | exact ⟨fun c hc => .inl hc, fun _ _ _ => trivial⟩ | exact ⟨fun c hc => .inl hc, trivial⟩ | exact fun c hc => .inl hc
  have pe := putM_ok (m := m) e3 hf e1
  have bl := mid.lt
  have nd2 : (f ++ fm).Nodup := List.nodup_append.2 ⟨nf, nm, fun x hx y hy e => dis x (sf x hx) (e ▸ hy)⟩
  obtain ⟨v', H', fp', ea, o', nd', hf', hl', hm'⟩ := app_ext (bytes := 120) ol nd2 (by omega) om.len om (by simp only [List.length_map, maxMade]; omega)
  obtain ⟨cv1, cv2, cv3, cv4⟩ := o'.cell
  have mH := mid.frame (hf' bq bnf bl)
  obtain ⟨H3, s3, m3, l3, r3⟩ := mH.store (i := 2) (vs := [v']) (by simp) (by simp only [all_c1, all_n1, cv3, Bool.and_self])
  have ov2 : over [.int .i64 x.frm, .int .i64 x.to_, wl] 2 [v'] = [.int .i64 x.frm, .int .i64 x.to_, v'] := rfl
  rw [ov2] at m3
  simp only [EZ, q_bx, if_true, if_false, Nat.reduceAdd, Option.bind_some, Nat.reduceBEq, kao_r, kao_d0_q, EA, EB2, e1, k0, i0, fl2, rd, ll, show decide ((200 : Int) ≤ (x.list.length : Int)) = false from decide_eq_false (by omega), cz5a, cz5b, cz5c, ea, s3, cv1, cv2, cv3]
  have om' := o'.frame (h' := H3) fun c hc => r3 c (fun e => by
    subst e
    rcases hm' c hc with g | g | g
    · exact bnf g
    · exact dis c bf g
    · omega)
  have orow' : OwnL H3 [.int .i64 x.frm, .int .i64 x.to_, v'] ({ x with list := x.list ++ [m] } : DChannel).cd fp' := by
    have : fp' = fp' ++ [] := by simp
    rw [this]; exact .i (.i (.o (by simpa using om') .nil))
  obtain ⟨fw', ow', nw', mw'⟩ := close H3 _ _ fp' orow' nd' rfl (fun c hc => by
    rcases hm' c hc with g | g | g
    · exact .inl g
    · exact .inr fun h => dis c h g
    · exact .inr fun h => by have := ow.lt c h; omega) m3 (fun c hc hcf hcb => by rw [r3 c hcb, hf' c hcf (ow.lt c hc)])
  rw [show (l.map DChannel.cd).set k ({ x with list := x.list ++ [m] } : DChannel).cd = (l.set k { x with list := x.list ++ [m] }).map DChannel.cd by rw [List.map_set]] at ow'
  rw [pe]
  have fin : H.length ≤ H3.length ∧ ∃ f', Own H3 w (.sl 3 ((l.set k { x with list := x.list ++ [m] }).map DChannel.cd)) f' ∧ f'.Nodup ∧ (∀ c ∈ f', c ∈ fw ∨ c ∈ fm ∨ H.length ≤ c) ∧ (∀ c, c ∉ fw → c < H.length → H3[c]? = H[c]?) := ⟨by omega, fw', ow', nw', fun c hc => by
    rcases mw' c hc with g | g
    · exact .inl g
    · rcases hm' c g with q | q | q
      · exact .inl (sf c q)
      · exact .inr (.inl q)
      · exact .inr (.inr q), fun c hc hcl => by rw [r3 c (fun e => hc (e ▸ bf)), hf' c (fun h => hc (sf c h)) hcl]⟩
  first | exact ⟨rfl, rfl, fin⟩ | exact ⟨rfl, trivial, fin⟩ | exact ⟨trivial, fin⟩ | exact ⟨rfl, fin⟩ | exact fin
theorem nodup4 {A B C C' D : List Nat} {n : Nat} (nd : (A ++ (B ++ (C ++ D))).Nodup) (hn : ∀ c ∈ A ++ (B ++ (C ++ D)), c < n) (nC : C'.Nodup) (hC : ∀ c ∈ C', c ∈ C ∨ n ≤ c) : (A ++ (B ++ (C' ++ D))).Nodup := by
  obtain ⟨nA, n1, d1⟩ := List.nodup_append.1 nd
  obtain ⟨nB, n2, d2⟩ := List.nodup_append.1 n1
  obtain ⟨_, nD, d3⟩ := List.nodup_append.1 n2
  refine List.nodup_append.2 ⟨nA, List.nodup_append.2 ⟨nB, List.nodup_append.2 ⟨nC, nD, fun x hx y hy e => ?_⟩, fun x hx y hy e => ?_⟩, fun x hx y hy e => ?_⟩
  · subst e
    rcases hC x hx with g | g
    · exact d3 x g x hy rfl
    · have := hn x (by simp [hy]); omega
  · subst e
    rcases List.mem_append.1 hy with q | q
    · rcases hC x q with g | g
      · exact d2 x hx x (by simp [g]) rfl
      · have := hn x (by simp [hx]); omega
    · exact d2 x hx x (by simp [q]) rfl
  · subst e
    simp only [List.mem_append] at hy
    rcases hy with q | q | q
    · exact d1 x hx x (by simp [q]) rfl
    · rcases hC x q with g | g
      · exact d1 x hx x (by simp [g]) rfl
      · have := hn x (by simp [hx]); omega
    · exact d1 x hx x (by simp [q]) rfl
def forgeF (v : DWorld) (a b : Int) (m : DMessage) : DWorld × Bool := ({ v with channels := (putM v.channels a b m).1 }, (putM v.channels a b m).2)
theorem world_cells {H : AH} {row : List AV} {v : DWorld} {f : List Nat} (o : OwnL H row v.cd f) : ∃ wS wV wC wT fS fV fC fT, row = [wS, wV, wC, wT, .int .i64 v.strays] ∧ f = fS ++ (fV ++ (fC ++ fT)) ∧
    Own H wS (.sl 2 (v.library.map DScript.cd)) fS ∧ Own H wV (.sl 5 (v.vats.map DVat.cd)) fV ∧ Own H wC (.sl 3 (v.channels.map DChannel.cd)) fC ∧ Own H wT (.sl 6 (v.notes.map DNote.cd)) fT := by
  simp only [DWorld.cd, ownL_c, ownL_n, own_i, own_b, own_s] at o
  obtain ⟨wS, _, fS, _, rfl, rfl, oS, ⟨wV, _, fV, _, rfl, rfl, oV, ⟨wC, _, fC, _, rfl, rfl, oC, ⟨wT, _, fT, _, rfl, rfl, oT, ⟨_, _, _, _, rfl, rfl, ⟨rfl, rfl⟩, ⟨rfl, rfl⟩⟩⟩⟩⟩⟩ := o
  exact ⟨wS, wV, wC, wT, fS, fV, fC, fT, rfl, by simp, oS, oV, oC, oT⟩
theorem world_own {H : AH} {v : DWorld} {wS wV wC wT : AV} {fS fV fC fT : List Nat} (oS : Own H wS (.sl 2 (v.library.map DScript.cd)) fS) (oV : Own H wV (.sl 5 (v.vats.map DVat.cd)) fV) (oC : Own H wC (.sl 3 (v.channels.map DChannel.cd)) fC) (oT : Own H wT (.sl 6 (v.notes.map DNote.cd)) fT) :
    OwnL H [wS, wV, wC, wT, .int .i64 v.strays] v.cd (fS ++ (fV ++ (fC ++ fT))) := by
  have e : fT = fT ++ [] := by simp
  rw [e]
  exact .o oS (.o oV (.o oC (.o oT (.i .nil))))
theorem forge_fin {h H1 H' : AH} {v : DWorld} {wS wV wC' wT : AV} {fS fV fC fT fC' : List Nat} {l' : List DChannel} (oS : Own H1 wS (.sl 2 (v.library.map DScript.cd)) fS) (oV : Own H1 wV (.sl 5 (v.vats.map DVat.cd)) fV) (oT : Own H1 wT (.sl 6 (v.notes.map DNote.cd)) fT)
    (nw : (fS ++ (fV ++ (fC ++ fT))).Nodup) (hlt : ∀ c ∈ fS ++ (fV ++ (fC ++ fT)), c < H1.length) (bw : ∀ c ∈ fS ++ (fV ++ (fC ++ fT)), h.length ≤ c) (hx : HExt h H') (hl : h.length ≤ H1.length) (oC : Own H' wC' (.sl 3 (l'.map DChannel.cd)) fC') (nC : fC'.Nodup) (mC : ∀ c ∈ fC', c ∈ fC ∨ H1.length ≤ c)
    (fr : ∀ c ∈ fS ++ (fV ++ fT), H'[c]? = H1[c]?) :
    ∃ new q, H' = h ++ new ∧ OwnL H' [wS, wV, wC', wT, .int .i64 v.strays] ({ v with channels := l' } : DWorld).cd q ∧ q.Nodup ∧ ∀ b ∈ q, h.length ≤ b := by
  obtain ⟨N, hN⟩ := hx.out
  refine ⟨N, _, hN, world_own (v := { v with channels := l' }) (oS.frame (h' := H') fun c hc => fr c (by simp [hc])) (oV.frame (h' := H') fun c hc => fr c (by simp [hc])) oC (oT.frame (h' := H') fun c hc => fr c (by simp [hc])), nodup4 nw hlt nC mC, fun b hb => ?_⟩
  simp only [List.mem_append] at hb
  rcases hb with q | q | q | q
  · exact bw b (by simp [q])
  · exact bw b (by simp [q])
  · rcases mC b q with g | g
    · exact bw b (by simp [g])
    · omega
  · exact bw b (by simp [q])
theorem disj_w {fS fV fC fT : List Nat} (nw : (fS ++ (fV ++ (fC ++ fT))).Nodup) : fC.Nodup ∧ ∀ c ∈ fS ++ (fV ++ fT), c ∉ fC := by
  obtain ⟨_, n1, q1⟩ := List.nodup_append.1 nw
  obtain ⟨_, n2, q2⟩ := List.nodup_append.1 n1
  obtain ⟨n3, _, q3⟩ := List.nodup_append.1 n2
  refine ⟨n3, fun c hm hc => ?_⟩
  simp only [List.mem_append] at hm
  rcases hm with g | g | g
  · exact q1 c g c (by simp [hc]) rfl
  · exact q2 c g c (by simp [hc]) rfl
  · exact q3 c hc c g rfl
theorem mem_w {fS fV fC fT : List Nat} {c : Nat} (hc : c ∈ fS ++ (fV ++ fT)) : c ∈ fS ++ (fV ++ (fC ++ fT)) := by
  simp only [List.mem_append] at hc ⊢
  rcases hc with g | g | g
  · exact .inl g
  · exact .inr (.inl g)
  · exact .inr (.inr (.inr g))
set_option maxHeartbeats 1000000 in
theorem kac_T (β : Bool) (v : DWorld) (hv : v.ok 1048576) (a b : Int) (m : DMessage) (hm : m.ok 1048576) (h : AH) : T Tryz.prog Γ Fn.kac [.agg (v.c β), .int .i64 a, .int .i64 b, .agg (m.c β)] h (Fresh h [.a (forgeF v a b m).1.cd, .c (.b (forgeF v a b m).2)]) := by
  refine T.freshA2 rfl ?_
  refine kac_e (aw_sound tabOK mixed [] _ _ _ ?_)
  unfold kac_c
  simp only [EZ, q_bx, if_true, if_false, Nat.reduceAdd, Option.bind_some, Nat.reduceBEq, kac_r, kac_d0_q, EB2, ER, DWorld.c, DMessage.c]
  refine TCall.ref (by simp only [EO]) (kai_T β v hv _) ?_
  rintro _ H1 fr
  replace fr : Fresh h _ _ _ := fr
  obtain ⟨aw, fw, rfl, ow, nw, bw, ew⟩ := fr.a1
  have hlt : ∀ c ∈ fw, c < H1.length := fun c hc => ow.lt c hc
  obtain ⟨wS, wV, wC, wT, fS, fV, fC, fT, rfl, rfl, oS, oV, oC, oT⟩ := world_cells ow
  obtain ⟨a1, a2, a3, a4⟩ := oS.cell
  obtain ⟨b1, b2, b3, b4⟩ := oV.cell
  obtain ⟨c1, c2, c3, c4⟩ := oC.cell
  obtain ⟨d1, d2, d3, d4⟩ := oT.cell
  obtain ⟨nC, dC⟩ := disj_w nw
  simp only [EZ, q_bx, if_true, if_false, Nat.reduceAdd, Option.bind_some, Nat.reduceBEq, kac_r, kac_d0_q, EB2, ER, a1, a2, a3, b1, b2, b3, c1, c2, c3, d1, d2, d3]
  refine TCall.ref (by simp only [EO]) (kae_T β m hm _) ?_
  rintro _ H2 fr
  replace fr : Fresh H1 _ _ _ := fr
  obtain ⟨am, fm, rfl, om, nm, bm, em⟩ := fr.a1
  have na := om.noLp
  simp only [EZ, q_bx, if_true, if_false, Nat.reduceAdd, Option.bind_some, Nat.reduceBEq, kac_r, kac_d0_q, EB2, ER, a1, a2, a3, b1, b2, b3, c1, c2, c3, d1, d2, d3]
  refine ⟨keep_lp' rfl, ?_⟩
  have hfC : ∀ c ∈ fC, c < H1.length := fun c hc => hlt c (by simp [hc])
  refine TCall.ref (by simp only [EO, na, c4]) (kao_T v.channels hv.2.2.2.2.1 hv.2.2.2.2.2.1 m a b _ (oC.ext em) nC om nm (fun c hc hd => by have := hfC c hc; have := bm c hd; omega)) ?_
  rintro _ H3 ⟨rfl, l3, fC', oC', nC', mC', rC'⟩
  replace l3 : H2.length ≤ H3.length := l3
  replace mC' : ∀ c ∈ fC', c ∈ fC ∨ c ∈ fm ∨ H2.length ≤ c := mC'
  replace rC' : ∀ c, c ∉ fC → c < H2.length → H3[c]? = H2[c]? := rC'
  simp only [EZ, q_bx, if_true, if_false, Nat.reduceAdd, Option.bind_some, Nat.reduceBEq, kac_r, kac_d0_q, EB2, ER, a1, a2, a3, b1, b2, b3, c1, c2, c3, d1, d2, d3]
  have l12 := em.len
  have x3 : HExt h H3 := (ew.trans em).upd (fp := fC) l3 (fun c hc hcl => rC' c hc hcl) (fun c hc => bw c (by simp [hc]))
  obtain ⟨N, q, r1, r2, r3, r4⟩ := forge_fin (l' := (putM v.channels a b m).1) oS oV oT nw hlt bw x3 ew.len oC' nC' (fun c hc => by
    rcases mC' c hc with g | g | g
    · exact .inl g
    · exact .inr (bm c g)
    · exact .inr (by omega)) (fun c hc => by
    have hc1 := hlt c (mem_w hc)
    rw [rC' c (dC c hc) (by omega), em.fr c hc1])
  exact ⟨by simp only [List.all_cons, List.all_nil, EO, a3, b3, c3, d3], _, N, q, by rw [CD.av_b]; rfl, r1, r2, r3, r4⟩
set_option maxHeartbeats 1000000 in
theorem kcG_T (β : Bool) (l : List DChannel) (hl : l.length ≤ 1048576) (hc : ∀ x ∈ l, x.ok 1048576) (a b : Int) (m : DMessage) (hm : m.ok 1048576) (h : AH) : T Tryz.prog Γ Fn.kcG [.vs β 3 false (l.map (DChannel.c β)), .int .i64 a, .int .i64 b, .agg (m.c β)] h (Fresh h [.c (.sl 3 ((putM l a b m).1.map DChannel.cd)), .c (.b (putM l a b m).2)]) := by
  refine T.freshC2 rfl ?_
  refine kcG_e (aw_sound tabOK mixed [] _ _ _ ?_)
  unfold kcG_c
  simp only [EZ, q_bx, if_true, if_false, Nat.reduceAdd, Option.bind_some, Nat.reduceBEq, kcG_r, kcG_d0_q, EB2, ER, DMessage.c]
  refine TCall.ref (by simp only [EO]) (kcK_T β l hl hc _) ?_
  rintro w H1 fr
  replace fr : Fresh h _ _ _ := fr
  obtain ⟨fw, ow, nw, bw, ew⟩ := fr.c1
  obtain ⟨w1, w2, w3, w4⟩ := ow.cell
  simp only [EZ, q_bx, if_true, if_false, Nat.reduceAdd, Option.bind_some, Nat.reduceBEq, kcG_r, kcG_d0_q, EB2, ER]
  refine TCall.val (by simp only [EO]) (kcM_T β l (by omega) a b _) ?_
  have done : ∀ H' : AH, H' = H1 → putM l a b m = (l, false) → ∃ new fp, H' = h ++ new ∧ Own H' w (.sl 3 ((putM l a b m).1.map DChannel.cd)) fp ∧ fp.Nodup ∧ ∀ c ∈ fp, h.length ≤ c := fun H' e pe => by
    obtain ⟨N, hN⟩ := ew.out
    exact ⟨N, fw, e.trans hN, by rw [pe, e]; exact ow, nw, bw⟩
  rcases idxI_cases (chanP a b) l with ⟨k, hk, e1, e2, e3⟩ | ⟨e1, e2, e3⟩
  rotate_left
  · have pe := putM_none (m := m) e2
    simp only [EZ, q_bx, if_true, if_false, Nat.reduceAdd, Option.bind_some, Nat.reduceBEq, kcG_r, kcG_d0_q, ER, e1, show decide ((-1 : Int) < 0) = true from rfl, w1, w2, w3]
    obtain ⟨N, fp, g1, g2, g3, g4⟩ := done _ rfl pe
    exact ⟨by simp only [List.all_cons, List.all_nil, EO, w4], w, N, fp, by rw [pe, CD.av_b], g1, g2, g3, g4⟩
  obtain ⟨x, hxe⟩ : ∃ x, x = l[k] := ⟨_, rfl⟩
  have i1 := idx_vm (β := β) (sz := 3) (ex := false) (ce := DChannel.c β) hk
  have L1 := len_vm β 12 false x.list (DMessage.c β)
  rw [← hxe] at e3 i1
  have k0 : decide ((k : Int) < 0) = false := decide_eq_false (by omega)
  by_cases hf : 200 ≤ x.list.length
  · have pe := putM_full (m := m) e3 hf
    simp only [EZ, q_bx, if_true, if_false, Nat.reduceAdd, Option.bind_some, Nat.reduceBEq, kcG_r, kcG_d0_q, ER, e1, k0, i1, DChannel.c, L1, show decide ((200 : Int) ≤ (x.list.length : Int)) = true from decide_eq_true (by omega), w1, w2, w3]
    obtain ⟨N, fp, g1, g2, g3, g4⟩ := done _ rfl pe
    exact ⟨by simp only [List.all_cons, List.all_nil, EO, w4], w, N, fp, by rw [pe, CD.av_b], g1, g2, g3, g4⟩
  have pe := putM_ok (m := m) e3 hf e1
  have hkm : k < (l.map DChannel.cd).length := by simpa using hk
  obtain ⟨bq, gq, pre, row, post, f, i0, mid, lr, orow, nf, sf, bf, bnf, close⟩ := ow.openRow nw hkm
  simp only [List.getElem_map] at orow
  rw [← hxe] at orow
  obtain ⟨wl, rfl, ol⟩ := chan_cells orow
  have fl2 : aFld 2 (.gp bq gq pre.length) = some (.gp bq gq (pre.length + 2)) := rfl
  have rd : ∀ (e : List AV) (L : List (List AV)), (St.mk e L H1).cells (.gp bq gq (pre.length + 2)) 1 = some [wl] := fun e L => mid.cells e L 2 1 (by simp)
  simp only [EZ, q_bx, if_true, if_false, Nat.reduceAdd, Option.bind_some, Nat.reduceBEq, kcG_r, kcG_d0_q, ER, EB2, e1, k0, i1, DChannel.c, L1, show decide ((200 : Int) ≤ (x.list.length : Int)) = false from decide_eq_false (by omega), i0, fl2, rd]
  refine TCall.ref (by simp only [EO]) (kcI_T β m hm _) ?_
  rintro _ H2 fr
  replace fr : Fresh H1 _ _ _ := fr
  obtain ⟨am, fm, rfl, om, nm, bm, em⟩ := fr.a1
  have oo := om
  simp only [DMessage.cd, ownL_c, ownL_n, own_i, own_b, own_s] at oo
  obtain ⟨_, _, _, _, rfl, _, ⟨rfl, rfl⟩, ⟨_, _, _, _, rfl, _, ⟨rfl, rfl⟩, ⟨_, _, _, _, rfl, _, ⟨rfl, rfl⟩, ⟨_, _, _, _, rfl, _, ⟨rfl, rfl⟩, ⟨_, _, _, _, rfl, _, ⟨rfl, rfl⟩, ⟨az5, _, _, _, rfl, _, uz5, ⟨_, _, _, _, rfl, _, ⟨rfl, rfl⟩, ⟨_, _, _, _, rfl, _, ⟨rfl, rfl⟩, ⟨_, _, _, _, rfl, _, ⟨rfl, rfl⟩, ⟨_, _, _, _, rfl, _, ⟨rfl, rfl⟩, ⟨_, _, _, _, rfl, _, ⟨rfl, rfl⟩, ⟨_, _, _, _, rfl, _, ⟨rfl, rfl⟩, ⟨rfl, _⟩⟩⟩⟩⟩⟩⟩⟩⟩⟩⟩⟩⟩ := oo
  obtain ⟨cz5a, cz5b, cz5c, cz5d⟩ := uz5.cell
  have bl := mid.lt
  have l12 := em.len
  have nd2 : (f ++ fm).Nodup := nodup_app nf nm (fun c hc => ow.lt c (sf c hc)) bm
  obtain ⟨v', H', fp', ea, o', nd', hf', hl', hm'⟩ := app_ext (bytes := 120) (ol.ext em) nd2 (by omega) om.len om (by simp only [List.length_map, maxMade]; omega)
  obtain ⟨cv1, cv2, cv3, cv4⟩ := o'.cell
  have mH := (mid.frame (em.fr bq bl)).frame (hf' bq bnf (by omega))
  obtain ⟨H3, s3, m3, l3, r3⟩ := mH.store (i := 2) (vs := [v']) (by simp) (by simp only [all_c1, all_n1, cv3, Bool.and_self])
  have ov2 : over [.int .i64 x.frm, .int .i64 x.to_, wl] 2 [v'] = [.int .i64 x.frm, .int .i64 x.to_, v'] := rfl
  rw [ov2] at m3
  simp only [EZ, q_bx, if_true, if_false, Nat.reduceAdd, Option.bind_some, Nat.reduceBEq, kcG_r, kcG_d0_q, ER, EA, EB2, i0, fl2, cz5a, cz5b, cz5c, ea, s3, cv1, cv2, cv3, w1, w2, w3]
  have om' := o'.frame (h' := H3) fun c hc => r3 c (fun e => by
    subst e
    rcases hm' c hc with g | g | g
    · exact bnf g
    · have := bm c g; omega
    · omega)
  have orow' : OwnL H3 [.int .i64 x.frm, .int .i64 x.to_, v'] ({ x with list := x.list ++ [m] } : DChannel).cd fp' := by
    have : fp' = fp' ++ [] := by simp
    rw [this]; exact .i (.i (.o (by simpa using om') .nil))
  obtain ⟨fw', ow', nw', mw'⟩ := close H3 _ _ fp' orow' nd' rfl (fun c hc => by
    rcases hm' c hc with g | g | g
    · exact .inl g
    · exact .inr fun h => by have := ow.lt c h; have := bm c g; omega
    · exact .inr fun h => by have := ow.lt c h; omega) m3 (fun c hc hcf hcb => by rw [r3 c hcb, hf' c hcf (by have := ow.lt c hc; omega), em.fr c (ow.lt c hc)])
  rw [show (l.map DChannel.cd).set k ({ x with list := x.list ++ [m] } : DChannel).cd = (l.set k { x with list := x.list ++ [m] }).map DChannel.cd by rw [List.map_set]] at ow'
  have x3 : HExt h H3 := (ew.trans em).upd (fp := bq :: f) (by omega) (fun c hc hcl => by rw [r3 c (fun e => hc (by simp [e])), hf' c (fun g => hc (by simp [g])) hcl]) (fun c hc => by
    rcases List.mem_cons.1 hc with rfl | g
    · exact bw _ bf
    · exact bw _ (sf c g))
  obtain ⟨N, hN⟩ := x3.out
  have lh := ew.len
  refine ⟨(by first | exact keep_lp' rfl | exact mem_keep (em.mem _ _ _)), by simp only [List.all_cons, List.all_nil, EO, w4], w, N, fw', by rw [pe, CD.av_b], hN, by rw [pe]; exact ow', nw', fun c hc => ?_⟩
  rcases mw' c hc with g | g
  · exact bw c g
  · rcases hm' c g with q | q | q
    · exact bw c (sf c q)
    · have := bm c q; omega
    · omega
end Go.Proofs.YtleddolmolkpfaaGreat
