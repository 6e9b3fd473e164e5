import Derived.Test.YtleddolmolkpfaaGreatR5DG
import Derived.Test.YtleddolmolkpfaaGreatR5GI
import Derived.Test.YtleddolmolkpfaaGreatAmMore3
import Derived.Test.YtleddolmolkpfaaGreatAmLoc
set_option linter.unusedVariables false
set_option linter.unusedSimpArgs false
namespace Go.Proofs.YtleddolmolkpfaaGreat
open Go.AM
set_option linter.unusedVariables false
set_option linter.unusedSimpArgs false
variable {Γ : Glob}
def claimP (gi no ta : Int) (x : DGift) : Bool := x.giver == gi && x.nonce == no && x.taker == ta
def claimF (l : List DGift) (ta gi no : Int) : List DGift × Int × Bool :=
  if 0 ≤ idxI (claimP gi no ta) l then (l.eraseIdx (idxI (claimP gi no ta) l).toNat, (l.getD (idxI (claimP gi no ta) l).toNat default).entity, true) else (l, -1, false)
theorem claim_at {l : List DGift} {ta gi no : Int} {k : Nat} (hk : k < l.length) (h : idxI (claimP gi no ta) l = (k : Int)) : claimF l ta gi no = (l.eraseIdx k, l[k].entity, true) := by
  unfold claimF
  rw [h, if_pos (by omega)]
  simp [List.getD_eq_getElem?_getD, hk]
theorem claim_no {l : List DGift} {ta gi no : Int} (h : idxI (claimP gi no ta) l = -1) : claimF l ta gi no = (l, -1, false) := by
  unfold claimF; rw [h, if_neg (by omega)]
theorem claimF_len (l : List DGift) (ta gi no : Int) : (claimF l ta gi no).1.length ≤ l.length := by
  unfold claimF; split
  · exact List.length_eraseIdx_le _ _
  · exact Nat.le_refl _
theorem impl_ClaimGift_1_T (β : Bool) (x : DGift) (gi no ta : Int) (H : AH) {p1 p2 p3 : AV} (h1 : Ptr H p1 [.int .i64 gi]) (h2 : Ptr H p2 [.int .i64 no]) (h3 : Ptr H p3 [.int .i64 ta]) : T Tryz.prog Γ Fn.impl_ClaimGift_1 [.agg (x.c β), p1, p2, p3] H fun v h' => v = .bool (claimP gi no ta x) ∧ h' = H := by
  refine impl_ClaimGift_1_e (aw_sound tabOK mixed [] _ _ _ ?_)
  unfold impl_ClaimGift_1_c
  have q1 : ∀ (e : List AV) (l : List (List AV)), (St.mk e l H).cells p1 1 = some [.int .i64 gi] := fun e l => h1.rd0 e l 0 (by simp)
  have q2 : ∀ (e : List AV) (l : List (List AV)), (St.mk e l H).cells p2 1 = some [.int .i64 no] := fun e l => h2.rd0 e l 0 (by simp)
  have q3 : ∀ (e : List AV) (l : List (List AV)), (St.mk e l H).cells p3 1 = some [.int .i64 ta] := fun e l => h3.rd0 e l 0 (by simp)
  cases c1 : (x.giver == gi)
  · simp only [EV, EL, EB, EF, q_bx, if_true, if_false, Bool.false_eq_true, Nat.reduceAdd, Option.bind_some, Bool.not_true, Bool.not_false, Nat.reduceBEq, impl_ClaimGift_1_r, DGift.c, q1, q2, q3, c1]
    first | exact ⟨rfl, by simp [claimP, c1]⟩ | simp [claimP, c1]
  · cases c2 : (x.nonce == no)
    · simp only [EV, EL, EB, EF, q_bx, if_true, if_false, Bool.false_eq_true, Nat.reduceAdd, Option.bind_some, Bool.not_true, Bool.not_false, Nat.reduceBEq, impl_ClaimGift_1_r, DGift.c, q1, q2, q3, c1, c2]
      first | exact ⟨rfl, by simp [claimP, c1, c2]⟩ | simp [claimP, c1, c2]
    · simp only [EV, EL, EB, EF, q_bx, if_true, if_false, Bool.false_eq_true, Nat.reduceAdd, Option.bind_some, Bool.not_true, Bool.not_false, Nat.reduceBEq, impl_ClaimGift_1_r, DGift.c, q1, q2, q3, c1, c2]
      first | exact ⟨rfl, by simp [claimP, c1, c2]⟩ | simp [claimP, c1, c2]
theorem indexClaim (β : Bool) (l : List DGift) (hl : l.length ≤ 1048577) (gi no ta : Int) (H : AH) {p1 p2 p3 : AV} (h1 : Ptr H p1 [.int .i64 gi]) (h2 : Ptr H p2 [.int .i64 no]) (h3 : Ptr H p3 [.int .i64 ta]) : T Tryz.prog Γ Fn.slices_IndexFunc_iimpl_Gift_impl_Gift [.vs β 4 false (l.map (DGift.c β)), .fn Fn.impl_ClaimGift_1 [] [p1, p2, p3]] H fun v h' => v = .int .i64 (idxI (claimP gi no ta) l) ∧ h' = H :=
  indexFunc_D (P := Tryz.prog) (Γ := Γ) tabOK mixed (sz := 4) (agg := true) (fun hw => slices_IndexFunc_iimpl_Gift_impl_Gift_e hw) (β := β) (l := l) (c := DGift.c β) (by omega) (fun x => ⟨⟨rfl, .inl rfl⟩, rfl⟩) (g := Fn.impl_ClaimGift_1) (first := []) (caps := [p1, p2, p3]) (by simp [h1.out, h2.out, h3.out]) (claimP gi no ta) (h := H) (fun x hx => impl_ClaimGift_1_T β x gi no ta _ h1 h2 h3)
theorem impl_ClaimGift_T (β : Bool) (l : List DGift) (hl : l.length ≤ 1048576) (ta gi no : Int) (h : AH) : T Tryz.prog Γ Fn.impl_ClaimGift [.vs β 4 false (l.map (DGift.c β)), .int .i64 ta, .int .i64 gi, .int .i64 no] h (Fresh h [.c (.sl 4 ((claimF l ta gi no).1.map DGift.cd)), .c (.i .i64 (claimF l ta gi no).2.1), .c (.b (claimF l ta gi no).2.2)]) := by
  refine T.freshC3 rfl rfl ?_
  refine impl_ClaimGift_e (aw_sound tabOK mixed [5, 6, 7] _ _ _ ?_)
  unfold impl_ClaimGift_c
  have bx : ∀ (s : St) (n : Int), boxK true s (some [.int .i64 n]) = .val (.gp s.heap.length 0 0) (s.push [.int .i64 n]) := fun s n => box_g s _ rfl
  simp only [EV, EL, EB, EF, q_bx, if_true, if_false, Bool.false_eq_true, Nat.reduceAdd, Option.bind_some, Bool.not_true, Bool.not_false, Nat.reduceBEq, impl_ClaimGift_r, bx, push_s, List.length_append, List.length_cons, List.length_nil]
  generalize hg : h ++ [some (0, [.int .i64 ta])] ++ [some (0, [.int .i64 gi])] ++ [some (0, [.int .i64 no])] = h3
  have q1 : hget h3 h.length = some (0, [.int .i64 ta]) := by rw [← hg]; simp [hget]
  have q2 : hget h3 (h.length + 1) = some (0, [.int .i64 gi]) := by rw [← hg]; simp [hget]
  have q3 : hget h3 (h.length + 1 + 1) = some (0, [.int .i64 no]) := by
    rw [← hg]
    have e : h.length + 1 + 1 = (h ++ [some (0, [AV.int .i64 ta])] ++ [some (0, [AV.int .i64 gi])] : AH).length := by simp
    rw [e]; exact hget_last _ _
  have x3 : HExt h h3 := by rw [← hg, List.append_assoc, List.append_assoc]; exact HExt.app h _
  have l3 : h3.length = h.length + 3 := by rw [← hg]; simp
  refine TCall.ref (by simp only [EO]) (clone_Gift β l (by omega) _) ?_
  rintro w H1 fr
  replace fr : Fresh h3 _ _ _ := fr
  obtain ⟨fw, ow, nw, bw, ew⟩ := fr.c1
  obtain ⟨c1, c2, c3, c4⟩ := ow.cell
  have r1 : hget H1 h.length = some (0, [.int .i64 ta]) := frame_hget q1 (ew.fr _ (by omega))
  have r2 : hget H1 (h.length + 1) = some (0, [.int .i64 gi]) := frame_hget q2 (ew.fr _ (by omega))
  have r3 : hget H1 (h.length + 1 + 1) = some (0, [.int .i64 no]) := frame_hget q3 (ew.fr _ (by omega))
  have bw' : ∀ c ∈ fw, h.length ≤ c := fun c hc => by have := bw c hc; omega
  simp only [EV, EL, EB, EF, q_bx, if_true, if_false, Bool.false_eq_true, Nat.reduceAdd, Option.bind_some, Bool.not_true, Bool.not_false, Nat.reduceBEq, impl_ClaimGift_r, c1, c2, c3]
  refine TCall.see (by simp only [EO, c4]) (snap_c (Own.see (DGift.c_eq true) ow) (snap_c (snap_f3 (snap_b1 r2) (snap_b1 r3) (snap_b1 r1)) snap_n)) (fun h => indexClaim true l (by omega) gi no ta h (Ptr.ip h true _) (Ptr.ip h true _) (Ptr.ip h true _)) (.int _ _) ?_
  rcases idxI_cases (claimP gi no ta) l with ⟨k, hk, e1, e2, e3⟩ | ⟨e1, e2, e3⟩
  rotate_left
  · have ec := claim_no e1
    simp only [EV, EL, EB, EF, q_bx, if_true, if_false, Bool.false_eq_true, Nat.reduceAdd, Option.bind_some, Bool.not_true, Bool.not_false, Nat.reduceBEq, impl_ClaimGift_r, ER, c1, c2, c3, e1, show decide ((-1 : Int) < 0) = true from rfl]
    obtain ⟨N, hN⟩ := (x3.trans ew).out
    exact ⟨by simp only [EO, c4], w, N, fw, by rw [ec, CD.av_i, CD.av_b], hN, by rw [ec]; exact ow, nw, bw'⟩
  have ec := claim_at hk e1
  have hkm : k < (l.map DGift.cd).length := by simpa using hk
  obtain ⟨b, g, az, f, i0, _, _, _, rd, oz, _, _, lz⟩ := ow.row nw hkm
  have oo := oz
  simp only [List.getElem_map, DGift.cd, ownL_c, ownL_n, own_i] at oo
  obtain ⟨_, _, _, _, rfl, rfl, ⟨rfl, rfl⟩, ⟨_, _, _, _, rfl, rfl, ⟨rfl, rfl⟩, ⟨_, _, _, _, rfl, rfl, ⟨rfl, rfl⟩, ⟨_, _, _, _, rfl, rfl, ⟨rfl, rfl⟩, ⟨rfl, rfl⟩⟩⟩⟩⟩ := oo
  have f3' : aFld 3 (.gp b g (k * 4)) = some (.gp b g (k * 4 + 3)) := rfl
  have rd3 : ∀ (e : List AV) (L : List (List AV)), (St.mk e L H1).cells (.gp b g (k * 4 + 3)) 1 = some [.int .i64 l[k].entity] := fun e L => by rw [rd e L 3 1 (by omega)]; rfl
  have wk : IntKind.i64.wrap ((k : Int) + 1) = ((k + 1 : Nat) : Int) := wN (by omega)
  simp only [EV, EL, EB, EF, q_bx, if_true, if_false, Bool.false_eq_true, Nat.reduceAdd, Option.bind_some, Bool.not_true, Bool.not_false, Nat.reduceBEq, impl_ClaimGift_r, ER, c1, c2, c3, e1, decide_eq_false (show ¬ (k : Int) < 0 by omega), i0, f3', rd3, wk]
  refine TCall.ref (by simp only [EO, c4]) (deleteGift l (by omega) hk _ ow nw) ?_
  rintro v H2 ⟨hl2, hf2, o2⟩
  replace hl2 : H2.length = H1.length := hl2
  replace hf2 : ∀ c, c ∉ fw → H2[c]? = H1[c]? := hf2
  obtain ⟨d1, d2, d3, d4⟩ := o2.cell
  have ex := (x3.trans ew).mark hl2 hf2 bw'
  simp only [EV, EL, EB, EF, q_bx, if_true, if_false, Bool.false_eq_true, Nat.reduceAdd, Option.bind_some, Bool.not_true, Bool.not_false, Nat.reduceBEq, impl_ClaimGift_r, ER, d1, d2, d3]
  obtain ⟨N, hN⟩ := ex.out
  exact ⟨by simp only [EO, d4], v, N, fw, by rw [ec, CD.av_i, CD.av_b], hN, by rw [ec]; exact o2, nw, bw'⟩
theorem cut_toV {α : Type} (s : St) (β : Bool) (sz : Nat) (l : List α) (c : α → List AV) {k : Nat} (hk : k ≤ l.length) : cutTo (.sl sz) s (.vs β sz false (l.map c)) (.int .i64 k) = .val (.vs β sz false ((l.take k).map c)) s := by
  have e : bndV (.int .i64 (k : Int)) = some k := by simp [bndV, asI]
  simp only [cutTo, e, aSlice]
  simp [AR.ofO, List.map_take, hk]
theorem spec_ClaimGift_T (β : Bool) (l : List DGift) (hl : l.length ≤ 1048576) (ta gi no : Int) (h : AH) : T Tryz.prog Γ Fn.spec_ClaimGift [.vs β 4 false (l.map (DGift.c β)), .int .i64 ta, .int .i64 gi, .int .i64 no] h (Fresh h [.c (.sl 4 ((claimF l ta gi no).1.map DGift.cd)), .c (.i .i64 (claimF l ta gi no).2.1), .c (.b (claimF l ta gi no).2.2)]) := by
  have L0 := len_vm β 4 false l (DGift.c β)
  generalize e0 : AV.vs β 4 false (l.map (DGift.c β)) = a0 at *
  refine T.freshC3 rfl rfl ?_
  refine spec_ClaimGift_e (aw_sound tabOK mixed [] _ _ _ ?_)
  unfold spec_ClaimGift_c
  simp only [EV, EL, EB, EF, q_bx, if_true, if_false, Bool.false_eq_true, Nat.reduceAdd, Option.bind_some, Bool.not_true, Bool.not_false, Nat.reduceBEq, spec_ClaimGift_r, spec_ClaimGift_d0_q, L0]
  refine loopI tabOK mixed [] (fun x : Nat × List (List AV) => x.1 ≤ l.length ∧ ∀ (i : Nat) (hi : i < l.length), i < x.1 → claimP gi no ta l[i] = false) (fun x => l.length - x.1)
    (fun x => spec_ClaimGift_s0 a0 (.int .i64 ta) (.int .i64 gi) (.int .i64 no) (.int .i64 x.1) x.2 h) (0, []) ⟨by omega, fun i hi h => by omega⟩ ⟨by simp [spec_ClaimGift_s0, LeL, LeV], rfl, rfl⟩ ?_
  rintro ⟨k, L⟩ ⟨hk, ht⟩
  simp only at hk ht
  simp only [EV, EL, EB, EF, q_bx, if_true, if_false, Bool.false_eq_true, Nat.reduceAdd, Option.bind_some, Bool.not_true, Bool.not_false, Nat.reduceBEq, spec_ClaimGift_r, spec_ClaimGift_d0_q, spec_ClaimGift_s0, L0]
  refine c_split (fun hlt => ?_) (fun hge => ?_)
  rotate_left
  · have hge : k = l.length := by simp at hge; omega
    subst hge
    have ec := claim_no (idxI_none (p := claimP gi no ta) fun i hi => ht i hi hi)
    simp only [EV, EL, EB, EF, q_bx, if_true, if_false, Bool.false_eq_true, Nat.reduceAdd, Option.bind_some, Bool.not_true, Bool.not_false, Nat.reduceBEq, spec_ClaimGift_r, spec_ClaimGift_d0_q, ER]
    rw [← e0]
    refine TCall.ref (by simp only [EO]) (spec_l31Copy_T β l (by omega) _) ?_
    rintro w H1 fr
    replace fr : Fresh h _ _ _ := fr
    obtain ⟨fw, ow, nw, bw, ew⟩ := fr.c1
    obtain ⟨c1, c2, c3, c4⟩ := ow.cell
    simp only [EV, EL, EB, EF, q_bx, if_true, if_false, Bool.false_eq_true, Nat.reduceAdd, Option.bind_some, Bool.not_true, Bool.not_false, Nat.reduceBEq, spec_ClaimGift_r, spec_ClaimGift_d0_q, ER, c1, c2, c3]
    obtain ⟨N, hN⟩ := ew.out
    exact ⟨by simp only [EO, c4], w, N, fw, by rw [ec, CD.av_i, CD.av_b], hN, by rw [ec]; exact ow, nw, bw⟩
  have hlt : k < l.length := by simpa using hlt
  have i0 := idx_vm (β := β) (sz := 4) (ex := false) (ce := DGift.c β) hlt
  rw [e0] at i0
  have tc : ∀ (s : St), cutTo (.sl 4) s a0 (.int .i64 k) = .val (.vs β 4 false ((l.take k).map (DGift.c β))) s := fun s => by rw [← e0]; exact cut_toV s β 4 l (DGift.c β) (by omega)
  have fc : ∀ (s : St), cutFrom (.sl 4) s a0 (.int .i64 ((k + 1 : Nat) : Int)) = .val (.vs β 4 false ((l.drop (k + 1)).map (DGift.c β))) s := fun s => by rw [← e0]; exact cut_from s β 4 l (DGift.c β) (by omega)
  have wk : IntKind.i64.wrap ((k : Int) + 1) = ((k + 1 : Nat) : Int) := wN (by omega)
  have nxt : claimP gi no ta l[k] = false → ∀ (i : Nat) (hi : i < l.length), i < k + 1 → claimP gi no ta l[i] = false := fun hf i hi hik => by
    rcases Nat.lt_or_ge i k with g | g
    · exact ht i hi g
    · have : i = k := by omega
      subst this; exact hf
  cases d1 : (l[k].giver == gi)
  · simp only [EV, EL, EB, EF, q_bx, if_true, if_false, Bool.false_eq_true, Nat.reduceAdd, Option.bind_some, Bool.not_true, Bool.not_false, Nat.reduceBEq, spec_ClaimGift_r, spec_ClaimGift_d0_q, i0, EB2, DGift.c, d1]
    exact ⟨(k + 1, _), ⟨hlt, nxt (by simp [claimP, d1])⟩, by simp only; omega, ⟨by rw [wk]; simp [spec_ClaimGift_s0, LeL, LeV], rfl, rfl⟩⟩
  cases d2 : (l[k].nonce == no)
  · simp only [EV, EL, EB, EF, q_bx, if_true, if_false, Bool.false_eq_true, Nat.reduceAdd, Option.bind_some, Bool.not_true, Bool.not_false, Nat.reduceBEq, spec_ClaimGift_r, spec_ClaimGift_d0_q, i0, EB2, DGift.c, d1, d2]
    exact ⟨(k + 1, _), ⟨hlt, nxt (by simp [claimP, d1, d2])⟩, by simp only; omega, ⟨by rw [wk]; simp [spec_ClaimGift_s0, LeL, LeV], rfl, rfl⟩⟩
  cases d3 : (l[k].taker == ta)
  · simp only [EV, EL, EB, EF, q_bx, if_true, if_false, Bool.false_eq_true, Nat.reduceAdd, Option.bind_some, Bool.not_true, Bool.not_false, Nat.reduceBEq, spec_ClaimGift_r, spec_ClaimGift_d0_q, i0, EB2, DGift.c, d1, d2, d3]
    exact ⟨(k + 1, _), ⟨hlt, nxt (by simp [claimP, d1, d2, d3])⟩, by simp only; omega, ⟨by rw [wk]; simp [spec_ClaimGift_s0, LeL, LeV], rfl, rfl⟩⟩
  have ec := claim_at hlt (idxI_at (p := claimP gi no ta) hlt ht (by simp [claimP, d1, d2, d3]))
  simp only [EV, EL, EB, EF, q_bx, if_true, if_false, Bool.false_eq_true, Nat.reduceAdd, Option.bind_some, Bool.not_true, Bool.not_false, Nat.reduceBEq, spec_ClaimGift_r, spec_ClaimGift_d0_q, i0, EB2, DGift.c, d1, d2, d3, wk, tc, fc, p_cutTo, p_cutFrom]
  refine TCall.ref (by simp only [EO]) (spec_l31Copy_T β (l.take k) (by rw [List.length_take]; omega) _) ?_
  rintro w H1 fr
  replace fr : Fresh h _ _ _ := fr
  obtain ⟨fw, ow, nw, bw, ew⟩ := fr.c1
  obtain ⟨c1, c2, c3, c4⟩ := ow.cell
  obtain ⟨v', H', fp', ea, o', nd', hf', hl', hm'⟩ := app_vs (bytes := 32) ow nw (by omega) (β := β) (l := l.drop (k + 1)) (c := DGift.c β) (fun x => ⟨rfl, rfl⟩) (fun x => (DGift.c_eq false x).symm) (by simp only [List.length_map, List.length_take, List.length_drop, maxMade]; omega)
  obtain ⟨e1, e2, e3, e4⟩ := o'.cell
  simp only [EV, EL, EB, EF, q_bx, if_true, if_false, Bool.false_eq_true, Nat.reduceAdd, Option.bind_some, Bool.not_true, Bool.not_false, Nat.reduceBEq, spec_ClaimGift_r, spec_ClaimGift_d0_q, EB2, ER, EA, c1, c2, c3, ea, e1, e2, e3]
  refine ⟨ew.mem _ _ _, keep_lp' rfl, ?_⟩
  have hll : l.take k ++ l.drop (k + 1) = l.eraseIdx k := (List.eraseIdx_eq_take_drop_succ _ _).symm
  rw [← List.map_append, hll] at o'
  have ex := ew.upd hl' hf' bw
  obtain ⟨N, hN⟩ := ex.out
  exact ⟨by simp only [EO, e4], v', N, fp', by rw [ec, CD.av_i, CD.av_b], hN, by rw [ec]; exact o', nd', fun c hc => by
    rcases hm' c hc with g | g
    · exact bw c g
    · have := ew.len; omega⟩

end Go.Proofs.YtleddolmolkpfaaGreat

