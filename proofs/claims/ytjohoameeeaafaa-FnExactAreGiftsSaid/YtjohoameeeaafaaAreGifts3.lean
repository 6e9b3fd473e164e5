import Derived.Test.YtjohoameeeaafaaAreGifts2
set_option linter.unusedVariables false
set_option linter.unusedSimpArgs false
namespace Go.Proofs.Ytjohoameeeaafaa
open Go.AM
variable {Γ : Glob}

theorem impl_areGifts_1_T (x o : Gift) (H : AH) {b : Nat} (hb : hget H b = some (0, x.c)) : T Try.prog Γ Fn.impl_areGifts_1 [.agg o.c, .gp b 0 0] H fun v h' => v = .bool (x.same o) ∧ h' = H := by
  refine impl_areGifts_1_e (aw_sound tabOK mixed [] _ _ _ ?_)
  unfold impl_areGifts_1_c
  have hc : ∀ (e : List AV) (l : List (List AV)) (off n : Nat), (St.mk e l H).cells (.gp b 0 off) n = sub x.c off n := fun e l off n => cells_gp hb
  cases c1 : (o.n == x.n)
  · simp only [EV, EL, EB, hc, Gift.c, c1, Bool.not_false, Bool.not_true, if_true, Bool.false_eq_true, if_false, Nat.reduceAdd, impl_areGifts_1_r]
    exact ⟨rfl, by simp [Gift.same, c1]⟩
  cases c2 : (o.g == x.g)
  · simp only [EV, EL, EB, hc, Gift.c, c1, c2, Bool.not_false, Bool.not_true, if_true, Bool.false_eq_true, if_false, Nat.reduceAdd, impl_areGifts_1_r]
    exact ⟨rfl, by simp [Gift.same, c2]⟩
  · simp only [EV, EL, EB, hc, Gift.c, c1, c2, Bool.not_false, Bool.not_true, if_true, Bool.false_eq_true, if_false, Nat.reduceAdd, impl_areGifts_1_r]
    exact ⟨rfl, by simp [Gift.same, c1, c2]⟩

def sameC (x : Gift) (o : List AV) : Bool := match o with | [.int _ a, .int _ b, .int _ c, .int _ d] => x.same ⟨a, b, c, d⟩ | _ => false
theorem sameC_any (x : Gift) (l : List Gift) : (gifts l).any (sameC x) = l.any x.same := by
  induction l with
  | nil => rfl
  | cons y l ih => simp only [gifts, List.map_cons, List.any_cons] at ih ⊢; rw [ih]; rfl

theorem gifts_take (l : List Gift) (k : Nat) : (gifts l).take k = gifts (l.take k) := by simp [gifts, List.map_take]

theorem impl_areGifts_T (s : SH) (l : List Gift) (hs : s.ok l.length) (hb : l.length ≤ 1099511627) (h : AH) :
    T Try.prog Γ Fn.impl_areGifts [sl s 4 (gifts l)] h fun v h' => v = .bool (areG l) ∧ h' = h := by
  refine (?_ : T Try.prog Γ Fn.impl_areGifts [sl s 4 (gifts l)] h fun v h' => v = .bool (areG l) ∧ ∃ N, h' = h ++ N).drop (by
    rintro v h' ⟨rfl, N, rfl⟩; exact ⟨N, rfl, .bool _, rfl, rfl⟩)
  have hs' : s.ok (gifts l).length := by rw [gifts_len]; exact hs
  have L0 := len_sl (sz := 4) hs'
  rw [gifts_len] at L0
  refine impl_areGifts_e (aw_sound tabOK mixed [4] _ _ _ ?_)
  unfold impl_areGifts_c
  simp only [EV, EL, L0, Nat.reduceBEq]
  refine loopI tabOK mixed [4] (fun x : Nat × AH => x.1 ≤ l.length ∧ areGa [] l = areGa (l.take x.1) (l.drop x.1) ∧ ∃ N, x.2 = h ++ N) (fun x => l.length - x.1)
    (fun x => impl_areGifts_s0 (sl s 4 (gifts l)) (sl s 4 (gifts l)) (.int .i64 l.length) (.int .i64 x.1) [] x.2) (0, h) ⟨by simp, by simp, [], by simp⟩ ⟨by simp [impl_areGifts_s0, LeL, LeV], rfl, rfl⟩ ?_
  rintro ⟨k, H⟩ ⟨hk, hI, N, hN⟩
  simp only at hk hI hN
  simp only [EV, EL, impl_areGifts_s0, Nat.reduceBEq]
  refine c_split (fun hlt => ?_) (fun hge => ?_)
  · have hlt : k < l.length := by simpa using hlt
    have i0 := idx_sl (sz := 4) hs' (k := k) (by rw [gifts_len]; exact hlt)
    rw [gifts_get] at i0
    rw [areGa_step hlt] at hI
    obtain ⟨x, hx⟩ : ∃ x, x = l[k] := ⟨_, rfl⟩
    rw [← hx] at i0 hI
    have hal : ∀ e : List AV, allocK true ⟨e, [], H⟩ [.int .i64 0, .int .i64 0, .int .i64 0, .int .i64 0] = .val (.gp H.length 0 0) ⟨e, [], H ++ [some (0, [.int .i64 0, .int .i64 0, .int .i64 0, .int .i64 0])]⟩ := fun e => rfl
    have hst : ∀ e : List AV, (St.mk e [] (H ++ [some (0, [.int .i64 0, .int .i64 0, .int .i64 0, .int .i64 0])])).store (.gp H.length 0 0) [.int .i64 x.n, .int .i64 x.g, .int .i64 x.t, .int .i64 x.e] = some ⟨e, [], H ++ [some (0, x.c)]⟩ := fun e => store_last (by simp) rfl
    simp only [EV, EL, EB, Nat.reduceBEq, i0, Gift.c, if_true, Nat.reduceAdd, hal, hst, cells_last]
    refine TCall.val (by simp only [EO]) (impl_named_T x.n _) ?_
    cases b1 : inR x.n 1 999999
    · simp only [EV, EL, Nat.reduceBEq, Bool.not_false, Bool.not_true, if_true, Bool.false_eq_true, if_false, impl_areGifts_r]
      exact ⟨rfl, by rw [areG, hI]; simp [Gift.good, b1], N ++ _, by rw [hN, List.append_assoc]⟩
    simp only [EV, EL, EB, Nat.reduceBEq, Gift.c, cells_last, Bool.not_false, Bool.not_true, if_true, Bool.false_eq_true, if_false, Nat.reduceAdd]
    refine TCall.val (by simp only [EO]) (impl_in_T x.g 1 4 _) ?_
    cases b2 : inR x.g 1 4
    · simp only [EV, EL, Nat.reduceBEq, Bool.not_false, Bool.not_true, if_true, Bool.false_eq_true, if_false, impl_areGifts_r]
      exact ⟨rfl, by rw [areG, hI]; simp [Gift.good, b2], N ++ _, by rw [hN, List.append_assoc]⟩
    simp only [EV, EL, EB, Nat.reduceBEq, Gift.c, cells_last, Bool.not_false, Bool.not_true, if_true, Bool.false_eq_true, if_false, Nat.reduceAdd]
    refine TCall.val (by simp only [EO]) (impl_in_T x.t 1 4 _) ?_
    cases b3 : inR x.t 1 4
    · simp only [EV, EL, Nat.reduceBEq, Bool.not_false, Bool.not_true, if_true, Bool.false_eq_true, if_false, impl_areGifts_r]
      exact ⟨rfl, by rw [areG, hI]; simp [Gift.good, b3], N ++ _, by rw [hN, List.append_assoc]⟩
    cases b4 : (x.g == x.t)
    rotate_left
    · simp only [EV, EL, EB, Nat.reduceBEq, Gift.c, cells_last, b4, Bool.not_false, Bool.not_true, if_true, Bool.false_eq_true, if_false, Nat.reduceAdd, impl_areGifts_r]
      exact ⟨rfl, by rw [areG, hI]; simp only [Gift.good, b4]; simp, N ++ _, by rw [hN, List.append_assoc]⟩
    cases b5 : decide (x.e < 0)
    rotate_left
    · simp only [EV, EL, EB, Nat.reduceBEq, Gift.c, cells_last, b4, b5, Bool.not_false, Bool.not_true, if_true, Bool.false_eq_true, if_false, Nat.reduceAdd, impl_areGifts_r]
      exact ⟨rfl, by rw [areG, hI]; simp only [Gift.good, b5]; simp, N ++ _, by rw [hN, List.append_assoc]⟩
    have hgood : x.good = true := by simp only [Gift.good, b1, b2, b3, b4, b5]; rfl
    rw [hgood, Bool.true_and] at hI
    have hcut := fun (S : St) => cutTo_sl S s 4 (gifts l) .i64 (n := k) hs' (by rw [gifts_len]; omega)
    simp only [EV, EL, EB, Nat.reduceBEq, Gift.c, cells_last, hcut, gifts_take, b4, b5, Bool.not_false, Bool.not_true, if_true, Bool.false_eq_true, if_false, Nat.reduceAdd]
    have hcall := contains_T (P := Try.prog) (Γ := Γ) tabOK mixed (fun hw => slices_ContainsFunc_iimpl_Gift_impl_Gift_e hw) (sl_out _ _ _) rfl
      (indexFunc_T (P := Try.prog) (Γ := Γ) tabOK mixed (sz := 4) (agg := true) (fun hw => slices_IndexFunc_iimpl_Gift_impl_Gift_e hw) (s := s.cut (k == (gifts l).length)) (xs := gifts (l.take k)) (SH.cut_ok hs' (by rw [gifts_len, gifts_len, List.length_take]; omega))
        (by rw [gifts_len, List.length_take]; omega) (fun y hy => ⟨⟨(gifts_ok _ y hy).1, .inl rfl⟩, (gifts_ok _ y hy).2⟩) (g := Fn.impl_areGifts_1) (first := []) (caps := [.gp H.length 0 0]) rfl (sameC x) (h := H ++ [some (0, x.c)])
        (fun y hy => by
          simp only [gifts, List.mem_map] at hy
          obtain ⟨o, _, rfl⟩ := hy
          exact impl_areGifts_1_T x o _ (hget_last _ _)))
    refine TCall.val (by simp only [EO]) hcall ?_
    rw [sameC_any]
    cases b6 : (l.take k).any x.same
    · simp only [EV, EL, Nat.reduceBEq]
      refine ⟨(k + 1, H ++ [some (0, x.c)]), ⟨hlt, by rw [hI, b6]; rfl, N ++ [some (0, x.c)], by simp only; rw [hN, List.append_assoc]⟩, by simp only; omega, ⟨?_, rfl, rfl⟩⟩
      rw [wN (by omega)]
      simp [LeL, LeV]
    · simp only [EV, EL, Nat.reduceBEq, impl_areGifts_r]
      exact ⟨rfl, by rw [areG, hI, b6]; rfl, N ++ _, by rw [hN, List.append_assoc]⟩
  · have hge : k = l.length := by simp at hge; omega
    simp only [EV, EL, L0, Nat.reduceBEq, impl_areGifts_r]
    refine ⟨rfl, ?_, N, hN⟩
    rw [areG, hI, hge, List.drop_length, areGa, Bool.true_and]
    simp
    omega

theorem impl_AreGifts_T (s : SH) (l : List Gift) (hs : s.ok l.length) (hb : l.length ≤ 1099511627) (h : AH) :
    T Try.prog Γ Fn.impl_AreGifts [sl s 4 (gifts l)] h fun v h' => v = .bool (areG l) ∧ h' = h := by
  refine impl_AreGifts_e (aw_sound tabOK mixed [] _ _ _ ?_)
  unfold impl_AreGifts_c
  simp only [EV, EL]
  refine TCall.val (by simp only [EO]) (impl_areGifts_T s l hs hb h) ?_
  simp only [EV, EL, impl_AreGifts_r]
  exact rfl
end Go.Proofs.Ytjohoameeeaafaa
