import Derived.Test.YtleddolmolkpfaaGreatR5LK
import Derived.Test.YtleddolmolkpfaaGreatAmMore2
set_option linter.unusedVariables false
set_option linter.unusedSimpArgs false
namespace Go.Proofs.YtleddolmolkpfaaGreat
open Go.AM
set_option linter.unusedVariables false
set_option linter.unusedSimpArgs false
variable {Γ : Glob}
/-! Gifts: what they must be; putting one. -/
theorem impl_named_T (n : Int) (h : AH) : T Tryz.prog Γ Fn.impl_named [.int .i64 n] h fun v h' => v = .bool (inR n 1 999999) ∧ h' = h := by
  refine impl_named_e (aw_sound tabOK mixed [] _ _ _ ?_)
  unfold impl_named_c
  simp only [EV, EL]
  refine TCall.val (by simp only [EO]) (impl_in_T n 1 999999 h) ?_
  simp only [EV, EL, impl_named_r]
  exact rfl

structure Gift where
  n : Int
  g : Int
  t : Int
  e : Int
  deriving DecidableEq
def Gift.c (x : Gift) : List AV := [.int .i64 x.n, .int .i64 x.g, .int .i64 x.t, .int .i64 x.e]
def gifts (l : List Gift) : List (List AV) := l.map Gift.c
theorem gifts_len (l : List Gift) : (gifts l).length = l.length := by simp [gifts]
theorem gifts_get (l : List Gift) (k : Nat) (h : k < (gifts l).length) : (gifts l)[k] = (l[k]'(by simpa [gifts] using h)).c := by simp [gifts]
theorem gifts_ok (l : List Gift) : ∀ x ∈ gifts l, x.length = 4 ∧ x.all noLp = true := by
  intro x hx; simp [gifts] at hx; obtain ⟨a, _, rfl⟩ := hx; exact ⟨rfl, rfl⟩
theorem gifts_pv (l : List Gift) : ∀ x ∈ gifts l, ∀ y ∈ x, PV y := by
  intro x hx y hy; simp [gifts] at hx; obtain ⟨a, _, rfl⟩ := hx
  simp [Gift.c] at hy; rcases hy with rfl | rfl | rfl | rfl <;> exact .int _ _



def Gift.good (x : Gift) : Bool := inR x.n 1 999999 && (inR x.g 1 4 && (inR x.t 1 4 && (!(x.g == x.t) && !(decide (x.e < 0)))))
def Gift.same (x o : Gift) : Bool := o.n == x.n && o.g == x.g
def areGa : List Gift → List Gift → Bool
  | _, [] => true
  | pre, x :: r => x.good && (!pre.any x.same && areGa (pre ++ [x]) r)
def areG (l : List Gift) : Bool := areGa [] l && decide (l.length ≤ 12)

theorem areGa_step {l : List Gift} {k : Nat} (hk : k < l.length) : areGa (l.take k) (l.drop k) = (l[k].good && (!(l.take k).any l[k].same && areGa (l.take (k + 1)) (l.drop (k + 1)))) := by
  rw [List.drop_eq_getElem_cons hk, areGa, List.take_succ_eq_append_getElem hk]

theorem spec_AreGifts_T (s : SH) (l : List Gift) (hs : s.ok l.length) (hb : l.length ≤ 1099511627) (h : AH) :
    T Tryz.prog Γ Fn.spec_AreGifts [sl s 4 (gifts l)] h fun v h' => v = .bool (areG l) ∧ h' = h := by
  have hs' : s.ok (gifts l).length := by rw [gifts_len]; exact hs
  have L0 := len_sl (sz := 4) hs'
  rw [gifts_len] at L0
  generalize e0 : sl s 4 (gifts l) = a0 at *
  refine spec_AreGifts_e (aw_sound tabOK mixed [] _ _ _ ?_)
  unfold spec_AreGifts_c
  simp only [EV, EL]
  refine loopI tabOK mixed [] (fun x : Nat × List (List AV) => x.1 ≤ l.length ∧ areGa [] l = areGa (l.take x.1) (l.drop x.1)) (fun x => l.length - x.1)
    (fun x => spec_AreGifts_s0 a0 (.int .i64 x.1) x.2 h) (0, []) ⟨by simp, by simp⟩ ⟨by simp [spec_AreGifts_s0, LeL, LeV], rfl, rfl⟩ ?_
  rintro ⟨k, L⟩ ⟨hk, hI⟩
  simp only at hk hI
  simp only [EV, EL, spec_AreGifts_s0, L0]
  refine c_split (fun hlt => ?_) (fun hge => ?_)
  · have hlt : k < l.length := by simpa using hlt
    have i0 := idx_sl (sz := 4) hs' (k := k) (by rw [gifts_len]; exact hlt)
    rw [e0, gifts_get] at i0
    rw [areGa_step hlt] at hI
    obtain ⟨x, hx⟩ : ∃ x, x = l[k] := ⟨_, rfl⟩
    rw [← hx] at i0 hI
    have hret : ∀ b : Bool, areGa [] l = false → b = false → b = areG l := fun b h1 h2 => by rw [h2, areG, h1]; rfl
    simp only [EV, EL, EB, i0, Gift.c, if_true, Nat.reduceAdd, List.length_nil]
    refine TCall.val (by simp only [EO]) (spec_l1In_T x.n 1 999999 h) ?_
    cases b1 : inR x.n 1 999999
    · simp only [EV, EL, Bool.not_false, Bool.not_true, if_true, Bool.false_eq_true, if_false, spec_AreGifts_r]
      exact ⟨rfl, by rw [areG, hI]; simp [Gift.good, b1]⟩
    simp only [EV, EL, EB, Bool.not_false, Bool.not_true, if_true, Bool.false_eq_true, if_false, Nat.reduceAdd]
    refine TCall.val (by simp only [EO]) (spec_l1In_T x.g 1 4 h) ?_
    cases b2 : inR x.g 1 4
    · simp only [EV, EL, Bool.not_false, Bool.not_true, if_true, Bool.false_eq_true, if_false, spec_AreGifts_r]
      exact ⟨rfl, by rw [areG, hI]; simp [Gift.good, b2]⟩
    simp only [EV, EL, EB, Bool.not_false, Bool.not_true, if_true, Bool.false_eq_true, if_false, Nat.reduceAdd]
    refine TCall.val (by simp only [EO]) (spec_l1In_T x.t 1 4 h) ?_
    cases b3 : inR x.t 1 4
    · simp only [EV, EL, Bool.not_false, Bool.not_true, if_true, Bool.false_eq_true, if_false, spec_AreGifts_r]
      exact ⟨rfl, by rw [areG, hI]; simp [Gift.good, b3]⟩
    cases b4 : (x.g == x.t)
    rotate_left
    · simp only [EV, EL, EB, b4, Bool.not_false, Bool.not_true, if_true, Bool.false_eq_true, if_false, Nat.reduceAdd, spec_AreGifts_r]
      exact ⟨rfl, by rw [areG, hI]; simp only [Gift.good, b4]; simp⟩
    cases b5 : decide (x.e < 0)
    rotate_left
    · simp only [EV, EL, EB, b4, b5, Bool.not_false, Bool.not_true, if_true, Bool.false_eq_true, if_false, Nat.reduceAdd, spec_AreGifts_r]
      exact ⟨rfl, by rw [areG, hI]; simp only [Gift.good, b5]; simp⟩
    have hgood : x.good = true := by simp only [Gift.good, b1, b2, b3, b4, b5]; rfl
    rw [hgood, Bool.true_and] at hI
    simp only [EV, EL, EB, b4, b5, Bool.not_false, Bool.not_true, if_true, Bool.false_eq_true, if_false, Nat.reduceAdd]
    refine loopI tabOK mixed [] (fun j : Nat => j ≤ k ∧ (l.take j).any x.same = false) (fun j => k - j)
      (fun j => spec_AreGifts_s1 a0 (.int .i64 k) (.lp L.length 0) (.int .i64 j) (L ++ [x.c]) h) 0 ⟨by omega, by simp⟩ ⟨by simp [spec_AreGifts_s1, LeL, LeV], rfl, rfl⟩ ?_
    rintro j ⟨hj, hJ⟩
    simp only [EV, EL, spec_AreGifts_s1]
    refine c_split (fun hlt1 => ?_) (fun hge1 => ?_)
    · have hlt1 : j < k := by simpa using hlt1
      have i1 := idx_sl (sz := 4) hs' (k := j) (by rw [gifts_len]; omega)
      rw [e0, gifts_get] at i1
      obtain ⟨y, hy⟩ : ∃ y, y = l[j] := ⟨_, rfl⟩
      rw [← hy] at i1
      have hnext : (l.take (j + 1)).any x.same = (y.n == x.n && y.g == x.g) := by
        rw [List.take_succ_eq_append_getElem (by omega), List.any_append, hJ, ← hy]; simp [Gift.same]
      cases c1 : (y.n == x.n)
      · simp only [EV, EL, EB, spec_AreGifts_d0_q, i1, Gift.c, c1, Bool.not_false, Bool.not_true, if_true, Bool.false_eq_true, if_false, Nat.reduceAdd, List.drop_zero, List.drop_succ_cons]
        refine ⟨j + 1, ⟨hlt1, by rw [hnext, c1]; rfl⟩, by omega, ⟨?_, rfl, rfl⟩⟩
        rw [wN (by omega)]
        simp [LeL, LeV]
      cases c2 : (y.g == x.g)
      · simp only [EV, EL, EB, spec_AreGifts_d0_q, i1, Gift.c, c1, c2, Bool.not_false, Bool.not_true, if_true, Bool.false_eq_true, if_false, Nat.reduceAdd, List.drop_zero, List.drop_succ_cons]
        refine ⟨j + 1, ⟨hlt1, by rw [hnext, c2]; simp⟩, by omega, ⟨?_, rfl, rfl⟩⟩
        rw [wN (by omega)]
        simp [LeL, LeV]
      · simp only [EV, EL, EB, spec_AreGifts_d0_q, i1, Gift.c, c1, c2, Bool.not_false, Bool.not_true, if_true, Bool.false_eq_true, if_false, Nat.reduceAdd, List.drop_zero, List.drop_succ_cons, spec_AreGifts_r]
        refine ⟨rfl, ?_⟩
        have : (l.take k).any x.same = true := by
          rw [List.any_eq_true]
          refine ⟨y, ?_, by simp [Gift.same, c1, c2]⟩
          rw [hy, List.mem_take_iff_getElem]
          exact ⟨j, by omega, rfl⟩
        rw [areG, hI, this]; rfl
    · have hge1 : j = k := by simp at hge1; omega
      subst hge1
      simp only [EV, EL]
      refine ⟨(j + 1, L ++ [x.c]), ⟨hlt, by rw [hI, hJ]; rfl⟩, by simp only; omega, ⟨?_, rfl, rfl⟩⟩
      rw [wN (by omega)]
      simp [LeL, LeV]
  · have hge : k = l.length := by simp at hge; omega
    simp only [EV, EL, L0, spec_AreGifts_r]
    refine ⟨rfl, ?_⟩
    rw [areG, hI, hge, List.drop_length, areGa, Bool.true_and]
    simp
    omega


theorem impl_areGifts_1_T (x o : Gift) (H : AH) {b : Nat} (hb : hget H b = some (0, x.c)) : T Tryz.prog Γ Fn.impl_areGifts_1 [.agg o.c, .gp b 0 0] H fun v h' => v = .bool (x.same o) ∧ h' = H := by
  refine impl_areGifts_1_e (aw_sound tabOK mixed [] _ _ _ ?_)
  unfold impl_areGifts_1_c
  have hc : ∀ (e : List AV) (l : List (List AV)) (off n : Nat), (St.mk e l H).cells (.gp b 0 off) n = sub x.c off n := fun e l off n => cells_gp hb
  cases c1 : (o.n == x.n)
  · simp only [EV, EL, EB, hc, Gift.c, c1, Bool.not_false, Bool.not_true, if_true, Bool.false_eq_true, if_false, Nat.reduceAdd, impl_areGifts_1_r]
    exact ⟨rfl, by simp [Gift.same, c1]⟩
  cases c2 : (o.g == x.g)
  · simp only [EV, EL, EB, hc, Gift.c, c1, c2, Bool.not_false, Bool.not_true, if_true, Bool.false_eq_true, if_false, Nat.reduceAdd, impl_areGifts_1_r]
    exact ⟨rfl, by simp [Gift.same, c2]⟩
  · simp only [EV, EL, EB, hc, Gift.c, c1, c2, Bool.not_false, Bool.not_true, if_true, Bool.false_eq_true, if_false, Nat.reduceAdd, impl_areGifts_1_r]
    exact ⟨rfl, by simp [Gift.same, c1, c2]⟩

def sameC (x : Gift) (o : List AV) : Bool := match o with | [.int _ a, .int _ b, .int _ c, .int _ d] => x.same ⟨a, b, c, d⟩ | _ => false
theorem sameC_any (x : Gift) (l : List Gift) : (gifts l).any (sameC x) = l.any x.same := by
  induction l with
  | nil => rfl
  | cons y l ih => simp only [gifts, List.map_cons, List.any_cons] at ih ⊢; rw [ih]; rfl

theorem gifts_take (l : List Gift) (k : Nat) : (gifts l).take k = gifts (l.take k) := by simp [gifts, List.map_take]

theorem impl_areGifts_T (s : SH) (l : List Gift) (hs : s.ok l.length) (hb : l.length ≤ 1099511627) (h : AH) :
    T Tryz.prog Γ Fn.impl_areGifts [sl s 4 (gifts l)] h fun v h' => v = .bool (areG l) ∧ h' = h := by
  refine (?_ : T Tryz.prog Γ Fn.impl_areGifts [sl s 4 (gifts l)] h fun v h' => v = .bool (areG l) ∧ ∃ N, h' = h ++ N).drop (by
    rintro v h' ⟨rfl, N, rfl⟩; exact ⟨N, rfl, .bool _, rfl, rfl⟩)
  have hs' : s.ok (gifts l).length := by rw [gifts_len]; exact hs
  have L0 := len_sl (sz := 4) hs'
  rw [gifts_len] at L0
  refine impl_areGifts_e (aw_sound tabOK mixed [4] _ _ _ ?_)
  unfold impl_areGifts_c
  simp only [EV, EL, L0, Nat.reduceBEq]
  refine loopI tabOK mixed [4] (fun x : Nat × AH => x.1 ≤ l.length ∧ areGa [] l = areGa (l.take x.1) (l.drop x.1) ∧ ∃ N, x.2 = h ++ N) (fun x => l.length - x.1)
    (fun x => impl_areGifts_s0 (sl s 4 (gifts l)) (sl s 4 (gifts l)) (.int .i64 l.length) (.int .i64 x.1) [] x.2) (0, h) ⟨by simp, by simp, [], by simp⟩ ⟨by simp [impl_areGifts_s0, LeL, LeV], rfl, rfl⟩ ?_
  rintro ⟨k, H⟩ ⟨hk, hI, N, hN⟩
  simp only at hk hI hN
  simp only [EV, EL, impl_areGifts_s0, Nat.reduceBEq]
  refine c_split (fun hlt => ?_) (fun hge => ?_)
  · have hlt : k < l.length := by simpa using hlt
    have i0 := idx_sl (sz := 4) hs' (k := k) (by rw [gifts_len]; exact hlt)
    rw [gifts_get] at i0
    rw [areGa_step hlt] at hI
    obtain ⟨x, hx⟩ : ∃ x, x = l[k] := ⟨_, rfl⟩
    rw [← hx] at i0 hI
    have hal : ∀ e : List AV, allocK true ⟨e, [], H⟩ [.int .i64 0, .int .i64 0, .int .i64 0, .int .i64 0] = .val (.gp H.length 0 0) ⟨e, [], H ++ [some (0, [.int .i64 0, .int .i64 0, .int .i64 0, .int .i64 0])]⟩ := fun e => rfl
    have hst : ∀ e : List AV, (St.mk e [] (H ++ [some (0, [.int .i64 0, .int .i64 0, .int .i64 0, .int .i64 0])])).store (.gp H.length 0 0) [.int .i64 x.n, .int .i64 x.g, .int .i64 x.t, .int .i64 x.e] = some ⟨e, [], H ++ [some (0, x.c)]⟩ := fun e => store_last (by simp) rfl
    simp only [EV, EL, EB, Nat.reduceBEq, i0, Gift.c, if_true, Nat.reduceAdd, hal, hst, cells_last]
    refine TCall.val (by simp only [EO]) (impl_named_T x.n _) ?_
    cases b1 : inR x.n 1 999999
    · simp only [EV, EL, Nat.reduceBEq, Bool.not_false, Bool.not_true, if_true, Bool.false_eq_true, if_false, impl_areGifts_r]
      exact ⟨rfl, by rw [areG, hI]; simp [Gift.good, b1], N ++ _, by rw [hN, List.append_assoc]⟩
    simp only [EV, EL, EB, Nat.reduceBEq, Gift.c, cells_last, Bool.not_false, Bool.not_true, if_true, Bool.false_eq_true, if_false, Nat.reduceAdd]
    refine TCall.val (by simp only [EO]) (impl_in_T x.g 1 4 _) ?_
    cases b2 : inR x.g 1 4
    · simp only [EV, EL, Nat.reduceBEq, Bool.not_false, Bool.not_true, if_true, Bool.false_eq_true, if_false, impl_areGifts_r]
      exact ⟨rfl, by rw [areG, hI]; simp [Gift.good, b2], N ++ _, by rw [hN, List.append_assoc]⟩
    simp only [EV, EL, EB, Nat.reduceBEq, Gift.c, cells_last, Bool.not_false, Bool.not_true, if_true, Bool.false_eq_true, if_false, Nat.reduceAdd]
    refine TCall.val (by simp only [EO]) (impl_in_T x.t 1 4 _) ?_
    cases b3 : inR x.t 1 4
    · simp only [EV, EL, Nat.reduceBEq, Bool.not_false, Bool.not_true, if_true, Bool.false_eq_true, if_false, impl_areGifts_r]
      exact ⟨rfl, by rw [areG, hI]; simp [Gift.good, b3], N ++ _, by rw [hN, List.append_assoc]⟩
    cases b4 : (x.g == x.t)
    rotate_left
    · simp only [EV, EL, EB, Nat.reduceBEq, Gift.c, cells_last, b4, Bool.not_false, Bool.not_true, if_true, Bool.false_eq_true, if_false, Nat.reduceAdd, impl_areGifts_r]
      exact ⟨rfl, by rw [areG, hI]; simp only [Gift.good, b4]; simp, N ++ _, by rw [hN, List.append_assoc]⟩
    cases b5 : decide (x.e < 0)
    rotate_left
    · simp only [EV, EL, EB, Nat.reduceBEq, Gift.c, cells_last, b4, b5, Bool.not_false, Bool.not_true, if_true, Bool.false_eq_true, if_false, Nat.reduceAdd, impl_areGifts_r]
      exact ⟨rfl, by rw [areG, hI]; simp only [Gift.good, b5]; simp, N ++ _, by rw [hN, List.append_assoc]⟩
    have hgood : x.good = true := by simp only [Gift.good, b1, b2, b3, b4, b5]; rfl
    rw [hgood, Bool.true_and] at hI
    have hcut := fun (S : St) => cutTo_sl S s 4 (gifts l) .i64 (n := k) hs' (by rw [gifts_len]; omega)
    simp only [EV, EL, EB, Nat.reduceBEq, Gift.c, cells_last, hcut, gifts_take, b4, b5, Bool.not_false, Bool.not_true, if_true, Bool.false_eq_true, if_false, Nat.reduceAdd]
    have hcall := contains_T (P := Tryz.prog) (Γ := Γ) tabOK mixed (fun hw => slices_ContainsFunc_iimpl_Gift_impl_Gift_e hw) (sl_out _ _ _) rfl
      (indexFunc_T (P := Tryz.prog) (Γ := Γ) tabOK mixed (sz := 4) (agg := true) (fun hw => slices_IndexFunc_iimpl_Gift_impl_Gift_e hw) (s := s.cut (k == (gifts l).length)) (xs := gifts (l.take k)) (SH.cut_ok hs' (by rw [gifts_len, gifts_len, List.length_take]; omega))
        (by rw [gifts_len, List.length_take]; omega) (fun y hy => ⟨⟨(gifts_ok _ y hy).1, .inl rfl⟩, (gifts_ok _ y hy).2⟩) (g := Fn.impl_areGifts_1) (first := []) (caps := [.gp H.length 0 0]) rfl (sameC x) (h := H ++ [some (0, x.c)])
        (fun y hy => by
          simp only [gifts, List.mem_map] at hy
          obtain ⟨o, _, rfl⟩ := hy
          exact impl_areGifts_1_T x o _ (hget_last _ _)))
    refine TCall.val (by simp only [EO]) hcall ?_
    rw [sameC_any]
    cases b6 : (l.take k).any x.same
    · simp only [EV, EL, Nat.reduceBEq]
      refine ⟨(k + 1, H ++ [some (0, x.c)]), ⟨hlt, by rw [hI, b6]; rfl, N ++ [some (0, x.c)], by simp only; rw [hN, List.append_assoc]⟩, by simp only; omega, ⟨?_, rfl, rfl⟩⟩
      rw [wN (by omega)]
      simp [LeL, LeV]
    · simp only [EV, EL, Nat.reduceBEq, impl_areGifts_r]
      exact ⟨rfl, by rw [areG, hI, b6]; rfl, N ++ _, by rw [hN, List.append_assoc]⟩
  · have hge : k = l.length := by simp at hge; omega
    simp only [EV, EL, L0, Nat.reduceBEq, impl_areGifts_r]
    refine ⟨rfl, ?_, N, hN⟩
    rw [areG, hI, hge, List.drop_length, areGa, Bool.true_and]
    simp
    omega


def toG (x : DGift) : Gift := ⟨x.nonce, x.giver, x.taker, x.entity⟩
theorem gifts_D (β : Bool) (l : List DGift) : gifts (l.map toG) = l.map (DGift.c β) := by simp [gifts, toG, Gift.c, DGift.c, Function.comp_def]
def areD (l : List DGift) : Bool := areG (l.map toG)
theorem impl_areGifts_D (β : Bool) (l : List DGift) (hl : l.length ≤ 1048577) (h : AH) : T Tryz.prog Γ Fn.impl_areGifts [.vs β 4 false (l.map (DGift.c β))] h fun v h' => v = .bool (areD l) ∧ h' = h := by
  have := impl_areGifts_T (Γ := Γ) (.v β false) (l.map toG) (fun e => by cases e) (by simp; omega) h
  rw [gifts_D β] at this; exact this
theorem spec_AreGifts_D (β : Bool) (l : List DGift) (hl : l.length ≤ 1048577) (h : AH) : T Tryz.prog Γ Fn.spec_AreGifts [.vs β 4 false (l.map (DGift.c β))] h fun v h' => v = .bool (areD l) ∧ h' = h := by
  have := spec_AreGifts_T (Γ := Γ) (.v β false) (l.map toG) (fun e => by cases e) (by simp; omega) h
  rw [gifts_D β] at this; exact this
theorem areGa_app : ∀ (l m pre : List Gift), areGa pre (l ++ m) = true → areGa pre l = true
  | [], m, pre, _ => by simp [areGa]
  | x :: l, m, pre, h => by
    simp only [List.cons_append, areGa, Bool.and_eq_true] at h ⊢
    exact ⟨h.1, h.2.1, areGa_app l m _ h.2.2⟩
theorem areD_app {l m : List DGift} (h : areD (l ++ m) = true) : areD l = true := by
  simp only [areD, areG, List.map_append, Bool.and_eq_true, decide_eq_true_eq, List.length_append] at h ⊢
  exact ⟨areGa_app _ _ _ h.1, by omega⟩

theorem clone_Gift (β : Bool) (l : List DGift) (hl : l.length ≤ 1048577) (h : AH) : T Tryz.prog Γ Fn.slices_Clone_iimpl_Gift_impl_Gift [.vs β 4 false (l.map (DGift.c β))] h (Fresh h [.c (.sl 4 (l.map DGift.cd))]) :=
  clone_D tabOK mixed (fun hw => slices_Clone_iimpl_Gift_impl_Gift_e hw) (by omega) (by simp only [maxMade]; omega) (fun x => ⟨rfl, rfl⟩) (fun x => (DGift.c_eq false x).symm)
theorem spec_l31Copy_T (β : Bool) (l : List DGift) (hl : l.length ≤ 1048577) (h : AH) : T Tryz.prog Γ Fn.spec_l31Copy [.vs β 4 false (l.map (DGift.c β))] h (Fresh h [.c (.sl 4 (l.map DGift.cd))]) := by
  refine T.freshC ?_
  refine spec_l31Copy_e (aw_sound tabOK mixed [] _ _ _ ?_)
  unfold spec_l31Copy_c
  obtain ⟨w, H1, fw, eb, ow, nw, hfw, hlw, hmw⟩ := app_vs (bytes := 32) (bsl0_own h 4) (by simp) (by omega) (β := β) (l := l) (c := DGift.c β) (fun x => ⟨rfl, rfl⟩) (fun x => (DGift.c_eq false x).symm) (by simp only [List.length_nil, maxMade]; omega)
  simp only [EV, EL, EB, EF, q_bx, if_true, if_false, Bool.false_eq_true, Nat.reduceAdd, Option.bind_some, Bool.not_true, Bool.not_false, Nat.reduceBEq, spec_l31Copy_r, EA, eb]
  have ew : HExt h H1 := (HExt.app h [some (0, [])]).upd hlw hfw (by simp)
  obtain ⟨N, rfl⟩ := ew.out
  refine ⟨ow.outOK, N, fw, rfl, ow, nw, fun c hc => ?_⟩
  rcases hmw c hc with g | g
  · simp at g; omega
  · simp at g; omega

def putF (l : List DGift) (x : DGift) : List DGift × Bool := if areD (l ++ [x]) = true then (l ++ [x], true) else (l, false)
theorem putF_len (l : List DGift) (x : DGift) : (putF l x).1.length ≤ l.length + 1 := by unfold putF; split <;> simp

theorem impl_PutGift_T (β β' : Bool) (l : List DGift) (hl : l.length ≤ 1048576) (x : DGift) (h : AH) : T Tryz.prog Γ Fn.impl_PutGift [.vs β 4 false (l.map (DGift.c β)), .agg (x.c β')] h (Fresh h [.c (.sl 4 ((putF l x).1.map DGift.cd)), .c (.b (putF l x).2)]) := by
  have fin : ∀ (w' src : AV) (H1 : AH) (fw fs : List Nat), Own H1 w' (.sl 4 (l.map DGift.cd)) fw → fw.Nodup → (∀ c ∈ fw, h.length ≤ c) → HExt h H1 → Own H1 src (.sl 4 [x.cd]) fs →
      ∃ v' H' fp', (∀ e L, appK ⟨e, L, H1⟩ 4 32 w' (srcCells ⟨e, L, H1⟩ 4 false src) (lenOf src) (lenOf w') = .val v' ⟨e, L, H'⟩) ∧
        Own H' v' (.sl 4 ((l ++ [x]).map DGift.cd)) fp' ∧ fp'.Nodup ∧ (∀ c ∈ fp', h.length ≤ c) ∧ HExt h H' := by
    intro w' src H1 fw fs ow nw bw ew os
    obtain ⟨v', H', fp', ea, o', nd', hf', hl', hm'⟩ := app_list (bytes := 32) ow nw (by omega) os rfl (by simp only [List.length_map, List.length_cons, List.length_nil, maxMade]; omega)
    refine ⟨v', H', fp', ea, by rw [List.map_append]; exact o', nd', fun c hc => ?_, ew.upd hl' hf' bw⟩
    have := ew.len
    rcases hm' c hc with g | g
    · exact bw c g
    · omega
  have row : ∀ (H : AH), OwnL H [.int .i64 x.nonce, .int .i64 x.giver, .int .i64 x.taker, .int .i64 x.entity] x.cd [] := fun H => .i (.i (.i (.i .nil)))
  refine T.freshC2 rfl ?_
  refine impl_PutGift_e (aw_sound tabOK mixed [] _ _ _ ?_)
  unfold impl_PutGift_c
  simp only [EV, EL, EB, EF, q_bx, if_true, if_false, Bool.false_eq_true, Nat.reduceAdd, Option.bind_some, Bool.not_true, Bool.not_false, Nat.reduceBEq, impl_PutGift_r, impl_PutGift_d0_q, EB2, ER, EA, DGift.c]
  refine ⟨?_, ?_⟩
  · refine TCall.ref (by simp only [EO]) (clone_Gift β l (by omega) _) ?_
    rintro w H1 fr
    replace fr : Fresh h _ _ _ := fr
    obtain ⟨fw, ow, nw, bw, ew⟩ := fr.c1
    obtain ⟨v', H', fp', ea, o', nd', b', e'⟩ := fin w _ _ fw _ ow.grow nw bw (ew.trans (HExt.app _ _)) (bsl1_own (sz := 4) H1 rfl (row H1))
    obtain ⟨c1, c2, c3, c4⟩ := o'.cell
    simp only [EV, EL, EB, EF, q_bx, if_true, if_false, Bool.false_eq_true, Nat.reduceAdd, Option.bind_some, Bool.not_true, Bool.not_false, Nat.reduceBEq, impl_PutGift_r, impl_PutGift_d0_q, EB2, ER, EA, DGift.c, ea]
    refine ⟨ew.mem _ _ _, ?_⟩
    refine TCall.see (by simp only [EO, c4]) (snap_c (Own.see (DGift.c_eq true) o') snap_n) (fun h => impl_areGifts_D true (l ++ [x]) (by simp; omega) h) (.bool _) ?_
    cases cb : areD (l ++ [x])
    · simp only [EV, EL, EB, EF, q_bx, if_true, if_false, Bool.false_eq_true, Nat.reduceAdd, Option.bind_some, Bool.not_true, Bool.not_false, Nat.reduceBEq, impl_PutGift_r, impl_PutGift_d0_q, EB2, ER, EA, DGift.c]
      refine TCall.ref (by simp only [EO]) (clone_Gift β l (by omega) _) ?_
      rintro w2 H2 fr
      replace fr : Fresh H' _ _ _ := fr
      obtain ⟨f2, o2, n2, b2, e2⟩ := fr.c1
      obtain ⟨c1, c2, c3, c4⟩ := o2.cell
      simp only [EV, EL, EB, EF, q_bx, if_true, if_false, Bool.false_eq_true, Nat.reduceAdd, Option.bind_some, Bool.not_true, Bool.not_false, Nat.reduceBEq, impl_PutGift_r, impl_PutGift_d0_q, EB2, ER, EA, DGift.c, c1, c2, c3, c4]
      obtain ⟨N, rfl⟩ := (e'.trans e2).out
      have es : putF l x = (l, false) := by simp [putF, cb]
      refine ⟨by simp only [List.all_cons, List.all_nil, c4]; rfl, w2, N, f2, by rw [es, CD.av_b], rfl, by rw [es]; exact o2, n2, fun c hc => by have := b2 c hc; have := e'.len; omega⟩
    have es : putF l x = (l ++ [x], true) := by simp [putF, cb]
    simp only [EV, EL, EB, EF, q_bx, if_true, if_false, Bool.false_eq_true, Nat.reduceAdd, Option.bind_some, Bool.not_true, Bool.not_false, Nat.reduceBEq, impl_PutGift_r, impl_PutGift_d0_q, EB2, ER, EA, DGift.c, c1, c2, c3, c4]
    obtain ⟨N, rfl⟩ := e'.out
    refine ⟨by simp only [List.all_cons, List.all_nil, c4]; rfl, v', N, fp', by rw [es, CD.av_b], rfl, by rw [es]; exact o', nd', b'⟩
  · refine TCall.ref (by simp only [EO]) (clone_Gift β l (by omega) _) ?_
    rintro w H1 fr
    replace fr : Fresh (h ++ _) _ _ _ := fr
    obtain ⟨fw, ow, nw, bw, ew⟩ := fr.c1
    obtain ⟨v', H', fp', ea, o', nd', b', e'⟩ := fin w _ _ fw _ ow nw (fun c hc => by have := bw c hc; simp at this; omega) ((HExt.app h _).trans ew) ((bsl1_own (sz := 4) h rfl (row h)).ext ew)
    obtain ⟨c1, c2, c3, c4⟩ := o'.cell
    simp only [EV, EL, EB, EF, q_bx, if_true, if_false, Bool.false_eq_true, Nat.reduceAdd, Option.bind_some, Bool.not_true, Bool.not_false, Nat.reduceBEq, impl_PutGift_r, impl_PutGift_d0_q, EB2, ER, EA, DGift.c, ea]
    refine ⟨ew.mem _ _ _, ?_⟩
    refine TCall.see (by simp only [EO, c4]) (snap_c (Own.see (DGift.c_eq true) o') snap_n) (fun h => impl_areGifts_D true (l ++ [x]) (by simp; omega) h) (.bool _) ?_
    cases cb : areD (l ++ [x])
    · simp only [EV, EL, EB, EF, q_bx, if_true, if_false, Bool.false_eq_true, Nat.reduceAdd, Option.bind_some, Bool.not_true, Bool.not_false, Nat.reduceBEq, impl_PutGift_r, impl_PutGift_d0_q, EB2, ER, EA, DGift.c]
      refine TCall.ref (by simp only [EO]) (clone_Gift β l (by omega) _) ?_
      rintro w2 H2 fr
      replace fr : Fresh H' _ _ _ := fr
      obtain ⟨f2, o2, n2, b2, e2⟩ := fr.c1
      obtain ⟨c1, c2, c3, c4⟩ := o2.cell
      simp only [EV, EL, EB, EF, q_bx, if_true, if_false, Bool.false_eq_true, Nat.reduceAdd, Option.bind_some, Bool.not_true, Bool.not_false, Nat.reduceBEq, impl_PutGift_r, impl_PutGift_d0_q, EB2, ER, EA, DGift.c, c1, c2, c3, c4]
      obtain ⟨N, rfl⟩ := (e'.trans e2).out
      have es : putF l x = (l, false) := by simp [putF, cb]
      refine ⟨by simp only [List.all_cons, List.all_nil, c4]; rfl, w2, N, f2, by rw [es, CD.av_b], rfl, by rw [es]; exact o2, n2, fun c hc => by have := b2 c hc; have := e'.len; omega⟩
    have es : putF l x = (l ++ [x], true) := by simp [putF, cb]
    simp only [EV, EL, EB, EF, q_bx, if_true, if_false, Bool.false_eq_true, Nat.reduceAdd, Option.bind_some, Bool.not_true, Bool.not_false, Nat.reduceBEq, impl_PutGift_r, impl_PutGift_d0_q, EB2, ER, EA, DGift.c, c1, c2, c3, c4]
    obtain ⟨N, rfl⟩ := e'.out
    refine ⟨by simp only [List.all_cons, List.all_nil, c4]; rfl, v', N, fp', by rw [es, CD.av_b], rfl, by rw [es]; exact o', nd', b'⟩

theorem spec_PutGift_T (β β' : Bool) (l : List DGift) (hl : l.length ≤ 1048576) (x : DGift) (h : AH) : T Tryz.prog Γ Fn.spec_PutGift [.vs β 4 false (l.map (DGift.c β)), .agg (x.c β')] h (Fresh h [.c (.sl 4 ((putF l x).1.map DGift.cd)), .c (.b (putF l x).2)]) := by
  have fin : ∀ (w' src : AV) (H1 : AH) (fw fs : List Nat), Own H1 w' (.sl 4 (l.map DGift.cd)) fw → fw.Nodup → (∀ c ∈ fw, h.length ≤ c) → HExt h H1 → Own H1 src (.sl 4 [x.cd]) fs →
      ∃ v' H' fp', (∀ e L, appK ⟨e, L, H1⟩ 4 32 w' (srcCells ⟨e, L, H1⟩ 4 false src) (lenOf src) (lenOf w') = .val v' ⟨e, L, H'⟩) ∧
        Own H' v' (.sl 4 ((l ++ [x]).map DGift.cd)) fp' ∧ fp'.Nodup ∧ (∀ c ∈ fp', h.length ≤ c) ∧ HExt h H' := by
    intro w' src H1 fw fs ow nw bw ew os
    obtain ⟨v', H', fp', ea, o', nd', hf', hl', hm'⟩ := app_list (bytes := 32) ow nw (by omega) os rfl (by simp only [List.length_map, List.length_cons, List.length_nil, maxMade]; omega)
    refine ⟨v', H', fp', ea, by rw [List.map_append]; exact o', nd', fun c hc => ?_, ew.upd hl' hf' bw⟩
    have := ew.len
    rcases hm' c hc with g | g
    · exact bw c g
    · omega
  have row : ∀ (H : AH), OwnL H [.int .i64 x.nonce, .int .i64 x.giver, .int .i64 x.taker, .int .i64 x.entity] x.cd [] := fun H => .i (.i (.i (.i .nil)))
  refine T.freshC2 rfl ?_
  refine spec_PutGift_e (aw_sound tabOK mixed [] _ _ _ ?_)
  unfold spec_PutGift_c
  simp only [EV, EL, EB, EF, q_bx, if_true, if_false, Bool.false_eq_true, Nat.reduceAdd, Option.bind_some, Bool.not_true, Bool.not_false, Nat.reduceBEq, spec_PutGift_r, spec_PutGift_d0_q, EB2, ER, EA, DGift.c]
  refine ⟨?_, ?_⟩
  · refine TCall.ref (by simp only [EO]) (spec_l31Copy_T β l (by omega) _) ?_
    rintro w H1 fr
    replace fr : Fresh h _ _ _ := fr
    obtain ⟨fw, ow, nw, bw, ew⟩ := fr.c1
    obtain ⟨v', H', fp', ea, o', nd', b', e'⟩ := fin w _ _ fw _ ow.grow nw bw (ew.trans (HExt.app _ _)) (bsl1_own (sz := 4) H1 rfl (row H1))
    obtain ⟨c1, c2, c3, c4⟩ := o'.cell
    simp only [EV, EL, EB, EF, q_bx, if_true, if_false, Bool.false_eq_true, Nat.reduceAdd, Option.bind_some, Bool.not_true, Bool.not_false, Nat.reduceBEq, spec_PutGift_r, spec_PutGift_d0_q, EB2, ER, EA, DGift.c, ea]
    refine ⟨ew.mem _ _ _, ?_⟩
    refine TCall.val (by simp only [EO]) (spec_AreGifts_D β l (by omega) _) ?_
    cases ca : areD l
    · have cb : areD (l ++ [x]) = false := by
        cases g : areD (l ++ [x])
        · rfl
        · rw [areD_app g] at ca; cases ca
      simp only [EV, EL, EB, EF, q_bx, if_true, if_false, Bool.false_eq_true, Nat.reduceAdd, Option.bind_some, Bool.not_true, Bool.not_false, Nat.reduceBEq, spec_PutGift_r, spec_PutGift_d0_q, EB2, ER, EA, DGift.c]
      refine TCall.ref (by simp only [EO]) (spec_l31Copy_T β l (by omega) _) ?_
      rintro w2 H2 fr
      replace fr : Fresh H' _ _ _ := fr
      obtain ⟨f2, o2, n2, b2, e2⟩ := fr.c1
      obtain ⟨c1, c2, c3, c4⟩ := o2.cell
      simp only [EV, EL, EB, EF, q_bx, if_true, if_false, Bool.false_eq_true, Nat.reduceAdd, Option.bind_some, Bool.not_true, Bool.not_false, Nat.reduceBEq, spec_PutGift_r, spec_PutGift_d0_q, EB2, ER, EA, DGift.c, c1, c2, c3, c4]
      obtain ⟨N, rfl⟩ := (e'.trans e2).out
      have es : putF l x = (l, false) := by simp [putF, cb]
      refine ⟨by simp only [List.all_cons, List.all_nil, c4]; rfl, w2, N, f2, by rw [es, CD.av_b], rfl, by rw [es]; exact o2, n2, fun c hc => by have := b2 c hc; have := e'.len; omega⟩
    simp only [EV, EL, EB, EF, q_bx, if_true, if_false, Bool.false_eq_true, Nat.reduceAdd, Option.bind_some, Bool.not_true, Bool.not_false, Nat.reduceBEq, spec_PutGift_r, spec_PutGift_d0_q, EB2, ER, EA, DGift.c]
    refine TCall.see (by simp only [EO, c4]) (snap_c (Own.see (DGift.c_eq true) o') snap_n) (fun h => spec_AreGifts_D true (l ++ [x]) (by simp; omega) h) (.bool _) ?_
    cases cb : areD (l ++ [x])
    · simp only [EV, EL, EB, EF, q_bx, if_true, if_false, Bool.false_eq_true, Nat.reduceAdd, Option.bind_some, Bool.not_true, Bool.not_false, Nat.reduceBEq, spec_PutGift_r, spec_PutGift_d0_q, EB2, ER, EA, DGift.c]
      refine TCall.ref (by simp only [EO]) (spec_l31Copy_T β l (by omega) _) ?_
      rintro w2 H2 fr
      replace fr : Fresh H' _ _ _ := fr
      obtain ⟨f2, o2, n2, b2, e2⟩ := fr.c1
      obtain ⟨c1, c2, c3, c4⟩ := o2.cell
      simp only [EV, EL, EB, EF, q_bx, if_true, if_false, Bool.false_eq_true, Nat.reduceAdd, Option.bind_some, Bool.not_true, Bool.not_false, Nat.reduceBEq, spec_PutGift_r, spec_PutGift_d0_q, EB2, ER, EA, DGift.c, c1, c2, c3, c4]
      obtain ⟨N, rfl⟩ := (e'.trans e2).out
      have es : putF l x = (l, false) := by simp [putF, cb]
      refine ⟨by simp only [List.all_cons, List.all_nil, c4]; rfl, w2, N, f2, by rw [es, CD.av_b], rfl, by rw [es]; exact o2, n2, fun c hc => by have := b2 c hc; have := e'.len; omega⟩
    have es : putF l x = (l ++ [x], true) := by simp [putF, cb]
    simp only [EV, EL, EB, EF, q_bx, if_true, if_false, Bool.false_eq_true, Nat.reduceAdd, Option.bind_some, Bool.not_true, Bool.not_false, Nat.reduceBEq, spec_PutGift_r, spec_PutGift_d0_q, EB2, ER, EA, DGift.c, c1, c2, c3, c4]
    obtain ⟨N, rfl⟩ := e'.out
    refine ⟨by simp only [List.all_cons, List.all_nil, c4]; rfl, v', N, fp', by rw [es, CD.av_b], rfl, by rw [es]; exact o', nd', b'⟩
  · refine TCall.ref (by simp only [EO]) (spec_l31Copy_T β l (by omega) _) ?_
    rintro w H1 fr
    replace fr : Fresh (h ++ _) _ _ _ := fr
    obtain ⟨fw, ow, nw, bw, ew⟩ := fr.c1
    obtain ⟨v', H', fp', ea, o', nd', b', e'⟩ := fin w _ _ fw _ ow nw (fun c hc => by have := bw c hc; simp at this; omega) ((HExt.app h _).trans ew) ((bsl1_own (sz := 4) h rfl (row h)).ext ew)
    obtain ⟨c1, c2, c3, c4⟩ := o'.cell
    simp only [EV, EL, EB, EF, q_bx, if_true, if_false, Bool.false_eq_true, Nat.reduceAdd, Option.bind_some, Bool.not_true, Bool.not_false, Nat.reduceBEq, spec_PutGift_r, spec_PutGift_d0_q, EB2, ER, EA, DGift.c, ea]
    refine ⟨ew.mem _ _ _, ?_⟩
    refine TCall.val (by simp only [EO]) (spec_AreGifts_D β l (by omega) _) ?_
    cases ca : areD l
    · have cb : areD (l ++ [x]) = false := by
        cases g : areD (l ++ [x])
        · rfl
        · rw [areD_app g] at ca; cases ca
      simp only [EV, EL, EB, EF, q_bx, if_true, if_false, Bool.false_eq_true, Nat.reduceAdd, Option.bind_some, Bool.not_true, Bool.not_false, Nat.reduceBEq, spec_PutGift_r, spec_PutGift_d0_q, EB2, ER, EA, DGift.c]
      refine TCall.ref (by simp only [EO]) (spec_l31Copy_T β l (by omega) _) ?_
      rintro w2 H2 fr
      replace fr : Fresh H' _ _ _ := fr
      obtain ⟨f2, o2, n2, b2, e2⟩ := fr.c1
      obtain ⟨c1, c2, c3, c4⟩ := o2.cell
      simp only [EV, EL, EB, EF, q_bx, if_true, if_false, Bool.false_eq_true, Nat.reduceAdd, Option.bind_some, Bool.not_true, Bool.not_false, Nat.reduceBEq, spec_PutGift_r, spec_PutGift_d0_q, EB2, ER, EA, DGift.c, c1, c2, c3, c4]
      obtain ⟨N, rfl⟩ := (e'.trans e2).out
      have es : putF l x = (l, false) := by simp [putF, cb]
      refine ⟨by simp only [List.all_cons, List.all_nil, c4]; rfl, w2, N, f2, by rw [es, CD.av_b], rfl, by rw [es]; exact o2, n2, fun c hc => by have := b2 c hc; have := e'.len; omega⟩
    simp only [EV, EL, EB, EF, q_bx, if_true, if_false, Bool.false_eq_true, Nat.reduceAdd, Option.bind_some, Bool.not_true, Bool.not_false, Nat.reduceBEq, spec_PutGift_r, spec_PutGift_d0_q, EB2, ER, EA, DGift.c]
    refine TCall.see (by simp only [EO, c4]) (snap_c (Own.see (DGift.c_eq true) o') snap_n) (fun h => spec_AreGifts_D true (l ++ [x]) (by simp; omega) h) (.bool _) ?_
    cases cb : areD (l ++ [x])
    · simp only [EV, EL, EB, EF, q_bx, if_true, if_false, Bool.false_eq_true, Nat.reduceAdd, Option.bind_some, Bool.not_true, Bool.not_false, Nat.reduceBEq, spec_PutGift_r, spec_PutGift_d0_q, EB2, ER, EA, DGift.c]
      refine TCall.ref (by simp only [EO]) (spec_l31Copy_T β l (by omega) _) ?_
      rintro w2 H2 fr
      replace fr : Fresh H' _ _ _ := fr
      obtain ⟨f2, o2, n2, b2, e2⟩ := fr.c1
      obtain ⟨c1, c2, c3, c4⟩ := o2.cell
      simp only [EV, EL, EB, EF, q_bx, if_true, if_false, Bool.false_eq_true, Nat.reduceAdd, Option.bind_some, Bool.not_true, Bool.not_false, Nat.reduceBEq, spec_PutGift_r, spec_PutGift_d0_q, EB2, ER, EA, DGift.c, c1, c2, c3, c4]
      obtain ⟨N, rfl⟩ := (e'.trans e2).out
      have es : putF l x = (l, false) := by simp [putF, cb]
      refine ⟨by simp only [List.all_cons, List.all_nil, c4]; rfl, w2, N, f2, by rw [es, CD.av_b], rfl, by rw [es]; exact o2, n2, fun c hc => by have := b2 c hc; have := e'.len; omega⟩
    have es : putF l x = (l ++ [x], true) := by simp [putF, cb]
    simp only [EV, EL, EB, EF, q_bx, if_true, if_false, Bool.false_eq_true, Nat.reduceAdd, Option.bind_some, Bool.not_true, Bool.not_false, Nat.reduceBEq, spec_PutGift_r, spec_PutGift_d0_q, EB2, ER, EA, DGift.c, c1, c2, c3, c4]
    obtain ⟨N, rfl⟩ := e'.out
    refine ⟨by simp only [List.all_cons, List.all_nil, c4]; rfl, v', N, fp', by rw [es, CD.av_b], rfl, by rw [es]; exact o', nd', b'⟩

end Go.Proofs.YtleddolmolkpfaaGreat
