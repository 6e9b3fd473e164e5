import Derived.Test.YtjohoameeeaafaaAreGifts1
set_option linter.unusedVariables false
set_option linter.unusedSimpArgs false
namespace Go.Proofs.Ytjohoameeeaafaa
open Go.AM
variable {Γ : Glob}

def Gift.good (x : Gift) : Bool := inR x.n 1 999999 && (inR x.g 1 4 && (inR x.t 1 4 && (!(x.g == x.t) && !(decide (x.e < 0)))))
def Gift.same (x o : Gift) : Bool := o.n == x.n && o.g == x.g
def areGa : List Gift → List Gift → Bool
  | _, [] => true
  | pre, x :: r => x.good && (!pre.any x.same && areGa (pre ++ [x]) r)
def areG (l : List Gift) : Bool := areGa [] l && decide (l.length ≤ 12)

theorem areGa_step {l : List Gift} {k : Nat} (hk : k < l.length) : areGa (l.take k) (l.drop k) = (l[k].good && (!(l.take k).any l[k].same && areGa (l.take (k + 1)) (l.drop (k + 1)))) := by
  rw [List.drop_eq_getElem_cons hk, areGa, List.take_succ_eq_append_getElem hk]

theorem spec_AreGifts_T (s : SH) (l : List Gift) (hs : s.ok l.length) (hb : l.length ≤ 1099511627) (h : AH) :
    T Try.prog Γ Fn.spec_AreGifts [sl s 4 (gifts l)] h fun v h' => v = .bool (areG l) ∧ h' = h := by
  have hs' : s.ok (gifts l).length := by rw [gifts_len]; exact hs
  have L0 := len_sl (sz := 4) hs'
  rw [gifts_len] at L0
  generalize e0 : sl s 4 (gifts l) = a0 at *
  refine spec_AreGifts_e (aw_sound tabOK mixed [] _ _ _ ?_)
  unfold spec_AreGifts_c
  simp only [EV, EL]
  refine loopI tabOK mixed [] (fun x : Nat × List (List AV) => x.1 ≤ l.length ∧ areGa [] l = areGa (l.take x.1) (l.drop x.1)) (fun x => l.length - x.1)
    (fun x => spec_AreGifts_s0 a0 (.int .i64 x.1) x.2 h) (0, []) ⟨by simp, by simp⟩ ⟨by simp [spec_AreGifts_s0, LeL, LeV], rfl, rfl⟩ ?_
  rintro ⟨k, L⟩ ⟨hk, hI⟩
  simp only at hk hI
  simp only [EV, EL, spec_AreGifts_s0, L0]
  refine c_split (fun hlt => ?_) (fun hge => ?_)
  · have hlt : k < l.length := by simpa using hlt
    have i0 := idx_sl (sz := 4) hs' (k := k) (by rw [gifts_len]; exact hlt)
    rw [e0, gifts_get] at i0
    rw [areGa_step hlt] at hI
    obtain ⟨x, hx⟩ : ∃ x, x = l[k] := ⟨_, rfl⟩
    rw [← hx] at i0 hI
    have hret : ∀ b : Bool, areGa [] l = false → b = false → b = areG l := fun b h1 h2 => by rw [h2, areG, h1]; rfl
    simp only [EV, EL, EB, i0, Gift.c, if_true, Nat.reduceAdd, List.length_nil]
    refine TCall.val (by simp only [EO]) (spec_l1In_T x.n 1 999999 h) ?_
    cases b1 : inR x.n 1 999999
    · simp only [EV, EL, Bool.not_false, Bool.not_true, if_true, Bool.false_eq_true, if_false, spec_AreGifts_r]
      exact ⟨rfl, by rw [areG, hI]; simp [Gift.good, b1]⟩
    simp only [EV, EL, EB, Bool.not_false, Bool.not_true, if_true, Bool.false_eq_true, if_false, Nat.reduceAdd]
    refine TCall.val (by simp only [EO]) (spec_l1In_T x.g 1 4 h) ?_
    cases b2 : inR x.g 1 4
    · simp only [EV, EL, Bool.not_false, Bool.not_true, if_true, Bool.false_eq_true, if_false, spec_AreGifts_r]
      exact ⟨rfl, by rw [areG, hI]; simp [Gift.good, b2]⟩
    simp only [EV, EL, EB, Bool.not_false, Bool.not_true, if_true, Bool.false_eq_true, if_false, Nat.reduceAdd]
    refine TCall.val (by simp only [EO]) (spec_l1In_T x.t 1 4 h) ?_
    cases b3 : inR x.t 1 4
    · simp only [EV, EL, Bool.not_false, Bool.not_true, if_true, Bool.false_eq_true, if_false, spec_AreGifts_r]
      exact ⟨rfl, by rw [areG, hI]; simp [Gift.good, b3]⟩
    cases b4 : (x.g == x.t)
    rotate_left
    · simp only [EV, EL, EB, b4, Bool.not_false, Bool.not_true, if_true, Bool.false_eq_true, if_false, Nat.reduceAdd, spec_AreGifts_r]
      exact ⟨rfl, by rw [areG, hI]; simp only [Gift.good, b4]; simp⟩
    cases b5 : decide (x.e < 0)
    rotate_left
    · simp only [EV, EL, EB, b4, b5, Bool.not_false, Bool.not_true, if_true, Bool.false_eq_true, if_false, Nat.reduceAdd, spec_AreGifts_r]
      exact ⟨rfl, by rw [areG, hI]; simp only [Gift.good, b5]; simp⟩
    have hgood : x.good = true := by simp only [Gift.good, b1, b2, b3, b4, b5]; rfl
    rw [hgood, Bool.true_and] at hI
    simp only [EV, EL, EB, b4, b5, Bool.not_false, Bool.not_true, if_true, Bool.false_eq_true, if_false, Nat.reduceAdd]
    refine loopI tabOK mixed [] (fun j : Nat => j ≤ k ∧ (l.take j).any x.same = false) (fun j => k - j)
      (fun j => spec_AreGifts_s1 a0 (.int .i64 k) (.lp L.length 0) (.int .i64 j) (L ++ [x.c]) h) 0 ⟨by omega, by simp⟩ ⟨by simp [spec_AreGifts_s1, LeL, LeV], rfl, rfl⟩ ?_
    rintro j ⟨hj, hJ⟩
    simp only [EV, EL, spec_AreGifts_s1]
    refine c_split (fun hlt1 => ?_) (fun hge1 => ?_)
    · have hlt1 : j < k := by simpa using hlt1
      have i1 := idx_sl (sz := 4) hs' (k := j) (by rw [gifts_len]; omega)
      rw [e0, gifts_get] at i1
      obtain ⟨y, hy⟩ : ∃ y, y = l[j] := ⟨_, rfl⟩
      rw [← hy] at i1
      have hnext : (l.take (j + 1)).any x.same = (y.n == x.n && y.g == x.g) := by
        rw [List.take_succ_eq_append_getElem (by omega), List.any_append, hJ, ← hy]; simp [Gift.same]
      cases c1 : (y.n == x.n)
      · simp only [EV, EL, EB, spec_AreGifts_d0_q, i1, Gift.c, c1, Bool.not_false, Bool.not_true, if_true, Bool.false_eq_true, if_false, Nat.reduceAdd, List.drop_zero, List.drop_succ_cons]
        refine ⟨j + 1, ⟨hlt1, by rw [hnext, c1]; rfl⟩, by omega, ⟨?_, rfl, rfl⟩⟩
        rw [wN (by omega)]
        simp [LeL, LeV]
      cases c2 : (y.g == x.g)
      · simp only [EV, EL, EB, spec_AreGifts_d0_q, i1, Gift.c, c1, c2, Bool.not_false, Bool.not_true, if_true, Bool.false_eq_true, if_false, Nat.reduceAdd, List.drop_zero, List.drop_succ_cons]
        refine ⟨j + 1, ⟨hlt1, by rw [hnext, c2]; simp⟩, by omega, ⟨?_, rfl, rfl⟩⟩
        rw [wN (by omega)]
        simp [LeL, LeV]
      · simp only [EV, EL, EB, spec_AreGifts_d0_q, i1, Gift.c, c1, c2, Bool.not_false, Bool.not_true, if_true, Bool.false_eq_true, if_false, Nat.reduceAdd, List.drop_zero, List.drop_succ_cons, spec_AreGifts_r]
        refine ⟨rfl, ?_⟩
        have : (l.take k).any x.same = true := by
          rw [List.any_eq_true]
          refine ⟨y, ?_, by simp [Gift.same, c1, c2]⟩
          rw [hy, List.mem_take_iff_getElem]
          exact ⟨j, by omega, rfl⟩
        rw [areG, hI, this]; rfl
    · have hge1 : j = k := by simp at hge1; omega
      subst hge1
      simp only [EV, EL]
      refine ⟨(j + 1, L ++ [x.c]), ⟨hlt, by rw [hI, hJ]; rfl⟩, by simp only; omega, ⟨?_, rfl, rfl⟩⟩
      rw [wN (by omega)]
      simp [LeL, LeV]
  · have hge : k = l.length := by simp at hge; omega
    simp only [EV, EL, L0, spec_AreGifts_r]
    refine ⟨rfl, ?_⟩
    rw [areG, hI, hge, List.drop_length, areGa, Bool.true_and]
    simp
    omega
end Go.Proofs.Ytjohoameeeaafaa
