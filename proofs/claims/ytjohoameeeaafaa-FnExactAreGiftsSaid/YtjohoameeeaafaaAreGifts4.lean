import Derived.Test.YtjohoameeeaafaaAreGifts3
set_option linter.unusedVariables false
set_option linter.unusedSimpArgs false
namespace Go.Proofs.Ytjohoameeeaafaa
open Go.AM
variable {Γ : Glob}

theorem laws_szGiftS_T (s : SH) (l : List Gift) (hs : s.ok l.length) (hb : l.length ≤ 9223372036854775807) (h : AH) :
    T Try.prog Γ Fn.laws_szGiftS [sl s 4 (gifts l), .int .i64 1048576] h fun v h' => v = .int .i64 (if l.length ≤ 1048576 then 1048576 - (l.length : Int) else -1) ∧ h' = h := by
  have L0 := len_sl (sz := 4) (s := s) (xs := gifts l) (by rw [gifts_len]; exact hs)
  rw [gifts_len] at L0
  generalize sl s 4 (gifts l) = a0 at *
  refine laws_szGiftS_e (aw_sound tabOK mixed [] _ _ _ ?_)
  unfold laws_szGiftS_c
  simp only [EV, EL, L0]
  rw [wrap_nat (by omega) (by omega)]
  refine c_split (fun h1 => ?_) (fun h1 => ?_)
  · simp only [EV, EL, laws_szGiftS_r]
    refine ⟨rfl, ?_⟩
    simp at h1
    rw [if_neg (by omega)]
  · simp only [EV, EL, laws_szGiftS_r]
    refine ⟨rfl, ?_⟩
    simp at h1
    rw [if_pos (by omega)]

theorem law_AreGifts (s : SH) (l : List Gift) (hs : s.ok l.length) (hb : l.length ≤ 9223372036854775807) (h : AH) :
    T Try.prog Γ Fn.laws_FnExactAreGifts [sl s 4 (gifts l)] h fun v h' => v = .bool true ∧ h' = h := by
  have ok : ∀ n, (SH.v false true).ok n := fun n h => by cases h
  refine laws_FnExactAreGifts_e (aw_sound tabOK mixed [] _ _ _ ?_)
  unfold laws_FnExactAreGifts_c
  simp only [EV, EL]
  refine TCall.val (by simp only [EO]) (laws_szGiftS_T s l hs hb h) ?_
  simp only [EV, EL]
  by_cases hl : l.length ≤ 1048576
  rotate_left
  · rw [if_neg hl]
    simp only [EV, EL, laws_FnExactAreGifts_r, show decide ((-1 : Int) < 0) = true from rfl]
    exact rfl
  rw [if_pos hl]
  have hd : decide ((1048576 : Int) - (l.length : Int) < 0) = false := by simp; omega
  simp only [EV, EL, hd]
  refine TCall.val (by simp only [EO]) (laws_toGiftS_T s l hs hl h) ?_
  simp only [EV, EL]
  refine TCall.val (by simp only [EO]) (spec_AreGifts_T _ l (ok _) (by omega) h) ?_
  simp only [EV, EL]
  refine TCall.val (by simp only [EO]) (laws_toGiftS_T s l hs hl h) ?_
  simp only [EV, EL]
  refine TCall.val (by simp only [EO]) (impl_AreGifts_T _ l (ok _) (by omega) h) ?_
  simp only [EV, EL, beq_self_eq_true, Bool.not_true]
  refine TCall.val (by simp only [EO]) (laws_toGiftS_T s l hs hl h) ?_
  simp only [EV, EL]
  refine TCall.val (by simp only [EO]) (laws_eqGiftS_T _ _ l l (ok _) (ok _) (by omega) h) ?_
  simp only [EV, EL, decide_true, Bool.not_true, laws_FnExactAreGifts_r]
  exact rfl
end Go.Proofs.Ytjohoameeeaafaa
