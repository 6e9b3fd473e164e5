import Derived.Test.YtjohoameeeaafaaCodeAllWithin
import Derived.Test.YtjohoameeeaafaaAmSlices
set_option linter.unusedVariables false
set_option linter.unusedSimpArgs false
namespace Go.Proofs.Ytjohoameeeaafaa
open Go.AM
variable {Γ : Glob}

theorem eqIntS_T (s0 s1 : SH) (xs ys : List Int) (h0 : s0.ok xs.length) (h1 : s1.ok ys.length) (hb : xs.length < 1099511627776) (h : AH) :
    T Try.prog Γ Fn.laws_eqIntS [sl s0 1 (ints xs), sl s1 1 (ints ys)] h (fun v h' => v = .bool (decide (xs = ys)) ∧ h' = h) := by
  have L0 := len_sl (sz := 1) (xs := ints xs) (s := s0) (by rw [ints_len]; exact h0)
  have L1 := len_sl (sz := 1) (xs := ints ys) (s := s1) (by rw [ints_len]; exact h1)
  rw [ints_len] at L0 L1
  generalize e0 : sl s0 1 (ints xs) = a0 at *
  generalize e1 : sl s1 1 (ints ys) = a1 at *
  refine laws_eqIntS_e (aw_sound tabOK mixed [] _ _ _ ?_)
  unfold laws_eqIntS_c
  simp only [EV, EL, L0, L1]
  refine c_split (fun hne => ?_) (fun heq => ?_)
  · simp only [EV, EL, L0, L1, laws_eqIntS_r]
    refine ⟨rfl, ?_⟩
    have : xs ≠ ys := fun hh => by subst hh; simp at hne
    simp [this]
  · simp only [EV, EL, L0, L1]
    have hl : xs.length = ys.length := by simp at heq; omega
    refine loopI tabOK mixed [] (fun k : Nat => k ≤ xs.length ∧ xs.take k = ys.take k) (fun k => xs.length - k)
      (fun k => ⟨[a0, a1, .any, .any, .any, .int .i64 k, .any, .any, .any, .any, .any, .any, .any, .any, .any, .any, .any, .any, .any, .any, .any, .any, .any, .any, .any, .any], [], h⟩) 0 ⟨by omega, by simp⟩ ⟨by simp [LeL, LeV], rfl, rfl⟩ ?_
    rintro k ⟨hk, ht⟩
    simp only [EV, EL, L0, L1]
    refine c_split (fun hlt => ?_) (fun hge => ?_)
    · have hlt : k < xs.length := by simpa using hlt
      have i0 := idx_sl (sz := 1) (s := s0) (xs := ints xs) (by rw [ints_len]; exact h0) (k := k) (by rw [ints_len]; exact hlt)
      have i1 := idx_sl (sz := 1) (s := s1) (xs := ints ys) (by rw [ints_len]; exact h1) (k := k) (by rw [ints_len]; omega)
      rw [e0, ints_get] at i0
      rw [e1, ints_get] at i1
      simp only [EV, EL, laws_eqIntS_d0_q, i0, i1, Option.bind_some]
      refine c_split (fun hne => ?_) (fun heq => ?_)
      · simp only [EV, EL, laws_eqIntS_r]
        refine ⟨rfl, ?_⟩
        have : xs ≠ ys := fun hh => by subst hh; simp at hne
        simp [this]
      · simp only [EV, EL]
        refine ⟨k + 1, ⟨hlt, ?_⟩, by omega, ⟨?_, rfl, rfl⟩⟩
        · rw [List.take_succ_eq_append_getElem hlt, List.take_succ_eq_append_getElem (by omega), ht]
          simp at heq; rw [heq]
        · rw [wN (by omega)]
          simp [LeL, LeV]
    · have hge : k = xs.length := by simp at hge; omega
      simp only [EV, EL, laws_eqIntS_r]
      refine ⟨rfl, ?_⟩
      have : xs = ys := by rw [← List.take_length (l := xs), ← hge, ht, hge, hl, List.take_length]
      simp [this]

theorem ints_sz (xs : List Int) : ∀ l ∈ ints xs, l.length = 1 := by
  intro l hl; simp [ints] at hl; obtain ⟨a, _, rfl⟩ := hl; rfl
theorem ints_ob (base : Nat) (xs : List Int) : ∀ l ∈ ints xs, ∀ x ∈ l, OBk base x := by
  intro l hl x hx; simp [ints] at hl; obtain ⟨a, _, rfl⟩ := hl; simp at hx; subst hx; exact .int _ _

theorem toIntS_T0 (s0 : SH) (xs : List Int) (h0 : s0.ok xs.length) (hb : xs.length < 1099511627) (h : AH) :
    T Try.prog Γ Fn.laws_toIntS [sl s0 1 (ints xs)] h (fun v h' => v = .gs h.length 0 0 xs.length xs.length 1 true ∧ h' = h ++ [some (0, (ints xs).flatten)]) := by
  have L0 := len_sl (sz := 1) (xs := ints xs) (s := s0) (by rw [ints_len]; exact h0)
  rw [ints_len] at L0
  generalize e0 : sl s0 1 (ints xs) = a0 at *
  refine laws_toIntS_e (aw_sound tabOK mixed [] _ _ _ ?_)
  unfold laws_toIntS_c
  simp only [EV, EL, L0]
  rw [mks_ok _ _ _ _ _ _ (by simp [maxMade]; omega) rfl]
  simp only [EV, EL]
  refine loopI tabOK mixed [] (fun k : Nat => k ≤ xs.length) (fun k => xs.length - k)
    (fun k => ⟨[a0, .any, .any, .gs h.length 0 0 xs.length xs.length 1 true, .int .i64 k, .any, .any, .any, .any, .any, .any, .any, .any, .any, .any, .any, .any, .any, .any, .any, .any, .any], [], h ++ [some (0, fillC (ints xs) [.int .i64 0] k)]⟩) 0 (by omega) ⟨by simp [LeL, LeV], rfl, by rw [fillC_0, ints_len]⟩ ?_
  intro k hk
  simp only [EV, EL, L0]
  refine c_split (fun hlt => ?_) (fun hge => ?_)
  · have hlt : k < xs.length := by simpa using hlt
    have i0 := idx_sl (sz := 1) (s := s0) (xs := ints xs) (by rw [ints_len]; exact h0) (k := k) (by rw [ints_len]; exact hlt)
    rw [e0, ints_get] at i0
    have hl := fillC_len (xs := ints xs) (z := [.int .i64 0]) (sz := 1) (k := k) (ints_sz xs) rfl (by rw [ints_len]; exact hk)
    rw [ints_len] at hl
    have hs := fillC_step (xs := ints xs) (z := [.int .i64 0]) (sz := 1) (k := k) (ints_sz xs) rfl (by rw [ints_len]; exact hlt)
    rw [ints_get] at hs
    simp only [EV, EL, i0, Option.bind_some, idx_gs hlt]
    rw [Nat.zero_add, store_last (by simp [hl]; omega) rfl, hs]
    simp only [EV, EL]
    refine ⟨k + 1, hlt, by omega, ⟨?_, rfl, rfl⟩⟩
    rw [wN (by omega)]
    simp [LeL, LeV]
  · have hge : k = xs.length := by simp at hge; omega
    simp only [EV, EL, laws_toIntS_r]
    refine ⟨rfl, ?_⟩
    rw [hge, ← ints_len, fillC_n]

theorem toIntS_T (s0 : SH) (xs : List Int) (h0 : s0.ok xs.length) (hb : xs.length < 1099511627) (h : AH) :
    T Try.prog Γ Fn.laws_toIntS [sl s0 1 (ints xs)] h (fun v h' => v = sl (.v false true) 1 (ints xs) ∧ h' = h) := by
  refine (toIntS_T0 s0 xs h0 hb h).freeze ?_
  rintro v h' ⟨rfl, rfl⟩
  refine ⟨h, _, _, rfl, rfl, fun b g cs hb => .inl hb, ?_, rfl, rfl⟩
  have := frz_flat (base := h.length) (h := h ++ [some (0, (ints xs).flatten)]) (b := h.length) (sz := 1) (ex := true) (xs := ints xs) (Nat.le_refl _) (by simp) (ints_sz xs) (ints_ob _ xs)
  rw [ints_len] at this
  exact this

theorem contains_snoc (l : List Int) (a n : Int) : (l ++ [a]).contains n = (l.contains n || a == n) := by
  rw [Bool.eq_iff_iff]
  simp only [List.contains_iff_mem, List.mem_append, List.mem_singleton, Bool.or_eq_true, beq_iff_eq]
  constructor
  · rintro (h | h)
    · exact .inl h
    · exact .inr h.symm
  · rintro (h | h)
    · exact .inl h
    · exact .inr h.symm

def allIn (xs ys : List Int) : Bool := xs.all fun n => ys.contains n

theorem spec_AllWithin_T (s0 s1 : SH) (xs ys : List Int) (h0 : s0.ok xs.length) (h1 : s1.ok ys.length) (hb0 : xs.length < 1099511627) (hb1 : ys.length < 1099511627) (h : AH) :
    T Try.prog Γ Fn.spec_AllWithin [sl s0 1 (ints xs), sl s1 1 (ints ys)] h (fun v h' => v = .bool (allIn xs ys) ∧ h' = h) := by
  have L0 := len_sl (sz := 1) (xs := ints xs) (s := s0) (by rw [ints_len]; exact h0)
  have L1 := len_sl (sz := 1) (xs := ints ys) (s := s1) (by rw [ints_len]; exact h1)
  rw [ints_len] at L0 L1
  generalize e0 : sl s0 1 (ints xs) = a0 at *
  generalize e1 : sl s1 1 (ints ys) = a1 at *
  refine spec_AllWithin_e (aw_sound tabOK mixed [] _ _ _ ?_)
  unfold spec_AllWithin_c
  simp only [EV, EL]
  refine loopI tabOK mixed [] (fun k : Nat => k ≤ xs.length ∧ (xs.take k).all (fun n => ys.contains n) = true) (fun k => xs.length - k)
    (fun k => ⟨[a0, a1, .any, .any, .any, .int .i64 k, .any, .any, .any, .any, .any, .any, .any, .any, .any, .any, .any, .any, .any, .any, .any, .any, .any, .any, .any, .any, .any, .any, .any, .any, .any, .any, .any, .any], [], h⟩) 0 ⟨by omega, by simp⟩ ⟨by simp [LeL, LeV], rfl, rfl⟩ ?_
  rintro k ⟨hk, ht⟩
  simp only [EV, EL, L0]
  refine c_split (fun hlt => ?_) (fun hge => ?_)
  · have hlt : k < xs.length := by simpa using hlt
    have i0 := idx_sl (sz := 1) (s := s0) (xs := ints xs) (by rw [ints_len]; exact h0) (k := k) (by rw [ints_len]; exact hlt)
    rw [e0, ints_get] at i0
    obtain ⟨n0, hn0⟩ : ∃ n0, n0 = xs[k] := ⟨_, rfl⟩
    rw [← hn0] at i0
    simp only [EV, EL]
    refine loopI tabOK mixed [] (fun j : Nat => j ≤ ys.length) (fun j => ys.length - j)
      (fun j => ⟨[a0, a1, .any, .any, .any, .int .i64 k, .bool ((ys.take j).contains n0), .int .i64 j, .any, .any, .any, .any, .any, .any, .any, .any, .any, .any, .any, .any, .any, .any, .any, .any, .any, .any, .any, .any, .any, .any, .any, .any, .any, .any], [], h⟩) 0 (by omega) ⟨by simp [LeL, LeV], rfl, rfl⟩ ?_
    intro j hj
    generalize hf : (ys.take j).contains n0 = fnd
    simp only [EV, EL, L1]
    refine c_split (fun hlt1 => ?_) (fun hge1 => ?_)
    · have hlt1 : j < ys.length := by simpa using hlt1
      have i1 := idx_sl (sz := 1) (s := s1) (xs := ints ys) (by rw [ints_len]; exact h1) (k := j) (by rw [ints_len]; exact hlt1)
      rw [e1, ints_get] at i1
      have hnext : (ys.take (j + 1)).contains n0 = (fnd || ys[j] == n0) := by
        rw [List.take_succ_eq_append_getElem hlt1, contains_snoc, hf]
      cases fnd
      · simp only [EV, EL, spec_AllWithin_d0_q, Bool.not_false, i0, i1, Option.bind_some, Bool.false_eq_true, if_false]
        refine ⟨j + 1, hlt1, by omega, ⟨?_, rfl, rfl⟩⟩
        rw [wN (by omega), hnext]
        simp [LeL, LeV]
      · simp only [EV, EL, spec_AllWithin_d0_q, Bool.not_true, if_true]
        refine ⟨j + 1, hlt1, by omega, ⟨?_, rfl, rfl⟩⟩
        rw [wN (by omega), hnext]
        simp [LeL, LeV]
    · have hge1 : j = ys.length := by simp at hge1; omega
      subst hge1
      rw [List.take_length] at hf
      cases fnd
      · simp only [EV, EL, Bool.not_false, spec_AllWithin_r]
        refine ⟨rfl, ?_⟩
        have : allIn xs ys = false := by
          unfold allIn
          rw [List.all_eq_false]
          exact ⟨n0, hn0 ▸ List.getElem_mem hlt, by simpa using hf⟩
        simp [this]
      · simp only [EV, EL, Bool.not_true]
        refine ⟨k + 1, ⟨hlt, ?_⟩, by omega, ⟨?_, rfl, rfl⟩⟩
        · rw [List.take_succ_eq_append_getElem hlt, List.all_append, ht, ← hn0]; simpa using hf
        · rw [wN (by omega)]
          simp [LeL, LeV]
  · have hge : k = xs.length := by simp at hge; omega
    subst hge
    rw [List.take_length] at ht
    simp only [EV, EL, spec_AllWithin_r]
    refine ⟨rfl, ?_⟩
    rw [allIn, ht]

theorem closure_T (n : Int) (s1 : SH) (ys : List Int) (h1 : s1.ok ys.length) (hb1 : ys.length < 1099511627) (h : AH) :
    T Try.prog Γ Fn.impl_AllWithin_1 [.int .i64 n, .gp h.length 0 0] (h ++ [some (0, [sl s1 1 (ints ys)])]) (fun v h' => v = .bool (!ys.contains n) ∧ h' = h ++ [some (0, [sl s1 1 (ints ys)])]) := by
  refine impl_AllWithin_1_e (aw_sound tabOK mixed [] _ _ _ ?_)
  unfold impl_AllWithin_1_c
  simp only [EV, EL, cells_last, Option.bind_some]
  refine TCall.val (by simp only [EO]) (contains_T tabOK mixed slices_Contains_iint_int_e (sl_out _ _ _) rfl (index_T tabOK mixed slices_Index_iint_int_e h1 (by omega) n)) ?_
  simp only [EV, EL, impl_AllWithin_1_r, ints_any]
  exact rfl

theorem impl_AllWithin_T (s0 s1 : SH) (xs ys : List Int) (h0 : s0.ok xs.length) (h1 : s1.ok ys.length) (hb0 : xs.length < 1099511627) (hb1 : ys.length < 1099511627) (h : AH) :
    T Try.prog Γ Fn.impl_AllWithin [sl s0 1 (ints xs), sl s1 1 (ints ys)] h (fun v h' => v = .bool (allIn xs ys) ∧ h' = h) := by
  refine (?_ : T Try.prog Γ Fn.impl_AllWithin [sl s0 1 (ints xs), sl s1 1 (ints ys)] h (fun v h' => v = .bool (allIn xs ys) ∧ h' = h ++ [some (0, [sl s1 1 (ints ys)])])).drop (by
    rintro v h' ⟨rfl, rfl⟩; exact ⟨_, rfl, .bool _, rfl, rfl⟩)
  refine impl_AllWithin_e (aw_sound tabOK mixed [3] _ _ _ ?_)
  unfold impl_AllWithin_c
  simp only [EV, EL, Nat.reduceBEq]
  rw [box_g _ _ (by simp [sl_noLp])]
  simp only [EV, EL, Nat.reduceBEq]
  have hi := indexFunc_T (P := Try.prog) (Γ := Γ) tabOK mixed slices_IndexFunc_iint_int_e (s := s0) (xs := ints xs) (by rw [ints_len]; exact h0) (by rw [ints_len]; omega)
    (fun x hx => ⟨⟨ints_sz xs x hx, .inr rfl⟩, by simp [ints] at hx; obtain ⟨a, _, rfl⟩ := hx; rfl⟩) (g := Fn.impl_AllWithin_1) (first := []) (caps := [.gp h.length 0 0]) rfl
    (fun x => match x with | [.int _ n] => !ys.contains n | _ => false) (h := h ++ [some (0, [sl s1 1 (ints ys)])])
    (fun x hx => by simp [ints] at hx; obtain ⟨a, _, rfl⟩ := hx; exact closure_T a s1 ys h1 hb1 h)
  refine TCall.val (by simp only [EO]) (contains_T tabOK mixed slices_ContainsFunc_iint_int_e (sl_out _ _ _) rfl hi) ?_
  simp only [EV, EL, impl_AllWithin_r, Nat.reduceBEq]
  refine ⟨rfl, ?_⟩
  have : (ints xs).any (fun x => match x with | [.int _ n] => !ys.contains n | _ => false) = !allIn xs ys := by
    simp [ints, allIn, List.any_map, Function.comp_def]
    rw [Bool.eq_iff_iff]; simp
  rw [this]; simp

theorem law_AllWithin (s0 s1 : SH) (xs ys : List Int) (h0 : s0.ok xs.length) (h1 : s1.ok ys.length) (h : AH) :
    T Try.prog Γ Fn.laws_FnExactAllWithin [sl s0 1 (ints xs), sl s1 1 (ints ys)] h (fun v h' => v = .bool true ∧ h' = h) := by
  have L0 := len_sl (sz := 1) (xs := ints xs) (s := s0) (by rw [ints_len]; exact h0)
  have L1 := len_sl (sz := 1) (xs := ints ys) (s := s1) (by rw [ints_len]; exact h1)
  rw [ints_len] at L0 L1
  refine laws_FnExactAllWithin_e (aw_sound tabOK mixed [] _ _ _ ?_)
  unfold laws_FnExactAllWithin_c
  simp only [EV, EL, L0]
  refine c_split (fun hgt => ?_) (fun hle => ?_)
  · simp only [EV, EL, laws_FnExactAllWithin_r]; exact rfl
  have hb0 : xs.length ≤ 1048576 := by simp at hle; omega
  simp only [EV, EL, L1]
  refine c_split (fun hgt => ?_) (fun hle => ?_)
  · simp only [EV, EL, laws_FnExactAllWithin_r]; exact rfl
  have hb1 : ys.length ≤ 1048576 := by simp at hle; omega
  have ok : ∀ n, (SH.v false true).ok n := fun n h => by cases h
  simp only [EV, EL]
  refine TCall.val (by simp only [EO]) (toIntS_T s0 xs h0 (by omega) h) ?_
  simp only [EV, EL]
  refine TCall.val (by simp only [EO]) (toIntS_T s1 ys h1 (by omega) h) ?_
  simp only [EV, EL]
  refine TCall.val (by simp only [EO]) (spec_AllWithin_T _ _ xs ys (ok _) (ok _) (by omega) (by omega) h) ?_
  simp only [EV, EL]
  refine TCall.val (by simp only [EO]) (toIntS_T s0 xs h0 (by omega) h) ?_
  simp only [EV, EL]
  refine TCall.val (by simp only [EO]) (toIntS_T s1 ys h1 (by omega) h) ?_
  simp only [EV, EL]
  refine TCall.val (by simp only [EO]) (impl_AllWithin_T _ _ xs ys (ok _) (ok _) (by omega) (by omega) h) ?_
  simp only [EV, EL, beq_self_eq_true, Bool.not_true]
  refine TCall.val (by simp only [EO]) (toIntS_T s0 xs h0 (by omega) h) ?_
  simp only [EV, EL]
  refine TCall.val (by simp only [EO]) (eqIntS_T _ _ xs xs (ok _) (ok _) (by omega) h) ?_
  simp only [EV, EL, decide_true, Bool.not_true]
  refine TCall.val (by simp only [EO]) (toIntS_T s1 ys h1 (by omega) h) ?_
  simp only [EV, EL]
  refine TCall.val (by simp only [EO]) (eqIntS_T _ _ ys ys (ok _) (ok _) (by omega) h) ?_
  simp only [EV, EL, decide_true, Bool.not_true, laws_FnExactAllWithin_r]
  exact rfl
end Go.Proofs.Ytjohoameeeaafaa
