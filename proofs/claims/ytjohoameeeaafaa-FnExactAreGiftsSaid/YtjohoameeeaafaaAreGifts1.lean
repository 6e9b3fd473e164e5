import Derived.Test.YtjohoameeeaafaaCodeAreGifts
import Derived.Test.YtjohoameeeaafaaAmLaws
set_option linter.unusedVariables false
set_option linter.unusedSimpArgs false
namespace Go.Proofs.Ytjohoameeeaafaa
open Go.AM
variable {Γ : Glob}

/-- Within bounds. -/
def inR (n lo hi : Int) : Bool := decide (lo ≤ n) && decide (n ≤ hi)

theorem spec_l1In_T (n lo hi : Int) (h : AH) : T Try.prog Γ Fn.spec_l1In [.int .i64 n, .int .i64 lo, .int .i64 hi] h fun v h' => v = .bool (inR n lo hi) ∧ h' = h := by
  refine spec_l1In_e (aw_sound tabOK mixed [] _ _ _ ?_)
  unfold spec_l1In_c
  simp only [EV, EL]
  refine k_split (fun h1 => ?_) (fun h1 => ?_) <;> simp only [EV, EL, h1, if_true, Bool.false_eq_true, if_false, spec_l1In_r]
  · exact ⟨rfl, by simp only [inR, h1, Bool.true_and]⟩
  · exact ⟨rfl, by simp only [inR, h1, Bool.false_and]⟩

theorem impl_in_T (n lo hi : Int) (h : AH) : T Try.prog Γ Fn.impl_in [.int .i64 n, .int .i64 lo, .int .i64 hi] h fun v h' => v = .bool (inR n lo hi) ∧ h' = h := by
  refine impl_in_e (aw_sound tabOK mixed [] _ _ _ ?_)
  unfold impl_in_c
  simp only [EV, EL]
  refine k_split (fun h1 => ?_) (fun h1 => ?_) <;> simp only [EV, EL, h1, if_true, Bool.false_eq_true, if_false, impl_in_r]
  · exact ⟨rfl, by simp only [inR, h1, Bool.true_and]⟩
  · exact ⟨rfl, by simp only [inR, h1, Bool.false_and]⟩

theorem impl_named_T (n : Int) (h : AH) : T Try.prog Γ Fn.impl_named [.int .i64 n] h fun v h' => v = .bool (inR n 1 999999) ∧ h' = h := by
  refine impl_named_e (aw_sound tabOK mixed [] _ _ _ ?_)
  unfold impl_named_c
  simp only [EV, EL]
  refine TCall.val (by simp only [EO]) (impl_in_T n 1 999999 h) ?_
  simp only [EV, EL, impl_named_r]
  exact rfl

structure Gift where
  n : Int
  g : Int
  t : Int
  e : Int
  deriving DecidableEq
def Gift.c (x : Gift) : List AV := [.int .i64 x.n, .int .i64 x.g, .int .i64 x.t, .int .i64 x.e]
def gifts (l : List Gift) : List (List AV) := l.map Gift.c
theorem gifts_len (l : List Gift) : (gifts l).length = l.length := by simp [gifts]
theorem gifts_get (l : List Gift) (k : Nat) (h : k < (gifts l).length) : (gifts l)[k] = (l[k]'(by simpa [gifts] using h)).c := by simp [gifts]
theorem gifts_ok (l : List Gift) : ∀ x ∈ gifts l, x.length = 4 ∧ x.all noLp = true := by
  intro x hx; simp [gifts] at hx; obtain ⟨a, _, rfl⟩ := hx; exact ⟨rfl, rfl⟩
theorem gifts_pv (l : List Gift) : ∀ x ∈ gifts l, ∀ y ∈ x, PV y := by
  intro x hx y hy; simp [gifts] at hx; obtain ⟨a, _, rfl⟩ := hx
  simp [Gift.c] at hy; rcases hy with rfl | rfl | rfl | rfl <;> exact .int _ _

theorem laws_toGift_T (x : Gift) (h : AH) : T Try.prog Γ Fn.laws_toGift [.agg x.c] h fun v h' => v = .agg x.c ∧ h' = h := by
  refine laws_toGift_e (aw_sound tabOK mixed [] _ _ _ ?_)
  unfold laws_toGift_c Gift.c
  simp only [EV, EL, EB, if_true, Nat.reduceAdd, laws_toGift_r]
  exact rfl

theorem laws_eqGift_T (x y : Gift) (h : AH) : T Try.prog Γ Fn.laws_eqGift [.agg x.c, .agg y.c] h fun v h' => v = .bool (decide (x = y)) ∧ h' = h := by
  obtain ⟨a, b, c, d⟩ := x
  obtain ⟨a', b', c', d'⟩ := y
  refine laws_eqGift_e (aw_sound tabOK mixed [] _ _ _ ?_)
  unfold laws_eqGift_c Gift.c
  simp only [EV, EL, EB, if_true, Nat.reduceAdd, laws_eqGift_r]
  refine c_split (fun h1 => ?_) (fun h1 => ?_)
  · simp only [EV, EL, EB, if_true, Nat.reduceAdd, laws_eqGift_r]; refine ⟨rfl, ?_⟩; simp at h1; simp [h1]
  simp only [EV, EL, EB, if_true, Nat.reduceAdd, laws_eqGift_r]
  refine c_split (fun h2 => ?_) (fun h2 => ?_)
  · simp only [EV, EL, EB, if_true, Nat.reduceAdd, laws_eqGift_r]; refine ⟨rfl, ?_⟩; simp at h2; simp [h2]
  simp only [EV, EL, EB, if_true, Nat.reduceAdd, laws_eqGift_r]
  refine c_split (fun h3 => ?_) (fun h3 => ?_)
  · simp only [EV, EL, EB, if_true, Nat.reduceAdd, laws_eqGift_r]; refine ⟨rfl, ?_⟩; simp at h3; simp [h3]
  simp only [EV, EL, EB, if_true, Nat.reduceAdd, laws_eqGift_r]
  refine c_split (fun h4 => ?_) (fun h4 => ?_)
  · simp only [EV, EL, EB, if_true, Nat.reduceAdd, laws_eqGift_r]; refine ⟨rfl, ?_⟩; simp at h4; simp [h4]
  simp only [EV, EL, EB, if_true, Nat.reduceAdd, laws_eqGift_r]; refine ⟨rfl, ?_⟩; simp at h1 h2 h3 h4; simp [h1, h2, h3, h4]

theorem toGiftS_e {f} (hf : f = Fn.laws_toGift) : laws_toGiftS_c = toSC 4 4 32 [.int .i64 0, .int .i64 0, .int .i64 0, .int .i64 0] f := by subst hf; rfl

theorem laws_toGiftS_T (s : SH) (l : List Gift) (hs : s.ok l.length) (hb : l.length ≤ 1048576) (h : AH) : T Try.prog Γ Fn.laws_toGiftS [sl s 4 (gifts l)] h fun v h' => v = sl (.v false true) 4 (gifts l) ∧ h' = h :=
  toS_T (szs := 4) (sz := 4) (bytes := 32) (z := [.int .i64 0, .int .i64 0, .int .i64 0, .int .i64 0]) (f := Fn.laws_toGift) tabOK mixed (fun hw => laws_toGiftS_e hw) (by rw [gifts_len]; exact hs) rfl (by rw [gifts_len]; simp [maxMade]; omega) rfl rfl (gifts_ok l) (gifts_ok l) (gifts_pv l)
    (fun i hi H => by simp only [gifts_get]; exact laws_toGift_T _ H)

theorem laws_toGiftS_T0 (s : SH) (l : List Gift) (hs : s.ok l.length) (hb : l.length ≤ 1048576) (h : AH) : T Try.prog Γ Fn.laws_toGiftS [sl s 4 (gifts l)] h fun v h' => v = .gs h.length 0 0 l.length l.length 4 true ∧ h' = h ++ [some (0, (gifts l).flatten)] := by
  have := toS_T0 (Γ := Γ) (h := h) (szs := 4) (sz := 4) (bytes := 32) (z := [.int .i64 0, .int .i64 0, .int .i64 0, .int .i64 0]) (f := Fn.laws_toGift) tabOK mixed (fun hw => laws_toGiftS_e hw) (s := s) (xs := gifts l) (ys := gifts l) (by rw [gifts_len]; exact hs) rfl (by rw [gifts_len]; simp [maxMade]; omega) rfl rfl (gifts_ok l) (gifts_ok l)
    (fun i hi H => by simp only [gifts_get]; exact laws_toGift_T _ H)
  rw [gifts_len] at this
  exact this

def eqG (x y : List AV) : Bool := match x, y with
  | [.int _ a, .int _ b, .int _ c, .int _ d], [.int _ a', .int _ b', .int _ c', .int _ d'] => decide (Gift.mk a b c d = ⟨a', b', c', d'⟩)
  | _, _ => false
theorem eqG_c (x y : Gift) : eqG x.c y.c = decide (x = y) := rfl
theorem eqG_all : ∀ (l m : List Gift), all2 eqG (gifts l) (gifts m) = decide (l = m)
  | [], [] => rfl
  | x :: l, y :: m => by
    have ih := eqG_all l m
    simp only [gifts, List.map_cons, all2] at ih ⊢
    rw [ih, eqG_c]
    by_cases h1 : x = y <;> by_cases h2 : l = m <;> simp [h1, h2]
  | [], _ :: _ => rfl
  | _ :: _, [] => rfl

theorem laws_eqGiftS_T (s0 s1 : SH) (l m : List Gift) (h0 : s0.ok l.length) (h1 : s1.ok m.length) (hb : l.length ≤ 1099511627) (h : AH) :
    T Try.prog Γ Fn.laws_eqGiftS [sl s0 4 (gifts l), sl s1 4 (gifts m)] h fun v h' => v = .bool (decide (l = m)) ∧ h' = h := by
  have := eqS_T (Γ := Γ) (h := h) (sz := 4) (f := Fn.laws_eqGift) tabOK mixed (fun hw => laws_eqGiftS_e hw) (s0 := s0) (s1 := s1) (xs := gifts l) (ys := gifts m) (by rw [gifts_len]; exact h0) (by rw [gifts_len]; exact h1) (by rw [gifts_len]; omega) (gifts_ok l) (gifts_ok m) eqG
    (fun x hx y hy => by
      simp only [gifts, List.mem_map] at hx hy
      obtain ⟨a, _, rfl⟩ := hx
      obtain ⟨b, _, rfl⟩ := hy
      exact laws_eqGift_T a b h)
  rw [eqG_all] at this
  exact this
end Go.Proofs.Ytjohoameeeaafaa
