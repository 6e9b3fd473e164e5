import Derived.Test.YtleddolmolkpfaaGreatAmLib
set_option linter.unusedVariables false
set_option linter.unusedSimpArgs false
/-! Functions of 'slices' over values: their code, with the element's size left open. -/
namespace Go.AM
section
variable {P : Program} {Θ : Tab} {Γ : Glob}

def elV (agg : Bool) (x : List AV) : AV := if agg = true then .agg x else x.getD 0 .any
def elOK (agg : Bool) (sz : Nat) (x : List AV) : Prop := x.length = sz ∧ (agg = true ∨ sz = 1)

theorem load_el {agg : Bool} {sz : Nat} {x : List AV} (h : elOK agg sz x) : (sub x 0 sz).bind (wrapAgg agg) = some (elV agg x) := by
  obtain ⟨h1, h2⟩ := h
  simp only [sub, Nat.zero_add, List.drop_zero]
  rw [if_pos (by omega), List.take_of_length_le (by omega)]
  rcases h2 with rfl | rfl
  · rfl
  · cases agg
    · match x, h1 with
      | [a], _ => rfl
    · rfl

def idxInt (p : List AV → Bool) (xs : List (List AV)) : Int := match xs.findIdx? p with | some i => (i : Int) | none => -1

def indexFuncC (sz : Nat) (agg : Bool) : C := .seq (.reg [⟨(some 4), none, .mov (.c (.int .i64 0))⟩]) (.seq (.seq (.reg [⟨(some 6), none, .mov (.t 0)⟩,
  ⟨(some 7), none, .len false (.t 6)⟩,
  ⟨(some 8), none, .mov (.c (.int .i64 0))⟩]) (.block 0 (.loop (.seq (.reg [⟨(some 9), none, .bin .lss (.num) (.t 8) (.t 7)⟩]) (.seq (.cond (.t 9) (.skip) (.exit 0)) (.seq (.block 1 (.seq (.reg [⟨(some 10), none, .mov (.t 8)⟩,
  ⟨(some 5), none, .mov (.t 10)⟩]) (.seq (.reg [⟨(some 11), none, .mov (.t 1)⟩,
  ⟨(some 12), none, .mov (.t 0)⟩,
  ⟨(some 13), none, .mov (.t 5)⟩,
  ⟨(some 14), none, .idxs sz (.t 12) (.t 13)⟩,
  ⟨(some 15), none, .load sz agg (.t 14)⟩,
  ⟨(some 16), none, .call (.t 11) [.t 15]⟩]) (.cond (.t 16) (.seq (.reg [⟨(some 17), none, .mov (.t 5)⟩,
  ⟨(some 4), none, .mov (.t 17)⟩]) (.ret)) (.skip))))) (.reg [⟨(some 18), none, .bin .add (.num) (.t 8) (.c (.int .i64 1))⟩,
  ⟨(some 8), none, .mov (.t 18)⟩]))))))) (.seq (.reg [⟨(some 4), none, .mov (.c (.int .i64 (-1)))⟩]) (.ret)))

abbrev Entry2 (P : Program) (Θ : Tab) (Γ : Glob) (f : FuncId) (c : C) (rs : List RS) (us : List AV) : Prop :=
  ∀ {a0 a1 : AV} {h : AH} {K : AV → AH → Prop}, TC P Θ Γ c (retQ rs K) ⟨a0 :: a1 :: us, [], h⟩ → T P Γ f [a0, a1] h K

theorem findIdx_at {p : List AV → Bool} : ∀ {xs : List (List AV)} {k : Nat} (hk : k < xs.length), (∀ (i : Nat) (hi : i < xs.length), i < k → p xs[i] = false) → p xs[k] = true → xs.findIdx? p = some k
  | x :: xs, 0, hk, _, h => by simp at h; simp [List.findIdx?_cons, h]
  | x :: xs, k + 1, hk, h0, h => by
    have h1 := h0 0 (by simp) (by omega)
    simp at h1
    have := findIdx_at (xs := xs) (k := k) (by simpa using hk) (fun i hi hik => by have := h0 (i + 1) (by simpa using hi) (by omega); rwa [List.getElem_cons_succ] at this) (by simpa using h)
    simp [List.findIdx?_cons, h1, this]

theorem findIdx_none {p : List AV → Bool} {xs : List (List AV)} (h : ∀ (i : Nat) (hi : i < xs.length), p xs[i] = false) : xs.findIdx? p = none := by
  rw [List.findIdx?_eq_none_iff]
  intro x hx
  obtain ⟨i, hi, rfl⟩ := List.mem_iff_getElem.1 hx
  exact h i hi

theorem indexFunc_T (tab : TabOK P Θ) (hm : P.follows .mixedOrders = true) {f : FuncId} {sz : Nat} {agg : Bool} (hE : Entry2 P Θ Γ f (indexFuncC sz agg) [.t 4] [u, u, u, u, u, u, u, u, u, u, u, u, u, u, u, u, u])
    {s : SH} {xs : List (List AV)} (hs : s.ok xs.length) (hb : xs.length < 1099511627776) (hx : ∀ x ∈ xs, elOK agg sz x ∧ out1 (elV agg x) = true) {g : FuncId} {first caps : List AV} (hc : (first ++ caps).all out1 = true) (p : List AV → Bool) {h : AH}
    (hp : ∀ x ∈ xs, T P Γ g (first ++ ([elV agg x] ++ caps)) h fun v h' => v = .bool (p x) ∧ h' = h) :
    T P Γ f [sl s sz xs, .fn g first caps] h fun v h' => v = .int .i64 (idxInt p xs) ∧ h' = h := by
  have L0 := len_sl (sz := sz) hs
  generalize e0 : sl s sz xs = a0 at *
  refine hE (aw_sound tab hm [] _ _ _ ?_)
  unfold indexFuncC
  simp only [EV, EL, L0]
  refine loopI tab hm [] (fun k : Nat => k ≤ xs.length ∧ ∀ (i : Nat) (hi : i < xs.length), i < k → p xs[i] = false) (fun k => xs.length - k)
    (fun k => ⟨[a0, .fn g first caps, .any, .any, .any, .any, .any, .int .i64 xs.length, .int .i64 k, .any, .any, .any, .any, .any, .any, .any, .any, .any, .any], [], h⟩) 0 ⟨by omega, fun i hi h => by omega⟩ ⟨by simp [LeL, LeV], rfl, rfl⟩ ?_
  rintro k ⟨hk, ht⟩
  simp only [EV, EL]
  refine c_split (fun hlt => ?_) (fun hge => ?_)
  · have hlt : k < xs.length := by simpa using hlt
    have hxk := List.getElem_mem hlt
    have i0 := idx_sl (sz := sz) hs hlt
    rw [e0] at i0
    simp only [EV, EL, i0, load_el (hx _ hxk).1]
    have hcall := hp _ hxk
    refine TCall.val ?_ hcall ?_
    · simp only [List.all_append, List.all_cons, List.all_nil, Bool.and_true, Bool.and_eq_true] at hc ⊢
      exact ⟨hc.1, (hx _ hxk).2, hc.2⟩
    simp only [EV, EL]
    refine c_split (fun hpt => ?_) (fun hpf => ?_)
    · simp only [EV, EL]
      refine ⟨rfl, ?_⟩
      simp [idxInt, findIdx_at hlt ht hpt]
    · simp only [EV, EL]
      refine ⟨k + 1, ⟨hlt, fun i hi hik => ?_⟩, by omega, ⟨?_, rfl, rfl⟩⟩
      · rcases Nat.lt_or_ge i k with h1 | h1
        · exact ht i hi h1
        · have : i = k := by omega
          subst this; exact hpf
      · rw [wN (by omega)]
        simp [LeL, LeV]
  · have hge : k = xs.length := by simp at hge; omega
    simp only [EV, EL]
    refine ⟨rfl, ?_⟩
    simp [idxInt, findIdx_none (fun i hi => ht i hi (by omega))]

def containsFuncC (g : FuncId) : C := .seq (.reg [⟨(some 4), none, .mov (.c (.bool false))⟩]) (.seq (.reg [⟨(some 5), none, .mov (.t 0)⟩,
  ⟨(some 6), none, .mov (.t 1)⟩,
  ⟨(some 7), none, .call (.c (.fn g [] [])) [.t 5, .t 6]⟩,
  ⟨(some 8), none, .bin .geq (.num) (.t 7) (.c (.int .i64 0))⟩,
  ⟨(some 4), none, .mov (.t 8)⟩]) (.ret))

theorem idxInt_any (p : List AV → Bool) (xs : List (List AV)) : decide ((0 : Int) ≤ idxInt p xs) = xs.any p := by
  unfold idxInt
  cases h : xs.findIdx? p with
  | none =>
    rw [List.findIdx?_eq_none_iff] at h
    have : xs.any p = false := by rw [List.any_eq_false]; intro x hx; simpa using h x hx
    simp [this]
  | some i =>
    have : xs.any p = true := by
      obtain ⟨hi, h1, _⟩ := List.findIdx?_eq_some_iff_getElem.1 h
      exact List.any_eq_true.2 ⟨_, List.getElem_mem hi, h1⟩
    simp [this]

/-- 'f' asks 'g' for the index. -/
theorem contains_T (tab : TabOK P Θ) (hm : P.follows .mixedOrders = true) {f g : FuncId} (hE : Entry2 P Θ Γ f (containsFuncC g) [.t 4] [u, u, u, u, u, u, u]) {a0 a1 : AV} (h0 : out1 a0 = true) (h1 : out1 a1 = true) {p : List AV → Bool} {xs : List (List AV)} {h : AH}
    (hg : T P Γ g [a0, a1] h fun v h' => v = .int .i64 (idxInt p xs) ∧ h' = h) : T P Γ f [a0, a1] h fun v h' => v = .bool (xs.any p) ∧ h' = h := by
  refine hE (aw_sound tab hm [] _ _ _ ?_)
  unfold containsFuncC
  simp only [EV, EL]
  refine TCall.val (by simp [h0, h1]) hg ?_
  simp only [EV, EL, idxInt_any]
  exact rfl

def indexC : C := .seq (.reg [⟨(some 4), none, .mov (.c (.int .i64 0))⟩]) (.seq (.seq (.reg [⟨(some 6), none, .mov (.t 0)⟩,
  ⟨(some 7), none, .len false (.t 6)⟩,
  ⟨(some 8), none, .mov (.c (.int .i64 0))⟩]) (.block 0 (.loop (.seq (.reg [⟨(some 9), none, .bin .lss (.num) (.t 8) (.t 7)⟩]) (.seq (.cond (.t 9) (.skip) (.exit 0)) (.seq (.block 1 (.seq (.reg [⟨(some 10), none, .mov (.t 8)⟩,
  ⟨(some 5), none, .mov (.t 10)⟩]) (.seq (.reg [⟨(some 11), none, .mov (.t 1)⟩,
  ⟨(some 12), none, .mov (.t 0)⟩,
  ⟨(some 13), none, .mov (.t 5)⟩,
  ⟨(some 14), none, .idxs 1 (.t 12) (.t 13)⟩,
  ⟨(some 15), none, .load 1 false (.t 14)⟩,
  ⟨(some 16), none, .bin .eql (.num) (.t 11) (.t 15)⟩]) (.cond (.t 16) (.seq (.reg [⟨(some 17), none, .mov (.t 5)⟩,
  ⟨(some 4), none, .mov (.t 17)⟩]) (.ret)) (.skip))))) (.reg [⟨(some 18), none, .bin .add (.num) (.t 8) (.c (.int .i64 1))⟩,
  ⟨(some 8), none, .mov (.t 18)⟩]))))))) (.seq (.reg [⟨(some 4), none, .mov (.c (.int .i64 (-1)))⟩]) (.ret)))

/-- Cells of a list of numbers. -/
def ints (l : List Int) : List (List AV) := l.map fun n => [.int .i64 n]
theorem ints_len (l : List Int) : (ints l).length = l.length := by simp [ints]
theorem ints_get (l : List Int) (k : Nat) (h : k < (ints l).length) : (ints l)[k] = [.int .i64 (l[k]'(by simpa [ints] using h))] := by simp [ints]
def isInt (n : Int) (x : List AV) : Bool := match x with | [.int _ m] => n == m | _ => false

theorem index_T (tab : TabOK P Θ) (hm : P.follows .mixedOrders = true) {f : FuncId} (hE : Entry2 P Θ Γ f indexC [.t 4] [u, u, u, u, u, u, u, u, u, u, u, u, u, u, u, u, u])
    {s : SH} {xs : List Int} (hs : s.ok xs.length) (hb : xs.length < 1099511627776) (n : Int) {h : AH} :
    T P Γ f [sl s 1 (ints xs), .int .i64 n] h fun v h' => v = .int .i64 (idxInt (isInt n) (ints xs)) ∧ h' = h := by
  have hs' : s.ok (ints xs).length := by rw [ints_len]; exact hs
  have L0 := len_sl (sz := 1) hs'
  rw [ints_len] at L0
  generalize e0 : sl s 1 (ints xs) = a0 at *
  refine hE (aw_sound tab hm [] _ _ _ ?_)
  unfold indexC
  simp only [EV, EL, L0]
  refine loopI tab hm [] (fun k : Nat => k ≤ xs.length ∧ ∀ (i : Nat) (hi : i < (ints xs).length), i < k → isInt n (ints xs)[i] = false) (fun k => xs.length - k)
    (fun k => ⟨[a0, .int .i64 n, .any, .any, .any, .any, .any, .int .i64 xs.length, .int .i64 k, .any, .any, .any, .any, .any, .any, .any, .any, .any, .any], [], h⟩) 0 ⟨by omega, fun i hi h => by omega⟩ ⟨by simp [LeL, LeV], rfl, rfl⟩ ?_
  rintro k ⟨hk, ht⟩
  simp only [EV, EL]
  refine c_split (fun hlt => ?_) (fun hge => ?_)
  · have hlt : k < xs.length := by simpa using hlt
    have hlt' : k < (ints xs).length := by rw [ints_len]; exact hlt
    have i0 := idx_sl (sz := 1) hs' hlt'
    rw [e0, ints_get] at i0
    simp only [EV, EL, i0, Option.bind_some]
    refine c_split (fun hpt => ?_) (fun hpf => ?_)
    · simp only [EV, EL]
      refine ⟨rfl, ?_⟩
      rw [idxInt, findIdx_at hlt' ht (by rw [ints_get]; exact hpt)]
    · simp only [EV, EL]
      refine ⟨k + 1, ⟨hlt, fun i hi hik => ?_⟩, by omega, ⟨?_, rfl, rfl⟩⟩
      · rcases Nat.lt_or_ge i k with h1 | h1
        · exact ht i hi h1
        · have : i = k := by omega
          subst this; rw [ints_get]; exact hpf
      · rw [wN (by omega)]
        simp [LeL, LeV]
  · have hge : k = xs.length := by simp at hge; omega
    simp only [EV, EL]
    refine ⟨rfl, ?_⟩
    rw [idxInt, findIdx_none (fun i hi => ht i hi (by rw [ints_len] at hi; omega))]

theorem ints_any (xs : List Int) (n : Int) : (ints xs).any (isInt n) = xs.contains n := by
  induction xs with
  | nil => rfl
  | cons x xs ih =>
    simp only [ints, List.map_cons, List.any_cons, List.contains_cons] at ih ⊢
    rw [ih]; rfl

end
end Go.AM
