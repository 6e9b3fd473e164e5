import Derived.Test.YtleddolmolkpfaaGreatAmBox
set_option linter.unusedVariables false
set_option linter.unusedSimpArgs false
/-! The laws' own helpers over slices: copying and comparing element by element; the element's function left open. -/
namespace Go.AM
section
variable {P : Program} {Θ : Tab} {Γ : Glob}

abbrev Entry1 (P : Program) (Θ : Tab) (Γ : Glob) (f : FuncId) (c : C) (rs : List RS) (us : List AV) : Prop :=
  ∀ {a0 : AV} {h : AH} {K : AV → AH → Prop}, TC P Θ Γ c (retQ rs K) ⟨a0 :: us, [], h⟩ → T P Γ f [a0] h K

/-! ### Copying -/
def toSC (szs sz bytes : Nat) (z : List AV) (f : FuncId) : C := .seq (.reg [⟨(some 2), none, .mov (.c (.nils))⟩]) (.seq (.reg [⟨(some 5), none, .mov (.t 0)⟩,
  ⟨(some 6), none, .len false (.t 5)⟩,
  ⟨(some 7), none, .mks sz bytes z (.t 6) (.t 6)⟩,
  ⟨(some 3), none, .mov (.t 7)⟩]) (.seq (.seq (.reg [⟨(some 4), none, .mov (.c (.int .i64 0))⟩]) (.block 0 (.loop (.seq (.seq (.reg [⟨(some 8), none, .mov (.t 4)⟩,
  ⟨(some 9), none, .mov (.t 0)⟩,
  ⟨(some 10), none, .len false (.t 9)⟩,
  ⟨(some 11), none, .bin .lss (.num) (.t 8) (.t 10)⟩]) (.cond (.t 11) (.skip) (.exit 0))) (.seq (.block 1 (.reg [⟨(some 14), none, .mov (.t 3)⟩,
  ⟨(some 15), none, .mov (.t 4)⟩,
  ⟨(some 16), none, .mov (.t 0)⟩,
  ⟨(some 17), none, .mov (.t 4)⟩,
  ⟨(some 18), none, .idxs szs (.t 16) (.t 17)⟩,
  ⟨(some 19), none, .load szs true (.t 18)⟩,
  ⟨(some 20), none, .call (.c (.fn f [] [])) [.t 19]⟩,
  ⟨(some 21), none, .idxs sz (.t 14) (.t 15)⟩,
  ⟨none, none, .store sz (.t 21) (.t 20)⟩])) (.reg [⟨(some 12), none, .mov (.t 4)⟩,
  ⟨(some 13), none, .bin .add (.num) (.t 12) (.c (.int .i64 1))⟩,
  ⟨(some 4), none, .mov (.t 13)⟩])))))) (.seq (.reg [⟨(some 22), none, .mov (.t 3)⟩,
  ⟨(some 2), none, .mov (.t 22)⟩]) (.ret))))

theorem toS_T0 (tab : TabOK P Θ) (hm : P.follows .mixedOrders = true) {F f : FuncId} {szs sz bytes : Nat} {z : List AV} (hE : Entry1 P Θ Γ F (toSC szs sz bytes z f) [.t 2] [u, u, u, u, u, u, u, u, u, u, u, u, u, u, u, u, u, u, u, u, u, u])
    {s : SH} {xs ys : List (List AV)} (hs : s.ok xs.length) (hlen : ys.length = xs.length) (hb : xs.length * (bytes + sz + 1) ≤ maxMade) (hz : z.length = sz) (hz' : z.all noLp = true)
    (hx : ∀ x ∈ xs, x.length = szs ∧ x.all noLp = true) (hy : ∀ y ∈ ys, y.length = sz ∧ y.all noLp = true) {h : AH}
    (hf : ∀ (i : Nat) (hi : i < xs.length) (H : AH), T P Γ f [.agg xs[i]] H fun v h' => v = .agg (ys[i]'(by omega)) ∧ h' = H) :
    T P Γ F [sl s szs xs] h fun v h' => v = .gs h.length 0 0 ys.length ys.length sz true ∧ h' = h ++ [some (0, ys.flatten)] := by
  have L0 := len_sl (sz := szs) hs
  generalize e0 : sl s szs xs = a0 at *
  have hml : xs.length ≤ maxMade := Nat.le_trans (Nat.le_mul_of_pos_right _ (by omega)) hb
  have hmx : maxMade = 1099511627776 := rfl
  refine hE (aw_sound tab hm [] _ _ _ ?_)
  unfold toSC
  simp only [EV, EL, L0]
  rw [mks_ok _ _ _ _ _ _ hb hz']
  simp only [EV, EL]
  refine loopI tab hm [] (fun k : Nat => k ≤ xs.length) (fun k => xs.length - k)
    (fun k => ⟨[a0, .any, .any, .gs h.length 0 0 xs.length xs.length sz true, .int .i64 k, .any, .any, .any, .any, .any, .any, .any, .any, .any, .any, .any, .any, .any, .any, .any, .any, .any, .any], [], h ++ [some (0, fillC ys z k)]⟩) 0 (by omega) ⟨by simp [LeL, LeV], rfl, by rw [fillC_0, hlen]⟩ ?_
  intro k hk
  simp only [EV, EL, L0]
  refine c_split (fun hlt => ?_) (fun hge => ?_)
  · have hlt : k < xs.length := by simpa using hlt
    have hlt' : k < ys.length := by omega
    have i0 := idx_sl (sz := szs) hs hlt
    rw [e0] at i0
    have hxk := hx _ (List.getElem_mem hlt)
    have hyk := hy _ (List.getElem_mem hlt')
    have hl := fillC_len (xs := ys) (z := z) (sz := sz) (k := k) (fun l hl => (hy l hl).1) hz (by omega)
    have hst := fillC_step (xs := ys) (z := z) (sz := sz) (k := k) (fun l hl => (hy l hl).1) hz hlt'
    have hel := load_el (agg := true) (sz := szs) (x := xs[k]) ⟨hxk.1, .inl rfl⟩
    simp only [EV, EL, i0, hel]
    refine TCall.val (by simp only [EO, elV, if_true, hxk.2]) (hf k hlt _) ?_
    simp only [EV, EL, idx_gs hlt]
    rw [st_1 _ _ _ _ hyk.1, Nat.zero_add, store_last (by rw [hl, hyk.1, ← Nat.succ_mul]; exact Nat.mul_le_mul_right _ hlt') hyk.2, hst]
    simp only [EV, EL]
    refine ⟨k + 1, hlt, by omega, ⟨?_, rfl, rfl⟩⟩
    rw [wN (by omega)]
    simp [LeL, LeV]
  · have hge : k = xs.length := by simp at hge; omega
    simp only [EV, EL]
    refine ⟨rfl, by rw [hlen], ?_⟩
    rw [hge, ← hlen, fillC_n]

theorem toS_T (tab : TabOK P Θ) (hm : P.follows .mixedOrders = true) {F f : FuncId} {szs sz bytes : Nat} {z : List AV} (hE : Entry1 P Θ Γ F (toSC szs sz bytes z f) [.t 2] [u, u, u, u, u, u, u, u, u, u, u, u, u, u, u, u, u, u, u, u, u, u])
    {s : SH} {xs ys : List (List AV)} (hs : s.ok xs.length) (hlen : ys.length = xs.length) (hb : xs.length * (bytes + sz + 1) ≤ maxMade) (hz : z.length = sz) (hz' : z.all noLp = true)
    (hx : ∀ x ∈ xs, x.length = szs ∧ x.all noLp = true) (hy : ∀ y ∈ ys, y.length = sz ∧ y.all noLp = true) {h : AH} (ho : ∀ y ∈ ys, ∀ x ∈ y, PV x)
    (hf : ∀ (i : Nat) (hi : i < xs.length) (H : AH), T P Γ f [.agg xs[i]] H fun v h' => v = .agg (ys[i]'(by omega)) ∧ h' = H) :
    T P Γ F [sl s szs xs] h fun v h' => v = sl (.v false true) sz ys ∧ h' = h := by
  refine (toS_T0 tab hm hE hs hlen hb hz hz' hx hy hf (h := h)).freeze ?_
  rintro v h' ⟨rfl, rfl⟩
  refine ⟨h, _, _, rfl, rfl, fun b g cs hb => .inl hb, ?_, rfl, rfl⟩
  exact frz_flat (Nat.le_refl _) (by simp) (fun l hl => (hy l hl).1) (fun l hl x hx => (ho l hl x hx).ob _)

/-! ### Comparing -/
def eqSos (sz : Nat) (f : FuncId) : List O := [⟨(some 17), none, .mov (.t 0)⟩,
  ⟨(some 18), none, .mov (.t 5)⟩,
  ⟨(some 19), none, .idxs sz (.t 17) (.t 18)⟩,
  ⟨(some 20), none, .load sz true (.t 19)⟩,
  ⟨(some 21), none, .mov (.t 1)⟩,
  ⟨(some 22), none, .mov (.t 5)⟩,
  ⟨(some 23), none, .idxs sz (.t 21) (.t 22)⟩,
  ⟨(some 24), none, .load sz true (.t 23)⟩,
  ⟨(some 25), none, .call (.c (.fn f [] [])) [.t 20, .t 24]⟩,
  ⟨(some 26), none, .un .not (.t 25)⟩]
def eqSaf : List (List Nat) := [[], [], [0, 1], [2], [], [], [4, 5], [6], [3, 7], [8]]
theorem eqS_q (sz : Nat) (f : FuncId) (gl : Gl) (Q : AE → St → Prop) (s : St) : aw P Θ Γ gl (.regD (eqSos sz f) eqSaf) Q s = awpT P Γ gl [⟨(some 17), none, .mov (.t 0)⟩,
  ⟨(some 18), none, .mov (.t 5)⟩,
  ⟨(some 19), none, .idxs sz (.t 17) (.t 18)⟩,
  ⟨(some 20), none, .load sz true (.t 19)⟩,
  ⟨(some 21), none, .mov (.t 1)⟩,
  ⟨(some 22), none, .mov (.t 5)⟩,
  ⟨(some 23), none, .idxs sz (.t 21) (.t 22)⟩,
  ⟨(some 24), none, .load sz true (.t 23)⟩,
  ⟨(some 25), none, .call (.c (.fn f [] [])) [.t 20, .t 24]⟩,
  ⟨(some 26), none, .un .not (.t 25)⟩] (Q .normal) 10 (.q 0 (.q 1 (.q 2 (.q 3 (.q 4 (.q 5 (.q 6 (.q 7 (.q 8 (.q 9 (.done))))))))))) s := a_dd rfl (by kernel_rfl) gl Q s

def eqSC (sz : Nat) (f : FuncId) : C := .seq (.reg [⟨(some 4), none, .mov (.c (.bool false))⟩]) (.seq (.seq (.reg [⟨(some 6), none, .mov (.t 0)⟩,
  ⟨(some 7), none, .len false (.t 6)⟩,
  ⟨(some 8), none, .mov (.t 1)⟩,
  ⟨(some 9), none, .len false (.t 8)⟩,
  ⟨(some 10), none, .bin .neq (.num) (.t 7) (.t 9)⟩]) (.cond (.t 10) (.seq (.reg [⟨(some 4), none, .mov (.c (.bool false))⟩]) (.ret)) (.skip))) (.seq (.seq (.reg [⟨(some 5), none, .mov (.c (.int .i64 0))⟩]) (.block 0 (.loop (.seq (.seq (.reg [⟨(some 11), none, .mov (.t 5)⟩,
  ⟨(some 12), none, .mov (.t 0)⟩,
  ⟨(some 13), none, .len false (.t 12)⟩,
  ⟨(some 14), none, .bin .lss (.num) (.t 11) (.t 13)⟩]) (.cond (.t 14) (.skip) (.exit 0))) (.seq (.block 1 (.seq (.regD (eqSos sz f) eqSaf) (.cond (.t 26) (.seq (.reg [⟨(some 4), none, .mov (.c (.bool false))⟩]) (.ret)) (.skip)))) (.reg [⟨(some 15), none, .mov (.t 5)⟩,
  ⟨(some 16), none, .bin .add (.num) (.t 15) (.c (.int .i64 1))⟩,
  ⟨(some 5), none, .mov (.t 16)⟩])))))) (.seq (.reg [⟨(some 4), none, .mov (.c (.bool true))⟩]) (.ret))))

/-- Alike, element by element. -/
def all2 (p : List AV → List AV → Bool) : List (List AV) → List (List AV) → Bool
  | [], [] => true
  | x :: xs, y :: ys => p x y && all2 p xs ys
  | _, _ => false

theorem all2_len {p : List AV → List AV → Bool} : ∀ {xs ys : List (List AV)}, xs.length ≠ ys.length → all2 p xs ys = false
  | [], [], h => absurd rfl h
  | x :: xs, y :: ys, h => by simp [all2, all2_len (p := p) (xs := xs) (ys := ys) (by simpa using h)]
  | [], _ :: _, _ => rfl
  | _ :: _, [], _ => rfl
theorem all2_true {p : List AV → List AV → Bool} : ∀ {xs ys : List (List AV)}, xs.length = ys.length → (∀ (i : Nat) (h1 : i < xs.length) (h2 : i < ys.length), p xs[i] ys[i] = true) → all2 p xs ys = true
  | [], [], _, _ => rfl
  | x :: xs, y :: ys, h, hp => by
    have h0 := hp 0 (by simp) (by simp)
    simp at h0
    simp only [all2, h0, Bool.true_and]
    exact all2_true (by simpa using h) (fun i h1 h2 => by have := hp (i + 1) (by simpa using h1) (by simpa using h2); rwa [List.getElem_cons_succ, List.getElem_cons_succ] at this)
theorem all2_false {p : List AV → List AV → Bool} : ∀ {xs ys : List (List AV)} (i : Nat) (h1 : i < xs.length) (h2 : i < ys.length), p xs[i] ys[i] = false → all2 p xs ys = false
  | x :: xs, y :: ys, 0, _, _, h => by simp at h; simp [all2, h]
  | x :: xs, y :: ys, i + 1, h1, h2, h => by simp only [all2, all2_false (xs := xs) (ys := ys) i (by simpa using h1) (by simpa using h2) (by rwa [List.getElem_cons_succ, List.getElem_cons_succ] at h), Bool.and_false]

theorem eqS_T (tab : TabOK P Θ) (hm : P.follows .mixedOrders = true) {F f : FuncId} {sz : Nat} (hE : Entry2 P Θ Γ F (eqSC sz f) [.t 4] [u, u, u, u, u, u, u, u, u, u, u, u, u, u, u, u, u, u, u, u, u, u, u, u, u])
    {s0 s1 : SH} {xs ys : List (List AV)} (h0 : s0.ok xs.length) (h1 : s1.ok ys.length) (hb : xs.length < 1099511627776) (hx : ∀ x ∈ xs, x.length = sz ∧ x.all noLp = true) (hy : ∀ y ∈ ys, y.length = sz ∧ y.all noLp = true) (p : List AV → List AV → Bool) {h : AH}
    (hf : ∀ x ∈ xs, ∀ y ∈ ys, T P Γ f [.agg x, .agg y] h fun v h' => v = .bool (p x y) ∧ h' = h) :
    T P Γ F [sl s0 sz xs, sl s1 sz ys] h fun v h' => v = .bool (all2 p xs ys) ∧ h' = h := by
  have L0 := len_sl (sz := sz) h0
  have L1 := len_sl (sz := sz) h1
  generalize e0 : sl s0 sz xs = a0 at *
  generalize e1 : sl s1 sz ys = a1 at *
  refine hE (aw_sound tab hm [] _ _ _ ?_)
  unfold eqSC
  simp only [EV, EL, L0, L1]
  refine c_split (fun hne => ?_) (fun heq => ?_)
  · simp only [EV, EL]
    exact ⟨rfl, by rw [all2_len (fun e => by rw [e] at hne; simp at hne)]⟩
  have hl : xs.length = ys.length := by simp at heq; omega
  simp only [EV, EL]
  refine loopI tab hm [] (fun k : Nat => k ≤ xs.length ∧ ∀ (i : Nat) (h1 : i < xs.length) (h2 : i < ys.length), i < k → p xs[i] ys[i] = true) (fun k => xs.length - k)
    (fun k => ⟨[a0, a1, .any, .any, .any, .int .i64 k, .any, .any, .any, .any, .any, .any, .any, .any, .any, .any, .any, .any, .any, .any, .any, .any, .any, .any, .any, .any, .any], [], h⟩) 0 ⟨by omega, fun i _ _ h => by omega⟩ ⟨by simp [LeL, LeV], rfl, rfl⟩ ?_
  rintro k ⟨hk, ht⟩
  simp only [EV, EL, L0]
  refine c_split (fun hlt => ?_) (fun hge => ?_)
  · have hlt : k < xs.length := by simpa using hlt
    have hlt' : k < ys.length := by omega
    have i0 := idx_sl (sz := sz) h0 hlt
    have i1 := idx_sl (sz := sz) h1 hlt'
    rw [e0] at i0
    rw [e1] at i1
    have hxk := hx _ (List.getElem_mem hlt)
    have hyk := hy _ (List.getElem_mem hlt')
    have l0 := load_el (agg := true) (sz := sz) (x := xs[k]) ⟨hxk.1, .inl rfl⟩
    have l1 := load_el (agg := true) (sz := sz) (x := ys[k]) ⟨hyk.1, .inl rfl⟩
    simp only [EV, EL, eqS_q, i0, i1, l0, l1, elV, if_true]
    refine TCall.val (by simp only [EO, hxk.2, hyk.2]) (hf _ (List.getElem_mem hlt) _ (List.getElem_mem hlt')) ?_
    simp only [EV, EL]
    cases hp : p xs[k] ys[k]
    · simp only [EV, EL, Bool.not_false]
      exact ⟨rfl, by rw [all2_false k hlt hlt' hp]⟩
    · simp only [EV, EL, Bool.not_true]
      refine ⟨k + 1, ⟨hlt, fun i g1 g2 hik => ?_⟩, by omega, ⟨?_, rfl, rfl⟩⟩
      · rcases Nat.lt_or_ge i k with g | g
        · exact ht i g1 g2 g
        · have : i = k := by omega
          subst this; exact hp
      · rw [wN (by omega)]
        simp [LeL, LeV]
  · have hge : k = xs.length := by simp at hge; omega
    simp only [EV, EL]
    exact ⟨rfl, by rw [all2_true hl (fun i g1 g2 => ht i g1 g2 (by omega))]⟩

end
end Go.AM
