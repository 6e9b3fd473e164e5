import Derived.Test.YtccjhmhkfnnmaaaGreatAmSz
set_option linter.unusedVariables false
set_option linter.unusedSimpArgs false
namespace Go.AM
section
variable {P : Program} {Θ : Tab} {Γ : Glob}
def idxI {α : Type} (p : α → Bool) (l : List α) : Int := match l.findIdx? p with | some i => (i : Int) | none => -1
theorem idxI_cases {α : Type} (p : α → Bool) (l : List α) : (∃ (k : Nat) (hk : k < l.length), idxI p l = (k : Int) ∧ p l[k] = true ∧ l.find? p = some l[k]) ∨ (idxI p l = -1 ∧ l.find? p = none ∧ ∀ x ∈ l, p x = false) := by
  unfold idxI
  cases h : l.findIdx? p with
  | none =>
    rw [List.findIdx?_eq_none_iff] at h
    exact .inr ⟨rfl, by rw [List.find?_eq_none]; intro x hx; simp [h x hx], fun x hx => h x hx⟩
  | some i =>
    obtain ⟨hi, h1, h2⟩ := List.findIdx?_eq_some_iff_getElem.1 h
    refine .inl ⟨i, hi, rfl, h1, ?_⟩
    rw [List.find?_eq_some_iff_getElem]
    exact ⟨h1, i, hi, rfl, fun j hj => by simpa using h2 j hj⟩
theorem idxI_at {α : Type} {p : α → Bool} {l : List α} {k : Nat} (hk : k < l.length) (h0 : ∀ (i : Nat) (hi : i < l.length), i < k → p l[i] = false) (h1 : p l[k] = true) : idxI p l = (k : Int) := by
  unfold idxI
  rw [List.findIdx?_eq_some_iff_getElem.2 ⟨hk, h1, fun j hj => by simp [h0 j (by omega) hj]⟩]
theorem idxI_none {α : Type} {p : α → Bool} {l : List α} (h : ∀ (i : Nat) (hi : i < l.length), p l[i] = false) : idxI p l = -1 := by
  unfold idxI
  rw [List.findIdx?_eq_none_iff.2]
  intro x hx
  obtain ⟨i, hi, rfl⟩ := List.mem_iff_getElem.1 hx
  exact h i hi
theorem indexFunc_D {α : Type} (tab : TabOK P Θ) (hm : P.follows .mixedOrders = true) {f : FuncId} {sz : Nat} {agg : Bool} (hE : Entry2 P Θ Γ f (indexFuncC sz agg) [.t 4] [u, u, u, u, u, u, u, u, u, u, u, u, u, u, u, u, u])
    {β : Bool} {l : List α} {c : α → List AV} (hb : l.length < 1099511627776) (hx : ∀ x, elOK agg sz (c x) ∧ out1 (elV agg (c x)) = true) {g : FuncId} {first caps : List AV} (hc : (first ++ caps).all out1 = true) (p : α → Bool) {h : AH}
    (hp : ∀ x ∈ l, T P Γ g (first ++ ([elV agg (c x)] ++ caps)) h fun v h' => v = .bool (p x) ∧ h' = h) :
    T P Γ f [.vs β sz false (l.map c), .fn g first caps] h fun v h' => v = .int .i64 (idxI p l) ∧ h' = h := by
  have L0 := len_vm β sz false l c
  generalize e0 : AV.vs β sz false (l.map c) = a0 at *
  refine hE (aw_sound tab hm [] _ _ _ ?_)
  unfold indexFuncC
  simp only [EV, EL, L0]
  refine loopI tab hm [] (fun k : Nat => k ≤ l.length ∧ ∀ (i : Nat) (hi : i < l.length), i < k → p l[i] = false) (fun k => l.length - k)
    (fun k => ⟨[a0, .fn g first caps, .any, .any, .any, .any, .any, .int .i64 l.length, .int .i64 k, .any, .any, .any, .any, .any, .any, .any, .any, .any, .any], [], h⟩) 0 ⟨by omega, fun i hi h => by omega⟩ ⟨by simp [LeL, LeV], rfl, rfl⟩ ?_
  rintro k ⟨hk, ht⟩
  simp only [EV, EL]
  refine c_split (fun hlt => ?_) (fun hge => ?_)
  · have hlt : k < l.length := by simpa using hlt
    have i0 := idx_vm (β := β) (sz := sz) (ex := false) (ce := c) hlt
    rw [e0] at i0
    simp only [EV, EL, i0, load_el (hx l[k]).1]
    refine TCall.val ?_ (hp _ (List.getElem_mem hlt)) ?_
    · simp only [List.all_append, List.all_cons, List.all_nil, Bool.and_true, Bool.and_eq_true] at hc ⊢
      exact ⟨hc.1, (hx l[k]).2, hc.2⟩
    simp only [EV, EL]
    refine c_split (fun hpt => ?_) (fun hpf => ?_)
    · simp only [EV, EL]
      exact ⟨rfl, by rw [idxI_at hlt ht hpt]⟩
    · simp only [EV, EL]
      refine ⟨k + 1, ⟨hlt, fun i hi hik => ?_⟩, by omega, ⟨?_, rfl, rfl⟩⟩
      · rcases Nat.lt_or_ge i k with h1 | h1
        · exact ht i hi h1
        · have : i = k := by omega
          subst this; exact hpf
      · rw [wN (by omega)]
        simp [LeL, LeV]
  · have hge : k = l.length := by simp at hge; omega
    simp only [EV, EL]
    exact ⟨rfl, by rw [idxI_none (fun i hi => ht i hi (by omega))]⟩
def flatEqos (sz : Nat) (agg : Bool) (ek : EK) : List O := [⟨(some 17), none, .mov (.t 0)⟩,
  ⟨(some 18), none, .mov (.t 5)⟩,
  ⟨(some 19), none, .idxs sz (.t 17) (.t 18)⟩,
  ⟨(some 20), none, .load sz agg (.t 19)⟩,
  ⟨(some 21), none, .mov (.t 1)⟩,
  ⟨(some 22), none, .mov (.t 5)⟩,
  ⟨(some 23), none, .idxs sz (.t 21) (.t 22)⟩,
  ⟨(some 24), none, .load sz agg (.t 23)⟩,
  ⟨(some 25), none, .bin .neq ek (.t 20) (.t 24)⟩]
def flatEqaf : List (List Nat) := [[], [], [0, 1], [2], [], [], [4, 5], [6], [3, 7]]
theorem flatEq_q (sz : Nat) (agg : Bool) (ek : EK) (gl : Gl) (Q : AE → St → Prop) (s : St) : aw P Θ Γ gl (.regD (flatEqos sz agg ek) flatEqaf) Q s = awpOps P Γ gl [⟨(some 17), none, .mov (.t 0)⟩,
  ⟨(some 18), none, .mov (.t 5)⟩,
  ⟨(some 19), none, .idxs sz (.t 17) (.t 18)⟩,
  ⟨(some 20), none, .load sz agg (.t 19)⟩,
  ⟨(some 21), none, .mov (.t 1)⟩,
  ⟨(some 22), none, .mov (.t 5)⟩,
  ⟨(some 23), none, .idxs sz (.t 21) (.t 22)⟩,
  ⟨(some 24), none, .load sz agg (.t 23)⟩,
  ⟨(some 25), none, .bin .neq ek (.t 20) (.t 24)⟩] [⟨(some 17), none, .mov (.t 0)⟩,
  ⟨(some 18), none, .mov (.t 5)⟩,
  ⟨(some 19), none, .idxs sz (.t 17) (.t 18)⟩,
  ⟨(some 20), none, .load sz agg (.t 19)⟩,
  ⟨(some 21), none, .mov (.t 1)⟩,
  ⟨(some 22), none, .mov (.t 5)⟩,
  ⟨(some 23), none, .idxs sz (.t 21) (.t 22)⟩,
  ⟨(some 24), none, .load sz agg (.t 23)⟩,
  ⟨(some 25), none, .bin .neq ek (.t 20) (.t 24)⟩] (Q .normal) s := a_dq (by kernel_rfl) gl Q s
def flatEqC (sz : Nat) (agg : Bool) (ek : EK) : C := .seq (.reg [⟨(some 4), none, .mov (.c (.bool false))⟩]) (.seq (.seq (.reg [⟨(some 6), none, .mov (.t 0)⟩,
  ⟨(some 7), none, .len false (.t 6)⟩,
  ⟨(some 8), none, .mov (.t 1)⟩,
  ⟨(some 9), none, .len false (.t 8)⟩,
  ⟨(some 10), none, .bin .neq (.num) (.t 7) (.t 9)⟩]) (.cond (.t 10) (.seq (.reg [⟨(some 4), none, .mov (.c (.bool false))⟩]) (.ret)) (.skip))) (.seq (.seq (.reg [⟨(some 5), none, .mov (.c (.int .i64 0))⟩]) (.block 0 (.loop (.seq (.seq (.reg [⟨(some 11), none, .mov (.t 5)⟩,
  ⟨(some 12), none, .mov (.t 0)⟩,
  ⟨(some 13), none, .len false (.t 12)⟩,
  ⟨(some 14), none, .bin .lss (.num) (.t 11) (.t 13)⟩]) (.cond (.t 14) (.skip) (.exit 0))) (.seq (.block 1 (.seq (.regD (flatEqos sz agg ek) flatEqaf) (.cond (.t 25) (.seq (.reg [⟨(some 4), none, .mov (.c (.bool false))⟩]) (.ret)) (.skip)))) (.reg [⟨(some 15), none, .mov (.t 5)⟩,
  ⟨(some 16), none, .bin .add (.num) (.t 15) (.c (.int .i64 1))⟩,
  ⟨(some 5), none, .mov (.t 16)⟩])))))) (.seq (.reg [⟨(some 4), none, .mov (.c (.bool true))⟩]) (.ret))))
theorem flatEq_D {α : Type} [DecidableEq α] (tab : TabOK P Θ) (hm : P.follows .mixedOrders = true) {f : FuncId} {sz : Nat} {agg : Bool} {ek : EK}
    (hE : Entry2 P Θ Γ f (flatEqC sz agg ek) [.t 4] [u, u, u, u, u, u, u, u, u, u, u, u, u, u, u, u, u, u, u, u, u, u, u, u])
    {β β' : Bool} {l m : List α} {c c' : α → List AV} (hb : l.length < 1099511627776) (hx : ∀ x, elOK agg sz (c x)) (hy : ∀ x, elOK agg sz (c' x))
    (he : ∀ x y, aBin .neq ek (elV agg (c x)) (elV agg (c' y)) = some (.bool !decide (x = y))) {h : AH} :
    T P Γ f [.vs β sz false (l.map c), .vs β' sz false (m.map c')] h fun v h' => v = .bool (decide (l = m)) ∧ h' = h := by
  have L0 := len_vm β sz false l c
  have L1 := len_vm β' sz false m c'
  generalize e0 : AV.vs β sz false (l.map c) = a0 at *
  generalize e1 : AV.vs β' sz false (m.map c') = a1 at *
  refine hE (aw_sound tab hm [] _ _ _ ?_)
  unfold flatEqC
  simp only [EV, EL, L0, L1]
  refine c_split (fun hne => ?_) (fun heq => ?_)
  · simp only [EV, EL]
    refine ⟨rfl, ?_⟩
    have hne : l.length ≠ m.length := by intro e; rw [e] at hne; simp at hne
    rw [decide_eq_false (fun e => hne (by rw [e]))]
  have hl : l.length = m.length := by simp at heq; omega
  simp only [EV, EL, L0]
  refine loopI tab hm [] (fun k : Nat => k ≤ l.length ∧ ∀ (i : Nat) (h1 : i < l.length) (h2 : i < m.length), i < k → l[i] = m[i]) (fun k => l.length - k)
    (fun k => ⟨[a0, a1, .any, .any, .any, .int .i64 k, .any, .any, .any, .any, .any, .any, .any, .any, .any, .any, .any, .any, .any, .any, .any, .any, .any, .any, .any, .any], [], h⟩) 0 ⟨by omega, fun i _ _ h => by omega⟩ ⟨by simp [LeL, LeV], rfl, rfl⟩ ?_
  rintro k ⟨hk, ht⟩
  simp only [EV, EL, L0]
  refine c_split (fun hlt => ?_) (fun hge => ?_)
  · have hlt : k < l.length := by simpa using hlt
    have hlt' : k < m.length := by omega
    have i0 := idx_vm (β := β) (sz := sz) (ex := false) (ce := c) hlt
    have i1 := idx_vm (β := β') (sz := sz) (ex := false) (ce := c') hlt'
    rw [e0] at i0
    rw [e1] at i1
    have hee := he l[k] m[k]
    simp only [EV, EL, flatEq_q, i0, i1, load_el (hx l[k]), load_el (hy m[k]), hee]
    by_cases hp : l[k] = m[k]
    · simp only [EV, EL, hp, decide_true, Bool.not_true]
      refine ⟨k + 1, ⟨hlt, fun i g1 g2 hik => ?_⟩, by omega, ⟨?_, rfl, rfl⟩⟩
      · rcases Nat.lt_or_ge i k with g | g
        · exact ht i g1 g2 g
        · have : i = k := by omega
          subst this; exact hp
      · rw [wN (by omega)]
        simp [LeL, LeV]
    · simp only [EV, EL, decide_eq_false hp, Bool.not_false]
      refine ⟨rfl, ?_⟩
      rw [decide_eq_false (fun e => hp (by subst e; rfl))]
  · have hge : k = l.length := by simp at hge; omega
    simp only [EV, EL]
    refine ⟨rfl, ?_⟩
    rw [decide_eq_true (List.ext_getElem hl fun i g1 g2 => ht i g1 g2 (by omega))]
def bslK (s : St) (sz len : Nat) : Option (List AV) → AR | some cs => if cs.all noLp then .val (.gs s.heap.length 0 0 len len sz true) (s.push cs) else .stuck | none => .stuck
theorem p_bsl (gl : Bool) (s : St) (sz len : Nat) (z : List AV) (ps : List (Nat × X)) : step Γ gl s (.bsl sz len z ps) = bslK s sz len (fillA (List.replicate len z).flatten (ps.map fun p => (p.1 * sz, sz, s.eval Γ p.2))) := by
  simp only [step, bslK]; cases fillA _ _ <;> rfl
def appK (s : St) (sz bytes : Nat) (x : AV) : Option (List AV) → Option Nat → Option Nat → AR
  | some ys, some n, some m => .ofP (aApp s sz bytes x ys n m)
  | _, _, _ => .stuck
theorem p_app (gl : Bool) (s : St) (sz bytes : Nat) (z : List AV) (str : Bool) (x y : X) : step Γ gl s (.app sz bytes z str x y) = appK s sz bytes (s.eval Γ x) (srcCells s sz str (s.eval Γ y)) (lenOf (s.eval Γ y)) (lenOf (s.eval Γ x)) := by
  simp only [step, appK]; rfl
end
end Go.AM
namespace Go.AM
section
variable {P : Program} {Θ : Tab} {Γ : Glob}
def ovR : List AV → Nat → List AV → Option (List AV)
  | z, 0, [] => some z
  | _ :: z, 0, x :: vs => (ovR z 0 vs).map (x :: ·)
  | a :: z, n + 1, vs => (ovR z n vs).map (a :: ·)
  | [], 0, _ :: _ => none
  | [], _ + 1, _ => none
theorem ovR_over : ∀ (z : List AV) (o : Nat) (vs z' : List AV), ovR z o vs = some z' → o + vs.length ≤ z.length ∧ z' = over z o vs
  | z, 0, [], z', h => by simp [ovR] at h; subst h; simp [over]
  | a :: z, 0, x :: vs, z', h => by
    simp only [ovR, Option.map_eq_some_iff] at h
    obtain ⟨y, h1, rfl⟩ := h
    obtain ⟨h2, rfl⟩ := ovR_over z 0 vs y h1
    refine ⟨by simp at h2 ⊢; omega, ?_⟩
    simp [over]
  | a :: z, n + 1, vs, z', h => by
    simp only [ovR, Option.map_eq_some_iff] at h
    obtain ⟨y, h1, rfl⟩ := h
    obtain ⟨h2, rfl⟩ := ovR_over z n vs y h1
    refine ⟨by simp; omega, ?_⟩
    simp [over, show n + 1 + vs.length = (n + vs.length) + 1 by omega]
  | [], 0, _ :: _, _, h => by simp [ovR] at h
  | [], _ + 1, _, _, h => by simp [ovR] at h
theorem ov_0 (z : List AV) : ovR z 0 [] = some z := by cases z <;> rfl
theorem ov_c (a x : AV) (z vs : List AV) : ovR (a :: z) 0 (x :: vs) = (ovR z 0 vs).map (x :: ·) := rfl
theorem ov_s (a : AV) (z vs : List AV) (n : Nat) : ovR (a :: z) (n + 1) vs = (ovR z n vs).map (a :: ·) := rfl
def ovK (f : List AV → Option (List AV)) (alt : Option (List AV)) : Option (List AV) → Option (List AV) | some z => f z | none => alt
def fillAlt (z : List AV) (off : Nat) (cs : List AV) (rest : List (Nat × Nat × AV)) : Option (List AV) := if off + cs.length ≤ z.length then fillA (over z off cs) rest else none
def fillK (z : List AV) (off size : Nat) (rest : List (Nat × Nat × AV)) : Option (List AV) → Option (List AV)
  | some cs => if cs.length = size then fillAlt z off cs rest else none
  | none => none
theorem fl_n (z : List AV) : fillA z [] = some z := rfl
theorem fl_c (z : List AV) (off size : Nat) (v : AV) (rest : List (Nat × Nat × AV)) : fillA z ((off, size, v) :: rest) = fillK z off size rest (cellsOf v) := by
  simp only [fillA, fillK, fillAlt]; cases cellsOf v <;> rfl
theorem fl_k (z : List AV) (off size : Nat) (rest : List (Nat × Nat × AV)) (cs : List AV) : fillK z off size rest (some cs) = if cs.length = size then ovK (fun z' => fillA z' rest) (fillAlt z off cs rest) (ovR z off cs) else none := by
  simp only [fillK]
  split
  · cases h : ovR z off cs with
    | none => rfl
    | some z' =>
      obtain ⟨h1, h2⟩ := ovR_over _ _ _ _ h
      simp only [fillAlt, if_pos h1, ovK, h2]
  · rfl
theorem ovk_s (f : List AV → Option (List AV)) (alt : Option (List AV)) (z : List AV) : ovK f alt (some z) = f z := rfl
theorem p_build (gl : Bool) (s : St) (z : List AV) (ps : List (Nat × Nat × X)) : step Γ gl s (.build z ps) = .ofO s ((fillA z (ps.map fun p => (p.1, p.2.1, s.eval Γ p.2.2))).map .agg) := rfl
theorem bm_n {α β : Type} (f : α → β) : List.map f [] = [] := rfl
theorem bm_c {α β : Type} (f : α → β) (x : α) (xs : List α) : List.map f (x :: xs) = f x :: List.map f xs := rfl
theorem bslK_s (e : List AV) (l : List (List AV)) (h : AH) (sz len : Nat) (cs : List AV) (hc : cs.all noLp = true) : bslK ⟨e, l, h⟩ sz len (some cs) = .val (.gs h.length 0 0 len len sz true) ⟨e, l, h ++ [some (0, cs)]⟩ := by simp [bslK, hc, St.push]
theorem beq_dec (a b : Int) : (a == b) = decide (a = b) := by by_cases h : a = b <;> simp [h]
theorem step_lt {α : Type} {l : List α} {P : α → Prop} {k : Nat} {hk : k < l.length} (h : ∀ (i : Nat) (hi : i < l.length), i < k → P l[i]) (hp : P l[k]) : ∀ (i : Nat) (hi : i < l.length), i < k + 1 → P l[i] := by
  intro i hi hik
  rcases Nat.lt_or_ge i k with g | g
  · exact h i hi g
  · have : i = k := by omega
    subst this; exact hp
def fldP (p : AV) (off : Nat) : AV := match p with | .gp b g o => .gp b g (o + off) | .ip β cs => .ip β (cs.drop off) | x => x
structure Ptr (H : AH) (p : AV) (cs : List AV) : Prop where
  nil : isNil p = some false
  out : out1 p = true
  n1 : noLp1 p = true
  fld : ∀ off, aFld off p = some (fldP p off)
  rd : ∀ (e : List AV) (l : List (List AV)) (off n : Nat), off + (n + 1) ≤ cs.length → (St.mk e l H).cells (fldP p off) (n + 1) = sub cs off (n + 1)
  rd0 : ∀ (e : List AV) (l : List (List AV)) (n : Nat), n + 1 ≤ cs.length → (St.mk e l H).cells p (n + 1) = sub cs 0 (n + 1)
theorem Ptr.ip (H : AH) (β : Bool) (cs : List AV) : Ptr H (.ip β cs) cs := by
  refine ⟨rfl, rfl, rfl, fun _ => rfl, fun e l off n hn => ?_, fun e l n hn => rfl⟩
  simp only [fldP, St.cells, sub, Nat.zero_add, List.length_drop, List.drop_zero]
  rw [if_pos (by omega), if_pos hn]
theorem Ptr.gp {H : AH} {b g o : Nat} {cells cs : List AV} (h : hget H b = some (g, cells)) (hc : ∀ n, n ≤ cs.length → ∀ off, off + n ≤ cs.length → sub cells (o + off) n = sub cs off n) : Ptr H (.gp b g o) cs := by
  refine ⟨rfl, rfl, rfl, fun _ => rfl, fun e l off n hn => ?_, fun e l n hn => ?_⟩
  · simp only [fldP, St.cells, h, Option.bind_some, if_true]; exact hc _ (by omega) off hn
  · simp only [St.cells, h, Option.bind_some, if_true]; simpa using hc _ hn 0 (by omega)
theorem Ptr.gp0 {H : AH} {b g : Nat} {cs : List AV} (h : hget H b = some (g, cs)) : Ptr H (.gp b g 0) cs := Ptr.gp h (fun n _ off _ => by rw [Nat.zero_add])
def chkK (s : St) (v : AV) : Option Bool → AR | some false => .val v s | _ => .stuck
theorem p_nilchk (gl : Bool) (s : St) (x : X) : step Γ gl s (.nilchk x) = chkK s (s.eval Γ x) (isNil (s.eval Γ x)) := by
  simp only [step, chkK]; split <;> simp_all
theorem chk_f (s : St) (v : AV) : chkK s v (some false) = .val v s := rfl
theorem isNil_ip (β : Bool) (cs : List AV) : isNil (.ip β cs) = some false := rfl
theorem isNil_gp (b g o : Nat) : isNil (.gp b g o) = some false := rfl
theorem isNil_lp (i o : Nat) : isNil (.lp i o) = some false := rfl
theorem pe_nn : aBin .eql .nilp .nilp .nilp = some (.bool true) := rfl
theorem pe_ip (β : Bool) (cs : List AV) : aBin .eql .nilp (.ip β cs) .nilp = some (.bool false) := rfl
theorem pe_gp (b g o : Nat) : aBin .eql .nilp (.gp b g o) .nilp = some (.bool false) := rfl
theorem pn_nn : aBin .neq .nilp .nilp .nilp = some (.bool false) := rfl
theorem pn_ip (β : Bool) (cs : List AV) : aBin .neq .nilp (.ip β cs) .nilp = some (.bool true) := rfl
theorem pn_gp (b g o : Nat) : aBin .neq .nilp (.gp b g o) .nilp = some (.bool true) := rfl
theorem co_ip (β : Bool) (cs : List AV) : cellsOf (.ip β cs) = some [.ip β cs] := rfl
theorem co_gp (b g o : Nat) : cellsOf (.gp b g o) = some [.gp b g o] := rfl
theorem ic_vs (β : Bool) (sz : Nat) (ex : Bool) (xs : List (List AV)) : isCell (.vs β sz ex xs) = true := rfl
theorem ic_ip (β : Bool) (cs : List AV) : isCell (.ip β cs) = true := rfl
theorem ic_gp (b g o : Nat) : isCell (.gp b g o) = true := rfl
theorem ic_np : isCell .nilp = true := rfl
theorem ic_ns : isCell .nils = true := rfl
end
theorem EF : type_of% (And.intro @ov_0 (And.intro @ov_c (And.intro @ov_s (And.intro @fl_n (And.intro @fl_c (And.intro @fl_k (And.intro @ovk_s (And.intro @p_build (And.intro @bm_n (And.intro @bm_c (And.intro @p_bsl (((((And.intro @p_nilchk (And.intro @chk_f (And.intro @isNil_ip (And.intro @isNil_gp (And.intro @isNil_lp (And.intro @pe_nn (And.intro @pe_ip (And.intro @pe_gp (And.intro @pn_nn (And.intro @pn_ip (And.intro @pn_gp (And.intro @co_ip (And.intro @co_gp (And.intro @ic_vs (And.intro @ic_ip (And.intro @ic_gp (And.intro @ic_np (@ic_ns))))))))))))))))))))))))))))))))) := And.intro @ov_0 (And.intro @ov_c (And.intro @ov_s (And.intro @fl_n (And.intro @fl_c (And.intro @fl_k (And.intro @ovk_s (And.intro @p_build (And.intro @bm_n (And.intro @bm_c (And.intro @p_bsl (((((And.intro @p_nilchk (And.intro @chk_f (And.intro @isNil_ip (And.intro @isNil_gp (And.intro @isNil_lp (And.intro @pe_nn (And.intro @pe_ip (And.intro @pe_gp (And.intro @pn_nn (And.intro @pn_ip (And.intro @pn_gp (And.intro @co_ip (And.intro @co_gp (And.intro @ic_vs (And.intro @ic_ip (And.intro @ic_gp (And.intro @ic_np (@ic_ns))))))))))))))))))))))))))))))))
theorem EZ : type_of% (And.intro EV (And.intro EL (And.intro EB (And.intro EF (And.intro @Bool.false_eq_true (And.intro @Bool.not_true (@Bool.not_false))))))) := And.intro EV (And.intro EL (And.intro EB (And.intro EF (And.intro @Bool.false_eq_true (And.intro @Bool.not_true (@Bool.not_false))))))
end Go.AM
