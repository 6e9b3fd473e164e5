import Derived.Test.YtccjhmhkfnnmaaaGreatAmData
set_option linter.unusedVariables false
set_option linter.unusedSimpArgs false
namespace Go.AM
section
variable {P : Program} {Θ : Tab} {Γ : Glob}
theorem len_vm {α : Type} (β : Bool) (sz : Nat) (ex : Bool) (l : List α) (ce : α → List AV) : lenI false (.vs β sz ex (l.map ce)) = some (.int .i64 l.length) := by simp [lenI, lenK]
theorem idx_vm {α : Type} {β : Bool} {sz : Nat} {ex : Bool} {l : List α} {ce : α → List AV} {k : Nat} (hk : k < l.length) : aIdxs sz (.vs β sz ex (l.map ce)) (k : Int) = some (.ip β (ce l[k])) := by
  simp [aIdxs, hk]
theorem sub_all {cs : List AV} {n : Nat} (h : cs.length = n) : sub cs 0 n = some cs := by subst h; simp [sub]
theorem Own.cell {h : AH} {a : AV} {d : CD} {fp : List Nat} (o : Own h a d fp) : cellsOf a = some [a] ∧ Go.AM.isCell a = true ∧ Go.AM.noLp a = true ∧ out1 a = true := by
  cases o <;> exact ⟨rfl, rfl, rfl, rfl⟩
theorem Fresh.one {h h' : AH} {d : CD} {v : AV} (f : Fresh h [.c d] v h') : ∃ new fp, h' = h ++ new ∧ Own h' v d fp ∧ fp.Nodup ∧ ∀ b ∈ fp, h.length ≤ b := by
  obtain ⟨vs, new, fp, rfl, rfl, o, nd, hb, _⟩ := f
  match vs, o with
  | [v], ⟨f1, f2, e, o1, o2⟩ =>
    have : f2 = [] := o2
    subst this
    simp only [List.append_nil] at e
    subst e
    exact ⟨new, _, rfl, o1, nd, hb⟩
theorem Fresh.oneA {h h' : AH} {cs : List CD} {v : AV} (f : Fresh h [.a cs] v h') : ∃ as new fp, v = .agg as ∧ h' = h ++ new ∧ OwnL h' as cs fp ∧ fp.Nodup ∧ ∀ b ∈ fp, h.length ≤ b := by
  obtain ⟨vs, new, fp, rfl, rfl, o, nd, hb, _⟩ := f
  match vs, o with
  | [v], ⟨f1, f2, e, o1, o2⟩ =>
    have : f2 = [] := o2
    subst this
    simp only [List.append_nil] at e
    subst e
    obtain ⟨as, rfl, o1⟩ := o1
    exact ⟨as, new, _, rfl, rfl, o1, nd, hb⟩
theorem T.freshC {f : FuncId} {args : List AV} {h : AH} {d : CD} (t : T P Γ f args h fun v h' => ∃ new fp, h' = h ++ new ∧ Own h' v d fp ∧ fp.Nodup ∧ ∀ b ∈ fp, h.length ≤ b) : T P Γ f args h (Fresh h [.c d]) :=
  t.fresh fun v h' ⟨new, fp, e, o, nd, hb⟩ => ⟨[v], new, fp, rfl, e, ⟨fp, [], by simp, o, rfl⟩, nd, hb⟩
theorem T.freshA {f : FuncId} {args : List AV} {h : AH} {cs : List CD} (t : T P Γ f args h fun v h' => ∃ as new fp, v = .agg as ∧ h' = h ++ new ∧ OwnL h' as cs fp ∧ fp.Nodup ∧ ∀ b ∈ fp, h.length ≤ b) : T P Γ f args h (Fresh h [.a cs]) :=
  t.fresh fun v h' ⟨as, new, fp, e, e', o, nd, hb⟩ => ⟨[v], new, fp, rfl, e', ⟨fp, [], by simp, ⟨as, e, o⟩, rfl⟩, nd, hb⟩
theorem T.valA {f : FuncId} {args : List AV} {h : AH} {cs : List CD} (t : T P Γ f args h (Fresh h [.a cs])) : T P Γ f args h fun v h' => v = .agg (cs.map (CD.av false)) ∧ h' = h := t.frozen
theorem OwnL.nil {h : AH} : OwnL h [] [] [] := rfl
theorem OwnL.i {h : AH} {k : IntKind} {n : Int} {as : List AV} {ds : List CD} {fp : List Nat} (o : OwnL h as ds fp) : OwnL h (.int k n :: as) (.i k n :: ds) fp := ⟨[], fp, rfl, .i _ _, o⟩
theorem OwnL.b {h : AH} {x : Bool} {as : List AV} {ds : List CD} {fp : List Nat} (o : OwnL h as ds fp) : OwnL h (.bool x :: as) (.b x :: ds) fp := ⟨[], fp, rfl, .b _, o⟩
theorem OwnL.s {h : AH} {x : ByteArray} {as : List AV} {ds : List CD} {fp : List Nat} (o : OwnL h as ds fp) : OwnL h (.str x :: as) (.s x :: ds) fp := ⟨[], fp, rfl, .s _, o⟩
theorem OwnL.o {h : AH} {a : AV} {d : CD} {as : List AV} {ds : List CD} {f1 f2 : List Nat} (o1 : Own h a d f1) (o : OwnL h as ds f2) : OwnL h (a :: as) (d :: ds) (f1 ++ f2) := ⟨f1, f2, rfl, o1, o⟩
theorem nodup_app {f1 f2 : List Nat} {n : Nat} (h1 : f1.Nodup) (h2 : f2.Nodup) (l1 : ∀ b ∈ f1, b < n) (l2 : ∀ b ∈ f2, n ≤ b) : (f1 ++ f2).Nodup := by
  rw [List.nodup_append]
  exact ⟨h1, h2, fun a ha b hb => by have := l1 a ha; have := l2 b hb; omega⟩
theorem hget_mid (h t : AH) (x : Nat × List AV) : hget (h ++ some x :: t) h.length = some x := by simp [hget]
theorem set_mid (h t : AH) (x y : Option (Nat × List AV)) : (h ++ x :: t).set h.length y = h ++ y :: t := by simp
theorem mid_ne {h t : AH} {x y : Option (Nat × List AV)} {b : Nat} (hb : b ≠ h.length) : (h ++ x :: t)[b]? = (h ++ y :: t)[b]? := by
  rcases Nat.lt_or_ge b h.length with h1 | h1
  · rw [List.getElem?_append_left h1, List.getElem?_append_left h1]
  · rw [List.getElem?_append_right h1, List.getElem?_append_right h1]
    obtain ⟨j, hj⟩ : ∃ j, b - h.length = j + 1 := ⟨b - h.length - 1, by omega⟩
    rw [hj]; rfl
theorem store_mid {e : List AV} {l : List (List AV)} {h t : AH} {g : Nat} {cs vs : List AV} {off : Nat} (h1 : off + vs.length ≤ cs.length) (h2 : vs.all noLp = true) :
    (St.mk e l (h ++ some (g, cs) :: t)).store (.gp h.length g off) vs = some ⟨e, l, h ++ some (g, over cs off vs) :: t⟩ := by
  simp only [St.store, hget_mid, Option.bind_some, if_true, if_pos h1, h2, set_mid]
theorem flat_len' {α β : Type} {l : List α} {f : α → List β} {sz : Nat} (h : ∀ x ∈ l, (f x).length = sz) : ((l.map f).flatten).length = l.length * sz := by
  induction l with
  | nil => simp
  | cons x l ih => simp [ih (fun y hy => h y (by simp [hy])), h x (by simp), Nat.succ_mul, Nat.add_comm]
theorem toS_own {α : Type} (tab : TabOK P Θ) (hm : P.follows .mixedOrders = true) {F f : FuncId} {szs sz bytes : Nat} {z : List AV} (hE : Entry1 P Θ Γ F (toSC szs sz bytes z f) [.t 2] [u, u, u, u, u, u, u, u, u, u, u, u, u, u, u, u, u, u, u, u, u, u])
    {β : Bool} {l : List α} {ce : α → List AV} {cd : α → List CD} (hb : l.length * (bytes + sz + 1) ≤ maxMade) (hz : z.length = sz) (hz' : z.all noLp = true)
    (hx : ∀ x ∈ l, (ce x).length = szs ∧ (ce x).all noLp = true) (hd : ∀ x ∈ l, (cd x).length = sz) {h : AH}
    (hf : ∀ x ∈ l, ∀ H, T P Γ f [.agg (ce x)] H (Fresh H [.a (cd x)])) :
    T P Γ F [.vs β szs false (l.map ce)] h (Fresh h [.c (.sl sz (l.map cd))]) := by
  have L0 := len_vm β szs false l ce
  generalize e0 : AV.vs β szs false (l.map ce) = a0 at *
  have hml : l.length ≤ maxMade := Nat.le_trans (Nat.le_mul_of_pos_right _ (by omega)) hb
  have hmx : maxMade = 1099511627776 := rfl
  refine T.freshC (hE (aw_sound tab hm [] _ _ _ ?_))
  unfold toSC
  simp only [EV, EL, L0]
  rw [mks_ok _ _ _ _ _ _ hb hz']
  simp only [EV, EL]
  have hzl : ∀ n, (List.replicate n z).flatten.length = n * sz := fun n => by
    have := flat_len (xs := List.replicate n z) (sz := sz) (fun l hl => by rw [(List.mem_replicate.1 hl).2]; exact hz)
    simpa using this
  refine loopI tab hm [] (fun x : Nat × List AV × AH × List Nat => x.1 ≤ l.length ∧ OwnL (h ++ some (0, x.2.1 ++ (List.replicate (l.length - x.1) z).flatten) :: x.2.2.1) x.2.1 ((l.take x.1).map cd).flatten x.2.2.2 ∧ x.2.2.2.Nodup ∧ ∀ b ∈ x.2.2.2, h.length < b) (fun x => l.length - x.1)
    (fun x => ⟨[a0, .any, .any, .gs h.length 0 0 l.length l.length sz true, .int .i64 x.1, .any, .any, .any, .any, .any, .any, .any, .any, .any, .any, .any, .any, .any, .any, .any, .any, .any, .any], [], h ++ some (0, x.2.1 ++ (List.replicate (l.length - x.1) z).flatten) :: x.2.2.1⟩)
    (0, [], [], []) ⟨by simp, by simp [OwnL], by simp, by simp⟩ ⟨by simp [LeL, LeV], rfl, by simp⟩ ?_
  rintro ⟨k, as, t, fp⟩ ⟨hk, ho, nd, hfp⟩
  simp only at hk ho nd hfp
  simp only [EV, EL, L0]
  refine c_split (fun hlt => ?_) (fun hge => ?_)
  · have hlt : k < l.length := by simpa using hlt
    have i0 := idx_vm (β := β) (sz := szs) (ex := false) (ce := ce) hlt
    rw [e0] at i0
    have hxk := hx _ (List.getElem_mem hlt)
    have hdk := hd _ (List.getElem_mem hlt)
    have hel := sub_all hxk.1
    simp only [EV, EL, i0, hel, Option.bind_some]
    refine TCall.ref (by simp only [EO, hxk.2]) (hf _ (List.getElem_mem hlt) _) ?_
    intro v h' hv
    obtain ⟨bs, new, fq, rfl, rfl, o2, nd2, hb2⟩ := hv.oneA
    have hb2 : ∀ b ∈ fq, (h ++ some (0, as ++ (List.replicate (l.length - k) z).flatten) :: t).length ≤ b := hb2
    have hbl : bs.length = sz := by rw [o2.len, hdk]
    have hal : as.length = k * sz := by
      rw [ho.len, flat_len' (sz := sz) (fun x hx => hd x (List.mem_of_mem_take hx)), List.length_take, Nat.min_eq_left hk]
    have hrep : l.length - k = (l.length - (k + 1)) + 1 := by omega
    simp only [EV, EL, idx_gs hlt]
    rw [st_1 _ _ _ _ hbl, Nat.zero_add, List.append_assoc, List.cons_append, store_mid (by rw [List.length_append, hzl, hal, hbl, ← Nat.succ_mul, ← Nat.add_mul]; exact Nat.mul_le_mul_right _ (by omega)) o2.noLp]
    simp only [EV, EL]
    have hov : over (as ++ (List.replicate (l.length - k) z).flatten) (k * sz) bs = (as ++ bs) ++ (List.replicate (l.length - (k + 1)) z).flatten := by
      rw [hrep, List.replicate_succ, List.flatten_cons, ← hal]
      simp only [over]
      rw [List.take_append_of_le_length (Nat.le_refl _), List.take_length]
      congr 1
      rw [List.drop_append, List.drop_of_length_le (by omega), List.nil_append, show as.length + bs.length - as.length = z.length by omega]
      simp
    rw [hov]
    have hlen0 : (h ++ some (0, as ++ (List.replicate (l.length - k) z).flatten) :: t).length = h.length + 1 + t.length := by simp; omega
    refine ⟨(k + 1, as ++ bs, t ++ new, fp ++ fq), ⟨hlt, ?_, ?_, ?_⟩, by simp only; omega, ⟨?_, rfl, rfl⟩⟩
    · simp only
      rw [List.take_succ_eq_append_getElem hlt, List.map_append, List.flatten_append]
      simp only [List.map_cons, List.map_nil, List.flatten_cons, List.flatten_nil, List.append_nil]
      refine OwnL.append (ho.frame fun b hb => ?_) (o2.frame fun b hb => ?_)
      · have h1 := hfp b hb
        have h2 := ho.lt b hb
        rw [mid_ne (y := some (0, as ++ (List.replicate (l.length - k) z).flatten)) (by omega), ← List.cons_append, ← List.append_assoc, List.getElem?_append_left h2]
      · have h1 := hb2 b hb
        rw [mid_ne (y := some (0, as ++ (List.replicate (l.length - k) z).flatten)) (by omega), List.append_assoc, List.cons_append]
    · exact nodup_app nd nd2 (fun b hb => ho.lt b hb) hb2
    · intro b hb
      rcases List.mem_append.1 hb with h1 | h1
      · exact hfp b h1
      · have := hb2 b h1; omega
    · rw [wN (by omega)]
      simp [LeL, LeV]
  · have hge : k = l.length := by simp at hge; omega
    subst hge
    simp only [EV, EL]
    simp only [Nat.sub_self, List.replicate_zero, List.flatten_nil, List.append_nil, List.take_length] at ho ⊢
    refine ⟨rfl, some (0, as) :: t, h.length :: fp, rfl, ?_, ?_, ?_⟩
    · have := Own.sl_mk (xs := l.map cd) (sz := sz) (b := h.length) (g := 0) (cap := l.length) (ex := true) (tail := []) (as := as) (h := h ++ some (0, as) :: t) (by rw [List.append_nil]; exact hget_mid _ _ _)
        (fun m hm => by obtain ⟨x, hx, rfl⟩ := List.mem_map.1 hm; exact hd x hx) (by simp) (by simp) ho
      simpa using this
    · exact List.nodup_cons.2 ⟨fun hm => by have := hfp _ hm; omega, nd⟩
    · intro b hb
      rcases List.mem_cons.1 hb with h1 | h1
      · omega
      · have := hfp b h1; omega
theorem eqS_D {α : Type} [DecidableEq α] (tab : TabOK P Θ) (hm : P.follows .mixedOrders = true) {F f : FuncId} {sz : Nat} (hE : Entry2 P Θ Γ F (eqSC sz f) [.t 4] [u, u, u, u, u, u, u, u, u, u, u, u, u, u, u, u, u, u, u, u, u, u, u, u, u])
    {β β' : Bool} {l m : List α} {c c' : α → List AV} (hb : l.length < 1099511627776) (hx : ∀ x, (c x).length = sz ∧ (c x).all noLp = true) (hy : ∀ x, (c' x).length = sz ∧ (c' x).all noLp = true) {h : AH}
    (hf : ∀ x ∈ l, ∀ y ∈ m, T P Γ f [.agg (c x), .agg (c' y)] h fun v h' => v = .bool (decide (x = y)) ∧ h' = h) :
    T P Γ F [.vs β sz false (l.map c), .vs β' sz false (m.map c')] h fun v h' => v = .bool (decide (l = m)) ∧ h' = h := by
  have L0 := len_vm β sz false l c
  have L1 := len_vm β' sz false m c'
  generalize e0 : AV.vs β sz false (l.map c) = a0 at *
  generalize e1 : AV.vs β' sz false (m.map c') = a1 at *
  refine hE (aw_sound tab hm [] _ _ _ ?_)
  unfold eqSC
  simp only [EV, EL, L0, L1]
  refine c_split (fun hne => ?_) (fun heq => ?_)
  · simp only [EV, EL]
    refine ⟨rfl, ?_⟩
    have hne : l.length ≠ m.length := by intro e; rw [e] at hne; simp at hne
    rw [decide_eq_false (fun e => hne (by rw [e]))]
  have hl : l.length = m.length := by simp at heq; omega
  simp only [EV, EL]
  refine loopI tab hm [] (fun k : Nat => k ≤ l.length ∧ ∀ (i : Nat) (h1 : i < l.length) (h2 : i < m.length), i < k → l[i] = m[i]) (fun k => l.length - k)
    (fun k => ⟨[a0, a1, .any, .any, .any, .int .i64 k, .any, .any, .any, .any, .any, .any, .any, .any, .any, .any, .any, .any, .any, .any, .any, .any, .any, .any, .any, .any, .any], [], h⟩) 0 ⟨by omega, fun i _ _ h => by omega⟩ ⟨by simp [LeL, LeV], rfl, rfl⟩ ?_
  rintro k ⟨hk, ht⟩
  simp only [EV, EL, L0]
  refine c_split (fun hlt => ?_) (fun hge => ?_)
  · have hlt : k < l.length := by simpa using hlt
    have hlt' : k < m.length := by omega
    have i0 := idx_vm (β := β) (sz := sz) (ex := false) (ce := c) hlt
    have i1 := idx_vm (β := β') (sz := sz) (ex := false) (ce := c') hlt'
    rw [e0] at i0
    rw [e1] at i1
    have l0 := sub_all (hx l[k]).1
    have l1 := sub_all (hy m[k]).1
    simp only [EV, EL, eqS_q, i0, i1, l0, l1, Option.bind_some]
    refine TCall.val (by simp only [EO, (hx l[k]).2, (hy m[k]).2]) (hf _ (List.getElem_mem hlt) _ (List.getElem_mem hlt')) ?_
    simp only [EV, EL]
    by_cases hp : l[k] = m[k]
    · simp only [EV, EL, hp, decide_true, Bool.not_true]
      refine ⟨k + 1, ⟨hlt, fun i g1 g2 hik => ?_⟩, by omega, ⟨?_, rfl, rfl⟩⟩
      · rcases Nat.lt_or_ge i k with g | g
        · exact ht i g1 g2 g
        · have : i = k := by omega
          subst this; exact hp
      · rw [wN (by omega)]
        simp [LeL, LeV]
    · simp only [EV, EL, decide_eq_false hp, Bool.not_false]
      refine ⟨rfl, ?_⟩
      rw [decide_eq_false (fun e => hp (by subst e; rfl))]
  · have hge : k = l.length := by simp at hge; omega
    simp only [EV, EL]
    refine ⟨rfl, ?_⟩
    rw [decide_eq_true (List.ext_getElem hl fun i g1 g2 => ht i g1 g2 (by omega))]
def szGo {α : Type} (f : α → Int → Int) : List α → Int → Int
  | [], left => left
  | x :: r, left => if f x left < 0 then -1 else szGo f r (f x left)
def szN {α : Type} (l : List α) (left : Int) : Int := if left - l.length < 0 then -1 else left - l.length
def szL {α : Type} (f : α → Int → Int) (l : List α) (left : Int) : Int := if left - l.length < 0 then -1 else szGo f l (left - l.length)
theorem szN_ok {α : Type} {l : List α} {left : Int} (h : 0 ≤ szN l left) : (l.length : Int) ≤ left ∧ szN l left ≤ left := by
  unfold szN at h ⊢; split at h <;> omega
theorem szGo_ok {α : Type} {f : α → Int → Int} {Q : α → Prop} {B : Int} (hf : ∀ x left, 0 ≤ left → left ≤ B → 0 ≤ f x left → Q x ∧ f x left ≤ left) : ∀ {l : List α} {left : Int}, 0 ≤ left → left ≤ B → 0 ≤ szGo f l left → (∀ x ∈ l, Q x) ∧ szGo f l left ≤ left
  | [], left, _, _, _ => ⟨by simp, by simp [szGo]⟩
  | x :: r, left, h0, h1, h2 => by
    simp only [szGo] at h2 ⊢
    split at h2
    · omega
    · rename_i hn
      rw [if_neg hn]
      obtain ⟨q1, q2⟩ := hf x left h0 h1 (by omega)
      obtain ⟨q3, q4⟩ := szGo_ok hf (l := r) (by omega) (by omega) h2
      exact ⟨fun y hy => by rcases List.mem_cons.1 hy with rfl | hy; exact q1; exact q3 y hy, by omega⟩
theorem szL_ok {α : Type} {f : α → Int → Int} {Q : α → Prop} {B : Int} (hf : ∀ x left, 0 ≤ left → left ≤ B → 0 ≤ f x left → Q x ∧ f x left ≤ left) {l : List α} {left : Int} (h0 : 0 ≤ left) (h1 : left ≤ B) (h2 : 0 ≤ szL f l left) :
    ((l.length : Int) ≤ left ∧ ∀ x ∈ l, Q x) ∧ szL f l left ≤ left := by
  unfold szL at h2 ⊢
  split at h2
  · omega
  · rename_i hn
    rw [if_neg hn]
    obtain ⟨q1, q2⟩ := szGo_ok hf (l := l) (left := left - l.length) (by omega) (by omega) h2
    exact ⟨⟨by omega, q1⟩, by omega⟩
def szFC : C := .seq (.reg [⟨(some 4), none, .mov (.c (.int .i64 0))⟩]) (.seq (.reg [⟨(some 5), none, .mov (.t 1)⟩,
  ⟨(some 6), none, .mov (.t 0)⟩,
  ⟨(some 7), none, .len false (.t 6)⟩,
  ⟨(some 8), none, .bin .sub (.num) (.t 5) (.t 7)⟩,
  ⟨(some 1), none, .mov (.t 8)⟩]) (.seq (.seq (.reg [⟨(some 9), none, .mov (.t 1)⟩,
  ⟨(some 10), none, .bin .lss (.num) (.t 9) (.c (.int .i64 0))⟩]) (.cond (.t 10) (.seq (.reg [⟨(some 4), none, .mov (.c (.int .i64 (-1)))⟩]) (.ret)) (.skip))) (.seq (.reg [⟨(some 11), none, .mov (.t 1)⟩,
  ⟨(some 4), none, .mov (.t 11)⟩]) (.ret))))
theorem szF_T {α : Type} (tab : TabOK P Θ) (hm : P.follows .mixedOrders = true) {F : FuncId} (hE : Entry2 P Θ Γ F szFC [.t 4] [u, u, u, u, u, u, u, u, u, u])
    {β : Bool} {sz : Nat} {l : List α} {c : α → List AV} {left : Int} (h0 : 0 ≤ left) (h1 : left ≤ 1048576) (hb : l.length ≤ maxLen) {h : AH} :
    T P Γ F [.vs β sz false (l.map c), .int .i64 left] h fun v h' => v = .int .i64 (szN l left) ∧ h' = h := by
  have L0 := len_vm β sz false l c
  generalize e0 : AV.vs β sz false (l.map c) = a0 at *
  have hml : maxLen ≤ 9223372036854775807 := by decide
  refine hE (aw_sound tab hm [] _ _ _ ?_)
  unfold szFC
  simp only [EV, EL, L0]
  rw [wrap_nat (by omega) (by omega)]
  refine c_split (fun hlt => ?_) (fun hge => ?_)
  · simp only [EV, EL]
    simp at hlt
    exact ⟨rfl, by rw [szN, if_pos (by omega)]⟩
  · simp only [EV, EL]
    simp at hge
    exact ⟨rfl, by rw [szN, if_neg (by omega)]⟩
def szSC (sz : Nat) (f : FuncId) : C := .seq (.reg [⟨(some 4), none, .mov (.c (.int .i64 0))⟩]) (.seq (.reg [⟨(some 6), none, .mov (.t 1)⟩,
  ⟨(some 7), none, .mov (.t 0)⟩,
  ⟨(some 8), none, .len false (.t 7)⟩,
  ⟨(some 9), none, .bin .sub (.num) (.t 6) (.t 8)⟩,
  ⟨(some 1), none, .mov (.t 9)⟩]) (.seq (.seq (.reg [⟨(some 10), none, .mov (.t 1)⟩,
  ⟨(some 11), none, .bin .lss (.num) (.t 10) (.c (.int .i64 0))⟩]) (.cond (.t 11) (.seq (.reg [⟨(some 4), none, .mov (.c (.int .i64 (-1)))⟩]) (.ret)) (.skip))) (.seq (.seq (.reg [⟨(some 5), none, .mov (.c (.int .i64 0))⟩]) (.block 0 (.loop (.seq (.seq (.reg [⟨(some 12), none, .mov (.t 5)⟩,
  ⟨(some 13), none, .mov (.t 0)⟩,
  ⟨(some 14), none, .len false (.t 13)⟩,
  ⟨(some 15), none, .bin .lss (.num) (.t 12) (.t 14)⟩]) (.cond (.t 15) (.skip) (.exit 0))) (.seq (.block 1 (.seq (.reg [⟨(some 18), none, .mov (.t 0)⟩,
  ⟨(some 19), none, .mov (.t 5)⟩,
  ⟨(some 20), none, .idxs sz (.t 18) (.t 19)⟩,
  ⟨(some 21), none, .load sz true (.t 20)⟩,
  ⟨(some 22), none, .mov (.t 1)⟩,
  ⟨(some 23), none, .call (.c (.fn f [] [])) [.t 21, .t 22]⟩,
  ⟨(some 1), none, .mov (.t 23)⟩]) (.seq (.reg [⟨(some 24), none, .mov (.t 1)⟩,
  ⟨(some 25), none, .bin .lss (.num) (.t 24) (.c (.int .i64 0))⟩]) (.cond (.t 25) (.seq (.reg [⟨(some 4), none, .mov (.c (.int .i64 (-1)))⟩]) (.ret)) (.skip))))) (.reg [⟨(some 16), none, .mov (.t 5)⟩,
  ⟨(some 17), none, .bin .add (.num) (.t 16) (.c (.int .i64 1))⟩,
  ⟨(some 5), none, .mov (.t 17)⟩])))))) (.seq (.reg [⟨(some 26), none, .mov (.t 1)⟩,
  ⟨(some 4), none, .mov (.t 26)⟩]) (.ret)))))
theorem szS_T {α : Type} (tab : TabOK P Θ) (hm : P.follows .mixedOrders = true) {F f : FuncId} {sz : Nat} (hE : Entry2 P Θ Γ F (szSC sz f) [.t 4] [u, u, u, u, u, u, u, u, u, u, u, u, u, u, u, u, u, u, u, u, u, u, u, u, u])
    {β : Bool} {l : List α} {c : α → List AV} {g : α → Int → Int} {left : Int} (h0 : 0 ≤ left) (h1 : left ≤ 1048576) (hb : l.length ≤ maxLen) (hx : ∀ x, (c x).length = sz ∧ (c x).all noLp = true)
    (hg : ∀ x left, 0 ≤ left → left ≤ 1048576 → 0 ≤ g x left → g x left ≤ left) {h : AH}
    (hf : ∀ x ∈ l, ∀ left, 0 ≤ left → left ≤ 1048576 → T P Γ f [.agg (c x), .int .i64 left] h fun v h' => v = .int .i64 (g x left) ∧ h' = h) :
    T P Γ F [.vs β sz false (l.map c), .int .i64 left] h fun v h' => v = .int .i64 (szL g l left) ∧ h' = h := by
  have L0 := len_vm β sz false l c
  generalize e0 : AV.vs β sz false (l.map c) = a0 at *
  have hml : maxLen ≤ 9223372036854775807 := by decide
  refine hE (aw_sound tab hm [] _ _ _ ?_)
  unfold szSC
  simp only [EV, EL, L0]
  rw [wrap_nat (by omega) (by omega)]
  refine c_split (fun hlt => ?_) (fun hge => ?_)
  · simp only [EV, EL]
    simp at hlt
    exact ⟨rfl, by rw [szL, if_pos (by omega)]⟩
  simp at hge
  simp only [EV, EL]
  refine loopI tab hm [] (fun x : Nat × Int => x.1 ≤ l.length ∧ 0 ≤ x.2 ∧ x.2 ≤ 1048576 ∧ szL g l left = szGo g (l.drop x.1) x.2) (fun x => l.length - x.1)
    (fun x => ⟨[a0, .int .i64 x.2, .any, .any, .any, .int .i64 x.1, .any, .any, .any, .any, .any, .any, .any, .any, .any, .any, .any, .any, .any, .any, .any, .any, .any, .any, .any, .any, .any], [], h⟩) (0, left - l.length) ⟨by simp, by simp only; omega, by simp only; omega, by simp only [List.drop_zero]; rw [szL, if_neg (by omega)]⟩ ⟨by simp [LeL, LeV], rfl, rfl⟩ ?_
  rintro ⟨k, r⟩ ⟨hk, hr0, hr1, hI⟩
  simp only at hk hr0 hr1 hI
  simp only [EV, EL, L0]
  refine c_split (fun hlt => ?_) (fun hge => ?_)
  · have hlt : k < l.length := by simpa using hlt
    have i0 := idx_vm (β := β) (sz := sz) (ex := false) (ce := c) hlt
    rw [e0] at i0
    have l0 := sub_all (hx l[k]).1
    rw [List.drop_eq_getElem_cons hlt, szGo] at hI
    simp only [EV, EL, i0, l0, Option.bind_some]
    refine TCall.val (by simp only [EO, (hx l[k]).2]) (hf _ (List.getElem_mem hlt) _ hr0 hr1) ?_
    simp only [EV, EL]
    refine c_split (fun hn => ?_) (fun hp => ?_)
    · simp only [EV, EL]
      simp at hn
      exact ⟨rfl, by rw [hI, if_pos hn]⟩
    · simp at hp
      rw [if_neg (by omega)] at hI
      simp only [EV, EL]
      have := hg l[k] r hr0 hr1 hp
      refine ⟨(k + 1, g l[k] r), ⟨hlt, hp, by simp only; omega, hI⟩, by simp only; omega, ⟨?_, rfl, rfl⟩⟩
      rw [wN (by omega)]
      simp [LeL, LeV]
  · have hge : k = l.length := by simp at hge; omega
    simp only [EV, EL]
    rw [hge, List.drop_length, szGo] at hI
    exact ⟨rfl, by rw [hI]⟩
end
end Go.AM
namespace Go.AM
section
variable {P : Program} {Θ : Tab} {Γ : Glob}
def CD.flat : CD → Bool | .sl _ _ => false | _ => true
theorem CD.flat_own {h : AH} {d : CD} (hd : d.flat = true) (β : Bool) : Own h (d.av β) d [] := by
  cases d <;> first | (simp [CD.flat] at hd; done) | (simp only [CD.av]; constructor)
theorem flat_ownL {h : AH} (β : Bool) : ∀ {cs : List CD}, cs.all CD.flat = true → OwnL h (cs.map (CD.av β)) cs []
  | [], _ => rfl
  | d :: r, hc => by
    simp only [List.all_cons, Bool.and_eq_true] at hc
    exact ⟨[], [], rfl, CD.flat_own hc.1 β, flat_ownL β hc.2⟩
theorem T.flat {f : FuncId} {args : List AV} {h : AH} {x : List AV} (t : T P Γ f args h fun v h' => v = .agg x ∧ h' = h) {cs : List CD} (hc : cs.all CD.flat = true) (hx : x = cs.map (CD.av false)) : T P Γ f args h (Fresh h [.a cs]) := by
  refine T.freshA (t.mono ?_)
  rintro v h' ⟨rfl, rfl⟩
  exact ⟨_, [], [], rfl, by simp, by rw [hx]; exact flat_ownL false hc, by simp, by simp⟩
theorem len_str (s : ByteArray) : lenI true (.str s) = some (.int .i64 s.size) := rfl
theorem ne_int (a b : Int) : (a != b) = !decide (a = b) := by by_cases h : a = b <;> simp [h]
theorem ne_bool (a b : Bool) : (a == b) = decide (a = b) := by cases a <;> cases b <;> rfl
theorem toList_loop (bs : ByteArray) : ∀ (n i : Nat) (r : List UInt8), bs.size - i = n → ByteArray.toList.loop bs i r = r.reverse ++ bs.data.toList.drop i := by
  intro n
  induction n with
  | zero =>
    intro i r h
    unfold ByteArray.toList.loop
    have hs : bs.data.toList.length = bs.size := rfl
    rw [if_neg (by omega), List.drop_of_length_le (by omega), List.append_nil]
  | succ n ih =>
    intro i r h
    have hs : bs.data.toList.length = bs.size := rfl
    unfold ByteArray.toList.loop
    rw [if_pos (by omega), ih (i+1) _ (by omega), List.drop_eq_getElem_cons (show i < bs.data.toList.length by omega)]
    have hi : i < bs.data.size := by simpa using (show i < bs.data.toList.length by omega)
    have e : bs.data[i]! = bs.data[i] := by rw [getElem!_pos bs.data i hi]
    simp [ByteArray.get!, e]
theorem toList_eq (b : ByteArray) : b.toList = b.data.toList := by
  unfold ByteArray.toList
  rw [toList_loop b _ 0 [] rfl]; simp
theorem str_inj {a b : ByteArray} (h : a.toList = b.toList) : a = b := by
  rw [toList_eq, toList_eq] at h
  exact ByteArray.ext (Array.ext' h)
theorem ne_str (a b : ByteArray) : (a.toList == b.toList) = decide (a = b) := by
  by_cases h : a = b
  · subst h; simp
  · rw [decide_eq_false h]; simp; exact fun e => h (str_inj e)
end
end Go.AM
