import Derived.Test.YtccjhmhkfnnmaaaGreatAmMore1
set_option linter.unusedVariables false
set_option linter.unusedSimpArgs false
namespace Go.AM
def mkL {α : Type} (f : α → Int → α) (c : α → Int) : List α → Int → List α
  | [], _ => []
  | x :: r, k => f x k :: mkL f c r (k + c x)
def cntL {α : Type} (c : α → Int) : List α → Int
  | [] => 0
  | x :: r => c x + cntL c r
theorem mkL_len {α : Type} {f : α → Int → α} {c : α → Int} : ∀ {l : List α} {k : Int}, (mkL f c l k).length = l.length
  | [], _ => rfl
  | x :: r, k => by simp [mkL, mkL_len (l := r)]
theorem cntL_app {α : Type} (c : α → Int) : ∀ (l m : List α), cntL c (l ++ m) = cntL c l + cntL c m
  | [], m => by simp [cntL]
  | x :: r, m => by simp [cntL, cntL_app c r m]; omega
theorem mkL_app {α : Type} (f : α → Int → α) (c : α → Int) : ∀ (l m : List α) (k : Int), mkL f c (l ++ m) k = mkL f c l k ++ mkL f c m (k + cntL c l)
  | [], m, k => by simp [mkL, cntL]
  | x :: r, m, k => by simp [mkL, cntL, mkL_app f c r m, Int.add_assoc]
theorem cntL_nn {α : Type} {c : α → Int} (h : ∀ x, 0 ≤ c x) : ∀ (l : List α), 0 ≤ cntL c l
  | [] => by simp [cntL]
  | x :: r => by have := h x; have := cntL_nn h r; simp [cntL]; omega
theorem cntL_take {α : Type} (c : α → Int) {l : List α} {j : Nat} (h : j < l.length) : cntL c (l.take (j + 1)) = cntL c (l.take j) + c l[j] := by
  rw [List.take_succ_eq_append_getElem h, cntL_app]; simp [cntL]
theorem cntL_le {α : Type} {c : α → Int} (h : ∀ x, 0 ≤ c x) {l : List α} {j : Nat} (hj : j < l.length) : cntL c (l.take j) + c l[j] ≤ cntL c l := by
  have e : l = l.take (j + 1) ++ l.drop (j + 1) := (List.take_append_drop _ _).symm
  have h1 := cntL_take c hj
  have h2 := cntL_nn h (l.drop (j + 1))
  have h3 := congrArg (cntL c) e
  rw [cntL_app] at h3
  omega
theorem cntL_len {α : Type} {c : α → Int} {C : Int} : ∀ {l : List α}, (∀ x ∈ l, c x ≤ C) → cntL c l ≤ C * l.length
  | [], _ => by simp [cntL]
  | x :: r, h => by
    have h1 := h x (by simp); have h2 := cntL_len (l := r) fun y hy => h y (by simp [hy])
    simp only [cntL, List.length_cons]
    have : C * ((r.length + 1 : Nat) : Int) = C * r.length + C := by rw [Int.natCast_add, Int.mul_add]; simp
    omega
theorem mkL_take {α : Type} (f : α → Int → α) (c : α → Int) {l : List α} {j : Nat} (h : j < l.length) (k : Int) : mkL f c (l.take (j + 1)) k = mkL f c (l.take j) k ++ [f l[j] (k + cntL c (l.take j))] := by
  rw [List.take_succ_eq_append_getElem h, mkL_app]; simp [mkL]
theorem mkL_get {α : Type} (f : α → Int → α) (c : α → Int) : ∀ {l : List α} {j : Nat} (h : j < l.length) (k : Int), (mkL f c l k)[j]? = some (f l[j] (k + cntL c (l.take j)))
  | x :: r, 0, _, k => by simp [mkL, cntL]
  | x :: r, j + 1, h, k => by
    have := mkL_get f c (l := r) (j := j) (by simpa using h) (k + c x)
    simp [mkL, cntL, this, Int.add_assoc]
def stH : List AV → Nat → List AV → Option (List AV)
  | z, 0, [] => some z
  | _ :: z, 0, x :: vs => if noLp x = true then (stH z 0 vs).map (x :: ·) else none
  | a :: z, n + 1, vs => (stH z n vs).map (a :: ·)
  | [], 0, _ :: _ => none
  | [], _ + 1, _ => none
theorem stH_over : ∀ (z : List AV) (o : Nat) (vs z' : List AV), stH z o vs = some z' → o + vs.length ≤ z.length ∧ vs.all noLp = true ∧ z' = over z o vs
  | z, 0, [], z', h => by simp [stH] at h; subst h; simp [over]
  | a :: z, 0, x :: vs, z', h => by
    simp only [stH] at h
    split at h
    · rename_i hx
      rw [Option.map_eq_some_iff] at h
      obtain ⟨y, h1, rfl⟩ := h
      obtain ⟨h2, h3, rfl⟩ := stH_over z 0 vs y h1
      refine ⟨by simp at h2 ⊢; omega, by simp [hx, h3], ?_⟩
      simp [over]
    · cases h
  | a :: z, n + 1, vs, z', h => by
    simp only [stH, Option.map_eq_some_iff] at h
    obtain ⟨y, h1, rfl⟩ := h
    obtain ⟨h2, h3, rfl⟩ := stH_over z n vs y h1
    refine ⟨by simp; omega, h3, ?_⟩
    simp [over, show n + 1 + vs.length = (n + vs.length) + 1 by omega]
  | [], 0, _ :: _, _, h => by simp [stH] at h
  | [], _ + 1, _, _, h => by simp [stH] at h
theorem sh_0 (z : List AV) : stH z 0 [] = some z := by cases z <;> rfl
theorem sh_c (a x : AV) (z vs : List AV) : stH (a :: z) 0 (x :: vs) = if noLp x = true then (stH z 0 vs).map (x :: ·) else none := rfl
theorem sh_s (a : AV) (z vs : List AV) (n : Nat) : stH (a :: z) (n + 1) vs = (stH z n vs).map (a :: ·) := rfl
theorem over_mid {pre cs post vs : List AV} {off : Nat} (h : off + vs.length ≤ cs.length) : over (pre ++ (cs ++ post)) (pre.length + off) vs = pre ++ (over cs off vs ++ post) := by
  simp only [over]
  rw [List.take_append, List.take_of_length_le (by omega), show pre.length + off - pre.length = off by omega, List.take_append_of_le_length (by omega)]
  rw [List.drop_append, List.drop_of_length_le (by omega), List.nil_append, show pre.length + off + vs.length - pre.length = off + vs.length by omega, List.drop_append_of_le_length h]
  simp
theorem sub_mid {pre cs post : List AV} {off n : Nat} (h : off + n ≤ cs.length) : sub (pre ++ (cs ++ post)) (pre.length + off) n = sub cs off n := by
  simp only [sub]
  rw [if_pos (by simp; omega), if_pos h]
  rw [List.drop_append, List.drop_of_length_le (by omega), List.nil_append, show pre.length + off - pre.length = off by omega, List.drop_append_of_le_length (by omega), List.take_append_of_le_length (by simp; omega)]
def elc (cs post : List AV) : List AV := cs ++ post
theorem st_el {h1 h2 : AH} {b g n0 : Nat} {pre post : List AV} (hb : h1.length = b) (hn : pre.length = n0) (e : List AV) (l : List (List AV)) (cs : List AV) (off : Nat) (vs : List AV) :
    (St.mk e l (h1 ++ some (g, pre ++ elc cs post) :: h2)).store (.gp b g (n0 + off)) vs = stoK (fun cs' => ⟨e, l, h1 ++ some (g, pre ++ elc cs' post) :: h2⟩) (stAlt ⟨e, l, h1 ++ some (g, pre ++ elc cs post) :: h2⟩ (.gp b g (n0 + off)) vs) (stH cs off vs) := by
  subst hb hn
  refine stoK_of fun z hz => ?_
  obtain ⟨h1', h2', rfl⟩ := stH_over _ _ _ _ hz
  unfold elc
  rw [store_mid (by simp; omega) h2', over_mid h1']
theorem st_el0 {h1 h2 : AH} {b g n0 : Nat} {pre post : List AV} (hb : h1.length = b) (hn : pre.length = n0) (e : List AV) (l : List (List AV)) (cs : List AV) (vs : List AV) :
    (St.mk e l (h1 ++ some (g, pre ++ elc cs post) :: h2)).store (.gp b g n0) vs = stoK (fun cs' => ⟨e, l, h1 ++ some (g, pre ++ elc cs' post) :: h2⟩) (stAlt ⟨e, l, h1 ++ some (g, pre ++ elc cs post) :: h2⟩ (.gp b g n0) vs) (stH cs 0 vs) :=
  st_el (off := 0) hb hn e l cs vs
def rdK (alt : Option (List AV)) : Option (List AV) → Option (List AV) | some x => some x | none => alt
theorem rd_s (alt : Option (List AV)) (x : List AV) : rdK alt (some x) = some x := rfl
theorem rd_el {h1 h2 : AH} {b g n0 : Nat} {pre post : List AV} (hb : h1.length = b) (hn : pre.length = n0) (e : List AV) (l : List (List AV)) (cs : List AV) (off n : Nat) :
    (St.mk e l (h1 ++ some (g, pre ++ elc cs post) :: h2)).cells (.gp b g (n0 + off)) n = rdK (sub (pre ++ elc cs post) (n0 + off) n) (sub cs off n) := by
  subst hb hn
  have e1 : (St.mk e l (h1 ++ some (g, pre ++ elc cs post) :: h2)).cells (.gp h1.length g (pre.length + off)) n = sub (pre ++ elc cs post) (pre.length + off) n := by
    simp only [St.cells, hget_mid, Option.bind_some, if_true]
  rw [e1]
  cases hs : sub cs off n with
  | none => rfl
  | some x =>
    have : off + n ≤ cs.length := by simp only [sub] at hs; split at hs; assumption; cases hs
    unfold elc; rw [sub_mid this, hs]; rfl
theorem heap_at {H : AH} {b : Nat} {x : Nat × List AV} (h : hget H b = some x) : ∃ h1 h2, H = h1 ++ some x :: h2 ∧ h1.length = b := by
  have hs := hget_spec h
  have hlt := getElem?_lt hs
  refine ⟨H.take b, H.drop (b + 1), ?_, by simp; omega⟩
  conv => lhs; rw [← List.take_append_drop b H, List.drop_eq_getElem_cons hlt]
  rw [List.getElem?_eq_getElem hlt] at hs
  injection hs with hs
  rw [hs]
theorem hget_at {h1 h2 : AH} {b : Nat} {x : Nat × List AV} (hb : h1.length = b) : hget (h1 ++ some x :: h2) b = some x := by subst hb; exact hget_mid _ _ _
theorem at_ne {h1 h2 : AH} {b c : Nat} {x y : Option (Nat × List AV)} (hb : h1.length = b) (hc : c ≠ b) : (h1 ++ x :: h2)[c]? = (h1 ++ y :: h2)[c]? := by subst hb; exact mid_ne hc
structure MInv (H : AH) (b g : Nat) (tail : List AV) (fp : List Nat) {α : Type} (cd : α → List CD) (l m : List α) (H' : AH) (as1 as2 : List AV) (f1 f2 : List Nat) : Prop where
  len : H'.length = H.length
  fr : ∀ c, c ≠ b → c ∉ fp → H'[c]? = H[c]?
  blk : hget H' b = some (g, as1 ++ (as2 ++ tail))
  o1 : OwnL H' as1 (m.map cd).flatten f1
  o2 : OwnL H' as2 (l.map cd).flatten f2
  fps : fp = f1 ++ f2
theorem MInv.start {H : AH} {b g : Nat} {as tail : List AV} {fp : List Nat} {α : Type} {cd : α → List CD} {l : List α} (h1 : hget H b = some (g, as ++ tail)) (o : OwnL H as (l.map cd).flatten fp) : MInv H b g tail fp cd l [] H [] as [] fp :=
  ⟨rfl, fun _ _ _ => rfl, by simpa using h1, rfl, o, rfl⟩
theorem MInv.open {H : AH} {b g : Nat} {tail : List AV} {fp : List Nat} {α : Type} {cd : α → List CD} {x : α} {l m : List α} {H' : AH} {as1 as2 : List AV} {f1 f2 : List Nat} (i : MInv H b g tail fp cd (x :: l) m H' as1 as2 f1 f2) :
    ∃ h1 h2 cs post fx fr, H' = h1 ++ some (g, as1 ++ (cs ++ (post ++ tail))) :: h2 ∧ h1.length = b ∧ as2 = cs ++ post ∧ f2 = fx ++ fr ∧ OwnL H' cs (cd x) fx ∧ OwnL H' post (l.map cd).flatten fr := by
  have o2 := i.o2
  rw [List.map_cons, List.flatten_cons] at o2
  obtain ⟨cs, post, fx, fr, rfl, rfl, q1, q2⟩ := o2.split
  have hb := i.blk
  rw [List.append_assoc] at hb
  obtain ⟨h1, h2, e1, e2⟩ := heap_at hb
  exact ⟨h1, h2, cs, post, fx, fr, e1, e2, rfl, rfl, q1, q2⟩
theorem MInv.next {H : AH} {b g : Nat} {tail : List AV} {fp : List Nat} {α : Type} {cd : α → List CD} {x y : α} {l m : List α} {H' H2 : AH} {as1 cs cs' post : List AV} {f1 fx fr : List Nat} (nd : (b :: fp).Nodup)
    (i : MInv H b g tail fp cd (x :: l) m H' as1 (cs ++ post) f1 (fx ++ fr)) (q2 : OwnL H' post (l.map cd).flatten fr)
    (hl : H2.length = H'.length) (hb : hget H2 b = some (g, as1 ++ (cs' ++ (post ++ tail)))) (hf : ∀ c, c ≠ b → c ∉ fx → H2[c]? = H'[c]?) (o : OwnL H2 cs' (cd y) fx) :
    MInv H b g tail fp cd l (m ++ [y]) H2 (as1 ++ cs') post (f1 ++ fx) fr := by
  have hfp := i.fps
  have ndf := (List.nodup_cons.1 nd).2
  have hnb : ∀ c ∈ fp, c ≠ b := fun c hc e => (List.nodup_cons.1 nd).1 (e ▸ hc)
  rw [hfp] at ndf
  have hd := List.nodup_append.1 ndf
  have hd2 := List.nodup_append.1 hd.2.1
  refine ⟨hl.trans i.len, fun c hc hn => ?_, by rw [hb, List.append_assoc], ?_, q2.frame fun c hc => hf c (hnb c (by rw [hfp]; simp [hc])) (fun e => hd2.2.2 c e c hc rfl), by rw [hfp, List.append_assoc]⟩
  · rw [hf c hc (fun e => hn (by rw [hfp]; simp [e]))]; exact i.fr c hc hn
  · rw [List.map_append, List.flatten_append]
    simp only [List.map_cons, List.map_nil, List.flatten_cons, List.flatten_nil, List.append_nil]
    exact OwnL.append (i.o1.frame fun c hc => hf c (hnb c (by rw [hfp]; simp [hc])) (fun e => hd.2.2 c hc c (by simp [e]) rfl)) o
theorem MInv.done {H : AH} {b g cap sz n : Nat} {ex : Bool} {tail : List AV} {fp : List Nat} {α : Type} {cd : α → List CD} {m : List α} {H' : AH} {as1 as2 : List AV} {f1 f2 : List Nat} (i : MInv H b g tail fp cd [] m H' as1 as2 f1 f2)
    (hm : m.length = n) (h3 : ∀ x, (cd x).length = sz) (ht : ∀ x ∈ tail, atom x) (hc : n ≤ cap ∧ (cap - n) * sz ≤ tail.length) : H'.length = H.length ∧ (∀ c, c ∉ b :: fp → H'[c]? = H[c]?) ∧ Own H' (.gs b g 0 n cap sz ex) (.sl sz (m.map cd)) (b :: fp) := by
  have o2 := i.o2
  simp only [List.map_nil, List.flatten_nil] at o2
  obtain ⟨rfl, e⟩ := ownL_n.1 o2
  subst e
  have hfp := i.fps
  rw [List.append_nil] at hfp
  subst hfp
  refine ⟨i.len, fun c hc => i.fr c (fun e => hc (by simp [e])) (fun e => hc (by simp [e])), ?_⟩
  have hb := i.blk
  rw [List.nil_append] at hb
  have := Own.sl_mk (xs := m.map cd) (cap := cap) (ex := ex) hb (fun r hr => by obtain ⟨x, _, rfl⟩ := List.mem_map.1 hr; exact h3 x) ht (by simpa [hm] using hc) i.o1
  simpa [hm] using this
theorem frame_hget {H H' : AH} {b : Nat} {x : Nat × List AV} (h : hget H b = some x) (e : H'[b]? = H[b]?) : hget H' b = some x := by rw [hget_congr e]; exact h
theorem EM : type_of% (And.intro @sh_0 (And.intro @sh_c (And.intro @sh_s (And.intro @rd_s (@Nat.add_assoc))))) := And.intro @sh_0 (And.intro @sh_c (And.intro @sh_s (And.intro @rd_s (@Nat.add_assoc))))
end Go.AM
namespace Go.AM
theorem OwnL.pick {H : AH} {a : AV} {d : CD} : ∀ {A B : List AV} {D E : List CD} {fp : List Nat}, A.length = D.length → OwnL H (A ++ a :: B) (D ++ d :: E) fp → fp.Nodup →
    ∃ gi, Own H a d gi ∧ gi.Nodup ∧ (∀ c ∈ gi, c ∈ fp) ∧ ∀ (H2 : AH) (d' : CD), (∀ c, c ∉ gi → H2[c]? = H[c]?) → Own H2 a d' gi → OwnL H2 (A ++ a :: B) (D ++ d' :: E) fp
  | [], B, [], E, fp, _, ⟨f1, f2, e, o1, o2⟩, nd => by
    subst e
    have hd := List.nodup_append.1 nd
    exact ⟨f1, o1, hd.1, fun c h => by simp [h], fun H2 d' hf o => ⟨f1, f2, rfl, o, o2.frame fun c hc => hf c (fun h => hd.2.2 c h c hc rfl)⟩⟩
  | x :: A, B, y :: D, E, fp, hl, ⟨f1, f2, e, o1, o2⟩, nd => by
    subst e
    have hd := List.nodup_append.1 nd
    obtain ⟨gi, q1, q2, q3, q4⟩ := OwnL.pick (by simpa using hl) o2 hd.2.1
    exact ⟨gi, q1, q2, fun c h => by simp [q3 c h], fun H2 d' hf o => ⟨f1, f2, rfl, o1.frame fun c hc => hf c (fun h => hd.2.2 c hc c (q3 c h) rfl), q4 H2 d' hf o⟩⟩
end Go.AM
