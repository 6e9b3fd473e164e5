import Derived.Test.YteaebikmfmggbaaDoorAmTop
set_option linter.unusedVariables false
set_option linter.unusedSimpArgs false
namespace Go.AM
section
variable {P : Program} {Θ : Tab} {Γ : Glob}
theorem sub_0 (z : List AV) : sub z 0 0 = some [] := by simp [sub]
theorem sub_c (a : AV) (z : List AV) (n : Nat) : sub (a :: z) 0 (n + 1) = (sub z 0 n).map (a :: ·) := by
  simp only [sub, Nat.zero_add, List.length_cons, List.drop_zero]
  by_cases h : n ≤ z.length
  · rw [if_pos (by omega), if_pos h]; rfl
  · rw [if_neg (by omega), if_neg h]; rfl
theorem sub_s (a : AV) (z : List AV) (o n : Nat) : sub (a :: z) (o + 1) n = sub z o n := by
  simp only [sub, List.length_cons, List.drop_succ_cons]
  by_cases h : o + n ≤ z.length
  · rw [if_pos (by omega), if_pos h]
  · rw [if_neg (by omega), if_neg h]
def stR : List AV → Nat → List AV → Option (List AV)
  | z, 0, [] => some z
  | _ :: z, 0, x :: vs => if isCell x = true then (stR z 0 vs).map (x :: ·) else none
  | a :: z, n + 1, vs => (stR z n vs).map (a :: ·)
  | [], 0, _ :: _ => none
  | [], _ + 1, _ => none
theorem stR_over : ∀ (z : List AV) (o : Nat) (vs z' : List AV), stR z o vs = some z' → o + vs.length ≤ z.length ∧ vs.all isCell = true ∧ z' = over z o vs
  | z, 0, [], z', h => by simp [stR] at h; subst h; simp [over]
  | a :: z, 0, x :: vs, z', h => by
    simp only [stR] at h
    split at h
    · rename_i hx
      rw [Option.map_eq_some_iff] at h
      obtain ⟨y, h1, rfl⟩ := h
      obtain ⟨h2, h3, rfl⟩ := stR_over z 0 vs y h1
      refine ⟨by simp at h2 ⊢; omega, by simp [hx, h3], ?_⟩
      simp [over]
    · cases h
  | a :: z, n + 1, vs, z', h => by
    simp only [stR, Option.map_eq_some_iff] at h
    obtain ⟨y, h1, rfl⟩ := h
    obtain ⟨h2, h3, rfl⟩ := stR_over z n vs y h1
    refine ⟨by simp; omega, h3, ?_⟩
    simp [over, show n + 1 + vs.length = (n + vs.length) + 1 by omega]
  | [], 0, _ :: _, _, h => by simp [stR] at h
  | [], _ + 1, _, _, h => by simp [stR] at h
theorem stR_0 (z : List AV) : stR z 0 [] = some z := by cases z <;> rfl
theorem stR_c (a x : AV) (z vs : List AV) : stR (a :: z) 0 (x :: vs) = if isCell x = true then (stR z 0 vs).map (x :: ·) else none := rfl
theorem stR_s (a : AV) (z vs : List AV) (n : Nat) : stR (a :: z) (n + 1) vs = (stR z n vs).map (a :: ·) := rfl
theorem store_loc {e : List AV} {L zs : List (List AV)} {h : AH} {i off : Nat} {z vs z' : List AV} (hi : zs[i]? = some z) (hs : stR z off vs = some z') : (St.mk e (L ++ zs) h).store (.lp (L.length + i) off) vs = some ⟨e, L ++ zs.set i z', h⟩ := by
  obtain ⟨h1, h2, rfl⟩ := stR_over z off vs z' hs
  have hl : (L ++ zs)[L.length + i]? = some z := by rw [List.getElem?_append_right (by omega)]; simpa using hi
  simp only [St.store, hl, Option.bind_some, if_pos h1, h2, if_true]
  rw [List.set_append_right _ _ (by omega)]
  simp
theorem cells_loc {e : List AV} {L zs : List (List AV)} {h : AH} {i off n : Nat} {z : List AV} (hi : zs[i]? = some z) : (St.mk e (L ++ zs) h).cells (.lp (L.length + i) off) n = sub z off n := by
  have hl : (L ++ zs)[L.length + i]? = some z := by rw [List.getElem?_append_right (by omega)]; simpa using hi
  simp only [St.cells, hl, Option.bind_some]
theorem lc0 (e : List AV) (L zs : List (List AV)) (z : List AV) (h : AH) (off n : Nat) : (St.mk e (L ++ z :: zs) h).cells (.lp L.length off) n = sub z off n := cells_loc (i := 0) rfl
theorem lc1 (e : List AV) (L zs : List (List AV)) (a z : List AV) (h : AH) (off n : Nat) : (St.mk e (L ++ a :: z :: zs) h).cells (.lp (L.length + 1) off) n = sub z off n := cells_loc (i := 1) rfl
theorem lc2 (e : List AV) (L zs : List (List AV)) (a b z : List AV) (h : AH) (off n : Nat) : (St.mk e (L ++ a :: b :: z :: zs) h).cells (.lp (L.length + 2) off) n = sub z off n := cells_loc (i := 2) rfl
theorem lc3 (e : List AV) (L zs : List (List AV)) (a b c z : List AV) (h : AH) (off n : Nat) : (St.mk e (L ++ a :: b :: c :: z :: zs) h).cells (.lp (L.length + 3) off) n = sub z off n := cells_loc (i := 3) rfl
def stoK (f : List AV → St) (alt : Option St) : Option (List AV) → Option St | some z => some (f z) | none => alt
def stAlt (s : St) (a : AV) (vs : List AV) : Option St := s.store a vs
theorem sto_s (f : List AV → St) (alt : Option St) (z : List AV) : stoK f alt (some z) = some (f z) := rfl
theorem stoK_of {s : St} {a : AV} {vs : List AV} {o : Option (List AV)} {f : List AV → St} (h : ∀ z, o = some z → s.store a vs = some (f z)) : s.store a vs = stoK f (stAlt s a vs) o := by
  cases o with
  | none => rfl
  | some z => exact h z rfl
theorem sc0 (e : List AV) (L zs : List (List AV)) (z : List AV) (h : AH) (off : Nat) (vs : List AV) : (St.mk e (L ++ z :: zs) h).store (.lp L.length off) vs = stoK (fun z' => ⟨e, L ++ z' :: zs, h⟩) (stAlt ⟨e, L ++ z :: zs, h⟩ (.lp L.length off) vs) (stR z off vs) :=
  stoK_of fun _ hs => store_loc (i := 0) rfl hs
theorem sc1 (e : List AV) (L zs : List (List AV)) (a z : List AV) (h : AH) (off : Nat) (vs : List AV) : (St.mk e (L ++ a :: z :: zs) h).store (.lp (L.length + 1) off) vs = stoK (fun z' => ⟨e, L ++ a :: z' :: zs, h⟩) (stAlt ⟨e, L ++ a :: z :: zs, h⟩ (.lp (L.length + 1) off) vs) (stR z off vs) :=
  stoK_of fun _ hs => store_loc (i := 1) rfl hs
theorem sc2 (e : List AV) (L zs : List (List AV)) (a b z : List AV) (h : AH) (off : Nat) (vs : List AV) : (St.mk e (L ++ a :: b :: z :: zs) h).store (.lp (L.length + 2) off) vs = stoK (fun z' => ⟨e, L ++ a :: b :: z' :: zs, h⟩) (stAlt ⟨e, L ++ a :: b :: z :: zs, h⟩ (.lp (L.length + 2) off) vs) (stR z off vs) :=
  stoK_of fun _ hs => store_loc (i := 2) rfl hs
theorem sc3 (e : List AV) (L zs : List (List AV)) (a b c z : List AV) (h : AH) (off : Nat) (vs : List AV) : (St.mk e (L ++ a :: b :: c :: z :: zs) h).store (.lp (L.length + 3) off) vs = stoK (fun z' => ⟨e, L ++ a :: b :: c :: z' :: zs, h⟩) (stAlt ⟨e, L ++ a :: b :: c :: z :: zs, h⟩ (.lp (L.length + 3) off) vs) (stR z off vs) :=
  stoK_of fun _ hs => store_loc (i := 3) rfl hs
theorem ll1 (L : List (List AV)) (a : List AV) : (L ++ [a]).length = L.length + 1 := by simp
theorem ll2 (L : List (List AV)) (a b : List AV) : (L ++ [a, b]).length = L.length + 2 := by simp
theorem ll3 (L : List (List AV)) (a b c : List AV) : (L ++ [a, b, c]).length = L.length + 3 := by simp
theorem la1 (L : List (List AV)) (a z : List AV) : (L ++ [a]) ++ [z] = L ++ [a, z] := by simp
theorem la2 (L : List (List AV)) (a b z : List AV) : (L ++ [a, b]) ++ [z] = L ++ [a, b, z] := by simp
theorem la3 (L : List (List AV)) (a b c z : List AV) : (L ++ [a, b, c]) ++ [z] = L ++ [a, b, c, z] := by simp
theorem ic_i (k : IntKind) (n : Int) : isCell (.int k n) = true := rfl
theorem ic_b (b : Bool) : isCell (.bool b) = true := rfl
theorem ic_s (b : ByteArray) : isCell (.str b) = true := rfl
theorem ic_sl (s : SH) (sz : Nat) (xs : List (List AV)) : isCell (sl s sz xs) = true := by cases s <;> rfl
theorem ic_gs (b g off len cap sz : Nat) (ex : Bool) : isCell (.gs b g off len cap sz ex) = true := rfl
theorem om_s {α β : Type} (f : α → β) (x : α) : Option.map f (some x) = some (f x) := rfl
theorem ob_s {α β : Type} (f : α → Option β) (x : α) : Option.bind (some x) f = f x := rfl
theorem st_n (s : St) (n : Nat) (a : AV) (cs : List AV) : storeK s n a (some cs) = if cs.length = n then .ofS (s.store a cs) else .stuck := rfl
theorem ln_n : List.length ([] : List AV) = 0 := rfl
theorem ln_c (x : AV) (xs : List AV) : (x :: xs).length = xs.length + 1 := rfl
theorem dr_0 (l : List AV) : l.drop 0 = l := rfl
theorem dr_s (a : AV) (l : List AV) (n : Nat) : (a :: l).drop (n + 1) = l.drop n := rfl
theorem zadd (n : Nat) : 0 + n = n := Nat.zero_add n
def bndV (v : AV) : Option Nat := (asI v).bind fun i => if 0 ≤ i then some i.toNat else none
def cutTo (k : SK) (s : St) (v hi : AV) : AR := match bndV hi with | some h => .ofO s (aSlice k v 0 (some h) none) | none => .stuck
def cutFrom (k : SK) (s : St) (v lo : AV) : AR := match bndV lo with | some l => .ofO s (aSlice k v l none none) | none => .stuck
def cutBoth (k : SK) (s : St) (v lo hi : AV) : AR := match bndV lo, bndV hi with | some l, some h => .ofO s (aSlice k v l (some h) none) | _, _ => .stuck
theorem p_cutTo (gl : Bool) (s : St) (k : SK) (x y : X) : step Γ gl s (.slice k x none (some y) none) = cutTo k s (s.eval Γ x) (s.eval Γ y) := by
  simp only [step, cutTo, bnd, bndV]
  cases (asI (s.eval Γ y)).bind fun i => if 0 ≤ i then some i.toNat else none <;> rfl
theorem p_cutFrom (gl : Bool) (s : St) (k : SK) (x y : X) : step Γ gl s (.slice k x (some y) none none) = cutFrom k s (s.eval Γ x) (s.eval Γ y) := by
  simp only [step, cutFrom, bnd, bndV]
  cases (asI (s.eval Γ y)).bind fun i => if 0 ≤ i then some i.toNat else none <;> rfl
theorem p_cutBoth (gl : Bool) (s : St) (k : SK) (x y z : X) : step Γ gl s (.slice k x (some y) (some z) none) = cutBoth k s (s.eval Γ x) (s.eval Γ y) (s.eval Γ z) := by
  simp only [step, cutBoth, bnd, bndV]
  cases (asI (s.eval Γ y)).bind fun i => if 0 ≤ i then some i.toNat else none <;> cases (asI (s.eval Γ z)).bind fun i => if 0 ≤ i then some i.toNat else none <;> rfl
def SH.cut (s : SH) (b : Bool) : SH := match s with | .nil => .nil | .v β ex => .v β (ex && b)
end
theorem EB : type_of% (And.intro @sub_0 (And.intro @sub_c (And.intro @sub_s (And.intro @stR_0 (And.intro @stR_c (And.intro @stR_s (And.intro @lc0 (And.intro @lc1 (And.intro @lc2 (And.intro @lc3 (And.intro @sc0 (And.intro @sc1 (And.intro @sc2 (And.intro @sc3 (And.intro @sto_s (And.intro @ll1 (And.intro @ll2 (And.intro @ll3 (And.intro @la1 (And.intro @la2 (And.intro @la3 (And.intro @ic_i (And.intro @ic_b (And.intro @ic_s (And.intro @ic_sl (And.intro @ic_gs (And.intro @om_s (And.intro @p_cutTo (And.intro @p_cutFrom (And.intro @p_cutBoth (And.intro @dr_0 (And.intro @dr_s (And.intro @ob_s (And.intro @st_n (And.intro @ln_n (And.intro @ln_c (@zadd))))))))))))))))))))))))))))))))))))) := And.intro @sub_0 (And.intro @sub_c (And.intro @sub_s (And.intro @stR_0 (And.intro @stR_c (And.intro @stR_s (And.intro @lc0 (And.intro @lc1 (And.intro @lc2 (And.intro @lc3 (And.intro @sc0 (And.intro @sc1 (And.intro @sc2 (And.intro @sc3 (And.intro @sto_s (And.intro @ll1 (And.intro @ll2 (And.intro @ll3 (And.intro @la1 (And.intro @la2 (And.intro @la3 (And.intro @ic_i (And.intro @ic_b (And.intro @ic_s (And.intro @ic_sl (And.intro @ic_gs (And.intro @om_s (And.intro @p_cutTo (And.intro @p_cutFrom (And.intro @p_cutBoth (And.intro @dr_0 (And.intro @dr_s (And.intro @ob_s (And.intro @st_n (And.intro @ln_n (And.intro @ln_c (@zadd))))))))))))))))))))))))))))))))))))
end Go.AM
