import Derived.Test.YtleddolmolkpfaaAmSlices2
set_option linter.unusedVariables false
set_option linter.unusedSimpArgs false
namespace Go.AM
theorem lc4 (e : List AV) (L zs : List (List AV)) (a b d e z : List AV) (h : AH) (off n0 : Nat) : (St.mk e (L ++ a :: b :: d :: e :: z :: zs) h).cells (.lp (L.length + 4) off) n0 = sub z off n0 := cells_loc (i := 4) rfl
theorem sc4 (e : List AV) (L zs : List (List AV)) (a b d e z : List AV) (h : AH) (off : Nat) (vs : List AV) : (St.mk e (L ++ a :: b :: d :: e :: z :: zs) h).store (.lp (L.length + 4) off) vs = stoK (fun z' => ⟨e, L ++ a :: b :: d :: e :: z' :: zs, h⟩) (stAlt ⟨e, L ++ a :: b :: d :: e :: z :: zs, h⟩ (.lp (L.length + 4) off) vs) (stR z off vs) :=
  stoK_of fun _ hs => store_loc (i := 4) rfl hs
theorem ll4 (L : List (List AV)) (a b d e : List AV) : (L ++ [a, b, d, e]).length = L.length + 4 := by simp
theorem la4 (L : List (List AV)) (a b d e z : List AV) : (L ++ [a, b, d, e]) ++ [z] = L ++ [a, b, d, e, z] := by simp
theorem lc5 (e : List AV) (L zs : List (List AV)) (a b d e f z : List AV) (h : AH) (off n0 : Nat) : (St.mk e (L ++ a :: b :: d :: e :: f :: z :: zs) h).cells (.lp (L.length + 5) off) n0 = sub z off n0 := cells_loc (i := 5) rfl
theorem sc5 (e : List AV) (L zs : List (List AV)) (a b d e f z : List AV) (h : AH) (off : Nat) (vs : List AV) : (St.mk e (L ++ a :: b :: d :: e :: f :: z :: zs) h).store (.lp (L.length + 5) off) vs = stoK (fun z' => ⟨e, L ++ a :: b :: d :: e :: f :: z' :: zs, h⟩) (stAlt ⟨e, L ++ a :: b :: d :: e :: f :: z :: zs, h⟩ (.lp (L.length + 5) off) vs) (stR z off vs) :=
  stoK_of fun _ hs => store_loc (i := 5) rfl hs
theorem ll5 (L : List (List AV)) (a b d e f : List AV) : (L ++ [a, b, d, e, f]).length = L.length + 5 := by simp
theorem la5 (L : List (List AV)) (a b d e f z : List AV) : (L ++ [a, b, d, e, f]) ++ [z] = L ++ [a, b, d, e, f, z] := by simp
theorem lc6 (e : List AV) (L zs : List (List AV)) (a b d e f g z : List AV) (h : AH) (off n0 : Nat) : (St.mk e (L ++ a :: b :: d :: e :: f :: g :: z :: zs) h).cells (.lp (L.length + 6) off) n0 = sub z off n0 := cells_loc (i := 6) rfl
theorem sc6 (e : List AV) (L zs : List (List AV)) (a b d e f g z : List AV) (h : AH) (off : Nat) (vs : List AV) : (St.mk e (L ++ a :: b :: d :: e :: f :: g :: z :: zs) h).store (.lp (L.length + 6) off) vs = stoK (fun z' => ⟨e, L ++ a :: b :: d :: e :: f :: g :: z' :: zs, h⟩) (stAlt ⟨e, L ++ a :: b :: d :: e :: f :: g :: z :: zs, h⟩ (.lp (L.length + 6) off) vs) (stR z off vs) :=
  stoK_of fun _ hs => store_loc (i := 6) rfl hs
theorem ll6 (L : List (List AV)) (a b d e f g : List AV) : (L ++ [a, b, d, e, f, g]).length = L.length + 6 := by simp
theorem la6 (L : List (List AV)) (a b d e f g z : List AV) : (L ++ [a, b, d, e, f, g]) ++ [z] = L ++ [a, b, d, e, f, g, z] := by simp
theorem lc7 (e : List AV) (L zs : List (List AV)) (a b d e f g i z : List AV) (h : AH) (off n0 : Nat) : (St.mk e (L ++ a :: b :: d :: e :: f :: g :: i :: z :: zs) h).cells (.lp (L.length + 7) off) n0 = sub z off n0 := cells_loc (i := 7) rfl
theorem sc7 (e : List AV) (L zs : List (List AV)) (a b d e f g i z : List AV) (h : AH) (off : Nat) (vs : List AV) : (St.mk e (L ++ a :: b :: d :: e :: f :: g :: i :: z :: zs) h).store (.lp (L.length + 7) off) vs = stoK (fun z' => ⟨e, L ++ a :: b :: d :: e :: f :: g :: i :: z' :: zs, h⟩) (stAlt ⟨e, L ++ a :: b :: d :: e :: f :: g :: i :: z :: zs, h⟩ (.lp (L.length + 7) off) vs) (stR z off vs) :=
  stoK_of fun _ hs => store_loc (i := 7) rfl hs
theorem ll7 (L : List (List AV)) (a b d e f g i : List AV) : (L ++ [a, b, d, e, f, g, i]).length = L.length + 7 := by simp
theorem la7 (L : List (List AV)) (a b d e f g i z : List AV) : (L ++ [a, b, d, e, f, g, i]) ++ [z] = L ++ [a, b, d, e, f, g, i, z] := by simp
theorem lc8 (e : List AV) (L zs : List (List AV)) (a b d e f g i j z : List AV) (h : AH) (off n0 : Nat) : (St.mk e (L ++ a :: b :: d :: e :: f :: g :: i :: j :: z :: zs) h).cells (.lp (L.length + 8) off) n0 = sub z off n0 := cells_loc (i := 8) rfl
theorem sc8 (e : List AV) (L zs : List (List AV)) (a b d e f g i j z : List AV) (h : AH) (off : Nat) (vs : List AV) : (St.mk e (L ++ a :: b :: d :: e :: f :: g :: i :: j :: z :: zs) h).store (.lp (L.length + 8) off) vs = stoK (fun z' => ⟨e, L ++ a :: b :: d :: e :: f :: g :: i :: j :: z' :: zs, h⟩) (stAlt ⟨e, L ++ a :: b :: d :: e :: f :: g :: i :: j :: z :: zs, h⟩ (.lp (L.length + 8) off) vs) (stR z off vs) :=
  stoK_of fun _ hs => store_loc (i := 8) rfl hs
theorem ll8 (L : List (List AV)) (a b d e f g i j : List AV) : (L ++ [a, b, d, e, f, g, i, j]).length = L.length + 8 := by simp
theorem la8 (L : List (List AV)) (a b d e f g i j z : List AV) : (L ++ [a, b, d, e, f, g, i, j]) ++ [z] = L ++ [a, b, d, e, f, g, i, j, z] := by simp
theorem lc9 (e : List AV) (L zs : List (List AV)) (a b d e f g i j k z : List AV) (h : AH) (off n0 : Nat) : (St.mk e (L ++ a :: b :: d :: e :: f :: g :: i :: j :: k :: z :: zs) h).cells (.lp (L.length + 9) off) n0 = sub z off n0 := cells_loc (i := 9) rfl
theorem sc9 (e : List AV) (L zs : List (List AV)) (a b d e f g i j k z : List AV) (h : AH) (off : Nat) (vs : List AV) : (St.mk e (L ++ a :: b :: d :: e :: f :: g :: i :: j :: k :: z :: zs) h).store (.lp (L.length + 9) off) vs = stoK (fun z' => ⟨e, L ++ a :: b :: d :: e :: f :: g :: i :: j :: k :: z' :: zs, h⟩) (stAlt ⟨e, L ++ a :: b :: d :: e :: f :: g :: i :: j :: k :: z :: zs, h⟩ (.lp (L.length + 9) off) vs) (stR z off vs) :=
  stoK_of fun _ hs => store_loc (i := 9) rfl hs
theorem ll9 (L : List (List AV)) (a b d e f g i j k : List AV) : (L ++ [a, b, d, e, f, g, i, j, k]).length = L.length + 9 := by simp
theorem la9 (L : List (List AV)) (a b d e f g i j k z : List AV) : (L ++ [a, b, d, e, f, g, i, j, k]) ++ [z] = L ++ [a, b, d, e, f, g, i, j, k, z] := by simp
theorem lc10 (e : List AV) (L zs : List (List AV)) (a b d e f g i j k m z : List AV) (h : AH) (off n0 : Nat) : (St.mk e (L ++ a :: b :: d :: e :: f :: g :: i :: j :: k :: m :: z :: zs) h).cells (.lp (L.length + 10) off) n0 = sub z off n0 := cells_loc (i := 10) rfl
theorem sc10 (e : List AV) (L zs : List (List AV)) (a b d e f g i j k m z : List AV) (h : AH) (off : Nat) (vs : List AV) : (St.mk e (L ++ a :: b :: d :: e :: f :: g :: i :: j :: k :: m :: z :: zs) h).store (.lp (L.length + 10) off) vs = stoK (fun z' => ⟨e, L ++ a :: b :: d :: e :: f :: g :: i :: j :: k :: m :: z' :: zs, h⟩) (stAlt ⟨e, L ++ a :: b :: d :: e :: f :: g :: i :: j :: k :: m :: z :: zs, h⟩ (.lp (L.length + 10) off) vs) (stR z off vs) :=
  stoK_of fun _ hs => store_loc (i := 10) rfl hs
theorem ll10 (L : List (List AV)) (a b d e f g i j k m : List AV) : (L ++ [a, b, d, e, f, g, i, j, k, m]).length = L.length + 10 := by simp
theorem la10 (L : List (List AV)) (a b d e f g i j k m z : List AV) : (L ++ [a, b, d, e, f, g, i, j, k, m]) ++ [z] = L ++ [a, b, d, e, f, g, i, j, k, m, z] := by simp
theorem lc11 (e : List AV) (L zs : List (List AV)) (a b d e f g i j k m n z : List AV) (h : AH) (off n0 : Nat) : (St.mk e (L ++ a :: b :: d :: e :: f :: g :: i :: j :: k :: m :: n :: z :: zs) h).cells (.lp (L.length + 11) off) n0 = sub z off n0 := cells_loc (i := 11) rfl
theorem sc11 (e : List AV) (L zs : List (List AV)) (a b d e f g i j k m n z : List AV) (h : AH) (off : Nat) (vs : List AV) : (St.mk e (L ++ a :: b :: d :: e :: f :: g :: i :: j :: k :: m :: n :: z :: zs) h).store (.lp (L.length + 11) off) vs = stoK (fun z' => ⟨e, L ++ a :: b :: d :: e :: f :: g :: i :: j :: k :: m :: n :: z' :: zs, h⟩) (stAlt ⟨e, L ++ a :: b :: d :: e :: f :: g :: i :: j :: k :: m :: n :: z :: zs, h⟩ (.lp (L.length + 11) off) vs) (stR z off vs) :=
  stoK_of fun _ hs => store_loc (i := 11) rfl hs
theorem ll11 (L : List (List AV)) (a b d e f g i j k m n : List AV) : (L ++ [a, b, d, e, f, g, i, j, k, m, n]).length = L.length + 11 := by simp
theorem la11 (L : List (List AV)) (a b d e f g i j k m n z : List AV) : (L ++ [a, b, d, e, f, g, i, j, k, m, n]) ++ [z] = L ++ [a, b, d, e, f, g, i, j, k, m, n, z] := by simp
theorem lc12 (e : List AV) (L zs : List (List AV)) (a b d e f g i j k m n o z : List AV) (h : AH) (off n0 : Nat) : (St.mk e (L ++ a :: b :: d :: e :: f :: g :: i :: j :: k :: m :: n :: o :: z :: zs) h).cells (.lp (L.length + 12) off) n0 = sub z off n0 := cells_loc (i := 12) rfl
theorem sc12 (e : List AV) (L zs : List (List AV)) (a b d e f g i j k m n o z : List AV) (h : AH) (off : Nat) (vs : List AV) : (St.mk e (L ++ a :: b :: d :: e :: f :: g :: i :: j :: k :: m :: n :: o :: z :: zs) h).store (.lp (L.length + 12) off) vs = stoK (fun z' => ⟨e, L ++ a :: b :: d :: e :: f :: g :: i :: j :: k :: m :: n :: o :: z' :: zs, h⟩) (stAlt ⟨e, L ++ a :: b :: d :: e :: f :: g :: i :: j :: k :: m :: n :: o :: z :: zs, h⟩ (.lp (L.length + 12) off) vs) (stR z off vs) :=
  stoK_of fun _ hs => store_loc (i := 12) rfl hs
theorem ll12 (L : List (List AV)) (a b d e f g i j k m n o : List AV) : (L ++ [a, b, d, e, f, g, i, j, k, m, n, o]).length = L.length + 12 := by simp
theorem la12 (L : List (List AV)) (a b d e f g i j k m n o z : List AV) : (L ++ [a, b, d, e, f, g, i, j, k, m, n, o]) ++ [z] = L ++ [a, b, d, e, f, g, i, j, k, m, n, o, z] := by simp
theorem lc13 (e : List AV) (L zs : List (List AV)) (a b d e f g i j k m n o p z : List AV) (h : AH) (off n0 : Nat) : (St.mk e (L ++ a :: b :: d :: e :: f :: g :: i :: j :: k :: m :: n :: o :: p :: z :: zs) h).cells (.lp (L.length + 13) off) n0 = sub z off n0 := cells_loc (i := 13) rfl
theorem sc13 (e : List AV) (L zs : List (List AV)) (a b d e f g i j k m n o p z : List AV) (h : AH) (off : Nat) (vs : List AV) : (St.mk e (L ++ a :: b :: d :: e :: f :: g :: i :: j :: k :: m :: n :: o :: p :: z :: zs) h).store (.lp (L.length + 13) off) vs = stoK (fun z' => ⟨e, L ++ a :: b :: d :: e :: f :: g :: i :: j :: k :: m :: n :: o :: p :: z' :: zs, h⟩) (stAlt ⟨e, L ++ a :: b :: d :: e :: f :: g :: i :: j :: k :: m :: n :: o :: p :: z :: zs, h⟩ (.lp (L.length + 13) off) vs) (stR z off vs) :=
  stoK_of fun _ hs => store_loc (i := 13) rfl hs
theorem ll13 (L : List (List AV)) (a b d e f g i j k m n o p : List AV) : (L ++ [a, b, d, e, f, g, i, j, k, m, n, o, p]).length = L.length + 13 := by simp
theorem la13 (L : List (List AV)) (a b d e f g i j k m n o p z : List AV) : (L ++ [a, b, d, e, f, g, i, j, k, m, n, o, p]) ++ [z] = L ++ [a, b, d, e, f, g, i, j, k, m, n, o, p, z] := by simp
theorem EB2 : type_of% (And.intro @lc4 (And.intro @sc4 (And.intro @ll4 (And.intro @la4 (And.intro @lc5 (And.intro @sc5 (And.intro @ll5 (And.intro @la5 (And.intro @lc6 (And.intro @sc6 (And.intro @ll6 (And.intro @la6 (And.intro @lc7 (And.intro @sc7 (And.intro @ll7 (And.intro @la7 (And.intro @lc8 (And.intro @sc8 (And.intro @ll8 (And.intro @la8 (And.intro @lc9 (And.intro @sc9 (And.intro @ll9 (And.intro @la9 (And.intro @lc10 (And.intro @sc10 (And.intro @ll10 (And.intro @la10 (And.intro @lc11 (And.intro @sc11 (And.intro @ll11 (And.intro @la11 (And.intro @lc12 (And.intro @sc12 (And.intro @ll12 (And.intro @la12 (And.intro @lc13 (And.intro @sc13 (And.intro @ll13 (@la13)))))))))))))))))))))))))))))))))))))))) := (And.intro @lc4 (And.intro @sc4 (And.intro @ll4 (And.intro @la4 (And.intro @lc5 (And.intro @sc5 (And.intro @ll5 (And.intro @la5 (And.intro @lc6 (And.intro @sc6 (And.intro @ll6 (And.intro @la6 (And.intro @lc7 (And.intro @sc7 (And.intro @ll7 (And.intro @la7 (And.intro @lc8 (And.intro @sc8 (And.intro @ll8 (And.intro @la8 (And.intro @lc9 (And.intro @sc9 (And.intro @ll9 (And.intro @la9 (And.intro @lc10 (And.intro @sc10 (And.intro @ll10 (And.intro @la10 (And.intro @lc11 (And.intro @sc11 (And.intro @ll11 (And.intro @la11 (And.intro @lc12 (And.intro @sc12 (And.intro @ll12 (And.intro @la12 (And.intro @lc13 (And.intro @sc13 (And.intro @ll13 (@la13))))))))))))))))))))))))))))))))))))))))
end Go.AM
namespace Go.AM
end Go.AM

