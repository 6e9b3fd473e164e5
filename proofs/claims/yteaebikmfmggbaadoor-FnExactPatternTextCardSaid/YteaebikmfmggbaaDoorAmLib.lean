import Derived.Test.YteaebikmfmggbaaDoorAmGo
set_option linter.unusedVariables false
set_option linter.unusedSimpArgs false
namespace Go.AM
section
variable {P : Program} {Θ : Tab} {Γ : Glob}
theorem TCall.val {f : FuncId} {args : List AV} {s : St} {K : AV → St → Prop} {V : AV} (ho : args.all out1 = true) (t : T P Γ f args s.heap fun v h' => v = V ∧ h' = s.heap) (hk : K V s) : TCall P Γ f args s K :=
  TCall.ref ho t (by rintro v h' ⟨rfl, rfl⟩; exact hk)
theorem map_n (s : St) : List.map (s.eval Γ) [] = [] := rfl
theorem map_c (s : St) (x : X) (xs : List X) : List.map (s.eval Γ) (x :: xs) = s.eval Γ x :: List.map (s.eval Γ) xs := rfl
theorem app_n (xs : List AV) : [] ++ xs = xs := rfl
theorem app_c (x : AV) (xs ys : List AV) : (x :: xs) ++ ys = x :: (xs ++ ys) := rfl
def callK (xs : List AV) : AV → AR | .fn g first caps => .call g (first ++ (xs ++ caps)) | _ => .stuck
theorem p_call (gl : Bool) (s : St) (f : X) (xs : List X) : step Γ gl s (.call f xs) = callK (xs.map (s.eval Γ)) (s.eval Γ f) := by
  simp only [step, callK]; cases s.eval Γ f <;> simp
theorem call_fn (xs : List AV) (g : FuncId) (first caps : List AV) : callK xs (.fn g first caps) = .call g (first ++ (xs ++ caps)) := rfl
theorem p_mkf (gl : Bool) (s : St) (f : FuncId) (a b : List X) : step Γ gl s (.mkf f a b) = .val (.fn f (a.map (s.eval Γ)) (b.map (s.eval Γ))) s := rfl
theorem push_s (e : List AV) (l : List (List AV)) (h : AH) (cs : List AV) : (St.mk e l h).push cs = ⟨e, l, h ++ [some (0, cs)]⟩ := rfl
def mksK (s : St) (sz bytes : Nat) (z : List AV) : AV → AV → AR
  | .int _ ln, .int _ cp => .ofP (aMks s sz bytes z ln cp)
  | _, _ => .stuck
theorem p_mks (gl : Bool) (s : St) (sz bytes : Nat) (z : List AV) (l c : X) : step Γ gl s (.mks sz bytes z l c) = mksK s sz bytes z (s.eval Γ l) (s.eval Γ c) := by
  simp only [step]; unfold mksK; rfl
def storeK (s : St) (n : Nat) (a : AV) : Option (List AV) → AR
  | some cs => if cs.length = n then .ofS (s.store a cs) else .stuck
  | none => .stuck
theorem p_store (gl : Bool) (s : St) (n : Nat) (a v : X) : step Γ gl s (.store n a v) = storeK s n (s.eval Γ a) (cellsOf (s.eval Γ v)) := by
  simp only [step, storeK]; cases cellsOf (s.eval Γ v) <;> rfl
theorem st_s (s : St) (a x : AV) : storeK s 1 a (some [x]) = .ofS (s.store a [x]) := rfl
theorem co_i (k : IntKind) (n : Int) : cellsOf (.int k n) = some [.int k n] := rfl
theorem co_b (b : Bool) : cellsOf (.bool b) = some [.bool b] := rfl
theorem co_s (b : ByteArray) : cellsOf (.str b) = some [.str b] := rfl
theorem co_a (cs : List AV) : cellsOf (.agg cs) = some cs := rfl
theorem co_vs (β : Bool) (sz : Nat) (ex : Bool) (xs : List (List AV)) : cellsOf (.vs β sz ex xs) = some [.vs β sz ex xs] := rfl
theorem co_gs (b g off len cap sz : Nat) (ex : Bool) : cellsOf (.gs b g off len cap sz ex) = some [.gs b g off len cap sz ex] := rfl
theorem co_np : cellsOf .nilp = some [.nilp] := rfl
theorem co_ns : cellsOf .nils = some [.nils] := rfl
def boxK (gl : Bool) (s : St) : Option (List AV) → AR
  | some cs => if gl = true then (if cs.all noLp then .val (.gp s.heap.length 0 0) (s.push cs) else .stuck) else .val (.lp s.loc.length 0) { s with loc := s.loc ++ [cs] }
  | none => .stuck
theorem p_box (gl : Bool) (s : St) (x : X) : step Γ gl s (.box x) = boxK gl s (cellsOf (s.eval Γ x)) := by
  simp only [step, boxK]; cases cellsOf (s.eval Γ x) <;> rfl
theorem box_l (e : List AV) (l : List (List AV)) (h : AH) (cs : List AV) : boxK false ⟨e, l, h⟩ (some cs) = .val (.lp l.length 0) ⟨e, l ++ [cs], h⟩ := rfl
def allocK (gl : Bool) (s : St) (z : List AV) : AR := if gl = true then (if z.all noLp then .val (.gp s.heap.length 0 0) (s.push z) else .stuck) else .val (.lp s.loc.length 0) { s with loc := s.loc ++ [z] }
theorem p_alloc (gl : Bool) (s : St) (z : List AV) : step Γ gl s (.alloc z) = allocK gl s z := rfl
theorem alloc_l (e : List AV) (l : List (List AV)) (h : AH) (z : List AV) : allocK false ⟨e, l, h⟩ z = .val (.lp l.length 0) ⟨e, l ++ [z], h⟩ := rfl
theorem gl_c (a : Nat) (gl : Gl) (d : Nat) (g : Option (Nat × Bool)) (i : I) : isGl (a :: gl) ⟨some d, g, i⟩ = (d == a || isGl gl ⟨some d, g, i⟩) := by simp only [isGl, O.dst, List.contains_cons]
theorem co_fn (f : FuncId) (a b : List AV) : cellsOf (.fn f a b) = some [.fn f a b] := rfl
theorem oo_b (b : Bool) : out1 (.bool b) = true := rfl
theorem oo_i (k : IntKind) (n : Int) : out1 (.int k n) = true := rfl
theorem oo_s (b : ByteArray) : out1 (.str b) = true := rfl
theorem oo_np : out1 .nilp = true := rfl
theorem oo_ns : out1 .nils = true := rfl
theorem oo_nf : out1 .nilf = true := rfl
theorem oo_gp (b g off : Nat) : out1 (.gp b g off) = true := rfl
theorem oo_ip (β : Bool) (cs : List AV) : out1 (.ip β cs) = true := rfl
theorem oo_gs (b g off len cap sz : Nat) (ex : Bool) : out1 (.gs b g off len cap sz ex) = true := rfl
theorem oo_vs (β : Bool) (sz : Nat) (ex : Bool) (xs : List (List AV)) : out1 (.vs β sz ex xs) = true := rfl
theorem oo_a (cs : List AV) : out1 (.agg cs) = cs.all noLp := rfl
theorem oo_f (f : FuncId) (a b : List AV) : out1 (.fn f a b) = (a.all noLp1 && b.all noLp1) := rfl
theorem nn_b (b : Bool) : noLp (.bool b) = true := rfl
theorem nn_i (k : IntKind) (n : Int) : noLp (.int k n) = true := rfl
theorem nn_s (b : ByteArray) : noLp (.str b) = true := rfl
theorem nn_np : noLp .nilp = true := rfl
theorem nn_ns : noLp .nils = true := rfl
theorem nn_gp (b g off : Nat) : noLp (.gp b g off) = true := rfl
theorem nn_ip (β : Bool) (cs : List AV) : noLp (.ip β cs) = true := rfl
theorem nn_gs (b g off len cap sz : Nat) (ex : Bool) : noLp (.gs b g off len cap sz ex) = true := rfl
theorem nn_vs (β : Bool) (sz : Nat) (ex : Bool) (xs : List (List AV)) : noLp (.vs β sz ex xs) = true := rfl
theorem n1_gp (b g off : Nat) : noLp1 (.gp b g off) = true := rfl
theorem n1_i (k : IntKind) (n : Int) : noLp1 (.int k n) = true := rfl
theorem n1_ip (β : Bool) (cs : List AV) : noLp1 (.ip β cs) = true := rfl
theorem all_n (p : AV → Bool) : List.all [] p = true := rfl
theorem all_c (p : AV → Bool) (x : AV) (xs : List AV) : List.all (x :: xs) p = (p x && List.all xs p) := rfl
theorem T.drop {f : FuncId} {args : List AV} {h : AH} {Q K : AV → AH → Prop} (t : T P Γ f args h Q) (hq : ∀ v h', Q v h' → ∃ new, h' = h ++ new ∧ OBk h.length v ∧ K v h) : T P Γ f args h K := by
  refine t.freeze fun v h' q => ?_
  obtain ⟨new, rfl, h1, h2⟩ := hq v h' q
  exact ⟨h, new, v, rfl, rfl, fun b g cs hb => .inl hb, .same v h1, h2⟩
def oI : List O → Nat → Option O
  | [], _ => none
  | o :: _, 0 => some o
  | _ :: os, n + 1 => oI os n
theorem oI_eq : ∀ (os : List O) (j : Nat), os[j]? = oI os j
  | [], _ => by simp [oI]
  | o :: os, 0 => by simp [oI]
  | o :: os, n + 1 => by simpa [oI] using oI_eq os n
def opO (P : Program) (Γ : Glob) (gl : Gl) (os : List O) (K : St → Prop) (s : St) : Option O → Prop
  | some o => opK P Γ K o.dst s (guardOf os s o.gd) (step Γ (isGl gl o) s o.op)
  | none => K s
def memK (s : St) (K : St → Prop) (s' : St) : Prop := Mem s s' ∧ K s'
theorem oi_0 (o : O) (os : List O) : oI (o :: os) 0 = some o := rfl
theorem oi_s (o : O) (os : List O) (n : Nat) : oI (o :: os) (n + 1) = oI os n := rfl
theorem opO_s (gl : Gl) (os : List O) (K : St → Prop) (s : St) (o : O) : opO P Γ gl os K s (some o) = opK P Γ K o.dst s (guardOf os s o.gd) (step Γ (isGl gl o) s o.op) := rfl
theorem opA_eq (gl : Gl) (os : List O) (i : Nat) (K : St → Prop) (s : St) : opA P Γ gl os i K s = opO P Γ gl os K s (oI os i) := by
  unfold opA
  rw [oI_eq]
  cases oI os i with
  | none => rfl
  | some o =>
    simp only [opO, opK]
    cases guardOf os s o.gd with
    | none => rfl
    | some t => cases step Γ (isGl gl o) s o.op <;> rfl
theorem t_d0 (gl : Gl) (os : List O) (K : St → Prop) (s : St) : awpT P Γ gl os K 0 .done s = K s := rfl
theorem t_q (gl : Gl) (os : List O) (K : St → Prop) (n i : Nat) (d : D) (s : St) : awpT P Γ gl os K (n + 1) (.q i d) s = opO P Γ gl os (awpT P Γ gl os K n d) s (oI os i) := by
  rw [← opA_eq]; rfl
theorem t_a1 (gl : Gl) (os : List O) (K : St → Prop) (n i : Nat) (d : D) (s : St) : awpT P Γ gl os K (n + 1) (.all [(i, d)]) s = opO P Γ gl os (memK s (awpT P Γ gl os K n d)) s (oI os i) := by
  rw [← opA_eq]; simp only [awpT, awAll, and_true]; rfl
theorem t_a2 (gl : Gl) (os : List O) (K : St → Prop) (n i : Nat) (d : D) (p : Nat × D) (ds : List (Nat × D)) (s : St) : awpT P Γ gl os K (n + 1) (.all ((i, d) :: p :: ds)) s =
    (opO P Γ gl os (memK s (awpT P Γ gl os K n d)) s (oI os i) ∧ awpT P Γ gl os K (n + 1) (.all (p :: ds)) s) := by
  rw [← opA_eq]; simp only [awpT, awAll]; rfl
def kepK (rs : List Nat) (s : St) (K : St → Prop) (s' : St) : Prop := KeepR rs s s' ∧ K s'
theorem t_m1t (gl : Gl) (os : List O) (K : St → Prop) (n i : Nat) (rs : List Nat) (d : D) (s : St) : awpT P Γ gl os K (n + 1) (.mix [(i, some rs, d)]) s = opO P Γ gl os (kepK rs s (awpT P Γ gl os K n d)) s (oI os i) := by
  rw [← opA_eq]; simp only [awpT, awMix, and_true]; rfl
theorem t_m1f (gl : Gl) (os : List O) (K : St → Prop) (n i : Nat) (d : D) (s : St) : awpT P Γ gl os K (n + 1) (.mix [(i, none, d)]) s = opO P Γ gl os (memK s (awpT P Γ gl os K n d)) s (oI os i) := by
  rw [← opA_eq]; simp only [awpT, awMix, and_true]; rfl
theorem t_m2t (gl : Gl) (os : List O) (K : St → Prop) (n i : Nat) (rs : List Nat) (d : D) (p : Nat × Option (List Nat) × D) (ds : List (Nat × Option (List Nat) × D)) (s : St) : awpT P Γ gl os K (n + 1) (.mix ((i, some rs, d) :: p :: ds)) s =
    (opO P Γ gl os (kepK rs s (awpT P Γ gl os K n d)) s (oI os i) ∧ awpT P Γ gl os K (n + 1) (.mix (p :: ds)) s) := by
  rw [← opA_eq]; simp only [awpT, awMix]; rfl
theorem t_m2f (gl : Gl) (os : List O) (K : St → Prop) (n i : Nat) (d : D) (p : Nat × Option (List Nat) × D) (ds : List (Nat × Option (List Nat) × D)) (s : St) : awpT P Γ gl os K (n + 1) (.mix ((i, none, d) :: p :: ds)) s =
    (opO P Γ gl os (memK s (awpT P Γ gl os K n d)) s (oI os i) ∧ awpT P Γ gl os K (n + 1) (.mix (p :: ds)) s) := by
  rw [← opA_eq]; simp only [awpT, awMix]; rfl
theorem t_st (gl : Gl) (os : List O) (K : St → Prop) (n i : Nat) (rs : List Nat) (d : D) (s : St) : awpT P Γ gl os K (n + 1) (.st i rs d) s = opO P Γ gl os (kepK rs s (awpT P Γ gl os K n d)) s (oI os i) := by
  rw [← opA_eq]; rfl
theorem k_k (rs : List Nat) (s : St) (K : St → Prop) (s' : St) : kepK rs s K s' = (KeepR rs s s' ∧ K s') := rfl
theorem mem_keep {rs : List Nat} {s s' : St} (m : Mem s s') : KeepR rs s s' := fun r _ n cs h => cells_mem m h
theorem m_k (s : St) (K : St → Prop) (s' : St) : memK s K s' = (Mem s s' ∧ K s') := rfl
theorem m_e (e e' : List AV) (l : List (List AV)) (h : AH) : Mem ⟨e, l, h⟩ ⟨e', l, h⟩ = True := eq_true (Mem.env _ _)
theorem m_h (e e' : List AV) (l : List (List AV)) (h n : AH) : Mem ⟨e, l, h⟩ ⟨e', l, h ++ n⟩ = True := eq_true (Mem.heap ⟨e, l, h⟩ _ _)
theorem m_l (e e' : List AV) (l l' : List (List AV)) (h : AH) : Mem ⟨e, l, h⟩ ⟨e', l ++ l', h⟩ = True := eq_true (Mem.loc ⟨e, l, h⟩ _ _)
theorem m_ke (rs : List Nat) (e e' : List AV) (l : List (List AV)) (h : AH) : KeepR rs ⟨e, l, h⟩ ⟨e', l, h⟩ = True := eq_true (mem_keep (Mem.env _ _))
theorem m_kh (rs : List Nat) (e e' : List AV) (l : List (List AV)) (h n : AH) : KeepR rs ⟨e, l, h⟩ ⟨e', l, h ++ n⟩ = True := eq_true (mem_keep (Mem.heap ⟨e, l, h⟩ _ _))
theorem sl_out (s : SH) (sz : Nat) (xs : List (List AV)) : out1 (sl s sz xs) = true := by cases s <;> rfl
theorem sl_noLp (s : SH) (sz : Nat) (xs : List (List AV)) : noLp (sl s sz xs) = true := by cases s <;> rfl
theorem co_sl (s : SH) (sz : Nat) (xs : List (List AV)) : cellsOf (sl s sz xs) = some [sl s sz xs] := by cases s <;> rfl
end
theorem EO : type_of% (And.intro @oo_b (And.intro @oo_i (And.intro @oo_s (And.intro @oo_np (And.intro @oo_ns (And.intro @oo_nf (And.intro @oo_gp (And.intro @oo_ip (And.intro @oo_gs (And.intro @oo_vs (And.intro @oo_a (And.intro @oo_f (And.intro @nn_b (And.intro @nn_i (And.intro @nn_s (And.intro @nn_np (And.intro @nn_ns (And.intro @nn_gp (And.intro @nn_ip (And.intro @nn_gs (And.intro @nn_vs (And.intro @n1_gp (And.intro @n1_i (And.intro @n1_ip (And.intro @all_n (And.intro @all_c (And.intro @sl_out (And.intro @sl_noLp (And.intro @Bool.and_true (@Bool.true_and)))))))))))))))))))))))))))))) := And.intro @oo_b (And.intro @oo_i (And.intro @oo_s (And.intro @oo_np (And.intro @oo_ns (And.intro @oo_nf (And.intro @oo_gp (And.intro @oo_ip (And.intro @oo_gs (And.intro @oo_vs (And.intro @oo_a (And.intro @oo_f (And.intro @nn_b (And.intro @nn_i (And.intro @nn_s (And.intro @nn_np (And.intro @nn_ns (And.intro @nn_gp (And.intro @nn_ip (And.intro @nn_gs (And.intro @nn_vs (And.intro @n1_gp (And.intro @n1_i (And.intro @n1_ip (And.intro @all_n (And.intro @all_c (And.intro @sl_out (And.intro @sl_noLp (And.intro @Bool.and_true (@Bool.true_and)))))))))))))))))))))))))))))
theorem EL : type_of% (And.intro @t_m1t (And.intro @t_m1f (And.intro @t_m2t (And.intro @t_m2f (And.intro @m_ke (And.intro @m_kh (And.intro @map_n (And.intro @map_c (And.intro @app_n (And.intro @app_c (And.intro @p_call (And.intro @call_fn (And.intro @p_mkf (And.intro @push_s (And.intro @p_mks (And.intro @p_store (And.intro @st_s (And.intro @p_box (And.intro @box_l (And.intro @p_alloc (And.intro @alloc_l (And.intro @gl_c (And.intro @co_fn (And.intro @co_sl (And.intro @Bool.true_or (And.intro @Bool.false_or (And.intro @co_i (And.intro @co_b (And.intro @co_s (And.intro @co_a (And.intro @co_vs (And.intro @co_gs (And.intro @co_np (And.intro @co_ns (And.intro @t_d0 (And.intro @t_q (And.intro @t_a1 (And.intro @t_a2 (And.intro @t_st (And.intro @k_k (And.intro @opO_s (And.intro @oi_0 (And.intro @oi_s (And.intro @m_k (And.intro @m_e (And.intro @m_h (And.intro @m_l (And.intro @true_and (@and_true))))))))))))))))))))))))))))))))))))))))))))))))) := And.intro @t_m1t (And.intro @t_m1f (And.intro @t_m2t (And.intro @t_m2f (And.intro @m_ke (And.intro @m_kh (And.intro @map_n (And.intro @map_c (And.intro @app_n (And.intro @app_c (And.intro @p_call (And.intro @call_fn (And.intro @p_mkf (And.intro @push_s (And.intro @p_mks (And.intro @p_store (And.intro @st_s (And.intro @p_box (And.intro @box_l (And.intro @p_alloc (And.intro @alloc_l (And.intro @gl_c (And.intro @co_fn (And.intro @co_sl (And.intro @Bool.true_or (And.intro @Bool.false_or (And.intro @co_i (And.intro @co_b (And.intro @co_s (And.intro @co_a (And.intro @co_vs (And.intro @co_gs (And.intro @co_np (And.intro @co_ns (And.intro @t_d0 (And.intro @t_q (And.intro @t_a1 (And.intro @t_a2 (And.intro @t_st (And.intro @k_k (And.intro @opO_s (And.intro @oi_0 (And.intro @oi_s (And.intro @m_k (And.intro @m_e (And.intro @m_h (And.intro @m_l (And.intro @true_and (@and_true))))))))))))))))))))))))))))))))))))))))))))))))
end Go.AM
