import Derived.Test.YteaebikmfmggbaaDoorAmPlain
set_option linter.unusedVariables false
set_option linter.unusedSimpArgs false
namespace Go.AM
section
variable {P : Program} {Θ : Tab} {Γ : Glob}
theorem env_g0 (a : AV) (l : List AV) (d : AV) : (a :: l).getD 0 d = a := rfl
theorem env_g1 (a b : AV) (l : List AV) (d : AV) : (a :: b :: l).getD 1 d = b := rfl
theorem env_g2 (a b c : AV) (l : List AV) (d : AV) : (a :: b :: c :: l).getD 2 d = c := rfl
theorem env_g3 (a b c e : AV) (l : List AV) (d : AV) : (a :: b :: c :: e :: l).getD 3 d = e := rfl
theorem env_g4 (a0 a1 a2 a3 : AV) (l : List AV) (n : Nat) (d : AV) : (a0 :: a1 :: a2 :: a3 :: l).getD (n + 4) d = l.getD n d := rfl
theorem env_g16 (a0 a1 a2 a3 a4 a5 a6 a7 a8 a9 b0 b1 b2 b3 b4 b5 : AV) (l : List AV) (n : Nat) (d : AV) :
    (a0 :: a1 :: a2 :: a3 :: a4 :: a5 :: a6 :: a7 :: a8 :: a9 :: b0 :: b1 :: b2 :: b3 :: b4 :: b5 :: l).getD (n + 16) d = l.getD n d := rfl
theorem env_s0 (a : AV) (l : List AV) (v : AV) : (a :: l).set 0 v = v :: l := rfl
theorem env_s1 (a b : AV) (l : List AV) (v : AV) : (a :: b :: l).set 1 v = a :: v :: l := rfl
theorem env_s2 (a b c : AV) (l : List AV) (v : AV) : (a :: b :: c :: l).set 2 v = a :: b :: v :: l := rfl
theorem env_s3 (a b c e : AV) (l : List AV) (v : AV) : (a :: b :: c :: e :: l).set 3 v = a :: b :: c :: v :: l := rfl
theorem env_s4 (a0 a1 a2 a3 : AV) (l : List AV) (n : Nat) (v : AV) : (a0 :: a1 :: a2 :: a3 :: l).set (n + 4) v = a0 :: a1 :: a2 :: a3 :: l.set n v := rfl
theorem env_s16 (a0 a1 a2 a3 a4 a5 a6 a7 a8 a9 b0 b1 b2 b3 b4 b5 : AV) (l : List AV) (n : Nat) (v : AV) :
    (a0 :: a1 :: a2 :: a3 :: a4 :: a5 :: a6 :: a7 :: a8 :: a9 :: b0 :: b1 :: b2 :: b3 :: b4 :: b5 :: l).set (n + 16) v = a0 :: a1 :: a2 :: a3 :: a4 :: a5 :: a6 :: a7 :: a8 :: a9 :: b0 :: b1 :: b2 :: b3 :: b4 :: b5 :: l.set n v := rfl
theorem ev_t (e : List AV) (l : List (List AV)) (h : AH) (n : Nat) : (St.mk e l h).eval Γ (.t n) = e.getD n .any := rfl
theorem ev_c (s : St) (v : AV) : s.eval Γ (.c v) = v := rfl
theorem put_s (e : List AV) (l : List (List AV)) (h : AH) (d : Nat) (v : AV) : (St.mk e l h).put (some d) v = ⟨e.set d v, l, h⟩ := rfl
theorem put_n (s : St) (v : AV) : s.put none v = s := rfl
theorem gl_n : ∀ (gl : Gl) (g : Option (Nat × Bool)) (i : I), isGl gl ⟨none, g, i⟩ = false := fun _ _ _ => rfl
theorem gl_0 (d : Nat) (g : Option (Nat × Bool)) (i : I) : isGl [] ⟨some d, g, i⟩ = false := rfl
def opK (P : Program) (Γ : Glob) (K : St → Prop) (dst : Option Nat) (s : St) (g : Option Bool) (r : AR) : Prop :=
  match g with
  | none => False
  | some t => br t (match r with | .val v s' => K (s'.put dst v) | .call f args => TCall P Γ f args s fun v s' => K (s'.put dst v) | .stuck => False) (K (s.put dst (.tup [])))
theorem k_v (K : St → Prop) (d : Option Nat) (s : St) (v : AV) (s' : St) : opK P Γ K d s (some true) (.val v s') = K (s'.put d v) := propext (br_true _ _)
theorem k_c (K : St → Prop) (d : Option Nat) (s : St) (f : FuncId) (args : List AV) : opK P Γ K d s (some true) (.call f args) = TCall P Γ f args s fun v s' => K (s'.put d v) := propext (br_true _ _)
theorem k_f (K : St → Prop) (d : Option Nat) (s : St) (r : AR) : opK P Γ K d s (some false) r = K (s.put d (.tup [])) := propext (br_false _ _)
theorem o_n (gl : Gl) (os : List O) (K : St → Prop) (s : St) : awpOps P Γ gl os [] K s = K s := rfl
theorem o_c (gl : Gl) (os : List O) (o : O) (r : List O) (K : St → Prop) (s : St) : awpOps P Γ gl os (o :: r) K s = opK P Γ (awpOps P Γ gl os r K) o.dst s (guardOf os s o.gd) (step Γ (isGl gl o) s o.op) := by
  simp only [awpOps, opK]
  cases guardOf os s o.gd with
  | none => rfl
  | some t => cases step Γ (isGl gl o) s o.op <;> rfl
theorem gd_n (os : List O) (s : St) : guardOf os s none = some true := rfl
def odst : List O → Nat → Option Nat
  | [], _ => none
  | o :: _, 0 => o.dst
  | _ :: os, n + 1 => odst os n
theorem odst_eq : ∀ (os : List O) (j : Nat), (os[j]?).bind (·.dst) = odst os j
  | [], _ => by simp [odst]
  | o :: os, 0 => by simp [odst]
  | o :: os, n + 1 => by simpa [odst] using odst_eq os n
def gval (w : Bool) : AV → Option Bool | .bool b => some (b == w) | .any | .opq _ => none | _ => some false
def gdK (e : List AV) (w : Bool) : Option Nat → Option Bool | none => some false | some d => gval w (e.getD d (.tup []))
theorem od_0 (d : Option Nat) (g : Option (Nat × Bool)) (i : I) (os : List O) : odst (⟨d, g, i⟩ :: os) 0 = d := rfl
theorem od_s (o : O) (os : List O) (n : Nat) : odst (o :: os) (n + 1) = odst os n := rfl
theorem gd_s (os : List O) (e : List AV) (l : List (List AV)) (h : AH) (j : Nat) (w : Bool) : guardOf os ⟨e, l, h⟩ (some (j, w)) = gdK e w (odst os j) := by
  simp only [guardOf, odst_eq, gdK]
  cases odst os j with
  | none => rfl
  | some d =>
    simp only [List.getD_eq_getElem?_getD]
    cases e[d]? with
    | none => rfl
    | some v => cases v <;> rfl
theorem gk_s (e : List AV) (w : Bool) (d : Nat) : gdK e w (some d) = gval w (e.getD d (.tup [])) := rfl
theorem gv_t (b : Bool) : gval true (.bool b) = some b := by simp [gval]
theorem gv_f (b : Bool) : gval false (.bool b) = some (!b) := by simp [gval]
theorem gv_u (w : Bool) : gval w (.tup []) = some false := rfl
def condK (A B : St → Prop) (s : St) : AV → Prop
  | .bool t => br t (A s) (B s)
  | _ => False
theorem c_t (A B : St → Prop) (s : St) : condK A B s (.bool true) = A s := propext (br_true _ _)
theorem c_f (A B : St → Prop) (s : St) : condK A B s (.bool false) = B s := propext (br_false _ _)
theorem a_skip (gl : Gl) (Q : AE → St → Prop) (s : St) : aw P Θ Γ gl .skip Q s = Q .normal s := rfl
theorem a_reg (gl : Gl) (os : List O) (Q : AE → St → Prop) (s : St) : aw P Θ Γ gl (.reg os) Q s = awpOps P Γ gl os os (Q .normal) s := rfl
theorem a_seq (gl : Gl) (a b : C) (Q : AE → St → Prop) (s : St) : aw P Θ Γ gl (.seq a b) Q s = aw P Θ Γ gl a (thenQ (aw P Θ Γ gl b Q) Q) s := rfl
theorem a_cond (gl : Gl) (c : X) (a b : C) (Q : AE → St → Prop) (s : St) : aw P Θ Γ gl (.cond c a b) Q s = condK (aw P Θ Γ gl a Q) (aw P Θ Γ gl b Q) s (s.eval Γ c) := by
  simp only [aw, condK]; cases s.eval Γ c <;> rfl
theorem a_block (gl : Gl) (id : Nat) (c : C) (Q : AE → St → Prop) (s : St) : aw P Θ Γ gl (.block id c) Q s = aw P Θ Γ gl c (blockQ id Q) s := rfl
theorem a_loop (gl : Gl) (c : C) (Q : AE → St → Prop) (s : St) : aw P Θ Γ gl (.loop c) Q s = TC P Θ Γ (.loop c) Q s := rfl
theorem a_exit (gl : Gl) (id : Nat) (Q : AE → St → Prop) (s : St) : aw P Θ Γ gl (.exit id) Q s = Q (.exit id) s := rfl
theorem a_ret (gl : Gl) (Q : AE → St → Prop) (s : St) : aw P Θ Γ gl .ret Q s = Q .ret s := rfl
theorem q_tn (K : St → Prop) (Q : AE → St → Prop) : thenQ K Q .normal = K := rfl
theorem q_te (K : St → Prop) (Q : AE → St → Prop) (id : Nat) : thenQ K Q (.exit id) = Q (.exit id) := rfl
theorem q_tr (K : St → Prop) (Q : AE → St → Prop) : thenQ K Q .ret = Q .ret := rfl
theorem q_bn (id : Nat) (Q : AE → St → Prop) : blockQ id Q .normal = Q .normal := rfl
theorem q_br (id : Nat) (Q : AE → St → Prop) : blockQ id Q .ret = Q .ret := rfl
theorem q_be (id : Nat) (Q : AE → St → Prop) : blockQ id Q (.exit id) = Q .normal := by funext s; simp [blockQ]
theorem q_bx (id i : Nat) (Q : AE → St → Prop) (h : (i == id) = false) : blockQ id Q (.exit i) = Q (.exit i) := by
  funext s; simp only [blockQ]; rw [if_neg (by simpa using h)]
def isSeqD : Nat → Nat → D → Bool
  | 0, _, .done => true
  | n + 1, i, .q j d => i == j && isSeqD n (i + 1) d
  | _, _, _ => false
def allQ (os : List O) (af : List (List Nat)) : Bool := match sched os af os.length (List.replicate os.length false) with | some d => isSeqD os.length 0 d | none => false
theorem awpT_seq (gl : Gl) (os : List O) (K : St → Prop) : ∀ (n i : Nat) (d : D) (s : St), i + n = os.length → isSeqD n i d = true → awpT P Γ gl os K n d s = awpOps P Γ gl os (os.drop i) K s
  | 0, i, .done, s, hi, _ => by rw [List.drop_of_length_le (by omega)]; rfl
  | n + 1, i, .q j d, s, hi, h => by
    simp only [isSeqD, Bool.and_eq_true, beq_iff_eq] at h
    obtain ⟨rfl, h⟩ := h
    have hil : i < os.length := by omega
    rw [List.drop_eq_getElem_cons hil, o_c]
    simp only [awpT, opA, List.getElem?_eq_getElem hil, opK]
    cases guardOf os s os[i].gd with
    | none => rfl
    | some t =>
      have : ∀ s, awpT P Γ gl os K n d s = awpOps P Γ gl os (os.drop (i + 1)) K s := fun s => awpT_seq gl os K n (i + 1) d s (by omega) h
      have e : awpT P Γ gl os K n d = awpOps P Γ gl os (os.drop (i + 1)) K := funext this
      rw [e]
      simp only
      cases step Γ (isGl gl os[i]) s os[i].op <;> rfl
  | n + 1, _, .done, _, _, h => by simp [isSeqD] at h
  | n + 1, _, .all _, _, _, h => by simp [isSeqD] at h
  | 0, _, .q _ _, _, _, h => by simp [isSeqD] at h
  | 0, _, .all _, _, _, h => by simp [isSeqD] at h
  | n + 1, _, .st _ _ _, _, _, h => by simp [isSeqD] at h
  | 0, _, .st _ _ _, _, _, h => by simp [isSeqD] at h
theorem a_dq {os : List O} {af : List (List Nat)} (h : allQ os af = true) (gl : Gl) (Q : AE → St → Prop) (s : St) : aw P Θ Γ gl (.regD os af) Q s = awpOps P Γ gl os os (Q .normal) s := by
  unfold allQ at h
  simp only [aw]
  split at h
  · rename_i d hd
    rw [hd]
    exact awpT_seq gl os _ os.length 0 d s (by omega) h
  · cases h
theorem a_dd {os : List O} {af : List (List Nat)} {n : Nat} {d : D} (hn : os.length = n) (h : sched os af n (List.replicate n false) = some d) (gl : Gl) (Q : AE → St → Prop) (s : St) : aw P Θ Γ gl (.regD os af) Q s = awpT P Γ gl os (Q .normal) n d s := by
  subst hn
  simp only [aw, h]
theorem aw_awp (tab : TabOK P Θ) (hm : P.follows .mixedOrders = true) (gl : Gl) : ∀ (c : C) (Q : AE → St → Prop) (s : St), aw P Θ Γ gl c Q s → awp P Θ Γ gl c Q s := by
  intro c
  induction c with
  | skip => exact fun _ _ h => h
  | reg os => exact fun _ _ h => h
  | regD os af =>
    intro Q s h
    simp only [aw] at h
    split at h
    · rename_i d hd
      exact TC_regD tab hm gl (awpT_sound _ _ d s (closed_rep _ _) hd h)
    · exact h.elim
  | seq a b iha ihb =>
    intro Q s h
    exact awp_mono a s (fun e s he => by cases e <;> simp only [thenQ] at he ⊢ <;> first | exact ihb Q s he | exact he) (iha _ s h)
  | cond c a b iha ihb =>
    intro Q s h
    simp only [aw, awp] at h ⊢
    split at h
    · rename_i t ht
      simp only [ht]
      exact ⟨fun ht => iha Q s (h.1 ht), fun ht => ihb Q s (h.2 ht)⟩
    · exact h.elim
  | block id c ih => exact fun Q s h => ih _ s h
  | loop c => exact fun _ _ h => h
  | exit id => exact fun _ _ h => h
  | ret => exact fun _ _ h => h
theorem loop (tab : TabOK P Θ) (hm : P.follows .mixedOrders = true) (gl : Gl) {c : C} {Q : AE → St → Prop} {s : St} {α : Type} (μ : α → Nat) (st : α → St) (x : α) (hs : Le s (st x))
    (round : ∀ x, aw P Θ Γ gl c (thenQ (fun s' => ∃ y, μ y < μ x ∧ Le s' (st y)) Q) (st x)) : TC P Θ Γ (.loop c) Q s :=
  TC.le hs (TC_loop tab gl μ st (fun x => aw_awp tab hm gl _ _ _ (round x)) x)
def retV (K : AV → AH → Prop) (h : AH) : Option AV → Prop
  | some v => outOK v = true ∧ K v h
  | none => False
theorem r_r (rs : List RS) (K : AV → AH → Prop) (s : St) : retQ rs K .ret s = retV K s.heap (outV s rs) := by
  simp only [retQ, retV]; cases outV s rs <;> rfl
theorem r_n (rs : List RS) (K : AV → AH → Prop) (s : St) : retQ rs K .normal s = retV K s.heap (outV s rs) := by
  simp only [retQ, retV]; cases outV s rs <;> rfl
theorem r_v (K : AV → AH → Prop) (h : AH) (v : AV) : retV K h (some v) = (outOK v = true ∧ K v h) := rfl
theorem ov1 (s : St) (r : RS) : outV s [r] = resV s r := rfl
theorem ov2 (s : St) (r q : RS) (l : List RS) : outV s (r :: q :: l) = ((r :: q :: l).mapM (resV s)).map .tup := rfl
theorem rv_t (e : List AV) (l : List (List AV)) (h : AH) (n : Nat) : resV ⟨e, l, h⟩ (.t n) = some (e.getD n .any) := rfl
theorem rv_c (e : List AV) (l : List (List AV)) (h : AH) (a n : Nat) (agg : Bool) : resV ⟨e, l, h⟩ (.cell a n agg) = ((St.mk e l h).cells (e.getD a .any) n).bind (wrapAgg agg) := rfl
theorem x_ofO (s : St) (v : AV) : AR.ofO s (some v) = .val v s := rfl
theorem x_ofS (s : St) : AR.ofS (some s) = .val (.tup []) s := rfl
theorem x_ofP (v : AV) (s : St) : AR.ofP (some (v, s)) = .val v s := rfl
theorem p_mov (gl : Bool) (s : St) (x : X) : step Γ gl s (.mov x) = .val (s.eval Γ x) s := rfl
theorem p_bin (gl : Bool) (s : St) (op : BinOp) (ek : EK) (x y : X) : step Γ gl s (.bin op ek x y) = .ofO s (aBin op ek (s.eval Γ x) (s.eval Γ y)) := rfl
def pickK (a b : AV) (s : St) : AV → AR | .bool t => .val (if t = true then a else b) s | _ => .stuck
theorem p_pick (gl : Bool) (s : St) (c a b : X) : step Γ gl s (.pick c a b) = pickK (s.eval Γ a) (s.eval Γ b) s (s.eval Γ c) := by simp only [step, pickK]; cases s.eval Γ c <;> rfl
theorem pk_b (a b : AV) (s : St) (t : Bool) : pickK a b s (.bool t) = .val (if t = true then a else b) s := rfl
theorem p_un (gl : Bool) (s : St) (op : UnOp) (x : X) : step Γ gl s (.un op x) = .ofO s (aUn op (s.eval Γ x)) := rfl
def lenI (b : Bool) (v : AV) : Option AV := (lenK b v).map fun n : Nat => .int .i64 (n : Int)
theorem p_len (gl : Bool) (s : St) (b : Bool) (x : X) : step Γ gl s (.len b x) = .ofO s (lenI b (s.eval Γ x)) := by
  simp only [step, lenI]; cases lenK b (s.eval Γ x) <;> rfl
def idxsK (s : St) (sz : Nat) (x : AV) : AV → AR | .int _ n => .ofO s (aIdxs sz x n) | _ => .stuck
theorem p_idxs (gl : Bool) (s : St) (sz : Nat) (x i : X) : step Γ gl s (.idxs sz x i) = idxsK s sz (s.eval Γ x) (s.eval Γ i) := by simp only [step, idxsK]; cases s.eval Γ i <;> rfl
theorem idxsK_i (s : St) (sz : Nat) (x : AV) (k : IntKind) (n : Int) : idxsK s sz x (.int k n) = .ofO s (aIdxs sz x n) := rfl
theorem p_load (gl : Bool) (s : St) (n : Nat) (b : Bool) (a : X) : step Γ gl s (.load n b a) = .ofO s ((s.cells (s.eval Γ a) n).bind (wrapAgg b)) := rfl
theorem p_fld (gl : Bool) (s : St) (off : Nat) (x : X) : step Γ gl s (.fld off x) = .ofO s (aFld off (s.eval Γ x)) := rfl
theorem b_eq (k : IntKind) (a b : Int) : aBin .eql .num (.int k a) (.int k b) = some (.bool (a == b)) := by simp [aBin, aArith]
theorem b_ne (k : IntKind) (a b : Int) : aBin .neq .num (.int k a) (.int k b) = some (.bool (a != b)) := by simp [aBin, aArith]
theorem b_lt (k : IntKind) (a b : Int) : aBin .lss .num (.int k a) (.int k b) = some (.bool (decide (a < b))) := by simp [aBin, aArith]
theorem b_le (k : IntKind) (a b : Int) : aBin .leq .num (.int k a) (.int k b) = some (.bool (decide (a ≤ b))) := by simp [aBin, aArith]
theorem b_gt (k : IntKind) (a b : Int) : aBin .gtr .num (.int k a) (.int k b) = some (.bool (decide (b < a))) := by simp [aBin, aArith]
theorem b_ge (k : IntKind) (a b : Int) : aBin .geq .num (.int k a) (.int k b) = some (.bool (decide (b ≤ a))) := by simp [aBin, aArith]
theorem b_add (k : IntKind) (a b : Int) : aBin .add .num (.int k a) (.int k b) = some (.int k (k.wrap (a + b))) := by simp [aBin, aArith]
theorem b_sub (k : IntKind) (a b : Int) : aBin .sub .num (.int k a) (.int k b) = some (.int k (k.wrap (a - b))) := by simp [aBin, aArith]
theorem b_mul (k : IntKind) (a b : Int) : aBin .mul .num (.int k a) (.int k b) = some (.int k (k.wrap (a * b))) := by simp [aBin, aArith]
theorem b_bne (a b : Bool) : aBin .neq .bool (.bool a) (.bool b) = some (.bool !(a == b)) := rfl
theorem b_beq (a b : Bool) : aBin .eql .bool (.bool a) (.bool b) = some (.bool (a == b)) := rfl
theorem b_sne (a b : ByteArray) : aBin .neq .num (.str a) (.str b) = some (.bool !(a.toList == b.toList)) := rfl
theorem b_seq (a b : ByteArray) : aBin .eql .num (.str a) (.str b) = some (.bool (a.toList == b.toList)) := rfl
theorem u_not (b : Bool) : aUn .not (.bool b) = some (.bool !b) := rfl
theorem f_ip (off : Nat) (β : Bool) (cs : List AV) : aFld off (.ip β cs) = some (.ip β (cs.drop off)) := rfl
theorem f_lp (off i o : Nat) : aFld off (.lp i o) = some (.lp i (o + off)) := rfl
theorem f_gp (off b g o : Nat) : aFld off (.gp b g o) = some (.gp b g (o + off)) := rfl
theorem l_ip (s : St) (β : Bool) (cs : List AV) (n : Nat) : s.cells (.ip β cs) n = sub cs 0 n := rfl
theorem w_1 (x : AV) : wrapAgg false [x] = some x := rfl
theorem w_a (cs : List AV) : wrapAgg true cs = some (.agg cs) := rfl
inductive SH where
  | nil | v (β ex : Bool)
  deriving DecidableEq, Inhabited
def SH.β : SH → Bool | .nil => false | .v β _ => β
def sl (s : SH) (sz : Nat) (xs : List (List AV)) : AV := match s with | .nil => .nils | .v β ex => .vs β sz ex xs
def SH.ok (s : SH) (n : Nat) : Prop := s = .nil → n = 0
theorem sub1 (x : AV) : sub [x] 0 1 = some [x] := rfl
theorem EV : type_of% (And.intro @a_skip (And.intro @a_reg (And.intro @a_seq (And.intro @a_cond (And.intro @a_block (And.intro @a_loop (And.intro @a_exit (And.intro @a_ret (And.intro @q_tn (And.intro @q_te (And.intro @q_tr (And.intro @q_bn (And.intro @q_br (And.intro @q_be (And.intro @o_n (And.intro @o_c (And.intro @k_v (And.intro @k_c (And.intro @k_f (And.intro @c_t (And.intro @c_f (And.intro @gd_n (And.intro @gl_n (And.intro @gl_0 (And.intro @put_s (And.intro @put_n (And.intro @ev_t (And.intro @ev_c (And.intro @env_g0 (And.intro @env_g1 (And.intro @env_g2 (And.intro @env_g3 (And.intro @env_g4 (And.intro @env_g16 (And.intro @env_s0 (And.intro @env_s1 (And.intro @env_s2 (And.intro @env_s3 (And.intro @env_s4 (And.intro @env_s16 (And.intro @x_ofO (And.intro @x_ofS (And.intro @x_ofP (And.intro @p_mov (And.intro @p_bin (And.intro @p_un (And.intro @p_len (And.intro @p_idxs (And.intro @idxsK_i (And.intro @p_load (And.intro @p_fld (And.intro @b_eq (And.intro @b_ne (And.intro @b_lt (And.intro @b_le (And.intro @b_gt (And.intro @b_ge (And.intro @b_add (And.intro @b_sub (And.intro @b_mul (And.intro @u_not (And.intro @b_bne (And.intro @b_beq (And.intro @b_sne (And.intro @b_seq (And.intro @f_ip (And.intro @f_lp (And.intro @f_gp (And.intro @l_ip (And.intro @w_1 (And.intro @w_a (And.intro @r_r (And.intro @r_n (And.intro @r_v (And.intro @gd_s (And.intro @gk_s (And.intro @od_0 (And.intro @od_s (And.intro @gv_t (And.intro @gv_f (And.intro @gv_u (And.intro @p_pick (And.intro @pk_b (And.intro @ov1 (And.intro @ov2 (And.intro @rv_t (And.intro @rv_c (@sub1)))))))))))))))))))))))))))))))))))))))))))))))))))))))))))))))))))))))))))))))))))))))) := And.intro @a_skip (And.intro @a_reg (And.intro @a_seq (And.intro @a_cond (And.intro @a_block (And.intro @a_loop (And.intro @a_exit (And.intro @a_ret (And.intro @q_tn (And.intro @q_te (And.intro @q_tr (And.intro @q_bn (And.intro @q_br (And.intro @q_be (And.intro @o_n (And.intro @o_c (And.intro @k_v (And.intro @k_c (And.intro @k_f (And.intro @c_t (And.intro @c_f (And.intro @gd_n (And.intro @gl_n (And.intro @gl_0 (And.intro @put_s (And.intro @put_n (And.intro @ev_t (And.intro @ev_c (And.intro @env_g0 (And.intro @env_g1 (And.intro @env_g2 (And.intro @env_g3 (And.intro @env_g4 (And.intro @env_g16 (And.intro @env_s0 (And.intro @env_s1 (And.intro @env_s2 (And.intro @env_s3 (And.intro @env_s4 (And.intro @env_s16 (And.intro @x_ofO (And.intro @x_ofS (And.intro @x_ofP (And.intro @p_mov (And.intro @p_bin (And.intro @p_un (And.intro @p_len (And.intro @p_idxs (And.intro @idxsK_i (And.intro @p_load (And.intro @p_fld (And.intro @b_eq (And.intro @b_ne (And.intro @b_lt (And.intro @b_le (And.intro @b_gt (And.intro @b_ge (And.intro @b_add (And.intro @b_sub (And.intro @b_mul (And.intro @u_not (And.intro @b_bne (And.intro @b_beq (And.intro @b_sne (And.intro @b_seq (And.intro @f_ip (And.intro @f_lp (And.intro @f_gp (And.intro @l_ip (And.intro @w_1 (And.intro @w_a (And.intro @r_r (And.intro @r_n (And.intro @r_v (And.intro @gd_s (And.intro @gk_s (And.intro @od_0 (And.intro @od_s (And.intro @gv_t (And.intro @gv_f (And.intro @gv_u (And.intro @p_pick (And.intro @pk_b (And.intro @ov1 (And.intro @ov2 (And.intro @rv_t (And.intro @rv_c (@sub1)))))))))))))))))))))))))))))))))))))))))))))))))))))))))))))))))))))))))))))))))))))))
end
end Go.AM
