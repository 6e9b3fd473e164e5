import Derived.Test.YtjohoameeeaafaaR1M
import Derived.Test.YtjohoameeeaafaaAmVal
set_option linter.unusedVariables false
set_option linter.unusedSimpArgs false
namespace Go.Proofs.Ytjohoameeeaafaa
open Go.AM
set_option linter.unusedVariables false
set_option linter.unusedSimpArgs false
variable {Γ : Glob}
/-! What is drawn. -/
theorem set_store {H : AH} {b : Nat} {cs : List AV} {off : Nat} {v : AV} (hg : hget H b = some (0, cs)) (ho : off + 1 ≤ cs.length) (hv : noLp v = true) (e : List AV) (l : List (List AV)) : (St.mk e l H).store (.gp b 0 off) [v] = some ⟨e, l, H.set b (some (0, over cs off [v]))⟩ := by
  simp only [St.store, hg, Option.bind_some, if_true, List.length_cons, List.length_nil, Nat.zero_add]
  rw [if_pos ho]; simp [hv]
theorem hget_set {H : AH} {b : Nat} {x : Nat × List AV} (h : b < H.length) : hget (H.set b (some x)) b = some x := by simp [hget, h]
theorem mask255 (a : Int) : ∃ x, aBin .and .num (.int .i64 a) (.int .i64 255) = some (.int .i64 x) ∧ 0 ≤ x ∧ x ≤ 255 := and_mask a (m := 255) (by omega)

theorem spec_l1Byte_T (H : AH) {b : Nat} {bs : List Int} (hb : bs.length ≤ 1073741824) (hc : Cur H b bs) : T Try.prog Γ Fn.spec_l1Byte [.gp b 0 0] H fun v h' => ∃ x : Int, v = .int .i64 x ∧ 0 ≤ x ∧ x ≤ 255 ∧ Cur h' b bs ∧ h'.length = H.length ∧ ∀ c, c ≠ b → h'[c]? = H[c]? := by
  obtain ⟨i, hh, hi, hg⟩ := hc
  have hbl : b < H.length := hget_lt hg
  have L0 := len_vm false 1 false bs (fun n => [AV.int .u8 n])
  have cl : ∀ (e : List AV) (l : List (List AV)) (off n : Nat), (St.mk e l H).cells (.gp b 0 off) n = sub [.vs false 1 false (bs.map fun n => [.int .u8 n]), .int .i64 i, .int .i64 hh] off n := fun e l off n => cells_gp hg
  refine spec_l1Byte_e (aw_sound tabOK mixed [] _ _ _ ?_)
  unfold spec_l1Byte_c
  obtain ⟨h1, e1⟩ : ∃ h1, h1 = IntKind.i64.wrap (IntKind.i64.wrap (hh * 6364136223846793005) + 1442695040888963407) := ⟨_, rfl⟩
  have st := set_store (off := 2) (v := .int .i64 h1) hg (by simp) rfl
  have eo : over [AV.vs false 1 false (bs.map fun n => [.int .u8 n]), .int .i64 i, .int .i64 hh] 2 [.int .i64 h1] = [.vs false 1 false (bs.map fun n => [.int .u8 n]), .int .i64 i, .int .i64 h1] := rfl
  rw [eo] at st
  obtain ⟨H1, hH1⟩ : ∃ H1, H1 = H.set b (some (0, [.vs false 1 false (bs.map fun n => [.int .u8 n]), .int .i64 i, .int .i64 h1])) := ⟨_, rfl⟩
  rw [← hH1] at st
  have hg1 : hget H1 b = some (0, [.vs false 1 false (bs.map fun n => [.int .u8 n]), .int .i64 i, .int .i64 h1]) := by rw [hH1]; exact hget_set hbl
  have cl1 : ∀ (e : List AV) (l : List (List AV)) (off n : Nat), (St.mk e l H1).cells (.gp b 0 off) n = sub [.vs false 1 false (bs.map fun n => [.int .u8 n]), .int .i64 i, .int .i64 h1] off n := fun e l off n => cells_gp hg1
  have hl1 : H1.length = H.length := by rw [hH1]; simp
  have hf1 : ∀ c, c ≠ b → H1[c]? = H[c]? := fun c hc => by rw [hH1]; exact List.getElem?_set_ne (Ne.symm hc)
  obtain ⟨x1, s1⟩ := shr_ex .i64 .u64 h1 (b := 33) (by omega)
  obtain ⟨x2, s2⟩ := shr_ex .i64 .u64 h1 (b := 47) (by omega)
  obtain ⟨x3, s3⟩ := xor_ex .i64 x1 x2
  obtain ⟨x4, s4, x40, x41⟩ := mask255 x3
  simp only [EV, EL, EB, EF, q_bx, if_true, if_false, Bool.false_eq_true, Nat.reduceAdd, Option.bind_some, Bool.not_true, Bool.not_false, Nat.reduceBEq, spec_l1Byte_r, spec_l1Byte_d0_q, spec_l1Byte_d1_q, spec_l1Byte_d2_q, cl, ← e1, st, cl1, s1, s2, s3, s4, L0]
  by_cases hlt : i < (bs.length : Int)
  rotate_left
  · simp only [EV, EL, EB, EF, q_bx, if_true, if_false, Bool.false_eq_true, Nat.reduceAdd, Option.bind_some, Bool.not_true, Bool.not_false, Nat.reduceBEq, spec_l1Byte_r, spec_l1Byte_d0_q, spec_l1Byte_d1_q, spec_l1Byte_d2_q, decide_eq_false hlt]
    first | exact ⟨rfl, x4, rfl, x40, x41, ⟨i, h1, hi, hg1⟩, hl1, hf1⟩ | exact ⟨x4, rfl, x40, x41, ⟨i, h1, hi, hg1⟩, hl1, hf1⟩
  obtain ⟨k, rfl⟩ : ∃ k : Nat, i = k := ⟨i.toNat, by omega⟩
  have hk : k < bs.length := by omega
  have i0 := idx_vm (β := false) (sz := 1) (ex := false) (ce := fun n : Int => [AV.int .u8 n]) hk
  obtain ⟨x5, s5, x50, x51⟩ := mask255 (IntKind.i64.wrap (x4 + IntKind.i64.wrap bs[k]))
  have st2 := set_store (off := 1) (v := .int .i64 (IntKind.i64.wrap ((k : Int) + 1))) hg1 (by simp) rfl
  have hw : IntKind.i64.wrap ((k : Int) + 1) = ((k + 1 : Nat) : Int) := wN (by omega)
  simp only [EV, EL, EB, EF, q_bx, if_true, if_false, Bool.false_eq_true, Nat.reduceAdd, Option.bind_some, Bool.not_true, Bool.not_false, Nat.reduceBEq, spec_l1Byte_r, spec_l1Byte_d0_q, spec_l1Byte_d1_q, spec_l1Byte_d2_q, decide_eq_true hlt, cl1, i0, p_cvi, s5, st2]
  have hbl1 : b < H1.length := by omega
  have fin : Cur (H1.set b (some (0, over [AV.vs false 1 false (bs.map fun n => [.int .u8 n]), .int .i64 (k : Int), .int .i64 h1] 1 [.int .i64 (IntKind.i64.wrap ((k : Int) + 1))]))) b bs := ⟨((k + 1 : Nat) : Int), h1, by omega, by rw [hget_set hbl1, hw]; rfl⟩
  have hl2 : (H1.set b (some (0, over [AV.vs false 1 false (bs.map fun n => [.int .u8 n]), .int .i64 (k : Int), .int .i64 h1] 1 [.int .i64 (IntKind.i64.wrap ((k : Int) + 1))]))).length = H.length := by simp [hl1]
  have hf2 : ∀ c, c ≠ b → (H1.set b (some (0, over [AV.vs false 1 false (bs.map fun n => [.int .u8 n]), .int .i64 (k : Int), .int .i64 h1] 1 [.int .i64 (IntKind.i64.wrap ((k : Int) + 1))])))[c]? = H[c]? := fun c hc => by rw [List.getElem?_set_ne (Ne.symm hc)]; exact hf1 c hc
  first | exact ⟨rfl, x5, rfl, x50, x51, fin, hl2, hf2⟩ | exact ⟨x5, rfl, x50, x51, fin, hl2, hf2⟩

theorem rem_ex {x n : Int} (hx : 0 ≤ x) (hn : 0 < n) : ∃ r, aBin .rem .num (.int .i64 x) (.int .i64 n) = some (.int .i64 r) ∧ 0 ≤ r ∧ r < n := by
  refine ⟨x.tmod n, ?_, ?_, ?_⟩
  · simp only [aBin, aArith, if_true]; rw [if_neg (by omega)]
  · exact Int.tmod_nonneg n hx
  · exact Int.tmod_lt_of_pos x hn

/-- What a draw leaves: the cursor moved, all else as before. -/
structure Drew (H h' : AH) (b : Nat) (bs : List Int) : Prop where
  cur : Cur h' b bs
  len : h'.length = H.length
  fr : ∀ c, c ≠ b → h'[c]? = H[c]?
theorem Drew.trans {H h1 h2 : AH} {b : Nat} {bs : List Int} (a : Drew H h1 b bs) (c : Drew h1 h2 b bs) : Drew H h2 b bs := ⟨c.cur, c.len.trans a.len, fun x hx => (c.fr x hx).trans (a.fr x hx)⟩

theorem l1Byte_D (H : AH) {b : Nat} {bs : List Int} (hb : bs.length ≤ 1073741824) (hc : Cur H b bs) : T Try.prog Γ Fn.spec_l1Byte [.gp b 0 0] H fun v h' => ∃ x : Int, v = .int .i64 x ∧ 0 ≤ x ∧ x ≤ 255 ∧ Drew H h' b bs :=
  (spec_l1Byte_T H hb hc).mono fun v h' ⟨x, e, h0, h1, h2, h3, h4⟩ => ⟨x, e, h0, h1, ⟨h2, h3, h4⟩⟩

theorem spec_l1Below_T (H : AH) {b : Nat} {bs : List Int} (hb : bs.length ≤ 1073741824) (hc : Cur H b bs) (n : Int) : T Try.prog Γ Fn.spec_l1Below [.gp b 0 0, .int .i64 n] H fun v h' => ∃ x : Int, v = .int .i64 x ∧ 0 ≤ x ∧ (0 < n → x < n) ∧ Drew H h' b bs := by
  have h0 : Drew H H b bs := ⟨hc, rfl, fun _ _ => rfl⟩
  refine spec_l1Below_e (aw_sound tabOK mixed [] _ _ _ ?_)
  unfold spec_l1Below_c
  by_cases c1 : n ≤ 0
  · simp only [EV, EL, EB, EF, q_bx, if_true, if_false, Bool.false_eq_true, Nat.reduceAdd, Option.bind_some, Bool.not_true, Bool.not_false, Nat.reduceBEq, spec_l1Below_r, decide_eq_true c1]
    first | exact ⟨rfl, 0, rfl, by omega, fun h => by omega, h0⟩ | exact ⟨0, rfl, by omega, fun h => by omega, h0⟩
  by_cases c2 : n ≤ 256
  · simp only [EV, EL, EB, EF, q_bx, if_true, if_false, Bool.false_eq_true, Nat.reduceAdd, Option.bind_some, Bool.not_true, Bool.not_false, Nat.reduceBEq, spec_l1Below_r, decide_eq_false c1, decide_eq_true c2]
    refine TCall.ref (by simp only [EO]) (l1Byte_D _ hb hc) ?_
    rintro _ H1 ⟨x, rfl, x0, x1, d1⟩
    replace d1 : Drew H H1 b bs := d1
    obtain ⟨r, e, r0, r1⟩ := rem_ex x0 (show 0 < n by omega)
    simp only [EV, EL, EB, EF, q_bx, if_true, if_false, Bool.false_eq_true, Nat.reduceAdd, Option.bind_some, Bool.not_true, Bool.not_false, Nat.reduceBEq, spec_l1Below_r, e]
    first | exact ⟨rfl, r, rfl, r0, fun _ => r1, d1⟩ | exact ⟨r, rfl, r0, fun _ => r1, d1⟩
  simp only [EV, EL, EB, EF, q_bx, if_true, if_false, Bool.false_eq_true, Nat.reduceAdd, Option.bind_some, Bool.not_true, Bool.not_false, Nat.reduceBEq, spec_l1Below_r, decide_eq_false c1, decide_eq_false c2]
  refine TCall.ref (by simp only [EO]) (l1Byte_D _ hb hc) ?_
  rintro _ H1 ⟨x, rfl, x0, x1, d1⟩
  replace d1 : Drew H H1 b bs := d1
  simp only [EV, EL, EB, EF, q_bx, if_true, if_false, Bool.false_eq_true, Nat.reduceAdd, Option.bind_some, Bool.not_true, Bool.not_false, Nat.reduceBEq, spec_l1Below_r]
  refine TCall.ref (by simp only [EO]) (l1Byte_D _ hb d1.cur) ?_
  rintro _ H2 ⟨y, rfl, y0, y1, d2⟩
  replace d2 : Drew H1 H2 b bs := d2
  simp only [EV, EL, EB, EF, q_bx, if_true, if_false, Bool.false_eq_true, Nat.reduceAdd, Option.bind_some, Bool.not_true, Bool.not_false, Nat.reduceBEq, spec_l1Below_r]
  refine TCall.ref (by simp only [EO]) (l1Byte_D _ hb d2.cur) ?_
  rintro _ H3 ⟨z, rfl, z0, z1, d3⟩
  replace d3 : Drew H2 H3 b bs := d3
  have w1 : IntKind.i64.wrap (x * 65536) = x * 65536 := by
    have : x * 65536 = ((x.toNat * 65536 : Nat) : Int) := by omega
    rw [this]; exact wrap_nat (by omega) (by omega)
  have w2 : IntKind.i64.wrap (y * 256) = y * 256 := by
    have : y * 256 = ((y.toNat * 256 : Nat) : Int) := by omega
    rw [this]; exact wrap_nat (by omega) (by omega)
  have w3 : IntKind.i64.wrap (x * 65536 + y * 256) = x * 65536 + y * 256 := by
    have : x * 65536 + y * 256 = ((x.toNat * 65536 + y.toNat * 256 : Nat) : Int) := by omega
    rw [this]; exact wrap_nat (by omega) (by omega)
  have w4 : IntKind.i64.wrap (x * 65536 + y * 256 + z) = x * 65536 + y * 256 + z := by
    have : x * 65536 + y * 256 + z = ((x.toNat * 65536 + y.toNat * 256 + z.toNat : Nat) : Int) := by omega
    rw [this]; exact wrap_nat (by omega) (by omega)
  obtain ⟨r, e, r0, r1⟩ := rem_ex (show 0 ≤ x * 65536 + y * 256 + z by omega) (show 0 < n by omega)
  simp only [EV, EL, EB, EF, q_bx, if_true, if_false, Bool.false_eq_true, Nat.reduceAdd, Option.bind_some, Bool.not_true, Bool.not_false, Nat.reduceBEq, spec_l1Below_r, w1, w2, w3, w4, e]
  have d := (d1.trans d2).trans d3
  first | exact ⟨rfl, r, rfl, r0, fun _ => r1, d⟩ | exact ⟨r, rfl, r0, fun _ => r1, d⟩

theorem l1Below_X (H : AH) {b : Nat} {bs : List Int} (hb : bs.length ≤ 1073741824) (hc : Cur H b bs) (n : Int) : T Try.prog Γ Fn.spec_l1Below [.gp b 0 0, .int .i64 n] H fun v h' => ∃ x : Int, v = .int .i64 x ∧ 0 ≤ x ∧ (0 < n → x < n) ∧ DrewX H h' b bs :=
  (spec_l1Below_T H hb hc n).mono fun v h' ⟨x, e, h0, h1, d⟩ => ⟨x, e, h0, h1, ⟨d.cur, Nat.le_of_eq d.len.symm, fun c _ hcb => d.fr c hcb⟩⟩

theorem spec_l1Int_T (H : AH) {b : Nat} {bs : List Int} (hb : bs.length ≤ 1073741824) (hc : Cur H b bs) {w : AV} {fp : List Nat} {l : List Int} (o : Own H w (.sl 1 (l.map fun n => [.i .i64 n])) fp) (hbf : b ∉ fp) (h0 : 0 < l.length) :
    T Try.prog Γ Fn.spec_l1Int [.gp b 0 0, w] H fun v h' => ∃ x : Int, v = .int .i64 x ∧ DrewX H h' b bs := by
  obtain ⟨c1, c2, c3, c4⟩ := o.cell
  have La := (len_own o).2
  rw [List.length_map] at La
  refine spec_l1Int_e (aw_sound tabOK mixed [] _ _ _ ?_)
  unfold spec_l1Int_c
  simp only [EV, EL, EB, EF, q_bx, if_true, if_false, Bool.false_eq_true, Nat.reduceAdd, Option.bind_some, Bool.not_true, Bool.not_false, Nat.reduceBEq, spec_l1Int_r, La]
  refine TCall.ref (by simp only [EO]) (l1Below_X _ hb hc _) ?_
  rintro _ H1 ⟨x, rfl, x0, x1, d1⟩
  replace d1 : DrewX H H1 b bs := d1
  obtain ⟨k, rfl⟩ : ∃ k : Nat, x = k := ⟨x.toNat, by omega⟩
  have hk : k < l.length := by have := x1 (by omega); omega
  obtain ⟨p, e1, e2⟩ := own_int (d1.own o hbf) hk
  simp only [EV, EL, EB, EF, q_bx, if_true, if_false, Bool.false_eq_true, Nat.reduceAdd, Option.bind_some, Bool.not_true, Bool.not_false, Nat.reduceBEq, spec_l1Int_r, e1, e2]
  first | exact ⟨rfl, _, rfl, d1⟩ | exact ⟨_, rfl, d1⟩

theorem ints_own (h : AH) (l : List Int) {n : Nat} (hn : l.length = n) : Own (h ++ [some (0, (l.map fun n => [AV.int .i64 n]).flatten)]) (.gs h.length 0 0 n n 1 true) (.sl 1 (l.map fun n => [.i .i64 n])) [h.length] := by
  subst hn
  have hl : (l.map fun n => [AV.int .i64 n]).flatten = (l.map fun n => [CD.i .i64 n]).flatten.map (CD.av false) := by simp [List.map_flatten, Function.comp_def, CD.av_i]
  have := Own.sl_mk (h := h ++ [some (0, (l.map fun n => [AV.int .i64 n]).flatten)]) (b := h.length) (g := 0) (cap := l.length) (sz := 1) (ex := true) («as» := (l.map fun n => [AV.int .i64 n]).flatten) (tail := []) (xs := l.map fun n => [CD.i .i64 n]) (fp := [])
    (by rw [List.append_nil]; exact hget_last _ _) (fun y hy => by obtain ⟨x, _, rfl⟩ := List.mem_map.1 hy; rfl) (by simp) (by simp) (by rw [hl]; exact flat_ownL false (ints_flatG l))
  simpa using this
theorem rp_5 (z : AV) : (List.replicate 5 [z]).flatten = [z, z, z, z, z] := rfl
theorem rp_4 (z : AV) : (List.replicate 4 [z]).flatten = [z, z, z, z] := rfl
theorem spec_BrokenValue_Td (h : AH) : T Try.prog Γ Fn.spec_BrokenValue [] h fun v h' => v = .agg ((DValue.mk 2 0).c false) ∧ h' = h := by
  refine spec_BrokenValue_e (aw_sound tabOK mixed [] _ _ _ ?_)
  unfold spec_BrokenValue_c
  simp only [EV, EL, EB, EF, q_bx, if_true, if_false, Bool.false_eq_true, Nat.reduceAdd, Option.bind_some, Bool.not_true, Bool.not_false, Nat.reduceBEq, spec_BrokenValue_r]
  first | exact ⟨rfl, rfl⟩ | exact rfl
theorem spec_RefValue_T (n : Int) (h : AH) : T Try.prog Γ Fn.spec_RefValue [.int .i64 n] h fun v h' => v = .agg ((DValue.mk 1 n).c false) ∧ h' = h := by
  refine spec_RefValue_e (aw_sound tabOK mixed [] _ _ _ ?_)
  unfold spec_RefValue_c
  simp only [EV, EL, EB, EF, q_bx, if_true, if_false, Bool.false_eq_true, Nat.reduceAdd, Option.bind_some, Bool.not_true, Bool.not_false, Nat.reduceBEq, spec_RefValue_r]
  first | exact ⟨rfl, rfl⟩ | exact rfl
theorem rem_any {x n : Int} (hn : 0 < n) : ∃ r, aBin .rem .num (.int .i64 x) (.int .i64 n) = some (.int .i64 r) ∧ -n < r ∧ r < n := by
  refine ⟨x.tmod n, ?_, ?_, ?_⟩
  · simp only [aBin, aArith, if_true]; rw [if_neg (by omega)]
  · have := Int.tmod_lt_of_pos (-x) hn; rw [Int.neg_tmod] at this; omega
  · exact Int.tmod_lt_of_pos x hn
def inRd (n lo hi : Int) : Bool := decide (lo ≤ n) && decide (n ≤ hi)
theorem spec_l1In_Td (n lo hi : Int) (h : AH) : T Try.prog Γ Fn.spec_l1In [.int .i64 n, .int .i64 lo, .int .i64 hi] h fun v h' => v = .bool (inRd n lo hi) ∧ h' = h := by
  refine spec_l1In_e (aw_sound tabOK mixed [] _ _ _ ?_)
  unfold spec_l1In_c
  by_cases c1 : lo ≤ n <;> by_cases c2 : n ≤ hi <;> (simp only [EV, EL, EB, EF, q_bx, if_true, if_false, Bool.false_eq_true, Nat.reduceAdd, Option.bind_some, Bool.not_true, Bool.not_false, Nat.reduceBEq, spec_l1In_r, c1, c2, decide_true, decide_false]; first | exact ⟨rfl, by simp [inRd, c1, c2]⟩ | simp [inRd, c1, c2])
theorem spec_Mod_T (n m : Int) (h0 : 1 ≤ m) (h1 : m ≤ 1000000000000) (h : AH) : T Try.prog Γ Fn.spec_Mod [.int .i64 n, .int .i64 m] h fun v h' => (∃ x : Int, v = .int .i64 x ∧ 0 ≤ x ∧ x < m) ∧ h' = h := by
  obtain ⟨r, e1, r0, r1⟩ := rem_any (x := n) (n := m) (by omega)
  have w : IntKind.i64.wrap (r + m) = r + m := by
    have : r + m = (((r + m).toNat : Nat) : Int) := by omega
    rw [this]; exact wrap_nat (by omega) (by omega)
  obtain ⟨q, e2, q0, q1⟩ := rem_ex (x := r + m) (n := m) (by omega) (by omega)
  have hin : inRd m 1 1000000000000 = true := by simp [inRd, h0, h1]
  refine spec_Mod_e (aw_sound tabOK mixed [] _ _ _ ?_)
  unfold spec_Mod_c
  simp only [EV, EL, EB, EF, q_bx, if_true, if_false, Bool.false_eq_true, Nat.reduceAdd, Option.bind_some, Bool.not_true, Bool.not_false, Nat.reduceBEq, spec_Mod_r]
  refine TCall.val (by simp only [EO]) (spec_l1In_Td _ _ _ _) ?_
  simp only [EV, EL, EB, EF, q_bx, if_true, if_false, Bool.false_eq_true, Nat.reduceAdd, Option.bind_some, Bool.not_true, Bool.not_false, Nat.reduceBEq, spec_Mod_r, hin, e1, w, e2]
  first | exact ⟨rfl, ⟨q, rfl, q0, q1⟩, rfl⟩ | exact ⟨rfl, q, rfl, q0, q1⟩ | exact ⟨⟨q, rfl, q0, q1⟩, rfl⟩ | exact ⟨q, rfl, q0, q1⟩
theorem spec_IntValue_T (n : Int) (h : AH) : T Try.prog Γ Fn.spec_IntValue [.int .i64 n] h fun v h' => (∃ y : DValue, v = .agg (y.c false)) ∧ h' = h := by
  refine spec_IntValue_e (aw_sound tabOK mixed [] _ _ _ ?_)
  unfold spec_IntValue_c
  simp only [EV, EL, EB, EF, q_bx, if_true, if_false, Bool.false_eq_true, Nat.reduceAdd, Option.bind_some, Bool.not_true, Bool.not_false, Nat.reduceBEq, spec_IntValue_r]
  refine TCall.ref (by simp only [EO]) (spec_Mod_T n 1000000 (by omega) (by omega) _) ?_
  rintro _ H1 ⟨⟨x, rfl, x0, x1⟩, e⟩
  replace e : H1 = h := e
  subst e
  simp only [EV, EL, EB, EF, q_bx, if_true, if_false, Bool.false_eq_true, Nat.reduceAdd, Option.bind_some, Bool.not_true, Bool.not_false, Nat.reduceBEq, spec_IntValue_r]
  first | exact ⟨rfl, ⟨⟨0, x⟩, rfl⟩, rfl⟩ | exact ⟨rfl, ⟨0, x⟩, rfl⟩ | exact ⟨⟨⟨0, x⟩, rfl⟩, rfl⟩ | exact ⟨⟨0, x⟩, rfl⟩

theorem spec_l4Any_T (H : AH) {b : Nat} {bs : List Int} (hb : bs.length ≤ 1073741824) (hc : Cur H b bs) : T Try.prog Γ Fn.spec_l4Any [.gp b 0 0] H fun v h' => ∃ y : DValue, v = .agg (y.c false) ∧ DrewX H h' b bs := by
  obtain ⟨i9, h9, _, hg9⟩ := hc
  have hbl : b < H.length := hget_lt hg9
  have ints : ∀ (H1 : AH) (l : List Int) (n : Nat), DrewX H H1 b bs → l.length = n → 0 < n → T Try.prog Γ Fn.spec_l1Int [.gp b 0 0, .gs H1.length 0 0 n n 1 true] (H1 ++ [some (0, (l.map fun n => [AV.int .i64 n]).flatten)]) fun v h' => ∃ x : Int, v = .int .i64 x ∧ DrewX H h' b bs := fun H1 l n d hn h0 => by
    have hne : b ∉ [H1.length] := by simp; have := d.len; omega
    have d2 : DrewX H1 (H1 ++ [some (0, (l.map fun n => [AV.int .i64 n]).flatten)]) b bs := .ofExt d.cur (HExt.app _ _)
    exact (spec_l1Int_T _ hb d2.cur (ints_own H1 l hn) hne (by omega)).mono fun v h' ⟨x, e, d3⟩ => ⟨x, e, (d.trans d2).trans d3⟩
  refine spec_l4Any_e (aw_sound tabOK mixed [] _ _ _ ?_)
  unfold spec_l4Any_c
  simp only [EV, EL, EB, EF, q_bx, if_true, if_false, Bool.false_eq_true, Nat.reduceAdd, Option.bind_some, Bool.not_true, Bool.not_false, Nat.reduceBEq, spec_l4Any_r]
  refine TCall.ref (by simp only [EO]) (l1Below_X _ hb ⟨i9, h9, by assumption, hg9⟩ _) ?_
  rintro _ H1 ⟨x, rfl, x0, x1, d1⟩
  replace d1 : DrewX H H1 b bs := d1
  by_cases k0 : x = 0
  · simp only [EV, EL, EB, EF, q_bx, if_true, if_false, Bool.false_eq_true, Nat.reduceAdd, Option.bind_some, Bool.not_true, Bool.not_false, Nat.reduceBEq, spec_l4Any_r, EA, rp_5, beq_dec, decide_eq_true k0]
    refine TCall.ref (by simp only [EO]) (ints H1 [0, 1, 2, 5, -1] 5 d1 rfl (by omega)) ?_
    rintro _ H2 ⟨y, rfl, d2⟩
    replace d2 : DrewX H H2 b bs := d2
    simp only [EV, EL, EB, EF, q_bx, if_true, if_false, Bool.false_eq_true, Nat.reduceAdd, Option.bind_some, Bool.not_true, Bool.not_false, Nat.reduceBEq, spec_l4Any_r]
    refine TCall.val (by simp only [EO]) (spec_RefValue_T _ _) ?_
    simp only [EV, EL, EB, EF, q_bx, if_true, if_false, Bool.false_eq_true, Nat.reduceAdd, Option.bind_some, Bool.not_true, Bool.not_false, Nat.reduceBEq, spec_l4Any_r, DValue.c]
    first | exact ⟨rfl, ⟨1, y⟩, rfl, d2⟩ | exact ⟨⟨1, y⟩, rfl, d2⟩
  by_cases k1 : x = 1
  · simp only [EV, EL, EB, EF, q_bx, if_true, if_false, Bool.false_eq_true, Nat.reduceAdd, Option.bind_some, Bool.not_true, Bool.not_false, Nat.reduceBEq, spec_l4Any_r, EA, beq_dec, decide_eq_false k0, decide_eq_true k1]
    refine TCall.val (by simp only [EO]) (spec_BrokenValue_Td _) ?_
    simp only [EV, EL, EB, EF, q_bx, if_true, if_false, Bool.false_eq_true, Nat.reduceAdd, Option.bind_some, Bool.not_true, Bool.not_false, Nat.reduceBEq, spec_l4Any_r, DValue.c]
    first | exact ⟨rfl, ⟨2, 0⟩, rfl, d1⟩ | exact ⟨⟨2, 0⟩, rfl, d1⟩
  by_cases k2 : x = 2
  · simp only [EV, EL, EB, EF, q_bx, if_true, if_false, Bool.false_eq_true, Nat.reduceAdd, Option.bind_some, Bool.not_true, Bool.not_false, Nat.reduceBEq, spec_l4Any_r, EA, rp_5, rp_4, beq_dec, decide_eq_false k0, decide_eq_false k1, decide_eq_true k2]
    refine TCall.ref (by simp only [EO]) (ints H1 [0, 1, 2, 3, -1] 5 d1 rfl (by omega)) ?_
    rintro _ H2 ⟨y, rfl, d2⟩
    replace d2 : DrewX H H2 b bs := d2
    simp only [EV, EL, EB, EF, q_bx, if_true, if_false, Bool.false_eq_true, Nat.reduceAdd, Option.bind_some, Bool.not_true, Bool.not_false, Nat.reduceBEq, spec_l4Any_r, EA, rp_4]
    refine TCall.ref (by simp only [EO]) (ints H2 [0, -1, 999999, 1000000] 4 d2 rfl (by omega)) ?_
    rintro _ H3 ⟨z, rfl, d3⟩
    replace d3 : DrewX H H3 b bs := d3
    simp only [EV, EL, EB, EF, q_bx, if_true, if_false, Bool.false_eq_true, Nat.reduceAdd, Option.bind_some, Bool.not_true, Bool.not_false, Nat.reduceBEq, spec_l4Any_r]
    first | exact ⟨rfl, ⟨y, z⟩, rfl, d3⟩ | exact ⟨⟨y, z⟩, rfl, d3⟩
  simp only [EV, EL, EB, EF, q_bx, if_true, if_false, Bool.false_eq_true, Nat.reduceAdd, Option.bind_some, Bool.not_true, Bool.not_false, Nat.reduceBEq, spec_l4Any_r, EA, beq_dec, decide_eq_false k0, decide_eq_false k1, decide_eq_false k2]
  refine TCall.ref (by simp only [EO]) (l1Below_X _ hb d1.cur _) ?_
  rintro _ H2 ⟨y, rfl, y0, y1, d2⟩
  replace d2 : DrewX H1 H2 b bs := d2
  simp only [EV, EL, EB, EF, q_bx, if_true, if_false, Bool.false_eq_true, Nat.reduceAdd, Option.bind_some, Bool.not_true, Bool.not_false, Nat.reduceBEq, spec_l4Any_r]
  refine TCall.ref (by simp only [EO]) (spec_IntValue_T _ _) ?_
  rintro _ H3 ⟨⟨z, rfl⟩, e⟩
  replace e : H3 = H2 := e
  subst e
  simp only [EV, EL, EB, EF, q_bx, if_true, if_false, Bool.false_eq_true, Nat.reduceAdd, Option.bind_some, Bool.not_true, Bool.not_false, Nat.reduceBEq, spec_l4Any_r, DValue.c]
  first | exact ⟨rfl, z, rfl, d1.trans d2⟩ | exact ⟨z, rfl, d1.trans d2⟩

theorem mask30 (a : Int) : ∃ x, aBin .and .num (.int .i64 a) (.int .i64 1073741823) = some (.int .i64 x) ∧ 0 ≤ x ∧ x ≤ 1073741823 := and_mask a (m := 1073741823) (by omega)
theorem spec_l1New_T (bs : List Int) (hb : bs.length ≤ 1073741824) (h : AH) : T Try.prog Γ Fn.spec_l1New [.vs false 1 false (bs.map fun n => [.int .u8 n])] h fun v h' => ∃ b, v = .gp b 0 0 ∧ Cur h' b bs ∧ HExt h h' ∧ h.length ≤ b := by
  have L0 := len_vm false 1 false bs (fun n => [AV.int .u8 n])
  refine spec_l1New_e (aw_sound tabOK mixed [31] _ _ _ ?_)
  unfold spec_l1New_c
  simp only [EV, EL, EB, EF, q_bx, if_true, if_false, Bool.false_eq_true, Nat.reduceAdd, Option.bind_some, Bool.not_true, Bool.not_false, Nat.reduceBEq, spec_l1New_r, L0]
  obtain ⟨s0, hs0⟩ : ∃ s0, s0 = IntKind.i64.wrap (193017 + (bs.length : Int)) := ⟨_, rfl⟩
  rw [← hs0]
  refine loopI tabOK mixed [31] (fun x : Nat × Int => x.1 ≤ bs.length) (fun x => bs.length - x.1)
    (fun x => spec_l1New_s0 (.vs false 1 false (bs.map fun n => [.int .u8 n])) (.int .i64 x.2) (.int .i64 x.1) [] h) (0, s0) (by simp) ⟨by simp [spec_l1New_s0, LeL, LeV], rfl, rfl⟩ ?_
  rintro ⟨k, hh⟩ hk
  simp only at hk
  have fin : ∀ z : Int, Cur (h ++ [some (0, [AV.vs false 1 false (bs.map fun n => [AV.int .u8 n]), .int .i64 0, .int .i64 z])]) h.length bs := fun z => ⟨0, z, by omega, hget_last _ _⟩
  have bg : ∀ (s : St) (z : Int), boxK true s (some [AV.vs false 1 false (bs.map fun n => [AV.int .u8 n]), .int .i64 0, .int .i64 z]) = .val (.gp s.heap.length 0 0) (s.push [AV.vs false 1 false (bs.map fun n => [AV.int .u8 n]), .int .i64 0, .int .i64 z]) := fun s z => box_g _ _ rfl
  by_cases c1 : (k : Int) < (bs.length : Int)
  rotate_left
  · simp only [EV, EL, EB, EF, q_bx, if_true, if_false, Bool.false_eq_true, Nat.reduceAdd, Option.bind_some, Bool.not_true, Bool.not_false, Nat.reduceBEq, spec_l1New_r, spec_l1New_s0, L0, decide_eq_false c1, bg, push_s]
    exact ⟨rfl, h.length, rfl, fin _, HExt.app _ _, Nat.le_refl _⟩
  by_cases c2 : (k : Int) < 4000
  rotate_left
  · simp only [EV, EL, EB, EF, q_bx, if_true, if_false, Bool.false_eq_true, Nat.reduceAdd, Option.bind_some, Bool.not_true, Bool.not_false, Nat.reduceBEq, spec_l1New_r, spec_l1New_s0, L0, decide_eq_true c1, decide_eq_false c2, bg, push_s]
    exact ⟨rfl, h.length, rfl, fin _, HExt.app _ _, Nat.le_refl _⟩
  have hlt : k < bs.length := by omega
  have i0 := idx_vm (β := false) (sz := 1) (ex := false) (ce := fun n : Int => [AV.int .u8 n]) hlt
  obtain ⟨x, e, _, _⟩ := mask30 (IntKind.i64.wrap (IntKind.i64.wrap (IntKind.i64.wrap (hh * 137) + IntKind.i64.wrap bs[k]) + 11))
  simp only [EV, EL, EB, EF, q_bx, if_true, if_false, Bool.false_eq_true, Nat.reduceAdd, Option.bind_some, Bool.not_true, Bool.not_false, Nat.reduceBEq, spec_l1New_r, spec_l1New_s0, L0, decide_eq_true c1, decide_eq_true c2, i0, p_cvi, e]
  exact ⟨(k + 1, x), hlt, by simp only; omega, ⟨by rw [wN (by omega)]; simp [spec_l1New_s0, LeL, LeV], rfl, rfl⟩⟩

end Go.Proofs.Ytjohoameeeaafaa
