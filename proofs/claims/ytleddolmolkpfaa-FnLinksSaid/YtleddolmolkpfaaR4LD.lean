import Derived.Test.YtleddolmolkpfaaR4PL
import Derived.Test.YtleddolmolkpfaaAmVal
import Derived.Test.YtleddolmolkpfaaAmCur
import Derived.Test.YtleddolmolkpfaaAmBits
set_option linter.unusedVariables false
set_option linter.unusedSimpArgs false
namespace Go.Proofs.Ytleddolmolkpfaa
open Go.AM
set_option linter.unusedVariables false
set_option linter.unusedSimpArgs false
variable {Γ : Glob}
theorem set_store {H : AH} {b : Nat} {cs : List AV} {off : Nat} {v : AV} (hg : hget H b = some (0, cs)) (ho : off + 1 ≤ cs.length) (hv : noLp v = true) (e : List AV) (l : List (List AV)) : (St.mk e l H).store (.gp b 0 off) [v] = some ⟨e, l, H.set b (some (0, over cs off [v]))⟩ := by
  simp only [St.store, hg, Option.bind_some, if_true, List.length_cons, List.length_nil, Nat.zero_add]
  rw [if_pos ho]; simp [hv]
theorem hget_set {H : AH} {b : Nat} {x : Nat × List AV} (h : b < H.length) : hget (H.set b (some x)) b = some x := by simp [hget, h]
theorem mask255 (a : Int) : ∃ x, aBin .and .num (.int .i64 a) (.int .i64 255) = some (.int .i64 x) ∧ 0 ≤ x ∧ x ≤ 255 := and_mask a (m := 255) (by omega)
theorem spec_l1Byte_T (H : AH) {b : Nat} {bs : List Int} (hb : bs.length ≤ 1073741824) (hc : Cur H b bs) : T Try.prog Γ Fn.spec_l1Byte [.gp b 0 0] H fun v h' => ∃ x : Int, v = .int .i64 x ∧ 0 ≤ x ∧ x ≤ 255 ∧ Cur h' b bs ∧ h'.length = H.length ∧ ∀ c, c ≠ b → h'[c]? = H[c]? := by
  obtain ⟨i, hh, hi, hg⟩ := hc
  have hbl : b < H.length := hget_lt hg
  have L0 := len_vm false 1 false bs (fun n => [AV.int .u8 n])
  have cl : ∀ (e : List AV) (l : List (List AV)) (off n : Nat), (St.mk e l H).cells (.gp b 0 off) n = sub [.vs false 1 false (bs.map fun n => [.int .u8 n]), .int .i64 i, .int .i64 hh] off n := fun e l off n => cells_gp hg
  refine spec_l1Byte_e (aw_sound tabOK mixed [] _ _ _ ?_)
  unfold spec_l1Byte_c
  obtain ⟨h1, e1⟩ : ∃ h1, h1 = IntKind.i64.wrap (IntKind.i64.wrap (hh * 6364136223846793005) + 1442695040888963407) := ⟨_, rfl⟩
  have st := set_store (off := 2) (v := .int .i64 h1) hg (by simp) rfl
  have eo : over [AV.vs false 1 false (bs.map fun n => [.int .u8 n]), .int .i64 i, .int .i64 hh] 2 [.int .i64 h1] = [.vs false 1 false (bs.map fun n => [.int .u8 n]), .int .i64 i, .int .i64 h1] := rfl
  rw [eo] at st
  obtain ⟨H1, hH1⟩ : ∃ H1, H1 = H.set b (some (0, [.vs false 1 false (bs.map fun n => [.int .u8 n]), .int .i64 i, .int .i64 h1])) := ⟨_, rfl⟩
  rw [← hH1] at st
  have hg1 : hget H1 b = some (0, [.vs false 1 false (bs.map fun n => [.int .u8 n]), .int .i64 i, .int .i64 h1]) := by rw [hH1]; exact hget_set hbl
  have cl1 : ∀ (e : List AV) (l : List (List AV)) (off n : Nat), (St.mk e l H1).cells (.gp b 0 off) n = sub [.vs false 1 false (bs.map fun n => [.int .u8 n]), .int .i64 i, .int .i64 h1] off n := fun e l off n => cells_gp hg1
  have hl1 : H1.length = H.length := by rw [hH1]; simp
  have hf1 : ∀ c, c ≠ b → H1[c]? = H[c]? := fun c hc => by rw [hH1]; exact List.getElem?_set_ne (Ne.symm hc)
  obtain ⟨x1, s1⟩ := shr_ex .i64 .u64 h1 (b := 33) (by omega)
  obtain ⟨x2, s2⟩ := shr_ex .i64 .u64 h1 (b := 47) (by omega)
  obtain ⟨x3, s3⟩ := xor_ex .i64 x1 x2
  obtain ⟨x4, s4, x40, x41⟩ := mask255 x3
  simp only [EV, EL, EB, EF, q_bx, if_true, if_false, Bool.false_eq_true, Nat.reduceAdd, Option.bind_some, Bool.not_true, Bool.not_false, Nat.reduceBEq, spec_l1Byte_r, spec_l1Byte_d0_q, spec_l1Byte_d1_q, spec_l1Byte_d2_q, cl, ← e1, st, cl1, s1, s2, s3, s4, L0]
  by_cases hlt : i < (bs.length : Int)
  rotate_left
  · simp only [EV, EL, EB, EF, q_bx, if_true, if_false, Bool.false_eq_true, Nat.reduceAdd, Option.bind_some, Bool.not_true, Bool.not_false, Nat.reduceBEq, spec_l1Byte_r, spec_l1Byte_d0_q, spec_l1Byte_d1_q, spec_l1Byte_d2_q, decide_eq_false hlt]
    first | exact ⟨rfl, x4, rfl, x40, x41, ⟨i, h1, hi, hg1⟩, hl1, hf1⟩ | exact ⟨x4, rfl, x40, x41, ⟨i, h1, hi, hg1⟩, hl1, hf1⟩
  obtain ⟨k, rfl⟩ : ∃ k : Nat, i = k := ⟨i.toNat, by omega⟩
  have hk : k < bs.length := by omega
  have i0 := idx_vm (β := false) (sz := 1) (ex := false) (ce := fun n : Int => [AV.int .u8 n]) hk
  obtain ⟨x5, s5, x50, x51⟩ := mask255 (IntKind.i64.wrap (x4 + IntKind.i64.wrap bs[k]))
  have st2 := set_store (off := 1) (v := .int .i64 (IntKind.i64.wrap ((k : Int) + 1))) hg1 (by simp) rfl
  have hw : IntKind.i64.wrap ((k : Int) + 1) = ((k + 1 : Nat) : Int) := wN (by omega)
  simp only [EV, EL, EB, EF, q_bx, if_true, if_false, Bool.false_eq_true, Nat.reduceAdd, Option.bind_some, Bool.not_true, Bool.not_false, Nat.reduceBEq, spec_l1Byte_r, spec_l1Byte_d0_q, spec_l1Byte_d1_q, spec_l1Byte_d2_q, decide_eq_true hlt, cl1, i0, p_cvi, s5, st2]
  have hbl1 : b < H1.length := by omega
  have fin : Cur (H1.set b (some (0, over [AV.vs false 1 false (bs.map fun n => [.int .u8 n]), .int .i64 (k : Int), .int .i64 h1] 1 [.int .i64 (IntKind.i64.wrap ((k : Int) + 1))]))) b bs := ⟨((k + 1 : Nat) : Int), h1, by omega, by rw [hget_set hbl1, hw]; rfl⟩
  have hl2 : (H1.set b (some (0, over [AV.vs false 1 false (bs.map fun n => [.int .u8 n]), .int .i64 (k : Int), .int .i64 h1] 1 [.int .i64 (IntKind.i64.wrap ((k : Int) + 1))]))).length = H.length := by simp [hl1]
  have hf2 : ∀ c, c ≠ b → (H1.set b (some (0, over [AV.vs false 1 false (bs.map fun n => [.int .u8 n]), .int .i64 (k : Int), .int .i64 h1] 1 [.int .i64 (IntKind.i64.wrap ((k : Int) + 1))])))[c]? = H[c]? := fun c hc => by rw [List.getElem?_set_ne (Ne.symm hc)]; exact hf1 c hc
  first | exact ⟨rfl, x5, rfl, x50, x51, fin, hl2, hf2⟩ | exact ⟨x5, rfl, x50, x51, fin, hl2, hf2⟩
theorem rem_ex {x n : Int} (hx : 0 ≤ x) (hn : 0 < n) : ∃ r, aBin .rem .num (.int .i64 x) (.int .i64 n) = some (.int .i64 r) ∧ 0 ≤ r ∧ r < n := by
  refine ⟨x.tmod n, ?_, ?_, ?_⟩
  · simp only [aBin, aArith, if_true]; rw [if_neg (by omega)]
  · exact Int.tmod_nonneg n hx
  · exact Int.tmod_lt_of_pos x hn
structure Drew (H h' : AH) (b : Nat) (bs : List Int) : Prop where
  cur : Cur h' b bs
  len : h'.length = H.length
  fr : ∀ c, c ≠ b → h'[c]? = H[c]?
theorem Drew.trans {H h1 h2 : AH} {b : Nat} {bs : List Int} (a : Drew H h1 b bs) (c : Drew h1 h2 b bs) : Drew H h2 b bs := ⟨c.cur, c.len.trans a.len, fun x hx => (c.fr x hx).trans (a.fr x hx)⟩
theorem l1Byte_D (H : AH) {b : Nat} {bs : List Int} (hb : bs.length ≤ 1073741824) (hc : Cur H b bs) : T Try.prog Γ Fn.spec_l1Byte [.gp b 0 0] H fun v h' => ∃ x : Int, v = .int .i64 x ∧ 0 ≤ x ∧ x ≤ 255 ∧ Drew H h' b bs :=
  (spec_l1Byte_T H hb hc).mono fun v h' ⟨x, e, h0, h1, h2, h3, h4⟩ => ⟨x, e, h0, h1, ⟨h2, h3, h4⟩⟩
theorem spec_l1Below_T (H : AH) {b : Nat} {bs : List Int} (hb : bs.length ≤ 1073741824) (hc : Cur H b bs) (n : Int) : T Try.prog Γ Fn.spec_l1Below [.gp b 0 0, .int .i64 n] H fun v h' => ∃ x : Int, v = .int .i64 x ∧ 0 ≤ x ∧ (0 < n → x < n) ∧ Drew H h' b bs := by
  have h0 : Drew H H b bs := ⟨hc, rfl, fun _ _ => rfl⟩
  refine spec_l1Below_e (aw_sound tabOK mixed [] _ _ _ ?_)
  unfold spec_l1Below_c
  by_cases c1 : n ≤ 0
  · simp only [EV, EL, EB, EF, q_bx, if_true, if_false, Bool.false_eq_true, Nat.reduceAdd, Option.bind_some, Bool.not_true, Bool.not_false, Nat.reduceBEq, spec_l1Below_r, decide_eq_true c1]
    first | exact ⟨rfl, 0, rfl, by omega, fun h => by omega, h0⟩ | exact ⟨0, rfl, by omega, fun h => by omega, h0⟩
  by_cases c2 : n ≤ 256
  · simp only [EV, EL, EB, EF, q_bx, if_true, if_false, Bool.false_eq_true, Nat.reduceAdd, Option.bind_some, Bool.not_true, Bool.not_false, Nat.reduceBEq, spec_l1Below_r, decide_eq_false c1, decide_eq_true c2]
    refine TCall.ref (by simp only [EO]) (l1Byte_D _ hb hc) ?_
    rintro _ H1 ⟨x, rfl, x0, x1, d1⟩
    replace d1 : Drew H H1 b bs := d1
    obtain ⟨r, e, r0, r1⟩ := rem_ex x0 (show 0 < n by omega)
    simp only [EV, EL, EB, EF, q_bx, if_true, if_false, Bool.false_eq_true, Nat.reduceAdd, Option.bind_some, Bool.not_true, Bool.not_false, Nat.reduceBEq, spec_l1Below_r, e]
    first | exact ⟨rfl, r, rfl, r0, fun _ => r1, d1⟩ | exact ⟨r, rfl, r0, fun _ => r1, d1⟩
  simp only [EV, EL, EB, EF, q_bx, if_true, if_false, Bool.false_eq_true, Nat.reduceAdd, Option.bind_some, Bool.not_true, Bool.not_false, Nat.reduceBEq, spec_l1Below_r, decide_eq_false c1, decide_eq_false c2]
  refine TCall.ref (by simp only [EO]) (l1Byte_D _ hb hc) ?_
  rintro _ H1 ⟨x, rfl, x0, x1, d1⟩
  replace d1 : Drew H H1 b bs := d1
  simp only [EV, EL, EB, EF, q_bx, if_true, if_false, Bool.false_eq_true, Nat.reduceAdd, Option.bind_some, Bool.not_true, Bool.not_false, Nat.reduceBEq, spec_l1Below_r]
  refine TCall.ref (by simp only [EO]) (l1Byte_D _ hb d1.cur) ?_
  rintro _ H2 ⟨y, rfl, y0, y1, d2⟩
  replace d2 : Drew H1 H2 b bs := d2
  simp only [EV, EL, EB, EF, q_bx, if_true, if_false, Bool.false_eq_true, Nat.reduceAdd, Option.bind_some, Bool.not_true, Bool.not_false, Nat.reduceBEq, spec_l1Below_r]
  refine TCall.ref (by simp only [EO]) (l1Byte_D _ hb d2.cur) ?_
  rintro _ H3 ⟨z, rfl, z0, z1, d3⟩
  replace d3 : Drew H2 H3 b bs := d3
  have w1 : IntKind.i64.wrap (x * 65536) = x * 65536 := by
    have : x * 65536 = ((x.toNat * 65536 : Nat) : Int) := by omega
    rw [this]; exact wrap_nat (by omega) (by omega)
  have w2 : IntKind.i64.wrap (y * 256) = y * 256 := by
    have : y * 256 = ((y.toNat * 256 : Nat) : Int) := by omega
    rw [this]; exact wrap_nat (by omega) (by omega)
  have w3 : IntKind.i64.wrap (x * 65536 + y * 256) = x * 65536 + y * 256 := by
    have : x * 65536 + y * 256 = ((x.toNat * 65536 + y.toNat * 256 : Nat) : Int) := by omega
    rw [this]; exact wrap_nat (by omega) (by omega)
  have w4 : IntKind.i64.wrap (x * 65536 + y * 256 + z) = x * 65536 + y * 256 + z := by
    have : x * 65536 + y * 256 + z = ((x.toNat * 65536 + y.toNat * 256 + z.toNat : Nat) : Int) := by omega
    rw [this]; exact wrap_nat (by omega) (by omega)
  obtain ⟨r, e, r0, r1⟩ := rem_ex (show 0 ≤ x * 65536 + y * 256 + z by omega) (show 0 < n by omega)
  simp only [EV, EL, EB, EF, q_bx, if_true, if_false, Bool.false_eq_true, Nat.reduceAdd, Option.bind_some, Bool.not_true, Bool.not_false, Nat.reduceBEq, spec_l1Below_r, w1, w2, w3, w4, e]
  have d := (d1.trans d2).trans d3
  first | exact ⟨rfl, r, rfl, r0, fun _ => r1, d⟩ | exact ⟨r, rfl, r0, fun _ => r1, d⟩
theorem l1Below_X (H : AH) {b : Nat} {bs : List Int} (hb : bs.length ≤ 1073741824) (hc : Cur H b bs) (n : Int) : T Try.prog Γ Fn.spec_l1Below [.gp b 0 0, .int .i64 n] H fun v h' => ∃ x : Int, v = .int .i64 x ∧ 0 ≤ x ∧ (0 < n → x < n) ∧ DrewX H h' b bs :=
  (spec_l1Below_T H hb hc n).mono fun v h' ⟨x, e, h0, h1, d⟩ => ⟨x, e, h0, h1, ⟨d.cur, Nat.le_of_eq d.len.symm, fun c _ hcb => d.fr c hcb⟩⟩
theorem mask30 (a : Int) : ∃ x, aBin .and .num (.int .i64 a) (.int .i64 1073741823) = some (.int .i64 x) ∧ 0 ≤ x ∧ x ≤ 1073741823 := and_mask a (m := 1073741823) (by omega)
theorem spec_l1New_T (bs : List Int) (hb : bs.length ≤ 1073741824) (h : AH) : T Try.prog Γ Fn.spec_l1New [.vs false 1 false (bs.map fun n => [.int .u8 n])] h fun v h' => ∃ b, v = .gp b 0 0 ∧ Cur h' b bs ∧ HExt h h' ∧ h.length ≤ b := by
  have L0 := len_vm false 1 false bs (fun n => [AV.int .u8 n])
  refine spec_l1New_e (aw_sound tabOK mixed [31] _ _ _ ?_)
  unfold spec_l1New_c
  simp only [EV, EL, EB, EF, q_bx, if_true, if_false, Bool.false_eq_true, Nat.reduceAdd, Option.bind_some, Bool.not_true, Bool.not_false, Nat.reduceBEq, spec_l1New_r, L0]
  obtain ⟨s0, hs0⟩ : ∃ s0, s0 = IntKind.i64.wrap (193017 + (bs.length : Int)) := ⟨_, rfl⟩
  rw [← hs0]
  refine loopI tabOK mixed [31] (fun x : Nat × Int => x.1 ≤ bs.length) (fun x => bs.length - x.1)
    (fun x => spec_l1New_s0 (.vs false 1 false (bs.map fun n => [.int .u8 n])) (.int .i64 x.2) (.int .i64 x.1) [] h) (0, s0) (by simp) ⟨by simp [spec_l1New_s0, LeL, LeV], rfl, rfl⟩ ?_
  rintro ⟨k, hh⟩ hk
  simp only at hk
  have fin : ∀ z : Int, Cur (h ++ [some (0, [AV.vs false 1 false (bs.map fun n => [AV.int .u8 n]), .int .i64 0, .int .i64 z])]) h.length bs := fun z => ⟨0, z, by omega, hget_last _ _⟩
  have bg : ∀ (s : St) (z : Int), boxK true s (some [AV.vs false 1 false (bs.map fun n => [AV.int .u8 n]), .int .i64 0, .int .i64 z]) = .val (.gp s.heap.length 0 0) (s.push [AV.vs false 1 false (bs.map fun n => [AV.int .u8 n]), .int .i64 0, .int .i64 z]) := fun s z => box_g _ _ rfl
  by_cases c1 : (k : Int) < (bs.length : Int)
  rotate_left
  · simp only [EV, EL, EB, EF, q_bx, if_true, if_false, Bool.false_eq_true, Nat.reduceAdd, Option.bind_some, Bool.not_true, Bool.not_false, Nat.reduceBEq, spec_l1New_r, spec_l1New_s0, L0, decide_eq_false c1, bg, push_s]
    exact ⟨rfl, h.length, rfl, fin _, HExt.app _ _, Nat.le_refl _⟩
  by_cases c2 : (k : Int) < 4000
  rotate_left
  · simp only [EV, EL, EB, EF, q_bx, if_true, if_false, Bool.false_eq_true, Nat.reduceAdd, Option.bind_some, Bool.not_true, Bool.not_false, Nat.reduceBEq, spec_l1New_r, spec_l1New_s0, L0, decide_eq_true c1, decide_eq_false c2, bg, push_s]
    exact ⟨rfl, h.length, rfl, fin _, HExt.app _ _, Nat.le_refl _⟩
  have hlt : k < bs.length := by omega
  have i0 := idx_vm (β := false) (sz := 1) (ex := false) (ce := fun n : Int => [AV.int .u8 n]) hlt
  obtain ⟨x, e, _, _⟩ := mask30 (IntKind.i64.wrap (IntKind.i64.wrap (IntKind.i64.wrap (hh * 137) + IntKind.i64.wrap bs[k]) + 11))
  simp only [EV, EL, EB, EF, q_bx, if_true, if_false, Bool.false_eq_true, Nat.reduceAdd, Option.bind_some, Bool.not_true, Bool.not_false, Nat.reduceBEq, spec_l1New_r, spec_l1New_s0, L0, decide_eq_true c1, decide_eq_true c2, i0, p_cvi, e]
  exact ⟨(k + 1, x), hlt, by simp only; omega, ⟨by rw [wN (by omega)]; simp [spec_l1New_s0, LeL, LeV], rfl, rfl⟩⟩
theorem spec_l1Once_T (H : AH) {b : Nat} {bs : List Int} (hb : bs.length ≤ 1073741824) (hc : Cur H b bs) (n : Int) : T Try.prog Γ Fn.spec_l1Once [.gp b 0 0, .int .i64 n] H fun v h' => ∃ x : Bool, v = .bool x ∧ DrewX H h' b bs := by
  refine spec_l1Once_e (aw_sound tabOK mixed [] _ _ _ ?_)
  unfold spec_l1Once_c
  simp only [EV, EL, EB, EF, q_bx, if_true, if_false, Bool.false_eq_true, Nat.reduceAdd, Option.bind_some, Bool.not_true, Bool.not_false, Nat.reduceBEq, spec_l1Once_r]
  refine TCall.ref (by simp only [EO]) (l1Below_X _ hb hc _) ?_
  rintro _ H1 ⟨x, rfl, x0, x1, d1⟩
  replace d1 : DrewX H H1 b bs := d1
  simp only [EV, EL, EB, EF, q_bx, if_true, if_false, Bool.false_eq_true, Nat.reduceAdd, Option.bind_some, Bool.not_true, Bool.not_false, Nat.reduceBEq, spec_l1Once_r]
  first | exact ⟨rfl, _, rfl, d1⟩ | exact ⟨_, rfl, d1⟩
theorem own_below {H H' : AH} {b : Nat} {bs : List Int} (d : DrewX H H' b bs) {row : List AV} {cs : List CD} {fp : List Nat} (o : OwnL H row cs fp) (hb : b ∉ fp) : OwnL H' row cs fp := o.frame fun c hc => d.fr c (o.lt c hc) (fun e => hb (e ▸ hc))
theorem wP {k : Nat} (h0 : 0 < k) (h1 : k < 1000000) : IntKind.i64.wrap ((k : Int) - 1) = ((k - 1 : Nat) : Int) := by rw [wrap_nat (by omega) (by omega)]; omega
def rowL (l : DLink) (wX w4 w6 : AV) : List AV := [.int .i64 l.peer, .bool l.up, wX, .int .i64 l.next, w4, .int .i64 l.asked, w6]
structure LM (h : AH) (b : Nat) (bs : List Int) (n : Nat) (x : DLink × AV × AV × AV × AH × List Nat) : Prop where
  own : OwnL x.2.2.2.2.1 (rowL x.1 x.2.1 x.2.2.1 x.2.2.2.1) x.1.cd x.2.2.2.2.2
  nd : x.2.2.2.2.2.Nodup
  ge : ∀ c ∈ x.2.2.2.2.2, h.length ≤ c
  dr : DrewX h x.2.2.2.2.1 b bs
  inv : LInv n x.1
theorem gtr_b (a b : Int) : aBin .gtr .num (.int .i64 a) (.int .i64 b) = some (.bool (decide (a > b))) := by simp [aBin, aArith]
set_option maxHeartbeats 2000000 in
theorem spec_l10Link_T (H : AH) {b : Nat} {bs : List Int} (hb : bs.length ≤ 1073741824) (hc : Cur H b bs) : T Try.prog Γ Fn.spec_l10Link [.gp b 0 0] H fun v h' => ∃ (l : DLink) (row : List AV) (fp : List Nat), v = .agg row ∧ LInv 30 l ∧ OwnL h' row l.cd fp ∧ fp.Nodup ∧ (∀ c ∈ fp, H.length ≤ c) ∧ DrewX H h' b bs := by
  have hbl : b < H.length := by obtain ⟨_, _, _, hg⟩ := hc; exact hget_lt hg
  refine spec_l10Link_e (aw_sound tabOK mixed [] _ _ _ ?_)
  unfold spec_l10Link_c
  simp only [EV, EL, EB, EF, q_bx, if_true, if_false, Bool.false_eq_true, Nat.reduceAdd, Option.bind_some, Bool.not_true, Bool.not_false, Nat.reduceBEq, spec_l10Link_r, spec_l10Link_d0_q, spec_l10Link_d1_q, spec_l10Link_d2_q, spec_l10Link_d3_q]
  refine TCall.ref (by simp only [EO]) (l1Below_X _ hb hc _) ?_
  rintro _ H1 ⟨p, rfl, p0, p1, d1⟩
  replace d1 : DrewX H H1 b bs := d1
  simp only [EV, EL, EB, EF, q_bx, if_true, if_false, Bool.false_eq_true, Nat.reduceAdd, Option.bind_some, Bool.not_true, Bool.not_false, Nat.reduceBEq, spec_l10Link_r, spec_l10Link_d0_q, spec_l10Link_d1_q, spec_l10Link_d2_q, spec_l10Link_d3_q, EB2]
  refine TCall.val (by simp only [EO]) (spec_NewLink_T _ _) ?_
  simp only [EV, EL, EB, EF, q_bx, if_true, if_false, Bool.false_eq_true, Nat.reduceAdd, Option.bind_some, Bool.not_true, Bool.not_false, Nat.reduceBEq, spec_l10Link_r, spec_l10Link_d0_q, spec_l10Link_d1_q, spec_l10Link_d2_q, spec_l10Link_d3_q, EB2]
  refine TCall.ref (by simp only [EO]) (l1Below_X _ hb d1.cur _) ?_
  rintro _ H2 ⟨i, rfl, i0, i1, d2⟩
  replace d2 : DrewX H1 H2 b bs := d2
  obtain ⟨k0, rfl⟩ : ∃ k : Nat, i = k := ⟨i.toNat, by omega⟩
  have hk0 : k0 ≤ 4 := by have := i1 (by omega); omega
  simp only [EV, EL, EB, EF, q_bx, if_true, if_false, Bool.false_eq_true, Nat.reduceAdd, Option.bind_some, Bool.not_true, Bool.not_false, Nat.reduceBEq, spec_l10Link_r, spec_l10Link_d0_q, spec_l10Link_d1_q, spec_l10Link_d2_q, spec_l10Link_d3_q, EB2]
  have gtr0 : ∀ k : Nat, aBin .gtr .num (.int .i64 (k : Int)) (.int .i64 0) = some (.bool (decide ((k : Int) > 0))) := fun k => gtr_b _ _
  refine loopI tabOK mixed [] (fun x : Nat × DLink × AV × AV × AV × AH × List Nat => x.1 ≤ 4 ∧ LM H b bs (10 - x.1) x.2) (fun x => x.1)
    (fun x => spec_l10Link_s0 (.gp b 0 0) (.lp ([] : List (List AV)).length 0) (.lp (([] : List (List AV)).length + 1) 0) (.int .i64 x.1) (([] : List (List AV)) ++ [[.int .i64 0, .bool false, .nils, .int .i64 0, .nils, .int .i64 0, .nils], rowL x.2.1 x.2.2.1 x.2.2.2.1 x.2.2.2.2.1]) x.2.2.2.2.2.1) (k0, ⟨IntKind.i64.wrap (1 + p), true, [], 0, [], 0, []⟩, .nils, .nils, .nils, H2, []) ⟨hk0, ⟨.i (.b (.o (.nil _) (.i (.o (.nil _) (.i (.o (.nil _) .nil)))))), by simp, by simp, d1.trans d2, (LInv.zero _).mono (by omega)⟩⟩ ⟨by simp [spec_l10Link_s0, rowL, LeL, LeV], rfl, rfl⟩ ?_
  rintro ⟨k, l, wX, w4, w6, H3, fp⟩ ⟨hk, own, nd, ge, dr, inv⟩
  simp only at hk own nd ge dr inv
  have hbf : b ∉ fp := fun hm => by have := ge b hm; omega
  obtain ⟨_, _, _, fX, f4, f6, e, rfl, oX, o4, o6⟩ := link_cells own
  simp only [rowL, List.cons.injEq, true_and, and_true] at e
  obtain ⟨rfl, rfl, rfl⟩ := e
  obtain ⟨a1, a2, a3, a4⟩ := oX.cell
  obtain ⟨b1, b2, b3, b4⟩ := o4.cell
  obtain ⟨c1, c2, c3, c4⟩ := o6.cell
  simp only [EV, EL, EB, EF, q_bx, if_true, if_false, Bool.false_eq_true, Nat.reduceAdd, Option.bind_some, Bool.not_true, Bool.not_false, Nat.reduceBEq, spec_l10Link_r, spec_l10Link_d0_q, spec_l10Link_d1_q, spec_l10Link_d2_q, spec_l10Link_d3_q, spec_l10Link_s0, rowL, EB2, gtr0]
  refine c_split (fun hgt => ?_) (fun hge => ?_)
  · have hgt : 0 < k := by simpa using hgt
    simp only [EV, EL, EB, EF, q_bx, if_true, if_false, Bool.false_eq_true, Nat.reduceAdd, Option.bind_some, Bool.not_true, Bool.not_false, Nat.reduceBEq, spec_l10Link_r, spec_l10Link_d0_q, spec_l10Link_d1_q, spec_l10Link_d2_q, spec_l10Link_d3_q, rowL, EB2]
    refine TCall.ref (by simp only [EO]) (l1Below_X _ hb dr.cur _) ?_
    rintro _ H4 ⟨x, rfl, x0, x1, d4⟩
    replace d4 : DrewX H3 H4 b bs := d4
    simp only [EV, EL, EB, EF, q_bx, if_true, if_false, Bool.false_eq_true, Nat.reduceAdd, Option.bind_some, Bool.not_true, Bool.not_false, Nat.reduceBEq, spec_l10Link_r, spec_l10Link_d0_q, spec_l10Link_d1_q, spec_l10Link_d2_q, spec_l10Link_d3_q, rowL, EB2]
    refine ⟨keep_lp' rfl, ?_⟩
    have own4 := own_below d4 own hbf
    refine TCall.own (by simp only [EO, a3, b3, c3]) (snap_c (OwnL.see (DLink.c_eq true _) own4) (snap_c (.same _) snap_n)) (spec_PutExport_T true l (inv.ok (by omega)) x) ?_
    rintro _ H5 fr
    replace fr : Fresh H4 _ _ _ := fr
    obtain ⟨row', f', rfl, o', n', b', e'⟩ := fr.a2 rfl
    obtain ⟨wX', w4', w6', fX', f4', f6', rfl, rfl, oX', o4', o6'⟩ := link_cells o'
    obtain ⟨a1', a2', a3', a4'⟩ := oX'.cell
    obtain ⟨b1', b2', b3', b4'⟩ := o4'.cell
    obtain ⟨c1', c2', c3', c4'⟩ := o6'.cell
    simp only [EV, EL, EB, EF, q_bx, if_true, if_false, Bool.false_eq_true, Nat.reduceAdd, Option.bind_some, Bool.not_true, Bool.not_false, Nat.reduceBEq, spec_l10Link_r, spec_l10Link_d0_q, spec_l10Link_d1_q, spec_l10Link_d2_q, spec_l10Link_d3_q, ER, EB2, a1', a2', a3', b1', b2', b3', c1', c2', c3']
    refine ⟨(k - 1, (putE l x).1, wX', w4', w6', H5, _), ⟨by simp only; omega, ⟨o', n', fun c hc => ?_, (dr.trans d4).trans (.ofExt d4.cur e'), ?_⟩⟩, by simp only; omega, ⟨by rw [wP hgt (by omega)]; simp [spec_l10Link_s0, rowL, LeL, LeV], rfl, rfl⟩⟩
    · have := b' c hc; have := dr.len; have := d4.len; simp only at *; omega
    · have := inv.put (by omega) x
      exact this.mono (by omega)
  have hge : k = 0 := by simp at hge; omega
  subst hge
  simp only [EV, EL, EB, EF, q_bx, if_true, if_false, Bool.false_eq_true, Nat.reduceAdd, Option.bind_some, Bool.not_true, Bool.not_false, Nat.reduceBEq, spec_l10Link_r, spec_l10Link_d0_q, spec_l10Link_d1_q, spec_l10Link_d2_q, spec_l10Link_d3_q, rowL, EB2]
  refine TCall.ref (by simp only [EO]) (l1Below_X _ hb dr.cur _) ?_
  rintro _ H4 ⟨i, rfl, i0, i1, d4⟩
  replace d4 : DrewX H3 H4 b bs := d4
  obtain ⟨k1, rfl⟩ : ∃ k : Nat, i = k := ⟨i.toNat, by omega⟩
  have hk1 : k1 ≤ 3 := by have := i1 (by omega); omega
  have own4 := own_below d4 own hbf
  have dr4 := dr.trans d4
  simp only [EV, EL, EB, EF, q_bx, if_true, if_false, Bool.false_eq_true, Nat.reduceAdd, Option.bind_some, Bool.not_true, Bool.not_false, Nat.reduceBEq, spec_l10Link_r, spec_l10Link_d0_q, spec_l10Link_d1_q, spec_l10Link_d2_q, spec_l10Link_d3_q, rowL, EB2]
  clear oX o4 o6 a1 a2 a3 a4 b1 b2 b3 b4 c1 c2 c3 c4
  refine loopI tabOK mixed [] (fun x : Nat × DLink × AV × AV × AV × AH × List Nat => x.1 ≤ 4 ∧ LM H b bs (20 - x.1) x.2) (fun x => x.1)
    (fun x => spec_l10Link_s1 (.gp b 0 0) (.lp ([] : List (List AV)).length 0) (.lp (([] : List (List AV)).length + 1) 0) (.int .i64 x.1) (([] : List (List AV)) ++ [[.int .i64 0, .bool false, .nils, .int .i64 0, .nils, .int .i64 0, .nils], rowL x.2.1 x.2.2.1 x.2.2.2.1 x.2.2.2.2.1]) x.2.2.2.2.2.1) (k1, l, wX, w4, w6, H4, _) ⟨by simp only; omega, ⟨own4, nd, ge, dr4, inv.mono (by simp only; omega)⟩⟩ ⟨by simp [spec_l10Link_s1, rowL, LeL, LeV], rfl, rfl⟩ ?_
  clear own own4 nd ge dr dr4 inv hk d4 hbf
  rintro ⟨k, l, wX, w4, w6, H3, fp⟩ ⟨hk, own, nd, ge, dr, inv⟩
  simp only at hk own nd ge dr inv
  have hbf : b ∉ fp := fun hm => by have := ge b hm; omega
  obtain ⟨_, _, _, fX, f4, f6, e, rfl, oX, o4, o6⟩ := link_cells own
  simp only [rowL, List.cons.injEq, true_and, and_true] at e
  obtain ⟨rfl, rfl, rfl⟩ := e
  obtain ⟨a1, a2, a3, a4⟩ := oX.cell
  obtain ⟨b1, b2, b3, b4⟩ := o4.cell
  obtain ⟨c1, c2, c3, c4⟩ := o6.cell
  simp only [EV, EL, EB, EF, q_bx, if_true, if_false, Bool.false_eq_true, Nat.reduceAdd, Option.bind_some, Bool.not_true, Bool.not_false, Nat.reduceBEq, spec_l10Link_r, spec_l10Link_d0_q, spec_l10Link_d1_q, spec_l10Link_d2_q, spec_l10Link_d3_q, spec_l10Link_s1, rowL, EB2, gtr0]
  refine c_split (fun hgt => ?_) (fun hge => ?_)
  · have hgt : 0 < k := by simpa using hgt
    simp only [EV, EL, EB, EF, q_bx, if_true, if_false, Bool.false_eq_true, Nat.reduceAdd, Option.bind_some, Bool.not_true, Bool.not_false, Nat.reduceBEq, spec_l10Link_r, spec_l10Link_d0_q, spec_l10Link_d1_q, spec_l10Link_d2_q, spec_l10Link_d3_q, rowL, EB2]
    refine TCall.ref (by simp only [EO]) (l1Below_X _ hb dr.cur _) ?_
    rintro _ H4 ⟨x, rfl, x0, x1, d4⟩
    replace d4 : DrewX H3 H4 b bs := d4
    simp only [EV, EL, EB, EF, q_bx, if_true, if_false, Bool.false_eq_true, Nat.reduceAdd, Option.bind_some, Bool.not_true, Bool.not_false, Nat.reduceBEq, spec_l10Link_r, spec_l10Link_d0_q, spec_l10Link_d1_q, spec_l10Link_d2_q, spec_l10Link_d3_q, rowL, EB2]
    refine ⟨keep_lp' rfl, ?_⟩
    have own4 := own_below d4 own hbf
    refine TCall.own (by simp only [EO, a3, b3, c3]) (snap_c (OwnL.see (DLink.c_eq true _) own4) (snap_c (.same _) snap_n)) (spec_PutQuestion_T true l (inv.ok (by omega)) x) ?_
    rintro _ H5 fr
    replace fr : Fresh H4 _ _ _ := fr
    obtain ⟨row', f', rfl, o', n', b', e'⟩ := fr.a2 rfl
    obtain ⟨wX', w4', w6', fX', f4', f6', rfl, rfl, oX', o4', o6'⟩ := link_cells o'
    obtain ⟨a1', a2', a3', a4'⟩ := oX'.cell
    obtain ⟨b1', b2', b3', b4'⟩ := o4'.cell
    obtain ⟨c1', c2', c3', c4'⟩ := o6'.cell
    simp only [EV, EL, EB, EF, q_bx, if_true, if_false, Bool.false_eq_true, Nat.reduceAdd, Option.bind_some, Bool.not_true, Bool.not_false, Nat.reduceBEq, spec_l10Link_r, spec_l10Link_d0_q, spec_l10Link_d1_q, spec_l10Link_d2_q, spec_l10Link_d3_q, ER, EB2, a1', a2', a3', b1', b2', b3', c1', c2', c3']
    refine ⟨(k - 1, (askE l x).1, wX', w4', w6', H5, _), ⟨by simp only; omega, ⟨o', n', fun c hc => ?_, (dr.trans d4).trans (.ofExt d4.cur e'), ?_⟩⟩, by simp only; omega, ⟨by rw [wP hgt (by omega)]; simp [spec_l10Link_s1, rowL, LeL, LeV], rfl, rfl⟩⟩
    · have := b' c hc; have := dr.len; have := d4.len; simp only at *; omega
    · have := inv.ask (by omega) x
      exact this.mono (by omega)
  have hge : k = 0 := by simp at hge; omega
  subst hge
  simp only [EV, EL, EB, EF, q_bx, if_true, if_false, Bool.false_eq_true, Nat.reduceAdd, Option.bind_some, Bool.not_true, Bool.not_false, Nat.reduceBEq, spec_l10Link_r, spec_l10Link_d0_q, spec_l10Link_d1_q, spec_l10Link_d2_q, spec_l10Link_d3_q, rowL, EB2]
  refine TCall.ref (by simp only [EO]) (l1Below_X _ hb dr.cur _) ?_
  rintro _ H4 ⟨i, rfl, i0, i1, d4⟩
  replace d4 : DrewX H3 H4 b bs := d4
  obtain ⟨k2, rfl⟩ : ∃ k : Nat, i = k := ⟨i.toNat, by omega⟩
  have hk2 : k2 ≤ 2 := by have := i1 (by omega); omega
  have own4 := own_below d4 own hbf
  have dr4 := dr.trans d4
  simp only [EV, EL, EB, EF, q_bx, if_true, if_false, Bool.false_eq_true, Nat.reduceAdd, Option.bind_some, Bool.not_true, Bool.not_false, Nat.reduceBEq, spec_l10Link_r, spec_l10Link_d0_q, spec_l10Link_d1_q, spec_l10Link_d2_q, spec_l10Link_d3_q, rowL, EB2]
  clear oX o4 o6 a1 a2 a3 a4 b1 b2 b3 b4 c1 c2 c3 c4
  refine loopI tabOK mixed [] (fun x : Nat × DLink × AV × AV × AV × AH × List Nat => x.1 ≤ 4 ∧ LM H b bs (30 - x.1) x.2) (fun x => x.1)
    (fun x => spec_l10Link_s2 (.gp b 0 0) (.lp ([] : List (List AV)).length 0) (.lp (([] : List (List AV)).length + 1) 0) (.int .i64 x.1) (([] : List (List AV)) ++ [[.int .i64 0, .bool false, .nils, .int .i64 0, .nils, .int .i64 0, .nils], rowL x.2.1 x.2.2.1 x.2.2.2.1 x.2.2.2.2.1]) x.2.2.2.2.2.1) (k2, l, wX, w4, w6, H4, _) ⟨by simp only; omega, ⟨own4, nd, ge, dr4, inv.mono (by simp only; omega)⟩⟩ ⟨by simp [spec_l10Link_s2, rowL, LeL, LeV], rfl, rfl⟩ ?_
  clear own own4 nd ge dr dr4 inv hk d4 hbf
  rintro ⟨k, l, wX, w4, w6, H3, fp⟩ ⟨hk, own, nd, ge, dr, inv⟩
  simp only at hk own nd ge dr inv
  have hbf : b ∉ fp := fun hm => by have := ge b hm; omega
  obtain ⟨_, _, _, fX, f4, f6, e, rfl, oX, o4, o6⟩ := link_cells own
  simp only [rowL, List.cons.injEq, true_and, and_true] at e
  obtain ⟨rfl, rfl, rfl⟩ := e
  obtain ⟨a1, a2, a3, a4⟩ := oX.cell
  obtain ⟨b1, b2, b3, b4⟩ := o4.cell
  obtain ⟨c1, c2, c3, c4⟩ := o6.cell
  simp only [EV, EL, EB, EF, q_bx, if_true, if_false, Bool.false_eq_true, Nat.reduceAdd, Option.bind_some, Bool.not_true, Bool.not_false, Nat.reduceBEq, spec_l10Link_r, spec_l10Link_d0_q, spec_l10Link_d1_q, spec_l10Link_d2_q, spec_l10Link_d3_q, spec_l10Link_s2, rowL, EB2, gtr0]
  refine c_split (fun hgt => ?_) (fun hge => ?_)
  · have hgt : 0 < k := by simpa using hgt
    simp only [EV, EL, EB, EF, q_bx, if_true, if_false, Bool.false_eq_true, Nat.reduceAdd, Option.bind_some, Bool.not_true, Bool.not_false, Nat.reduceBEq, spec_l10Link_r, spec_l10Link_d0_q, spec_l10Link_d1_q, spec_l10Link_d2_q, spec_l10Link_d3_q, rowL, EB2]
    refine TCall.ref (by simp only [EO]) (l1Below_X _ hb dr.cur _) ?_
    rintro _ H4 ⟨x, rfl, x0, x1, d4⟩
    replace d4 : DrewX H3 H4 b bs := d4
    have own4 := own_below d4 own hbf
    obtain ⟨nX, n46, dX⟩ := List.nodup_append.1 nd
    obtain ⟨n4, n6, d46⟩ := List.nodup_append.1 n46
    have o64 : Own H4 w6 (.sl 2 (l.answers.map DQuestion.cd)) f6 := d4.own o6 (fun hm => hbf (by simp [hm]))
    have hla := inv.la
    obtain ⟨v', H5, fp', ea, o', nd', hf', hl', hm'⟩ := app_ext (bytes := 16) o64 (ys := [.int .i64 (k : Int), .int .i64 x]) (row := [.i .i64 (k : Int), .i .i64 x]) (f2 := []) (by simpa using n6) (by omega) rfl (.i (.i .nil)) (by simp only [List.length_map, maxMade]; omega)
    obtain ⟨e1, e2, e3, e4⟩ := o'.cell
    simp only [EV, EL, EB, EF, q_bx, if_true, if_false, Bool.false_eq_true, Nat.reduceAdd, Option.bind_some, Bool.not_true, Bool.not_false, Nat.reduceBEq, spec_l10Link_r, spec_l10Link_d0_q, spec_l10Link_d1_q, spec_l10Link_d2_q, spec_l10Link_d3_q, EA, rowL, EB2, p_build, fl_n, bm_n, om_s, c1, c2, c3, ea, e1, e2, e3]
    have hf4 : ∀ c ∈ fX ++ (f4 ++ f6), c < H4.length := fun c hc => own4.lt c hc
    refine ⟨keep_lp' rfl, (k - 1, { l with answers := l.answers ++ [⟨(k : Int), x⟩] }, wX, w4, v', H5, fX ++ (f4 ++ fp')), ⟨by simp only; omega, ⟨?_, ?_, fun c hc => ?_, ?_, ?_⟩⟩, by simp only; omega, ⟨by rw [wP hgt (by omega)]; simp [spec_l10Link_s2, rowL, LeL, LeV], rfl, rfl⟩⟩
    · have oX5 := (d4.own oX (fun hm => hbf (by simp [hm]))).frame (h' := H5) fun c hc => hf' c (fun h6 => dX c hc c (by simp [h6]) rfl) (hf4 c (by simp [hc]))
      have o45 := (d4.own o4 (fun hm => hbf (by simp [hm]))).frame (h' := H5) fun c hc => hf' c (fun h6 => d46 c hc c h6 rfl) (hf4 c (by simp [hc]))
      exact link_own (l := { l with answers := l.answers ++ [⟨(k : Int), x⟩] }) oX5 o45 (by simpa [DQuestion.cd] using o')
    · refine List.nodup_append.2 ⟨nX, List.nodup_append.2 ⟨n4, nd', fun y hy z hz e => ?_⟩, fun y hy z hz e => ?_⟩
      · subst e
        rcases hm' y hz with g | g | g
        · exact d46 y hy y g rfl
        · simp at g
        · have := hf4 y (by simp [hy]); omega
      · subst e
        rcases List.mem_append.1 hz with q | q
        · exact dX y hy y (by simp [q]) rfl
        · rcases hm' y q with g | g | g
          · exact dX y hy y (by simp [g]) rfl
          · simp at g
          · have := hf4 y (by simp [hy]); omega
    · simp only [List.mem_append] at hc
      rcases hc with q | q | q
      · exact ge c (by simp [q])
      · exact ge c (by simp [q])
      · rcases hm' c q with g | g | g
        · exact ge c (by simp [g])
        · simp at g
        · have := dr.len; have := d4.len; omega
    · have dt := dr.trans d4
      refine ⟨?_, by have := dt.len; simp only at *; omega, fun c hc hcb => ?_⟩
      · obtain ⟨i9, h9, p9, hg9⟩ := d4.cur
        exact ⟨i9, h9, p9, frame_hget hg9 (hf' b (fun h6 => hbf (by simp [h6])) (hget_lt hg9))⟩
      · have := hf' c (fun h6 => by have := ge c (by simp [h6]); omega) (by have := dt.len; omega)
        exact this.trans (dt.fr c hc hcb)
    · exact (inv.ans _).mono (by simp only; omega)
  have hge : k = 0 := by simp at hge; omega
  subst hge
  simp only [EV, EL, EB, EF, q_bx, if_true, if_false, Bool.false_eq_true, Nat.reduceAdd, Option.bind_some, Bool.not_true, Bool.not_false, Nat.reduceBEq, spec_l10Link_r, spec_l10Link_d0_q, spec_l10Link_d1_q, spec_l10Link_d2_q, spec_l10Link_d3_q, rowL, EB2]
  refine TCall.ref (by simp only [EO]) (spec_l1Once_T _ hb dr.cur _) ?_
  rintro _ H4 ⟨y, rfl, d4⟩
  replace d4 : DrewX H3 H4 b bs := d4
  have own4 := own_below d4 own hbf
  have dr4 := dr.trans d4
  cases y
  · simp only [EV, EL, EB, EF, q_bx, if_true, if_false, Bool.false_eq_true, Nat.reduceAdd, Option.bind_some, Bool.not_true, Bool.not_false, Nat.reduceBEq, spec_l10Link_r, spec_l10Link_d0_q, spec_l10Link_d1_q, spec_l10Link_d2_q, spec_l10Link_d3_q, rowL, EB2, a1, a2, a3, b1, b2, b3, c1, c2, c3]
    exact ⟨show out1 (.agg _) = true by simp only [EO, a3, b3, c3], l, _, _, rfl, inv, own4, nd, ge, dr4⟩
  simp only [EV, EL, EB, EF, q_bx, if_true, if_false, Bool.false_eq_true, Nat.reduceAdd, Option.bind_some, Bool.not_true, Bool.not_false, Nat.reduceBEq, spec_l10Link_r, spec_l10Link_d0_q, spec_l10Link_d1_q, spec_l10Link_d2_q, spec_l10Link_d3_q, rowL, EB2]
  refine TCall.ref (by simp only [EO]) (l1Below_X _ hb dr4.cur _) ?_
  rintro _ H5 ⟨u, rfl, u0, u1, d5⟩
  replace d5 : DrewX H4 H5 b bs := d5
  simp only [EV, EL, EB, EF, q_bx, if_true, if_false, Bool.false_eq_true, Nat.reduceAdd, Option.bind_some, Bool.not_true, Bool.not_false, Nat.reduceBEq, spec_l10Link_r, spec_l10Link_d0_q, spec_l10Link_d1_q, spec_l10Link_d2_q, spec_l10Link_d3_q, rowL, EB2]
  refine ⟨keep_lp' rfl, ?_⟩
  refine TCall.ref (by simp only [EO]) (l1Below_X _ hb d5.cur _) ?_
  rintro _ H6 ⟨v, rfl, v0, v1, d6⟩
  replace d6 : DrewX H5 H6 b bs := d6
  simp only [EV, EL, EB, EF, q_bx, if_true, if_false, Bool.false_eq_true, Nat.reduceAdd, Option.bind_some, Bool.not_true, Bool.not_false, Nat.reduceBEq, spec_l10Link_r, spec_l10Link_d0_q, spec_l10Link_d1_q, spec_l10Link_d2_q, spec_l10Link_d3_q, rowL, EB2]
  refine ⟨keep_lp' rfl, ?_⟩
  have own6 := own_below d6 (own_below d5 own4 hbf) hbf
  have hv2 := v1 (by omega)
  refine TCall.own (by simp only [EO, a3, b3, c3]) (snap_c (OwnL.see (DLink.c_eq true _) own6) (snap_c (.same _) (snap_c (.same _) snap_n))) (spec_ReleaseExport_T true l (inv.ok (by omega)) (IntKind.i64.wrap (1 + u)) (IntKind.i64.wrap (1 + v))) ?_
  rintro _ H7 fr
  replace fr : Fresh H6 _ _ _ := fr
  obtain ⟨row', f', rfl, o', n', b', e'⟩ := fr.a1
  obtain ⟨wX', w4', w6', fX', f4', f6', rfl, rfl, oX', o4', o6'⟩ := link_cells o'
  obtain ⟨a1', a2', a3', a4'⟩ := oX'.cell
  obtain ⟨b1', b2', b3', b4'⟩ := o4'.cell
  obtain ⟨c1', c2', c3', c4'⟩ := o6'.cell
  simp only [EV, EL, EB, EF, q_bx, if_true, if_false, Bool.false_eq_true, Nat.reduceAdd, Option.bind_some, Bool.not_true, Bool.not_false, Nat.reduceBEq, spec_l10Link_r, spec_l10Link_d0_q, spec_l10Link_d1_q, spec_l10Link_d2_q, spec_l10Link_d3_q, ER, EB2, a1', a2', a3', b1', b2', b3', c1', c2', c3']
  have dr7 := ((dr4.trans d5).trans d6).trans (.ofExt d6.cur e')
  have hw : IntKind.i64.wrap (1 + v) ≤ 1000 := by rw [wsm (by omega) (by omega)]; omega
  exact ⟨show out1 (.agg _) = true by simp only [EO, a3', b3', c3'], relE l (IntKind.i64.wrap (1 + u)) (IntKind.i64.wrap (1 + v)), _, _, rfl, inv.rel (by omega) _ _ hw, o', n', fun c hc => by have := b' c hc; have := dr4.len; have := d5.len; have := d6.len; omega, dr7⟩
theorem spec_DrawFind_T (bs : List Int) (hb : bs.length ≤ 1073741824) (h : AH) : T Try.prog Γ Fn.spec_DrawFindExport [.vs false 1 false (bs.map fun n => [.int .u8 n])] h fun v h' => ∃ (l : DLink) (x : Int) (row : List AV) (fp : List Nat), v = .tup [.agg row, .int .i64 x] ∧ LInv 30 l ∧ OwnL h' row l.cd fp ∧ fp.Nodup ∧ (∀ c ∈ fp, h.length ≤ c) ∧ HExt h h' := by
  refine spec_DrawFindExport_e (aw_sound tabOK mixed [] _ _ _ ?_)
  unfold spec_DrawFindExport_c
  simp only [EV, EL, EB, EF, q_bx, if_true, if_false, Bool.false_eq_true, Nat.reduceAdd, Option.bind_some, Bool.not_true, Bool.not_false, Nat.reduceBEq, spec_DrawFindExport_r, spec_DrawFindExport_d0_q, EB2]
  refine TCall.ref (by simp only [EO]) (spec_l1New_T bs hb _) ?_
  rintro _ H1 ⟨b, rfl, c1, e1, hbh⟩
  replace e1 : HExt h H1 := e1
  replace hbh : h.length ≤ b := hbh
  simp only [EV, EL, EB, EF, q_bx, if_true, if_false, Bool.false_eq_true, Nat.reduceAdd, Option.bind_some, Bool.not_true, Bool.not_false, Nat.reduceBEq, spec_DrawFindExport_r, spec_DrawFindExport_d0_q, EB2]
  refine TCall.ref (by simp only [EO]) (spec_l10Link_T _ hb c1) ?_
  rintro _ H2 ⟨l, row, fp, rfl, inv, own, nd, ge, d2⟩
  replace ge : ∀ c ∈ fp, H1.length ≤ c := ge
  replace d2 : DrewX H1 H2 b bs := d2
  have hb1 : b < H1.length := by obtain ⟨_, _, _, hg⟩ := c1; exact hget_lt hg
  have hbf : b ∉ fp := fun hm => by have := ge b hm; omega
  obtain ⟨wX, w4, w6, fX, f4, f6, rfl, rfl, oX, o4, o6⟩ := link_cells own
  obtain ⟨a1, a2, a3, a4⟩ := oX.cell
  obtain ⟨b1, b2, b3, b4⟩ := o4.cell
  obtain ⟨c1', c2, c3, c4⟩ := o6.cell
  simp only [EV, EL, EB, EF, q_bx, if_true, if_false, Bool.false_eq_true, Nat.reduceAdd, Option.bind_some, Bool.not_true, Bool.not_false, Nat.reduceBEq, spec_DrawFindExport_r, spec_DrawFindExport_d0_q, EB2, a1, a2, a3, b1, b2, b3, c1', c2, c3]
  refine TCall.ref (by simp only [EO]) (l1Below_X _ hb d2.cur _) ?_
  rintro _ H3 ⟨x, rfl, x0, x1, d3⟩
  replace d3 : DrewX H2 H3 b bs := d3
  have own3 := own_below d3 own hbf
  have dd := d2.trans d3
  simp only [EV, EL, EB, EF, q_bx, if_true, if_false, Bool.false_eq_true, Nat.reduceAdd, Option.bind_some, Bool.not_true, Bool.not_false, Nat.reduceBEq, spec_DrawFindExport_r, spec_DrawFindExport_d0_q, ER, EB2, a1, a2, a3, b1, b2, b3, c1', c2, c3]
  have el := e1.len
  exact ⟨keep_lp' rfl, by simp only [List.all_cons, List.all_nil, EO, a3, b3, c3], l, x, _, _, rfl, inv, own3, nd, fun c hc => by have := ge c hc; omega, ⟨by have := dd.len; omega, fun c hc => (dd.fr c (by omega) (by omega)).trans (e1.fr c hc)⟩⟩
theorem drawLink_V (bs : List Int) (hb : bs.length ≤ 1073741824) (h : AH) : T Try.prog Γ Fn.spec_DrawPutExport [.vs false 1 false (bs.map fun n => [.int .u8 n])] h fun v h' => (∃ (l : DLink) (x : Int), v = .tup [.agg (l.c false), .int .i64 x] ∧ LInv 30 l) ∧ h' = h := by
  refine (T.froz (R := fun rs => ∃ (l : DLink) (x : Int), rs = [.a l.cd, .c (.i .i64 x)] ∧ LInv 30 l) ?_).mono ?_
  rotate_left
  · rintro v h' ⟨⟨rs, ⟨l, x, rfl, hl⟩, rfl⟩, rfl⟩
    refine ⟨⟨l, x, ?_, hl⟩, rfl⟩
    simp only [List.map_cons, List.map_nil, resOf_1, resOf_2, resOf, rd_c, rd_a, CD.av_i, DLink.c_eq]
  refine spec_DrawPutExport_e (aw_sound tabOK mixed [] _ _ _ ?_)
  unfold spec_DrawPutExport_c
  simp only [EV, EL, EB, EF, q_bx, if_true, if_false, Bool.false_eq_true, Nat.reduceAdd, Option.bind_some, Bool.not_true, Bool.not_false, Nat.reduceBEq, spec_DrawPutExport_r]
  refine TCall.ref (by simp only [EO]) (spec_DrawFind_T bs hb _) ?_
  rintro _ H1 ⟨l, x, row, fp, rfl, inv, own, nd, ge, ex⟩
  replace ge : ∀ c ∈ fp, h.length ≤ c := ge
  replace ex : HExt h H1 := ex
  obtain ⟨wX, w4, w6, fX, f4, f6, rfl, rfl, oX, o4, o6⟩ := link_cells own
  obtain ⟨a1, a2, a3, a4⟩ := oX.cell
  obtain ⟨b1, b2, b3, b4⟩ := o4.cell
  obtain ⟨c1, c2, c3, c4⟩ := o6.cell
  simp only [EV, EL, EB, EF, q_bx, if_true, if_false, Bool.false_eq_true, Nat.reduceAdd, Option.bind_some, Bool.not_true, Bool.not_false, Nat.reduceBEq, spec_DrawPutExport_r, ER, EB2, a1, a2, a3, b1, b2, b3, c1, c2, c3]
  exact ⟨by simp only [List.all_cons, List.all_nil, EO, a3, b3, c3], [.agg [.int .i64 l.peer, .bool l.up, wX, .int .i64 l.next, w4, .int .i64 l.asked, w6], .int .i64 x], [.a l.cd, .c (.i .i64 x)], _, rfl, ⟨_, [], by simp, ⟨_, rfl, own⟩, [], [], rfl, .i _ _, rfl⟩, ge, ex, l, x, rfl, inv⟩

end Go.Proofs.Ytleddolmolkpfaa

