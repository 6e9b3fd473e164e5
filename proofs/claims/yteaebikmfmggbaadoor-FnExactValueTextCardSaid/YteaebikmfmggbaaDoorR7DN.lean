import Derived.Test.YteaebikmfmggbaaDoorR7SH
import Derived.Test.YteaebikmfmggbaaDoorAmBits
import Derived.Test.YteaebikmfmggbaaDoorAmApp
import Derived.Lib.ItoaLen
set_option linter.unusedVariables false
set_option linter.unusedSimpArgs false
namespace Go.Proofs.YteaebikmfmggbaaDoor
open Go.AM
set_option linter.unusedVariables false
set_option linter.unusedSimpArgs false
variable {Γ : Glob}
abbrev i64 (n : Int) : Prop := -9223372036854775808 ≤ n ∧ n ≤ 9223372036854775807
def GItoa (Γ : Glob) : Prop := Γ g171 = some (Lib.pow10Tab.map (AV.int .u64))
theorem kag_T (hΓ : GItoa Γ) (n : Int) (hn : i64 n) (h : AH) : T Tryd.prog Γ Fn.kag [.int .i64 n] h fun v h' => v = .str (itoaB n) ∧ h' = h :=
  itoa_T lay171 c171 g171_at hΓ n hn.1 hn.2 h
theorem kaa_T (hΓ : GItoa Γ) (n : Int) (hn : i64 n) (h : AH) : T Tryd.prog Γ Fn.kaa [.int .i64 n] h fun v h' => v = .str (itoaB n) ∧ h' = h := by
  refine kaa_e (aw_sound tabOK mixed [] _ _ _ ?_)
  unfold kaa_c
  simp only [EZ, q_bx, if_true, if_false, Nat.reduceAdd, Option.bind_some, Nat.reduceBEq, kaa_r]
  refine TCall.val (by simp only [EO]) (kag_T hΓ n hn _) ?_
  simp only [EZ, q_bx, if_true, if_false, Nat.reduceAdd, Option.bind_some, Nat.reduceBEq, kaa_r]
  first | exact ⟨rfl, rfl⟩ | exact rfl
theorem kae_T (n : Int) (hn : i64 n) (h : AH) : T Tryd.prog Γ Fn.kae [.int .i64 n] h fun v h' => v = .str (itoaB n) ∧ h' = h := by
  refine T.text ?_
  refine kae_e (aw_sound tabOK mixed [] _ _ _ ?_)
  unfold kae_c
  simp only [EZ, q_bx, if_true, if_false, Nat.reduceAdd, Option.bind_some, Nat.reduceBEq, kae_r]
  refine c_split (fun h0 => ?_) (fun h0 => ?_)
  · have : n = 0 := by simpa using h0
    subst this
    simp only [EZ, q_bx, if_true, if_false, Nat.reduceAdd, Option.bind_some, Nat.reduceBEq, kae_r]
    exact ⟨rfl, by rw [show itoaB 0 = ⟨#[48]⟩ by simp [itoaB, Lib.itoa, decDigits_lt]], [], by simp⟩
  have h0 : n ≠ 0 := by simpa using h0
  simp only [EZ, q_bx, if_true, if_false, Nat.reduceAdd, Option.bind_some, Nat.reduceBEq, kae_r]
  refine loopI tabOK mixed [] (fun y : Int × List UInt8 × AH => i64 y.1 ∧ y.2.1.length ≤ 30 ∧ decD y.1.natAbs ++ y.2.1 = Lib.decDigits n.natAbs ∧ ∃ N, y.2.2 = h ++ N) (fun y => y.1.natAbs)
    (fun y => kae_s0 (.int .i64 n) (.str ⟨y.2.1.toArray⟩) (.int .i64 y.1) [] y.2.2) (n, [], h) ⟨hn, by simp, by simp [decD]; omega, [], by simp⟩ ⟨by simp [kae_s0, LeL, LeV], rfl, rfl⟩ ?_
  rintro ⟨x, l, H⟩ ⟨hx, hl, hd, N, rfl⟩
  simp only at hx hl hd
  simp only [EZ, q_bx, if_true, if_false, Nat.reduceAdd, Option.bind_some, Nat.reduceBEq, kae_r, kae_s0, EA, u_neg, b_quo10, b_rem10]
  refine c_split (fun hx0 => ?_) (fun hx0 => ?_)
  · have hx0 : x ≠ 0 := by simpa using hx0
    have e := nat_rem x (by omega)
    have e2 := nat_quo x
    have e3 : i64 (x.tdiv 10) := by
      have : (x.tdiv 10).natAbs ≤ x.natAbs := by rw [e2]; omega
      omega
    have hs := decD_step (u := x.natAbs) (by omega)
    have fin : ∀ H', (∃ N, H' = h ++ N) → ∃ y : Int × List UInt8 × AH, (i64 y.1 ∧ y.2.1.length ≤ 30 ∧ decD y.1.natAbs ++ y.2.1 = Lib.decDigits n.natAbs ∧ ∃ N, y.2.2 = h ++ N) ∧ y.1.natAbs < x.natAbs ∧ y = (x.tdiv 10, UInt8.ofNat (48 + x.natAbs % 10) :: l, H') := fun H' hH =>
      ⟨_, ⟨e3, by
        have : ((decD x.natAbs) ++ l).length ≤ 20 := by rw [hd]; exact decDigits_len_le (k := 20) (by omega) (by omega)
        rw [hs] at this
        simp at this ⊢; omega, by simp only; rw [e2, ← hd, hs]; simp, hH⟩, by simp only; rw [e2]; omega, rfl⟩
    have w3 : IntKind.i64.wrap (48 + ((x.natAbs % 10 : Nat) : Int)) = ((48 + x.natAbs % 10 : Nat) : Int) := by rw [wrap_nat (by omega) (by omega)]; omega
    have w4 : IntKind.u8.wrap ((48 + x.natAbs % 10 : Nat) : Int) = ((48 + x.natAbs % 10 : Nat) : Int) := by rw [wrapA8]; omega
    have w5 : IntKind.i64.wrap (x.tdiv 10) = x.tdiv 10 := wrap_nat e3.1 (by omega)
    have sa : aBin .add .num (.str ⟨#[UInt8.ofNat (48 + x.natAbs % 10)]⟩) (.str ⟨l.toArray⟩) = some (.str ⟨(UInt8.ofNat (48 + x.natAbs % 10) :: l).toArray⟩) := by
      have := b_sadd (a := ⟨[UInt8.ofNat (48 + x.natAbs % 10)].toArray⟩) (b := ⟨l.toArray⟩) (by rw [str_size, str_size]; simp; omega)
      rw [strAp] at this
      exact this
    have cv : ∀ (e : List AV) (L : List (List AV)) (H : AH), ((St.mk e L (H ++ [some (0, [.int .u8 ((48 + x.natAbs % 10 : Nat) : Int)])])).sliceCells 1 (.gs H.length 0 0 1 1 1 true)).bind bytesOfCells = some [UInt8.ofNat (48 + x.natAbs % 10)] := fun e L H => by
      rw [sc_last]; rfl
    simp only [EZ, q_bx, if_true, if_false, Nat.reduceAdd, Option.bind_some, Nat.reduceBEq, kae_r, EA, u_neg, b_quo10, b_rem10]
    refine c_split (fun hn0 => ?_) (fun hn0 => ?_)
    · have hn0 : x.tmod 10 < 0 := by simpa using hn0
      have w1 : IntKind.i64.wrap (0 - x.tmod 10) = ((x.natAbs % 10 : Nat) : Int) := by rw [wrap_nat (by omega) (by omega)]; omega
      simp only [EZ, q_bx, if_true, if_false, Nat.reduceAdd, Option.bind_some, Nat.reduceBEq, kae_r, EA, u_neg, b_quo10, b_rem10, w1, w3, p_cvi, w4, w5, p_cvt, cv, Option.map_some, sa]
      obtain ⟨y, y1, y2, rfl⟩ := fin (h ++ N ++ [some (0, [.int .u8 ((48 + x.natAbs % 10 : Nat) : Int)])]) ⟨N ++ [some (0, [.int .u8 ((48 + x.natAbs % 10 : Nat) : Int)])], by simp⟩
      exact ⟨_, y1, y2, ⟨by simp [kae_s0, LeL, LeV], rfl, rfl⟩⟩
    · have hn0 : ¬ x.tmod 10 < 0 := by simpa using hn0
      have w1 : x.tmod 10 = ((x.natAbs % 10 : Nat) : Int) := by omega
      simp only [EZ, q_bx, if_true, if_false, Nat.reduceAdd, Option.bind_some, Nat.reduceBEq, kae_r, EA, u_neg, b_quo10, b_rem10, w1, w3, p_cvi, w4, w5, p_cvt, cv, Option.map_some, sa]
      obtain ⟨y, y1, y2, rfl⟩ := fin (h ++ N ++ [some (0, [.int .u8 ((48 + x.natAbs % 10 : Nat) : Int)])]) ⟨N ++ [some (0, [.int .u8 ((48 + x.natAbs % 10 : Nat) : Int)])], by simp⟩
      exact ⟨_, y1, y2, ⟨by simp [kae_s0, LeL, LeV], rfl, rfl⟩⟩
  have hx0 : x = 0 := by simpa using hx0
  subst hx0
  have hd : l = Lib.decDigits n.natAbs := by simpa [decD] using hd
  subst hd
  simp only [EZ, q_bx, if_true, if_false, Nat.reduceAdd, Option.bind_some, Nat.reduceBEq, kae_r]
  refine c_split (fun hn0 => ?_) (fun hn0 => ?_)
  · have hn0 : n < 0 := by simpa using hn0
    have sa : aBin .add .num (.str ⟨#[45]⟩) (.str ⟨(Lib.decDigits n.natAbs).toArray⟩) = some (.str (itoaB n)) := by
      have := b_sadd (a := ⟨[45].toArray⟩) (b := ⟨(Lib.decDigits n.natAbs).toArray⟩) (by rw [str_size, str_size]; simp; omega)
      rw [strAp] at this
      rw [this, itoaB, Lib.itoa, if_pos hn0]; rfl
    simp only [EZ, q_bx, if_true, if_false, Nat.reduceAdd, Option.bind_some, Nat.reduceBEq, kae_r, sa]
    exact ⟨rfl, N, rfl⟩
  · have hn0 : ¬ n < 0 := by simpa using hn0
    simp only [EZ, q_bx, if_true, if_false, Nat.reduceAdd, Option.bind_some, Nat.reduceBEq, kae_r]
    refine ⟨rfl, ?_, N, rfl⟩
    rw [itoaB, Lib.itoa, if_neg hn0, show n.toNat = n.natAbs by omega]
def vtextF (x : DValue) : ByteArray := if x.kind = 0 then itoaB x.n else if x.kind = 1 then ⟨#[64]⟩ ++ itoaB x.n else if x.kind = 2 then ⟨#[33]⟩ else ⟨#[63]⟩
theorem itoaB_len (n : Int) (hn : i64 n) : (itoaB n).size ≤ 21 := by
  rw [itoaB, str_size]; exact Lib.itoa_length_le n hn.1 hn.2
theorem kad_T (β : Bool) (x : DValue) (h : AH) : T Tryd.prog Γ Fn.kad [.agg (x.c β)] h fun v h' => v = .agg (x.c false) ∧ h' = h := by
  refine kad_e (aw_sound tabOK mixed [] _ _ _ ?_)
  unfold kad_c
  simp only [EZ, q_bx, if_true, if_false, Nat.reduceAdd, Option.bind_some, Nat.reduceBEq, kad_r, DValue.c]
  first | exact ⟨rfl, rfl⟩ | exact rfl
theorem kaf_T (β : Bool) (x : DValue) (hx : i64 x.n) (h : AH) : T Tryd.prog Γ Fn.kaf [.agg (x.c β)] h fun v h' => v = .str (vtextF x) ∧ h' = h := by
  have sa := b_sadd (a := ⟨#[64]⟩) (b := itoaB x.n) (by have := itoaB_len x.n hx; have : (⟨#[64]⟩ : ByteArray).size = 1 := rfl; omega)
  refine kaf_e (aw_sound tabOK mixed [] _ _ _ ?_)
  unfold kaf_c
  simp only [EZ, q_bx, if_true, if_false, Nat.reduceAdd, Option.bind_some, Nat.reduceBEq, kaf_r, DValue.c, beq_dec]
  by_cases h0 : x.kind = 0
  · simp only [EZ, q_bx, if_true, if_false, Nat.reduceAdd, Option.bind_some, Nat.reduceBEq, kaf_r, DValue.c, beq_dec, decide_eq_true h0]
    refine TCall.val (by simp only [EO]) (kae_T _ hx _) ?_
    simp only [EZ, q_bx, if_true, if_false, Nat.reduceAdd, Option.bind_some, Nat.reduceBEq, kaf_r, DValue.c]
    exact ⟨rfl, by simp [vtextF, h0]⟩
  by_cases h1 : x.kind = 1
  · simp only [EZ, q_bx, if_true, if_false, Nat.reduceAdd, Option.bind_some, Nat.reduceBEq, kaf_r, DValue.c, beq_dec, decide_eq_false h0, decide_eq_true h1]
    refine TCall.val (by simp only [EO]) (kae_T _ hx _) ?_
    simp only [EZ, q_bx, if_true, if_false, Nat.reduceAdd, Option.bind_some, Nat.reduceBEq, kaf_r, DValue.c, sa]
    exact ⟨rfl, by simp [vtextF, h1]⟩
  by_cases h2 : x.kind = 2
  · simp only [EZ, q_bx, if_true, if_false, Nat.reduceAdd, Option.bind_some, Nat.reduceBEq, kaf_r, DValue.c, beq_dec, decide_eq_false h0, decide_eq_false h1, decide_eq_true h2]
    exact ⟨rfl, by simp [vtextF, h2]⟩
  · simp only [EZ, q_bx, if_true, if_false, Nat.reduceAdd, Option.bind_some, Nat.reduceBEq, kaf_r, DValue.c, beq_dec, decide_eq_false h0, decide_eq_false h1, decide_eq_false h2]
    exact ⟨rfl, by simp [vtextF, h0, h1, h2]⟩
theorem kab_T (hΓ : GItoa Γ) (β : Bool) (x : DValue) (hx : i64 x.n) (h : AH) : T Tryd.prog Γ Fn.kab [.agg (x.c β)] h fun v h' => v = .str (vtextF x) ∧ h' = h := by
  have sa := b_sadd (a := ⟨#[64]⟩) (b := itoaB x.n) (by have := itoaB_len x.n hx; have : (⟨#[64]⟩ : ByteArray).size = 1 := rfl; omega)
  refine kab_e (aw_sound tabOK mixed [] _ _ _ ?_)
  unfold kab_c
  simp only [EZ, q_bx, if_true, if_false, Nat.reduceAdd, Option.bind_some, Nat.reduceBEq, kab_r, DValue.c, beq_dec]
  by_cases h0 : x.kind = 0
  · simp only [EZ, q_bx, if_true, if_false, Nat.reduceAdd, Option.bind_some, Nat.reduceBEq, kab_r, DValue.c, beq_dec, decide_eq_true h0]
    refine TCall.val (by simp only [EO]) (kaa_T hΓ _ hx _) ?_
    simp only [EZ, q_bx, if_true, if_false, Nat.reduceAdd, Option.bind_some, Nat.reduceBEq, kab_r, DValue.c]
    exact ⟨rfl, by simp [vtextF, h0]⟩
  by_cases h1 : x.kind = 1
  · simp only [EZ, q_bx, if_true, if_false, Nat.reduceAdd, Option.bind_some, Nat.reduceBEq, kab_r, DValue.c, beq_dec, decide_eq_false h0, decide_eq_true h1]
    refine TCall.val (by simp only [EO]) (kaa_T hΓ _ hx _) ?_
    simp only [EZ, q_bx, if_true, if_false, Nat.reduceAdd, Option.bind_some, Nat.reduceBEq, kab_r, DValue.c, sa]
    exact ⟨rfl, by simp [vtextF, h1]⟩
  by_cases h2 : x.kind = 2
  · simp only [EZ, q_bx, if_true, if_false, Nat.reduceAdd, Option.bind_some, Nat.reduceBEq, kab_r, DValue.c, beq_dec, decide_eq_false h0, decide_eq_false h1, decide_eq_true h2]
    exact ⟨rfl, by simp [vtextF, h2]⟩
  · simp only [EZ, q_bx, if_true, if_false, Nat.reduceAdd, Option.bind_some, Nat.reduceBEq, kab_r, DValue.c, beq_dec, decide_eq_false h0, decide_eq_false h1, decide_eq_false h2]
    exact ⟨rfl, by simp [vtextF, h0, h1, h2]⟩
theorem law_ValueText (hΓ : GItoa Γ) (x : DValue) (hx : i64 x.n) (h : AH) : T Tryd.prog Γ Fn.kac [.agg (x.c false)] h fun v h' => v = .bool true ∧ h' = h := by
  refine kac_e (aw_sound tabOK mixed [] _ _ _ ?_)
  unfold kac_c
  simp only [EZ, q_bx, if_true, if_false, Nat.reduceAdd, Option.bind_some, Nat.reduceBEq, kac_r, DValue.c]
  refine TCall.val (by simp only [EO]) (kad_T false x _) ?_
  simp only [EZ, q_bx, if_true, if_false, Nat.reduceAdd, Option.bind_some, Nat.reduceBEq, kac_r, DValue.c]
  refine TCall.val (by simp only [EO]) (kaf_T false x hx _) ?_
  simp only [EZ, q_bx, if_true, if_false, Nat.reduceAdd, Option.bind_some, Nat.reduceBEq, kac_r, DValue.c]
  refine TCall.val (by simp only [EO]) (kad_T false x _) ?_
  simp only [EZ, q_bx, if_true, if_false, Nat.reduceAdd, Option.bind_some, Nat.reduceBEq, kac_r, DValue.c]
  refine TCall.val (by simp only [EO]) (kab_T hΓ false x hx _) ?_
  simp only [EZ, q_bx, if_true, if_false, Nat.reduceAdd, Option.bind_some, Nat.reduceBEq, kac_r, DValue.c, str_beq, decide_true]
  first | exact ⟨rfl, rfl⟩ | exact rfl
end Go.Proofs.YteaebikmfmggbaaDoor
