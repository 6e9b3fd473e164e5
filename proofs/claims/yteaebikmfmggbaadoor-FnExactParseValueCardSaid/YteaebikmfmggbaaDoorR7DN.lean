import Derived.Test.YteaebikmfmggbaaDoorR7SH
import Derived.Test.YteaebikmfmggbaaDoorAmBits
import Derived.Test.YteaebikmfmggbaaDoorAmApp
import Derived.Lib.ItoaLen
set_option linter.unusedVariables false
set_option linter.unusedSimpArgs false
namespace Go.Proofs.YteaebikmfmggbaaDoor
open Go.AM
set_option linter.unusedVariables false
set_option linter.unusedSimpArgs false
variable {Γ : Glob}
def inR (n lo hi : Int) : Bool := decide (lo ≤ n) && decide (n ≤ hi)
theorem kan_T (n lo hi : Int) (h : AH) : T Tryd.prog Γ Fn.kan [.int .i64 n, .int .i64 lo, .int .i64 hi] h fun v h' => v = .bool (inR n lo hi) ∧ h' = h := by
  refine kan_e (aw_sound tabOK mixed [] _ _ _ ?_)
  unfold kan_c
  simp only [EZ, q_bx, if_true, if_false, Nat.reduceAdd, Option.bind_some, Nat.reduceBEq, kan_r]
  refine k_split (fun h1 => ?_) (fun h1 => ?_) <;> simp only [EZ, q_bx, if_true, if_false, Nat.reduceAdd, Option.bind_some, Nat.reduceBEq, kan_r, h1]
  · exact ⟨rfl, by simp only [inR, h1, Bool.true_and]⟩
  · exact ⟨rfl, by simp only [inR, h1, Bool.false_and]⟩
abbrev i64 (n : Int) : Prop := -9223372036854775808 ≤ n ∧ n ≤ 9223372036854775807
def GItoa (Γ : Glob) : Prop := Γ g171 = some (Lib.pow10Tab.map (AV.int .u64))
theorem kap_T (hΓ : GItoa Γ) (n : Int) (hn : i64 n) (h : AH) : T Tryd.prog Γ Fn.kap [.int .i64 n] h fun v h' => v = .str (itoaB n) ∧ h' = h :=
  itoa_T lay171 c171 g171_at hΓ n hn.1 hn.2 h
theorem kak_T (n : Int) (hn : i64 n) (h : AH) : T Tryd.prog Γ Fn.kak [.int .i64 n] h fun v h' => v = .str (itoaB n) ∧ h' = h := by
  refine T.text ?_
  refine kak_e (aw_sound tabOK mixed [] _ _ _ ?_)
  unfold kak_c
  simp only [EZ, q_bx, if_true, if_false, Nat.reduceAdd, Option.bind_some, Nat.reduceBEq, kak_r]
  refine c_split (fun h0 => ?_) (fun h0 => ?_)
  · have : n = 0 := by simpa using h0
    subst this
    simp only [EZ, q_bx, if_true, if_false, Nat.reduceAdd, Option.bind_some, Nat.reduceBEq, kak_r]
    exact ⟨rfl, by rw [show itoaB 0 = ⟨#[48]⟩ by simp [itoaB, Lib.itoa, decDigits_lt]], [], by simp⟩
  have h0 : n ≠ 0 := by simpa using h0
  simp only [EZ, q_bx, if_true, if_false, Nat.reduceAdd, Option.bind_some, Nat.reduceBEq, kak_r]
  refine loopI tabOK mixed [] (fun y : Int × List UInt8 × AH => i64 y.1 ∧ y.2.1.length ≤ 30 ∧ decD y.1.natAbs ++ y.2.1 = Lib.decDigits n.natAbs ∧ ∃ N, y.2.2 = h ++ N) (fun y => y.1.natAbs)
    (fun y => kak_s0 (.int .i64 n) (.str ⟨y.2.1.toArray⟩) (.int .i64 y.1) [] y.2.2) (n, [], h) ⟨hn, by simp, by simp [decD]; omega, [], by simp⟩ ⟨by simp [kak_s0, LeL, LeV], rfl, rfl⟩ ?_
  rintro ⟨x, l, H⟩ ⟨hx, hl, hd, N, rfl⟩
  simp only at hx hl hd
  simp only [EZ, q_bx, if_true, if_false, Nat.reduceAdd, Option.bind_some, Nat.reduceBEq, kak_r, kak_s0, EA, u_neg, b_quo10, b_rem10]
  refine c_split (fun hx0 => ?_) (fun hx0 => ?_)
  · have hx0 : x ≠ 0 := by simpa using hx0
    have e := nat_rem x (by omega)
    have e2 := nat_quo x
    have e3 : i64 (x.tdiv 10) := by
      have : (x.tdiv 10).natAbs ≤ x.natAbs := by rw [e2]; omega
      omega
    have hs := decD_step (u := x.natAbs) (by omega)
    have fin : ∀ H', (∃ N, H' = h ++ N) → ∃ y : Int × List UInt8 × AH, (i64 y.1 ∧ y.2.1.length ≤ 30 ∧ decD y.1.natAbs ++ y.2.1 = Lib.decDigits n.natAbs ∧ ∃ N, y.2.2 = h ++ N) ∧ y.1.natAbs < x.natAbs ∧ y = (x.tdiv 10, UInt8.ofNat (48 + x.natAbs % 10) :: l, H') := fun H' hH =>
      ⟨_, ⟨e3, by
        have : ((decD x.natAbs) ++ l).length ≤ 20 := by rw [hd]; exact decDigits_len_le (k := 20) (by omega) (by omega)
        rw [hs] at this
        simp at this ⊢; omega, by simp only; rw [e2, ← hd, hs]; simp, hH⟩, by simp only; rw [e2]; omega, rfl⟩
    have w3 : IntKind.i64.wrap (48 + ((x.natAbs % 10 : Nat) : Int)) = ((48 + x.natAbs % 10 : Nat) : Int) := by rw [wrap_nat (by omega) (by omega)]; omega
    have w4 : IntKind.u8.wrap ((48 + x.natAbs % 10 : Nat) : Int) = ((48 + x.natAbs % 10 : Nat) : Int) := by rw [wrapA8]; omega
    have w5 : IntKind.i64.wrap (x.tdiv 10) = x.tdiv 10 := wrap_nat e3.1 (by omega)
    have sa : aBin .add .num (.str ⟨#[UInt8.ofNat (48 + x.natAbs % 10)]⟩) (.str ⟨l.toArray⟩) = some (.str ⟨(UInt8.ofNat (48 + x.natAbs % 10) :: l).toArray⟩) := by
      have := b_sadd (a := ⟨[UInt8.ofNat (48 + x.natAbs % 10)].toArray⟩) (b := ⟨l.toArray⟩) (by rw [str_size, str_size]; simp; omega)
      rw [strAp] at this
      exact this
    have cv : ∀ (e : List AV) (L : List (List AV)) (H : AH), ((St.mk e L (H ++ [some (0, [.int .u8 ((48 + x.natAbs % 10 : Nat) : Int)])])).sliceCells 1 (.gs H.length 0 0 1 1 1 true)).bind bytesOfCells = some [UInt8.ofNat (48 + x.natAbs % 10)] := fun e L H => by
      rw [sc_last]; rfl
    simp only [EZ, q_bx, if_true, if_false, Nat.reduceAdd, Option.bind_some, Nat.reduceBEq, kak_r, EA, u_neg, b_quo10, b_rem10]
    refine c_split (fun hn0 => ?_) (fun hn0 => ?_)
    · have hn0 : x.tmod 10 < 0 := by simpa using hn0
      have w1 : IntKind.i64.wrap (0 - x.tmod 10) = ((x.natAbs % 10 : Nat) : Int) := by rw [wrap_nat (by omega) (by omega)]; omega
      simp only [EZ, q_bx, if_true, if_false, Nat.reduceAdd, Option.bind_some, Nat.reduceBEq, kak_r, EA, u_neg, b_quo10, b_rem10, w1, w3, p_cvi, w4, w5, p_cvt, cv, Option.map_some, sa]
      obtain ⟨y, y1, y2, rfl⟩ := fin (h ++ N ++ [some (0, [.int .u8 ((48 + x.natAbs % 10 : Nat) : Int)])]) ⟨N ++ [some (0, [.int .u8 ((48 + x.natAbs % 10 : Nat) : Int)])], by simp⟩
      exact ⟨_, y1, y2, ⟨by simp [kak_s0, LeL, LeV], rfl, rfl⟩⟩
    · have hn0 : ¬ x.tmod 10 < 0 := by simpa using hn0
      have w1 : x.tmod 10 = ((x.natAbs % 10 : Nat) : Int) := by omega
      simp only [EZ, q_bx, if_true, if_false, Nat.reduceAdd, Option.bind_some, Nat.reduceBEq, kak_r, EA, u_neg, b_quo10, b_rem10, w1, w3, p_cvi, w4, w5, p_cvt, cv, Option.map_some, sa]
      obtain ⟨y, y1, y2, rfl⟩ := fin (h ++ N ++ [some (0, [.int .u8 ((48 + x.natAbs % 10 : Nat) : Int)])]) ⟨N ++ [some (0, [.int .u8 ((48 + x.natAbs % 10 : Nat) : Int)])], by simp⟩
      exact ⟨_, y1, y2, ⟨by simp [kak_s0, LeL, LeV], rfl, rfl⟩⟩
  have hx0 : x = 0 := by simpa using hx0
  subst hx0
  have hd : l = Lib.decDigits n.natAbs := by simpa [decD] using hd
  subst hd
  simp only [EZ, q_bx, if_true, if_false, Nat.reduceAdd, Option.bind_some, Nat.reduceBEq, kak_r]
  refine c_split (fun hn0 => ?_) (fun hn0 => ?_)
  · have hn0 : n < 0 := by simpa using hn0
    have sa : aBin .add .num (.str ⟨#[45]⟩) (.str ⟨(Lib.decDigits n.natAbs).toArray⟩) = some (.str (itoaB n)) := by
      have := b_sadd (a := ⟨[45].toArray⟩) (b := ⟨(Lib.decDigits n.natAbs).toArray⟩) (by rw [str_size, str_size]; simp; omega)
      rw [strAp] at this
      rw [this, itoaB, Lib.itoa, if_pos hn0]; rfl
    simp only [EZ, q_bx, if_true, if_false, Nat.reduceAdd, Option.bind_some, Nat.reduceBEq, kak_r, sa]
    exact ⟨rfl, N, rfl⟩
  · have hn0 : ¬ n < 0 := by simpa using hn0
    simp only [EZ, q_bx, if_true, if_false, Nat.reduceAdd, Option.bind_some, Nat.reduceBEq, kak_r]
    refine ⟨rfl, ?_, N, rfl⟩
    rw [itoaB, Lib.itoa, if_neg hn0, show n.toNat = n.natAbs by omega]
end Go.Proofs.YteaebikmfmggbaaDoor
