import Derived.Test.YtjohoameeeaafaaAmCat
set_option linter.unusedVariables false
set_option linter.unusedSimpArgs false
/-! Varints: bits as numbers. -/
namespace Go.AM
theorem wrapA8 (n : Nat) : IntKind.u8.wrap (n : Int) = ((n % 256 : Nat) : Int) := by
  unfold IntKind.wrap
  simp [IntKind.bits, IntKind.signed]
theorem orA128 (n : Nat) : aBin .or .num (.int .u8 ((n % 256 : Nat) : Int)) (.int .u8 128) = some (.int .u8 ((n % 128 + 128 : Nat) : Int)) := by
  have h : ∀ m : Fin 256, (BitVec.ofInt 8 ((m : Nat) : Int) ||| BitVec.ofInt 8 128).toNat = (m : Nat) % 128 + 128 := by decide +kernel
  have h1 := h ⟨n % 256, by omega⟩
  simp only at h1
  have e : aBin .or .num (.int .u8 ((n % 256 : Nat) : Int)) (.int .u8 128) = some (.int .u8 (IntKind.u8.wrap (((BitVec.ofInt 8 ((n % 256 : Nat) : Int) ||| BitVec.ofInt 8 128).toNat : Nat) : Int))) := by
    simp only [aBin, if_true, aArith, IntKind.bits]; rfl
  rw [e, h1, wrapA8]
  congr 3
  omega
theorem andA127 {n : Nat} (hn : n < 256) : aBin .and .num (.int .u8 (n : Int)) (.int .u8 127) = some (.int .u8 ((n % 128 : Nat) : Int)) := by
  have h : ∀ m : Fin 256, (BitVec.ofInt 8 ((m : Nat) : Int) &&& BitVec.ofInt 8 127).toNat = (m : Nat) % 128 := by decide +kernel
  have h1 := h ⟨n, hn⟩
  simp only at h1
  have e : aBin .and .num (.int .u8 (n : Int)) (.int .u8 127) = some (.int .u8 (IntKind.u8.wrap (((BitVec.ofInt 8 (n : Int) &&& BitVec.ofInt 8 127).toNat : Nat) : Int))) := by
    simp only [aBin, if_true, aArith, IntKind.bits]; rfl
  rw [e, h1, wrapA8]
  congr 3
  omega
theorem shrA7 (n : Nat) : aBin .shr .num (.int .i64 (n : Int)) (.int .u64 7) = some (.int .i64 ((n / 128 : Nat) : Int)) := by
  have : aBin .shr .num (.int .i64 (n : Int)) (.int .u64 7) = some (.int .i64 ((n : Int).fdiv (2 ^ 7))) := by simp [aBin, IntKind.bits]
  rw [this]
  congr 2
  rw [Int.fdiv_eq_ediv_of_nonneg _ (by omega)]
  omega
theorem shlAk {m k : Nat} (hm : m < 128) (hk : k ≤ 5) : aBin .shl .num (.int .i64 (m : Int)) (.int .i64 ((7 * k : Nat) : Int)) = some (.int .i64 ((128 ^ k * m : Nat) : Int)) := by
  have h0 : (0 : Int) ≤ ((7 * k : Nat) : Int) := by omega
  have hmin : min (((7 * k : Nat) : Int)).toNat IntKind.i64.bits = 7 * k := by
    have : IntKind.i64.bits = 64 := rfl
    rw [this, Int.toNat_natCast]; omega
  have hp : (2 : Int) ^ (7 * k) = ((128 ^ k : Nat) : Int) := by
    rw [Int.natCast_pow, show ((128 : Nat) : Int) = 2 ^ 7 from rfl, ← Int.pow_mul]
  have hle : 128 ^ k ≤ 128 ^ 5 := Nat.pow_le_pow_right (by omega) hk
  have hlt : 128 ^ k * m ≤ 128 ^ 5 * 128 := Nat.mul_le_mul hle (by omega)
  have e : (m : Int) * 2 ^ (7 * k) = ((128 ^ k * m : Nat) : Int) := by rw [hp, Int.natCast_mul, Int.mul_comm]
  simp only [aBin]
  rw [if_pos h0, hmin, e, wrap_nat (by omega) (by omega)]
theorem orAadd {a m k : Nat} (ha : a < 128 ^ k) (hm : m < 128) (hk : k ≤ 5) : aBin .or .num (.int .i64 (a : Int)) (.int .i64 ((128 ^ k * m : Nat) : Int)) = some (.int .i64 ((a + 128 ^ k * m : Nat) : Int)) := by
  have hle : 128 ^ k ≤ 128 ^ 5 := Nat.pow_le_pow_right (by omega) hk
  have hlt : 128 ^ k * m ≤ 128 ^ 5 * 128 := Nat.mul_le_mul hle (by omega)
  have hp : 128 ^ k = 2 ^ (7 * k) := by rw [show (128 : Nat) = 2 ^ 7 from rfl, ← Nat.pow_mul]
  have b : ∀ n : Nat, n < 4611686018427387904 → (BitVec.ofInt 64 (n : Int)).toNat = n := fun n hn => by
    rw [BitVec.ofInt_natCast, BitVec.toNat_ofNat, Nat.mod_eq_of_lt (by omega)]
  have h1 : (BitVec.ofInt 64 (a : Int) ||| BitVec.ofInt 64 ((128 ^ k * m : Nat) : Int)).toNat = a + 128 ^ k * m := by
    rw [BitVec.toNat_or, b a (by omega), b _ (by omega), Nat.or_comm, hp, ← Nat.two_pow_add_eq_or_of_lt (by rw [← hp]; exact ha), Nat.add_comm]
  have e : aBin .or .num (.int .i64 (a : Int)) (.int .i64 ((128 ^ k * m : Nat) : Int)) = some (.int .i64 (IntKind.i64.wrap (((BitVec.ofInt 64 (a : Int) ||| BitVec.ofInt 64 ((128 ^ k * m : Nat) : Int)).toNat : Nat) : Int))) := by
    simp only [aBin, if_true, aArith, IntKind.bits]; rfl
  rw [e, h1, wrap_nat (by omega) (by omega)]
/-- A number's varint. -/
def enc : Nat → Nat → List Int
  | 0, n => [(n : Int)]
  | f + 1, n => if n < 128 then [(n : Int)] else ((n % 128 + 128 : Nat) : Int) :: enc f (n / 128)
theorem enc_lt {f n : Nat} (h : n < 128) : enc f n = [(n : Int)] := by cases f <;> simp [enc, h]
theorem enc_ge {f n : Nat} (h : ¬ n < 128) : enc (f + 1) n = ((n % 128 + 128 : Nat) : Int) :: enc f (n / 128) := by simp [enc, h]
theorem enc_len : ∀ (f n : Nat), 1 ≤ (enc f n).length ∧ (enc f n).length ≤ f + 1
  | 0, n => by simp [enc]
  | f + 1, n => by
    by_cases h : n < 128
    · rw [enc_lt h]; simp
    · rw [enc_ge h]; have := enc_len f (n / 128); simp; omega
end Go.AM
