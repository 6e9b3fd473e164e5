import Derived.Test.YtleddolmolkpfaaAmRows
set_option linter.unusedVariables false
set_option linter.unusedSimpArgs false
namespace Go.AM
theorem shr_ex (k k' : IntKind) (a : Int) {b : Int} (h : 0 ≤ b) : ∃ x, aBin .shr .num (.int k a) (.int k' b) = some (.int k x) := ⟨_, by simp only [aBin]; rw [if_pos h]⟩
theorem xor_ex (k : IntKind) (a b : Int) : ∃ x, aBin .xor .num (.int k a) (.int k b) = some (.int k x) := ⟨_, by simp only [aBin, if_true, aArith]; rfl⟩
theorem and_mask (a : Int) {m : Nat} (hm : m < 4611686018427387904) : ∃ x, aBin .and .num (.int .i64 a) (.int .i64 (m : Int)) = some (.int .i64 x) ∧ 0 ≤ x ∧ x ≤ m := by
  have e : (BitVec.ofInt 64 (m : Int)).toNat = m := by
    rw [BitVec.ofInt_natCast, BitVec.toNat_ofNat, Nat.mod_eq_of_lt (by omega)]
  have h1 : (BitVec.ofInt 64 a &&& BitVec.ofInt 64 (m : Int)).toNat ≤ m := by
    rw [BitVec.toNat_and, e]; exact Nat.and_le_right
  refine ⟨((BitVec.ofInt 64 a &&& BitVec.ofInt 64 (m : Int)).toNat : Int), ?_, by omega, by exact_mod_cast h1⟩
  obtain ⟨d, hd⟩ : ∃ d, d = (BitVec.ofInt 64 a &&& BitVec.ofInt 64 (m : Int)).toNat := ⟨_, rfl⟩
  rw [← hd] at h1 ⊢
  have hw : IntKind.i64.wrap (d : Int) = (d : Int) := wrap_nat (by omega) (by omega)
  have : aBin .and .num (.int .i64 a) (.int .i64 (m : Int)) = some (.int .i64 (IntKind.i64.wrap (((BitVec.ofInt 64 a &&& BitVec.ofInt 64 (m : Int)).toNat : Nat) : Int))) := by simp only [aBin, if_true, aArith, IntKind.bits]; rfl
  rw [this, ← hd, hw]
theorem p_cvi {Γ : Glob} (gl : Bool) (s : St) (k : IntKind) (x : X) : step Γ gl s (.cvi k x) = (match s.eval Γ x with | .int _ n => .val (.int k (k.wrap n)) s | _ => .stuck) := rfl
def Cur (H : AH) (b : Nat) (bs : List Int) : Prop := ∃ i h : Int, 0 ≤ i ∧ hget H b = some (0, [.vs false 1 false (bs.map fun n => [.int .u8 n]), .int .i64 i, .int .i64 h])
theorem flat_asG {H : AH} : ∀ {az : List AV} {cs : List CD} {fp : List Nat}, cs.all CD.flat = true → OwnL H az cs fp → az = cs.map (CD.av false)
  | [], [], _, _, o => rfl
  | a :: az, d :: ds, fp, h, ⟨f1, f2, e, o1, o2⟩ => by
    simp only [List.all_cons, Bool.and_eq_true] at h
    rw [List.map_cons, ← flat_asG h.2 o2]
    congr 1
    cases o1 with
    | i => simp [CD.av_i]
    | b => simp [CD.av_b]
    | s => simp [CD.av_s]
    | nil => simp [CD.flat] at h
    | gs => simp [CD.flat] at h
structure DrewX (H h' : AH) (b : Nat) (bs : List Int) : Prop where
  cur : Cur h' b bs
  len : H.length ≤ h'.length
  fr : ∀ c, c < H.length → c ≠ b → h'[c]? = H[c]?
theorem DrewX.trans {H h1 h2 : AH} {b : Nat} {bs : List Int} (a : DrewX H h1 b bs) (c : DrewX h1 h2 b bs) : DrewX H h2 b bs :=
  ⟨c.cur, Nat.le_trans a.len c.len, fun x hx hb => (c.fr x (Nat.lt_of_lt_of_le hx a.len) hb).trans (a.fr x hx hb)⟩
theorem Cur.grow {H : AH} {b : Nat} {bs : List Int} (c : Cur H b bs) (N : AH) : Cur (H ++ N) b bs := by obtain ⟨i, h, hi, hg⟩ := c; exact ⟨i, h, hi, hget_grow hg N⟩
theorem Cur.ext {H H' : AH} {b : Nat} {bs : List Int} (c : Cur H b bs) (e : HExt H H') : Cur H' b bs := by obtain ⟨N, rfl⟩ := e.out; exact c.grow N
theorem DrewX.ofExt {H H' : AH} {b : Nat} {bs : List Int} (c : Cur H b bs) (e : HExt H H') : DrewX H H' b bs := ⟨c.ext e, e.len, fun x hx _ => e.fr x hx⟩
theorem DrewX.own {H H' : AH} {b : Nat} {bs : List Int} (d : DrewX H H' b bs) {a : AV} {cd : CD} {fp : List Nat} (o : Own H a cd fp) (hb : b ∉ fp) : Own H' a cd fp := o.frame fun c hc => d.fr c (o.lt c hc) (fun e => hb (e ▸ hc))
end Go.AM

