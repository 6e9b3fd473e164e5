import Derived.Test.YtleddolmolkpfaaGreatAmRows
set_option linter.unusedVariables false
set_option linter.unusedSimpArgs false
namespace Go.AM
theorem p_cvi {Γ : Glob} (gl : Bool) (s : St) (k : IntKind) (x : X) : step Γ gl s (.cvi k x) = (match s.eval Γ x with | .int _ n => .val (.int k (k.wrap n)) s | _ => .stuck) := rfl
def Cur (H : AH) (b : Nat) (bs : List Int) : Prop := ∃ i h : Int, 0 ≤ i ∧ hget H b = some (0, [.vs false 1 false (bs.map fun n => [.int .u8 n]), .int .i64 i, .int .i64 h])
def cviK (k : IntKind) (s : St) : AV → AR | .int _ n => .val (.int k (k.wrap n)) s | _ => .stuck
structure DrewX (H h' : AH) (b : Nat) (bs : List Int) : Prop where
  cur : Cur h' b bs
  len : H.length ≤ h'.length
  fr : ∀ c, c < H.length → c ≠ b → h'[c]? = H[c]?
theorem DrewX.trans {H h1 h2 : AH} {b : Nat} {bs : List Int} (a : DrewX H h1 b bs) (c : DrewX h1 h2 b bs) : DrewX H h2 b bs :=
  ⟨c.cur, Nat.le_trans a.len c.len, fun x hx hb => (c.fr x (Nat.lt_of_lt_of_le hx a.len) hb).trans (a.fr x hx hb)⟩
theorem Cur.grow {H : AH} {b : Nat} {bs : List Int} (c : Cur H b bs) (N : AH) : Cur (H ++ N) b bs := by obtain ⟨i, h, hi, hg⟩ := c; exact ⟨i, h, hi, hget_grow hg N⟩
theorem Cur.ext {H H' : AH} {b : Nat} {bs : List Int} (c : Cur H b bs) (e : HExt H H') : Cur H' b bs := by obtain ⟨N, rfl⟩ := e.out; exact c.grow N
theorem DrewX.own {H H' : AH} {b : Nat} {bs : List Int} (d : DrewX H H' b bs) {a : AV} {cd : CD} {fp : List Nat} (o : Own H a cd fp) (hb : b ∉ fp) : Own H' a cd fp := o.frame fun c hc => d.fr c (o.lt c hc) (fun e => hb (e ▸ hc))
end Go.AM

