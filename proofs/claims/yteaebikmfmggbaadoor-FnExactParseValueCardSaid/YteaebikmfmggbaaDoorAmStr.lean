import Derived.Test.YteaebikmfmggbaaDoorAmLib
set_option linter.unusedVariables false
set_option linter.unusedSimpArgs false
namespace Go.AM
section
variable {P : Program} {Θ : Tab} {Γ : Glob}
def idxstrK (s : St) : AV → AV → AR
  | .str v, .int _ n => .ofO s (if 0 ≤ n then (v[n.toNat]?).map fun b => .int .u8 b.toNat else none)
  | _, _ => .stuck
theorem p_idxstr (gl : Bool) (s : St) (x i : X) : step Γ gl s (.idxstr x i) = idxstrK s (s.eval Γ x) (s.eval Γ i) := by
  simp only [step]; unfold idxstrK; rfl
def byteAt (v : ByteArray) (k : Nat) : Nat := (v.data.toList.getD k 0).toNat
theorem idxstr_at (s : St) {v : ByteArray} {k : Nat} (h : k < v.size) : idxstrK s (.str v) (.int .i64 (k : Int)) = .val (.int .u8 (byteAt v k : Nat)) s := by
  have e : v[k]? = some v[k] := getElem?_pos v k h
  have e2 : v.data.toList[k]? = some v[k] := by
    have h' : k < v.data.size := h
    rw [Array.getElem?_toList, Array.getElem?_eq_getElem h']; rfl
  simp only [idxstrK]
  rw [if_pos (by omega), Int.toNat_natCast, e]
  simp only [Option.map_some, AR.ofO, byteAt, List.getD_eq_getElem?_getD, e2, Option.getD_some]
end
theorem lenI_str (v : ByteArray) : lenI true (.str v) = some (.int .i64 v.size) := rfl
end Go.AM
