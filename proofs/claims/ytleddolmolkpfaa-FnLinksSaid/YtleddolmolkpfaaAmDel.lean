import Derived.Test.YtleddolmolkpfaaAmRows
import Derived.Test.YtleddolmolkpfaaAmCat
set_option linter.unusedVariables false
set_option linter.unusedSimpArgs false
namespace Go.AM
theorem snap_b1 {H : AH} {q : Nat} {x : AV} (hq : hget H q = some (0, [x])) : Snap H (.gp q 0 0) (.ip true [x]) := by
  refine .gp q 0 0 [x] [x] (fun _ => x) (hget_spec hq) (fun j y hy => ?_) (fun j y hy => ?_)
  · cases j with
    | zero => rfl
    | succ j => simp at hy
  · cases j with
    | zero => simp at hy; subst hy; exact .same _
    | succ j => simp at hy
theorem snap_f1 {H : AH} {g : FuncId} {a a' : AV} (ha : Snap H a a') : Snap H (.fn g [] [a]) (.fn g [] [a']) := by
  refine .fn g _ _ rfl (fun i => [a].getD i .any) (fun i y hy => ?_) (fun i y hy => ?_)
  · match i, hy with
    | 0, _ => rfl
    | n + 1, h => simp at h
  · match i, hy with
    | 0, h => simp at h; subst h; exact ha
    | n + 1, h => simp at h
theorem idxI_firstG {α : Type} {p : α → Bool} {l : List α} {k : Nat} (h : idxI p l = (k : Int)) : ∀ (i : Nat) (hi : i < l.length), i < k → p l[i] = false := by
  unfold idxI at h
  split at h
  · rename_i j hj
    have hjk : j = k := by omega
    subst hjk
    obtain ⟨_, _, h3⟩ := List.findIdx?_eq_some_iff_getElem.1 hj
    intro i hi hik
    have := h3 i hik
    simpa using this
  · omega
theorem bndN (i : Nat) : bndV (.int .i64 (i : Int)) = some i := by simp [bndV, asI]
theorem bnd_x {Γ : Glob} (s : St) (d : Nat) (x : X) : bnd Γ s d (some x) = bndV (s.eval Γ x) := rfl
def cut3 (k : SK) (s : St) (v lo hi mx : AV) : AR := match bndV lo, bndV hi, bndV mx with | some l, some h, some m => .ofO s (aSlice k v l (some h) (some m)) | _, _, _ => .stuck
theorem p_cut3 {Γ : Glob} (gl : Bool) (s : St) (k : SK) (x y z w : X) : step Γ gl s (.slice k x (some y) (some z) (some w)) = cut3 k s (s.eval Γ x) (s.eval Γ y) (s.eval Γ z) (s.eval Γ w) := by
  simp only [step, cut3, bnd_x]
  cases bndV (s.eval Γ y) <;> cases bndV (s.eval Γ z) <;> cases bndV (s.eval Γ w) <;> rfl
theorem cut3_gs (s : St) {b g len cap sz l h m : Nat} {ex : Bool} (h1 : l ≤ h) (h2 : h ≤ m) (h3 : m ≤ cap) : cut3 (.sl sz) s (.gs b g 0 len cap sz ex) (.int .i64 l) (.int .i64 h) (.int .i64 m) = .val (.gs b g (l * sz) (h - l) (m - l) sz true) s := by
  simp [cut3, bndN, aSlice, AR.ofO, h1, h2, h3]
theorem cutBoth_gs (s : St) {b g len cap sz l h : Nat} {ex : Bool} (h1 : l ≤ h) (h2 : h ≤ cap) : cutBoth (.sl sz) s (.gs b g 0 len cap sz ex) (.int .i64 l) (.int .i64 h) = .val (.gs b g (l * sz) (h - l) (cap - l) sz ex) s := by
  simp [cutBoth, bndN, aSlice, AR.ofO, h1, h2]
section
variable {α : Type} {c : α → List AV} {sz : Nat} (hc : ∀ x, (c x).length = sz)
include hc
theorem flat_drop (l : List α) (i : Nat) (hi : i ≤ l.length) : ((l.map c).flatten).drop (i * sz) = ((l.drop i).map c).flatten := by
  have e : (l.map c).flatten = ((l.take i).map c).flatten ++ ((l.drop i).map c).flatten := by
    conv => lhs; rw [← List.take_append_drop i l]
    rw [List.map_append, List.flatten_append]
  have h2 : ((l.take i).map c).flatten.length = i * sz := by rw [flat_len' (fun x _ => hc x), List.length_take, Nat.min_eq_left hi]
  rw [e, ← h2, List.drop_left]
theorem del_over (l : List α) {k : Nat} (hk : k < l.length) (tail : List AV) : over ((l.map c).flatten ++ tail) (k * sz) ((l.drop (k + 1)).map c).flatten = ((l.take k ++ (l.drop (k + 1) ++ l.drop (l.length - 1))).map c).flatten ++ tail := by
  obtain ⟨h1, h2⟩ := rows_split hc hk tail
  have h3 : ((l.drop (k + 1)).map c).flatten.length = (l.length - (k + 1)) * sz := by rw [flat_len' (fun x _ => hc x), List.length_drop]
  have h4 : ((l.map c).flatten).length = l.length * sz := by rw [flat_len' (fun x _ => hc x)]
  have ht : ((l.map c).flatten ++ tail).take (k * sz) = ((l.take k).map c).flatten := by rw [h1, ← h2, List.take_left]
  have hd : k * sz + (l.length - (k + 1)) * sz = (l.length - 1) * sz := by rw [← Nat.add_mul]; congr 1; omega
  have hle : (l.length - 1) * sz ≤ l.length * sz := Nat.mul_le_mul_right _ (by omega)
  unfold over
  rw [ht, h3, hd, List.drop_append_of_le_length (by rw [h4]; exact hle), flat_drop hc l _ (by omega)]
  simp only [List.map_append, List.flatten_append, List.append_assoc]
theorem del_app (l : List α) {k : Nat} (hk : k < l.length) (tail : List AV) {H : AH} {b g cap bytes : Nat} {ex : Bool} (h : hget H b = some (g, (l.map c).flatten ++ tail)) (hcap : l.length ≤ cap) (hn : ((l.map c).flatten).all noLp = true) (hz : 0 < sz) (hb : l.length * (sz + bytes) ≤ maxMade) (e : List AV) (L : List (List AV)) :
    appK ⟨e, L, H⟩ sz bytes (.gs b g 0 k cap sz ex) (srcCells ⟨e, L, H⟩ sz false (.gs b g ((k + 1) * sz) (l.length - (k + 1)) (cap - (k + 1)) sz ex)) (lenOf (.gs b g ((k + 1) * sz) (l.length - (k + 1)) (cap - (k + 1)) sz ex)) (lenOf (.gs b g 0 k cap sz ex)) =
      .val (.gs b g 0 (l.length - 1) cap sz ex) ⟨e, L, H.set b (some (g, ((l.take k ++ (l.drop (k + 1) ++ l.drop (l.length - 1))).map c).flatten ++ tail))⟩ := by
  have h3 : ((l.drop (k + 1)).map c).flatten.length = (l.length - (k + 1)) * sz := by rw [flat_len' (fun x _ => hc x), List.length_drop]
  have h4 : ((l.map c).flatten).length = l.length * sz := by rw [flat_len' (fun x _ => hc x)]
  have hle : (k + 1) * sz + (l.length - (k + 1)) * sz = l.length * sz := by rw [← Nat.add_mul]; congr 1; omega
  have src : srcCells ⟨e, L, H⟩ sz false (.gs b g ((k + 1) * sz) (l.length - (k + 1)) (cap - (k + 1)) sz ex) = some ((l.drop (k + 1)).map c).flatten := by
    simp only [srcCells, St.sliceCells, h, Option.bind_some, if_true]
    unfold sub
    rw [if_pos (by rw [List.length_append, h4]; omega), List.drop_append_of_le_length (by rw [h4]; omega), flat_drop hc l _ (by omega), List.take_append_of_le_length (by omega), List.take_of_length_le (by omega)]
  have hn2 : ((l.drop (k + 1)).map c).flatten.all noLp = true := by
    rw [List.all_eq_true] at hn ⊢
    intro x hx
    refine hn x ?_
    rw [List.mem_flatten] at hx ⊢
    obtain ⟨y, hy, hxy⟩ := hx
    obtain ⟨z, hz, rfl⟩ := List.mem_map.1 hy
    exact ⟨_, List.mem_map.2 ⟨z, List.mem_of_mem_drop hz, rfl⟩, hxy⟩
  have hlen : k + (l.length - (k + 1)) = l.length - 1 := by omega
  have hll : (l.length - 1) * sz ≤ l.length * sz := Nat.mul_le_mul_right _ (by omega)
  have hmm : (l.length - 1) * (sz + bytes) ≤ l.length * (sz + bytes) := Nat.mul_le_mul_right _ (by omega)
  rw [src]
  simp only [lenOf, appK, aApp, AR.ofP]
  rw [if_neg (by omega), hlen, if_neg (by omega)]
  simp only [h, Option.bind_some, if_true, hn2]
  rw [if_pos (by omega), if_pos (by rw [List.length_append, h4]; omega), Nat.zero_add, del_over hc l hk tail]
end
end Go.AM

