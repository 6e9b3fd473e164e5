import Derived.Test.YteaebikmfmggbaaDoorAmBig
import Derived.Test.YteaebikmfmggbaaDoorAmCat
import Derived.Test.YteaebikmfmggbaaDoorAmStr
import Derived.Test.YteaebikmfmggbaaDoorAmOwn
import Derived.Test.YteaebikmfmggbaaDoorAmTop
import Derived.Sort.Grow
import Derived.Shelf.Strconv.Itoa3
import Derived.Shelf.Strconv.AtoiAll
import Derived.Shelf.Small.Wraps
import Derived.Lib.AtoiTie
set_option linter.unusedVariables false
set_option linter.unusedSimpArgs false
namespace Go.AM
open Go.Proofs Go.Shelf Go.RowKit
variable {P : Program} {Γ : Glob} {h : AH}
theorem RH.below {ρ : Inj} {ls : List Nat} {L : List (List AV)} {w w' : World} (r : RH ρ ls L h w) (b : Below w.heap.size w w') : RH ρ ls L h w' := r.bigger b.size b.block
theorem Evo.below {ρ : Inj} {ls : List Nat} {w w' : World} (b : Below w.heap.size w w') : Evo ρ ls h w ρ ls h w' := .bigger b.size b.block b.os b.output
theorem GOK.var {ρ : Inj} {w : World} (gg : GOK Γ ρ) (r : RH ρ [] [] h w) {g : Nat} {cs : List AV} (e : Γ g = some cs) :
    ∃ arr T fr, w.heap[g]? = some (.cells arr T fr) ∧ arr.size = cs.length ∧ ∀ (i : Nat) (x : AV), cs[i]? = some x → ∃ y, arr[i]? = some y ∧ RV ρ [] x y := by
  obtain ⟨arr, h1, h2, h3⟩ := gg g cs e
  obtain ⟨T, fr, h4⟩ := r.im _ _ _ h1
  exact ⟨arr, T, fr, h4, h3, fun i x hx => by have := h2 i x hx; simpa using this⟩
theorem GOK.tab {ρ : Inj} {w : World} (gg : GOK Γ ρ) (r : RH ρ [] [] h w) {g : Nat} {k : IntKind} {zs : List Int} (e : Γ g = some (zs.map (AV.int k))) {nm : String} (hg : P.globalNamed nm = some g) : Lib.TabIs P w nm k zs := by
  obtain ⟨arr, T, fr, h1, h2, h3⟩ := gg.var r e
  unfold Lib.TabIs World.var?
  rw [hg]
  simp only [Option.bind_some, h1, Option.some.injEq]
  apply Array.ext_getElem?
  intro i
  by_cases hi : i < zs.length
  · have hx : (zs.map (AV.int k))[i]? = some (.int k zs[i]) := by simp [hi]
    obtain ⟨y, hy, ry⟩ := h3 i _ hx
    cases ry
    rw [hy]; simp [hi]
  · rw [Array.getElem?_eq_none (by rw [h2, List.length_map]; omega), Array.getElem?_eq_none (by simp; omega)]
open Classical in
theorem str_beq (a b : ByteArray) : (a.toList == b.toList) = decide (a = b) := by
  by_cases h : a = b
  · subst h; simp
  · rw [decide_eq_false h]
    rw [beq_eq_false_iff_ne]
    intro e
    exact h (ByteArray.ext (by
      have e1 : a.data.toList = b.data.toList := by
        simpa only [ByteArray.toList_eq] using e
      exact Array.toList_inj.1 e1))
theorem T.text {f : FuncId} {args : List AV} {h : AH} {s : ByteArray} (t : T P Γ f args h fun v h' => v = .str s ∧ ∃ N, h' = h ++ N) : T P Γ f args h fun v h' => v = .str s ∧ h' = h := by
  have := T.frozen (rs := [.c (.s s)]) (t.fresh (by
    rintro v h' ⟨rfl, N, rfl⟩
    exact ⟨[.str s], N, [], rfl, rfl, ⟨[], [], rfl, .s _, rfl⟩, List.nodup_nil, by simp⟩))
  exact this.mono fun v h' ⟨h1, h2⟩ => ⟨by simpa [resOf, RD.av, CD.av] using h1, h2⟩
theorem gok_one {W : World} {g : Nat} {v : Value} {T : TypeId} {fr : Nat × Nat} (h : W.heap[g]? = some (.cells #[v] T fr)) :
    ∃ arr, (topInj W).imm false g = some arr ∧ Lies (topInj W) [] arr 0 [.opq v] ∧ arr.size = [AV.opq v].length := by
  refine ⟨#[v], by simp only [topInj, h]; rfl, fun i x hx => ?_, rfl⟩
  match i, hx with
  | 0, hx => simp at hx; subst hx; exact ⟨v, rfl, .opq _ _⟩
  | n + 1, hx => simp at hx
end Go.AM
