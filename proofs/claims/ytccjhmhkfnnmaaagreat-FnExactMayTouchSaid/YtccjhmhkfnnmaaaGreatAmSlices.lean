import Derived.Test.YtccjhmhkfnnmaaaGreatAmLib
set_option linter.unusedVariables false
set_option linter.unusedSimpArgs false
namespace Go.AM
section
variable {P : Program} {Θ : Tab} {Γ : Glob}
def elV (agg : Bool) (x : List AV) : AV := if agg = true then .agg x else x.getD 0 .any
def elOK (agg : Bool) (sz : Nat) (x : List AV) : Prop := x.length = sz ∧ (agg = true ∨ sz = 1)
theorem load_el {agg : Bool} {sz : Nat} {x : List AV} (h : elOK agg sz x) : (sub x 0 sz).bind (wrapAgg agg) = some (elV agg x) := by
  obtain ⟨h1, h2⟩ := h
  simp only [sub, Nat.zero_add, List.drop_zero]
  rw [if_pos (by omega), List.take_of_length_le (by omega)]
  rcases h2 with rfl | rfl
  · rfl
  · cases agg
    · match x, h1 with
      | [a], _ => rfl
    · rfl
def indexFuncC (sz : Nat) (agg : Bool) : C := .seq (.reg [⟨(some 4), none, .mov (.c (.int .i64 0))⟩]) (.seq (.seq (.reg [⟨(some 6), none, .mov (.t 0)⟩,
  ⟨(some 7), none, .len false (.t 6)⟩,
  ⟨(some 8), none, .mov (.c (.int .i64 0))⟩]) (.block 0 (.loop (.seq (.reg [⟨(some 9), none, .bin .lss (.num) (.t 8) (.t 7)⟩]) (.seq (.cond (.t 9) (.skip) (.exit 0)) (.seq (.block 1 (.seq (.reg [⟨(some 10), none, .mov (.t 8)⟩,
  ⟨(some 5), none, .mov (.t 10)⟩]) (.seq (.reg [⟨(some 11), none, .mov (.t 1)⟩,
  ⟨(some 12), none, .mov (.t 0)⟩,
  ⟨(some 13), none, .mov (.t 5)⟩,
  ⟨(some 14), none, .idxs sz (.t 12) (.t 13)⟩,
  ⟨(some 15), none, .load sz agg (.t 14)⟩,
  ⟨(some 16), none, .call (.t 11) [.t 15]⟩]) (.cond (.t 16) (.seq (.reg [⟨(some 17), none, .mov (.t 5)⟩,
  ⟨(some 4), none, .mov (.t 17)⟩]) (.ret)) (.skip))))) (.reg [⟨(some 18), none, .bin .add (.num) (.t 8) (.c (.int .i64 1))⟩,
  ⟨(some 8), none, .mov (.t 18)⟩]))))))) (.seq (.reg [⟨(some 4), none, .mov (.c (.int .i64 (-1)))⟩]) (.ret)))
abbrev Entry2 (P : Program) (Θ : Tab) (Γ : Glob) (f : FuncId) (c : C) (rs : List RS) (us : List AV) : Prop :=
  ∀ {a0 a1 : AV} {h : AH} {K : AV → AH → Prop}, TC P Θ Γ c (retQ rs K) ⟨a0 :: a1 :: us, [], h⟩ → T P Γ f [a0, a1] h K
end
end Go.AM
