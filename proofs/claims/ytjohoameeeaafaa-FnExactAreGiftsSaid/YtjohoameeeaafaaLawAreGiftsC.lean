/- The law FnExactAreGifts returns true at every input, and its argument reads behind the call as before. Conditions: none beyond the given row's. -/
import Derived.Test.YtjohoameeeaafaaRows
import Derived.WalkKit
import Derived.ProofKit
import Derived.OpenShut
import Derived.Test.YtjohoameeeaafaaAmTop
import Derived.Test.YtjohoameeeaafaaAreGifts4
set_option linter.unusedVariables false
set_option linter.unusedSimpArgs false
namespace Go.Proofs.Ytjohoameeeaafaa
open Go.AM
open Go.ChangeShapes Go.WideShapes Go.ChangeAt Go.RowKit
theorem own : ownKnob Try.prog.godebug = none := by kernel_rfl

theorem dat_gift {P : Program} {n : Nat} {e t : TypeId} {fs : Array Field} (h1 : P.underlying e = some (.struct fs)) (h2 : fs.toList.map (·.type) = [t, t, t, t]) (h3 : P.underlying t = some (.int .i64)) {d : Dat} (h : Dat.ok P (n + 2) e d) : ∃ x : Gift, d.cells = x.c := by
  obtain ⟨ds, rfl, hd⟩ := dat_struct h1 h
  rw [h2] at hd
  obtain ⟨d0, ds, rfl, k0, h⟩ := DatAll.cons hd
  obtain ⟨d1, ds, rfl, k1, h⟩ := DatAll.cons h
  obtain ⟨d2, ds, rfl, k2, h⟩ := DatAll.cons h
  obtain ⟨d3, ds, rfl, k3, h⟩ := DatAll.cons h
  obtain rfl := DatAll.nil h
  obtain ⟨a, rfl, _⟩ := dat_int h3 k0
  obtain ⟨b, rfl, _⟩ := dat_int h3 k1
  obtain ⟨c, rfl, _⟩ := dat_int h3 k2
  obtain ⟨e, rfl, _⟩ := dat_int h3 k3
  exact ⟨⟨a, b, c, e⟩, rfl⟩

theorem dat_gifts {P : Program} {n : Nat} {t0 e t : TypeId} {fs : Array Field} (h0 : P.underlying t0 = some (.slice e)) (hc : P.cellsOf e = 4) (h1 : P.underlying e = some (.struct fs)) (h2 : fs.toList.map (·.type) = [t, t, t, t]) (h3 : P.underlying t = some (.int .i64)) {d : Dat} (h : Dat.ok P (n + 3) t0 d) :
    ∃ (s : SH) (l : List Gift), s.ok l.length ∧ l.length ≤ maxLen ∧ d.av = sl s 4 (gifts l) := by
  obtain ⟨s, xs, rfl, hs, hm, hx⟩ := dat_slice h0 h
  obtain ⟨l, e1, e2⟩ := dat_list Gift.c (fun d hd => dat_gift h1 h2 h3 hd) hx
  exact ⟨s, l, by rw [← e1]; exact hs, by rw [← e1]; exact hm, by simp [Dat.av, hc, e2, gifts]⟩

theorem cells82 : Try.prog.cellsOf 82 = 4 := by kernel_rfl
noncomputable def giftFields : Array Field := match Try.prog.underlying 82 with | some (.struct fs) => fs | _ => #[]
theorem under82 : Try.prog.underlying 82 = some (.struct giftFields) := by kernel_rfl
theorem fields82 : giftFields.toList.map (·.type) = [3, 3, 3, 3] := by kernel_rfl

set_option maxRecDepth 100000 in
theorem fnExactAreGifts_walk (ds : List Dat) (h : DatAll Try.prog 4 Try.f4.params.toList ds) : T Try.prog (fun _ => none) 4 (ds.map Dat.av) [] fun v _ => v = .bool true := by
  have hp : Try.f4.params.toList = [25] := by kernel_rfl
  obtain ⟨d0, ds, rfl, k0, h⟩ := DatAll.cons (hp ▸ h : DatAll Try.prog 4 [25] ds)
  obtain rfl := DatAll.nil h
  obtain ⟨s, l, hs, hm, e0⟩ := dat_gifts (P := Try.prog) (n := 1) (t0 := 25) (e := 82) (t := 3) Try.underlying25 cells82 under82 fields82 Try.underlying3 k0
  have := law_AreGifts (Γ := fun _ => none) s l hs hm []
  rw [← e0] at this
  exact this.mono fun v h' hv => hv.1

set_option maxRecDepth 100000 in
theorem fnExactAreGifts_lifted (os : Os) (started : os.Started) (H : Type) (enc : TypeId × Value → H) :
    ReturnsInHanded {} Try.checked os 4 .any (Rows.fnExactAreGiftsSpec.pre6 enc Try.prog Try.f4 Rows.fnExactAreGiftsRow.domain false) (Rows.fnExactAreGiftsSpec.post enc Try.prog Try.f4 false true false false) := by
  refine returnsInHanded_of_change (C := Try.checked) own started (by kernel_rfl) Try.func4
    (ChangeSpec.witness6 (enc := enc) (C := Try.checked) false ⟨#[], #[.slice none 0 0], []⟩ 8 (by kernel_rfl) (by kernel_rfl) (by kernel_rfl) (by kernel_rfl)) ?_
  intro W base args ds gs before hval hW hcnd _
  refine law_post (n := 4) (tb := 4) (by decide +kernel) rfl (by kernel_rfl) (by kernel_rfl) (fun xs hx => ?_) fnExactAreGifts_walk hval hW
  have hp : Try.f4.params.toList.length = 1 := by kernel_rfl
  rw [hp] at hx
  match xs, hx with
  | [_], _ => rfl

theorem fnExactAreGifts_over : Rows.fnExactAreGiftsRow.holds Try.pinned (OpenSpec.ofChange Rows.fnExactAreGiftsSpec) :=
  OpenClaim.holds_of_wide 4 Try.f4 rfl rfl rfl rfl rfl rfl rfl ⟨rfl, rfl, rfl, rfl, rfl⟩ rfl rfl rfl rfl rfl (by kernel_rfl) Try.func4 (by kernel_rfl)
    (of_decide_eq_true (by kernel_rfl)) (by unfold Func.isWrapper; first | (rw [if_pos (by decide +kernel)]; kernel_rfl) | (rw [if_neg (by decide +kernel)]; exact ⟨rfl, rfl⟩))
    (fun os started H enc _ => fnExactAreGifts_lifted os started H enc)

/-- THE STATEMENT. -/
theorem fnExactAreGifts_proved : Rows.FnExactAreGiftsSaid := fnExactAreGifts_over
#print axioms fnExactAreGifts_proved
end Go.Proofs.Ytjohoameeeaafaa
