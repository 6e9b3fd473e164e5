/- The law FnExactValueText returns true at every input, and its argument reads behind the call as before. Conditions: none beyond the given card's (three tables of the library hold what the program's text lays, tied). -/
import Derived.Test.YteaebikmfmggbaaDoorCards
import Derived.Test.YteaebikmfmggbaaDoorTie
import Derived.WalkKit
import Derived.ProofKit
import Derived.OpenShut
import Derived.LaidMore
import Derived.Lay
import Derived.SevenTiedAt
import Derived.Stop.Joined
import Derived.Stop.LaidErr
import Derived.Test.YteaebikmfmggbaaDoorAmTop
import Derived.Test.YteaebikmfmggbaaDoorR7DN
set_option linter.unusedVariables false
set_option linter.unusedSimpArgs false
namespace Go.Proofs.YteaebikmfmggbaaDoor
open Go.AM
open Go.ChangeShapes Go.WideShapes Go.ChangeAt Go.RowKit
set_option linter.unusedVariables false
theorem own : ownKnob Tryd.prog.godebug = none := by kernel_rfl
noncomputable def gfl23 : Array Field := match Tryd.prog.underlying 23 with | some (.struct fs) => fs | _ => #[]
structure Facts (P : Program) (f23 : Array Field) : Prop where
  und3 : P.underlying 3 = some (.int .i64)
  und23 : P.underlying 23 = some (.struct f23)
  fls23 : f23.toList.map (·.type) = [3, 3]
theorem wf_i64 {n : Int} (h : (Lit.int .i64 n).wf = true) : i64 n := by
  simp [Lit.wf, IntKind.min, IntKind.max, IntKind.signed, IntKind.bits] at h
  exact ⟨by omega, by omega⟩
theorem dat23 {P : Program} {f23 : Array Field} (F : Facts P f23) {n : Nat} {d : Dat} (h : Dat.ok P (n + 2) 23 d) : ∃ x : DValue, d.cells = x.c false ∧ i64 x.n := by
  obtain ⟨ds, rfl, hh⟩ := dat_struct F.und23 h
  rw [F.fls23] at hh
  obtain ⟨d0, ds, rfl, k0, hh⟩ := DatAll.cons hh
  obtain ⟨d1, ds, rfl, k1, hh⟩ := DatAll.cons hh
  obtain rfl := DatAll.nil hh
  obtain ⟨x0, rfl, _⟩ := dat_int F.und3 k0
  obtain ⟨x1, rfl, w1⟩ := dat_int F.und3 k1
  exact ⟨⟨x0, x1⟩, by simp [Dat.cells, Dat.cellsF, DValue.c], wf_i64 w1⟩
theorem facts : Facts Tryd.prog gfl23 := ⟨by kernel_rfl, by kernel_rfl, by kernel_rfl⟩
def Γt : Glob := fun g => if g = g171 then some (Lib.pow10Tab.map (AV.int .u64)) else none
theorem Γt_itoa : GItoa Γt := rfl
theorem pow10_eq : Lib.pow10Tab = [1, 10, 100, 1000, 10000, 100000, 1000000, 10000000, 100000000, 1000000000, 10000000000, 100000000000, 1000000000000, 10000000000000, 100000000000000, 1000000000000000, 10000000000000000, 100000000000000000, 1000000000000000000, 10000000000000000000] := by decide +kernel
theorem pow10_laid {H : Type} : (Rows.laid_internal_strconv_uint64pow10 : DataW H) = Lib.tabData .u64 Lib.pow10Tab := by
  rw [pow10_eq]; rfl
theorem pow10_is {W : World} {r : List (String × DataW Unit)} (h : laidMet Tryd.prog (("internal/strconv.uint64pow10", Rows.laid_internal_strconv_uint64pow10) :: r) W) : Lib.TabIs Tryd.prog W "internal/strconv.uint64pow10" .u64 Lib.pow10Tab := by
  rw [pow10_laid] at h
  exact Lib.tabIs_of_head g171_at (show (Tryd.prog.globals[5]?).map (·.type) = some 100 by kernel_rfl) Tryd.underlying100 (show Tryd.prog.underlying 80 = some (.int .u64) by kernel_rfl) (show Tryd.prog.cellsOf 80 = 1 by kernel_rfl) (show Tryd.prog.cellsOf 100 = 20 by kernel_rfl) h
theorem gok_t {W : World} (h : Lib.TabIs Tryd.prog W "internal/strconv.uint64pow10" .u64 Lib.pow10Tab) : GOK Γt (topInj W) := by
  intro g cs e
  unfold Γt at e
  split at e
  · rename_i hg
    subst hg
    injection e with e
    subst e
    exact gok_tab g171_at h
  · cases e
set_option maxRecDepth 100000 in
theorem fnExactValueText_walk (ds : List Dat) (h : DatAll Tryd.prog 2 Tryd.f3.params.toList ds) : T Tryd.prog Γt 3 (ds.map Dat.av) [] fun v _ => v = .bool true := by
  have hp : Tryd.f3.params.toList = [23] := by kernel_rfl
  obtain ⟨d0, ds, rfl, k0, h⟩ := DatAll.cons (hp ▸ h : DatAll Tryd.prog 2 [23] ds)
  obtain rfl := DatAll.nil h
  obtain ⟨x0, c0, q0⟩ := dat23 facts (n := 0) k0
  have e0 : d0.av = .agg (x0.c false) := dat_agg facts.und23 k0 c0
  have := law_ValueText Γt_itoa x0 q0 []
  rw [← e0] at this
  exact this.mono fun v h' hv => hv.1
set_option maxRecDepth 100000 in
theorem fnExactValueText_lifted (os : Os) (started : os.Started) (H : Type) (enc : TypeId × Value → H) :
    ReturnsInHanded {} Tryd.checked os 3 .any (fun w args => (Rows.fnExactValueTextSpec.pre enc Tryd.prog Tryd.f3 Rows.fnExactValueTextRow.domain false w args ∧ laidMetH Tryd.prog Rows.fnExactValueTextRow.laid w) ∧ sizedMet enc Tryd.prog Tryd.f3 (OpenSpec.ofChange Rows.fnExactValueTextSpec) false w args)
      (Rows.fnExactValueTextSpec.post enc Tryd.prog Tryd.f3 false true false false) := by
  refine returnsInHanded_of_change_and (C := Tryd.checked) (X := fun w _ => laidMetH Tryd.prog Rows.fnExactValueTextRow.laid w) (fun _ _ _ hh h => h.of_heap hh) own started (by kernel_rfl) Tryd.func3
    (ChangeSpec.witness_shaped (enc := enc) (C := Tryd.checked) (os := os) (X := fun w _ => laidMetH Tryd.prog Rows.fnExactValueTextRow.laid w) false (World.laidAll Tryd.prog os Rows.fnExactValueTextRow.laid) #[.agg #[.int .i64 0, .int .i64 0]] 8 (World.laidAll_os _ _ _)
      (World.shaped_of_ZipB (by kernel_rfl) (by kernel_rfl)) (by kernel_rfl) (by kernel_rfl) (by kernel_rfl)
      (by rw [MakeChecks.laidMetH_plain _ _ _ (by kernel_rfl)]; exact laidMet_laidAll _ (by kernel_rfl) (by kernel_rfl))) ?_
  intro W base args ds gs before hval hW _ _ hL _
  rw [MakeChecks.laidMetH_plain _ _ _ (by kernel_rfl)] at hL
  have ht := pow10_is hL.tail.tail
  refine law_postG (n := 2) (tb := 4) (by decide +kernel) rfl (by kernel_rfl) (by kernel_rfl) (fun xs hx => ?_) fnExactValueText_walk hval hW (gok_t ht)
  have hp : Tryd.f3.params.toList.length = 1 := by kernel_rfl
  rw [hp] at hx
  match xs, hx with
  | [_], _ => rfl
theorem fnExactValueText_over : Rows.FnExactValueTextSaid :=
  OpenClaim.holds_of_wide 3 Tryd.f3 rfl rfl rfl rfl rfl rfl rfl ⟨rfl, rfl, rfl, rfl, rfl⟩ rfl rfl rfl rfl rfl (by kernel_rfl) Tryd.func3 (by kernel_rfl)
    (of_decide_eq_true (by kernel_rfl)) (by unfold Func.isWrapper; first | (rw [if_pos (by decide +kernel)]; kernel_rfl) | (rw [if_neg (by decide +kernel)]; exact ⟨rfl, rfl⟩))
    (fun os started H enc _ => fnExactValueText_lifted os started H enc)
theorem fnExactValueText_proved : Rows.FnExactValueTextCardSaid :=
  Claim7.holds_tied_plain_at .later [] [.data, .data, .data] true (true, "2377fae47f99ddd18dcc11f9af113d4c7affd063d056797ecdf94b330965d62f") true
    fnExactValueText_over (fun _ h => by cases h) (by kernel_rfl) (fun _ h => by cases h) fnExactValueText_row_tie rfl ⟨rfl, rfl⟩ (by kernel_rfl) rfl
    (fun f fn hf hfn => by
      obtain rfl : f = 3 := Option.some.inj ((show Tryd.prog.funcNamed "loop.example/g00591/laws.FnExactValueText" = some 3 by kernel_rfl).symm.trans hf) |>.symm
      obtain rfl : fn = Tryd.f3 := (Option.some.inj (Tryd.func3.symm.trans hfn)).symm
      exact ⟨by kernel_rfl, fun j t ht => by
        rw [Tryd.params3] at ht
        have hm : t ∈ [23] := by simpa using Array.mem_of_getElem? ht
        have hall : ([23].all fun u => !Tryd.prog.wantsStandIn u) = true := by kernel_rfl
        exact (show Tryd.prog.wantsStandIn t = false by simpa using List.all_eq_true.1 hall t hm)⟩)
    (by kernel_rfl)
#print axioms fnExactValueText_proved
end Go.Proofs.YteaebikmfmggbaaDoor
