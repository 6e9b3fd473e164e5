/- The law FnExactParseValue returns true at every input, and its argument reads behind the call as before. Conditions: none beyond the given card's (three tables and two errors of the library hold what the program's text lays, tied). -/
import Derived.Test.YteaebikmfmggbaaDoorCards
import Derived.Test.YteaebikmfmggbaaDoorTie
import Derived.WalkKit
import Derived.ProofKit
import Derived.OpenShut
import Derived.LaidMore
import Derived.Lay
import Derived.SevenTiedAt
import Derived.Stop.Joined
import Derived.Stop.LaidErr
import Derived.Test.YteaebikmfmggbaaDoorAmTop
import Derived.Test.YteaebikmfmggbaaDoorR7PV
set_option linter.unusedVariables false
set_option linter.unusedSimpArgs false
namespace Go.Proofs.YteaebikmfmggbaaDoor
open Go.AM
open Go.ChangeShapes Go.WideShapes Go.ChangeAt Go.RowKit
set_option linter.unusedVariables false
theorem own : ownKnob Tryd.prog.godebug = none := by kernel_rfl
structure Facts (P : Program) : Prop where
  und9 : P.underlying 9 = some .string
theorem facts : Facts Tryd.prog := ⟨by kernel_rfl⟩
def Γp (t1 : TypeId) (p1 : Value) (t2 : TypeId) (p2 : Value) : Glob := fun g => if g = g171 then some (Lib.pow10Tab.map (AV.int .u64)) else if g = 3 then some [.opq (.iface t1 p1)] else if g = 4 then some [.opq (.iface t2 p2)] else none
theorem Γp_ok (t1 : TypeId) (p1 : Value) (t2 : TypeId) (p2 : Value) : GAtoi (Γp t1 p1 t2 p2) := ⟨rfl, ⟨t1, p1, rfl⟩, ⟨t2, p2, rfl⟩⟩
theorem pow10_eq : Lib.pow10Tab = [1, 10, 100, 1000, 10000, 100000, 1000000, 10000000, 100000000, 1000000000, 10000000000, 100000000000, 1000000000000, 10000000000000, 100000000000000, 1000000000000000, 10000000000000000, 100000000000000000, 1000000000000000000, 10000000000000000000] := by decide +kernel
theorem pow10_laid {H : Type} : (Rows.laid_internal_strconv_uint64pow10 : DataW H) = Lib.tabData .u64 Lib.pow10Tab := by
  rw [pow10_eq]; rfl
theorem pow10_is {W : World} {r : List (String × DataW Unit)} (h : laidMet Tryd.prog (("internal/strconv.uint64pow10", Rows.laid_internal_strconv_uint64pow10) :: r) W) : Lib.TabIs Tryd.prog W "internal/strconv.uint64pow10" .u64 Lib.pow10Tab := by
  rw [pow10_laid] at h
  exact Lib.tabIs_of_head g171_at (show (Tryd.prog.globals[5]?).map (·.type) = some 100 by kernel_rfl) Tryd.underlying100 (show Tryd.prog.underlying 80 = some (.int .u64) by kernel_rfl) (show Tryd.prog.cellsOf 80 = 1 by kernel_rfl) (show Tryd.prog.cellsOf 100 = 20 by kernel_rfl) h
theorem iface_cell {P : Program} {n nm : String} {D : DataW Unit} {r : List (String × DataW Unit)} {W : World} {g : Nat} {ti : TypeId} {ms : Array (String × TypeId)}
    (h : laidMet P ((n, .iface nm D) :: r) W) (hg : P.globalNamed n = some g) (ht : (P.globals[g]?).map (·.type) = some ti) (hi : P.underlying ti = some (.interface ms)) :
    ∃ t p T fr, W.heap[g]? = some (.cells #[.iface t p] T fr) := by
  obtain ⟨ps, ⟨g0, t0, cs0, f0, p0, q0, hg0, ht0, hv0, hd0, _, e0⟩, _, hrows⟩ := h
  obtain rfl := Option.some.inj (hg.symm.trans hg0)
  obtain rfl := Option.some.inj (ht.symm.trans ht0)
  obtain ⟨f1, t, p, hcs, _⟩ := iface_of_trod hi hd0
  obtain rfl : cs0 = #[.iface t p] := Array.toList_inj.1 hcs
  unfold World.var? at hv0
  rw [hg] at hv0
  simp only [Option.bind_some] at hv0
  split at hv0
  · rename_i cs T fr hh
    injection hv0 with hv0
    subst hv0
    exact ⟨t, p, T, fr, hh⟩
  · cases hv0
theorem gok_p {W : World} {t1 t2 T1 T2 : TypeId} {p1 p2 : Value} {f1 f2 : Nat × Nat} (h : Lib.TabIs Tryd.prog W "internal/strconv.uint64pow10" .u64 Lib.pow10Tab) (h1 : W.heap[3]? = some (.cells #[.iface t1 p1] T1 f1)) (h2 : W.heap[4]? = some (.cells #[.iface t2 p2] T2 f2)) :
    GOK (Γp t1 p1 t2 p2) (topInj W) := by
  intro g cs e
  unfold Γp at e
  split at e
  · rename_i hg
    subst hg
    injection e with e
    subst e
    exact gok_tab g171_at h
  split at e
  · rename_i hg
    subst hg
    injection e with e
    subst e
    exact gok_one h1
  split at e
  · rename_i hg
    subst hg
    injection e with e
    subst e
    exact gok_one h2
  · cases e
set_option maxRecDepth 100000 in
theorem fnExactParseValue_walk (t1 : TypeId) (p1 : Value) (t2 : TypeId) (p2 : Value) (ds : List Dat) (h : DatAll Tryd.prog 2 Tryd.f5.params.toList ds) : T Tryd.prog (Γp t1 p1 t2 p2) 5 (ds.map Dat.av) [] fun v _ => v = .bool true := by
  have hp : Tryd.f5.params.toList = [9] := by kernel_rfl
  obtain ⟨d0, ds, rfl, k0, h⟩ := DatAll.cons (hp ▸ h : DatAll Tryd.prog 2 [9] ds)
  obtain rfl := DatAll.nil h
  obtain ⟨x0, rfl, q0⟩ := dat_str (n := 1) facts.und9 k0
  exact (law_ParseValue (Γp_ok t1 p1 t2 p2) x0 []).mono fun v h' hv => hv.1
set_option maxRecDepth 100000 in
theorem fnExactParseValue_lifted (os : Os) (started : os.Started) (H : Type) (enc : TypeId × Value → H) :
    ReturnsInHanded {} Tryd.checked os 5 .any (fun w args => (Rows.fnExactParseValueSpec.pre enc Tryd.prog Tryd.f5 Rows.fnExactParseValueRow.domain false w args ∧ laidMetH Tryd.prog Rows.fnExactParseValueRow.laid w) ∧ sizedMet enc Tryd.prog Tryd.f5 (OpenSpec.ofChange Rows.fnExactParseValueSpec) false w args)
      (Rows.fnExactParseValueSpec.post enc Tryd.prog Tryd.f5 false true false false) := by
  refine returnsInHanded_of_change_and (C := Tryd.checked) (X := fun w _ => laidMetH Tryd.prog Rows.fnExactParseValueRow.laid w) (fun _ _ _ hh h => h.of_heap hh) own started (by kernel_rfl) Tryd.func5
    (ChangeSpec.witness_shaped (enc := enc) (C := Tryd.checked) (os := os) (X := fun w _ => laidMetH Tryd.prog Rows.fnExactParseValueRow.laid w) false (World.doorLaid Tryd.prog 400 os) #[.string ⟨#[]⟩] 8 rfl
      (World.shaped_of_RefB (by kernel_rfl) (by kernel_rfl)) (by kernel_rfl) (by kernel_rfl) (by kernel_rfl)
      (laidMetH_of_parts3 (fuel := 8) (laidMet_of_run' 8 (by kernel_rfl) (by kernel_rfl)) (by kernel_rfl) (by kernel_rfl))) ?_
  intro W base args ds gs before hval hW _ _ hL _
  rw [MakeChecks.laidMetH_plain _ _ _ (by kernel_rfl)] at hL
  have ht := pow10_is hL.tail.tail
  obtain ⟨t2, p2, T2, f2, h2⟩ := iface_cell hL.tail.tail.tail (show Tryd.prog.globalNamed "strconv.ErrRange" = some 4 by kernel_rfl) (show (Tryd.prog.globals[4]?).map (·.type) = some 44 by kernel_rfl) Tryd.underlying44
  obtain ⟨t1, p1, T1, f1, h1⟩ := iface_cell hL.tail.tail.tail.tail (show Tryd.prog.globalNamed "strconv.ErrSyntax" = some 3 by kernel_rfl) (show (Tryd.prog.globals[3]?).map (·.type) = some 44 by kernel_rfl) Tryd.underlying44
  refine law_postG (n := 2) (tb := 4) (by decide +kernel) rfl (by kernel_rfl) (by kernel_rfl) (fun xs hx => ?_) (fnExactParseValue_walk t1 p1 t2 p2) hval hW (gok_p ht h1 h2)
  have hp : Tryd.f5.params.toList.length = 1 := by kernel_rfl
  rw [hp] at hx
  match xs, hx with
  | [_], _ => rfl
theorem fnExactParseValue_over : Rows.FnExactParseValueSaid :=
  OpenClaim.holds_of_wide 5 Tryd.f5 rfl rfl rfl rfl rfl rfl rfl ⟨rfl, rfl, rfl, rfl, rfl⟩ rfl rfl rfl rfl rfl (by kernel_rfl) Tryd.func5 (by kernel_rfl)
    (of_decide_eq_true (by kernel_rfl)) (by unfold Func.isWrapper; first | (rw [if_pos (by decide +kernel)]; kernel_rfl) | (rw [if_neg (by decide +kernel)]; exact ⟨rfl, rfl⟩))
    (fun os started H enc _ => fnExactParseValue_lifted os started H enc)
theorem fnExactParseValue_proved : Rows.FnExactParseValueCardSaid :=
  Claim7.holds_tied_plain_at .later [] [.data, .data, .data, .sentinel, .sentinel] true (true, "2377fae47f99ddd18dcc11f9af113d4c7affd063d056797ecdf94b330965d62f") true
    fnExactParseValue_over (fun _ h => by cases h) (by kernel_rfl) (fun _ h => by cases h) fnExactParseValue_row_tie rfl ⟨rfl, rfl⟩ (by kernel_rfl) rfl
    (fun f fn hf hfn => by
      obtain rfl : f = 5 := Option.some.inj ((show Tryd.prog.funcNamed "loop.example/g00591/laws.FnExactParseValue" = some 5 by kernel_rfl).symm.trans hf) |>.symm
      obtain rfl : fn = Tryd.f5 := (Option.some.inj (Tryd.func5.symm.trans hfn)).symm
      exact ⟨by kernel_rfl, fun j t ht => by
        rw [Tryd.params5] at ht
        have hm : t ∈ [9] := by simpa using Array.mem_of_getElem? ht
        have hall : ([9].all fun u => !Tryd.prog.wantsStandIn u) = true := by kernel_rfl
        exact (show Tryd.prog.wantsStandIn t = false by simpa using List.all_eq_true.1 hall t hm)⟩)
    (by kernel_rfl)
#print axioms fnExactParseValue_proved
end Go.Proofs.YteaebikmfmggbaaDoor
