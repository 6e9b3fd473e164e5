/- The law FnExactPatternText returns true. Conditions: none beyond the given card's (two tables of the library hold what the program's text lays, tied; one of them by the form's pinned constant). -/
import Derived.Test.YteaebikmfmggbaaDoorCards
import Derived.Test.YteaebikmfmggbaaDoorTie
import Derived.WalkKit
import Derived.ProofKit
import Derived.OpenShut
import Derived.LaidMore
import Derived.Lay
import Derived.SevenTiedAt
import Derived.Stop.Joined
import Derived.Stop.LaidErr
import Derived.Test.YteaebikmfmggbaaDoorAmTop
import Derived.Shelf.Vars
import Derived.Handed
import Derived.Test.YteaebikmfmggbaaDoorR7PP
set_option linter.unusedVariables false
set_option linter.unusedSimpArgs false
namespace Go.Proofs.YteaebikmfmggbaaDoor
open Go.AM
open Go.ChangeShapes Go.WideShapes Go.ChangeAt Go.RowKit
set_option linter.unusedVariables false
theorem own : ownKnob Tryd.prog.godebug = none := by kernel_rfl
def Γm (m : Int) : Glob := fun g => if g = 0 then some [.opq (.int .i64 m)] else none
theorem cells_int {P : Program} {w : World} {g : Nat} {t : TypeId} {zero : Array Value} {k : IntKind} (h : w.ShapedOpen P) (hg : g < P.globals.size)
    (h0 : ((begin P (fun _ _ => 0) default).world.heap[g]?).bind Obj.row? = some (zero, t)) (hz : zero.size = 1)
    (hb : P.buildable t = true) (hc : P.cellTypes P.depth t = some [t]) (hu : P.underlying t = some (.int k)) : ∃ m T fr, w.heap[g]? = some (.cells #[.int k m] T fr) := by
  obtain ⟨m, hm⟩ := Go.Proofs.cell_of_shapedOpen_int h hg h0 hz hb hc hu
  obtain ⟨cs, hh, hs, _⟩ := h.1 g zero t hg h0
  rw [Go.AM.cell_of hh] at hm
  refine ⟨m, t, (0, 0), ?_⟩
  rw [hh]
  congr 2
  apply Array.ext
  · simp; omega
  · intro i h1 h2
    have : i = 0 := by simp at h2; omega
    subst this
    rw [Array.getElem?_eq_getElem h1] at hm
    simpa using hm
theorem gok_m {W : World} {m : Int} {T : TypeId} {fr : Nat × Nat} (h : W.heap[0]? = some (.cells #[.int .i64 m] T fr)) : GOK (Γm m) (topInj W) := by
  intro g cs e
  unfold Γm at e
  split at e
  · rename_i hg
    subst hg
    injection e with e
    subst e
    exact gok_one h
  · cases e
theorem inHanded_shaped {H : Type} {enc : TypeId × Value → H} {a : Assume} {C : Checked} {os : Os} {f : FuncId} {fn : Func} {s : ChangeSpec} {conds : List PathCond} {apart fresh handsOn again : Bool} {X : World → Array Value → Prop}
    (hX : ∀ (w w' : World) (args : Array Value), w.heap = w'.heap → X w args → X w' args)
    (own : ownKnob C.prog.godebug = none) (started : os.Started) (noInit : C.prog.inits.idxOf? f = none) (hfn : C.prog.funcs[f]? = some fn)
    (witness : ∃ (w : World) (tape : Tape) (i : Input), w.os = os ∧ (w.forCall tape i).Shaped C.prog ∧ i.vars = [] ∧ Input.okWide C.prog (w.forCall tape i) .any w.heap.size f i ∧
      ((s.pre enc C.prog fn conds apart (w.forCall tape i).memory i.args ∧ X (w.forCall tape i).memory i.args) ∧ sizedMet enc C.prog fn (OpenSpec.ofChange s) apart (w.forCall tape i).memory i.args) ∧ a.holds C.prog (lone (Frame.enter C.prog f i.args .normal) [] (w.forCall tape i)))
    (contract : ∀ (W : World) (base : Nat) (args : Array Value) (ds gs : List (DataW H)) (before : List MemPlace), W.ShapedOpen C.prog →
      (∀ (j : Nat) t v, fn.params[j]? = some t → args[j]? = some v → Value.okWide C.prog W .any base t v) →
      DataW.Whole enc C.prog fn.params.toList s.vars apart W args.toList ds gs before → X W args →
      Calls C.prog f args W fun e W' => ∃ v, e = .returned v ∧ s.post enc C.prog fn apart fresh handsOn again W args v W') :
    ReturnsInHanded a C os f .any (fun w args => (s.pre enc C.prog fn conds apart w args ∧ X w args) ∧ sizedMet enc C.prog fn (OpenSpec.ofChange s) apart w args) (s.post enc C.prog fn apart fresh handsOn again) := by
  refine returnsInHanded_of_calls own started noInit witness ?_
  intro w tape i _ hsh _ hok hpre hholds
  obtain ⟨_, _, _, fn', hfn', _, _, _, _, hval⟩ := hok
  have e : fn' = fn := Option.some.inj (hfn'.symm.trans hfn)
  subst e
  obtain ⟨⟨⟨ds, gs, before, hw, hc⟩, hx⟩, hz⟩ := hpre
  have hw' := DataW.Whole.of_heap (w' := w.forCall tape i) (by rfl) hw
  refine (contract (w.forCall tape i) w.heap.size i.args ds gs before hsh hval hw' (hX _ _ _ (by rfl) hx)).mono fun e W' ⟨v, he, hp⟩ => ?_
  subst he
  exact ChangeSpec.post_blind hp
theorem fnExactPatternText_walk (m : Int) (ds : List Dat) (h : DatAll Tryd.prog 2 Tryd.f4.params.toList ds) : T Tryd.prog (Γm m) 4 (ds.map Dat.av) [] fun v _ => v = .bool true := by
  have hp : Tryd.f4.params.toList = [] := by kernel_rfl
  obtain rfl := DatAll.nil (hp ▸ h : DatAll Tryd.prog 2 [] ds)
  exact (law_PatternText (Γ := Γm m) rfl []).mono fun v h' hv => hv.1
set_option maxRecDepth 100000 in
theorem fnExactPatternText_lifted (os : Os) (started : os.Started) (H : Type) (enc : TypeId × Value → H) :
    ReturnsInHanded {} Tryd.checked os 4 .any (fun w args => (Rows.fnExactPatternTextSpec.pre enc Tryd.prog Tryd.f4 Rows.fnExactPatternTextRow.domain false w args ∧ laidMetH Tryd.prog Rows.fnExactPatternTextRow.laid w) ∧ sizedMet enc Tryd.prog Tryd.f4 (OpenSpec.ofChange Rows.fnExactPatternTextSpec) false w args)
      (Rows.fnExactPatternTextSpec.post enc Tryd.prog Tryd.f4 false true false false) := by
  refine inHanded_shaped (C := Tryd.checked) (X := fun w _ => laidMetH Tryd.prog Rows.fnExactPatternTextRow.laid w) (fun _ _ _ hh h => h.of_heap hh) own started (by kernel_rfl) Tryd.func4
    (ChangeSpec.witness_shaped (enc := enc) (C := Tryd.checked) (os := os) (X := fun w _ => laidMetH Tryd.prog Rows.fnExactPatternTextRow.laid w) false (World.laidAll Tryd.prog os Rows.fnExactPatternTextRow.laid) #[] 8 (World.laidAll_os _ _ _)
      (World.shaped_of_ZipB (by kernel_rfl) (by kernel_rfl)) (by kernel_rfl) (by kernel_rfl) (by kernel_rfl)
      (by rw [MakeChecks.laidMetH_plain _ _ _ (by kernel_rfl)]; exact laidMet_laidAll _ (by kernel_rfl) (by kernel_rfl))) ?_
  intro W base args ds gs before hsh hval hW hL
  obtain ⟨m, T, fr, hm⟩ := cells_int (g := 0) (t := 3) (zero := #[.int .i64 0]) (k := .i64) hsh (of_decide_eq_true (by kernel_rfl)) (by kernel_rfl) rfl (by kernel_rfl) (by kernel_rfl) Tryd.underlying3
  refine law_postG (n := 2) (tb := 4) (by decide +kernel) rfl (by kernel_rfl) (by kernel_rfl) (fun xs hx => ?_) (fnExactPatternText_walk m) hval hW (gok_m hm)
  have hp : Tryd.f4.params.toList.length = 0 := by kernel_rfl
  rw [hp] at hx
  match xs, hx with
  | [], _ => rfl
theorem fnExactPatternText_over : Rows.FnExactPatternTextSaid :=
  OpenClaim.holds_of_wide 4 Tryd.f4 rfl rfl rfl rfl rfl rfl rfl ⟨rfl, rfl, rfl, rfl, rfl⟩ rfl rfl rfl rfl rfl (by kernel_rfl) Tryd.func4 (by kernel_rfl)
    (of_decide_eq_true (by kernel_rfl)) (by unfold Func.isWrapper; first | (rw [if_pos (by decide +kernel)]; kernel_rfl) | (rw [if_neg (by decide +kernel)]; exact ⟨rfl, rfl⟩))
    (fun os started H enc _ => fnExactPatternText_lifted os started H enc)
theorem fnExactPatternText_proved : Rows.FnExactPatternTextCardSaid :=
  Claim7.holds_tied_plain_at .later [] [.data, .pinned] true (true, "2377fae47f99ddd18dcc11f9af113d4c7affd063d056797ecdf94b330965d62f") true
    fnExactPatternText_over (fun _ h => by cases h) (by kernel_rfl) (fun _ h => by cases h) fnExactPatternText_row_tie rfl ⟨rfl, rfl⟩ (by kernel_rfl) rfl
    (fun f fn hf hfn => by
      obtain rfl : f = 4 := Option.some.inj ((show Tryd.prog.funcNamed "loop.example/g00591/laws.FnExactPatternText" = some 4 by kernel_rfl).symm.trans hf) |>.symm
      obtain rfl : fn = Tryd.f4 := (Option.some.inj (Tryd.func4.symm.trans hfn)).symm
      exact ⟨by kernel_rfl, fun j t ht => by
        rw [Tryd.params4] at ht
        simp at ht⟩)
    (by kernel_rfl)
#print axioms fnExactPatternText_proved
end Go.Proofs.YteaebikmfmggbaaDoor
