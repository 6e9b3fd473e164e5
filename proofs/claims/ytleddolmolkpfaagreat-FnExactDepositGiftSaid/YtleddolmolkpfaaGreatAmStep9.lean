import Derived.Test.YtleddolmolkpfaaGreatAmStep8
import Derived.Laws.BytesString
set_option linter.unusedVariables false
set_option linter.unusedSimpArgs false
/-! Each instruction against the model's operation: all of them. -/
namespace Go.AM
section
variable {P : Program} {Γ : Glob} {ρ : Inj} {ls : List Nat} {s : St} {a : Act} {w : World}

/-! #### strings and bytes -/

theorem cvb_ok (mem : RH ρ ls s.loc s.heap w) {src dst e : TypeId} (hs : P.underlying src = some .string) (hd : P.underlying dst = some (.slice e)) (he : P.underlying e = some (.int .u8)) (v : ByteArray) :
    ∃ cv w' ρ', (convert src dst (.string v)).run P w = .ok cv w' ∧ RV ρ' ls (.gs s.heap.length 0 0 v.size v.size 1 false) cv ∧
      RH ρ' ls (s.push (byteCells v)).loc (s.push (byteCells v)).heap w' ∧ Evo ρ ls s.heap w ρ' ls (s.push (byteCells v)).heap w' := by
  generalize hq : Question.appendCap v.size 0 e = q
  have hforced : q.forced = false := by subst hq; rfl
  have hcut : ∀ x, v.size ≤ q.cut x := by intro x; subst hq; simp [Question.cut]
  generalize hN : q.cut (w.tape w.drawn q) = N
  have hN' : v.size ≤ N := by rw [← hN]; exact hcut _
  let arr : Array Value := v.data.map (fun b => Value.int .u8 b.toNat) ++ Array.replicate (N - v.size) (.int .u8 0)
  have harr : arr.size = N := by
    show (v.data.map (fun b => Value.int .u8 b.toNat) ++ Array.replicate (N - v.size) (Value.int .u8 0)).size = N
    have hvs : v.data.size = v.size := rfl
    simp; omega
  let w1 : World := (w.drew).alloc (.cells arr e)
  have nb1 : NewB w (.cells arr e (0, 0)) w1 := ⟨(NewB.push w _).sz, (NewB.push w _).old, (NewB.push w _).new, rfl, rfl⟩
  let w2 : World := w1.freeze { block := w.heap.size, off := arr.size } 1
  have nb2 : NewB w (.cells arr e (arr.size, arr.size + 1)) w2 := by
    refine ⟨by simp [w2, World.freeze, nb1.sz], fun c hc => ?_, ?_, rfl, rfl⟩
    · simp only [w2, World.freeze]
      rw [if_neg (by omega)]
      simp only [Array.getElem?_modify]
      rw [if_neg (by omega)]
      exact nb1.old c hc
    · simp only [w2, World.freeze]
      rw [if_neg (by omega)]
      simp only [Array.getElem?_modify, if_true, nb1.new, Option.map_some]
      simp
  have hrv : RVs ρ [] (byteCells v) (v.data.toList.map fun b => Value.int .u8 b.toNat) := by
    refine ⟨by simp [byteCells], fun i x hx => ?_⟩
    simp only [byteCells, List.getElem?_map] at hx
    cases hb : v.data.toList[i]? with
    | none => simp [hb] at hx
    | some b =>
      simp [hb] at hx
      subst hx
      rw [List.getD_eq_getElem?_getD, List.getElem?_map, hb]
      exact .int _ _ _
  have hlies : Lies ρ [] arr 0 (byteCells v) := Lies.ofPrefix hrv (rest := List.replicate (N - v.size) (.int .u8 0)) (by simp [arr])
  have hres := mem.newHeap nb2 (.inr (Nat.le_refl _)) (by rw [harr]; simpa [byteCells] using hN') hlies
  refine ⟨.slice (some ⟨w.heap.size, 0, none⟩) v.size N, w2, _, ?_, .gs _ _ _ _ _ _ _ _ _ 0 arr.size N (Inj.ins_self _ _ _ _) (Nat.le_refl _) hN' (by simp) (by omega), hres.1, hres.2⟩
  have hsh : w1.shape? w.heap.size = some (e, arr.size) := by simp [World.shape?, nb1.new]
  simp [convert, run_underl hs, run_underl hd, run_underl he, Conv.stringToBytes, hq, hforced, hN, newRow, markStringish]
  have hsh' : (w.drew.alloc (Obj.cells (Array.map (fun b => Value.int IntKind.u8 ↑b.toNat) v.data ++ Array.replicate (N - v.size) (Value.int IntKind.u8 0)) e)).shape? w.heap.size = some (e, arr.size) := hsh
  rw [hsh']
  rfl

theorem cvt_ok (mem : RH ρ ls s.loc s.heap w) {src dst e : TypeId} (hs : P.underlying src = some (.slice e)) (he : P.underlying e = some (.int .u8)) (hd : P.underlying dst = some .string)
    {x : AV} {xv : Value} (r : RV ρ ls x xv) {l : List UInt8} (h : (s.sliceCells 1 x).bind bytesOfCells = some l) :
    (convert src dst xv).run P w = .ok (.string ⟨l.toArray⟩) w := by
  cases hc : s.sliceCells 1 x with
  | none => simp [hc] at h
  | some cs =>
    simp only [hc, Option.bind_some] at h
    have hn : ∃ n, lenOf x = some n := by unfold St.sliceCells at hc; split at hc <;> first | (cases hc; done) | exact ⟨_, rfl⟩
    obtain ⟨n, hn⟩ := hn
    obtain ⟨A, cap, vals, rfl, h1, h2, h3, h4, h5⟩ := sliceCells_ok mem r hc hn
    rw [run_convert_bytes_string w src dst e A n cap hs he hd]
    have key : ∀ (cs : List AV) (vals : List Value) (l : List UInt8), RVs ρ ls cs vals → bytesOfCells cs = some l → ∃ ns : List Int, vals = ns.map (Value.int .u8) ∧ l = ns.map fun n => UInt8.ofNat n.toNat := by
      intro cs
      induction cs with
      | nil =>
        intro vals l hr hl
        have : vals = [] := List.eq_nil_of_length_eq_zero hr.1.symm
        subst this
        simp [bytesOfCells] at hl
        exact ⟨[], rfl, hl.symm ▸ rfl⟩
      | cons c cs ih =>
        intro vals l hr hl
        cases vals with
        | nil => have := hr.1; simp at this
        | cons v vals =>
          have h0 : RV ρ ls c v := hr.2 0 c rfl
          cases c <;> first | (simp [bytesOfCells] at hl; done) | skip
          rename_i k m
          cases k <;> first | (simp [bytesOfCells] at hl; done) | skip
          simp only [bytesOfCells, Option.map_eq_some_iff] at hl
          obtain ⟨l', hl1, hl2⟩ := hl
          obtain ⟨ns, e1, e2⟩ := ih vals l' ⟨by have := hr.1; simpa using this, fun i x hx => by have := hr.2 (i + 1) x hx; simpa using this⟩ hl1
          cases h0
          exact ⟨m :: ns, by simp [e1], by simp [← hl2, e2]⟩
    obtain ⟨ns, e1, e2⟩ := key cs vals l h2 h
    have hfold : ∀ (ns : List Int) (b : ByteArray), ns.foldl (fun r n => r.push (UInt8.ofNat n.toNat)) b = ⟨(b.data.toList ++ ns.map fun n => UInt8.ofNat n.toNat).toArray⟩ := by
      intro ns
      induction ns with
      | nil => intro b; simp
      | cons n ns ih => intro b; simp only [List.foldl_cons, ih, List.map_cons]; congr 1; simp [ByteArray.push]
    cases A with
    | none =>
      have : n = 0 := by
        rcases Nat.eq_zero_or_pos n with h | h
        · exact h
        · have := h4 (by omega); simp at this
      subst this
      have : vals = [] := List.eq_nil_of_length_eq_zero (by simpa using h1)
      subst this
      have : ns = [] := by cases ns <;> simp at e1 <;> rfl
      subst this
      subst e2
      rfl
    | some ad =>
      have hl := run_loadCells_list (P := P) (w := w) ad vals (fun j u hu => h5 ad rfl j u hu)
      rw [h1, Nat.mul_one, e1] at hl
      rw [run_bytesToString w ad n cap ns hl, hfold, e2]
      simp [ByteArray.empty, ByteArray.emptyWithCapacity]
      rfl

end
end Go.AM
