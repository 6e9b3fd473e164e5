import Derived.Test.YteaebikmfmggbaaDoorR7SB
import Derived.WalkKit
import Derived.BigCall
import Derived.Deep.LoopGhost
set_option linter.unusedVariables false
set_option linter.unusedSimpArgs false
namespace Go.Proofs.YteaebikmfmggbaaDoor
open Go.AM Go.Shelf Go.RowKit Go.Proofs
set_option linter.unusedVariables false
theorem split_calls (m : Int) (w : World) (hm : w.cell? ⟨0, 0, none⟩ = some (.int .i64 m)) :
    Calls Tryd.prog 16 #[.string ⟨patL.toArray⟩, .string ⟨#[10]⟩] w fun e w' => e = .returned (.slice (some ⟨w.heap.size, 0, none⟩) 10 10) ∧ w' = w.alloc (.cells (lines.map Value.string).toArray 9) := by
  have := Any.strings_Split lay146 (by kernel_rfl) ⟨patL.toArray⟩ nl m w (by decide +kernel) hm (by decide +kernel)
  have h9 : Lib.countB ⟨patL.toArray⟩ nl = 9 := c9
  have hl : Lib.splitB nl 0 9 ⟨patL.toArray⟩ = lines := lines_eq
  rw [h9, hl] at this
  exact this
theorem row_at {i : Nat} (hi : i < tabP.length) : Lib.cut tabP[i].line [58, 32] = (tabP[i].own ++ [32] ++ tabP[i].met, tabP[i].code, true) ∧ Lib.cut (tabP[i].own ++ [32] ++ tabP[i].met) [32] = (tabP[i].own, tabP[i].met, true) ∧ Lib.replaceAll tabP[i].code [59, 32] [10] = tabP[i].rep := by
  have := List.all_eq_true.1 tab_ok _ (List.getElem_mem hi)
  simp only [Bool.and_eq_true, decide_eq_true_eq] at this
  exact ⟨this.1.1, this.1.2, this.2⟩
theorem cut_calls (l sep : List UInt8) (m : Int) (w : World) (hl : l.length < 4294967281) (hm : w.cell? ⟨0, 0, none⟩ = some (.int .i64 m)) {a b : List UInt8} {t : Bool} (hc : Lib.cut l sep = (a, b, t)) :
    Calls Tryd.prog 17 #[.string ⟨l.toArray⟩, .string ⟨sep.toArray⟩] w fun e w' => e = .returned (.tuple #[.string ⟨a.toArray⟩, .string ⟨b.toArray⟩, .bool t]) ∧ ∃ n, w' = w.drewN n := by
  have := Any.strings_Cut lay145 ⟨l.toArray⟩ ⟨sep.toArray⟩ m w (by simpa [ByteArray.size] using hl) hm
  simp only [List.toList_toArray, hc] at this
  exact this
theorem rep_calls (c r : List UInt8) (m : Int) (w : World) (hl : c.length ≤ 100) (hm : w.cell? ⟨0, 0, none⟩ = some (.int .i64 m)) (hc : Lib.replaceAll c [59, 32] [10] = r) :
    Calls Tryd.prog 19 #[.string ⟨c.toArray⟩, .string ⟨#[59, 32]⟩, .string ⟨#[10]⟩] w fun e w' => e = .returned (.string ⟨r.toArray⟩) ∧ Below w.heap.size w w' := by
  have hs : (⟨c.toArray⟩ : ByteArray).size = c.length := by simp [ByteArray.size]
  have hcb := Lib.countB_mul_le ⟨#[59, 32]⟩ (by decide) (⟨c.toArray⟩ : ByteArray).size ⟨c.toArray⟩ (Nat.le_refl _)
  have := Any.strings_ReplaceAll lay155 layX ⟨c.toArray⟩ ⟨#[59, 32]⟩ ⟨#[10]⟩ m w (by rw [hs]; omega) hm (by decide) (by
    have e1 : (⟨#[59, 32]⟩ : ByteArray).size = 2 := rfl
    have e2 : (⟨#[10]⟩ : ByteArray).size = 1 := rfl
    rw [e1, hs] at hcb; rw [e2, hs]; omega)
  simp only [List.toList_toArray] at this
  rw [hc] at this
  exact this
theorem below_builder {B b : Nat} {bs : List Value} {w w' : World} (h : Lib.IsBuilderF 38 5 B b bs w) (k : Below w.heap.size w w') : Lib.IsBuilderF 38 5 B b bs w' := by
  have one : ∀ p, Lib.BuilderAtF 38 5 B b p bs w → Lib.BuilderAtF 38 5 B b p bs w' := by
    rintro p ⟨h1, v, h2, h3, h4⟩
    have hb := aget_lt h2
    refine ⟨h1, v, by rw [k.block _ hb]; exact h2, ?_, h4⟩
    obtain ⟨g1, g2⟩ := h3
    refine ⟨g1, ?_⟩
    rcases g2 with g | ⟨g, cap, cur, fz, e1, e2, e3, e4⟩
    · exact .inl g
    · exact .inr ⟨g, cap, cur, fz, e1, e2, by rw [k.block _ (aget_lt e3)]; exact e3, e4⟩
  exact h.elim (fun x => .inl (one _ x)) (fun x => .inr (one _ x))
theorem below_drewN (w : World) (n B : Nat) : Below B w (w.drewN n) := ⟨rfl, rfl, rfl, Nat.le_refl _, fun _ _ => rfl⟩
def lineCells : Array Value := (lines.map Value.string).toArray
theorem lineCells_at {i : Nat} (hi : i < tabP.length) : lineCells[i]? = some (.string ⟨tabP[i].line.toArray⟩) := by
  simp [lineCells, lines, hi]
set_option maxHeartbeats 1600000 in
set_option maxRecDepth 100000 in
theorem patternText_calls (m : Int) (w : World) (hm : w.cell? ⟨0, 0, none⟩ = some (.int .i64 m)) :
    Calls Tryd.prog 10 #[] w fun e w' => e = .returned (.string ⟨txtL.toArray⟩) ∧ Below w.heap.size w w' := by
  have h0 : Lib.IsBuilderF 38 5 w.heap.size w.heap.size (Lib.byteCells []) (w.alloc (.cells #[.pointer none, .slice none 0 0] 38)) := Lib.IsBuilderF.of (Lib.fresh_isBuilder 38 5 w)
  have b0 : Below w.heap.size w (w.alloc (.cells #[.pointer none, .slice none 0 0] 38)) := (Below.refl _ w).alloc (Nat.le_refl _) _
  have hg : 0 < w.heap.size := World.block_lt_of_cell? _ _ hm
  have hS := split_calls m _ ((b0.cell (p := ⟨0, 0, none⟩) hg).trans hm)
  go_enter Tryd.func10, Tryd.ntmps10
  go_wp2_with (go_at_call 16; refine hS.mono ?_)
  rintro e W2 ⟨rfl, hw⟩
  have H2 : Hid (Lib.IsBuilderF 38 5 w.heap.size w.heap.size (Lib.byteCells []) W2) := by rw [hw]; exact h0.alloc _
  have B2 : Hid (Below w.heap.size w W2) := by rw [hw]; exact b0.alloc (by simp) _
  have L2 : Hid (W2.heap[w.heap.size + 1]? = some (.cells lineCells 9 (0, 0))) := by rw [hw]; exact (show _ = _ from by have := heap_alloc_new (w.alloc (.cells #[.pointer none, .slice none 0 0] 38)) (.cells lineCells 9); simpa [lineCells] using this)
  clear hw h0 b0 hS
  go_wp2_with fail
  go_loopg [2, 14] 10 (fun g s2 s14 wx => ∃ i : Nat, s2 = .string ⟨(accP i).1.toArray⟩ ∧ s14 = .int .i64 i ∧ i + g = 10 ∧
    Hid (Lib.IsBuilderF 38 5 w.heap.size w.heap.size (Lib.byteCells (accP i).2) wx) ∧ Hid (Below w.heap.size w wx) ∧ Hid (wx.heap[w.heap.size + 1]? = some (.cells lineCells 9 (0, 0))))
  case atStart => exact ⟨0, rfl, rfl, rfl, H2, B2, L2⟩
  case round =>
    obtain ⟨i, rfl, rfl, hig, HB, HW, HL⟩ := hrel
    clear H2 B2 L2
    have hmr : wr.cell? ⟨0, 0, none⟩ = some (.int .i64 m) := (HW.out.cell (p := ⟨0, 0, none⟩) hg).trans hm
    have hBw : w.heap.size ≤ wr.heap.size := HW.out.size
    cases gk with
    | zero =>
      have hi10 : i = 10 := by omega
      subst hi10
      go_wp2_with fail
      refine (Any.Builder_String_any_f lay169 layX w.heap.size w.heap.size _ wr HB.out hBw).mono ?_
      rintro e w5 ⟨rfl, _, hb5⟩
      have Hb5 := Any.hidR (HW.out.trans hb5)
      clear hb5
      go_wp2
      go_ret
      exact ⟨by rw [all_out]; rfl, Hb5.out⟩
    | succ g =>
      have hi : i < tabP.length := by rw [tab_len]; omega
      obtain ⟨r, hr⟩ : ∃ r, r = tabP[i] := ⟨_, rfl⟩
      have hcell : wr.cell? ⟨w.heap.size + 1, i, none⟩ = some (.string ⟨r.line.toArray⟩) := by
        rw [Go.AM.cell_of HL.out, lineCells_at hi, hr]
      obtain ⟨c1, c2, c3⟩ := row_at hi
      have hac := accP_succ hi
      obtain ⟨l1, l2, l3, l4, l5⟩ := row_len tabP[i] (List.getElem_mem hi)
      rw [← hr] at c1 c2 c3 hac l1 l2 l3 l4 l5
      have hal := acc_len i (by omega)
      obtain ⟨hd, hhd⟩ : ∃ hd, hd = r.own ++ [32] ++ r.met := ⟨_, rfl⟩
      have lh : hd.length ≤ 300 := by rw [hhd]; simp only [List.length_append, List.length_cons, List.length_nil]; omega
      rw [← hhd] at c1 c2
      obtain ⟨sc, hsc⟩ : ∃ sc, sc = (accP i).1 := ⟨_, rfl⟩
      obtain ⟨ac, hacc⟩ : ∃ ac, ac = (accP i).2 := ⟨_, rfl⟩
      rw [← hacc] at HB hal
      rw [← hsc]
      have HC := cut_calls r.line [58, 32] m wr (by omega) hmr c1
      have hi1 : (0 : Int) ≤ (i : Int) := by omega
      have hi2 : (i : Int) < 10 := by omega
      have FACTS := Any.hidR (And.intro c1 (And.intro c2 (And.intro c3 (And.intro hac (And.intro l1 (And.intro l2 (And.intro l3 (And.intro l4 (And.intro l5 (And.intro hal (And.intro hsc hacc)))))))))))
      have HI := Any.hidR hig
      have z1 : ¬ 9223372036854775807 < 7 + r.own.length := by omega
      have z2 : ¬ 9223372036854775807 < 7 + r.own.length + 1 := by omega
      have z3 : ¬ 9223372036854775807 < 7 + r.met.length := by omega
      have z4 : ¬ 9223372036854775807 < 7 + r.met.length + 1 := by omega
      have z5 : ¬ 9223372036854775807 < 7 + r.met.length + 1 + r.rep.length := by omega
      have z6 : ¬ 9223372036854775807 < 7 + r.met.length + 1 + r.rep.length + 1 := by omega
      clear c1 c2 c3 hac l1 l2 l3 l4 l5 hal hr hi hig hhd hsc hacc
      go_wp2_with fail
      refine HC.mono ?_
      rintro e w3 ⟨rfl, n1, hw3⟩
      have HB3 : Hid (Lib.IsBuilderF 38 5 w.heap.size w.heap.size (Lib.byteCells ac) w3) := by rw [hw3]; exact HB
      have HW3 : Hid (Below w.heap.size w w3) := by rw [hw3]; exact HW.out.trans (below_drewN wr n1 _)
      have HL3 : Hid (w3.heap[w.heap.size + 1]? = some (.cells lineCells 9 (0, 0))) := by rw [hw3]; exact HL
      have hm3 : w3.cell? ⟨0, 0, none⟩ = some (.int .i64 m) := (HW3.out.cell (p := ⟨0, 0, none⟩) hg).trans hm
      have HC3 := cut_calls hd [32] m w3 (by omega) hm3 FACTS.out.2.1
      clear hw3 HB HW HL HC hmr hcell hBw
      go_wp2_with fail
      refine HC3.mono ?_
      rintro e w4 ⟨rfl, n2, hw4⟩
      have HB4 : Hid (Lib.IsBuilderF 38 5 w.heap.size w.heap.size (Lib.byteCells ac) w4) := by rw [hw4]; exact HB3
      have HW4 : Hid (Below w.heap.size w w4) := by rw [hw4]; exact HW3.out.trans (below_drewN w3 n2 _)
      have HL4 : Hid (w4.heap[w.heap.size + 1]? = some (.cells lineCells 9 (0, 0))) := by rw [hw4]; exact HL3
      have hm4 : w4.cell? ⟨0, 0, none⟩ = some (.int .i64 m) := (HW4.out.cell (p := ⟨0, 0, none⟩) hg).trans hm
      have hB4 : w.heap.size ≤ w4.heap.size := HW4.out.size
      clear hw4 HB3 HW3 HL3 hm3 HC3
      by_cases ho : r.own = sc
      · have hbeq : (r.own == sc) = true := by rw [ho]; simp
        have HO := Any.hidR ho
        clear ho
        have HR := rep_calls r.code r.rep m w4 (by have := FACTS.out; omega) hm4 FACTS.out.2.2.1
        go_wp2_with fail
        refine HR.mono ?_
        rintro e w6 ⟨rfl, hw6⟩
        have HB6 : Hid (Lib.IsBuilderF 38 5 w.heap.size w.heap.size (Lib.byteCells ac) w6) := below_builder HB4.out hw6
        have HW6 : Hid (Below w.heap.size w w6) := HW4.out.trans (hw6.mono hB4)
        have HL6 : Hid (w6.heap[w.heap.size + 1]? = some (.cells lineCells 9 (0, 0))) := (hw6.block _ (aget_lt HL4.out)).trans HL4.out
        have hB6 : w.heap.size ≤ w6.heap.size := HW6.out.size
        clear hw6 HB4 HW4 HL4 hm4 hB4 HR
        go_wp2_with fail
        refine (Any.Builder_WriteString_k lay166 layX w.heap.size w.heap.size _ _ w6 HB6.out (by have := FACTS.out; rw [Lib.byteCells_length]; simp [ByteArray.size_append, ByteArray.size]; omega) hB6).mono ?_
        rintro e w7 ⟨rfl, h7, hb7, ho7⟩
        have HB7 := Any.hidR (Or.inr h7 : Lib.IsBuilderF 38 5 w.heap.size w.heap.size _ w7)
        have HW7 := Any.hidR (HW6.out.trans hb7)
        have HL7 := Any.hidR (ho7 _ _ HL6.out (by simp) (fun c fz e => by injection e with e1 e2; exact absurd e2 (by decide)))
        clear h7 hb7 ho7 HB6 HW6 HL6
        have HN : Hid ((accP (i + 1)).1 = sc ∧ Lib.byteCells ac ++ Lib.strCells ((⟨#[109, 101, 116, 104, 111, 100, 32]⟩ : ByteArray) ++ ⟨r.met.toArray⟩ ++ ⟨#[10]⟩ ++ ⟨r.rep.toArray⟩ ++ ⟨#[10]⟩) = Lib.byteCells (accP (i + 1)).2) := by
          have hac := FACTS.out.2.2.2.1
          have e1 := FACTS.out.2.2.2.2.2.2.2.2.2.2.1
          have e2 := FACTS.out.2.2.2.2.2.2.2.2.2.2.2
          rw [hac, stepP, ← e1, ← e2, if_pos HO.out]
          refine ⟨HO.out, ?_⟩
          rw [Lib.strCells_eq, ← Lib.byteCells_append]
          congr 1
          simp [methodT, ByteArray.data_append]
        rw [HN.out.2] at HB7
        go_wp2
        go_roundg g
        case measure => omega
        case rel => exact ⟨i + 1, by rw [HN.out.1], by first | rfl | (simp; done), by have := HI.out; omega, HB7, HW7, HL7⟩
      · have hbeq : (r.own == sc) = false := beq_eq_false_iff_ne.2 ho
        have HO := Any.hidR ho
        clear ho
        go_wp2_with fail
        refine (Any.Builder_WriteString_k lay166 layX w.heap.size w.heap.size _ _ w4 HB4.out (by have := FACTS.out; rw [Lib.byteCells_length]; simp [ByteArray.size_append, ByteArray.size]; omega) hB4).mono ?_
        rintro e w5 ⟨rfl, h5, hb5, ho5⟩
        have HB5 := Any.hidR (Or.inr h5 : Lib.IsBuilderF 38 5 w.heap.size w.heap.size _ w5)
        have HW5 := Any.hidR (HW4.out.trans hb5)
        have HL5 := Any.hidR (ho5 _ _ HL4.out (by simp) (fun c fz e => by injection e with e1 e2; exact absurd e2 (by decide)))
        have hm5 : w5.cell? ⟨0, 0, none⟩ = some (.int .i64 m) := (HW5.out.cell (p := ⟨0, 0, none⟩) hg).trans hm
        have hB5 : w.heap.size ≤ w5.heap.size := HW5.out.size
        clear h5 hb5 ho5 HB4 HW4 HL4 hm4 hB4
        have HR := rep_calls r.code r.rep m w5 (by have := FACTS.out; omega) hm5 FACTS.out.2.2.1
        go_wp2_with fail
        refine HR.mono ?_
        rintro e w6 ⟨rfl, hw6⟩
        have HB6 := Any.hidR (below_builder HB5.out hw6)
        have HW6 : Hid (Below w.heap.size w w6) := HW5.out.trans (hw6.mono hB5)
        have HL6 : Hid (w6.heap[w.heap.size + 1]? = some (.cells lineCells 9 (0, 0))) := (hw6.block _ (aget_lt HL5.out)).trans HL5.out
        have hB6 : w.heap.size ≤ w6.heap.size := HW6.out.size
        clear hw6 HB5 HW5 HL5 hm5 hB5 HR
        go_wp2_with fail
        refine (Any.Builder_WriteString_k lay166 layX w.heap.size w.heap.size _ _ w6 HB6.out (by have := FACTS.out; rw [List.length_append, Lib.byteCells_length, Lib.strCells_length]; simp [ByteArray.size_append, ByteArray.size]; omega) hB6).mono ?_
        rintro e w7 ⟨rfl, h7, hb7, ho7⟩
        have HB7 := Any.hidR (Or.inr h7 : Lib.IsBuilderF 38 5 w.heap.size w.heap.size _ w7)
        have HW7 := Any.hidR (HW6.out.trans hb7)
        have HL7 := Any.hidR (ho7 _ _ HL6.out (by simp) (fun c fz e => by injection e with e1 e2; exact absurd e2 (by decide)))
        clear h7 hb7 ho7 HB6 HW6 HL6
        have HN : Hid ((accP (i + 1)).1 = r.own ∧ Lib.byteCells ac ++ Lib.strCells ((⟨#[115, 99, 114, 105, 112, 116, 32]⟩ : ByteArray) ++ ⟨r.own.toArray⟩ ++ ⟨#[10]⟩) ++ Lib.strCells ((⟨#[109, 101, 116, 104, 111, 100, 32]⟩ : ByteArray) ++ ⟨r.met.toArray⟩ ++ ⟨#[10]⟩ ++ ⟨r.rep.toArray⟩ ++ ⟨#[10]⟩) = Lib.byteCells (accP (i + 1)).2) := by
          have hac := FACTS.out.2.2.2.1
          have e1 := FACTS.out.2.2.2.2.2.2.2.2.2.2.1
          have e2 := FACTS.out.2.2.2.2.2.2.2.2.2.2.2
          rw [hac, stepP, ← e1, ← e2, if_neg HO.out]
          refine ⟨rfl, ?_⟩
          rw [Lib.strCells_eq, Lib.strCells_eq, ← Lib.byteCells_append, ← Lib.byteCells_append]
          congr 1
          first | done | simp [methodT, scriptT, ByteArray.data_append]
        rw [HN.out.2] at HB7
        go_wp2
        go_roundg g
        case measure => omega
        case rel => exact ⟨i + 1, by rw [HN.out.1], by first | rfl | (simp; done), by have := HI.out; omega, HB7, HW7, HL7⟩
end Go.Proofs.YteaebikmfmggbaaDoor
