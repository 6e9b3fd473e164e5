import Derived.Test.YtleddolmolkpfaaGreatAmStep5
set_option linter.unusedVariables false
set_option linter.unusedSimpArgs false
/-! Each instruction against the model's operation: writes, appends, makes. -/
namespace Go.AM
section
variable {P : Program} {Γ : Glob} {ρ : Inj} {ls : List Nat} {s : St} {a : Act} {w : World}

/-! #### a store -/

theorem store_mem (mem : RH ρ ls s.loc s.heap w) {x : AV} {xv : Value} (r : RV ρ ls x xv) {cs : List AV} {vs : List Value} (hr : RVs ρ ls cs vs) {s' : St} (h : s.store x cs = some s') :
    ∃ c o w', xv = .pointer (some ⟨c, o, none⟩) ∧ (storeCells ⟨c, o, none⟩ vs).run P w = .ok () w' ∧ s'.env = s.env ∧ RH ρ ls s'.loc s'.heap w' ∧ Evo ρ ls s.heap w ρ ls s'.heap w' := by
  cases r with
  | lp _ i off c hl =>
    simp only [St.store] at h
    cases hL : s.loc[i]? with
    | none => simp [hL] at h
    | some l =>
      simp only [hL, Option.bind_some] at h
      split at h
      · rename_i hle
        split at h
        · rename_i hcell
          injection h with h
          subst h
          obtain ⟨c', arr, T, fr, e1, e2, e3, e4, e5⟩ := mem.lp i l hL
          rw [hl] at e1
          injection e1 with e1
          subst e1
          have hlen := hr.1
          obtain ⟨w', hrun, hb⟩ := run_storeCells' (P := P) c T fr vs off 0 w arr e2 e3 (by omega) (hr.oneCell hcell)
          have hlies := e5.over hle (by omega) hr
          rw [Nat.zero_add] at hlies
          have hres := mem.setLoc hL hl (l' := over l off cs) hb (setRange_size _ _ _) e3 (by rw [over_length hle, setRange_size, e4]) hlies
          exact ⟨c, off, w', rfl, hrun, rfl, hres.1, hres.2⟩
        · cases h
      · cases h
  | gp _ b g off c o n hm =>
    simp only [St.store] at h
    cases hb : hget s.heap b with
    | none => simp [hb] at h
    | some e =>
      obtain ⟨g', l⟩ := e
      simp only [hb, Option.bind_some] at h
      split at h
      · rename_i hg
        have hg' : g' = g := hg
        subst hg'
        split at h
        · rename_i hle
          split at h
          · rename_i hcell
            injection h with h
            subst h
            obtain ⟨c', o', n', arr, T, fr, e1, e2, e3, e4, e5, e6⟩ := mem.hp b g' l (hget_spec hb)
            rw [hm] at e1
            injection e1 with e1
            injection e1 with e1 e1'
            injection e1' with e1' e1''
            subst e1 e1' e1''
            have hlen := hr.1
            obtain ⟨w', hrun, hsb⟩ := run_storeCells' (P := P) c T fr vs (o + off) 0 w arr e2 e4 (by omega) (hr.oneCell (by
              rw [List.all_eq_true] at *; exact fun x hx => isCell_of_noLp (hcell x hx)))
            have hlies := e6.over hle (by omega) (hr.noLp hcell [])
            have hres := mem.setHeap (hget_spec hb) hm (l' := over l off cs) hsb (setRange_size _ _ _) e3 e4 (by rw [over_length hle]; omega) hlies
            exact ⟨c, o + off, w', rfl, hrun, rfl, hres.1, hres.2⟩
          · cases h
        · cases h
      · cases h
  | _ => simp [St.store] at h

theorem storeAt_run {t : TypeId} {ti : TI} (ht : TF P t ti) {c o : Nat} {v : Value} (hsz : v.cells.size = ti.size) {w' : World} (h : (storeCells ⟨c, o, none⟩ v.cells.toList).run P w = .ok () w') :
    (Instr.storeAt t (.pointer (some ⟨c, o, none⟩)) v).run P w = .ok () w' := by
  simp [Instr.storeAt, Instr.sureAddr, storeVar, run_size' ht, hsz, h]

/-! #### make -/

theorem wrap64_id {n : Int} (h0 : 0 ≤ n) (h1 : n < 9223372036854775808) : IntKind.i64.wrap n = n := by
  have e : n % (2 ^ IntKind.i64.bits : Int) = n := Int.emod_eq_of_lt h0 (by show n < 2 ^ 64; omega)
  unfold IntKind.wrap
  simp only [e]
  rw [if_neg]
  simp only [Bool.and_eq_true, decide_eq_true_eq, not_and]
  intro _
  show ¬ n ≥ 2 ^ 63
  omega

theorem mks_run {t e : TypeId} {ei : TI} (hu : P.underlying t = some (.slice e)) (he : TF P e ei) {k k' : IntKind} {n : Int} (h0 : 0 ≤ n) (hn : n.toNat * (ei.bytes + ei.size + 1) ≤ maxMade) :
    ∃ arr : Array Value, (Instr.makeSlice t (.int k n) (.int k' n)).run P w = .ok (.slice (some ⟨w.heap.size, 0, none⟩) n.toNat n.toNat) { w with heap := w.heap.push (.cells arr e (0, 0)) } ∧
      (∀ ρ ls, RVs ρ ls (List.replicate n.toNat ei.zero).flatten arr.toList) := by
  obtain ⟨i, d, z, h1, h2, h3, h4, h5, h6, h7, h8, h9⟩ := he.info
  have hm : maxMade = 1099511627776 := rfl
  have hb : n.toNat * ei.bytes ≤ maxMade := Nat.le_trans (Nat.mul_le_mul_left _ (by omega)) hn
  have hs : n.toNat * ei.size ≤ maxMade := Nat.le_trans (Nat.mul_le_mul_left _ (by omega)) hn
  have h1' : n.toNat * 1 ≤ maxMade := Nat.le_trans (Nat.mul_le_mul_left _ (by omega)) hn
  have hlt : n < 9223372036854775808 := by omega
  have hwrap := wrap64_id h0 hlt
  have hbytes : (i.bytes : Int) * n ≤ 2 ^ 48 := by
    have : ((n.toNat * ei.bytes : Nat) : Int) ≤ 1099511627776 := by omega
    rw [h4]
    have e : (ei.bytes : Int) * n = ((n.toNat * ei.bytes : Nat) : Int) := by
      rw [Int.natCast_mul, Int.toNat_of_nonneg h0, Int.mul_comm]
    omega
  refine ⟨(Array.range (n.toNat * i.size)).map ((if n.toNat * i.size = 0 then #[] else z.cells)[· % (if n.toNat * i.size = 0 then #[] else z.cells).size]!), ?_, ?_⟩
  · have hnn : ¬ n < 0 := by omega
    have hnb : ¬ (281474976710656 : Int) < i.bytes * n := by omega
    by_cases hz : n.toNat * i.size = 0
    · simp [Instr.makeSlice, run_underl hu, Go.asInt, asIntOf, run_typeInfo h1, hwrap, hnn, hnb, run_size h1, hz, newRow]
    · simp [Instr.makeSlice, run_underl hu, Go.asInt, asIntOf, run_typeInfo h1, hwrap, hnn, hnb, run_size h1, hz, newRow, run_zero h1 h5]
  · intro ρ ls
    have hz' : RVs ρ ls ei.zero z.cells.toList := by rw [← h7]; exact RVs_map _
    by_cases hz : n.toNat * i.size = 0
    · have hlen : (List.replicate n.toNat ei.zero).flatten = [] := by
        apply List.eq_nil_of_length_eq_zero
        have : ei.zero.length = i.size := by have := hz'.1; simp at this; omega
        simp [this]
        simpa using hz
      rw [hlen]
      simp only [hz]
      exact ⟨by simp, fun i x hx => by simp at hx⟩
    · simp only [hz, if_false]
      rw [rows_eq n.toNat z.cells i.size (by omega) (fun h => absurd h hz)]
      exact hz'.replicate _

theorem bsl_run {t e : TypeId} {ei : TI} (hu : P.underlying t = some (.slice e)) (he : TF P e ei) {len : Nat} {ps : List (Nat × AV)} {vs : List (Nat × Value)} {cs : List AV}
    (hl : ps.length = vs.length) (hp : ∀ (i : Nat) p v, ps[i]? = some p → vs[i]? = some v → p.1 = v.1 ∧ RV ρ ls p.2 v.2) (hsz : len * ei.size ≤ 16777216)
    (h : fillA (List.replicate len ei.zero).flatten (ps.map fun p => (p.1 * ei.size, ei.size, p.2)) = some cs) :
    ∃ arr : Array Value, (Instr.buildSlice t len vs.toArray).run P w = .ok (.slice (some ⟨w.heap.size, 0, none⟩) len len) { w with heap := w.heap.push (.cells arr e (0, 0)) } ∧ RVs ρ ls cs arr.toList := by
  obtain ⟨i, d, z, h1, h2, h3, h4, h5, h6, h7, h8, h9⟩ := he.info
  have hz' : RVs ρ ls ei.zero z.cells.toList := by rw [← h7]; exact RVs_map _
  have hzl : ei.zero.length = i.size := by have := hz'.1; simp at this; omega
  have hbase : RVs ρ ls (List.replicate len ei.zero).flatten ((Array.range (len * i.size)).map ((if len * i.size = 0 then #[] else z.cells)[· % (if len * i.size = 0 then #[] else z.cells).size]!)).toList := by
    by_cases hz : len * i.size = 0
    · have hlen : (List.replicate len ei.zero).flatten = [] := by
        apply List.eq_nil_of_length_eq_zero
        simp [hzl]
        simpa using hz
      rw [hlen]
      simp only [hz]
      exact ⟨by simp, fun i x hx => by simp at hx⟩
    · simp only [hz, if_false]
      rw [rows_eq len z.cells i.size (by omega) (fun h => absurd h hz)]
      exact hz'.replicate _
  obtain ⟨arr', hf, hr⟩ := fill_ok (fun k => some (k * i.size, i.size)) (ps.map fun p => (p.1 * ei.size, ei.size, p.2)) vs _ _ cs (by simpa using hl) (fun j p v hp' hv => by
    rw [List.getElem?_map] at hp'
    cases hq : ps[j]? with
    | none => simp [hq] at hp'
    | some q =>
      simp [hq] at hp'
      subst hp'
      obtain ⟨e1, e2⟩ := hp j q v hq hv
      exact ⟨by simp [e1, h3], e2⟩) hbase h
  refine ⟨arr', ?_, hr⟩
  have hng : ¬ len * i.size > 2 ^ 24 := by rw [h3]; omega
  by_cases hz : len * i.size = 0
  · simp only [hz] at hf
    simp [Instr.buildSlice, run_underl hu, run_size h1, hz, newRow] at hf ⊢
    simp [hf]
  · simp only [hz, if_false] at hf
    simp [Instr.buildSlice, run_underl hu, run_size h1, hz, hng, newRow, run_zero h1 h5]
    simp [hf]

end
end Go.AM
