import Derived.Test.YtleddolmolkpfaaGreatAmStep6
set_option linter.unusedVariables false
set_option linter.unusedSimpArgs false
/-! Each instruction against the model's operation: append. -/
namespace Go.AM
section
variable {P : Program} {Γ : Glob} {ρ : Inj} {ls : List Nat} {s : St} {a : Act} {w : World}

theorem growBy_le (m : Nat) : ∀ (k c : Nat), c ≤ 2 * m + 192 → Builtin.growBy m k c ≤ 2 * m + 192
  | 0, c, h => h
  | k + 1, c, h => by
    unfold Builtin.growBy
    split
    · exact h
    · exact growBy_le m k _ (by omega)

theorem nextcap_le {m c : Nat} (h : c < m) : Builtin.nextslicecap m c ≤ 2 * m + 192 := by
  unfold Builtin.nextslicecap
  split
  · omega
  · split
    · omega
    · exact growBy_le _ _ _ (by omega)

/-- What is appended, or appended to. -/
structure Source (P : Program) (w : World) (size : Nat) (y : Value) (n : Nat) (vals : List Value) : Prop where
  len : ∀ w', (Builtin.lenOf y).run P w' = .ok n w'
  cells : ∀ w', w'.heap = w.heap → (Builtin.firstCells size n y).run P w' = .ok vals.toArray w'
  size : vals.length = n * size

theorem Source.mk_slice {size n cap : Nat} {A : Option Addr} {vals : List Value} (hl : vals.length = n * size) (h0 : n ≠ 0 → A.isSome)
    (h : ∀ ad, A = some ad → ∀ (j : Nat) (u : Value), vals[j]? = some u → w.cell? (ad.add j) = some u) : Source P w size (.slice A n cap) n vals := by
  refine ⟨fun w' => rfl, fun w' hw => ?_, hl⟩
  cases A with
  | none =>
    have : n = 0 := by
      rcases Nat.eq_zero_or_pos n with h | h
      · exact h
      · have := h0 (by omega); simp at this
    subst this
    have : vals = [] := List.eq_nil_of_length_eq_zero (by simpa using hl)
    subst this
    rfl
  | some ad =>
    have hc : ∀ (j : Nat) (u : Value), vals[j]? = some u → w'.cell? (ad.add j) = some u := fun j u hu => by
      have := h ad rfl j u hu
      simpa [World.cell?, hw] using this
    have := run_loadCells_list (P := P) (w := w') ad vals hc
    simp only [Builtin.firstCells]
    rw [← hl]; exact this

theorem Source.mk_str {size : Nat} (sb : ByteArray) (hs : size = 1) : Source P w size (.string sb) sb.size (sb.data.toList.map fun b => Value.int .u8 b.toNat) := by
  subst hs
  refine ⟨fun w' => rfl, fun w' _ => ?_, by simp⟩
  have e : sb.extract 0 sb.size = sb := by simp
  simp [Builtin.firstCells, e]
  apply Array.ext'
  simp

theorem src_ok (mem : RH ρ ls s.loc s.heap w) {sz : Nat} {str : Bool} {y : AV} {yv : Value} (r : RV ρ ls y yv) {ys : List AV} {n : Nat} (h : srcCells s sz str y = some ys) (hn : lenOf y = some n) :
    ∃ vals, Source P w sz yv n vals ∧ RVs ρ ls ys vals := by
  unfold srcCells at h
  split at h
  · rename_i sb
    cases r
    split at h
    · rename_i h1
      injection h with h
      simp only [lenOf, Option.some.injEq] at hn
      subst h hn
      refine ⟨_, .mk_str sb h1, by simp [byteCells], fun i x hx => ?_⟩
      simp only [byteCells, List.getElem?_map] at hx
      cases hb : sb.data.toList[i]? with
      | none => simp [hb] at hx
      | some b =>
        simp [hb] at hx
        subst hx
        rw [List.getD_eq_getElem?_getD, List.getElem?_map, hb]
        exact .int _ _ _
    · cases h
  · obtain ⟨A, cap, vals, rfl, h1, h2, _, h4, h5⟩ := sliceCells_ok mem r h hn
    exact ⟨vals, .mk_slice h1 h4 h5, h2⟩
  · cases h

theorem append_fit {t tx ty e : TypeId} {ei : TI} (hu : P.underlying t = some (.slice e)) (he : TF P e ei) {d : TypeDesc} (hux : P.underlying tx = some d) (hd : ∀ k, d ≠ .int k)
    {A : Option Addr} {sl sc n : Nat} {y : Value} {vals : List Value} (src : Source P w ei.size y n vals) (hfit : sl + n ≤ sc) {w' : World}
    (hst : ∀ ad, A = some ad → (storeCells (ad.add (sl * ei.size)) vals).run P w = .ok () w') (hnone : A = none → w' = w) :
    (Builtin.append_ #[t, tx] ty #[.slice A sl sc, y]).run P w = .ok (.slice A (sl + n) sc) w' := by
  cases A with
  | none =>
    rw [hnone rfl]
    simp [Builtin.append_, run_underl hu, run_size' he, run_underl hux, src.len, src.cells w rfl, hfit]
  | some ad =>
    simp [Builtin.append_, run_underl hu, run_size' he, run_underl hux, src.len, src.cells w rfl, hfit, hst ad rfl]

theorem append_grow {t tx ty e : TypeId} {ei : TI} (hu : P.underlying t = some (.slice e)) (he : TF P e ei) {d : TypeDesc} (hux : P.underlying tx = some d) (hd : ∀ k, d ≠ .int k)
    {A : Option Addr} {sl sc n : Nat} {y : Value} {vals olds : List Value} (src : Source P w ei.size y n vals) (base : Source P w ei.size (.slice A sl sc) sl olds) (hgrow : sc < sl + n)
    (hsz : 0 < ei.size) (hb : (sl + n) * (ei.size + ei.bytes) ≤ maxMade) :
    ∃ (newCap : Nat) (arr : Array Value) (w' : World), (Builtin.append_ #[t, tx] ty #[.slice A sl sc, y]).run P w = .ok (.slice (some ⟨w.heap.size, 0, none⟩) (sl + n) newCap) w' ∧ sl + n ≤ newCap ∧
      arr.size = newCap * ei.size ∧ NewB w (.cells arr e (0, 0)) w' ∧ ∃ rest, arr.toList = olds ++ vals ++ rest := by
  obtain ⟨i, d', z, h1, h2, h3, h4, h5, h6, h7, h8, h9⟩ := he.info
  have hm : maxMade = 1099511627776 := rfl
  have hbytes : (sl + n) * ei.bytes ≤ maxMade := Nat.le_trans (Nat.mul_le_mul_left _ (by omega)) hb
  have hpos : 1 ≤ sl + n := by omega
  have hb1 : ei.bytes ≤ maxMade := Nat.le_trans (by have := Nat.mul_le_mul_right ei.bytes hpos; omega) hbytes
  have hcap : Builtin.nextslicecap (sl + n) sc * i.bytes ≤ 281474976710656 := by
    have hnc := nextcap_le hgrow
    rw [h4]
    have : Builtin.nextslicecap (sl + n) sc * ei.bytes ≤ (2 * (sl + n) + 192) * ei.bytes := Nat.mul_le_mul_right _ hnc
    have e : (2 * (sl + n) + 192) * ei.bytes = 2 * ((sl + n) * ei.bytes) + 192 * ei.bytes := by rw [Nat.add_mul, Nat.mul_assoc]
    omega
  have hnfit : ¬ sl + n ≤ sc := by omega
  have hncap : ¬ 281474976710656 < Builtin.nextslicecap (sl + n) sc * i.bytes := by omega
  generalize hq : Question.appendCap (sl + n) sc e = q
  have hforced : q.forced = false := by subst hq; rfl
  have hcut : ∀ x, sl + n ≤ q.cut x := by intro x; subst hq; simp [Question.cut]
  generalize hN : q.cut (w.tape w.drawn q) = N
  have hN' : sl + n ≤ N := by rw [← hN]; exact hcut _
  refine ⟨N, olds.toArray ++ (vals.toArray ++ Builtin.zeroCells z.cells (N - (sl + n))), (w.drew).alloc (.cells (olds.toArray ++ (vals.toArray ++ Builtin.zeroCells z.cells (N - (sl + n)))) e), ?_, hN', ?_, ?_, (Builtin.zeroCells z.cells (N - (sl + n))).toList, by simp⟩
  · have hneed : sl + n ≤ maxMade := Nat.le_trans (by have := Nat.mul_le_mul_left (sl + n) (show 1 ≤ ei.size + ei.bytes by omega); omega) hb
    have hmax : ¬ ((sl : Int) + n > 9223372036854775807) := by omega
    have hmax' : ¬ ((9223372036854775807 : Int) < (sl : Int) + n) := by omega
    have e1 := base.cells w.drew rfl
    have e2 := src.cells w.drew rfl
    simp [Builtin.append_, run_underl hu, run_size' he, run_underl hux, src.len, hnfit, hmax', run_typeInfo h1, hncap, hq, hforced, hN, e1, e2, run_zero h1 h5, newRow]
  · simp [Builtin.zeroCells, base.size, src.size, h8, ← Nat.add_mul]
    congr 1; omega
  · exact ⟨(NewB.push w _).sz, (NewB.push w _).old, (NewB.push w _).new, rfl, rfl⟩

/-- Zeros behind nil. -/
theorem appz_run {t tx ty e : TypeId} {ei : TI} (hu : P.underlying t = some (.slice e)) (he : TF P e ei) {k kn : IntKind} (hux : P.underlying tx = some (.int k)) {n : Nat} (h0 : 0 < n)
    (hsz : 0 < ei.size) (hb : n * (ei.size + ei.bytes) ≤ maxMade) :
    ∃ (newCap : Nat) (arr : Array Value) (w' : World) (vals : List Value), (Builtin.append_ #[t, tx] ty #[.slice none 0 0, .int kn (n : Int)]).run P w = .ok (.slice (some ⟨w.heap.size, 0, none⟩) n newCap) w' ∧ n ≤ newCap ∧
      arr.size = newCap * ei.size ∧ NewB w (.cells arr e (0, 0)) w' ∧ (∃ rest, arr.toList = vals ++ rest) ∧ ∀ ρ ls, RVs ρ ls (List.replicate n ei.zero).flatten vals := by
  obtain ⟨i, d', z, h1, h2, h3, h4, h5, h6, h7, h8, h9⟩ := he.info
  have hm : maxMade = 1099511627776 := rfl
  have hbytes : n * ei.bytes ≤ maxMade := Nat.le_trans (Nat.mul_le_mul_left _ (by omega)) hb
  have hsize : n * ei.size ≤ maxMade := Nat.le_trans (Nat.mul_le_mul_left _ (by omega)) hb
  have hn1 : n * 1 ≤ maxMade := Nat.le_trans (Nat.mul_le_mul_left _ (by omega)) hb
  have hgrow : 0 < 0 + n := by omega
  have hcap : Builtin.nextslicecap n 0 * i.bytes ≤ 281474976710656 := by
    have hnc := nextcap_le hgrow
    rw [Nat.zero_add] at hnc
    rw [h4]
    have : Builtin.nextslicecap n 0 * ei.bytes ≤ (2 * n + 192) * ei.bytes := Nat.mul_le_mul_right _ hnc
    have e : (2 * n + 192) * ei.bytes = 2 * (n * ei.bytes) + 192 * ei.bytes := by rw [Nat.add_mul, Nat.mul_assoc]
    have hb1 : ei.bytes ≤ maxMade := Nat.le_trans (by have := Nat.mul_le_mul_right ei.bytes (show 1 ≤ n by omega); omega) hbytes
    omega
  have hwrap : IntKind.i64.wrap (n : Int) = n := wrap64_id (by omega) (by omega)
  have hnn : ¬ ((n : Int) < 0) := by omega
  have hnb : ¬ ((281474976710656 : Int) < (n : Int) * i.bytes) := by
    rw [h4, ← Int.natCast_mul]; omega
  have hncap : ¬ 281474976710656 < Builtin.nextslicecap n 0 * i.bytes := by omega
  have hmax' : ¬ ((9223372036854775807 : Int) < (n : Int)) := by omega
  have hne : n ≠ 0 := by omega
  have hse : ei.size ≠ 0 := by omega
  have hsi : i.size ≠ 0 := by omega
  generalize hq : Question.appendCap n 0 e = q
  have hforced : q.forced = false := by subst hq; rfl
  have hcut : ∀ x, n ≤ q.cut x := by intro x; subst hq; simp [Question.cut]
  generalize hN : q.cut (w.tape w.drawn q) = N
  have hN' : n ≤ N := by rw [← hN]; exact hcut _
  refine ⟨N, Builtin.zeroCells z.cells n ++ Builtin.zeroCells z.cells (N - n), (w.drew).alloc (.cells (Builtin.zeroCells z.cells n ++ Builtin.zeroCells z.cells (N - n)) e), (Builtin.zeroCells z.cells n).toList, ?_, hN', ?_, ?_, ⟨(Builtin.zeroCells z.cells (N - n)).toList, by simp⟩, ?_⟩
  · simp [Builtin.append_, run_underl hu, run_size' he, run_underl hux, Go.asInt, asIntOf, hwrap, hnn, hnb, hne, hse, hsi, hmax', run_typeInfo h1, hncap, hq, hforced, hN, run_zero h1 h5, newRow, Builtin.firstCells]
    intro h; exact absurd h (Nat.mul_ne_zero hne hse)
  · simp [Builtin.zeroCells, h8, ← Nat.add_mul]
    congr 1; omega
  · exact ⟨(NewB.push w _).sz, (NewB.push w _).old, (NewB.push w _).new, rfl, rfl⟩
  · intro ρ ls
    have hz' : RVs ρ ls ei.zero z.cells.toList := by rw [← h7]; exact RVs_map _
    have : (Builtin.zeroCells z.cells n).toList = (List.replicate n z.cells.toList).flatten := by
      unfold Builtin.zeroCells
      exact rows_eq n z.cells z.cells.size rfl (fun h => by
        rcases Nat.mul_eq_zero.1 h with h | h
        · exact .inl h
        · exact .inr h)
    rw [this]
    exact hz'.replicate n

end
end Go.AM
