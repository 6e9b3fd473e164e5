import Derived.Test.YteaebikmfmggbaaDoorAmBig
import Derived.Test.YteaebikmfmggbaaDoorAmCat
import Derived.Test.YteaebikmfmggbaaDoorAmStr
import Derived.Test.YteaebikmfmggbaaDoorAmOwn
import Derived.Test.YteaebikmfmggbaaDoorAmTop
import Derived.Sort.Grow
import Derived.Shelf.Strconv.Itoa3
import Derived.Shelf.Strconv.AtoiAll
import Derived.Shelf.Small.Wraps
import Derived.Lib.AtoiTie
set_option linter.unusedVariables false
set_option linter.unusedSimpArgs false
namespace Go.AM
open Go.Proofs Go.Shelf Go.RowKit
variable {P : Program} {Γ : Glob} {h : AH}
def itoaB (n : Int) : ByteArray := ⟨(Lib.itoa n).toArray⟩
theorem RH.below {ρ : Inj} {ls : List Nat} {L : List (List AV)} {w w' : World} (r : RH ρ ls L h w) (b : Below w.heap.size w w') : RH ρ ls L h w' := r.bigger b.size b.block
theorem Evo.below {ρ : Inj} {ls : List Nat} {w w' : World} (b : Below w.heap.size w w') : Evo ρ ls h w ρ ls h w' := .bigger b.size b.block b.os b.output
theorem GOK.var {ρ : Inj} {w : World} (gg : GOK Γ ρ) (r : RH ρ [] [] h w) {g : Nat} {cs : List AV} (e : Γ g = some cs) :
    ∃ arr T fr, w.heap[g]? = some (.cells arr T fr) ∧ arr.size = cs.length ∧ ∀ (i : Nat) (x : AV), cs[i]? = some x → ∃ y, arr[i]? = some y ∧ RV ρ [] x y := by
  obtain ⟨arr, h1, h2, h3⟩ := gg g cs e
  obtain ⟨T, fr, h4⟩ := r.im _ _ _ h1
  exact ⟨arr, T, fr, h4, h3, fun i x hx => by have := h2 i x hx; simpa using this⟩
theorem GOK.tab {ρ : Inj} {w : World} (gg : GOK Γ ρ) (r : RH ρ [] [] h w) {g : Nat} {k : IntKind} {zs : List Int} (e : Γ g = some (zs.map (AV.int k))) {nm : String} (hg : P.globalNamed nm = some g) : Lib.TabIs P w nm k zs := by
  obtain ⟨arr, T, fr, h1, h2, h3⟩ := gg.var r e
  unfold Lib.TabIs World.var?
  rw [hg]
  simp only [Option.bind_some, h1, Option.some.injEq]
  apply Array.ext_getElem?
  intro i
  by_cases hi : i < zs.length
  · have hx : (zs.map (AV.int k))[i]? = some (.int k zs[i]) := by simp [hi]
    obtain ⟨y, hy, ry⟩ := h3 i _ hx
    cases ry
    rw [hy]; simp [hi]
  · rw [Array.getElem?_eq_none (by rw [h2, List.length_map]; omega), Array.getElem?_eq_none (by simp; omega)]
theorem itoa_T {ren : Ren} (Ly : LaysM.n171 P ren) (hcl : Callable P (ren.f 171)) {g : Nat} (hg : P.globalNamed "internal/strconv.uint64pow10" = some g) (hΓ : Γ g = some (Lib.pow10Tab.map (AV.int .u64)))
    (n : Int) (h0 : -9223372036854775808 ≤ n) (h1 : n ≤ 9223372036854775807) (h : AH) : T P Γ (ren.f 171) [.int .i64 n] h fun v h' => v = .str (itoaB n) ∧ h' = h := by
  refine ⟨hcl, fun ρ w cargs r gg ra => ?_⟩
  obtain ⟨v, rfl, rv⟩ := zone_arg ra
  cases rv
  refine (Any.strconv_Itoa Ly n h0 h1 w (gg.tab r hΓ hg)).mono ?_
  rintro e w' ⟨rfl, k, os, rfl⟩
  have hs : w.heap.size ≤ (Sort.grow (w.drewN k) os).heap.size := by simp [Sort.grow]
  have ho : ∀ c, c < w.heap.size → (Sort.grow (w.drewN k) os).heap[c]? = w.heap[c]? := by
    intro c hc
    simp only [Sort.grow, World.heap_drewN]
    exact Array.getElem?_append_left hc
  exact ⟨.str (itoaB n), _, ρ, h, rfl, .str _ _, r.bigger hs ho, .bigger hs ho rfl rfl, rfl, rfl⟩
theorem decDigits_ge {u : Nat} (h : 10 ≤ u) : Lib.decDigits u = Lib.decDigits (u / 10) ++ [UInt8.ofNat (48 + u % 10)] := by
  rw [Lib.decDigits, dif_neg (by omega)]
theorem decDigits_lt {u : Nat} (h : u < 10) : Lib.decDigits u = [UInt8.ofNat (48 + u)] := by
  rw [Lib.decDigits, dif_pos h]
def decD (u : Nat) : List UInt8 := if u = 0 then [] else Lib.decDigits u
theorem decD_step {u : Nat} (h : u ≠ 0) : decD u = decD (u / 10) ++ [UInt8.ofNat (48 + u % 10)] := by
  unfold decD
  rw [if_neg h]
  by_cases h1 : u < 10
  · rw [decDigits_lt h1, if_pos (by omega), Nat.mod_eq_of_lt h1]; rfl
  · rw [decDigits_ge (by omega), if_neg (by omega)]
theorem decDigits_len_le {u k : Nat} (h : u < 10 ^ k) (hk : 0 < k) : (Lib.decDigits u).length ≤ k := by
  induction k generalizing u with
  | zero => omega
  | succ k ih =>
    by_cases h1 : u < 10
    · rw [decDigits_lt h1]; simp
    · rw [decDigits_ge (by omega)]
      simp only [List.length_append, List.length_cons, List.length_nil]
      have hk0 : 0 < k := by
        rcases Nat.eq_zero_or_pos k with rfl | hp
        · simp at h; omega
        · exact hp
      have := ih (u := u / 10) (by rw [Nat.pow_succ] at h; omega) hk0
      omega
open Classical in
theorem p_cvt (gl : Bool) (s : St) (x : X) : step Γ gl s (.cvt x) = .ofO s (((s.sliceCells 1 (s.eval Γ x)).bind bytesOfCells).map fun l => .str ⟨l.toArray⟩) := rfl
theorem sc_last (e : List AV) (L : List (List AV)) (H : AH) (x : AV) (ex : Bool) : (St.mk e L (H ++ [some (0, [x])])).sliceCells 1 (.gs H.length 0 0 1 1 1 ex) = some [x] := by
  simp [St.sliceCells, hget, sub]
theorem b_sadd {a b : ByteArray} (h : a.size + b.size ≤ 9223372036854775807) : aBin .add .num (.str a) (.str b) = some (.str (a ++ b)) := by
  have : ¬ (((a.size + b.size : Nat) : Int) > IntKind.i64.max) := by
    have : IntKind.i64.max = 9223372036854775807 := by decide
    omega
  simp only [aBin]; rw [if_neg this]
theorem u_neg (k : IntKind) (n : Int) : aUn .neg (.int k n) = some (.int k (k.wrap (0 - n))) := rfl
theorem b_quo10 (n : Int) : aBin .quo .num (.int .i64 n) (.int .i64 10) = some (.int .i64 (IntKind.i64.wrap (n.tdiv 10))) := rfl
theorem b_rem10 (n : Int) : aBin .rem .num (.int .i64 n) (.int .i64 10) = some (.int .i64 (n.tmod 10)) := rfl
theorem strAp (a b : List UInt8) : (⟨a.toArray⟩ : ByteArray) ++ ⟨b.toArray⟩ = ⟨(a ++ b).toArray⟩ := by
  apply ByteArray.ext
  simp [ByteArray.data_append]
theorem str_size (l : List UInt8) : (⟨l.toArray⟩ : ByteArray).size = l.length := by simp [ByteArray.size]
theorem str_beq (a b : ByteArray) : (a.toList == b.toList) = decide (a = b) := by
  by_cases h : a = b
  · subst h; simp
  · rw [decide_eq_false h]
    rw [beq_eq_false_iff_ne]
    intro e
    exact h (ByteArray.ext (by
      have e1 : a.data.toList = b.data.toList := by
        simpa only [ByteArray.toList_eq] using e
      exact Array.toList_inj.1 e1))
theorem nat_rem (n : Int) (hn : n.natAbs ≤ 9223372036854775808) : (n.tmod 10).natAbs = n.natAbs % 10 := by
  rw [Int.natAbs_tmod]; rfl
theorem nat_quo (n : Int) : (n.tdiv 10).natAbs = n.natAbs / 10 := by
  rw [Int.natAbs_tdiv]; rfl
theorem T.text {f : FuncId} {args : List AV} {h : AH} {s : ByteArray} (t : T P Γ f args h fun v h' => v = .str s ∧ ∃ N, h' = h ++ N) : T P Γ f args h fun v h' => v = .str s ∧ h' = h := by
  have := T.frozen (rs := [.c (.s s)]) (t.fresh (by
    rintro v h' ⟨rfl, N, rfl⟩
    exact ⟨[.str s], N, [], rfl, rfl, ⟨[], [], rfl, .s _, rfl⟩, List.nodup_nil, by simp⟩))
  exact this.mono fun v h' ⟨h1, h2⟩ => ⟨by simpa [resOf, RD.av, CD.av] using h1, h2⟩
theorem gok_tab {P : Program} {W : World} {nm : String} {g : Nat} {k : IntKind} {zs : List Int} (hg : P.globalNamed nm = some g) (ht : Lib.TabIs P W nm k zs) :
    ∃ arr, (topInj W).imm false g = some arr ∧ Lies (topInj W) [] arr 0 (zs.map (AV.int k)) ∧ arr.size = (zs.map (AV.int k)).length := by
  unfold Lib.TabIs World.var? at ht
  rw [hg] at ht
  simp only [Option.bind_some] at ht
  split at ht
  · rename_i cs T fr hh
    injection ht with ht
    subst ht
    refine ⟨_, by simp only [topInj, hh]; rfl, fun i x hx => ?_, by simp⟩
    simp only [List.getElem?_map, Option.map_eq_some_iff] at hx
    obtain ⟨z, hz, rfl⟩ := hx
    exact ⟨.int k z, by simp [hz], .int _ _ _⟩
  · cases ht
end Go.AM
