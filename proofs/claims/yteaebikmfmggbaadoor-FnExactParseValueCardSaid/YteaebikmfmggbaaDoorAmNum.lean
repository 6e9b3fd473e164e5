import Derived.Test.YteaebikmfmggbaaDoorAmBig
import Derived.Test.YteaebikmfmggbaaDoorAmCat
import Derived.Test.YteaebikmfmggbaaDoorAmStr
import Derived.Test.YteaebikmfmggbaaDoorAmOwn
import Derived.Test.YteaebikmfmggbaaDoorAmTop
import Derived.Sort.Grow
import Derived.Shelf.Strconv.Itoa3
import Derived.Shelf.Strconv.AtoiAll
import Derived.Shelf.Small.Wraps
import Derived.Lib.AtoiTie
set_option linter.unusedVariables false
set_option linter.unusedSimpArgs false
namespace Go.AM
open Go.Proofs Go.Shelf Go.RowKit
variable {P : Program} {Γ : Glob} {h : AH}
def itoaB (n : Int) : ByteArray := ⟨(Lib.itoa n).toArray⟩
theorem RH.below {ρ : Inj} {ls : List Nat} {L : List (List AV)} {w w' : World} (r : RH ρ ls L h w) (b : Below w.heap.size w w') : RH ρ ls L h w' := r.bigger b.size b.block
theorem Evo.below {ρ : Inj} {ls : List Nat} {w w' : World} (b : Below w.heap.size w w') : Evo ρ ls h w ρ ls h w' := .bigger b.size b.block b.os b.output
theorem GOK.var {ρ : Inj} {w : World} (gg : GOK Γ ρ) (r : RH ρ [] [] h w) {g : Nat} {cs : List AV} (e : Γ g = some cs) :
    ∃ arr T fr, w.heap[g]? = some (.cells arr T fr) ∧ arr.size = cs.length ∧ ∀ (i : Nat) (x : AV), cs[i]? = some x → ∃ y, arr[i]? = some y ∧ RV ρ [] x y := by
  obtain ⟨arr, h1, h2, h3⟩ := gg g cs e
  obtain ⟨T, fr, h4⟩ := r.im _ _ _ h1
  exact ⟨arr, T, fr, h4, h3, fun i x hx => by have := h2 i x hx; simpa using this⟩
theorem GOK.tab {ρ : Inj} {w : World} (gg : GOK Γ ρ) (r : RH ρ [] [] h w) {g : Nat} {k : IntKind} {zs : List Int} (e : Γ g = some (zs.map (AV.int k))) {nm : String} (hg : P.globalNamed nm = some g) : Lib.TabIs P w nm k zs := by
  obtain ⟨arr, T, fr, h1, h2, h3⟩ := gg.var r e
  unfold Lib.TabIs World.var?
  rw [hg]
  simp only [Option.bind_some, h1, Option.some.injEq]
  apply Array.ext_getElem?
  intro i
  by_cases hi : i < zs.length
  · have hx : (zs.map (AV.int k))[i]? = some (.int k zs[i]) := by simp [hi]
    obtain ⟨y, hy, ry⟩ := h3 i _ hx
    cases ry
    rw [hy]; simp [hi]
  · rw [Array.getElem?_eq_none (by rw [h2, List.length_map]; omega), Array.getElem?_eq_none (by simp; omega)]
theorem itoa_T {ren : Ren} (Ly : LaysM.n171 P ren) (hcl : Callable P (ren.f 171)) {g : Nat} (hg : P.globalNamed "internal/strconv.uint64pow10" = some g) (hΓ : Γ g = some (Lib.pow10Tab.map (AV.int .u64)))
    (n : Int) (h0 : -9223372036854775808 ≤ n) (h1 : n ≤ 9223372036854775807) (h : AH) : T P Γ (ren.f 171) [.int .i64 n] h fun v h' => v = .str (itoaB n) ∧ h' = h := by
  refine ⟨hcl, fun ρ w cargs r gg ra => ?_⟩
  obtain ⟨v, rfl, rv⟩ := zone_arg ra
  cases rv
  refine (Any.strconv_Itoa Ly n h0 h1 w (gg.tab r hΓ hg)).mono ?_
  rintro e w' ⟨rfl, k, os, rfl⟩
  have hs : w.heap.size ≤ (Sort.grow (w.drewN k) os).heap.size := by simp [Sort.grow]
  have ho : ∀ c, c < w.heap.size → (Sort.grow (w.drewN k) os).heap[c]? = w.heap[c]? := by
    intro c hc
    simp only [Sort.grow, World.heap_drewN]
    exact Array.getElem?_append_left hc
  exact ⟨.str (itoaB n), _, ρ, h, rfl, .str _ _, r.bigger hs ho, .bigger hs ho rfl rfl, rfl, rfl⟩
theorem RV.tup2 {ρ : Inj} {x y : AV} {a b : Value} (h1 : RV ρ [] x a) (h2 : RV ρ [] y b) : RV ρ [] (.tup [x, y]) (.tuple #[a, b]) := by
  refine .tup _ _ _ rfl (fun i z hz => ?_)
  match i, hz with
  | 0, hz => simp at hz; subst hz; exact h1
  | 1, hz => simp at hz; subst hz; exact h2
  | n + 2, hz => simp at hz
def AtoiR (l : List UInt8) (x : Int) (e : Value) : Prop := match Lib.atoiAll l with
  | .ok n => x = n ∧ e = .nilIface
  | _ => ∃ t p, e = .iface t p
theorem atoi_T {ren : Ren} (Ly : LaysC.n172 P ren) (hcl : Callable P (ren.f 172)) {t1 t2 : TypeId} {p1 p2 : Value}
    (hΓ1 : Γ (ren.g 15) = some [.opq (.iface t1 p1)]) (hΓ2 : Γ (ren.g 16) = some [.opq (.iface t2 p2)]) (s : ByteArray) (hs : s.size ≤ 281474976710656) (h : AH) :
    T P Γ (ren.f 172) [.str s] h fun v h' => (∃ x e, v = .tup [.int .i64 x, .opq e] ∧ AtoiR s.data.toList x e) ∧ h' = h := by
  refine ⟨hcl, fun ρ w cargs r gg ra => ?_⟩
  obtain ⟨v, rfl, rv⟩ := zone_arg ra
  cases rv
  have cellOf : ∀ {g : Nat} {t : TypeId} {p : Value}, Γ g = some [.opq (.iface t p)] → w.cell? ⟨g, 0, none⟩ = some (.iface t p) := by
    intro g t p e
    obtain ⟨arr, T, fr, k1, k2, k3⟩ := gg.var r e
    obtain ⟨y, hy, ry⟩ := k3 0 _ rfl
    cases ry
    rw [cell_of k1]; exact hy
  cases ha : Lib.atoiAll s.data.toList with
  | ok n =>
    refine (Any.strconv_Atoi_ok Ly s (by omega) n ha w).mono ?_
    rintro e w' ⟨rfl, hw⟩
    have hb : Below w.heap.size w w' := by
      rcases hw with rfl | ⟨t, rfl⟩
      · exact Below.refl _ _
      · exact Lib.bytesWorld_below _ _ _
    exact ⟨.tup [.int .i64 n, .opq .nilIface], _, ρ, h, rfl, .tup2 (.int _ _ _) (.opq _ _), r.below hb, .below hb, ⟨n, _, rfl, by simp [AtoiR, ha]⟩, rfl⟩
  | range =>
    refine (Any.strconv_Atoi_range Ly s hs ha (.iface t2 p2) w (cellOf hΓ2) (.inr ⟨_, _, rfl⟩)).mono ?_
    rintro e w' ⟨N, rfl, _, _, hb⟩
    exact ⟨.tup [.int .i64 _, .opq _], _, ρ, h, rfl, .tup2 (.int _ _ _) (.opq _ _), r.below hb, .below hb, ⟨_, _, rfl, by simp [AtoiR, ha]⟩, rfl⟩
  | _ =>
    refine (Any.strconv_Atoi_syntax Ly s hs ha (.iface t1 p1) w (cellOf hΓ1) (.inr ⟨_, _, rfl⟩)).mono ?_
    rintro e w' ⟨N, rfl, _, _, hb⟩
    exact ⟨.tup [.int .i64 0, .opq _], _, ρ, h, rfl, .tup2 (.int _ _ _) (.opq _ _), r.below hb, .below hb, ⟨0, _, rfl, by simp [AtoiR, ha]⟩, rfl⟩
theorem two_arg {x y : AV} {ρ : Inj} {vs : List Value} (r : RVs ρ [] [x, y] vs) : ∃ v w, vs = [v, w] ∧ RV ρ [] x v ∧ RV ρ [] y w := by
  obtain ⟨h1, h2⟩ := r
  match vs, h1 with
  | [v, w], _ => exact ⟨v, w, rfl, h2 0 x rfl, h2 1 y rfl⟩
theorem cutPrefix_T {ren : Ren} (Ly : Lays.n103 P ren) (hcl : Callable P (ren.f 103)) (s p : ByteArray) (h : AH) :
    T P Γ (ren.f 103) [.str s, .str p] h fun v h' => v = .tup [.str ⟨(Lib.trimPrefix s.data.toList p.data.toList).toArray⟩, .bool (Lib.hasPrefix s.data.toList p.data.toList)] ∧ h' = h := by
  refine ⟨hcl, fun ρ w cargs r gg ra => ?_⟩
  obtain ⟨v, u, rfl, rv, ru⟩ := two_arg ra
  cases rv; cases ru
  refine (Any.strings_CutPrefix Ly s p w).mono ?_
  rintro e w' ⟨rfl, rfl⟩
  exact ⟨_, _, ρ, h, rfl, .tup2 (.str _ _) (.bool _ _), r, .refl _ _ _ _, rfl, rfl⟩
theorem decDigits_ge {u : Nat} (h : 10 ≤ u) : Lib.decDigits u = Lib.decDigits (u / 10) ++ [UInt8.ofNat (48 + u % 10)] := by
  rw [Lib.decDigits, dif_neg (by omega)]
theorem decDigits_lt {u : Nat} (h : u < 10) : Lib.decDigits u = [UInt8.ofNat (48 + u)] := by
  rw [Lib.decDigits, dif_pos h]
def decD (u : Nat) : List UInt8 := if u = 0 then [] else Lib.decDigits u
theorem decD_step {u : Nat} (h : u ≠ 0) : decD u = decD (u / 10) ++ [UInt8.ofNat (48 + u % 10)] := by
  unfold decD
  rw [if_neg h]
  by_cases h1 : u < 10
  · rw [decDigits_lt h1, if_pos (by omega), Nat.mod_eq_of_lt h1]; rfl
  · rw [decDigits_ge (by omega), if_neg (by omega)]
theorem u8_ofNat {d : Nat} (h : d < 256) : (UInt8.ofNat d).toNat = d := by simp [UInt8.toNat_ofNat', Nat.mod_eq_of_lt h]
theorem decFrom_app : ∀ (l m : List UInt8) (a : Nat), Lib.decFrom a (l ++ m) = (Lib.decFrom a l).bind fun b => Lib.decFrom b m
  | [], m, a => rfl
  | c :: l, m, a => by
    simp only [List.cons_append, Lib.decFrom]
    cases Lib.digitVal c with
    | none => rfl
    | some d => exact decFrom_app l m _
theorem decFrom_decD : ∀ (u : Nat), Lib.decFrom 0 (decD u) = some u := by
  intro u
  induction u using Nat.strongRecOn with
  | _ u ih =>
    by_cases h : u = 0
    · subst h; rfl
    · rw [decD_step h, decFrom_app, ih (u / 10) (by omega)]
      simp only [Option.bind_some, Lib.decFrom, Lib.digitVal]
      rw [u8_ofNat (by omega), if_pos (by omega)]
      simp only [Option.some.injEq]; omega
theorem decFrom_decDigits (u : Nat) : Lib.decFrom 0 (Lib.decDigits u) = some u := by
  by_cases h : u = 0
  · subst h; rw [decDigits_lt (by omega)]; rfl
  · have := decFrom_decD u; rwa [decD, if_neg h] at this
theorem itoaB_nat_data (n : Nat) : (itoaB n).data.toList = Lib.decDigits n := by simp [itoaB, Lib.itoa_nonneg]
theorem itoaB_inj {a b : Nat} (h : itoaB a = itoaB b) : a = b := by
  have e : (itoaB a).data.toList = (itoaB b).data.toList := by rw [h]
  rw [itoaB_nat_data, itoaB_nat_data] at e
  have := decFrom_decDigits a
  rw [e, decFrom_decDigits] at this
  exact (Option.some.inj this).symm
theorem decDigits_cons (u : Nat) : ∃ c r, Lib.decDigits u = c :: r ∧ 48 ≤ c.toNat ∧ c.toNat ≤ 57 := by
  induction u using Nat.strongRecOn with
  | _ u ih =>
    by_cases h : u < 10
    · exact ⟨_, [], decDigits_lt h, by rw [u8_ofNat (by omega)]; omega, by rw [u8_ofNat (by omega)]; omega⟩
    · obtain ⟨c, r, e, h1, h2⟩ := ih (u / 10) (by omega)
      exact ⟨c, r ++ [UInt8.ofNat (48 + u % 10)], by rw [decDigits_ge (by omega), e]; rfl, h1, h2⟩
theorem decDigits_len_le {u k : Nat} (h : u < 10 ^ k) (hk : 0 < k) : (Lib.decDigits u).length ≤ k := by
  induction k generalizing u with
  | zero => omega
  | succ k ih =>
    by_cases h1 : u < 10
    · rw [decDigits_lt h1]; simp
    · rw [decDigits_ge (by omega)]
      simp only [List.length_append, List.length_cons, List.length_nil]
      have hk0 : 0 < k := by
        rcases Nat.eq_zero_or_pos k with rfl | hp
        · simp at h; omega
        · exact hp
      have := ih (u := u / 10) (by rw [Nat.pow_succ] at h; omega) hk0
      omega
theorem atoi_itoa {n : Nat} (h : n ≤ 1000000000000) : Lib.atoiAll (itoaB n).data.toList = .ok n := by
  rw [itoaB_nat_data]
  have hl := decDigits_len_le (u := n) (k := 13) (by omega) (by omega)
  rw [Lib.atoiAll_short _ (by omega)]
  obtain ⟨c, r, e, h1, h2⟩ := decDigits_cons n
  have hd := decFrom_decDigits n
  have n45 : (c == 45) = false := by
    rw [beq_eq_false_iff_ne]; intro hc; subst hc; simp at h1
  have n43 : (c == 43) = false := by
    rw [beq_eq_false_iff_ne]; intro hc; subst hc; simp at h1
  rw [e] at hd ⊢
  simp only [Lib.atoi, n45, n43, Bool.false_eq_true, if_false, Lib.decNat, List.isEmpty_cons, hd, Option.map_some, Lib.NumEnd.ofOption]
open Classical in
noncomputable def parseF (s : ByteArray) : Option Nat := if h : ∃ n : Nat, n ≤ 1000000000000 ∧ s = itoaB n then some h.choose else none
theorem parseF_itoa {n : Nat} (h : n ≤ 1000000000000) : parseF (itoaB n) = some n := by
  have hx : ∃ m : Nat, m ≤ 1000000000000 ∧ itoaB n = itoaB m := ⟨n, h, rfl⟩
  unfold parseF
  rw [dif_pos hx]
  exact congrArg some (itoaB_inj hx.choose_spec.2).symm
theorem parseF_none {s : ByteArray} (h : ∀ n : Nat, n ≤ 1000000000000 → s ≠ itoaB n) : parseF s = none := by
  unfold parseF
  rw [dif_neg]
  rintro ⟨n, h1, h2⟩
  exact h n h1 h2
theorem p_cvt (gl : Bool) (s : St) (x : X) : step Γ gl s (.cvt x) = .ofO s (((s.sliceCells 1 (s.eval Γ x)).bind bytesOfCells).map fun l => .str ⟨l.toArray⟩) := rfl
theorem sc_last (e : List AV) (L : List (List AV)) (H : AH) (x : AV) (ex : Bool) : (St.mk e L (H ++ [some (0, [x])])).sliceCells 1 (.gs H.length 0 0 1 1 1 ex) = some [x] := by
  simp [St.sliceCells, hget, sub]
theorem b_sadd {a b : ByteArray} (h : a.size + b.size ≤ 9223372036854775807) : aBin .add .num (.str a) (.str b) = some (.str (a ++ b)) := by
  have : ¬ (((a.size + b.size : Nat) : Int) > IntKind.i64.max) := by
    have : IntKind.i64.max = 9223372036854775807 := by decide
    omega
  simp only [aBin]; rw [if_neg this]
theorem u_neg (k : IntKind) (n : Int) : aUn .neg (.int k n) = some (.int k (k.wrap (0 - n))) := rfl
theorem b_quo10 (n : Int) : aBin .quo .num (.int .i64 n) (.int .i64 10) = some (.int .i64 (IntKind.i64.wrap (n.tdiv 10))) := rfl
theorem b_rem10 (n : Int) : aBin .rem .num (.int .i64 n) (.int .i64 10) = some (.int .i64 (n.tmod 10)) := rfl
theorem strAp (a b : List UInt8) : (⟨a.toArray⟩ : ByteArray) ++ ⟨b.toArray⟩ = ⟨(a ++ b).toArray⟩ := by
  apply ByteArray.ext
  simp [ByteArray.data_append]
theorem str_size (l : List UInt8) : (⟨l.toArray⟩ : ByteArray).size = l.length := by simp [ByteArray.size]
theorem str_beq (a b : ByteArray) : (a.toList == b.toList) = decide (a = b) := by
  by_cases h : a = b
  · subst h; simp
  · rw [decide_eq_false h]
    rw [beq_eq_false_iff_ne]
    intro e
    exact h (ByteArray.ext (by
      have e1 : a.data.toList = b.data.toList := by
        simpa only [ByteArray.toList_eq] using e
      exact Array.toList_inj.1 e1))
theorem nat_rem (n : Int) (hn : n.natAbs ≤ 9223372036854775808) : (n.tmod 10).natAbs = n.natAbs % 10 := by
  rw [Int.natAbs_tmod]; rfl
theorem nat_quo (n : Int) : (n.tdiv 10).natAbs = n.natAbs / 10 := by
  rw [Int.natAbs_tdiv]; rfl
theorem T.text {f : FuncId} {args : List AV} {h : AH} {s : ByteArray} (t : T P Γ f args h fun v h' => v = .str s ∧ ∃ N, h' = h ++ N) : T P Γ f args h fun v h' => v = .str s ∧ h' = h := by
  have := T.frozen (rs := [.c (.s s)]) (t.fresh (by
    rintro v h' ⟨rfl, N, rfl⟩
    exact ⟨[.str s], N, [], rfl, rfl, ⟨[], [], rfl, .s _, rfl⟩, List.nodup_nil, by simp⟩))
  exact this.mono fun v h' ⟨h1, h2⟩ => ⟨by simpa [resOf, RD.av, CD.av] using h1, h2⟩
theorem gok_tab {P : Program} {W : World} {nm : String} {g : Nat} {k : IntKind} {zs : List Int} (hg : P.globalNamed nm = some g) (ht : Lib.TabIs P W nm k zs) :
    ∃ arr, (topInj W).imm false g = some arr ∧ Lies (topInj W) [] arr 0 (zs.map (AV.int k)) ∧ arr.size = (zs.map (AV.int k)).length := by
  unfold Lib.TabIs World.var? at ht
  rw [hg] at ht
  simp only [Option.bind_some] at ht
  split at ht
  · rename_i cs T fr hh
    injection ht with ht
    subst ht
    refine ⟨_, by simp only [topInj, hh]; rfl, fun i x hx => ?_, by simp⟩
    simp only [List.getElem?_map, Option.map_eq_some_iff] at hx
    obtain ⟨z, hz, rfl⟩ := hx
    exact ⟨.int k z, by simp [hz], .int _ _ _⟩
  · cases ht
theorem gok_one {W : World} {g : Nat} {v : Value} {T : TypeId} {fr : Nat × Nat} (h : W.heap[g]? = some (.cells #[v] T fr)) :
    ∃ arr, (topInj W).imm false g = some arr ∧ Lies (topInj W) [] arr 0 [.opq v] ∧ arr.size = [AV.opq v].length := by
  refine ⟨#[v], by simp only [topInj, h]; rfl, fun i x hx => ?_, rfl⟩
  match i, hx with
  | 0, hx => simp at hx; subst hx; exact ⟨v, rfl, .opq _ _⟩
  | n + 1, hx => simp at hx
end Go.AM
