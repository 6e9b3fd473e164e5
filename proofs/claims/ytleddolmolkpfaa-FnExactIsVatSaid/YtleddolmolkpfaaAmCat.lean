import Derived.Test.YtleddolmolkpfaaAmVal
set_option linter.unusedVariables false
set_option linter.unusedSimpArgs false
/-! Zeros behind nil; what slices.Grow and slices.Concat are made of. -/
namespace Go.AM
section
variable {Γ : Glob}
def appzK (s : St) (sz bytes : Nat) (z : List AV) : AV → AV → AR
  | .nils, .int _ k => .ofP (aAppz s sz bytes z k)
  | _, _ => .stuck
theorem p_appz (gl : Bool) (s : St) (sz bytes : Nat) (z : List AV) (x n : X) : step Γ gl s (.appz sz bytes z x n) = appzK s sz bytes z (s.eval Γ x) (s.eval Γ n) := by
  simp only [step]; unfold appzK; rfl
theorem appz_ok {s : St} {sz bytes : Nat} {z : List AV} {k : IntKind} {n : Nat} (h0 : 0 < n) (hs : 0 < sz) (hb : n * (sz + bytes) ≤ maxMade) (hz : z.all noLp = true) :
    appzK s sz bytes z .nils (.int k (n : Int)) = .val (.gs s.heap.length 0 0 n n sz false) (s.push (List.replicate n z).flatten) := by
  have h0' : (0 : Int) < n := by omega
  simp [appzK, aAppz, h0', h0, hs, hb, hz, AR.ofP]
def capK (s : St) : AV → AR
  | .nils => .val (.int .i64 0) s
  | .gs _ _ _ _ cap _ true => .val (.int .i64 cap) s
  | _ => .stuck
theorem p_cap (gl : Bool) (s : St) (x : X) : step Γ gl s (.cap x) = capK s (s.eval Γ x) := by
  simp only [step, capK]
  cases s.eval Γ x <;> try rfl
theorem cap_n (s : St) : capK s .nils = .val (.int .i64 0) s := rfl
theorem lenI_n : lenI false .nils = some (.int .i64 0) := rfl
theorem cut_nil (s : St) (sz : Nat) (k : IntKind) : cutTo (.sl sz) s .nils (.int k 0) = .val .nils s := rfl
theorem cut_gs0 (s : St) (b g n sz : Nat) (ex : Bool) (k : IntKind) : cutTo (.sl sz) s (.gs b g 0 n n sz ex) (.int k 0) = .val (.gs b g 0 0 n sz ex) s := by
  simp [cutTo, bndV, asI, aSlice, AR.ofO]
theorem zeros_own (H : AH) {n sz : Nat} {z : List AV} (hz : z.length = sz) (ha : ∀ x ∈ z, atom x) : Own (H ++ [some (0, (List.replicate n z).flatten)]) (.gs H.length 0 0 0 n sz false) (.sl sz []) [H.length] :=
  Own.sl_mk (xs := []) (as := []) (tail := (List.replicate n z).flatten) (by rw [List.nil_append]; exact hget_last _ _) (by simp) (fun x hx => by
    obtain ⟨l, h1, h2⟩ := List.mem_flatten.1 hx
    rw [List.eq_of_mem_replicate h1] at h2
    exact ha x h2) (by simp [hz]) rfl
end
end Go.AM
namespace Go.AM
section
variable {Γ : Glob}
def cvbK (s : St) : AV → AR
  | .str v => if v.size ≤ maxMade then .val (.gs s.heap.length 0 0 v.size v.size 1 false) (s.push (byteCells v)) else .stuck
  | _ => .stuck
theorem p_cvb (gl : Bool) (s : St) (x : X) : step Γ gl s (.cvb x) = cvbK s (s.eval Γ x) := by
  simp only [step, cvbK]; cases s.eval Γ x <;> rfl
theorem cvbK_ok {s : St} {v : ByteArray} (h : v.size ≤ maxMade) : cvbK s (.str v) = .val (.gs s.heap.length 0 0 v.size v.size 1 false) (s.push (byteCells v)) := by
  simp only [cvbK]; rw [if_pos h]
def bytesI (v : ByteArray) : List Int := v.data.toList.map fun b => (b.toNat : Int)
theorem bytesI_len (v : ByteArray) : (bytesI v).length = v.size := by simp [bytesI]
theorem flat1 {α β : Type} (f : α → β) : ∀ l : List α, (l.map fun x => [f x]).flatten = l.map f
  | [] => rfl
  | x :: l => by simp [flat1 f l]
theorem bytes_own (H : AH) (v : ByteArray) : Own (H ++ [some (0, byteCells v)]) (.gs H.length 0 0 v.size v.size 1 false) (.sl 1 ((bytesI v).map fun n => [.i .u8 n])) [H.length] := by
  have hc : byteCells v = ((bytesI v).map fun n => [CD.i .u8 n]).flatten.map (CD.av false) := by
    simp [byteCells, bytesI, List.map_flatten, Function.comp_def, CD.av_i, flat1]
  have hl : ((bytesI v).map fun n => [CD.i .u8 n]).length = v.size := by simp [bytesI_len]
  have := Own.sl_mk (h := H ++ [some (0, byteCells v)]) (b := H.length) (g := 0) (cap := v.size) (sz := 1) (ex := false) («as» := byteCells v) (tail := []) (xs := (bytesI v).map fun n => [CD.i .u8 n]) (fp := [])
    (by rw [List.append_nil]; exact hget_last _ _) (fun y hy => by obtain ⟨x, _, rfl⟩ := List.mem_map.1 hy; rfl) (by simp) (by rw [hl]; simp) (by
      rw [hc]; exact flat_ownL false (by rw [List.all_flatten, List.all_eq_true]; intro y hy; obtain ⟨x, _, rfl⟩ := List.mem_map.1 hy; rfl))
  rw [hl] at this
  exact this
theorem p_mm (gl : Bool) (s : St) (b : Bool) (xs : List X) : step Γ gl s (.mm b xs) = .ofO s (aMM b (xs.map (s.eval Γ))) := rfl
theorem mm_max (k : IntKind) (a c : Int) : aMM true [.int k a, .int k c] = some (.int k (max a c)) := by
  simp only [aMM, if_true]
  congr 2
  split <;> omega
/-- One number of an owned list is overwritten. -/
theorem set_int {H : AH} {w : AV} {fp : List Nat} {l : List Int} (o : Own H w (.sl 1 (l.map fun n => [.i .i64 n])) fp) {k : Nat} (hk : k < l.length) (x : Int) : ∃ p H', aIdxs 1 w (k : Int) = some p ∧ (∀ (e : List AV) (L : List (List AV)), (St.mk e L H).store p [.int .i64 x] = some ⟨e, L, H'⟩) ∧
    Own H' w (.sl 1 ((l.set k x).map fun n => [.i .i64 n])) fp ∧ H'.length = H.length ∧ ∀ c, c ∉ fp → H'[c]? = H[c]? := by
  rcases o.sl_inv with ⟨rfl, e, rfl⟩ | ⟨b, g, cap, ex, az, tail, fp', rfl, rfl, hg, hsz, ht, hc, hown⟩
  · have : l = [] := by simpa using e
    subst this; simp at hk
  have hz := flat_asG (ints_flatG l) hown
  have e2 : ∀ l : List Int, (l.map fun n => [CD.i .i64 n]).flatten.map (CD.av false) = (l.map fun n => [AV.int .i64 n]).flatten := fun l => by simp [List.map_flatten, Function.comp_def, CD.av_i]
  rw [e2] at hz
  subst hz
  have hfp' : fp' = [] := flat_nofp (ints_flatG l) hown
  subst hfp'
  have hbl : b < H.length := hget_lt hg
  have st := row_store1 (c := fun n : Int => [AV.int .i64 n]) (sz := 1) (fun x => rfl) hk x tail (off := 0) (v := .int .i64 x) (by omega) rfl rfl hg
  refine ⟨.gp b g (0 + k * 1), _, idx_gs (by simpa using hk), fun e L => by rw [Nat.zero_add]; exact st e L, ?_, by simp, fun c hcn => List.getElem?_set_ne (fun e => hcn (by simp [e]))⟩
  have := Own.sl_mk (h := H.set b (some (g, ((l.set k x).map (fun n => [AV.int .i64 n])).flatten ++ tail))) (b := b) (g := g) (cap := cap) (sz := 1) (ex := ex) («as» := ((l.set k x).map (fun n => [AV.int .i64 n])).flatten) (tail := tail) (xs := (l.set k x).map fun n => [CD.i .i64 n]) (fp := [])
    (by simp [hget, hbl]) (fun y hy => by obtain ⟨x, _, rfl⟩ := List.mem_map.1 hy; rfl) ht (by simpa using hc) (by rw [← e2]; exact flat_ownL false (ints_flatG _))
  simpa using this
end
end Go.AM
