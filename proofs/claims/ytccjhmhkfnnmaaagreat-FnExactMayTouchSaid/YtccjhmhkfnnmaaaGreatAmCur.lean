import Derived.Test.YtccjhmhkfnnmaaaGreatAmRows
set_option linter.unusedVariables false
set_option linter.unusedSimpArgs false
namespace Go.AM
theorem p_cvi {Γ : Glob} (gl : Bool) (s : St) (k : IntKind) (x : X) : step Γ gl s (.cvi k x) = (match s.eval Γ x with | .int _ n => .val (.int k (k.wrap n)) s | _ => .stuck) := rfl
theorem flat_asG {H : AH} : ∀ {az : List AV} {cs : List CD} {fp : List Nat}, cs.all CD.flat = true → OwnL H az cs fp → az = cs.map (CD.av false)
  | [], [], _, _, o => rfl
  | a :: az, d :: ds, fp, h, ⟨f1, f2, e, o1, o2⟩ => by
    simp only [List.all_cons, Bool.and_eq_true] at h
    rw [List.map_cons, ← flat_asG h.2 o2]
    congr 1
    cases o1 with
    | i => simp [CD.av_i]
    | b => simp [CD.av_b]
    | s => simp [CD.av_s]
    | nil => simp [CD.flat] at h
    | gs => simp [CD.flat] at h
theorem ints_flatG (l : List Int) : (l.map fun n => [CD.i .i64 n]).flatten.all CD.flat = true := by
  rw [List.all_flatten, List.all_eq_true]; intro y hy; obtain ⟨x, _, rfl⟩ := List.mem_map.1 hy; rfl
theorem own_int {H : AH} {w : AV} {fp : List Nat} {l : List Int} (o : Own H w (.sl 1 (l.map fun n => [.i .i64 n])) fp) {k : Nat} (hk : k < l.length) : ∃ p, aIdxs 1 w (k : Int) = some p ∧ ∀ (e : List AV) (L : List (List AV)), (St.mk e L H).cells p 1 = some [.int .i64 l[k]] := by
  rcases o.sl_inv with ⟨rfl, e, rfl⟩ | ⟨b, g, cap, ex, az, tail, fp', rfl, rfl, hg, hsz, ht, hc, hown⟩
  · have : l = [] := by simpa using e
    subst this; simp at hk
  have hz := flat_asG (ints_flatG l) hown
  have e2 : (l.map fun n => [CD.i .i64 n]).flatten.map (CD.av false) = (l.map fun n => [AV.int .i64 n]).flatten := by simp [List.map_flatten, Function.comp_def, CD.av_i]
  rw [e2] at hz
  subst hz
  refine ⟨.gp b g (0 + k * 1), idx_gs (by simpa using hk), fun e L => ?_⟩
  rw [cells_gp hg, Nat.zero_add]
  exact row_load (c := fun n : Int => [AV.int .i64 n]) (sz := 1) (fun _ => rfl) hk tail
end Go.AM
