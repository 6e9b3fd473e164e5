import Derived.Test.YteaebikmfmggbaaDoorAmSz
set_option linter.unusedVariables false
set_option linter.unusedSimpArgs false
namespace Go.AM
section
variable {P : Program} {Θ : Tab} {Γ : Glob}
def bslK (s : St) (sz len : Nat) : Option (List AV) → AR | some cs => if cs.all noLp then .val (.gs s.heap.length 0 0 len len sz true) (s.push cs) else .stuck | none => .stuck
theorem p_bsl (gl : Bool) (s : St) (sz len : Nat) (z : List AV) (ps : List (Nat × X)) : step Γ gl s (.bsl sz len z ps) = bslK s sz len (fillA (List.replicate len z).flatten (ps.map fun p => (p.1 * sz, sz, s.eval Γ p.2))) := by
  simp only [step, bslK]; cases fillA _ _ <;> rfl
end
end Go.AM
namespace Go.AM
section
variable {P : Program} {Θ : Tab} {Γ : Glob}
def ovR : List AV → Nat → List AV → Option (List AV)
  | z, 0, [] => some z
  | _ :: z, 0, x :: vs => (ovR z 0 vs).map (x :: ·)
  | a :: z, n + 1, vs => (ovR z n vs).map (a :: ·)
  | [], 0, _ :: _ => none
  | [], _ + 1, _ => none
theorem ovR_over : ∀ (z : List AV) (o : Nat) (vs z' : List AV), ovR z o vs = some z' → o + vs.length ≤ z.length ∧ z' = over z o vs
  | z, 0, [], z', h => by simp [ovR] at h; subst h; simp [over]
  | a :: z, 0, x :: vs, z', h => by
    simp only [ovR, Option.map_eq_some_iff] at h
    obtain ⟨y, h1, rfl⟩ := h
    obtain ⟨h2, rfl⟩ := ovR_over z 0 vs y h1
    refine ⟨by simp at h2 ⊢; omega, ?_⟩
    simp [over]
  | a :: z, n + 1, vs, z', h => by
    simp only [ovR, Option.map_eq_some_iff] at h
    obtain ⟨y, h1, rfl⟩ := h
    obtain ⟨h2, rfl⟩ := ovR_over z n vs y h1
    refine ⟨by simp; omega, ?_⟩
    simp [over, show n + 1 + vs.length = (n + vs.length) + 1 by omega]
  | [], 0, _ :: _, _, h => by simp [ovR] at h
  | [], _ + 1, _, _, h => by simp [ovR] at h
theorem ov_0 (z : List AV) : ovR z 0 [] = some z := by cases z <;> rfl
theorem ov_c (a x : AV) (z vs : List AV) : ovR (a :: z) 0 (x :: vs) = (ovR z 0 vs).map (x :: ·) := rfl
theorem ov_s (a : AV) (z vs : List AV) (n : Nat) : ovR (a :: z) (n + 1) vs = (ovR z n vs).map (a :: ·) := rfl
def ovK (f : List AV → Option (List AV)) (alt : Option (List AV)) : Option (List AV) → Option (List AV) | some z => f z | none => alt
def fillAlt (z : List AV) (off : Nat) (cs : List AV) (rest : List (Nat × Nat × AV)) : Option (List AV) := if off + cs.length ≤ z.length then fillA (over z off cs) rest else none
def fillK (z : List AV) (off size : Nat) (rest : List (Nat × Nat × AV)) : Option (List AV) → Option (List AV)
  | some cs => if cs.length = size then fillAlt z off cs rest else none
  | none => none
theorem fl_n (z : List AV) : fillA z [] = some z := rfl
theorem fl_c (z : List AV) (off size : Nat) (v : AV) (rest : List (Nat × Nat × AV)) : fillA z ((off, size, v) :: rest) = fillK z off size rest (cellsOf v) := by
  simp only [fillA, fillK, fillAlt]; cases cellsOf v <;> rfl
theorem fl_k (z : List AV) (off size : Nat) (rest : List (Nat × Nat × AV)) (cs : List AV) : fillK z off size rest (some cs) = if cs.length = size then ovK (fun z' => fillA z' rest) (fillAlt z off cs rest) (ovR z off cs) else none := by
  simp only [fillK]
  split
  · cases h : ovR z off cs with
    | none => rfl
    | some z' =>
      obtain ⟨h1, h2⟩ := ovR_over _ _ _ _ h
      simp only [fillAlt, if_pos h1, ovK, h2]
  · rfl
theorem ovk_s (f : List AV → Option (List AV)) (alt : Option (List AV)) (z : List AV) : ovK f alt (some z) = f z := rfl
theorem p_build (gl : Bool) (s : St) (z : List AV) (ps : List (Nat × Nat × X)) : step Γ gl s (.build z ps) = .ofO s ((fillA z (ps.map fun p => (p.1, p.2.1, s.eval Γ p.2.2))).map .agg) := rfl
theorem bm_n {α β : Type} (f : α → β) : List.map f [] = [] := rfl
theorem bm_c {α β : Type} (f : α → β) (x : α) (xs : List α) : List.map f (x :: xs) = f x :: List.map f xs := rfl
def chkK (s : St) (v : AV) : Option Bool → AR | some false => .val v s | _ => .stuck
theorem p_nilchk (gl : Bool) (s : St) (x : X) : step Γ gl s (.nilchk x) = chkK s (s.eval Γ x) (isNil (s.eval Γ x)) := by
  simp only [step, chkK]; split <;> simp_all
theorem chk_f (s : St) (v : AV) : chkK s v (some false) = .val v s := rfl
theorem isNil_ip (β : Bool) (cs : List AV) : isNil (.ip β cs) = some false := rfl
theorem isNil_gp (b g o : Nat) : isNil (.gp b g o) = some false := rfl
theorem isNil_lp (i o : Nat) : isNil (.lp i o) = some false := rfl
theorem pe_nn : aBin .eql .nilp .nilp .nilp = some (.bool true) := rfl
theorem pe_ip (β : Bool) (cs : List AV) : aBin .eql .nilp (.ip β cs) .nilp = some (.bool false) := rfl
theorem pe_gp (b g o : Nat) : aBin .eql .nilp (.gp b g o) .nilp = some (.bool false) := rfl
theorem pn_nn : aBin .neq .nilp .nilp .nilp = some (.bool false) := rfl
theorem pn_ip (β : Bool) (cs : List AV) : aBin .neq .nilp (.ip β cs) .nilp = some (.bool true) := rfl
theorem pn_gp (b g o : Nat) : aBin .neq .nilp (.gp b g o) .nilp = some (.bool true) := rfl
theorem co_ip (β : Bool) (cs : List AV) : cellsOf (.ip β cs) = some [.ip β cs] := rfl
theorem co_gp (b g o : Nat) : cellsOf (.gp b g o) = some [.gp b g o] := rfl
theorem ic_vs (β : Bool) (sz : Nat) (ex : Bool) (xs : List (List AV)) : isCell (.vs β sz ex xs) = true := rfl
theorem ic_ip (β : Bool) (cs : List AV) : isCell (.ip β cs) = true := rfl
theorem ic_gp (b g o : Nat) : isCell (.gp b g o) = true := rfl
theorem ic_np : isCell .nilp = true := rfl
theorem ic_ns : isCell .nils = true := rfl
end
theorem EF : type_of% (And.intro @ov_0 (And.intro @ov_c (And.intro @ov_s (And.intro @fl_n (And.intro @fl_c (And.intro @fl_k (And.intro @ovk_s (And.intro @p_build (And.intro @bm_n (And.intro @bm_c (And.intro @p_bsl (((((And.intro @p_nilchk (And.intro @chk_f (And.intro @isNil_ip (And.intro @isNil_gp (And.intro @isNil_lp (And.intro @pe_nn (And.intro @pe_ip (And.intro @pe_gp (And.intro @pn_nn (And.intro @pn_ip (And.intro @pn_gp (And.intro @co_ip (And.intro @co_gp (And.intro @ic_vs (And.intro @ic_ip (And.intro @ic_gp (And.intro @ic_np (@ic_ns))))))))))))))))))))))))))))))))) := And.intro @ov_0 (And.intro @ov_c (And.intro @ov_s (And.intro @fl_n (And.intro @fl_c (And.intro @fl_k (And.intro @ovk_s (And.intro @p_build (And.intro @bm_n (And.intro @bm_c (And.intro @p_bsl (((((And.intro @p_nilchk (And.intro @chk_f (And.intro @isNil_ip (And.intro @isNil_gp (And.intro @isNil_lp (And.intro @pe_nn (And.intro @pe_ip (And.intro @pe_gp (And.intro @pn_nn (And.intro @pn_ip (And.intro @pn_gp (And.intro @co_ip (And.intro @co_gp (And.intro @ic_vs (And.intro @ic_ip (And.intro @ic_gp (And.intro @ic_np (@ic_ns))))))))))))))))))))))))))))))))
theorem EZ : type_of% (And.intro EV (And.intro EL (And.intro EB (And.intro EF (And.intro @Bool.false_eq_true (And.intro @Bool.not_true (@Bool.not_false))))))) := And.intro EV (And.intro EL (And.intro EB (And.intro EF (And.intro @Bool.false_eq_true (And.intro @Bool.not_true (@Bool.not_false))))))
end Go.AM
