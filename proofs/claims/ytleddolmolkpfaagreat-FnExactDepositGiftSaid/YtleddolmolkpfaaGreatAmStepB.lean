import Derived.Test.YtleddolmolkpfaaGreatAmStepA
set_option linter.unusedVariables false
set_option linter.unusedSimpArgs false
/-! Each instruction against the model's operation: the one theorem. -/
namespace Go.AM
section
variable {P : Program} {Γ : Glob} {ρ : Inj} {ls : List Nat} {s : St} {a : Act} {w : World} {Θ : Tab}

theorem exec_of {o : Oper} {x : Op} (h : o.op = x) : execOp a.eval o = execOp a.eval { o with op := x } := by subst h; rfl

theorem bi_ok {o : Oper} {c : Call} {b : Builtin} (h : o.op = .call c) (hb : c.callee = .builtin b) {cv : Value} {w' : World}
    (hrun : ∀ cs, (builtin b c.argTypes o.type cs (c.args.map a.eval)).run P w = .ok (.value cv) w') : (execOp a.eval o).run P w = .ok (.value cv) w' := by
  obtain ⟨cs, e⟩ := builtin_run (P := P) (a := a) (w := w) h hb
  rw [e]; exact hrun cs

theorem call_sound (tab : TabOK P Θ) {o : Oper} {c : Call} (ho : o.op = .call c) {i : I} (ht : trCall Θ c = some i) (rel : Rel Γ ρ ls s a w) (gl : Bool) : StepOK P ρ ls s a w o (step Γ gl s i) := by
  unfold trCall at ht
  cases hc : c.callee with
  | value f =>
    simp only [hc, Option.some.injEq] at ht
    subst ht
    simp only [step]
    have rf := eval_sound rel f
    have ra := evals_sound rel c.args.toList
    split
    · rename_i g first caps hf
      rw [hf] at rf
      cases hv : a.eval f <;> rw [hv] at rf <;> cases rf
      rename_i first' caps' h1 r1 h2 r2
      refine ⟨first'.toList ++ c.args.toList.map a.eval ++ caps'.toList, ?_, ?_⟩
      · rw [execOp_call ho]
        simp [resolve, hc, hv, Deferred.ofValue, invoke]
        congr 2
        apply Array.ext'
        simp
      · exact RVs.append (RVs.append ⟨by simpa using h1, fun i x hx => by rw [getD_toList]; exact r1 i x hx⟩ ra) ⟨by simpa using h2, fun i x hx => by rw [getD_toList]; exact r2 i x hx⟩
    · trivial
  | invoke r m => simp [hc] at ht
  | builtin b =>
    simp only [hc] at ht
    split at ht
    · -- len
      rename_i t x h1 h2
      have e1 := list1 h1
      have e2 := list1 h2
      obtain ⟨ti, tf, hti, _⟩ := table tab ht
      have rx := eval_sound rel x
      split at hti
      · rename_i hk
        injection hti with hti
        subst hti
        refine .ofO rel.mem (fun v hv => ?_)
        cases hl : lenK true (s.eval Γ (trX x)) with
        | none => simp [hl] at hv
        | some n =>
          simp [hl] at hv
          subst hv
          obtain ⟨sb, hx, hsz⟩ := lenKt rx hl
          exact ⟨.int .i64 n, bi_ok ho hc (fun cs => by simp [builtin, Builtin.len_, e1, e2, hx, run_underl (tf.kd_str hk), goInt, hsz]), .int _ _ _⟩
      · rename_i e hk
        injection hti with hti
        subst hti
        refine .ofO rel.mem (fun v hv => ?_)
        cases hl : lenK false (s.eval Γ (trX x)) with
        | none => simp [hl] at hv
        | some n =>
          simp [hl] at hv
          subst hv
          obtain ⟨A, cp, hx⟩ := lenKs rx hl
          exact ⟨.int .i64 n, bi_ok ho hc (fun cs => by simp [builtin, Builtin.len_, e1, e2, hx, run_underl (tf.kd_slice hk), goInt]), .int _ _ _⟩
      · rename_i n e hk
        injection hti with hti
        subst hti
        exact .pure rel.mem (bi_ok ho hc (fun cs => by simp [builtin, Builtin.len_, e1, e2, run_underl (tf.kd_arr hk), goInt])) (.int _ _ _)
      · cases hti
    · -- cap
      rename_i t x h1 h2
      have e1 := list1 h1
      have e2 := list1 h2
      obtain ⟨ti, tf, hti, _⟩ := table tab ht
      have rx := eval_sound rel x
      split at hti
      · rename_i e hk
        injection hti with hti
        subst hti
        simp only [step]
        split
        · rename_i hx
          rw [hx] at rx
          cases hv : a.eval x <;> rw [hv] at rx <;> cases rx
          exact .pure rel.mem (bi_ok ho hc (fun cs => by simp [builtin, Builtin.cap_, e1, e2, hv, run_underl (tf.kd_slice hk), goInt])) (.int _ _ _)
        · rename_i b g off len cap sz hx
          rw [hx] at rx
          cases hv : a.eval x <;> rw [hv] at rx <;> cases rx
          · rename_i h1 h2 h3 h4 h5
            exact .pure rel.mem (bi_ok ho hc (fun cs => by simp [builtin, Builtin.cap_, e1, e2, hv, run_underl (tf.kd_slice hk), goInt, h5 rfl])) (.int _ _ _)
          · exact .pure rel.mem (bi_ok ho hc (fun cs => by simp [builtin, Builtin.cap_, e1, e2, hv, run_underl (tf.kd_slice hk), goInt])) (.int _ _ _)
        · trivial
      · cases hti
    · -- append
      rename_i t tx x y h1 h2
      have e1 := list2 h1
      have e2 := list2 h2
      obtain ⟨e, ei, hu, he, ht⟩ := elem_table tab ht
      obtain ⟨yi, yf, ht, _⟩ := table tab ht
      have rx := eval_sound rel x
      have ry := eval_sound rel y
      have key : ∀ str d, P.underlying tx = some d → (∀ k, d ≠ .int k) → StepOK P ρ ls s a w o (step Γ gl s (.app ei.size ei.bytes ei.zero str (trX x) (trX y))) := by
        intro str d hd hk
        simp only [step]
        split
        · rename_i ys n m h3 h4 h5
          rcases AR.ofP_eq (aApp s ei.size ei.bytes (s.eval Γ (trX x)) ys n m) with ⟨v, s', h6, h7⟩ | ⟨_, h7⟩
          · rw [h7]
            obtain ⟨vals, src, rys⟩ := src_ok (P := P) rel.mem ry h3 h4
            obtain ⟨g1, cv, w', ρ', g2, g3, g4, g5⟩ := app_ok (ty := o.type) rel.mem hu he hd hk rx src rys h5 h6
            exact .mk g1 (bi_ok ho hc (fun cs => by simp [builtin, e1, e2, g2])) g3 g4 g5
          · rw [h7]; trivial
        · trivial
      split at ht
      · rename_i hk; injection ht with ht; subst ht; exact key true _ (yf.kd_str hk) (by simp)
      · rename_i e' hk; injection ht with ht; subst ht; exact key false _ (yf.kd_slice hk) (by simp)
      · rename_i k hk; injection ht with ht; subst ht
        simp only [step]
        split
        · rename_i kn n h3 h4
          rw [h3] at rx
          cases hvx : a.eval x <;> rw [hvx] at rx <;> cases rx
          have hvy := int_inv ry h4
          unfold aAppz
          split
          · rename_i hb
            obtain ⟨h0, hsz, hb⟩ := hb
            split
            · rename_i hz
              obtain ⟨m, rfl⟩ := Int.eq_ofNat_of_zero_le (show 0 ≤ n by omega)
              simp only [Int.toNat_natCast] at hb ⊢
              have h0' : 0 < m := by omega
              obtain ⟨N, arr, w', vals, hrun, hN, hasz, nb, ⟨rest, hrest⟩, hv⟩ := appz_run (w := w) (ty := o.type) (kn := kn) hu he (yf.kd_int hk) h0' hsz hb
              have hl2 := (hv ρ []).1
              have hzl : ei.zero.length = ei.size := by
                obtain ⟨z, z1, z2, z3⟩ := he.zero w ρ ls
                have := z2.1; simp at this; omega
              have hlen : (List.replicate m ei.zero).flatten.length = m * ei.size := by simp [hzl]
              have hmul := Nat.mul_le_mul_right ei.size hN
              have hall : (List.replicate m ei.zero).flatten.all noLp = true := by
                rw [List.all_eq_true] at *
                intro x hx
                obtain ⟨l, hl1, hl2⟩ := List.mem_flatten.1 hx
                rw [List.eq_of_mem_replicate hl1] at hl2
                exact hz x hl2
              have hres := rel.mem.newHeap (cs := (List.replicate m ei.zero).flatten) nb (.inl (by simp)) (by omega) (Lies.ofPrefix (hv ρ []) hrest)
              exact .mk rfl (bi_ok ho hc (fun cs => by simp [builtin, e1, e2, hvx, hvy, hrun])) (.gs _ _ _ _ _ _ _ _ _ 0 arr.size N (Inj.ins_self _ _ _ _) (Nat.le_refl _) hN (by simp) (by omega)) hres.1 hres.2
            · trivial
          · trivial
        · trivial
      · cases ht
    · -- clear
      rename_i t x h1 h2
      have e1 := list1 h1
      have e2 := list1 h2
      obtain ⟨e, ei, hu, he, ht⟩ := elem_table' tab ht
      subst ht
      have rx := eval_sound rel x
      obtain ⟨z, hz1, hz2, hz3⟩ := he.zero w ρ ls
      have hzw : ∀ w', (zeroValue e).run P w' = .ok z w' := fun w' => by
        obtain ⟨z', g1, g2, g3⟩ := he.zero w' ρ ls
        obtain ⟨i, d, z0, q1, q2, q3, q4, q5, _⟩ := he.info
        rw [run_zero q1 q5] at hz1
        injection hz1 with hz1
        subst hz1
        exact run_zero q1 q5
      simp only [step, aClr]
      split
      · rename_i hx
        rw [hx] at rx
        cases hv : a.eval x <;> rw [hv] at rx <;> cases rx
        exact ⟨rfl, _, _, w, ρ, ls, bi_ok ho hc (fun cs => by simp [builtin, Builtin.clear_, e1, e2, hv, run_underl hu]; rfl), .inl rfl, undef_RV, rel.mem, .refl _ _ _ _⟩
      · rename_i b g off len cap sz' ex hx
        rw [hx] at rx
        split
        · rename_i h0
          subst h0
          cases hv : a.eval x <;> rw [hv] at rx <;> cases rx
          · exact ⟨rfl, _, _, w, ρ, ls, bi_ok ho hc (fun cs => by simp [builtin, Builtin.clear_, e1, e2, hv, run_underl hu]; rfl), .inl rfl, undef_RV, rel.mem, .refl _ _ _ _⟩
          · exact ⟨rfl, _, _, w, ρ, ls, bi_ok ho hc (fun cs => by simp [builtin, Builtin.clear_, e1, e2, hv, run_underl hu]; rfl), .inl rfl, undef_RV, rel.mem, .refl _ _ _ _⟩
        · rename_i h0
          split
          · cases hs : s.store (.gp b g off) (List.replicate len ei.zero).flatten with
            | none => trivial
            | some s' =>
              simp only [AR.ofS]
              cases hv : a.eval x <;> rw [hv] at rx <;> cases rx
              · rename_i cap' c o' n h1 h2 h3 h4 h5
                obtain ⟨c', o'', w', g1, g2, g3, g4, g5⟩ := store_mem (P := P) rel.mem (RV.gp ls b g off c o' n h1) (hz2.replicate len) hs
                injection g1 with g1
                injection g1 with g1
                injection g1 with g1 g1'
                subst g1 g1'
                refine ⟨g3, _, _, w', ρ, ls, bi_ok ho hc (fun cs => ?_), .inl rfl, undef_RV, g4, g5⟩
                have hcells : (Builtin.zeroCells z.cells len).toList = (List.replicate len z.cells.toList).flatten := by
                  unfold Builtin.zeroCells
                  exact rows_eq len z.cells z.cells.size rfl (fun h => by
                    rcases Nat.mul_eq_zero.1 h with h | h
                    · exact .inl h
                    · exact .inr h)
                have hlen0 : len ≠ 0 := h0
                cases len with
                | zero => exact absurd rfl hlen0
                | succ len => simp [builtin, Builtin.clear_, e1, e2, hv, run_underl hu, hzw, hcells, g2]; rfl
              · exact absurd rfl h0
          · trivial
      · rename_i β sz' ex hx
        rw [hx] at rx
        cases hv : a.eval x <;> rw [hv] at rx <;> cases rx
        · exact ⟨rfl, _, _, w, ρ, ls, bi_ok ho hc (fun cs => by simp [builtin, Builtin.clear_, e1, e2, hv, run_underl hu]; rfl), .inl rfl, undef_RV, rel.mem, .refl _ _ _ _⟩
        · exact ⟨rfl, _, _, w, ρ, ls, bi_ok ho hc (fun cs => by simp [builtin, Builtin.clear_, e1, e2, hv, run_underl hu]; rfl), .inl rfl, undef_RV, rel.mem, .refl _ _ _ _⟩
        · exact ⟨rfl, _, _, w, ρ, ls, bi_ok ho hc (fun cs => by simp [builtin, Builtin.clear_, e1, e2, hv, run_underl hu]; rfl), .inl rfl, undef_RV, rel.mem, .refl _ _ _ _⟩
      · trivial
    · -- max
      injection ht with ht
      subst ht
      simp only [step]
      refine .ofO rel.mem (fun v hv => ?_)
      have ra := evals_sound rel c.args.toList
      unfold aMM at hv
      split at hv
      · rename_i k x k' y hxs
        split at hv
        · rename_i hk
          injection hv with hv
          subst hv hk
          rw [hxs] at ra
          have r0 := ra.2 0 _ rfl
          have r1 := ra.2 1 _ rfl
          have hl := ra.1
          cases hc' : c.args.toList.map a.eval with
          | nil => simp [hc'] at hl
          | cons u us =>
            cases us with
            | nil => simp [hc'] at hl
            | cons u' us =>
              cases us with
              | cons _ _ => simp [hc'] at hl
              | nil =>
                rw [hc'] at r0 r1
                have r0 : RV ρ ls (.int k x) u := r0
                have r1 : RV ρ ls (.int k y) u' := r1
                cases r0
                cases r1
                refine ⟨_, bi_ok ho hc (fun cs => ?_), .int _ _ _⟩
                simp [builtin, Builtin.max_, hc', Builtin.max2]
        · cases hv
      · cases hv
    · -- min
      injection ht with ht
      subst ht
      simp only [step]
      refine .ofO rel.mem (fun v hv => ?_)
      have ra := evals_sound rel c.args.toList
      unfold aMM at hv
      split at hv
      · rename_i k x k' y hxs
        split at hv
        · rename_i hk
          injection hv with hv
          subst hv hk
          rw [hxs] at ra
          have r0 := ra.2 0 _ rfl
          have r1 := ra.2 1 _ rfl
          have hl := ra.1
          cases hc' : c.args.toList.map a.eval with
          | nil => simp [hc'] at hl
          | cons u us =>
            cases us with
            | nil => simp [hc'] at hl
            | cons u' us =>
              cases us with
              | cons _ _ => simp [hc'] at hl
              | nil =>
                rw [hc'] at r0 r1
                have r0 : RV ρ ls (.int k x) u := r0
                have r1 : RV ρ ls (.int k y) u' := r1
                cases r0
                cases r1
                refine ⟨_, bi_ok ho hc (fun cs => ?_), .int _ _ _⟩
                simp [builtin, Builtin.min_, hc', Builtin.min2]
        · cases hv
      · cases hv
    · cases ht

end
end Go.AM
