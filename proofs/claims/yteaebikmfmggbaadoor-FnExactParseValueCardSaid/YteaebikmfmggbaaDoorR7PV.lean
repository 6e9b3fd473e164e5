import Derived.Test.YteaebikmfmggbaaDoorR7DP
import Derived.Test.YteaebikmfmggbaaDoorAmLaws2
set_option linter.unusedVariables false
set_option linter.unusedSimpArgs false
namespace Go.Proofs.YteaebikmfmggbaaDoor
open Go.AM
set_option linter.unusedVariables false
set_option linter.unusedSimpArgs false
variable {Γ : Glob}
theorem kaa_T (h : AH) : T Tryd.prog Γ Fn.kaa [] h fun v h' => v = .agg ((DValue.mk 2 0).c false) ∧ h' = h := by
  refine kaa_e (aw_sound tabOK mixed [] _ _ _ ?_)
  unfold kaa_c
  simp only [EZ, q_bx, if_true, if_false, Nat.reduceAdd, Option.bind_some, Nat.reduceBEq, kaa_r, DValue.c]
  first | exact ⟨rfl, rfl⟩ | exact rfl
theorem kaj_T (h : AH) : T Tryd.prog Γ Fn.kaj [] h fun v h' => v = .agg ((DValue.mk 2 0).c false) ∧ h' = h := by
  refine kaj_e (aw_sound tabOK mixed [] _ _ _ ?_)
  unfold kaj_c
  simp only [EZ, q_bx, if_true, if_false, Nat.reduceAdd, Option.bind_some, Nat.reduceBEq, kaj_r, DValue.c]
  first | exact ⟨rfl, rfl⟩ | exact rfl
theorem kaf_T (n : Int) (h : AH) : T Tryd.prog Γ Fn.kaf [.int .i64 n] h fun v h' => v = .agg ((DValue.mk 1 n).c false) ∧ h' = h := by
  refine kaf_e (aw_sound tabOK mixed [] _ _ _ ?_)
  unfold kaf_c
  simp only [EZ, q_bx, if_true, if_false, Nat.reduceAdd, Option.bind_some, Nat.reduceBEq, kaf_r, DValue.c]
  first | exact ⟨rfl, rfl⟩ | exact rfl
theorem kag_T (n lo hi : Int) (h : AH) : T Tryd.prog Γ Fn.kag [.int .i64 n, .int .i64 lo, .int .i64 hi] h fun v h' => v = .bool (inR n lo hi) ∧ h' = h := by
  refine kag_e (aw_sound tabOK mixed [] _ _ _ ?_)
  unfold kag_c
  simp only [EZ, q_bx, if_true, if_false, Nat.reduceAdd, Option.bind_some, Nat.reduceBEq, kag_r]
  refine k_split (fun h1 => ?_) (fun h1 => ?_) <;> simp only [EZ, q_bx, if_true, if_false, Nat.reduceAdd, Option.bind_some, Nat.reduceBEq, kag_r, h1]
  · exact ⟨rfl, by simp only [inR, h1, Bool.true_and]⟩
  · exact ⟨rfl, by simp only [inR, h1, Bool.false_and]⟩
theorem b_remM (n : Int) : aBin .rem .num (.int .i64 n) (.int .i64 1000000) = some (.int .i64 (n.tmod 1000000)) := rfl
theorem kac_T (n : Nat) (hn : n < 1000000) (h : AH) : T Tryd.prog Γ Fn.kac [.int .i64 n, .int .i64 1000000] h fun v h' => v = .int .i64 n ∧ h' = h := by
  refine kac_e (aw_sound tabOK mixed [] _ _ _ ?_)
  unfold kac_c
  simp only [EZ, q_bx, if_true, if_false, Nat.reduceAdd, Option.bind_some, Nat.reduceBEq, kac_r]
  refine TCall.val (by simp only [EO]) (kag_T _ _ _ _) ?_
  rw [show inR 1000000 1 1000000000000 = true by decide]
  have e1 : (n : Int).tmod 1000000 = n := Int.tmod_eq_of_lt (by omega) (by omega)
  have w1 : IntKind.i64.wrap ((n : Int) + 1000000) = ((n + 1000000 : Nat) : Int) := by rw [wrap_nat (by omega) (by omega)]; omega
  have e2 : ((n + 1000000 : Nat) : Int).tmod 1000000 = n := by
    rw [Int.tmod_eq_emod_of_nonneg (by omega)]; omega
  simp only [EZ, q_bx, if_true, if_false, Nat.reduceAdd, Option.bind_some, Nat.reduceBEq, kac_r, b_remM, e1, w1, e2]
  first | exact ⟨rfl, rfl⟩ | exact rfl
theorem kab_T (n : Nat) (hn : n < 1000000) (h : AH) : T Tryd.prog Γ Fn.kab [.int .i64 n] h fun v h' => v = .agg ((DValue.mk 0 n).c false) ∧ h' = h := by
  refine kab_e (aw_sound tabOK mixed [] _ _ _ ?_)
  unfold kab_c
  simp only [EZ, q_bx, if_true, if_false, Nat.reduceAdd, Option.bind_some, Nat.reduceBEq, kab_r, DValue.c]
  refine TCall.val (by simp only [EO]) (kac_T n hn _) ?_
  simp only [EZ, q_bx, if_true, if_false, Nat.reduceAdd, Option.bind_some, Nat.reduceBEq, kab_r, DValue.c]
  first | exact ⟨rfl, rfl⟩ | exact rfl
open Classical in
noncomputable def pvF (l : List UInt8) : DValue × Bool :=
  if l = [33] then (⟨2, 0⟩, true)
  else match parseF ⟨(if l.head? = some 64 then l.tail else l).toArray⟩ with
    | some n => if n ≤ 999999 then (⟨if l.head? = some 64 then 1 else 0, n⟩, true) else (⟨0, 0⟩, false)
    | none => (⟨0, 0⟩, false)
noncomputable def pvV (l : List UInt8) : AV := .tup [.agg ((pvF l).1.c false), .bool (pvF l).2]
theorem str_eq33 (l : List UInt8) : ((⟨l.toArray⟩ : ByteArray).toList == (⟨#[33]⟩ : ByteArray).toList) = decide (l = [33]) := by
  rw [str_beq]
  congr 1
  apply propext
  constructor
  · intro h
    have := congrArg (fun b : ByteArray => b.data.toList) h
    simpa using this
  · rintro rfl; rfl
theorem cut_at (l : List UInt8) : (Lib.trimPrefix l [64] = if l.head? = some 64 then l.tail else l) ∧ Lib.hasPrefix l [64] = decide (l.head? = some 64) := by
  cases l with
  | nil => simp [Lib.trimPrefix, Lib.hasPrefix]
  | cons c r =>
    by_cases h : c = 64
    · subst h; simp [Lib.trimPrefix, Lib.hasPrefix]
    · have h' : (64 : UInt8) ≠ c := fun e => h e.symm
      have hb : ((64 : UInt8) == c) = false := beq_eq_false_iff_ne.2 h'
      simp [Lib.trimPrefix, Lib.hasPrefix, List.isPrefixOf, h, hb]
theorem kae_T (hΓ : GAtoi Γ) (l : List UInt8) (hl : l.length ≤ 1048576) (h : AH) : T Tryd.prog Γ Fn.kae [.str ⟨l.toArray⟩] h fun v h' => v = pvV l ∧ h' = h := by
  refine kae_e (aw_sound tabOK mixed [] _ _ _ ?_)
  unfold kae_c
  simp only [EZ, q_bx, if_true, if_false, Nat.reduceAdd, Option.bind_some, Nat.reduceBEq, kae_r, ER, DValue.c, str_eq33]
  by_cases h33 : l = [33]
  · simp only [EZ, q_bx, if_true, if_false, Nat.reduceAdd, Option.bind_some, Nat.reduceBEq, kae_r, ER, DValue.c, decide_eq_true h33]
    refine TCall.val (by simp only [EO]) (kaa_T _) ?_
    simp only [EZ, q_bx, if_true, if_false, Nat.reduceAdd, Option.bind_some, Nat.reduceBEq, kae_r, ER, DValue.c]
    rw [pvV, pvF, if_pos h33]
    first | exact ⟨rfl, rfl⟩ | exact rfl
  simp only [EZ, q_bx, if_true, if_false, Nat.reduceAdd, Option.bind_some, Nat.reduceBEq, kae_r, ER, DValue.c, decide_eq_false h33]
  refine TCall.val (by simp only [EO]) (cutPrefix_T lay103 c103 _ _ _) ?_
  rw [show (⟨#[64]⟩ : ByteArray).data.toList = [64] from rfl, show (⟨l.toArray⟩ : ByteArray).data.toList = l by simp, (cut_at l).1, (cut_at l).2]
  obtain ⟨t, ht⟩ : ∃ t, t = (if l.head? = some 64 then l.tail else l) := ⟨_, rfl⟩
  have htl : t.length ≤ l.length := by rw [ht]; split <;> simp
  rw [← ht]
  have hp : pvF l = match parseF ⟨t.toArray⟩ with | some n => if n ≤ 999999 then (⟨if l.head? = some 64 then 1 else 0, n⟩, true) else (⟨0, 0⟩, false) | none => (⟨0, 0⟩, false) := by rw [pvF, if_neg h33, ← ht]
  simp only [EZ, q_bx, if_true, if_false, Nat.reduceAdd, Option.bind_some, Nat.reduceBEq, kae_r, ER, DValue.c]
  refine TCall.val (by simp only [EO]) (kad_T hΓ _ (by rw [str_size]; omega) _) ?_
  rw [piV]
  cases e : parseF ⟨t.toArray⟩ with
  | none =>
    rw [show pvV l = .tup [.agg ((DValue.mk 0 0).c false), .bool false] by rw [pvV, hp, e]]
    simp only [EZ, q_bx, if_true, if_false, Nat.reduceAdd, Option.bind_some, Nat.reduceBEq, kae_r, ER, DValue.c, Option.isSome_none, Option.getD_none]
    first | exact ⟨rfl, rfl⟩ | exact rfl
  | some n =>
    by_cases hn : n ≤ 999999
    · have hn' : ¬ ((n : Int) > 999999) := by omega
      by_cases hr : l.head? = some 64
      · rw [show pvV l = .tup [.agg ((DValue.mk 1 n).c false), .bool true] by rw [pvV, hp, e]; simp [hn, hr]]
        simp only [EZ, q_bx, if_true, if_false, Nat.reduceAdd, Option.bind_some, Nat.reduceBEq, kae_r, ER, DValue.c, Option.isSome_some, Option.getD_some, decide_eq_false hn', decide_eq_true hr]
        refine TCall.val (by simp only [EO]) (kaf_T _ _) ?_
        simp only [EZ, q_bx, if_true, if_false, Nat.reduceAdd, Option.bind_some, Nat.reduceBEq, kae_r, ER, DValue.c]
        first | exact ⟨rfl, rfl⟩ | exact rfl
      · rw [show pvV l = .tup [.agg ((DValue.mk 0 n).c false), .bool true] by rw [pvV, hp, e]; simp [hn, hr]]
        simp only [EZ, q_bx, if_true, if_false, Nat.reduceAdd, Option.bind_some, Nat.reduceBEq, kae_r, ER, DValue.c, Option.isSome_some, Option.getD_some, decide_eq_false hn', decide_eq_false hr]
        refine TCall.val (by simp only [EO]) (kab_T n (by omega) _) ?_
        simp only [EZ, q_bx, if_true, if_false, Nat.reduceAdd, Option.bind_some, Nat.reduceBEq, kae_r, ER, DValue.c]
        first | exact ⟨rfl, rfl⟩ | exact rfl
    · rw [show pvV l = .tup [.agg ((DValue.mk 0 0).c false), .bool false] by rw [pvV, hp, e]; simp [hn]]
      have hn' : (n : Int) > 999999 := by omega
      simp only [EZ, q_bx, if_true, if_false, Nat.reduceAdd, Option.bind_some, Nat.reduceBEq, kae_r, ER, DValue.c, Option.isSome_some, Option.getD_some, decide_eq_true hn']
      first | exact ⟨rfl, rfl⟩ | exact rfl
theorem idx0 (s : St) (c : UInt8) (r : List UInt8) : idxstrK s (.str ⟨(c :: r).toArray⟩) (.int .i64 0) = .val (.int .u8 (c.toNat : Int)) s := by
  have := idxstr_at s (v := ⟨(c :: r).toArray⟩) (k := 0) (by rw [str_size]; simp)
  rw [byteAt_mk _ _ (by simp)] at this
  simpa using this
theorem cut1 (s : St) (c : UInt8) (r : List UInt8) : cutFrom .str s (.str ⟨(c :: r).toArray⟩) (.int .i64 1) = .val (.str ⟨r.toArray⟩) s := by
  have h1 : 1 ≤ (⟨(c :: r).toArray⟩ : ByteArray).size := by rw [str_size]; simp
  have e : (⟨(c :: r).toArray⟩ : ByteArray).extract 1 (⟨(c :: r).toArray⟩ : ByteArray).size = ⟨r.toArray⟩ := by
    apply ByteArray.ext
    simp [ByteArray.data_extract, str_size]
  simp [cutFrom, bndV, asI, aSlice, h1, e, AR.ofO]
theorem parse_at (c : UInt8) (h : c = 64) : piV ⟨[c].toArray⟩ = .tup [.int .i64 0, .bool false] := piV_none (fun n hn e => by
  have e := itoa_digits e
  obtain ⟨d, r, e2, h1, h2⟩ := decDigits_cons n
  rw [e2] at e
  injection e with e3 e4
  subst e3; subst h
  simp at h2)
theorem parse_nil : parseF ⟨([] : List UInt8).toArray⟩ = none := parseF_none (fun n hn e => by
  have e := itoa_digits e
  obtain ⟨d, r, e2, h1, h2⟩ := decDigits_cons n
  rw [e2] at e; cases e)
theorem kam_T (l : List UInt8) (h : AH) : T Tryd.prog Γ Fn.kam [.str ⟨l.toArray⟩] h fun v h' => v = pvV l ∧ h' = h := by
  have LS : ∀ l : List UInt8, lenI true (.str ⟨l.toArray⟩) = some (.int .i64 l.length) := fun l => by rw [lenI_str, str_size]
  refine kam_e (aw_sound tabOK mixed [] _ _ _ ?_)
  unfold kam_c
  simp only [EZ, q_bx, if_true, if_false, Nat.reduceAdd, Option.bind_some, Nat.reduceBEq, kam_r, ER, DValue.c, str_eq33]
  by_cases h33 : l = [33]
  · simp only [EZ, q_bx, if_true, if_false, Nat.reduceAdd, Option.bind_some, Nat.reduceBEq, kam_r, ER, DValue.c, decide_eq_true h33]
    refine TCall.val (by simp only [EO]) (kaj_T _) ?_
    simp only [EZ, q_bx, if_true, if_false, Nat.reduceAdd, Option.bind_some, Nat.reduceBEq, kam_r, ER, DValue.c]
    rw [pvV, pvF, if_pos h33]
    first | exact ⟨rfl, rfl⟩ | exact rfl
  obtain ⟨t, ht⟩ : ∃ t, t = (if l.head? = some 64 then l.tail else l) := ⟨_, rfl⟩
  have hp : pvF l = match parseF ⟨t.toArray⟩ with | some n => if n ≤ 999999 then (⟨if l.head? = some 64 then 1 else 0, n⟩, true) else (⟨0, 0⟩, false) | none => (⟨0, 0⟩, false) := by rw [pvF, if_neg h33, ← ht]
  have nat_beq : ∀ c : UInt8, ((c.toNat : Int) == 64) = decide (c = 64) := fun c => by
    rw [beq_dec]; congr 1; apply propext
    constructor
    · intro h; exact UInt8.toNat_inj.1 (by simpa using (by omega : c.toNat = 64))
    · rintro rfl; rfl
  rcases l with _ | ⟨c, _ | ⟨d, r⟩⟩
  · skip
    obtain rfl : t = [] := by simpa using ht
    simp only [EZ, q_bx, if_true, if_false, Nat.reduceAdd, Option.bind_some, Nat.reduceBEq, kam_r, ER, DValue.c, decide_eq_false h33, show lenI true (.str ⟨([] : List UInt8).toArray⟩) = some (.int .i64 0) from rfl, show decide ((0 : Int) > 1) = false from rfl]
    refine TCall.val (by simp only [EO]) (kal_T _ _) ?_
    rw [show pvV [] = .tup [.agg ((DValue.mk 0 0).c false), .bool false] by rw [pvV, hp, parse_nil], piV, parse_nil]
    simp only [EZ, q_bx, if_true, if_false, Nat.reduceAdd, Option.bind_some, Nat.reduceBEq, kam_r, ER, DValue.c, Option.isSome_none, Option.getD_none]
    first | exact ⟨rfl, rfl⟩ | exact rfl
  · skip
    simp only [EZ, q_bx, if_true, if_false, Nat.reduceAdd, Option.bind_some, Nat.reduceBEq, kam_r, ER, DValue.c, decide_eq_false h33, show lenI true (.str ⟨[c].toArray⟩) = some (.int .i64 1) from rfl, show decide ((1 : Int) > 1) = false from rfl]
    refine TCall.val (by simp only [EO]) (kal_T _ _) ?_
    by_cases hc : c = 64
    · rw [parse_at c hc]
      obtain rfl : t = [] := by simpa [hc] using ht
      rw [show pvV [c] = .tup [.agg ((DValue.mk 0 0).c false), .bool false] by rw [pvV, hp, parse_nil]]
      simp only [EZ, q_bx, if_true, if_false, Nat.reduceAdd, Option.bind_some, Nat.reduceBEq, kam_r, ER, DValue.c]
      first | exact ⟨rfl, rfl⟩ | exact rfl
    · obtain rfl : t = [c] := by simpa [hc] using ht
      have hr : ¬ ([c].head? = some 64) := by simpa using hc
      rw [piV]
      cases e : parseF ⟨[c].toArray⟩ with
      | none =>
        rw [show pvV [c] = .tup [.agg ((DValue.mk 0 0).c false), .bool false] by rw [pvV, hp, e]]
        simp only [EZ, q_bx, if_true, if_false, Nat.reduceAdd, Option.bind_some, Nat.reduceBEq, kam_r, ER, DValue.c, Option.isSome_none, Option.getD_none]
        first | exact ⟨rfl, rfl⟩ | exact rfl
      | some n =>
        by_cases hn : n ≤ 999999
        · have hn' : ¬ ((n : Int) > 999999) := by omega
          rw [show pvV [c] = .tup [.agg ((DValue.mk 0 n).c false), .bool true] by rw [pvV, hp, e]; simp [hn, hc]]
          simp only [EZ, q_bx, if_true, if_false, Nat.reduceAdd, Option.bind_some, Nat.reduceBEq, kam_r, ER, DValue.c, Option.isSome_some, Option.getD_some, decide_eq_false hn']
          first | exact ⟨rfl, rfl⟩ | exact rfl
        · rw [show pvV [c] = .tup [.agg ((DValue.mk 0 0).c false), .bool false] by rw [pvV, hp, e]; simp [hn]]
          have hn' : (n : Int) > 999999 := by omega
          simp only [EZ, q_bx, if_true, if_false, Nat.reduceAdd, Option.bind_some, Nat.reduceBEq, kam_r, ER, DValue.c, Option.isSome_some, Option.getD_some, decide_eq_true hn']
          first | exact ⟨rfl, rfl⟩ | exact rfl
  · skip
    have h2 : ((c :: d :: r).length : Int) > 1 := by simp; omega
    by_cases hc : c = 64
    · obtain rfl : t = d :: r := by simpa [hc] using ht
      simp only [EZ, q_bx, if_true, if_false, Nat.reduceAdd, Option.bind_some, Nat.reduceBEq, kam_r, ER, DValue.c, decide_eq_false h33, LS, decide_eq_true h2, p_idxstr, idx0, nat_beq, decide_eq_true hc, p_cutFrom, cut1]
      refine TCall.val (by simp only [EO]) (kal_T _ _) ?_
      rw [piV]
      cases e : parseF ⟨(d :: r).toArray⟩ with
      | none =>
        rw [show pvV (c :: d :: r) = .tup [.agg ((DValue.mk 0 0).c false), .bool false] by rw [pvV, hp, e]]
        simp only [EZ, q_bx, if_true, if_false, Nat.reduceAdd, Option.bind_some, Nat.reduceBEq, kam_r, ER, DValue.c, Option.isSome_none, Option.getD_none]
        first | exact ⟨rfl, rfl⟩ | exact rfl
      | some n =>
        by_cases hn : n ≤ 999999
        · have hn' : ¬ ((n : Int) > 999999) := by omega
          rw [show pvV (c :: d :: r) = .tup [.agg ((DValue.mk 1 n).c false), .bool true] by rw [pvV, hp, e]; simp [hn, hc]]
          simp only [EZ, q_bx, if_true, if_false, Nat.reduceAdd, Option.bind_some, Nat.reduceBEq, kam_r, ER, DValue.c, Option.isSome_some, Option.getD_some, decide_eq_false hn']
          first | exact ⟨rfl, rfl⟩ | exact rfl
        · rw [show pvV (c :: d :: r) = .tup [.agg ((DValue.mk 0 0).c false), .bool false] by rw [pvV, hp, e]; simp [hn]]
          have hn' : (n : Int) > 999999 := by omega
          simp only [EZ, q_bx, if_true, if_false, Nat.reduceAdd, Option.bind_some, Nat.reduceBEq, kam_r, ER, DValue.c, Option.isSome_some, Option.getD_some, decide_eq_true hn']
          first | exact ⟨rfl, rfl⟩ | exact rfl
    · obtain rfl : t = c :: d :: r := by simpa [hc] using ht
      simp only [EZ, q_bx, if_true, if_false, Nat.reduceAdd, Option.bind_some, Nat.reduceBEq, kam_r, ER, DValue.c, decide_eq_false h33, LS, decide_eq_true h2, p_idxstr, idx0, nat_beq, decide_eq_false hc]
      refine TCall.val (by simp only [EO]) (kal_T _ _) ?_
      rw [piV]
      cases e : parseF ⟨(c :: d :: r).toArray⟩ with
      | none =>
        rw [show pvV (c :: d :: r) = .tup [.agg ((DValue.mk 0 0).c false), .bool false] by rw [pvV, hp, e]]
        simp only [EZ, q_bx, if_true, if_false, Nat.reduceAdd, Option.bind_some, Nat.reduceBEq, kam_r, ER, DValue.c, Option.isSome_none, Option.getD_none]
        first | exact ⟨rfl, rfl⟩ | exact rfl
      | some n =>
        by_cases hn : n ≤ 999999
        · have hn' : ¬ ((n : Int) > 999999) := by omega
          rw [show pvV (c :: d :: r) = .tup [.agg ((DValue.mk 0 n).c false), .bool true] by rw [pvV, hp, e]; simp [hn, hc]]
          simp only [EZ, q_bx, if_true, if_false, Nat.reduceAdd, Option.bind_some, Nat.reduceBEq, kam_r, ER, DValue.c, Option.isSome_some, Option.getD_some, decide_eq_false hn']
          first | exact ⟨rfl, rfl⟩ | exact rfl
        · rw [show pvV (c :: d :: r) = .tup [.agg ((DValue.mk 0 0).c false), .bool false] by rw [pvV, hp, e]; simp [hn]]
          have hn' : (n : Int) > 999999 := by omega
          simp only [EZ, q_bx, if_true, if_false, Nat.reduceAdd, Option.bind_some, Nat.reduceBEq, kam_r, ER, DValue.c, Option.isSome_some, Option.getD_some, decide_eq_true hn']
          first | exact ⟨rfl, rfl⟩ | exact rfl
theorem kai_T (β β' : Bool) (a b : DValue) (h : AH) : T Tryd.prog Γ Fn.kai [.agg (a.c β), .agg (b.c β')] h fun v h' => v = .bool (decide (a = b)) ∧ h' = h := by
  refine kai_e (aw_sound tabOK mixed [] _ _ _ ?_)
  unfold kai_c
  simp only [EZ, q_bx, if_true, if_false, Nat.reduceAdd, Option.bind_some, Nat.reduceBEq, kai_r, DValue.c, ne_int, beq_dec]
  by_cases h1 : a.kind = b.kind
  rotate_left
  · simp only [EZ, q_bx, if_true, if_false, Nat.reduceAdd, Option.bind_some, Nat.reduceBEq, kai_r, DValue.c, ne_int, beq_dec, decide_eq_false h1]
    rw [decide_eq_false (fun e => h1 (by rw [e]))]
    first | exact ⟨rfl, rfl⟩ | exact rfl
  simp only [EZ, q_bx, if_true, if_false, Nat.reduceAdd, Option.bind_some, Nat.reduceBEq, kai_r, DValue.c, ne_int, beq_dec, decide_eq_true h1]
  by_cases h2 : a.n = b.n
  rotate_left
  · simp only [EZ, q_bx, if_true, if_false, Nat.reduceAdd, Option.bind_some, Nat.reduceBEq, kai_r, DValue.c, ne_int, beq_dec, decide_eq_false h2]
    rw [decide_eq_false (fun e => h2 (by rw [e]))]
    first | exact ⟨rfl, rfl⟩ | exact rfl
  simp only [EZ, q_bx, if_true, if_false, Nat.reduceAdd, Option.bind_some, Nat.reduceBEq, kai_r, DValue.c, ne_int, beq_dec, decide_eq_true h2]
  rw [decide_eq_true (by cases a; cases b; simp_all)]
  first | exact ⟨rfl, rfl⟩ | exact rfl
theorem law_ParseValue (hΓ : GAtoi Γ) (s : ByteArray) (h : AH) : T Tryd.prog Γ Fn.kah [.str s] h fun v h' => v = .bool true ∧ h' = h := by
  obtain ⟨l, rfl⟩ : ∃ l : List UInt8, s = ⟨l.toArray⟩ := ⟨s.data.toList, by simp⟩
  have LS : lenI true (.str ⟨l.toArray⟩) = some (.int .i64 l.length) := by rw [lenI_str, str_size]
  refine kah_e (aw_sound tabOK mixed [] _ _ _ ?_)
  unfold kah_c
  simp only [EZ, q_bx, if_true, if_false, Nat.reduceAdd, Option.bind_some, Nat.reduceBEq, kah_r, ER, LS]
  by_cases hb : (l.length : Int) > 1048576
  · simp only [EZ, q_bx, if_true, if_false, Nat.reduceAdd, Option.bind_some, Nat.reduceBEq, kah_r, ER, LS, decide_eq_true hb]
    first | exact ⟨rfl, rfl⟩ | exact rfl
  simp only [EZ, q_bx, if_true, if_false, Nat.reduceAdd, Option.bind_some, Nat.reduceBEq, kah_r, ER, LS, decide_eq_false hb]
  refine TCall.val (by simp only [EO]) (kam_T l _) ?_
  rw [pvV]
  simp only [EZ, q_bx, if_true, if_false, Nat.reduceAdd, Option.bind_some, Nat.reduceBEq, kah_r, ER, LS, DValue.c]
  refine TCall.val (by simp only [EO]) (kae_T hΓ l (by omega) _) ?_
  rw [pvV]
  simp only [EZ, q_bx, if_true, if_false, Nat.reduceAdd, Option.bind_some, Nat.reduceBEq, kah_r, ER, LS, DValue.c]
  refine TCall.val (by simp only [EO]) (kai_T false false (pvF l).1 (pvF l).1 _) ?_
  simp only [EZ, q_bx, if_true, if_false, Nat.reduceAdd, Option.bind_some, Nat.reduceBEq, kah_r, ER, LS, DValue.c, decide_true, beq_self_eq_true]
  first | exact ⟨rfl, rfl⟩ | exact rfl
end Go.Proofs.YteaebikmfmggbaaDoor
