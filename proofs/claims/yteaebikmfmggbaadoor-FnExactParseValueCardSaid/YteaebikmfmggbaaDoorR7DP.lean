import Derived.Test.YteaebikmfmggbaaDoorR7DN
import Derived.Test.YteaebikmfmggbaaDoorAmMore1
import Derived.Lib.Atoi
set_option linter.unusedVariables false
set_option linter.unusedSimpArgs false
namespace Go.Proofs.YteaebikmfmggbaaDoor
open Go.AM
set_option linter.unusedVariables false
set_option linter.unusedSimpArgs false
variable {Γ : Glob}
noncomputable def piV (s : ByteArray) : AV := .tup [.int .i64 (((parseF s).getD 0 : Nat) : Int), .bool (parseF s).isSome]
theorem piV_some {n : Nat} (h : n ≤ 1000000000000) : piV (itoaB n) = .tup [.int .i64 n, .bool true] := by rw [piV, parseF_itoa h]; rfl
theorem piV_none {s : ByteArray} (h : ∀ n : Nat, n ≤ 1000000000000 → s ≠ itoaB n) : piV s = .tup [.int .i64 0, .bool false] := by rw [piV, parseF_none h]; rfl
structure GAtoi (Γ : Glob) : Prop where
  itoa : GItoa Γ
  e1 : ∃ t p, Γ (lay172_ren.g 15) = some [.opq (.iface t p)]
  e2 : ∃ t p, Γ (lay172_ren.g 16) = some [.opq (.iface t p)]
theorem kao_T (hΓ : GAtoi Γ) (s : ByteArray) (hs : s.size ≤ 1048576) (h : AH) :
    T Tryd.prog Γ Fn.kao [.str s] h fun v h' => (∃ x e, v = .tup [.int .i64 x, .opq e] ∧ AtoiR s.data.toList x e) ∧ h' = h := by
  obtain ⟨t1, p1, h1⟩ := hΓ.e1
  obtain ⟨t2, p2, h2⟩ := hΓ.e2
  exact atoi_T lay172 c172 h1 h2 s (by omega) h
theorem ifc_ne (t : TypeId) (p : Value) : aBin .neq .iface (.opq (.iface t p)) (.opq .nilIface) = some (.bool true) := rfl
theorem ifc_nn : aBin .neq .iface (.opq .nilIface) (.opq .nilIface) = some (.bool false) := rfl
theorem kad_T (hΓ : GAtoi Γ) (s : ByteArray) (hs : s.size ≤ 1048576) (h : AH) : T Tryd.prog Γ Fn.kad [.str s] h fun v h' => v = piV s ∧ h' = h := by
  refine kad_e (aw_sound tabOK mixed [] _ _ _ ?_)
  unfold kad_c
  simp only [EZ, q_bx, if_true, if_false, Nat.reduceAdd, Option.bind_some, Nat.reduceBEq, kad_r]
  refine TCall.ref (by simp only [EO]) (kao_T hΓ s hs _) ?_
  rintro _ _ ⟨⟨x, e, rfl, ha⟩, rfl⟩
  unfold AtoiR at ha
  split at ha
  rotate_left
  · rename_i hno
    obtain ⟨t, p, rfl⟩ := ha
    simp only [EZ, q_bx, if_true, if_false, Nat.reduceAdd, Option.bind_some, Nat.reduceBEq, kad_r, ER, ifc_ne]
    rw [piV_none (fun n hn e => hno n (by rw [e]; exact atoi_itoa hn))]
    first | exact ⟨rfl, rfl⟩ | exact rfl
  · rename_i n hn
    obtain ⟨rfl, rfl⟩ := ha
    have hb := Lib.atoiAll_bounds hn
    have key : ∀ m : Nat, m ≤ 1000000000000 → s = itoaB m → x = (m : Int) := fun m hm e => by
      rw [e, atoi_itoa hm] at hn
      injection hn with hn; exact hn.symm
    have no : ∀ m : Nat, m ≤ 1000000000000 → ¬ (0 ≤ x ∧ x ≤ 1000000000000 ∧ itoaB x = s) → s ≠ itoaB m := fun m hm hx e => by
      have := key m hm e
      subst this
      exact hx ⟨by omega, by omega, e.symm⟩
    simp only [EZ, q_bx, if_true, if_false, Nat.reduceAdd, Option.bind_some, Nat.reduceBEq, kad_r, ER, ifc_nn]
    by_cases h0 : x < 0
    · simp only [EZ, q_bx, if_true, if_false, Nat.reduceAdd, Option.bind_some, Nat.reduceBEq, kad_r, ER, ifc_nn, decide_eq_true h0]
      rw [piV_none (fun m hm => no m hm (fun h => by omega))]
      first | exact ⟨rfl, rfl⟩ | exact rfl
    by_cases h1 : x > 1000000000000
    · simp only [EZ, q_bx, if_true, if_false, Nat.reduceAdd, Option.bind_some, Nat.reduceBEq, kad_r, ER, ifc_nn, decide_eq_false h0, decide_eq_true h1]
      rw [piV_none (fun m hm => no m hm (fun h => by omega))]
      first | exact ⟨rfl, rfl⟩ | exact rfl
    simp only [EZ, q_bx, if_true, if_false, Nat.reduceAdd, Option.bind_some, Nat.reduceBEq, kad_r, ER, ifc_nn, decide_eq_false h0, decide_eq_false h1]
    refine TCall.val (by simp only [EO]) (kap_T hΓ.itoa x ⟨by omega, by omega⟩ _) ?_
    by_cases h2 : itoaB x = s
    · simp only [EZ, q_bx, if_true, if_false, Nat.reduceAdd, Option.bind_some, Nat.reduceBEq, kad_r, ER, ifc_nn, decide_eq_false h0, decide_eq_false h1, str_beq, decide_eq_true h2]
      obtain ⟨m, rfl⟩ : ∃ m : Nat, x = m := ⟨x.toNat, by omega⟩
      rw [← h2, piV_some (by omega)]
      first | exact ⟨rfl, rfl⟩ | exact rfl
    · simp only [EZ, q_bx, if_true, if_false, Nat.reduceAdd, Option.bind_some, Nat.reduceBEq, kad_r, ER, ifc_nn, decide_eq_false h0, decide_eq_false h1, str_beq, decide_eq_false h2]
      rw [piV_none (fun m hm => no m hm (fun h => h2 h.2.2))]
      first | exact ⟨rfl, rfl⟩ | exact rfl
theorem byteAt_mk (l : List UInt8) (k : Nat) (hk : k < l.length) : byteAt ⟨l.toArray⟩ k = l[k].toNat := by
  simp [byteAt, List.getD_eq_getElem?_getD, hk]
theorem itoa_digits {l : List UInt8} {n : Nat} (hl : (⟨l.toArray⟩ : ByteArray) = itoaB n) : l = Lib.decDigits n := by
  have := congrArg (fun b : ByteArray => b.data.toList) hl
  simpa [itoaB_nat_data] using this
theorem kal_T (l : List UInt8) (h : AH) : T Tryd.prog Γ Fn.kal [.str ⟨l.toArray⟩] h fun v h' => v = piV ⟨l.toArray⟩ ∧ h' = h := by
  have LS : lenI true (.str ⟨l.toArray⟩) = some (.int .i64 l.length) := by rw [lenI_str, str_size]
  refine kal_e (aw_sound tabOK mixed [] _ _ _ ?_)
  unfold kal_c
  simp only [EZ, q_bx, if_true, if_false, Nat.reduceAdd, Option.bind_some, Nat.reduceBEq, kal_r, ER, LS]
  refine TCall.val (by simp only [EO]) (kan_T _ _ _ _) ?_
  cases e1 : inR (l.length : Int) 1 13
  · simp only [EZ, q_bx, if_true, if_false, Nat.reduceAdd, Option.bind_some, Nat.reduceBEq, kal_r, ER]
    rw [piV_none (fun m hm e => by
      have e := itoa_digits e
      have h1 := decDigits_len_le (u := m) (k := 13) (by omega) (by omega)
      obtain ⟨c, r, e2, _⟩ := decDigits_cons m
      rw [← e] at h1 e2
      rw [e2] at e1 h1
      simp [inR] at e1 h1
      omega)]
    first | exact ⟨rfl, rfl⟩ | exact rfl
  have hl : 1 ≤ l.length ∧ l.length ≤ 13 := by simp [inR] at e1; omega
  simp only [EZ, q_bx, if_true, if_false, Nat.reduceAdd, Option.bind_some, Nat.reduceBEq, kal_r, ER]
  refine loopI tabOK mixed [] (fun y : Nat × Nat => y.1 ≤ l.length ∧ Lib.decFrom 0 (l.take y.1) = some y.2 ∧ y.2 < 10 ^ y.1) (fun y => l.length - y.1)
    (fun y => kal_s0 (.str ⟨l.toArray⟩) (.int .i64 y.2) (.int .i64 y.1) [] h) (0, 0) ⟨by simp, rfl, by simp⟩ ⟨by simp [kal_s0, LeL, LeV], rfl, rfl⟩ ?_
  rintro ⟨k, m⟩ ⟨hk, hd, hm⟩
  simp only at hk hd hm
  have hm13 : m < 10000000000000 := Nat.lt_of_lt_of_le hm (by
    have := Nat.pow_le_pow_right (n := 10) (by omega) (show k ≤ 13 by omega)
    omega)
  simp only [EZ, q_bx, if_true, if_false, Nat.reduceAdd, Option.bind_some, Nat.reduceBEq, kal_r, ER, kal_s0, LS]
  refine c_split (fun hlt => ?_) (fun hge => ?_)
  · have hlt : k < l.length := by simpa using hlt
    have ib := fun s : St => idxstr_at s (v := ⟨l.toArray⟩) (k := k) (by rw [str_size]; exact hlt)
    rw [byteAt_mk l k hlt] at ib
    obtain ⟨c, hc⟩ : ∃ c, c = l[k] := ⟨_, rfl⟩
    have hck : l[k]? = some c := by rw [hc]; exact List.getElem?_eq_getElem hlt
    rw [← hc] at ib
    have hc256 := c.toNat_lt
    have w1 : IntKind.i64.wrap (c.toNat : Int) = c.toNat := wrap_nat (by omega) (by omega)
    simp only [EZ, q_bx, if_true, if_false, Nat.reduceAdd, Option.bind_some, Nat.reduceBEq, kal_r, ER, kal_s0, LS, p_idxstr, ib, p_cvi, w1]
    refine TCall.val (by simp only [EO]) (kan_T _ _ _ _) ?_
    cases e2 : inR (c.toNat : Int) 48 57
    · simp only [EZ, q_bx, if_true, if_false, Nat.reduceAdd, Option.bind_some, Nat.reduceBEq, kal_r, ER, kal_s0, LS, p_idxstr, ib, p_cvi, w1]
      rw [piV_none (fun n hn e => by
        have e := itoa_digits e
        obtain ⟨d, hd⟩ := Lib.digit_of_decFrom l 0 n (by rw [e]; exact decFrom_decDigits n) k c hck
        unfold Lib.digitVal at hd
        split at hd
        · rename_i hh
          simp [inR] at e2; omega
        · cases hd)]
      first | exact ⟨rfl, rfl⟩ | exact rfl
    · have hdg : 48 ≤ c.toNat ∧ c.toNat ≤ 57 := by simp [inR] at e2; omega
      have w2 : IntKind.u8.wrap ((c.toNat : Int) - 48) = ((c.toNat - 48 : Nat) : Int) := by
        rw [show ((c.toNat : Int) - 48) = ((c.toNat - 48 : Nat) : Int) by omega, wrapA8, Nat.mod_eq_of_lt (by omega)]
      have w3 : IntKind.i64.wrap ((c.toNat - 48 : Nat) : Int) = ((c.toNat - 48 : Nat) : Int) := wrap_nat (by omega) (by omega)
      have w4 : IntKind.i64.wrap (10 * (m : Int)) = ((m * 10 : Nat) : Int) := by rw [wrap_nat (by omega) (by omega)]; omega
      have w5 : IntKind.i64.wrap (((m * 10 : Nat) : Int) + ((c.toNat - 48 : Nat) : Int)) = ((m * 10 + (c.toNat - 48) : Nat) : Int) := by rw [wrap_nat (by omega) (by omega)]; omega
      simp only [EZ, q_bx, if_true, if_false, Nat.reduceAdd, Option.bind_some, Nat.reduceBEq, kal_r, ER, kal_s0, LS, p_idxstr, ib, p_cvi, w1, w2, w3, w4, w5]
      exact ⟨(k + 1, m * 10 + (c.toNat - 48)), ⟨hlt, Lib.decFrom_take l k 0 m c _ hd hck (by rw [Lib.digitVal, if_pos hdg]), by
        simp only; rw [Nat.pow_succ]; omega⟩, by simp only; omega, ⟨by rw [wN (by omega)]; simp [kal_s0, LeL, LeV], rfl, rfl⟩⟩
  have hge : k = l.length := by simp at hge; omega
  subst hge
  rw [List.take_length] at hd
  have no : ∀ n : Nat, n ≤ 1000000000000 → ¬ (m ≤ 1000000000000 ∧ itoaB m = ⟨l.toArray⟩) → (⟨l.toArray⟩ : ByteArray) ≠ itoaB n := fun n hn hx e => by
    have e' := itoa_digits e
    rw [e', decFrom_decDigits] at hd
    obtain rfl := Option.some.inj hd
    exact hx ⟨hn, e.symm⟩
  simp only [EZ, q_bx, if_true, if_false, Nat.reduceAdd, Option.bind_some, Nat.reduceBEq, kal_r, ER, kal_s0, LS]
  by_cases h1 : (m : Int) > 1000000000000
  · simp only [EZ, q_bx, if_true, if_false, Nat.reduceAdd, Option.bind_some, Nat.reduceBEq, kal_r, ER, decide_eq_true h1]
    rw [piV_none (fun n hn => no n hn (fun h => by omega))]
    first | exact ⟨rfl, rfl⟩ | exact rfl
  simp only [EZ, q_bx, if_true, if_false, Nat.reduceAdd, Option.bind_some, Nat.reduceBEq, kal_r, ER, decide_eq_false h1]
  refine TCall.val (by simp only [EO]) (kak_T m ⟨by omega, by omega⟩ _) ?_
  by_cases h2 : itoaB m = ⟨l.toArray⟩
  · simp only [EZ, q_bx, if_true, if_false, Nat.reduceAdd, Option.bind_some, Nat.reduceBEq, kal_r, ER, decide_eq_false h1, str_beq, decide_eq_true h2]
    rw [← h2, piV_some (by omega)]
    first | exact ⟨rfl, rfl⟩ | exact rfl
  · simp only [EZ, q_bx, if_true, if_false, Nat.reduceAdd, Option.bind_some, Nat.reduceBEq, kal_r, ER, decide_eq_false h1, str_beq, decide_eq_false h2]
    rw [piV_none (fun n hn => no n hn (fun h => h2 h.2))]
    first | exact ⟨rfl, rfl⟩ | exact rfl
end Go.Proofs.YteaebikmfmggbaaDoor
