import Derived.Test.YtleddolmolkpfaaGreatCodeAAcceptGift
set_option linter.unusedVariables false
set_option linter.unusedSimpArgs false
namespace Go.Proofs.YtleddolmolkpfaaGreat
open Go.AM
variable {Γ : Glob}
def laws_eqWire_c : C := .seq (.reg [⟨(some 2), none, .box (.t 0)⟩,
  ⟨(some 3), none, .box (.t 1)⟩,
  ⟨(some 4), none, .mov (.c (.bool false))⟩]) (.seq (.seq (.reg [⟨(some 5), none, .fld 0 (.t 2)⟩,
  ⟨(some 6), none, .load 1 false (.t 5)⟩,
  ⟨(some 7), none, .fld 0 (.t 3)⟩,
  ⟨(some 8), none, .load 1 false (.t 7)⟩,
  ⟨(some 9), none, .bin .neq (.num) (.t 6) (.t 8)⟩]) (.cond (.t 9) (.seq (.reg [⟨(some 4), none, .mov (.c (.bool false))⟩]) (.ret)) (.skip))) (.seq (.seq (.reg [⟨(some 10), none, .fld 1 (.t 2)⟩,
  ⟨(some 11), none, .load 1 false (.t 10)⟩,
  ⟨(some 12), none, .fld 1 (.t 3)⟩,
  ⟨(some 13), none, .load 1 false (.t 12)⟩,
  ⟨(some 14), none, .bin .neq (.num) (.t 11) (.t 13)⟩]) (.cond (.t 14) (.seq (.reg [⟨(some 4), none, .mov (.c (.bool false))⟩]) (.ret)) (.skip))) (.seq (.reg [⟨(some 4), none, .mov (.c (.bool true))⟩]) (.ret))))
def laws_eqWire_r : List RS := [.t 4]
theorem laws_eqWire_e {a0 a1 : AV} {h : AH} {K : AV → AH → Prop} (hw : TC Tryz.prog Θ Γ laws_eqWire_c (retQ laws_eqWire_r K) ⟨[a0, a1, u, u, u, u, u, u, u, u, u, u, u, u, u], [], h⟩) : T Tryz.prog Γ Fn.laws_eqWire [a0, a1] h K :=
  T_of_body tabOK Tryz.func97 (code := bodyOf Tryz.f97) (by kernel_rfl) (by kernel_rfl) (by kernel_rfl) (by kernel_rfl) hw
def laws_eqTag_c : C := .seq (.reg [⟨(some 2), none, .box (.t 0)⟩,
  ⟨(some 3), none, .box (.t 1)⟩,
  ⟨(some 4), none, .mov (.c (.bool false))⟩]) (.seq (.seq (.reg [⟨(some 5), none, .fld 0 (.t 2)⟩,
  ⟨(some 6), none, .load 1 false (.t 5)⟩,
  ⟨(some 7), none, .fld 0 (.t 3)⟩,
  ⟨(some 8), none, .load 1 false (.t 7)⟩,
  ⟨(some 9), none, .bin .neq (.num) (.t 6) (.t 8)⟩]) (.cond (.t 9) (.seq (.reg [⟨(some 4), none, .mov (.c (.bool false))⟩]) (.ret)) (.skip))) (.seq (.seq (.reg [⟨(some 10), none, .fld 1 (.t 2)⟩,
  ⟨(some 11), none, .load 1 false (.t 10)⟩,
  ⟨(some 12), none, .fld 1 (.t 3)⟩,
  ⟨(some 13), none, .load 1 false (.t 12)⟩,
  ⟨(some 14), none, .bin .neq (.num) (.t 11) (.t 13)⟩]) (.cond (.t 14) (.seq (.reg [⟨(some 4), none, .mov (.c (.bool false))⟩]) (.ret)) (.skip))) (.seq (.seq (.reg [⟨(some 15), none, .fld 2 (.t 2)⟩,
  ⟨(some 16), none, .load 1 false (.t 15)⟩,
  ⟨(some 17), none, .fld 2 (.t 3)⟩,
  ⟨(some 18), none, .load 1 false (.t 17)⟩,
  ⟨(some 19), none, .bin .neq (.num) (.t 16) (.t 18)⟩]) (.cond (.t 19) (.seq (.reg [⟨(some 4), none, .mov (.c (.bool false))⟩]) (.ret)) (.skip))) (.seq (.reg [⟨(some 4), none, .mov (.c (.bool true))⟩]) (.ret)))))
def laws_eqTag_r : List RS := [.t 4]
theorem laws_eqTag_e {a0 a1 : AV} {h : AH} {K : AV → AH → Prop} (hw : TC Tryz.prog Θ Γ laws_eqTag_c (retQ laws_eqTag_r K) ⟨[a0, a1, u, u, u, u, u, u, u, u, u, u, u, u, u, u, u, u, u, u], [], h⟩) : T Tryz.prog Γ Fn.laws_eqTag [a0, a1] h K :=
  T_of_body tabOK Tryz.func98 (code := bodyOf Tryz.f98) (by kernel_rfl) (by kernel_rfl) (by kernel_rfl) (by kernel_rfl) hw
def laws_markWireS_c : C := .seq (.reg [⟨(some 4), none, .mov (.c (.int .i64 0))⟩]) (.seq (.seq (.reg [⟨(some 5), none, .mov (.c (.int .i64 0))⟩]) (.block 0 (.loop (.seq (.seq (.reg [⟨(some 6), none, .mov (.t 5)⟩,
  ⟨(some 7), none, .mov (.t 0)⟩,
  ⟨(some 8), none, .len false (.t 7)⟩,
  ⟨(some 9), none, .bin .lss (.num) (.t 6) (.t 8)⟩]) (.cond (.t 9) (.skip) (.exit 0))) (.seq (.block 1 (.seq (.reg [⟨(some 12), none, .mov (.t 0)⟩,
  ⟨(some 13), none, .mov (.t 5)⟩,
  ⟨(some 14), none, .mov (.t 1)⟩,
  ⟨(some 15), none, .idxs 2 (.t 12) (.t 13)⟩,
  ⟨(some 16), none, .fld 0 (.t 15)⟩,
  ⟨none, none, .store 1 (.t 16) (.t 14)⟩]) (.seq (.reg [⟨(some 17), none, .mov (.t 1)⟩,
  ⟨(some 18), none, .bin .add (.num) (.t 17) (.c (.int .i64 1))⟩,
  ⟨(some 1), none, .mov (.t 18)⟩]) (.seq (.reg [⟨(some 19), none, .mov (.t 0)⟩,
  ⟨(some 20), none, .mov (.t 5)⟩,
  ⟨(some 21), none, .mov (.t 1)⟩,
  ⟨(some 22), none, .idxs 2 (.t 19) (.t 20)⟩,
  ⟨(some 23), none, .fld 1 (.t 22)⟩,
  ⟨none, none, .store 1 (.t 23) (.t 21)⟩]) (.reg [⟨(some 24), none, .mov (.t 1)⟩,
  ⟨(some 25), none, .bin .add (.num) (.t 24) (.c (.int .i64 1))⟩,
  ⟨(some 1), none, .mov (.t 25)⟩]))))) (.reg [⟨(some 10), none, .mov (.t 5)⟩,
  ⟨(some 11), none, .bin .add (.num) (.t 10) (.c (.int .i64 1))⟩,
  ⟨(some 5), none, .mov (.t 11)⟩])))))) (.seq (.reg [⟨(some 26), none, .mov (.t 1)⟩,
  ⟨(some 4), none, .mov (.t 26)⟩]) (.ret)))
def laws_markWireS_r : List RS := [.t 4]
def laws_markWireS_s0 (t0 t1 t5 : AV) (loc : List (List AV)) (h : AH) : St := ⟨[t0, t1, .any, .any, .any, t5, .any, .any, .any, .any, .any, .any, .any, .any, .any, .any, .any, .any, .any, .any, .any, .any, .any, .any, .any, .any, .any], loc, h⟩
theorem laws_markWireS_e {a0 a1 : AV} {h : AH} {K : AV → AH → Prop} (hw : TC Tryz.prog Θ Γ laws_markWireS_c (retQ laws_markWireS_r K) ⟨[a0, a1, u, u, u, u, u, u, u, u, u, u, u, u, u, u, u, u, u, u, u, u, u, u, u, u, u], [], h⟩) : T Tryz.prog Γ Fn.laws_markWireS [a0, a1] h K :=
  T_of_body tabOK Tryz.func103 (code := bodyOf Tryz.f103) (by kernel_rfl) (by kernel_rfl) (by kernel_rfl) (by kernel_rfl) hw
def laws_szEntity_c : C := .seq (.reg [⟨(some 2), none, .box (.t 0)⟩,
  ⟨(some 4), none, .mov (.c (.int .i64 0))⟩]) (.seq (.reg [⟨(some 5), none, .fld 2 (.t 2)⟩,
  ⟨(some 6), none, .load 1 false (.t 5)⟩,
  ⟨(some 7), none, .mov (.t 1)⟩,
  ⟨(some 8), none, .call (.c (.fn Fn.laws_szValueS [] [])) [.t 6, .t 7]⟩,
  ⟨(some 1), none, .mov (.t 8)⟩]) (.seq (.seq (.reg [⟨(some 9), none, .mov (.t 1)⟩,
  ⟨(some 10), none, .bin .lss (.num) (.t 9) (.c (.int .i64 0))⟩]) (.cond (.t 10) (.seq (.reg [⟨(some 4), none, .mov (.c (.int .i64 (-1)))⟩]) (.ret)) (.skip))) (.seq (.reg [⟨(some 11), none, .fld 6 (.t 2)⟩,
  ⟨(some 12), none, .load 1 false (.t 11)⟩,
  ⟨(some 13), none, .mov (.t 1)⟩,
  ⟨(some 14), none, .call (.c (.fn Fn.laws_szSentS [] [])) [.t 12, .t 13]⟩,
  ⟨(some 1), none, .mov (.t 14)⟩]) (.seq (.seq (.reg [⟨(some 15), none, .mov (.t 1)⟩,
  ⟨(some 16), none, .bin .lss (.num) (.t 15) (.c (.int .i64 0))⟩]) (.cond (.t 16) (.seq (.reg [⟨(some 4), none, .mov (.c (.int .i64 (-1)))⟩]) (.ret)) (.skip))) (.seq (.reg [⟨(some 17), none, .fld 7 (.t 2)⟩,
  ⟨(some 18), none, .load 1 false (.t 17)⟩,
  ⟨(some 19), none, .mov (.t 1)⟩,
  ⟨(some 20), none, .call (.c (.fn Fn.laws_szAskerS [] [])) [.t 18, .t 19]⟩,
  ⟨(some 1), none, .mov (.t 20)⟩]) (.seq (.seq (.reg [⟨(some 21), none, .mov (.t 1)⟩,
  ⟨(some 22), none, .bin .lss (.num) (.t 21) (.c (.int .i64 0))⟩]) (.cond (.t 22) (.seq (.reg [⟨(some 4), none, .mov (.c (.int .i64 (-1)))⟩]) (.ret)) (.skip))) (.seq (.reg [⟨(some 23), none, .mov (.t 1)⟩,
  ⟨(some 4), none, .mov (.t 23)⟩]) (.ret))))))))
def laws_szEntity_r : List RS := [.t 4]
theorem laws_szEntity_e {a0 a1 : AV} {h : AH} {K : AV → AH → Prop} (hw : TC Tryz.prog Θ Γ laws_szEntity_c (retQ laws_szEntity_r K) ⟨[a0, a1, u, u, u, u, u, u, u, u, u, u, u, u, u, u, u, u, u, u, u, u, u, u], [], h⟩) : T Tryz.prog Γ Fn.laws_szEntity [a0, a1] h K :=
  T_of_body tabOK Tryz.func108 (code := bodyOf Tryz.f108) (by kernel_rfl) (by kernel_rfl) (by kernel_rfl) (by kernel_rfl) hw
def laws_szSent_c : C := .seq (.reg [⟨(some 2), none, .box (.t 0)⟩,
  ⟨(some 4), none, .mov (.c (.int .i64 0))⟩]) (.seq (.reg [⟨(some 5), none, .mov (.t 1)⟩,
  ⟨(some 6), none, .fld 1 (.t 2)⟩,
  ⟨(some 7), none, .load 1 false (.t 6)⟩,
  ⟨(some 8), none, .len true (.t 7)⟩,
  ⟨(some 9), none, .bin .sub (.num) (.t 5) (.t 8)⟩,
  ⟨(some 1), none, .mov (.t 9)⟩]) (.seq (.seq (.reg [⟨(some 10), none, .mov (.t 1)⟩,
  ⟨(some 11), none, .bin .lss (.num) (.t 10) (.c (.int .i64 0))⟩]) (.cond (.t 11) (.seq (.reg [⟨(some 4), none, .mov (.c (.int .i64 (-1)))⟩]) (.ret)) (.skip))) (.seq (.reg [⟨(some 12), none, .fld 2 (.t 2)⟩,
  ⟨(some 13), none, .load 1 false (.t 12)⟩,
  ⟨(some 14), none, .mov (.t 1)⟩,
  ⟨(some 15), none, .call (.c (.fn Fn.laws_szValueS [] [])) [.t 13, .t 14]⟩,
  ⟨(some 1), none, .mov (.t 15)⟩]) (.seq (.seq (.reg [⟨(some 16), none, .mov (.t 1)⟩,
  ⟨(some 17), none, .bin .lss (.num) (.t 16) (.c (.int .i64 0))⟩]) (.cond (.t 17) (.seq (.reg [⟨(some 4), none, .mov (.c (.int .i64 (-1)))⟩]) (.ret)) (.skip))) (.seq (.reg [⟨(some 18), none, .mov (.t 1)⟩,
  ⟨(some 4), none, .mov (.t 18)⟩]) (.ret))))))
def laws_szSent_r : List RS := [.t 4]
theorem laws_szSent_e {a0 a1 : AV} {h : AH} {K : AV → AH → Prop} (hw : TC Tryz.prog Θ Γ laws_szSent_c (retQ laws_szSent_r K) ⟨[a0, a1, u, u, u, u, u, u, u, u, u, u, u, u, u, u, u, u, u], [], h⟩) : T Tryz.prog Γ Fn.laws_szSent [a0, a1] h K :=
  T_of_body tabOK Tryz.func109 (code := bodyOf Tryz.f109) (by kernel_rfl) (by kernel_rfl) (by kernel_rfl) (by kernel_rfl) hw
def laws_szLink_c : C := .seq (.reg [⟨(some 2), none, .box (.t 0)⟩,
  ⟨(some 4), none, .mov (.c (.int .i64 0))⟩]) (.seq (.reg [⟨(some 5), none, .fld 2 (.t 2)⟩,
  ⟨(some 6), none, .load 1 false (.t 5)⟩,
  ⟨(some 7), none, .mov (.t 1)⟩,
  ⟨(some 8), none, .call (.c (.fn Fn.laws_szExportS [] [])) [.t 6, .t 7]⟩,
  ⟨(some 1), none, .mov (.t 8)⟩]) (.seq (.seq (.reg [⟨(some 9), none, .mov (.t 1)⟩,
  ⟨(some 10), none, .bin .lss (.num) (.t 9) (.c (.int .i64 0))⟩]) (.cond (.t 10) (.seq (.reg [⟨(some 4), none, .mov (.c (.int .i64 (-1)))⟩]) (.ret)) (.skip))) (.seq (.reg [⟨(some 11), none, .fld 4 (.t 2)⟩,
  ⟨(some 12), none, .load 1 false (.t 11)⟩,
  ⟨(some 13), none, .mov (.t 1)⟩,
  ⟨(some 14), none, .call (.c (.fn Fn.laws_szQuestionS [] [])) [.t 12, .t 13]⟩,
  ⟨(some 1), none, .mov (.t 14)⟩]) (.seq (.seq (.reg [⟨(some 15), none, .mov (.t 1)⟩,
  ⟨(some 16), none, .bin .lss (.num) (.t 15) (.c (.int .i64 0))⟩]) (.cond (.t 16) (.seq (.reg [⟨(some 4), none, .mov (.c (.int .i64 (-1)))⟩]) (.ret)) (.skip))) (.seq (.reg [⟨(some 17), none, .fld 6 (.t 2)⟩,
  ⟨(some 18), none, .load 1 false (.t 17)⟩,
  ⟨(some 19), none, .mov (.t 1)⟩,
  ⟨(some 20), none, .call (.c (.fn Fn.laws_szQuestionS [] [])) [.t 18, .t 19]⟩,
  ⟨(some 1), none, .mov (.t 20)⟩]) (.seq (.seq (.reg [⟨(some 21), none, .mov (.t 1)⟩,
  ⟨(some 22), none, .bin .lss (.num) (.t 21) (.c (.int .i64 0))⟩]) (.cond (.t 22) (.seq (.reg [⟨(some 4), none, .mov (.c (.int .i64 (-1)))⟩]) (.ret)) (.skip))) (.seq (.reg [⟨(some 23), none, .mov (.t 1)⟩,
  ⟨(some 4), none, .mov (.t 23)⟩]) (.ret))))))))
def laws_szLink_r : List RS := [.t 4]
theorem laws_szLink_e {a0 a1 : AV} {h : AH} {K : AV → AH → Prop} (hw : TC Tryz.prog Θ Γ laws_szLink_c (retQ laws_szLink_r K) ⟨[a0, a1, u, u, u, u, u, u, u, u, u, u, u, u, u, u, u, u, u, u, u, u, u, u], [], h⟩) : T Tryz.prog Γ Fn.laws_szLink [a0, a1] h K :=
  T_of_body tabOK Tryz.func110 (code := bodyOf Tryz.f110) (by kernel_rfl) (by kernel_rfl) (by kernel_rfl) (by kernel_rfl) hw
def laws_szOutgoing_c : C := .seq (.reg [⟨(some 2), none, .box (.t 0)⟩,
  ⟨(some 4), none, .mov (.c (.int .i64 0))⟩]) (.seq (.reg [⟨(some 5), none, .fld 1 (.t 2)⟩,
  ⟨(some 6), none, .load 12 true (.t 5)⟩,
  ⟨(some 7), none, .mov (.t 1)⟩,
  ⟨(some 8), none, .call (.c (.fn Fn.laws_szMessage [] [])) [.t 6, .t 7]⟩,
  ⟨(some 1), none, .mov (.t 8)⟩]) (.seq (.seq (.reg [⟨(some 9), none, .mov (.t 1)⟩,
  ⟨(some 10), none, .bin .lss (.num) (.t 9) (.c (.int .i64 0))⟩]) (.cond (.t 10) (.seq (.reg [⟨(some 4), none, .mov (.c (.int .i64 (-1)))⟩]) (.ret)) (.skip))) (.seq (.reg [⟨(some 11), none, .mov (.t 1)⟩,
  ⟨(some 4), none, .mov (.t 11)⟩]) (.ret))))
def laws_szOutgoing_r : List RS := [.t 4]
theorem laws_szOutgoing_e {a0 a1 : AV} {h : AH} {K : AV → AH → Prop} (hw : TC Tryz.prog Θ Γ laws_szOutgoing_c (retQ laws_szOutgoing_r K) ⟨[a0, a1, u, u, u, u, u, u, u, u, u, u], [], h⟩) : T Tryz.prog Γ Fn.laws_szOutgoing [a0, a1] h K :=
  T_of_body tabOK Tryz.func111 (code := bodyOf Tryz.f111) (by kernel_rfl) (by kernel_rfl) (by kernel_rfl) (by kernel_rfl) hw
def laws_toEntity_c : C := .seq (.reg [⟨(some 1), none, .box (.t 0)⟩,
  ⟨(some 2), none, .alloc [.int .i64 0, .int .i64 0, .nils, .int .i64 0, .int .i64 0, .int .i64 0, .nils, .nils, .int .i64 0, .int .i64 0, .int .i64 0, .int .i64 0]⟩]) (.seq (.reg [⟨(some 3), none, .alloc [.int .i64 0, .int .i64 0, .nils, .int .i64 0, .int .i64 0, .int .i64 0, .nils, .nils, .int .i64 0, .int .i64 0, .int .i64 0, .int .i64 0]⟩]) (.seq (.reg [⟨(some 4), none, .fld 0 (.t 1)⟩,
  ⟨(some 5), none, .load 1 false (.t 4)⟩,
  ⟨(some 6), none, .fld 0 (.t 3)⟩,
  ⟨none, none, .store 1 (.t 6) (.t 5)⟩]) (.seq (.reg [⟨(some 7), none, .fld 1 (.t 1)⟩,
  ⟨(some 8), none, .load 1 false (.t 7)⟩,
  ⟨(some 9), none, .fld 1 (.t 3)⟩,
  ⟨none, none, .store 1 (.t 9) (.t 8)⟩]) (.seq (.reg [⟨(some 10), none, .fld 2 (.t 1)⟩,
  ⟨(some 11), none, .load 1 false (.t 10)⟩,
  ⟨(some 12), none, .call (.c (.fn Fn.laws_toValueS [] [])) [.t 11]⟩,
  ⟨(some 13), none, .fld 2 (.t 3)⟩,
  ⟨none, none, .store 1 (.t 13) (.t 12)⟩]) (.seq (.reg [⟨(some 14), none, .fld 3 (.t 1)⟩,
  ⟨(some 15), none, .load 1 false (.t 14)⟩,
  ⟨(some 16), none, .fld 3 (.t 3)⟩,
  ⟨none, none, .store 1 (.t 16) (.t 15)⟩]) (.seq (.reg [⟨(some 17), none, .fld 4 (.t 1)⟩,
  ⟨(some 18), none, .load 2 true (.t 17)⟩,
  ⟨(some 19), none, .call (.c (.fn Fn.laws_toValue [] [])) [.t 18]⟩,
  ⟨(some 20), none, .fld 4 (.t 3)⟩,
  ⟨none, none, .store 2 (.t 20) (.t 19)⟩]) (.seq (.reg [⟨(some 21), none, .fld 6 (.t 1)⟩,
  ⟨(some 22), none, .load 1 false (.t 21)⟩,
  ⟨(some 23), none, .call (.c (.fn Fn.laws_toSentS [] [])) [.t 22]⟩,
  ⟨(some 24), none, .fld 6 (.t 3)⟩,
  ⟨none, none, .store 1 (.t 24) (.t 23)⟩]) (.seq (.reg [⟨(some 25), none, .fld 7 (.t 1)⟩,
  ⟨(some 26), none, .load 1 false (.t 25)⟩,
  ⟨(some 27), none, .call (.c (.fn Fn.laws_toAskerS [] [])) [.t 26]⟩,
  ⟨(some 28), none, .fld 7 (.t 3)⟩,
  ⟨none, none, .store 1 (.t 28) (.t 27)⟩]) (.seq (.reg [⟨(some 29), none, .fld 8 (.t 1)⟩,
  ⟨(some 30), none, .load 1 false (.t 29)⟩,
  ⟨(some 31), none, .fld 8 (.t 3)⟩,
  ⟨none, none, .store 1 (.t 31) (.t 30)⟩]) (.seq (.reg [⟨(some 32), none, .fld 9 (.t 1)⟩,
  ⟨(some 33), none, .load 1 false (.t 32)⟩,
  ⟨(some 34), none, .fld 9 (.t 3)⟩,
  ⟨none, none, .store 1 (.t 34) (.t 33)⟩]) (.seq (.reg [⟨(some 35), none, .fld 10 (.t 1)⟩,
  ⟨(some 36), none, .load 1 false (.t 35)⟩,
  ⟨(some 37), none, .fld 10 (.t 3)⟩,
  ⟨none, none, .store 1 (.t 37) (.t 36)⟩]) (.seq (.reg [⟨(some 38), none, .fld 11 (.t 1)⟩,
  ⟨(some 39), none, .load 1 false (.t 38)⟩,
  ⟨(some 40), none, .fld 11 (.t 3)⟩,
  ⟨none, none, .store 1 (.t 40) (.t 39)⟩]) (.seq (.reg [⟨(some 41), none, .load 12 true (.t 3)⟩,
  ⟨none, none, .store 12 (.t 2) (.t 41)⟩]) (.ret))))))))))))))
def laws_toEntity_r : List RS := [.cell 2 12 true]
theorem laws_toEntity_e {a0 : AV} {h : AH} {K : AV → AH → Prop} (hw : TC Tryz.prog Θ Γ laws_toEntity_c (retQ laws_toEntity_r K) ⟨[a0, u, u, u, u, u, u, u, u, u, u, u, u, u, u, u, u, u, u, u, u, u, u, u, u, u, u, u, u, u, u, u, u, u, u, u, u, u, u, u, u, u], [], h⟩) : T Tryz.prog Γ Fn.laws_toEntity [a0] h K :=
  T_of_body tabOK Tryz.func113 (code := bodyOf Tryz.f113) (by kernel_rfl) (by kernel_rfl) (by kernel_rfl) (by kernel_rfl) hw
def laws_toSent_c : C := .seq (.reg [⟨(some 1), none, .box (.t 0)⟩,
  ⟨(some 2), none, .alloc [.int .i64 0, .str ⟨#[]⟩, .nils, .int .i64 0, .int .i64 0, .int .i64 0, .int .i64 0]⟩]) (.seq (.reg [⟨(some 3), none, .alloc [.int .i64 0, .str ⟨#[]⟩, .nils, .int .i64 0, .int .i64 0, .int .i64 0, .int .i64 0]⟩]) (.seq (.reg [⟨(some 4), none, .fld 0 (.t 1)⟩,
  ⟨(some 5), none, .load 1 false (.t 4)⟩,
  ⟨(some 6), none, .fld 0 (.t 3)⟩,
  ⟨none, none, .store 1 (.t 6) (.t 5)⟩]) (.seq (.reg [⟨(some 7), none, .fld 1 (.t 1)⟩,
  ⟨(some 8), none, .load 1 false (.t 7)⟩,
  ⟨(some 9), none, .fld 1 (.t 3)⟩,
  ⟨none, none, .store 1 (.t 9) (.t 8)⟩]) (.seq (.reg [⟨(some 10), none, .fld 2 (.t 1)⟩,
  ⟨(some 11), none, .load 1 false (.t 10)⟩,
  ⟨(some 12), none, .call (.c (.fn Fn.laws_toValueS [] [])) [.t 11]⟩,
  ⟨(some 13), none, .fld 2 (.t 3)⟩,
  ⟨none, none, .store 1 (.t 13) (.t 12)⟩]) (.seq (.reg [⟨(some 14), none, .fld 3 (.t 1)⟩,
  ⟨(some 15), none, .load 1 false (.t 14)⟩,
  ⟨(some 16), none, .fld 3 (.t 3)⟩,
  ⟨none, none, .store 1 (.t 16) (.t 15)⟩]) (.seq (.reg [⟨(some 17), none, .fld 4 (.t 1)⟩,
  ⟨(some 18), none, .load 3 true (.t 17)⟩,
  ⟨(some 19), none, .call (.c (.fn Fn.laws_toTag [] [])) [.t 18]⟩,
  ⟨(some 20), none, .fld 4 (.t 3)⟩,
  ⟨none, none, .store 3 (.t 20) (.t 19)⟩]) (.seq (.reg [⟨(some 21), none, .load 7 true (.t 3)⟩,
  ⟨none, none, .store 7 (.t 2) (.t 21)⟩]) (.ret))))))))
def laws_toSent_r : List RS := [.cell 2 7 true]
theorem laws_toSent_e {a0 : AV} {h : AH} {K : AV → AH → Prop} (hw : TC Tryz.prog Θ Γ laws_toSent_c (retQ laws_toSent_r K) ⟨[a0, u, u, u, u, u, u, u, u, u, u, u, u, u, u, u, u, u, u, u, u, u], [], h⟩) : T Tryz.prog Γ Fn.laws_toSent [a0] h K :=
  T_of_body tabOK Tryz.func114 (code := bodyOf Tryz.f114) (by kernel_rfl) (by kernel_rfl) (by kernel_rfl) (by kernel_rfl) hw
def laws_toLink_c : C := .seq (.reg [⟨(some 1), none, .box (.t 0)⟩,
  ⟨(some 2), none, .alloc [.int .i64 0, .bool false, .nils, .int .i64 0, .nils, .int .i64 0, .nils]⟩]) (.seq (.reg [⟨(some 3), none, .alloc [.int .i64 0, .bool false, .nils, .int .i64 0, .nils, .int .i64 0, .nils]⟩]) (.seq (.reg [⟨(some 4), none, .fld 0 (.t 1)⟩,
  ⟨(some 5), none, .load 1 false (.t 4)⟩,
  ⟨(some 6), none, .fld 0 (.t 3)⟩,
  ⟨none, none, .store 1 (.t 6) (.t 5)⟩]) (.seq (.reg [⟨(some 7), none, .fld 1 (.t 1)⟩,
  ⟨(some 8), none, .load 1 false (.t 7)⟩,
  ⟨(some 9), none, .fld 1 (.t 3)⟩,
  ⟨none, none, .store 1 (.t 9) (.t 8)⟩]) (.seq (.reg [⟨(some 10), none, .fld 2 (.t 1)⟩,
  ⟨(some 11), none, .load 1 false (.t 10)⟩,
  ⟨(some 12), none, .call (.c (.fn Fn.laws_toExportS [] [])) [.t 11]⟩,
  ⟨(some 13), none, .fld 2 (.t 3)⟩,
  ⟨none, none, .store 1 (.t 13) (.t 12)⟩]) (.seq (.reg [⟨(some 14), none, .fld 3 (.t 1)⟩,
  ⟨(some 15), none, .load 1 false (.t 14)⟩,
  ⟨(some 16), none, .fld 3 (.t 3)⟩,
  ⟨none, none, .store 1 (.t 16) (.t 15)⟩]) (.seq (.reg [⟨(some 17), none, .fld 4 (.t 1)⟩,
  ⟨(some 18), none, .load 1 false (.t 17)⟩,
  ⟨(some 19), none, .call (.c (.fn Fn.laws_toQuestionS [] [])) [.t 18]⟩,
  ⟨(some 20), none, .fld 4 (.t 3)⟩,
  ⟨none, none, .store 1 (.t 20) (.t 19)⟩]) (.seq (.reg [⟨(some 21), none, .fld 5 (.t 1)⟩,
  ⟨(some 22), none, .load 1 false (.t 21)⟩,
  ⟨(some 23), none, .fld 5 (.t 3)⟩,
  ⟨none, none, .store 1 (.t 23) (.t 22)⟩]) (.seq (.reg [⟨(some 24), none, .fld 6 (.t 1)⟩,
  ⟨(some 25), none, .load 1 false (.t 24)⟩,
  ⟨(some 26), none, .call (.c (.fn Fn.laws_toQuestionS [] [])) [.t 25]⟩,
  ⟨(some 27), none, .fld 6 (.t 3)⟩,
  ⟨none, none, .store 1 (.t 27) (.t 26)⟩]) (.seq (.reg [⟨(some 28), none, .load 7 true (.t 3)⟩,
  ⟨none, none, .store 7 (.t 2) (.t 28)⟩]) (.ret))))))))))
def laws_toLink_r : List RS := [.cell 2 7 true]
theorem laws_toLink_e {a0 : AV} {h : AH} {K : AV → AH → Prop} (hw : TC Tryz.prog Θ Γ laws_toLink_c (retQ laws_toLink_r K) ⟨[a0, u, u, u, u, u, u, u, u, u, u, u, u, u, u, u, u, u, u, u, u, u, u, u, u, u, u, u, u], [], h⟩) : T Tryz.prog Γ Fn.laws_toLink [a0] h K :=
  T_of_body tabOK Tryz.func115 (code := bodyOf Tryz.f115) (by kernel_rfl) (by kernel_rfl) (by kernel_rfl) (by kernel_rfl) hw
def laws_toOutgoing_c : C := .seq (.reg [⟨(some 1), none, .box (.t 0)⟩,
  ⟨(some 2), none, .alloc [.int .i64 0, .int .i64 0, .int .i64 0, .int .i64 0, .int .i64 0, .str ⟨#[]⟩, .nils, .int .i64 0, .int .i64 0, .int .i64 0, .int .i64 0, .int .i64 0, .int .i64 0]⟩]) (.seq (.reg [⟨(some 3), none, .alloc [.int .i64 0, .int .i64 0, .int .i64 0, .int .i64 0, .int .i64 0, .str ⟨#[]⟩, .nils, .int .i64 0, .int .i64 0, .int .i64 0, .int .i64 0, .int .i64 0, .int .i64 0]⟩]) (.seq (.reg [⟨(some 4), none, .fld 0 (.t 1)⟩,
  ⟨(some 5), none, .load 1 false (.t 4)⟩,
  ⟨(some 6), none, .fld 0 (.t 3)⟩,
  ⟨none, none, .store 1 (.t 6) (.t 5)⟩]) (.seq (.reg [⟨(some 7), none, .fld 1 (.t 1)⟩,
  ⟨(some 8), none, .load 12 true (.t 7)⟩,
  ⟨(some 9), none, .call (.c (.fn Fn.laws_toMessage [] [])) [.t 8]⟩,
  ⟨(some 10), none, .fld 1 (.t 3)⟩,
  ⟨none, none, .store 12 (.t 10) (.t 9)⟩]) (.seq (.reg [⟨(some 11), none, .load 13 true (.t 3)⟩,
  ⟨none, none, .store 13 (.t 2) (.t 11)⟩]) (.ret)))))
def laws_toOutgoing_r : List RS := [.cell 2 13 true]
theorem laws_toOutgoing_e {a0 : AV} {h : AH} {K : AV → AH → Prop} (hw : TC Tryz.prog Θ Γ laws_toOutgoing_c (retQ laws_toOutgoing_r K) ⟨[a0, u, u, u, u, u, u, u, u, u, u, u], [], h⟩) : T Tryz.prog Γ Fn.laws_toOutgoing [a0] h K :=
  T_of_body tabOK Tryz.func116 (code := bodyOf Tryz.f116) (by kernel_rfl) (by kernel_rfl) (by kernel_rfl) (by kernel_rfl) hw
def slices_ContainsFunc_iimpl_Link_impl_Link_c : C := .seq (.reg [⟨(some 4), none, .mov (.c (.bool false))⟩]) (.seq (.reg [⟨(some 5), none, .mov (.t 0)⟩,
  ⟨(some 6), none, .mov (.t 1)⟩,
  ⟨(some 7), none, .call (.c (.fn Fn.slices_IndexFunc_iimpl_Link_impl_Link [] [])) [.t 5, .t 6]⟩,
  ⟨(some 8), none, .bin .geq (.num) (.t 7) (.c (.int .i64 0))⟩,
  ⟨(some 4), none, .mov (.t 8)⟩]) (.ret))
def slices_ContainsFunc_iimpl_Link_impl_Link_r : List RS := [.t 4]
theorem slices_ContainsFunc_iimpl_Link_impl_Link_e {a0 a1 : AV} {h : AH} {K : AV → AH → Prop} (hw : TC Tryz.prog Θ Γ slices_ContainsFunc_iimpl_Link_impl_Link_c (retQ slices_ContainsFunc_iimpl_Link_impl_Link_r K) ⟨[a0, a1, u, u, u, u, u, u, u], [], h⟩) : T Tryz.prog Γ Fn.slices_ContainsFunc_iimpl_Link_impl_Link [a0, a1] h K :=
  T_of_body tabOK Tryz.func117 (code := bodyOf Tryz.f117) (by kernel_rfl) (by kernel_rfl) (by kernel_rfl) (by kernel_rfl) hw
def impl_Vat_link_1_c : C := .seq (.reg [⟨(some 2), none, .box (.t 0)⟩,
  ⟨(some 3), none, .mov (.c (.bool false))⟩]) (.seq (.reg [⟨(some 4), none, .fld 0 (.t 2)⟩,
  ⟨(some 5), none, .load 1 false (.t 4)⟩,
  ⟨(some 6), none, .load 1 false (.t 1)⟩,
  ⟨(some 7), none, .bin .eql (.num) (.t 5) (.t 6)⟩,
  ⟨(some 8), none, .mov (.t 7)⟩,
  ⟨(some 9), (some (4, true)), .fld 1 (.t 2)⟩,
  ⟨(some 10), (some (4, true)), .load 1 false (.t 9)⟩,
  ⟨(some 11), none, .pick (.t 8) (.t 10) (.c (.bool false))⟩,
  ⟨(some 3), none, .mov (.t 11)⟩]) (.ret))
def impl_Vat_link_1_r : List RS := [.t 3]
theorem impl_Vat_link_1_e {a0 a1 : AV} {h : AH} {K : AV → AH → Prop} (hw : TC Tryz.prog Θ Γ impl_Vat_link_1_c (retQ impl_Vat_link_1_r K) ⟨[a0, a1, u, u, u, u, u, u, u, u, u, u], [], h⟩) : T Tryz.prog Γ Fn.impl_Vat_link_1 [a0, a1] h K :=
  T_of_body tabOK Tryz.func118 (code := bodyOf Tryz.f118) (by kernel_rfl) (by kernel_rfl) (by kernel_rfl) (by kernel_rfl) hw
def impl_LinkTo_c : C := .seq (.reg [⟨(some 2), none, .box (.t 0)⟩,
  ⟨(some 3), none, .box (.t 1)⟩,
  ⟨(some 4), none, .mov (.c (.int .i64 0))⟩]) (.seq (.reg [⟨(some 5), none, .fld 3 (.t 2)⟩,
  ⟨(some 6), none, .load 1 false (.t 5)⟩,
  ⟨(some 7), none, .mkf Fn.impl_LinkTo_1 [] [.t 3]⟩,
  ⟨(some 8), none, .call (.c (.fn Fn.slices_IndexFunc_iimpl_Link_impl_Link [] [])) [.t 6, .t 7]⟩,
  ⟨(some 4), none, .mov (.t 8)⟩]) (.ret))
def impl_LinkTo_r : List RS := [.t 4]
theorem impl_LinkTo_e {a0 a1 : AV} {h : AH} {K : AV → AH → Prop} (hw : TC Tryz.prog Θ Γ impl_LinkTo_c (retQ impl_LinkTo_r K) ⟨[a0, a1, u, u, u, u, u, u, u], [], h⟩) : T Tryz.prog Γ Fn.impl_LinkTo [a0, a1] h K :=
  T_of_body tabOK Tryz.func119 (code := bodyOf Tryz.f119) (by kernel_rfl) (by kernel_rfl) (by kernel_rfl) (by kernel_rfl) hw
def slices_IndexFunc_iimpl_Export_impl_Export_c : C := .seq (.reg [⟨(some 4), none, .mov (.c (.int .i64 0))⟩]) (.seq (.seq (.reg [⟨(some 6), none, .mov (.t 0)⟩,
  ⟨(some 7), none, .len false (.t 6)⟩,
  ⟨(some 8), none, .mov (.c (.int .i64 0))⟩]) (.block 0 (.loop (.seq (.reg [⟨(some 9), none, .bin .lss (.num) (.t 8) (.t 7)⟩]) (.seq (.cond (.t 9) (.skip) (.exit 0)) (.seq (.block 1 (.seq (.reg [⟨(some 10), none, .mov (.t 8)⟩,
  ⟨(some 5), none, .mov (.t 10)⟩]) (.seq (.reg [⟨(some 11), none, .mov (.t 1)⟩,
  ⟨(some 12), none, .mov (.t 0)⟩,
  ⟨(some 13), none, .mov (.t 5)⟩,
  ⟨(some 14), none, .idxs 3 (.t 12) (.t 13)⟩,
  ⟨(some 15), none, .load 3 true (.t 14)⟩,
  ⟨(some 16), none, .call (.t 11) [.t 15]⟩]) (.cond (.t 16) (.seq (.reg [⟨(some 17), none, .mov (.t 5)⟩,
  ⟨(some 4), none, .mov (.t 17)⟩]) (.ret)) (.skip))))) (.reg [⟨(some 18), none, .bin .add (.num) (.t 8) (.c (.int .i64 1))⟩,
  ⟨(some 8), none, .mov (.t 18)⟩]))))))) (.seq (.reg [⟨(some 4), none, .mov (.c (.int .i64 (-1)))⟩]) (.ret)))
def slices_IndexFunc_iimpl_Export_impl_Export_r : List RS := [.t 4]
def slices_IndexFunc_iimpl_Export_impl_Export_s0 (t0 t1 t7 t8 : AV) (loc : List (List AV)) (h : AH) : St := ⟨[t0, t1, .any, .any, .any, .any, .any, t7, t8, .any, .any, .any, .any, .any, .any, .any, .any, .any, .any], loc, h⟩
theorem slices_IndexFunc_iimpl_Export_impl_Export_e {a0 a1 : AV} {h : AH} {K : AV → AH → Prop} (hw : TC Tryz.prog Θ Γ slices_IndexFunc_iimpl_Export_impl_Export_c (retQ slices_IndexFunc_iimpl_Export_impl_Export_r K) ⟨[a0, a1, u, u, u, u, u, u, u, u, u, u, u, u, u, u, u, u, u], [], h⟩) : T Tryz.prog Γ Fn.slices_IndexFunc_iimpl_Export_impl_Export [a0, a1] h K :=
  T_of_body tabOK Tryz.func120 (code := bodyOf Tryz.f120) (by kernel_rfl) (by kernel_rfl) (by kernel_rfl) (by kernel_rfl) hw
def laws_eqEntity_c : C := .seq (.reg [⟨(some 2), none, .box (.t 0)⟩,
  ⟨(some 3), none, .box (.t 1)⟩,
  ⟨(some 4), none, .mov (.c (.bool false))⟩]) (.seq (.seq (.reg [⟨(some 5), none, .fld 0 (.t 2)⟩,
  ⟨(some 6), none, .load 1 false (.t 5)⟩,
  ⟨(some 7), none, .fld 0 (.t 3)⟩,
  ⟨(some 8), none, .load 1 false (.t 7)⟩,
  ⟨(some 9), none, .bin .neq (.num) (.t 6) (.t 8)⟩]) (.cond (.t 9) (.seq (.reg [⟨(some 4), none, .mov (.c (.bool false))⟩]) (.ret)) (.skip))) (.seq (.seq (.reg [⟨(some 10), none, .fld 1 (.t 2)⟩,
  ⟨(some 11), none, .load 1 false (.t 10)⟩,
  ⟨(some 12), none, .fld 1 (.t 3)⟩,
  ⟨(some 13), none, .load 1 false (.t 12)⟩,
  ⟨(some 14), none, .bin .neq (.num) (.t 11) (.t 13)⟩]) (.cond (.t 14) (.seq (.reg [⟨(some 4), none, .mov (.c (.bool false))⟩]) (.ret)) (.skip))) (.seq (.seq (.reg [⟨(some 15), none, .fld 2 (.t 2)⟩,
  ⟨(some 16), none, .load 1 false (.t 15)⟩,
  ⟨(some 17), none, .fld 2 (.t 3)⟩,
  ⟨(some 18), none, .load 1 false (.t 17)⟩,
  ⟨(some 19), none, .call (.c (.fn Fn.laws_eqValueS [] [])) [.t 16, .t 18]⟩,
  ⟨(some 20), none, .un .not (.t 19)⟩]) (.cond (.t 20) (.seq (.reg [⟨(some 4), none, .mov (.c (.bool false))⟩]) (.ret)) (.skip))) (.seq (.seq (.reg [⟨(some 21), none, .fld 3 (.t 2)⟩,
  ⟨(some 22), none, .load 1 false (.t 21)⟩,
  ⟨(some 23), none, .fld 3 (.t 3)⟩,
  ⟨(some 24), none, .load 1 false (.t 23)⟩,
  ⟨(some 25), none, .bin .neq (.num) (.t 22) (.t 24)⟩]) (.cond (.t 25) (.seq (.reg [⟨(some 4), none, .mov (.c (.bool false))⟩]) (.ret)) (.skip))) (.seq (.seq (.reg [⟨(some 26), none, .fld 4 (.t 2)⟩,
  ⟨(some 27), none, .load 2 true (.t 26)⟩,
  ⟨(some 28), none, .fld 4 (.t 3)⟩,
  ⟨(some 29), none, .load 2 true (.t 28)⟩,
  ⟨(some 30), none, .call (.c (.fn Fn.laws_eqValue [] [])) [.t 27, .t 29]⟩,
  ⟨(some 31), none, .un .not (.t 30)⟩]) (.cond (.t 31) (.seq (.reg [⟨(some 4), none, .mov (.c (.bool false))⟩]) (.ret)) (.skip))) (.seq (.seq (.reg [⟨(some 32), none, .fld 6 (.t 2)⟩,
  ⟨(some 33), none, .load 1 false (.t 32)⟩,
  ⟨(some 34), none, .fld 6 (.t 3)⟩,
  ⟨(some 35), none, .load 1 false (.t 34)⟩,
  ⟨(some 36), none, .call (.c (.fn Fn.laws_eqSentS [] [])) [.t 33, .t 35]⟩,
  ⟨(some 37), none, .un .not (.t 36)⟩]) (.cond (.t 37) (.seq (.reg [⟨(some 4), none, .mov (.c (.bool false))⟩]) (.ret)) (.skip))) (.seq (.seq (.reg [⟨(some 38), none, .fld 7 (.t 2)⟩,
  ⟨(some 39), none, .load 1 false (.t 38)⟩,
  ⟨(some 40), none, .fld 7 (.t 3)⟩,
  ⟨(some 41), none, .load 1 false (.t 40)⟩,
  ⟨(some 42), none, .call (.c (.fn Fn.laws_eqAskerS [] [])) [.t 39, .t 41]⟩,
  ⟨(some 43), none, .un .not (.t 42)⟩]) (.cond (.t 43) (.seq (.reg [⟨(some 4), none, .mov (.c (.bool false))⟩]) (.ret)) (.skip))) (.seq (.seq (.reg [⟨(some 44), none, .fld 8 (.t 2)⟩,
  ⟨(some 45), none, .load 1 false (.t 44)⟩,
  ⟨(some 46), none, .fld 8 (.t 3)⟩,
  ⟨(some 47), none, .load 1 false (.t 46)⟩,
  ⟨(some 48), none, .bin .neq (.num) (.t 45) (.t 47)⟩]) (.cond (.t 48) (.seq (.reg [⟨(some 4), none, .mov (.c (.bool false))⟩]) (.ret)) (.skip))) (.seq (.seq (.reg [⟨(some 49), none, .fld 9 (.t 2)⟩,
  ⟨(some 50), none, .load 1 false (.t 49)⟩,
  ⟨(some 51), none, .fld 9 (.t 3)⟩,
  ⟨(some 52), none, .load 1 false (.t 51)⟩,
  ⟨(some 53), none, .bin .neq (.num) (.t 50) (.t 52)⟩]) (.cond (.t 53) (.seq (.reg [⟨(some 4), none, .mov (.c (.bool false))⟩]) (.ret)) (.skip))) (.seq (.seq (.reg [⟨(some 54), none, .fld 10 (.t 2)⟩,
  ⟨(some 55), none, .load 1 false (.t 54)⟩,
  ⟨(some 56), none, .fld 10 (.t 3)⟩,
  ⟨(some 57), none, .load 1 false (.t 56)⟩,
  ⟨(some 58), none, .bin .neq (.num) (.t 55) (.t 57)⟩]) (.cond (.t 58) (.seq (.reg [⟨(some 4), none, .mov (.c (.bool false))⟩]) (.ret)) (.skip))) (.seq (.seq (.reg [⟨(some 59), none, .fld 11 (.t 2)⟩,
  ⟨(some 60), none, .load 1 false (.t 59)⟩,
  ⟨(some 61), none, .fld 11 (.t 3)⟩,
  ⟨(some 62), none, .load 1 false (.t 61)⟩,
  ⟨(some 63), none, .bin .neq (.num) (.t 60) (.t 62)⟩]) (.cond (.t 63) (.seq (.reg [⟨(some 4), none, .mov (.c (.bool false))⟩]) (.ret)) (.skip))) (.seq (.reg [⟨(some 4), none, .mov (.c (.bool true))⟩]) (.ret)))))))))))))
def laws_eqEntity_r : List RS := [.t 4]
theorem laws_eqEntity_e {a0 a1 : AV} {h : AH} {K : AV → AH → Prop} (hw : TC Tryz.prog Θ Γ laws_eqEntity_c (retQ laws_eqEntity_r K) ⟨[a0, a1, u, u, u, u, u, u, u, u, u, u, u, u, u, u, u, u, u, u, u, u, u, u, u, u, u, u, u, u, u, u, u, u, u, u, u, u, u, u, u, u, u, u, u, u, u, u, u, u, u, u, u, u, u, u, u, u, u, u, u, u, u, u], [], h⟩) : T Tryz.prog Γ Fn.laws_eqEntity [a0, a1] h K :=
  T_of_body tabOK Tryz.func123 (code := bodyOf Tryz.f123) (by kernel_rfl) (by kernel_rfl) (by kernel_rfl) (by kernel_rfl) hw
def laws_eqSent_c : C := .seq (.reg [⟨(some 2), none, .box (.t 0)⟩,
  ⟨(some 3), none, .box (.t 1)⟩,
  ⟨(some 4), none, .mov (.c (.bool false))⟩]) (.seq (.seq (.reg [⟨(some 5), none, .fld 0 (.t 2)⟩,
  ⟨(some 6), none, .load 1 false (.t 5)⟩,
  ⟨(some 7), none, .fld 0 (.t 3)⟩,
  ⟨(some 8), none, .load 1 false (.t 7)⟩,
  ⟨(some 9), none, .bin .neq (.num) (.t 6) (.t 8)⟩]) (.cond (.t 9) (.seq (.reg [⟨(some 4), none, .mov (.c (.bool false))⟩]) (.ret)) (.skip))) (.seq (.seq (.reg [⟨(some 10), none, .fld 1 (.t 2)⟩,
  ⟨(some 11), none, .load 1 false (.t 10)⟩,
  ⟨(some 12), none, .fld 1 (.t 3)⟩,
  ⟨(some 13), none, .load 1 false (.t 12)⟩,
  ⟨(some 14), none, .bin .neq (.num) (.t 11) (.t 13)⟩]) (.cond (.t 14) (.seq (.reg [⟨(some 4), none, .mov (.c (.bool false))⟩]) (.ret)) (.skip))) (.seq (.seq (.reg [⟨(some 15), none, .fld 2 (.t 2)⟩,
  ⟨(some 16), none, .load 1 false (.t 15)⟩,
  ⟨(some 17), none, .fld 2 (.t 3)⟩,
  ⟨(some 18), none, .load 1 false (.t 17)⟩,
  ⟨(some 19), none, .call (.c (.fn Fn.laws_eqValueS [] [])) [.t 16, .t 18]⟩,
  ⟨(some 20), none, .un .not (.t 19)⟩]) (.cond (.t 20) (.seq (.reg [⟨(some 4), none, .mov (.c (.bool false))⟩]) (.ret)) (.skip))) (.seq (.seq (.reg [⟨(some 21), none, .fld 3 (.t 2)⟩,
  ⟨(some 22), none, .load 1 false (.t 21)⟩,
  ⟨(some 23), none, .fld 3 (.t 3)⟩,
  ⟨(some 24), none, .load 1 false (.t 23)⟩,
  ⟨(some 25), none, .bin .neq (.num) (.t 22) (.t 24)⟩]) (.cond (.t 25) (.seq (.reg [⟨(some 4), none, .mov (.c (.bool false))⟩]) (.ret)) (.skip))) (.seq (.seq (.reg [⟨(some 26), none, .fld 4 (.t 2)⟩,
  ⟨(some 27), none, .load 3 true (.t 26)⟩,
  ⟨(some 28), none, .fld 4 (.t 3)⟩,
  ⟨(some 29), none, .load 3 true (.t 28)⟩,
  ⟨(some 30), none, .call (.c (.fn Fn.laws_eqTag [] [])) [.t 27, .t 29]⟩,
  ⟨(some 31), none, .un .not (.t 30)⟩]) (.cond (.t 31) (.seq (.reg [⟨(some 4), none, .mov (.c (.bool false))⟩]) (.ret)) (.skip))) (.seq (.reg [⟨(some 4), none, .mov (.c (.bool true))⟩]) (.ret)))))))
def laws_eqSent_r : List RS := [.t 4]
theorem laws_eqSent_e {a0 a1 : AV} {h : AH} {K : AV → AH → Prop} (hw : TC Tryz.prog Θ Γ laws_eqSent_c (retQ laws_eqSent_r K) ⟨[a0, a1, u, u, u, u, u, u, u, u, u, u, u, u, u, u, u, u, u, u, u, u, u, u, u, u, u, u, u, u, u, u], [], h⟩) : T Tryz.prog Γ Fn.laws_eqSent [a0, a1] h K :=
  T_of_body tabOK Tryz.func124 (code := bodyOf Tryz.f124) (by kernel_rfl) (by kernel_rfl) (by kernel_rfl) (by kernel_rfl) hw
def laws_eqLink_c : C := .seq (.reg [⟨(some 2), none, .box (.t 0)⟩,
  ⟨(some 3), none, .box (.t 1)⟩,
  ⟨(some 4), none, .mov (.c (.bool false))⟩]) (.seq (.seq (.reg [⟨(some 5), none, .fld 0 (.t 2)⟩,
  ⟨(some 6), none, .load 1 false (.t 5)⟩,
  ⟨(some 7), none, .fld 0 (.t 3)⟩,
  ⟨(some 8), none, .load 1 false (.t 7)⟩,
  ⟨(some 9), none, .bin .neq (.num) (.t 6) (.t 8)⟩]) (.cond (.t 9) (.seq (.reg [⟨(some 4), none, .mov (.c (.bool false))⟩]) (.ret)) (.skip))) (.seq (.seq (.reg [⟨(some 10), none, .fld 1 (.t 2)⟩,
  ⟨(some 11), none, .load 1 false (.t 10)⟩,
  ⟨(some 12), none, .fld 1 (.t 3)⟩,
  ⟨(some 13), none, .load 1 false (.t 12)⟩,
  ⟨(some 14), none, .bin .neq (.bool) (.t 11) (.t 13)⟩]) (.cond (.t 14) (.seq (.reg [⟨(some 4), none, .mov (.c (.bool false))⟩]) (.ret)) (.skip))) (.seq (.seq (.reg [⟨(some 15), none, .fld 2 (.t 2)⟩,
  ⟨(some 16), none, .load 1 false (.t 15)⟩,
  ⟨(some 17), none, .fld 2 (.t 3)⟩,
  ⟨(some 18), none, .load 1 false (.t 17)⟩,
  ⟨(some 19), none, .call (.c (.fn Fn.laws_eqExportS [] [])) [.t 16, .t 18]⟩,
  ⟨(some 20), none, .un .not (.t 19)⟩]) (.cond (.t 20) (.seq (.reg [⟨(some 4), none, .mov (.c (.bool false))⟩]) (.ret)) (.skip))) (.seq (.seq (.reg [⟨(some 21), none, .fld 3 (.t 2)⟩,
  ⟨(some 22), none, .load 1 false (.t 21)⟩,
  ⟨(some 23), none, .fld 3 (.t 3)⟩,
  ⟨(some 24), none, .load 1 false (.t 23)⟩,
  ⟨(some 25), none, .bin .neq (.num) (.t 22) (.t 24)⟩]) (.cond (.t 25) (.seq (.reg [⟨(some 4), none, .mov (.c (.bool false))⟩]) (.ret)) (.skip))) (.seq (.seq (.reg [⟨(some 26), none, .fld 4 (.t 2)⟩,
  ⟨(some 27), none, .load 1 false (.t 26)⟩,
  ⟨(some 28), none, .fld 4 (.t 3)⟩,
  ⟨(some 29), none, .load 1 false (.t 28)⟩,
  ⟨(some 30), none, .call (.c (.fn Fn.laws_eqQuestionS [] [])) [.t 27, .t 29]⟩,
  ⟨(some 31), none, .un .not (.t 30)⟩]) (.cond (.t 31) (.seq (.reg [⟨(some 4), none, .mov (.c (.bool false))⟩]) (.ret)) (.skip))) (.seq (.seq (.reg [⟨(some 32), none, .fld 5 (.t 2)⟩,
  ⟨(some 33), none, .load 1 false (.t 32)⟩,
  ⟨(some 34), none, .fld 5 (.t 3)⟩,
  ⟨(some 35), none, .load 1 false (.t 34)⟩,
  ⟨(some 36), none, .bin .neq (.num) (.t 33) (.t 35)⟩]) (.cond (.t 36) (.seq (.reg [⟨(some 4), none, .mov (.c (.bool false))⟩]) (.ret)) (.skip))) (.seq (.seq (.reg [⟨(some 37), none, .fld 6 (.t 2)⟩,
  ⟨(some 38), none, .load 1 false (.t 37)⟩,
  ⟨(some 39), none, .fld 6 (.t 3)⟩,
  ⟨(some 40), none, .load 1 false (.t 39)⟩,
  ⟨(some 41), none, .call (.c (.fn Fn.laws_eqQuestionS [] [])) [.t 38, .t 40]⟩,
  ⟨(some 42), none, .un .not (.t 41)⟩]) (.cond (.t 42) (.seq (.reg [⟨(some 4), none, .mov (.c (.bool false))⟩]) (.ret)) (.skip))) (.seq (.reg [⟨(some 4), none, .mov (.c (.bool true))⟩]) (.ret)))))))))
def laws_eqLink_r : List RS := [.t 4]
theorem laws_eqLink_e {a0 a1 : AV} {h : AH} {K : AV → AH → Prop} (hw : TC Tryz.prog Θ Γ laws_eqLink_c (retQ laws_eqLink_r K) ⟨[a0, a1, u, u, u, u, u, u, u, u, u, u, u, u, u, u, u, u, u, u, u, u, u, u, u, u, u, u, u, u, u, u, u, u, u, u, u, u, u, u, u, u, u], [], h⟩) : T Tryz.prog Γ Fn.laws_eqLink [a0, a1] h K :=
  T_of_body tabOK Tryz.func125 (code := bodyOf Tryz.f125) (by kernel_rfl) (by kernel_rfl) (by kernel_rfl) (by kernel_rfl) hw
def laws_eqOutgoing_c : C := .seq (.reg [⟨(some 2), none, .box (.t 0)⟩,
  ⟨(some 3), none, .box (.t 1)⟩,
  ⟨(some 4), none, .mov (.c (.bool false))⟩]) (.seq (.seq (.reg [⟨(some 5), none, .fld 0 (.t 2)⟩,
  ⟨(some 6), none, .load 1 false (.t 5)⟩,
  ⟨(some 7), none, .fld 0 (.t 3)⟩,
  ⟨(some 8), none, .load 1 false (.t 7)⟩,
  ⟨(some 9), none, .bin .neq (.num) (.t 6) (.t 8)⟩]) (.cond (.t 9) (.seq (.reg [⟨(some 4), none, .mov (.c (.bool false))⟩]) (.ret)) (.skip))) (.seq (.seq (.reg [⟨(some 10), none, .fld 1 (.t 2)⟩,
  ⟨(some 11), none, .load 12 true (.t 10)⟩,
  ⟨(some 12), none, .fld 1 (.t 3)⟩,
  ⟨(some 13), none, .load 12 true (.t 12)⟩,
  ⟨(some 14), none, .call (.c (.fn Fn.laws_eqMessage [] [])) [.t 11, .t 13]⟩,
  ⟨(some 15), none, .un .not (.t 14)⟩]) (.cond (.t 15) (.seq (.reg [⟨(some 4), none, .mov (.c (.bool false))⟩]) (.ret)) (.skip))) (.seq (.reg [⟨(some 4), none, .mov (.c (.bool true))⟩]) (.ret))))
def laws_eqOutgoing_r : List RS := [.t 4]
theorem laws_eqOutgoing_e {a0 a1 : AV} {h : AH} {K : AV → AH → Prop} (hw : TC Tryz.prog Θ Γ laws_eqOutgoing_c (retQ laws_eqOutgoing_r K) ⟨[a0, a1, u, u, u, u, u, u, u, u, u, u, u, u, u, u], [], h⟩) : T Tryz.prog Γ Fn.laws_eqOutgoing [a0, a1] h K :=
  T_of_body tabOK Tryz.func126 (code := bodyOf Tryz.f126) (by kernel_rfl) (by kernel_rfl) (by kernel_rfl) (by kernel_rfl) hw
def laws_markValueS_c : C := .seq (.reg [⟨(some 4), none, .mov (.c (.int .i64 0))⟩]) (.seq (.seq (.reg [⟨(some 5), none, .mov (.c (.int .i64 0))⟩]) (.block 0 (.loop (.seq (.seq (.reg [⟨(some 6), none, .mov (.t 5)⟩,
  ⟨(some 7), none, .mov (.t 0)⟩,
  ⟨(some 8), none, .len false (.t 7)⟩,
  ⟨(some 9), none, .bin .lss (.num) (.t 6) (.t 8)⟩]) (.cond (.t 9) (.skip) (.exit 0))) (.seq (.block 1 (.seq (.reg [⟨(some 12), none, .mov (.t 0)⟩,
  ⟨(some 13), none, .mov (.t 5)⟩,
  ⟨(some 14), none, .mov (.t 1)⟩,
  ⟨(some 15), none, .idxs 2 (.t 12) (.t 13)⟩,
  ⟨(some 16), none, .fld 0 (.t 15)⟩,
  ⟨none, none, .store 1 (.t 16) (.t 14)⟩]) (.seq (.reg [⟨(some 17), none, .mov (.t 1)⟩,
  ⟨(some 18), none, .bin .add (.num) (.t 17) (.c (.int .i64 1))⟩,
  ⟨(some 1), none, .mov (.t 18)⟩]) (.seq (.reg [⟨(some 19), none, .mov (.t 0)⟩,
  ⟨(some 20), none, .mov (.t 5)⟩,
  ⟨(some 21), none, .mov (.t 1)⟩,
  ⟨(some 22), none, .idxs 2 (.t 19) (.t 20)⟩,
  ⟨(some 23), none, .fld 1 (.t 22)⟩,
  ⟨none, none, .store 1 (.t 23) (.t 21)⟩]) (.reg [⟨(some 24), none, .mov (.t 1)⟩,
  ⟨(some 25), none, .bin .add (.num) (.t 24) (.c (.int .i64 1))⟩,
  ⟨(some 1), none, .mov (.t 25)⟩]))))) (.reg [⟨(some 10), none, .mov (.t 5)⟩,
  ⟨(some 11), none, .bin .add (.num) (.t 10) (.c (.int .i64 1))⟩,
  ⟨(some 5), none, .mov (.t 11)⟩])))))) (.seq (.reg [⟨(some 26), none, .mov (.t 1)⟩,
  ⟨(some 4), none, .mov (.t 26)⟩]) (.ret)))
def laws_markValueS_r : List RS := [.t 4]
def laws_markValueS_s0 (t0 t1 t5 : AV) (loc : List (List AV)) (h : AH) : St := ⟨[t0, t1, .any, .any, .any, t5, .any, .any, .any, .any, .any, .any, .any, .any, .any, .any, .any, .any, .any, .any, .any, .any, .any, .any, .any, .any, .any], loc, h⟩
theorem laws_markValueS_e {a0 a1 : AV} {h : AH} {K : AV → AH → Prop} (hw : TC Tryz.prog Θ Γ laws_markValueS_c (retQ laws_markValueS_r K) ⟨[a0, a1, u, u, u, u, u, u, u, u, u, u, u, u, u, u, u, u, u, u, u, u, u, u, u, u, u], [], h⟩) : T Tryz.prog Γ Fn.laws_markValueS [a0, a1] h K :=
  T_of_body tabOK Tryz.func127 (code := bodyOf Tryz.f127) (by kernel_rfl) (by kernel_rfl) (by kernel_rfl) (by kernel_rfl) hw
def laws_markAskerS_c : C := .seq (.reg [⟨(some 4), none, .mov (.c (.int .i64 0))⟩]) (.seq (.seq (.reg [⟨(some 5), none, .mov (.c (.int .i64 0))⟩]) (.block 0 (.loop (.seq (.seq (.reg [⟨(some 6), none, .mov (.t 5)⟩,
  ⟨(some 7), none, .mov (.t 0)⟩,
  ⟨(some 8), none, .len false (.t 7)⟩,
  ⟨(some 9), none, .bin .lss (.num) (.t 6) (.t 8)⟩]) (.cond (.t 9) (.skip) (.exit 0))) (.seq (.block 1 (.seq (.reg [⟨(some 12), none, .mov (.t 0)⟩,
  ⟨(some 13), none, .mov (.t 5)⟩,
  ⟨(some 14), none, .mov (.t 1)⟩,
  ⟨(some 15), none, .idxs 2 (.t 12) (.t 13)⟩,
  ⟨(some 16), none, .fld 0 (.t 15)⟩,
  ⟨none, none, .store 1 (.t 16) (.t 14)⟩]) (.seq (.reg [⟨(some 17), none, .mov (.t 1)⟩,
  ⟨(some 18), none, .bin .add (.num) (.t 17) (.c (.int .i64 1))⟩,
  ⟨(some 1), none, .mov (.t 18)⟩]) (.seq (.reg [⟨(some 19), none, .mov (.t 0)⟩,
  ⟨(some 20), none, .mov (.t 5)⟩,
  ⟨(some 21), none, .mov (.t 1)⟩,
  ⟨(some 22), none, .idxs 2 (.t 19) (.t 20)⟩,
  ⟨(some 23), none, .fld 1 (.t 22)⟩,
  ⟨none, none, .store 1 (.t 23) (.t 21)⟩]) (.reg [⟨(some 24), none, .mov (.t 1)⟩,
  ⟨(some 25), none, .bin .add (.num) (.t 24) (.c (.int .i64 1))⟩,
  ⟨(some 1), none, .mov (.t 25)⟩]))))) (.reg [⟨(some 10), none, .mov (.t 5)⟩,
  ⟨(some 11), none, .bin .add (.num) (.t 10) (.c (.int .i64 1))⟩,
  ⟨(some 5), none, .mov (.t 11)⟩])))))) (.seq (.reg [⟨(some 26), none, .mov (.t 1)⟩,
  ⟨(some 4), none, .mov (.t 26)⟩]) (.ret)))
def laws_markAskerS_r : List RS := [.t 4]
def laws_markAskerS_s0 (t0 t1 t5 : AV) (loc : List (List AV)) (h : AH) : St := ⟨[t0, t1, .any, .any, .any, t5, .any, .any, .any, .any, .any, .any, .any, .any, .any, .any, .any, .any, .any, .any, .any, .any, .any, .any, .any, .any, .any], loc, h⟩
theorem laws_markAskerS_e {a0 a1 : AV} {h : AH} {K : AV → AH → Prop} (hw : TC Tryz.prog Θ Γ laws_markAskerS_c (retQ laws_markAskerS_r K) ⟨[a0, a1, u, u, u, u, u, u, u, u, u, u, u, u, u, u, u, u, u, u, u, u, u, u, u, u, u], [], h⟩) : T Tryz.prog Γ Fn.laws_markAskerS [a0, a1] h K :=
  T_of_body tabOK Tryz.func128 (code := bodyOf Tryz.f128) (by kernel_rfl) (by kernel_rfl) (by kernel_rfl) (by kernel_rfl) hw
def laws_markText_c : C := .seq (.reg [⟨(some 2), none, .mov (.c (.str ⟨#[]⟩))⟩]) (.seq (.seq (.reg [⟨(some 4), none, .mov (.t 0)⟩,
  ⟨(some 5), none, .bin .leq (.num) (.t 4) (.c (.int .i64 0))⟩]) (.cond (.t 5) (.seq (.reg [⟨(some 2), none, .mov (.c (.str ⟨#[109, 48]⟩))⟩]) (.ret)) (.skip))) (.seq (.reg [⟨(some 3), none, .mov (.c (.str ⟨#[]⟩))⟩]) (.seq (.block 0 (.loop (.seq (.seq (.reg [⟨(some 6), none, .mov (.t 0)⟩,
  ⟨(some 7), none, .bin .gtr (.num) (.t 6) (.c (.int .i64 0))⟩]) (.cond (.t 7) (.skip) (.exit 0))) (.block 1 (.seq (.reg [⟨(some 8), none, .mov (.t 0)⟩,
  ⟨(some 9), none, .bin .rem (.num) (.t 8) (.c (.int .i64 10))⟩,
  ⟨(some 10), none, .bin .add (.num) (.c (.int .i64 48)) (.t 9)⟩,
  ⟨(some 11), none, .cvi .u8 (.t 10)⟩,
  ⟨(some 12), none, .bsl 1 1 [.int .u8 0] [(0, .t 11)]⟩,
  ⟨(some 13), none, .cvt (.t 12)⟩,
  ⟨(some 14), none, .mov (.t 3)⟩,
  ⟨(some 15), none, .bin .add (.num) (.t 13) (.t 14)⟩,
  ⟨(some 3), none, .mov (.t 15)⟩]) (.reg [⟨(some 16), none, .mov (.t 0)⟩,
  ⟨(some 17), none, .bin .quo (.num) (.t 16) (.c (.int .i64 10))⟩,
  ⟨(some 0), none, .mov (.t 17)⟩])))))) (.seq (.reg [⟨(some 18), none, .mov (.t 3)⟩,
  ⟨(some 19), none, .bin .add (.num) (.c (.str ⟨#[109]⟩)) (.t 18)⟩,
  ⟨(some 2), none, .mov (.t 19)⟩]) (.ret)))))
def laws_markText_r : List RS := [.t 2]
def laws_markText_s0 (t0 t3 : AV) (loc : List (List AV)) (h : AH) : St := ⟨[t0, .any, .any, t3, .any, .any, .any, .any, .any, .any, .any, .any, .any, .any, .any, .any, .any, .any, .any, .any], loc, h⟩
theorem laws_markText_e {a0 : AV} {h : AH} {K : AV → AH → Prop} (hw : TC Tryz.prog Θ Γ laws_markText_c (retQ laws_markText_r K) ⟨[a0, u, u, u, u, u, u, u, u, u, u, u, u, u, u, u, u, u, u, u], [], h⟩) : T Tryz.prog Γ Fn.laws_markText [a0] h K :=
  T_of_body tabOK Tryz.func129 (code := bodyOf Tryz.f129) (by kernel_rfl) (by kernel_rfl) (by kernel_rfl) (by kernel_rfl) hw
def laws_markExportS_c : C := .seq (.reg [⟨(some 4), none, .mov (.c (.int .i64 0))⟩]) (.seq (.seq (.reg [⟨(some 5), none, .mov (.c (.int .i64 0))⟩]) (.block 0 (.loop (.seq (.seq (.reg [⟨(some 6), none, .mov (.t 5)⟩,
  ⟨(some 7), none, .mov (.t 0)⟩,
  ⟨(some 8), none, .len false (.t 7)⟩,
  ⟨(some 9), none, .bin .lss (.num) (.t 6) (.t 8)⟩]) (.cond (.t 9) (.skip) (.exit 0))) (.seq (.block 1 (.seq (.reg [⟨(some 12), none, .mov (.t 0)⟩,
  ⟨(some 13), none, .mov (.t 5)⟩,
  ⟨(some 14), none, .mov (.t 1)⟩,
  ⟨(some 15), none, .idxs 3 (.t 12) (.t 13)⟩,
  ⟨(some 16), none, .fld 0 (.t 15)⟩,
  ⟨none, none, .store 1 (.t 16) (.t 14)⟩]) (.seq (.reg [⟨(some 17), none, .mov (.t 1)⟩,
  ⟨(some 18), none, .bin .add (.num) (.t 17) (.c (.int .i64 1))⟩,
  ⟨(some 1), none, .mov (.t 18)⟩]) (.seq (.reg [⟨(some 19), none, .mov (.t 0)⟩,
  ⟨(some 20), none, .mov (.t 5)⟩,
  ⟨(some 21), none, .mov (.t 1)⟩,
  ⟨(some 22), none, .idxs 3 (.t 19) (.t 20)⟩,
  ⟨(some 23), none, .fld 1 (.t 22)⟩,
  ⟨none, none, .store 1 (.t 23) (.t 21)⟩]) (.seq (.reg [⟨(some 24), none, .mov (.t 1)⟩,
  ⟨(some 25), none, .bin .add (.num) (.t 24) (.c (.int .i64 1))⟩,
  ⟨(some 1), none, .mov (.t 25)⟩]) (.seq (.reg [⟨(some 26), none, .mov (.t 0)⟩,
  ⟨(some 27), none, .mov (.t 5)⟩,
  ⟨(some 28), none, .mov (.t 1)⟩,
  ⟨(some 29), none, .idxs 3 (.t 26) (.t 27)⟩,
  ⟨(some 30), none, .fld 2 (.t 29)⟩,
  ⟨none, none, .store 1 (.t 30) (.t 28)⟩]) (.reg [⟨(some 31), none, .mov (.t 1)⟩,
  ⟨(some 32), none, .bin .add (.num) (.t 31) (.c (.int .i64 1))⟩,
  ⟨(some 1), none, .mov (.t 32)⟩]))))))) (.reg [⟨(some 10), none, .mov (.t 5)⟩,
  ⟨(some 11), none, .bin .add (.num) (.t 10) (.c (.int .i64 1))⟩,
  ⟨(some 5), none, .mov (.t 11)⟩])))))) (.seq (.reg [⟨(some 33), none, .mov (.t 1)⟩,
  ⟨(some 4), none, .mov (.t 33)⟩]) (.ret)))
def laws_markExportS_r : List RS := [.t 4]
def laws_markExportS_s0 (t0 t1 t5 : AV) (loc : List (List AV)) (h : AH) : St := ⟨[t0, t1, .any, .any, .any, t5, .any, .any, .any, .any, .any, .any, .any, .any, .any, .any, .any, .any, .any, .any, .any, .any, .any, .any, .any, .any, .any, .any, .any, .any, .any, .any, .any, .any], loc, h⟩
theorem laws_markExportS_e {a0 a1 : AV} {h : AH} {K : AV → AH → Prop} (hw : TC Tryz.prog Θ Γ laws_markExportS_c (retQ laws_markExportS_r K) ⟨[a0, a1, u, u, u, u, u, u, u, u, u, u, u, u, u, u, u, u, u, u, u, u, u, u, u, u, u, u, u, u, u, u, u, u], [], h⟩) : T Tryz.prog Γ Fn.laws_markExportS [a0, a1] h K :=
  T_of_body tabOK Tryz.func130 (code := bodyOf Tryz.f130) (by kernel_rfl) (by kernel_rfl) (by kernel_rfl) (by kernel_rfl) hw
def laws_markQuestionS_c : C := .seq (.reg [⟨(some 4), none, .mov (.c (.int .i64 0))⟩]) (.seq (.seq (.reg [⟨(some 5), none, .mov (.c (.int .i64 0))⟩]) (.block 0 (.loop (.seq (.seq (.reg [⟨(some 6), none, .mov (.t 5)⟩,
  ⟨(some 7), none, .mov (.t 0)⟩,
  ⟨(some 8), none, .len false (.t 7)⟩,
  ⟨(some 9), none, .bin .lss (.num) (.t 6) (.t 8)⟩]) (.cond (.t 9) (.skip) (.exit 0))) (.seq (.block 1 (.seq (.reg [⟨(some 12), none, .mov (.t 0)⟩,
  ⟨(some 13), none, .mov (.t 5)⟩,
  ⟨(some 14), none, .mov (.t 1)⟩,
  ⟨(some 15), none, .idxs 2 (.t 12) (.t 13)⟩,
  ⟨(some 16), none, .fld 0 (.t 15)⟩,
  ⟨none, none, .store 1 (.t 16) (.t 14)⟩]) (.seq (.reg [⟨(some 17), none, .mov (.t 1)⟩,
  ⟨(some 18), none, .bin .add (.num) (.t 17) (.c (.int .i64 1))⟩,
  ⟨(some 1), none, .mov (.t 18)⟩]) (.seq (.reg [⟨(some 19), none, .mov (.t 0)⟩,
  ⟨(some 20), none, .mov (.t 5)⟩,
  ⟨(some 21), none, .mov (.t 1)⟩,
  ⟨(some 22), none, .idxs 2 (.t 19) (.t 20)⟩,
  ⟨(some 23), none, .fld 1 (.t 22)⟩,
  ⟨none, none, .store 1 (.t 23) (.t 21)⟩]) (.reg [⟨(some 24), none, .mov (.t 1)⟩,
  ⟨(some 25), none, .bin .add (.num) (.t 24) (.c (.int .i64 1))⟩,
  ⟨(some 1), none, .mov (.t 25)⟩]))))) (.reg [⟨(some 10), none, .mov (.t 5)⟩,
  ⟨(some 11), none, .bin .add (.num) (.t 10) (.c (.int .i64 1))⟩,
  ⟨(some 5), none, .mov (.t 11)⟩])))))) (.seq (.reg [⟨(some 26), none, .mov (.t 1)⟩,
  ⟨(some 4), none, .mov (.t 26)⟩]) (.ret)))
def laws_markQuestionS_r : List RS := [.t 4]
def laws_markQuestionS_s0 (t0 t1 t5 : AV) (loc : List (List AV)) (h : AH) : St := ⟨[t0, t1, .any, .any, .any, t5, .any, .any, .any, .any, .any, .any, .any, .any, .any, .any, .any, .any, .any, .any, .any, .any, .any, .any, .any, .any, .any], loc, h⟩
theorem laws_markQuestionS_e {a0 a1 : AV} {h : AH} {K : AV → AH → Prop} (hw : TC Tryz.prog Θ Γ laws_markQuestionS_c (retQ laws_markQuestionS_r K) ⟨[a0, a1, u, u, u, u, u, u, u, u, u, u, u, u, u, u, u, u, u, u, u, u, u, u, u, u, u], [], h⟩) : T Tryz.prog Γ Fn.laws_markQuestionS [a0, a1] h K :=
  T_of_body tabOK Tryz.func131 (code := bodyOf Tryz.f131) (by kernel_rfl) (by kernel_rfl) (by kernel_rfl) (by kernel_rfl) hw
def spec_l9CopySents_c : C := .seq (.reg [⟨(some 2), none, .mov (.c (.nils))⟩]) (.seq (.reg [⟨(some 6), none, .bsl 7 0 [.int .i64 0, .str ⟨#[]⟩, .nils, .int .i64 0, .int .i64 0, .int .i64 0, .int .i64 0] []⟩,
  ⟨(some 3), none, .mov (.t 6)⟩]) (.seq (.seq (.reg [⟨(some 4), none, .mov (.c (.int .i64 0))⟩]) (.block 0 (.loop (.seq (.seq (.reg [⟨(some 7), none, .mov (.t 4)⟩,
  ⟨(some 8), none, .mov (.t 0)⟩,
  ⟨(some 9), none, .len false (.t 8)⟩,
  ⟨(some 10), none, .bin .lss (.num) (.t 7) (.t 9)⟩]) (.cond (.t 10) (.skip) (.exit 0))) (.seq (.block 1 (.seq (.reg [⟨(some 13), none, .mov (.t 0)⟩,
  ⟨(some 14), none, .mov (.t 4)⟩,
  ⟨(some 15), none, .idxs 7 (.t 13) (.t 14)⟩,
  ⟨(some 16), none, .load 7 true (.t 15)⟩,
  ⟨(some 5), none, .alloc [.int .i64 0, .str ⟨#[]⟩, .nils, .int .i64 0, .int .i64 0, .int .i64 0, .int .i64 0]⟩,
  ⟨none, none, .store 7 (.t 5) (.t 16)⟩]) (.seq (.reg [⟨(some 17), none, .bsl 2 0 [.int .i64 0, .int .i64 0] []⟩,
  ⟨(some 18), none, .mov (.t 0)⟩,
  ⟨(some 19), none, .mov (.t 4)⟩,
  ⟨(some 20), none, .idxs 7 (.t 18) (.t 19)⟩,
  ⟨(some 21), none, .fld 2 (.t 20)⟩,
  ⟨(some 22), none, .load 1 false (.t 21)⟩,
  ⟨(some 23), none, .app 2 16 [.int .i64 0, .int .i64 0] false (.t 17) (.t 22)⟩,
  ⟨(some 24), none, .fld 2 (.t 5)⟩,
  ⟨none, none, .store 1 (.t 24) (.t 23)⟩]) (.reg [⟨(some 25), none, .mov (.t 3)⟩,
  ⟨(some 26), none, .load 7 true (.t 5)⟩,
  ⟨(some 27), none, .bsl 7 1 [.int .i64 0, .str ⟨#[]⟩, .nils, .int .i64 0, .int .i64 0, .int .i64 0, .int .i64 0] [(0, .t 26)]⟩,
  ⟨(some 28), none, .app 7 80 [.int .i64 0, .str ⟨#[]⟩, .nils, .int .i64 0, .int .i64 0, .int .i64 0, .int .i64 0] false (.t 25) (.t 27)⟩,
  ⟨(some 3), none, .mov (.t 28)⟩])))) (.reg [⟨(some 11), none, .mov (.t 4)⟩,
  ⟨(some 12), none, .bin .add (.num) (.t 11) (.c (.int .i64 1))⟩,
  ⟨(some 4), none, .mov (.t 12)⟩])))))) (.seq (.reg [⟨(some 29), none, .mov (.t 3)⟩,
  ⟨(some 2), none, .mov (.t 29)⟩]) (.ret))))
def spec_l9CopySents_r : List RS := [.t 2]
def spec_l9CopySents_s0 (t0 t3 t4 : AV) (loc : List (List AV)) (h : AH) : St := ⟨[t0, .any, .any, t3, t4, .any, .any, .any, .any, .any, .any, .any, .any, .any, .any, .any, .any, .any, .any, .any, .any, .any, .any, .any, .any, .any, .any, .any, .any, .any], loc, h⟩
theorem spec_l9CopySents_e {a0 : AV} {h : AH} {K : AV → AH → Prop} (hw : TC Tryz.prog Θ Γ spec_l9CopySents_c (retQ spec_l9CopySents_r K) ⟨[a0, u, u, u, u, u, u, u, u, u, u, u, u, u, u, u, u, u, u, u, u, u, u, u, u, u, u, u, u, u], [], h⟩) : T Tryz.prog Γ Fn.spec_l9CopySents [a0] h K :=
  T_of_body tabOK Tryz.func132 (code := bodyOf Tryz.f132) (by kernel_rfl) (by kernel_rfl) (by kernel_rfl) (by kernel_rfl) hw
def spec_l9Copy_c : C := .seq (.reg [⟨(some 1), none, .box (.t 0)⟩,
  ⟨(some 2), none, .alloc [.int .i64 0, .int .i64 0, .nils, .int .i64 0, .int .i64 0, .int .i64 0, .nils, .nils, .int .i64 0, .int .i64 0, .int .i64 0, .int .i64 0]⟩]) (.seq (.reg [⟨(some 4), none, .load 12 true (.t 1)⟩,
  ⟨(some 3), none, .alloc [.int .i64 0, .int .i64 0, .nils, .int .i64 0, .int .i64 0, .int .i64 0, .nils, .nils, .int .i64 0, .int .i64 0, .int .i64 0, .int .i64 0]⟩,
  ⟨none, none, .store 12 (.t 3) (.t 4)⟩]) (.seq (.reg [⟨(some 5), none, .bsl 2 0 [.int .i64 0, .int .i64 0] []⟩,
  ⟨(some 6), none, .fld 2 (.t 1)⟩,
  ⟨(some 7), none, .load 1 false (.t 6)⟩,
  ⟨(some 8), none, .app 2 16 [.int .i64 0, .int .i64 0] false (.t 5) (.t 7)⟩,
  ⟨(some 9), none, .fld 2 (.t 3)⟩,
  ⟨none, none, .store 1 (.t 9) (.t 8)⟩]) (.seq (.reg [⟨(some 10), none, .fld 6 (.t 1)⟩,
  ⟨(some 11), none, .load 1 false (.t 10)⟩,
  ⟨(some 12), none, .call (.c (.fn Fn.spec_l9CopySents [] [])) [.t 11]⟩,
  ⟨(some 13), none, .fld 6 (.t 3)⟩,
  ⟨none, none, .store 1 (.t 13) (.t 12)⟩]) (.seq (.reg [⟨(some 14), none, .bsl 2 0 [.int .i64 0, .int .i64 0] []⟩,
  ⟨(some 15), none, .fld 7 (.t 1)⟩,
  ⟨(some 16), none, .load 1 false (.t 15)⟩,
  ⟨(some 17), none, .app 2 16 [.int .i64 0, .int .i64 0] false (.t 14) (.t 16)⟩,
  ⟨(some 18), none, .fld 7 (.t 3)⟩,
  ⟨none, none, .store 1 (.t 18) (.t 17)⟩]) (.seq (.reg [⟨(some 19), none, .load 12 true (.t 3)⟩,
  ⟨none, none, .store 12 (.t 2) (.t 19)⟩]) (.ret))))))
def spec_l9Copy_r : List RS := [.cell 2 12 true]
theorem spec_l9Copy_e {a0 : AV} {h : AH} {K : AV → AH → Prop} (hw : TC Tryz.prog Θ Γ spec_l9Copy_c (retQ spec_l9Copy_r K) ⟨[a0, u, u, u, u, u, u, u, u, u, u, u, u, u, u, u, u, u, u, u], [], h⟩) : T Tryz.prog Γ Fn.spec_l9Copy [a0] h K :=
  T_of_body tabOK Tryz.func133 (code := bodyOf Tryz.f133) (by kernel_rfl) (by kernel_rfl) (by kernel_rfl) (by kernel_rfl) hw
def spec_l10Copy_c : C := .seq (.reg [⟨(some 1), none, .box (.t 0)⟩,
  ⟨(some 2), none, .alloc [.int .i64 0, .bool false, .nils, .int .i64 0, .nils, .int .i64 0, .nils]⟩]) (.seq (.reg [⟨(some 4), none, .load 7 true (.t 1)⟩,
  ⟨(some 3), none, .alloc [.int .i64 0, .bool false, .nils, .int .i64 0, .nils, .int .i64 0, .nils]⟩,
  ⟨none, none, .store 7 (.t 3) (.t 4)⟩]) (.seq (.reg [⟨(some 5), none, .bsl 3 0 [.int .i64 0, .int .i64 0, .int .i64 0] []⟩,
  ⟨(some 6), none, .fld 2 (.t 1)⟩,
  ⟨(some 7), none, .load 1 false (.t 6)⟩,
  ⟨(some 8), none, .app 3 24 [.int .i64 0, .int .i64 0, .int .i64 0] false (.t 5) (.t 7)⟩,
  ⟨(some 9), none, .fld 2 (.t 3)⟩,
  ⟨none, none, .store 1 (.t 9) (.t 8)⟩]) (.seq (.reg [⟨(some 10), none, .bsl 2 0 [.int .i64 0, .int .i64 0] []⟩,
  ⟨(some 11), none, .fld 4 (.t 1)⟩,
  ⟨(some 12), none, .load 1 false (.t 11)⟩,
  ⟨(some 13), none, .app 2 16 [.int .i64 0, .int .i64 0] false (.t 10) (.t 12)⟩,
  ⟨(some 14), none, .fld 4 (.t 3)⟩,
  ⟨none, none, .store 1 (.t 14) (.t 13)⟩]) (.seq (.reg [⟨(some 15), none, .bsl 2 0 [.int .i64 0, .int .i64 0] []⟩,
  ⟨(some 16), none, .fld 6 (.t 1)⟩,
  ⟨(some 17), none, .load 1 false (.t 16)⟩,
  ⟨(some 18), none, .app 2 16 [.int .i64 0, .int .i64 0] false (.t 15) (.t 17)⟩,
  ⟨(some 19), none, .fld 6 (.t 3)⟩,
  ⟨none, none, .store 1 (.t 19) (.t 18)⟩]) (.seq (.reg [⟨(some 20), none, .load 7 true (.t 3)⟩,
  ⟨none, none, .store 7 (.t 2) (.t 20)⟩]) (.ret))))))
def spec_l10Copy_r : List RS := [.cell 2 7 true]
theorem spec_l10Copy_e {a0 : AV} {h : AH} {K : AV → AH → Prop} (hw : TC Tryz.prog Θ Γ spec_l10Copy_c (retQ spec_l10Copy_r K) ⟨[a0, u, u, u, u, u, u, u, u, u, u, u, u, u, u, u, u, u, u, u, u], [], h⟩) : T Tryz.prog Γ Fn.spec_l10Copy [a0] h K :=
  T_of_body tabOK Tryz.func134 (code := bodyOf Tryz.f134) (by kernel_rfl) (by kernel_rfl) (by kernel_rfl) (by kernel_rfl) hw
def spec_l11Copy_c : C := .seq (.reg [⟨(some 1), none, .box (.t 0)⟩,
  ⟨(some 2), none, .alloc [.int .i64 0, .int .i64 0, .int .i64 0, .int .i64 0, .str ⟨#[]⟩, .nils, .int .i64 0, .int .i64 0, .int .i64 0, .int .i64 0, .int .i64 0, .int .i64 0]⟩]) (.seq (.reg [⟨(some 4), none, .load 12 true (.t 1)⟩,
  ⟨(some 3), none, .alloc [.int .i64 0, .int .i64 0, .int .i64 0, .int .i64 0, .str ⟨#[]⟩, .nils, .int .i64 0, .int .i64 0, .int .i64 0, .int .i64 0, .int .i64 0, .int .i64 0]⟩,
  ⟨none, none, .store 12 (.t 3) (.t 4)⟩]) (.seq (.reg [⟨(some 5), none, .bsl 2 0 [.int .i64 0, .int .i64 0] []⟩,
  ⟨(some 6), none, .fld 5 (.t 1)⟩,
  ⟨(some 7), none, .load 1 false (.t 6)⟩,
  ⟨(some 8), none, .app 2 16 [.int .i64 0, .int .i64 0] false (.t 5) (.t 7)⟩,
  ⟨(some 9), none, .fld 5 (.t 3)⟩,
  ⟨none, none, .store 1 (.t 9) (.t 8)⟩]) (.seq (.reg [⟨(some 10), none, .load 12 true (.t 3)⟩,
  ⟨none, none, .store 12 (.t 2) (.t 10)⟩]) (.ret))))
def spec_l11Copy_r : List RS := [.cell 2 12 true]
theorem spec_l11Copy_e {a0 : AV} {h : AH} {K : AV → AH → Prop} (hw : TC Tryz.prog Θ Γ spec_l11Copy_c (retQ spec_l11Copy_r K) ⟨[a0, u, u, u, u, u, u, u, u, u, u], [], h⟩) : T Tryz.prog Γ Fn.spec_l11Copy [a0] h K :=
  T_of_body tabOK Tryz.func135 (code := bodyOf Tryz.f135) (by kernel_rfl) (by kernel_rfl) (by kernel_rfl) (by kernel_rfl) hw
def impl_copiedSents_c : C := .seq (.reg [⟨(some 2), none, .mov (.c (.nils))⟩]) (.seq (.reg [⟨(some 6), none, .bsl 7 0 [.int .i64 0, .str ⟨#[]⟩, .nils, .int .i64 0, .int .i64 0, .int .i64 0, .int .i64 0] []⟩,
  ⟨(some 3), none, .mov (.t 6)⟩]) (.seq (.seq (.reg [⟨(some 7), none, .mov (.t 0)⟩,
  ⟨(some 8), none, .len false (.t 7)⟩,
  ⟨(some 9), none, .mov (.c (.int .i64 0))⟩]) (.block 0 (.loop (.seq (.reg [⟨(some 10), none, .bin .lss (.num) (.t 9) (.t 8)⟩]) (.seq (.cond (.t 10) (.skip) (.exit 0)) (.seq (.block 1 (.seq (.reg [⟨(some 11), none, .idxs 7 (.t 7) (.t 9)⟩,
  ⟨(some 12), none, .load 7 true (.t 11)⟩,
  ⟨(some 5), none, .alloc [.int .i64 0, .str ⟨#[]⟩, .nils, .int .i64 0, .int .i64 0, .int .i64 0, .int .i64 0]⟩,
  ⟨none, none, .store 7 (.t 5) (.t 12)⟩]) (.reg [⟨(some 13), none, .mov (.t 3)⟩,
  ⟨(some 14), none, .load 7 true (.t 5)⟩,
  ⟨(some 15), none, .call (.c (.fn Fn.impl_Sent_copied [] [])) [.t 14]⟩,
  ⟨(some 16), none, .bsl 7 1 [.int .i64 0, .str ⟨#[]⟩, .nils, .int .i64 0, .int .i64 0, .int .i64 0, .int .i64 0] [(0, .t 15)]⟩,
  ⟨(some 17), none, .app 7 80 [.int .i64 0, .str ⟨#[]⟩, .nils, .int .i64 0, .int .i64 0, .int .i64 0, .int .i64 0] false (.t 13) (.t 16)⟩,
  ⟨(some 3), none, .mov (.t 17)⟩]))) (.reg [⟨(some 18), none, .bin .add (.num) (.t 9) (.c (.int .i64 1))⟩,
  ⟨(some 9), none, .mov (.t 18)⟩]))))))) (.seq (.reg [⟨(some 19), none, .mov (.t 3)⟩,
  ⟨(some 2), none, .mov (.t 19)⟩]) (.ret))))
def impl_copiedSents_r : List RS := [.t 2]
def impl_copiedSents_s0 (t3 t7 t8 t9 : AV) (loc : List (List AV)) (h : AH) : St := ⟨[.any, .any, .any, t3, .any, .any, .any, t7, t8, t9, .any, .any, .any, .any, .any, .any, .any, .any, .any, .any], loc, h⟩
theorem impl_copiedSents_e {a0 : AV} {h : AH} {K : AV → AH → Prop} (hw : TC Tryz.prog Θ Γ impl_copiedSents_c (retQ impl_copiedSents_r K) ⟨[a0, u, u, u, u, u, u, u, u, u, u, u, u, u, u, u, u, u, u, u], [], h⟩) : T Tryz.prog Γ Fn.impl_copiedSents [a0] h K :=
  T_of_body tabOK Tryz.func136 (code := bodyOf Tryz.f136) (by kernel_rfl) (by kernel_rfl) (by kernel_rfl) (by kernel_rfl) hw
def impl_Entity_copied_d0_os : List O := [⟨(some 3), none, .fld 2 (.t 1)⟩,
  ⟨(some 4), none, .load 1 false (.t 3)⟩,
  ⟨(some 5), none, .call (.c (.fn Fn.slices_Clone_iimpl_Value_impl_Value [] [])) [.t 4]⟩,
  ⟨(some 6), none, .fld 6 (.t 1)⟩,
  ⟨(some 7), none, .load 1 false (.t 6)⟩,
  ⟨(some 8), none, .call (.c (.fn Fn.impl_copiedSents [] [])) [.t 7]⟩,
  ⟨(some 9), none, .fld 7 (.t 1)⟩,
  ⟨(some 10), none, .load 1 false (.t 9)⟩,
  ⟨(some 11), none, .call (.c (.fn Fn.slices_Clone_iimpl_Asker_impl_Asker [] [])) [.t 10]⟩,
  ⟨(some 12), none, .fld 2 (.t 1)⟩,
  ⟨none, none, .store 1 (.t 12) (.t 5)⟩,
  ⟨(some 13), none, .fld 6 (.t 1)⟩,
  ⟨none, none, .store 1 (.t 13) (.t 8)⟩,
  ⟨(some 14), none, .fld 7 (.t 1)⟩,
  ⟨none, none, .store 1 (.t 14) (.t 11)⟩]
def impl_Entity_copied_d0_af : List (List Nat) := [[], [0], [1], [], [3], [4, 2], [], [6], [7, 5], [0, 1, 2, 3, 4, 6, 7], [9, 2, 8, 0, 1, 2, 3, 4, 6, 7], [0, 1, 2, 3, 4, 5, 6, 7, 9, 10], [11, 5, 10, 0, 1, 2, 3, 4, 5, 6, 7, 9, 10], [0, 1, 2, 3, 4, 5, 6, 7, 8, 9, 10, 11, 12], [13, 8, 12, 0, 1, 2, 3, 4, 5, 6, 7, 8, 9, 10, 11, 12]]
theorem impl_Entity_copied_d0_q (gl : Gl) (Q : AE → St → Prop) (s : St) : aw Tryz.prog Θ Γ gl (.regD impl_Entity_copied_d0_os impl_Entity_copied_d0_af) Q s = awpT Tryz.prog Γ gl [⟨(some 3), none, .fld 2 (.t 1)⟩,
  ⟨(some 4), none, .load 1 false (.t 3)⟩,
  ⟨(some 5), none, .call (.c (.fn Fn.slices_Clone_iimpl_Value_impl_Value [] [])) [.t 4]⟩,
  ⟨(some 6), none, .fld 6 (.t 1)⟩,
  ⟨(some 7), none, .load 1 false (.t 6)⟩,
  ⟨(some 8), none, .call (.c (.fn Fn.impl_copiedSents [] [])) [.t 7]⟩,
  ⟨(some 9), none, .fld 7 (.t 1)⟩,
  ⟨(some 10), none, .load 1 false (.t 9)⟩,
  ⟨(some 11), none, .call (.c (.fn Fn.slices_Clone_iimpl_Asker_impl_Asker [] [])) [.t 10]⟩,
  ⟨(some 12), none, .fld 2 (.t 1)⟩,
  ⟨none, none, .store 1 (.t 12) (.t 5)⟩,
  ⟨(some 13), none, .fld 6 (.t 1)⟩,
  ⟨none, none, .store 1 (.t 13) (.t 8)⟩,
  ⟨(some 14), none, .fld 7 (.t 1)⟩,
  ⟨none, none, .store 1 (.t 14) (.t 11)⟩] (Q .normal) 15 (.q 0 (.q 1 (.q 3 (.q 4 (.q 6 (.q 7 (.all [(2, .q 9 (.all [(5, .q 8 (.q 10 (.q 11 (.q 12 (.q 13 (.q 14 (.done)))))))]))]))))))) s := a_dd rfl (by kernel_rfl) gl Q s
def impl_Entity_copied_c : C := .seq (.reg [⟨(some 1), none, .box (.t 0)⟩,
  ⟨(some 2), none, .alloc [.int .i64 0, .int .i64 0, .nils, .int .i64 0, .int .i64 0, .int .i64 0, .nils, .nils, .int .i64 0, .int .i64 0, .int .i64 0, .int .i64 0]⟩]) (.seq (.regD impl_Entity_copied_d0_os impl_Entity_copied_d0_af) (.seq (.reg [⟨(some 15), none, .load 12 true (.t 1)⟩,
  ⟨none, none, .store 12 (.t 2) (.t 15)⟩]) (.ret)))
def impl_Entity_copied_r : List RS := [.cell 2 12 true]
theorem impl_Entity_copied_e {a0 : AV} {h : AH} {K : AV → AH → Prop} (hw : TC Tryz.prog Θ Γ impl_Entity_copied_c (retQ impl_Entity_copied_r K) ⟨[a0, u, u, u, u, u, u, u, u, u, u, u, u, u, u, u], [], h⟩) : T Tryz.prog Γ Fn.impl_Entity_copied [a0] h K :=
  T_of_body tabOK Tryz.func137 (code := bodyOf Tryz.f137) (by kernel_rfl) (by kernel_rfl) (by kernel_rfl) (by kernel_rfl) hw
def impl_Link_copied_d0_os : List O := [⟨(some 3), none, .fld 2 (.t 1)⟩,
  ⟨(some 4), none, .load 1 false (.t 3)⟩,
  ⟨(some 5), none, .call (.c (.fn Fn.slices_Clone_iimpl_Export_impl_Export [] [])) [.t 4]⟩,
  ⟨(some 6), none, .fld 4 (.t 1)⟩,
  ⟨(some 7), none, .load 1 false (.t 6)⟩,
  ⟨(some 8), none, .call (.c (.fn Fn.slices_Clone_iimpl_Question_impl_Question [] [])) [.t 7]⟩,
  ⟨(some 9), none, .fld 6 (.t 1)⟩,
  ⟨(some 10), none, .load 1 false (.t 9)⟩,
  ⟨(some 11), none, .call (.c (.fn Fn.slices_Clone_iimpl_Question_impl_Question [] [])) [.t 10]⟩,
  ⟨(some 12), none, .fld 2 (.t 1)⟩,
  ⟨none, none, .store 1 (.t 12) (.t 5)⟩,
  ⟨(some 13), none, .fld 4 (.t 1)⟩,
  ⟨none, none, .store 1 (.t 13) (.t 8)⟩,
  ⟨(some 14), none, .fld 6 (.t 1)⟩,
  ⟨none, none, .store 1 (.t 14) (.t 11)⟩]
def impl_Link_copied_d0_af : List (List Nat) := [[], [0], [1], [], [3], [4, 2], [], [6], [7, 5], [0, 1, 2, 3, 4, 6, 7], [9, 2, 8, 0, 1, 2, 3, 4, 6, 7], [0, 1, 2, 3, 4, 5, 6, 7, 9, 10], [11, 5, 10, 0, 1, 2, 3, 4, 5, 6, 7, 9, 10], [0, 1, 2, 3, 4, 5, 6, 7, 8, 9, 10, 11, 12], [13, 8, 12, 0, 1, 2, 3, 4, 5, 6, 7, 8, 9, 10, 11, 12]]
theorem impl_Link_copied_d0_q (gl : Gl) (Q : AE → St → Prop) (s : St) : aw Tryz.prog Θ Γ gl (.regD impl_Link_copied_d0_os impl_Link_copied_d0_af) Q s = awpT Tryz.prog Γ gl [⟨(some 3), none, .fld 2 (.t 1)⟩,
  ⟨(some 4), none, .load 1 false (.t 3)⟩,
  ⟨(some 5), none, .call (.c (.fn Fn.slices_Clone_iimpl_Export_impl_Export [] [])) [.t 4]⟩,
  ⟨(some 6), none, .fld 4 (.t 1)⟩,
  ⟨(some 7), none, .load 1 false (.t 6)⟩,
  ⟨(some 8), none, .call (.c (.fn Fn.slices_Clone_iimpl_Question_impl_Question [] [])) [.t 7]⟩,
  ⟨(some 9), none, .fld 6 (.t 1)⟩,
  ⟨(some 10), none, .load 1 false (.t 9)⟩,
  ⟨(some 11), none, .call (.c (.fn Fn.slices_Clone_iimpl_Question_impl_Question [] [])) [.t 10]⟩,
  ⟨(some 12), none, .fld 2 (.t 1)⟩,
  ⟨none, none, .store 1 (.t 12) (.t 5)⟩,
  ⟨(some 13), none, .fld 4 (.t 1)⟩,
  ⟨none, none, .store 1 (.t 13) (.t 8)⟩,
  ⟨(some 14), none, .fld 6 (.t 1)⟩,
  ⟨none, none, .store 1 (.t 14) (.t 11)⟩] (Q .normal) 15 (.q 0 (.q 1 (.q 3 (.q 4 (.q 6 (.q 7 (.all [(2, .q 9 (.all [(5, .q 8 (.q 10 (.q 11 (.q 12 (.q 13 (.q 14 (.done)))))))]))]))))))) s := a_dd rfl (by kernel_rfl) gl Q s
def impl_Link_copied_c : C := .seq (.reg [⟨(some 1), none, .box (.t 0)⟩,
  ⟨(some 2), none, .alloc [.int .i64 0, .bool false, .nils, .int .i64 0, .nils, .int .i64 0, .nils]⟩]) (.seq (.regD impl_Link_copied_d0_os impl_Link_copied_d0_af) (.seq (.reg [⟨(some 15), none, .load 7 true (.t 1)⟩,
  ⟨none, none, .store 7 (.t 2) (.t 15)⟩]) (.ret)))
def impl_Link_copied_r : List RS := [.cell 2 7 true]
theorem impl_Link_copied_e {a0 : AV} {h : AH} {K : AV → AH → Prop} (hw : TC Tryz.prog Θ Γ impl_Link_copied_c (retQ impl_Link_copied_r K) ⟨[a0, u, u, u, u, u, u, u, u, u, u, u, u, u, u, u], [], h⟩) : T Tryz.prog Γ Fn.impl_Link_copied [a0] h K :=
  T_of_body tabOK Tryz.func138 (code := bodyOf Tryz.f138) (by kernel_rfl) (by kernel_rfl) (by kernel_rfl) (by kernel_rfl) hw
def laws_heldValueS_c : C := .seq (.reg [⟨(some 4), none, .mov (.c (.int .i64 0))⟩]) (.seq (.seq (.reg [⟨(some 5), none, .mov (.c (.int .i64 0))⟩]) (.block 0 (.loop (.seq (.seq (.reg [⟨(some 6), none, .mov (.t 5)⟩,
  ⟨(some 7), none, .mov (.t 0)⟩,
  ⟨(some 8), none, .len false (.t 7)⟩,
  ⟨(some 9), none, .bin .lss (.num) (.t 6) (.t 8)⟩]) (.cond (.t 9) (.skip) (.exit 0))) (.seq (.block 1 (.seq (.seq (.reg [⟨(some 12), none, .mov (.t 0)⟩,
  ⟨(some 13), none, .mov (.t 5)⟩,
  ⟨(some 14), none, .idxs 2 (.t 12) (.t 13)⟩,
  ⟨(some 15), none, .fld 0 (.t 14)⟩,
  ⟨(some 16), none, .load 1 false (.t 15)⟩,
  ⟨(some 17), none, .mov (.t 1)⟩,
  ⟨(some 18), none, .bin .neq (.num) (.t 16) (.t 17)⟩]) (.cond (.t 18) (.seq (.reg [⟨(some 4), none, .mov (.c (.int .i64 (-1)))⟩]) (.ret)) (.skip))) (.seq (.reg [⟨(some 19), none, .mov (.t 1)⟩,
  ⟨(some 20), none, .bin .add (.num) (.t 19) (.c (.int .i64 1))⟩,
  ⟨(some 1), none, .mov (.t 20)⟩]) (.seq (.seq (.reg [⟨(some 21), none, .mov (.t 0)⟩,
  ⟨(some 22), none, .mov (.t 5)⟩,
  ⟨(some 23), none, .idxs 2 (.t 21) (.t 22)⟩,
  ⟨(some 24), none, .fld 1 (.t 23)⟩,
  ⟨(some 25), none, .load 1 false (.t 24)⟩,
  ⟨(some 26), none, .mov (.t 1)⟩,
  ⟨(some 27), none, .bin .neq (.num) (.t 25) (.t 26)⟩]) (.cond (.t 27) (.seq (.reg [⟨(some 4), none, .mov (.c (.int .i64 (-1)))⟩]) (.ret)) (.skip))) (.reg [⟨(some 28), none, .mov (.t 1)⟩,
  ⟨(some 29), none, .bin .add (.num) (.t 28) (.c (.int .i64 1))⟩,
  ⟨(some 1), none, .mov (.t 29)⟩]))))) (.reg [⟨(some 10), none, .mov (.t 5)⟩,
  ⟨(some 11), none, .bin .add (.num) (.t 10) (.c (.int .i64 1))⟩,
  ⟨(some 5), none, .mov (.t 11)⟩])))))) (.seq (.reg [⟨(some 30), none, .mov (.t 1)⟩,
  ⟨(some 4), none, .mov (.t 30)⟩]) (.ret)))
def laws_heldValueS_r : List RS := [.t 4]
def laws_heldValueS_s0 (t0 t1 t5 : AV) (loc : List (List AV)) (h : AH) : St := ⟨[t0, t1, .any, .any, .any, t5, .any, .any, .any, .any, .any, .any, .any, .any, .any, .any, .any, .any, .any, .any, .any, .any, .any, .any, .any, .any, .any, .any, .any, .any, .any], loc, h⟩
theorem laws_heldValueS_e {a0 a1 : AV} {h : AH} {K : AV → AH → Prop} (hw : TC Tryz.prog Θ Γ laws_heldValueS_c (retQ laws_heldValueS_r K) ⟨[a0, a1, u, u, u, u, u, u, u, u, u, u, u, u, u, u, u, u, u, u, u, u, u, u, u, u, u, u, u, u, u], [], h⟩) : T Tryz.prog Γ Fn.laws_heldValueS [a0, a1] h K :=
  T_of_body tabOK Tryz.func141 (code := bodyOf Tryz.f141) (by kernel_rfl) (by kernel_rfl) (by kernel_rfl) (by kernel_rfl) hw
def laws_heldAskerS_c : C := .seq (.reg [⟨(some 4), none, .mov (.c (.int .i64 0))⟩]) (.seq (.seq (.reg [⟨(some 5), none, .mov (.c (.int .i64 0))⟩]) (.block 0 (.loop (.seq (.seq (.reg [⟨(some 6), none, .mov (.t 5)⟩,
  ⟨(some 7), none, .mov (.t 0)⟩,
  ⟨(some 8), none, .len false (.t 7)⟩,
  ⟨(some 9), none, .bin .lss (.num) (.t 6) (.t 8)⟩]) (.cond (.t 9) (.skip) (.exit 0))) (.seq (.block 1 (.seq (.seq (.reg [⟨(some 12), none, .mov (.t 0)⟩,
  ⟨(some 13), none, .mov (.t 5)⟩,
  ⟨(some 14), none, .idxs 2 (.t 12) (.t 13)⟩,
  ⟨(some 15), none, .fld 0 (.t 14)⟩,
  ⟨(some 16), none, .load 1 false (.t 15)⟩,
  ⟨(some 17), none, .mov (.t 1)⟩,
  ⟨(some 18), none, .bin .neq (.num) (.t 16) (.t 17)⟩]) (.cond (.t 18) (.seq (.reg [⟨(some 4), none, .mov (.c (.int .i64 (-1)))⟩]) (.ret)) (.skip))) (.seq (.reg [⟨(some 19), none, .mov (.t 1)⟩,
  ⟨(some 20), none, .bin .add (.num) (.t 19) (.c (.int .i64 1))⟩,
  ⟨(some 1), none, .mov (.t 20)⟩]) (.seq (.seq (.reg [⟨(some 21), none, .mov (.t 0)⟩,
  ⟨(some 22), none, .mov (.t 5)⟩,
  ⟨(some 23), none, .idxs 2 (.t 21) (.t 22)⟩,
  ⟨(some 24), none, .fld 1 (.t 23)⟩,
  ⟨(some 25), none, .load 1 false (.t 24)⟩,
  ⟨(some 26), none, .mov (.t 1)⟩,
  ⟨(some 27), none, .bin .neq (.num) (.t 25) (.t 26)⟩]) (.cond (.t 27) (.seq (.reg [⟨(some 4), none, .mov (.c (.int .i64 (-1)))⟩]) (.ret)) (.skip))) (.reg [⟨(some 28), none, .mov (.t 1)⟩,
  ⟨(some 29), none, .bin .add (.num) (.t 28) (.c (.int .i64 1))⟩,
  ⟨(some 1), none, .mov (.t 29)⟩]))))) (.reg [⟨(some 10), none, .mov (.t 5)⟩,
  ⟨(some 11), none, .bin .add (.num) (.t 10) (.c (.int .i64 1))⟩,
  ⟨(some 5), none, .mov (.t 11)⟩])))))) (.seq (.reg [⟨(some 30), none, .mov (.t 1)⟩,
  ⟨(some 4), none, .mov (.t 30)⟩]) (.ret)))
def laws_heldAskerS_r : List RS := [.t 4]
def laws_heldAskerS_s0 (t0 t1 t5 : AV) (loc : List (List AV)) (h : AH) : St := ⟨[t0, t1, .any, .any, .any, t5, .any, .any, .any, .any, .any, .any, .any, .any, .any, .any, .any, .any, .any, .any, .any, .any, .any, .any, .any, .any, .any, .any, .any, .any, .any], loc, h⟩
theorem laws_heldAskerS_e {a0 a1 : AV} {h : AH} {K : AV → AH → Prop} (hw : TC Tryz.prog Θ Γ laws_heldAskerS_c (retQ laws_heldAskerS_r K) ⟨[a0, a1, u, u, u, u, u, u, u, u, u, u, u, u, u, u, u, u, u, u, u, u, u, u, u, u, u, u, u, u, u], [], h⟩) : T Tryz.prog Γ Fn.laws_heldAskerS [a0, a1] h K :=
  T_of_body tabOK Tryz.func142 (code := bodyOf Tryz.f142) (by kernel_rfl) (by kernel_rfl) (by kernel_rfl) (by kernel_rfl) hw
def laws_heldExportS_c : C := .seq (.reg [⟨(some 4), none, .mov (.c (.int .i64 0))⟩]) (.seq (.seq (.reg [⟨(some 5), none, .mov (.c (.int .i64 0))⟩]) (.block 0 (.loop (.seq (.seq (.reg [⟨(some 6), none, .mov (.t 5)⟩,
  ⟨(some 7), none, .mov (.t 0)⟩,
  ⟨(some 8), none, .len false (.t 7)⟩,
  ⟨(some 9), none, .bin .lss (.num) (.t 6) (.t 8)⟩]) (.cond (.t 9) (.skip) (.exit 0))) (.seq (.block 1 (.seq (.seq (.reg [⟨(some 12), none, .mov (.t 0)⟩,
  ⟨(some 13), none, .mov (.t 5)⟩,
  ⟨(some 14), none, .idxs 3 (.t 12) (.t 13)⟩,
  ⟨(some 15), none, .fld 0 (.t 14)⟩,
  ⟨(some 16), none, .load 1 false (.t 15)⟩,
  ⟨(some 17), none, .mov (.t 1)⟩,
  ⟨(some 18), none, .bin .neq (.num) (.t 16) (.t 17)⟩]) (.cond (.t 18) (.seq (.reg [⟨(some 4), none, .mov (.c (.int .i64 (-1)))⟩]) (.ret)) (.skip))) (.seq (.reg [⟨(some 19), none, .mov (.t 1)⟩,
  ⟨(some 20), none, .bin .add (.num) (.t 19) (.c (.int .i64 1))⟩,
  ⟨(some 1), none, .mov (.t 20)⟩]) (.seq (.seq (.reg [⟨(some 21), none, .mov (.t 0)⟩,
  ⟨(some 22), none, .mov (.t 5)⟩,
  ⟨(some 23), none, .idxs 3 (.t 21) (.t 22)⟩,
  ⟨(some 24), none, .fld 1 (.t 23)⟩,
  ⟨(some 25), none, .load 1 false (.t 24)⟩,
  ⟨(some 26), none, .mov (.t 1)⟩,
  ⟨(some 27), none, .bin .neq (.num) (.t 25) (.t 26)⟩]) (.cond (.t 27) (.seq (.reg [⟨(some 4), none, .mov (.c (.int .i64 (-1)))⟩]) (.ret)) (.skip))) (.seq (.reg [⟨(some 28), none, .mov (.t 1)⟩,
  ⟨(some 29), none, .bin .add (.num) (.t 28) (.c (.int .i64 1))⟩,
  ⟨(some 1), none, .mov (.t 29)⟩]) (.seq (.seq (.reg [⟨(some 30), none, .mov (.t 0)⟩,
  ⟨(some 31), none, .mov (.t 5)⟩,
  ⟨(some 32), none, .idxs 3 (.t 30) (.t 31)⟩,
  ⟨(some 33), none, .fld 2 (.t 32)⟩,
  ⟨(some 34), none, .load 1 false (.t 33)⟩,
  ⟨(some 35), none, .mov (.t 1)⟩,
  ⟨(some 36), none, .bin .neq (.num) (.t 34) (.t 35)⟩]) (.cond (.t 36) (.seq (.reg [⟨(some 4), none, .mov (.c (.int .i64 (-1)))⟩]) (.ret)) (.skip))) (.reg [⟨(some 37), none, .mov (.t 1)⟩,
  ⟨(some 38), none, .bin .add (.num) (.t 37) (.c (.int .i64 1))⟩,
  ⟨(some 1), none, .mov (.t 38)⟩]))))))) (.reg [⟨(some 10), none, .mov (.t 5)⟩,
  ⟨(some 11), none, .bin .add (.num) (.t 10) (.c (.int .i64 1))⟩,
  ⟨(some 5), none, .mov (.t 11)⟩])))))) (.seq (.reg [⟨(some 39), none, .mov (.t 1)⟩,
  ⟨(some 4), none, .mov (.t 39)⟩]) (.ret)))
def laws_heldExportS_r : List RS := [.t 4]
def laws_heldExportS_s0 (t0 t1 t5 : AV) (loc : List (List AV)) (h : AH) : St := ⟨[t0, t1, .any, .any, .any, t5, .any, .any, .any, .any, .any, .any, .any, .any, .any, .any, .any, .any, .any, .any, .any, .any, .any, .any, .any, .any, .any, .any, .any, .any, .any, .any, .any, .any, .any, .any, .any, .any, .any, .any], loc, h⟩
theorem laws_heldExportS_e {a0 a1 : AV} {h : AH} {K : AV → AH → Prop} (hw : TC Tryz.prog Θ Γ laws_heldExportS_c (retQ laws_heldExportS_r K) ⟨[a0, a1, u, u, u, u, u, u, u, u, u, u, u, u, u, u, u, u, u, u, u, u, u, u, u, u, u, u, u, u, u, u, u, u, u, u, u, u, u, u], [], h⟩) : T Tryz.prog Γ Fn.laws_heldExportS [a0, a1] h K :=
  T_of_body tabOK Tryz.func143 (code := bodyOf Tryz.f143) (by kernel_rfl) (by kernel_rfl) (by kernel_rfl) (by kernel_rfl) hw
def laws_heldQuestionS_c : C := .seq (.reg [⟨(some 4), none, .mov (.c (.int .i64 0))⟩]) (.seq (.seq (.reg [⟨(some 5), none, .mov (.c (.int .i64 0))⟩]) (.block 0 (.loop (.seq (.seq (.reg [⟨(some 6), none, .mov (.t 5)⟩,
  ⟨(some 7), none, .mov (.t 0)⟩,
  ⟨(some 8), none, .len false (.t 7)⟩,
  ⟨(some 9), none, .bin .lss (.num) (.t 6) (.t 8)⟩]) (.cond (.t 9) (.skip) (.exit 0))) (.seq (.block 1 (.seq (.seq (.reg [⟨(some 12), none, .mov (.t 0)⟩,
  ⟨(some 13), none, .mov (.t 5)⟩,
  ⟨(some 14), none, .idxs 2 (.t 12) (.t 13)⟩,
  ⟨(some 15), none, .fld 0 (.t 14)⟩,
  ⟨(some 16), none, .load 1 false (.t 15)⟩,
  ⟨(some 17), none, .mov (.t 1)⟩,
  ⟨(some 18), none, .bin .neq (.num) (.t 16) (.t 17)⟩]) (.cond (.t 18) (.seq (.reg [⟨(some 4), none, .mov (.c (.int .i64 (-1)))⟩]) (.ret)) (.skip))) (.seq (.reg [⟨(some 19), none, .mov (.t 1)⟩,
  ⟨(some 20), none, .bin .add (.num) (.t 19) (.c (.int .i64 1))⟩,
  ⟨(some 1), none, .mov (.t 20)⟩]) (.seq (.seq (.reg [⟨(some 21), none, .mov (.t 0)⟩,
  ⟨(some 22), none, .mov (.t 5)⟩,
  ⟨(some 23), none, .idxs 2 (.t 21) (.t 22)⟩,
  ⟨(some 24), none, .fld 1 (.t 23)⟩,
  ⟨(some 25), none, .load 1 false (.t 24)⟩,
  ⟨(some 26), none, .mov (.t 1)⟩,
  ⟨(some 27), none, .bin .neq (.num) (.t 25) (.t 26)⟩]) (.cond (.t 27) (.seq (.reg [⟨(some 4), none, .mov (.c (.int .i64 (-1)))⟩]) (.ret)) (.skip))) (.reg [⟨(some 28), none, .mov (.t 1)⟩,
  ⟨(some 29), none, .bin .add (.num) (.t 28) (.c (.int .i64 1))⟩,
  ⟨(some 1), none, .mov (.t 29)⟩]))))) (.reg [⟨(some 10), none, .mov (.t 5)⟩,
  ⟨(some 11), none, .bin .add (.num) (.t 10) (.c (.int .i64 1))⟩,
  ⟨(some 5), none, .mov (.t 11)⟩])))))) (.seq (.reg [⟨(some 30), none, .mov (.t 1)⟩,
  ⟨(some 4), none, .mov (.t 30)⟩]) (.ret)))
def laws_heldQuestionS_r : List RS := [.t 4]
def laws_heldQuestionS_s0 (t0 t1 t5 : AV) (loc : List (List AV)) (h : AH) : St := ⟨[t0, t1, .any, .any, .any, t5, .any, .any, .any, .any, .any, .any, .any, .any, .any, .any, .any, .any, .any, .any, .any, .any, .any, .any, .any, .any, .any, .any, .any, .any, .any], loc, h⟩
theorem laws_heldQuestionS_e {a0 a1 : AV} {h : AH} {K : AV → AH → Prop} (hw : TC Tryz.prog Θ Γ laws_heldQuestionS_c (retQ laws_heldQuestionS_r K) ⟨[a0, a1, u, u, u, u, u, u, u, u, u, u, u, u, u, u, u, u, u, u, u, u, u, u, u, u, u, u, u, u, u], [], h⟩) : T Tryz.prog Γ Fn.laws_heldQuestionS [a0, a1] h K :=
  T_of_body tabOK Tryz.func144 (code := bodyOf Tryz.f144) (by kernel_rfl) (by kernel_rfl) (by kernel_rfl) (by kernel_rfl) hw
def laws_heldWireS_c : C := .seq (.reg [⟨(some 4), none, .mov (.c (.int .i64 0))⟩]) (.seq (.seq (.reg [⟨(some 5), none, .mov (.c (.int .i64 0))⟩]) (.block 0 (.loop (.seq (.seq (.reg [⟨(some 6), none, .mov (.t 5)⟩,
  ⟨(some 7), none, .mov (.t 0)⟩,
  ⟨(some 8), none, .len false (.t 7)⟩,
  ⟨(some 9), none, .bin .lss (.num) (.t 6) (.t 8)⟩]) (.cond (.t 9) (.skip) (.exit 0))) (.seq (.block 1 (.seq (.seq (.reg [⟨(some 12), none, .mov (.t 0)⟩,
  ⟨(some 13), none, .mov (.t 5)⟩,
  ⟨(some 14), none, .idxs 2 (.t 12) (.t 13)⟩,
  ⟨(some 15), none, .fld 0 (.t 14)⟩,
  ⟨(some 16), none, .load 1 false (.t 15)⟩,
  ⟨(some 17), none, .mov (.t 1)⟩,
  ⟨(some 18), none, .bin .neq (.num) (.t 16) (.t 17)⟩]) (.cond (.t 18) (.seq (.reg [⟨(some 4), none, .mov (.c (.int .i64 (-1)))⟩]) (.ret)) (.skip))) (.seq (.reg [⟨(some 19), none, .mov (.t 1)⟩,
  ⟨(some 20), none, .bin .add (.num) (.t 19) (.c (.int .i64 1))⟩,
  ⟨(some 1), none, .mov (.t 20)⟩]) (.seq (.seq (.reg [⟨(some 21), none, .mov (.t 0)⟩,
  ⟨(some 22), none, .mov (.t 5)⟩,
  ⟨(some 23), none, .idxs 2 (.t 21) (.t 22)⟩,
  ⟨(some 24), none, .fld 1 (.t 23)⟩,
  ⟨(some 25), none, .load 1 false (.t 24)⟩,
  ⟨(some 26), none, .mov (.t 1)⟩,
  ⟨(some 27), none, .bin .neq (.num) (.t 25) (.t 26)⟩]) (.cond (.t 27) (.seq (.reg [⟨(some 4), none, .mov (.c (.int .i64 (-1)))⟩]) (.ret)) (.skip))) (.reg [⟨(some 28), none, .mov (.t 1)⟩,
  ⟨(some 29), none, .bin .add (.num) (.t 28) (.c (.int .i64 1))⟩,
  ⟨(some 1), none, .mov (.t 29)⟩]))))) (.reg [⟨(some 10), none, .mov (.t 5)⟩,
  ⟨(some 11), none, .bin .add (.num) (.t 10) (.c (.int .i64 1))⟩,
  ⟨(some 5), none, .mov (.t 11)⟩])))))) (.seq (.reg [⟨(some 30), none, .mov (.t 1)⟩,
  ⟨(some 4), none, .mov (.t 30)⟩]) (.ret)))
def laws_heldWireS_r : List RS := [.t 4]
def laws_heldWireS_s0 (t0 t1 t5 : AV) (loc : List (List AV)) (h : AH) : St := ⟨[t0, t1, .any, .any, .any, t5, .any, .any, .any, .any, .any, .any, .any, .any, .any, .any, .any, .any, .any, .any, .any, .any, .any, .any, .any, .any, .any, .any, .any, .any, .any], loc, h⟩
theorem laws_heldWireS_e {a0 a1 : AV} {h : AH} {K : AV → AH → Prop} (hw : TC Tryz.prog Θ Γ laws_heldWireS_c (retQ laws_heldWireS_r K) ⟨[a0, a1, u, u, u, u, u, u, u, u, u, u, u, u, u, u, u, u, u, u, u, u, u, u, u, u, u, u, u, u, u], [], h⟩) : T Tryz.prog Γ Fn.laws_heldWireS [a0, a1] h K :=
  T_of_body tabOK Tryz.func145 (code := bodyOf Tryz.f145) (by kernel_rfl) (by kernel_rfl) (by kernel_rfl) (by kernel_rfl) hw
def slices_IndexFunc_iimpl_Gift_impl_Gift_c : C := .seq (.reg [⟨(some 4), none, .mov (.c (.int .i64 0))⟩]) (.seq (.seq (.reg [⟨(some 6), none, .mov (.t 0)⟩,
  ⟨(some 7), none, .len false (.t 6)⟩,
  ⟨(some 8), none, .mov (.c (.int .i64 0))⟩]) (.block 0 (.loop (.seq (.reg [⟨(some 9), none, .bin .lss (.num) (.t 8) (.t 7)⟩]) (.seq (.cond (.t 9) (.skip) (.exit 0)) (.seq (.block 1 (.seq (.reg [⟨(some 10), none, .mov (.t 8)⟩,
  ⟨(some 5), none, .mov (.t 10)⟩]) (.seq (.reg [⟨(some 11), none, .mov (.t 1)⟩,
  ⟨(some 12), none, .mov (.t 0)⟩,
  ⟨(some 13), none, .mov (.t 5)⟩,
  ⟨(some 14), none, .idxs 4 (.t 12) (.t 13)⟩,
  ⟨(some 15), none, .load 4 true (.t 14)⟩,
  ⟨(some 16), none, .call (.t 11) [.t 15]⟩]) (.cond (.t 16) (.seq (.reg [⟨(some 17), none, .mov (.t 5)⟩,
  ⟨(some 4), none, .mov (.t 17)⟩]) (.ret)) (.skip))))) (.reg [⟨(some 18), none, .bin .add (.num) (.t 8) (.c (.int .i64 1))⟩,
  ⟨(some 8), none, .mov (.t 18)⟩]))))))) (.seq (.reg [⟨(some 4), none, .mov (.c (.int .i64 (-1)))⟩]) (.ret)))
def slices_IndexFunc_iimpl_Gift_impl_Gift_r : List RS := [.t 4]
def slices_IndexFunc_iimpl_Gift_impl_Gift_s0 (t0 t1 t7 t8 : AV) (loc : List (List AV)) (h : AH) : St := ⟨[t0, t1, .any, .any, .any, .any, .any, t7, t8, .any, .any, .any, .any, .any, .any, .any, .any, .any, .any], loc, h⟩
theorem slices_IndexFunc_iimpl_Gift_impl_Gift_e {a0 a1 : AV} {h : AH} {K : AV → AH → Prop} (hw : TC Tryz.prog Θ Γ slices_IndexFunc_iimpl_Gift_impl_Gift_c (retQ slices_IndexFunc_iimpl_Gift_impl_Gift_r K) ⟨[a0, a1, u, u, u, u, u, u, u, u, u, u, u, u, u, u, u, u, u], [], h⟩) : T Tryz.prog Γ Fn.slices_IndexFunc_iimpl_Gift_impl_Gift [a0, a1] h K :=
  T_of_body tabOK Tryz.func146 (code := bodyOf Tryz.f146) (by kernel_rfl) (by kernel_rfl) (by kernel_rfl) (by kernel_rfl) hw
def impl_ClaimGift_1_c : C := .seq (.reg [⟨(some 4), none, .box (.t 0)⟩,
  ⟨(some 5), none, .mov (.c (.bool false))⟩]) (.seq (.reg [⟨(some 6), none, .fld 1 (.t 4)⟩,
  ⟨(some 7), none, .load 1 false (.t 6)⟩,
  ⟨(some 8), none, .load 1 false (.t 1)⟩,
  ⟨(some 9), none, .bin .eql (.num) (.t 7) (.t 8)⟩,
  ⟨(some 10), none, .mov (.t 9)⟩,
  ⟨(some 11), (some (4, true)), .fld 0 (.t 4)⟩,
  ⟨(some 12), (some (4, true)), .load 1 false (.t 11)⟩,
  ⟨(some 13), (some (4, true)), .load 1 false (.t 2)⟩,
  ⟨(some 14), (some (4, true)), .bin .eql (.num) (.t 12) (.t 13)⟩,
  ⟨(some 15), none, .pick (.t 10) (.t 14) (.c (.bool false))⟩,
  ⟨(some 16), none, .mov (.t 15)⟩,
  ⟨(some 17), (some (10, true)), .fld 2 (.t 4)⟩,
  ⟨(some 18), (some (10, true)), .load 1 false (.t 17)⟩,
  ⟨(some 19), (some (10, true)), .load 1 false (.t 3)⟩,
  ⟨(some 20), (some (10, true)), .bin .eql (.num) (.t 18) (.t 19)⟩,
  ⟨(some 21), none, .pick (.t 16) (.t 20) (.c (.bool false))⟩,
  ⟨(some 5), none, .mov (.t 21)⟩]) (.ret))
def impl_ClaimGift_1_r : List RS := [.t 5]
theorem impl_ClaimGift_1_e {a0 a1 a2 a3 : AV} {h : AH} {K : AV → AH → Prop} (hw : TC Tryz.prog Θ Γ impl_ClaimGift_1_c (retQ impl_ClaimGift_1_r K) ⟨[a0, a1, a2, a3, u, u, u, u, u, u, u, u, u, u, u, u, u, u, u, u, u, u], [], h⟩) : T Tryz.prog Γ Fn.impl_ClaimGift_1 [a0, a1, a2, a3] h K :=
  T_of_body tabOK Tryz.func147 (code := bodyOf Tryz.f147) (by kernel_rfl) (by kernel_rfl) (by kernel_rfl) (by kernel_rfl) hw
def slices_Delete_iimpl_Gift_impl_Gift_d0_os : List O := [⟨(some 20), none, .mov (.t 0)⟩,
  ⟨(some 21), none, .mov (.t 1)⟩,
  ⟨(some 22), none, .slice (.sl 4) (.t 20) none (some (.t 21)) none⟩,
  ⟨(some 23), none, .mov (.t 0)⟩,
  ⟨(some 24), none, .mov (.t 2)⟩,
  ⟨(some 25), none, .slice (.sl 4) (.t 23) (some (.t 24)) none none⟩,
  ⟨(some 26), none, .app 4 32 [.int .i64 0, .int .i64 0, .int .i64 0, .int .i64 0] false (.t 22) (.t 25)⟩,
  ⟨(some 0), none, .mov (.t 26)⟩]
def slices_Delete_iimpl_Gift_impl_Gift_d0_af : List (List Nat) := [[], [], [0, 1], [], [], [3, 4], [2, 5], [6, 6, 0, 1, 2, 3, 4, 5, 6]]
theorem slices_Delete_iimpl_Gift_impl_Gift_d0_q (gl : Gl) (Q : AE → St → Prop) (s : St) : aw Tryz.prog Θ Γ gl (.regD slices_Delete_iimpl_Gift_impl_Gift_d0_os slices_Delete_iimpl_Gift_impl_Gift_d0_af) Q s = awpT Tryz.prog Γ gl [⟨(some 20), none, .mov (.t 0)⟩,
  ⟨(some 21), none, .mov (.t 1)⟩,
  ⟨(some 22), none, .slice (.sl 4) (.t 20) none (some (.t 21)) none⟩,
  ⟨(some 23), none, .mov (.t 0)⟩,
  ⟨(some 24), none, .mov (.t 2)⟩,
  ⟨(some 25), none, .slice (.sl 4) (.t 23) (some (.t 24)) none none⟩,
  ⟨(some 26), none, .app 4 32 [.int .i64 0, .int .i64 0, .int .i64 0, .int .i64 0] false (.t 22) (.t 25)⟩,
  ⟨(some 0), none, .mov (.t 26)⟩] (Q .normal) 8 (.q 0 (.q 1 (.q 2 (.q 3 (.q 4 (.q 5 (.q 6 (.q 7 (.done))))))))) s := a_dd rfl (by kernel_rfl) gl Q s
def slices_Delete_iimpl_Gift_impl_Gift_c : C := .seq (.reg [⟨(some 6), none, .mov (.c (.nils))⟩]) (.seq (.reg [⟨(some 8), none, .mov (.t 0)⟩,
  ⟨(some 9), none, .mov (.t 1)⟩,
  ⟨(some 10), none, .mov (.t 2)⟩,
  ⟨(some 11), none, .mov (.t 0)⟩,
  ⟨(some 12), none, .len false (.t 11)⟩,
  ⟨(some 13), none, .slice (.sl 4) (.t 8) (some (.t 9)) (some (.t 10)) (some (.t 12))⟩]) (.seq (.seq (.reg [⟨(some 14), none, .mov (.t 1)⟩,
  ⟨(some 15), none, .mov (.t 2)⟩,
  ⟨(some 16), none, .bin .eql (.num) (.t 14) (.t 15)⟩]) (.cond (.t 16) (.seq (.reg [⟨(some 17), none, .mov (.t 0)⟩,
  ⟨(some 6), none, .mov (.t 17)⟩]) (.ret)) (.skip))) (.seq (.reg [⟨(some 18), none, .mov (.t 0)⟩,
  ⟨(some 19), none, .len false (.t 18)⟩,
  ⟨(some 7), none, .mov (.t 19)⟩]) (.seq (.regD slices_Delete_iimpl_Gift_impl_Gift_d0_os slices_Delete_iimpl_Gift_impl_Gift_d0_af) (.seq (.reg [⟨(some 27), none, .mov (.t 0)⟩,
  ⟨(some 28), none, .mov (.t 0)⟩,
  ⟨(some 29), none, .len false (.t 28)⟩,
  ⟨(some 30), none, .mov (.t 7)⟩,
  ⟨(some 31), none, .slice (.sl 4) (.t 27) (some (.t 29)) (some (.t 30)) none⟩,
  ⟨none, none, .clr 4 [.int .i64 0, .int .i64 0, .int .i64 0, .int .i64 0] (.t 31)⟩]) (.seq (.reg [⟨(some 32), none, .mov (.t 0)⟩,
  ⟨(some 6), none, .mov (.t 32)⟩]) (.ret)))))))
def slices_Delete_iimpl_Gift_impl_Gift_r : List RS := [.t 6]
theorem slices_Delete_iimpl_Gift_impl_Gift_e {a0 a1 a2 : AV} {h : AH} {K : AV → AH → Prop} (hw : TC Tryz.prog Θ Γ slices_Delete_iimpl_Gift_impl_Gift_c (retQ slices_Delete_iimpl_Gift_impl_Gift_r K) ⟨[a0, a1, a2, u, u, u, u, u, u, u, u, u, u, u, u, u, u, u, u, u, u, u, u, u, u, u, u, u, u, u, u, u, u], [], h⟩) : T Tryz.prog Γ Fn.slices_Delete_iimpl_Gift_impl_Gift [a0, a1, a2] h K :=
  T_of_body tabOK Tryz.func148 (code := bodyOf Tryz.f148) (by kernel_rfl) (by kernel_rfl) (by kernel_rfl) (by kernel_rfl) hw
def impl_Link_of_c : C := .seq (.reg [⟨(some 3), none, .box (.t 1)⟩,
  ⟨(some 4), none, .mov (.c (.int .i64 0))⟩]) (.seq (.reg [⟨(some 5), none, .mov (.t 0)⟩,
  ⟨(some 6), none, .nilchk (.t 5)⟩,
  ⟨(some 7), none, .fld 2 (.t 6)⟩,
  ⟨(some 8), none, .load 1 false (.t 7)⟩,
  ⟨(some 9), none, .mkf Fn.impl_Link_of_1 [] [.t 3]⟩,
  ⟨(some 10), none, .call (.c (.fn Fn.slices_IndexFunc_iimpl_Export_impl_Export [] [])) [.t 8, .t 9]⟩,
  ⟨(some 4), none, .mov (.t 10)⟩]) (.ret))
def impl_Link_of_r : List RS := [.t 4]
theorem impl_Link_of_e {a0 a1 : AV} {h : AH} {K : AV → AH → Prop} (hw : TC Tryz.prog Θ Γ impl_Link_of_c (retQ impl_Link_of_r K) ⟨[a0, a1, u, u, u, u, u, u, u, u, u], [], h⟩) : T Tryz.prog Γ Fn.impl_Link_of [a0, a1] h K :=
  T_of_body tabOK Tryz.func149 (code := bodyOf Tryz.f149) (by kernel_rfl) (by kernel_rfl) (by kernel_rfl) (by kernel_rfl) hw
def slices_Clone_iimpl_Wire_impl_Wire_c : C := .seq (.reg [⟨(some 2), none, .mov (.c (.nils))⟩]) (.seq (.seq (.reg [⟨(some 3), none, .mov (.t 0)⟩,
  ⟨(some 4), none, .bin .eql (.nils) (.t 3) (.c (.nils))⟩]) (.cond (.t 4) (.seq (.reg [⟨(some 2), none, .mov (.c (.nils))⟩]) (.ret)) (.skip))) (.seq (.reg [⟨(some 5), none, .bsl 2 0 [.int .i64 0, .int .i64 0] []⟩,
  ⟨(some 6), none, .mov (.t 0)⟩,
  ⟨(some 7), none, .app 2 16 [.int .i64 0, .int .i64 0] false (.t 5) (.t 6)⟩,
  ⟨(some 2), none, .mov (.t 7)⟩]) (.ret)))
def slices_Clone_iimpl_Wire_impl_Wire_r : List RS := [.t 2]
theorem slices_Clone_iimpl_Wire_impl_Wire_e {a0 : AV} {h : AH} {K : AV → AH → Prop} (hw : TC Tryz.prog Θ Γ slices_Clone_iimpl_Wire_impl_Wire_c (retQ slices_Clone_iimpl_Wire_impl_Wire_r K) ⟨[a0, u, u, u, u, u, u, u], [], h⟩) : T Tryz.prog Γ Fn.slices_Clone_iimpl_Wire_impl_Wire [a0] h K :=
  T_of_body tabOK Tryz.func162 (code := bodyOf Tryz.f162) (by kernel_rfl) (by kernel_rfl) (by kernel_rfl) (by kernel_rfl) hw
def laws_szValueS_c : C := .seq (.reg [⟨(some 4), none, .mov (.c (.int .i64 0))⟩]) (.seq (.reg [⟨(some 5), none, .mov (.t 1)⟩,
  ⟨(some 6), none, .mov (.t 0)⟩,
  ⟨(some 7), none, .len false (.t 6)⟩,
  ⟨(some 8), none, .bin .sub (.num) (.t 5) (.t 7)⟩,
  ⟨(some 1), none, .mov (.t 8)⟩]) (.seq (.seq (.reg [⟨(some 9), none, .mov (.t 1)⟩,
  ⟨(some 10), none, .bin .lss (.num) (.t 9) (.c (.int .i64 0))⟩]) (.cond (.t 10) (.seq (.reg [⟨(some 4), none, .mov (.c (.int .i64 (-1)))⟩]) (.ret)) (.skip))) (.seq (.reg [⟨(some 11), none, .mov (.t 1)⟩,
  ⟨(some 4), none, .mov (.t 11)⟩]) (.ret))))
def laws_szValueS_r : List RS := [.t 4]
theorem laws_szValueS_e {a0 a1 : AV} {h : AH} {K : AV → AH → Prop} (hw : TC Tryz.prog Θ Γ laws_szValueS_c (retQ laws_szValueS_r K) ⟨[a0, a1, u, u, u, u, u, u, u, u, u, u], [], h⟩) : T Tryz.prog Γ Fn.laws_szValueS [a0, a1] h K :=
  T_of_body tabOK Tryz.func170 (code := bodyOf Tryz.f170) (by kernel_rfl) (by kernel_rfl) (by kernel_rfl) (by kernel_rfl) hw
def laws_szAskerS_c : C := .seq (.reg [⟨(some 4), none, .mov (.c (.int .i64 0))⟩]) (.seq (.reg [⟨(some 5), none, .mov (.t 1)⟩,
  ⟨(some 6), none, .mov (.t 0)⟩,
  ⟨(some 7), none, .len false (.t 6)⟩,
  ⟨(some 8), none, .bin .sub (.num) (.t 5) (.t 7)⟩,
  ⟨(some 1), none, .mov (.t 8)⟩]) (.seq (.seq (.reg [⟨(some 9), none, .mov (.t 1)⟩,
  ⟨(some 10), none, .bin .lss (.num) (.t 9) (.c (.int .i64 0))⟩]) (.cond (.t 10) (.seq (.reg [⟨(some 4), none, .mov (.c (.int .i64 (-1)))⟩]) (.ret)) (.skip))) (.seq (.reg [⟨(some 11), none, .mov (.t 1)⟩,
  ⟨(some 4), none, .mov (.t 11)⟩]) (.ret))))
def laws_szAskerS_r : List RS := [.t 4]
theorem laws_szAskerS_e {a0 a1 : AV} {h : AH} {K : AV → AH → Prop} (hw : TC Tryz.prog Θ Γ laws_szAskerS_c (retQ laws_szAskerS_r K) ⟨[a0, a1, u, u, u, u, u, u, u, u, u, u], [], h⟩) : T Tryz.prog Γ Fn.laws_szAskerS [a0, a1] h K :=
  T_of_body tabOK Tryz.func171 (code := bodyOf Tryz.f171) (by kernel_rfl) (by kernel_rfl) (by kernel_rfl) (by kernel_rfl) hw
def laws_szExportS_c : C := .seq (.reg [⟨(some 4), none, .mov (.c (.int .i64 0))⟩]) (.seq (.reg [⟨(some 5), none, .mov (.t 1)⟩,
  ⟨(some 6), none, .mov (.t 0)⟩,
  ⟨(some 7), none, .len false (.t 6)⟩,
  ⟨(some 8), none, .bin .sub (.num) (.t 5) (.t 7)⟩,
  ⟨(some 1), none, .mov (.t 8)⟩]) (.seq (.seq (.reg [⟨(some 9), none, .mov (.t 1)⟩,
  ⟨(some 10), none, .bin .lss (.num) (.t 9) (.c (.int .i64 0))⟩]) (.cond (.t 10) (.seq (.reg [⟨(some 4), none, .mov (.c (.int .i64 (-1)))⟩]) (.ret)) (.skip))) (.seq (.reg [⟨(some 11), none, .mov (.t 1)⟩,
  ⟨(some 4), none, .mov (.t 11)⟩]) (.ret))))
def laws_szExportS_r : List RS := [.t 4]
theorem laws_szExportS_e {a0 a1 : AV} {h : AH} {K : AV → AH → Prop} (hw : TC Tryz.prog Θ Γ laws_szExportS_c (retQ laws_szExportS_r K) ⟨[a0, a1, u, u, u, u, u, u, u, u, u, u], [], h⟩) : T Tryz.prog Γ Fn.laws_szExportS [a0, a1] h K :=
  T_of_body tabOK Tryz.func172 (code := bodyOf Tryz.f172) (by kernel_rfl) (by kernel_rfl) (by kernel_rfl) (by kernel_rfl) hw
def laws_szQuestionS_c : C := .seq (.reg [⟨(some 4), none, .mov (.c (.int .i64 0))⟩]) (.seq (.reg [⟨(some 5), none, .mov (.t 1)⟩,
  ⟨(some 6), none, .mov (.t 0)⟩,
  ⟨(some 7), none, .len false (.t 6)⟩,
  ⟨(some 8), none, .bin .sub (.num) (.t 5) (.t 7)⟩,
  ⟨(some 1), none, .mov (.t 8)⟩]) (.seq (.seq (.reg [⟨(some 9), none, .mov (.t 1)⟩,
  ⟨(some 10), none, .bin .lss (.num) (.t 9) (.c (.int .i64 0))⟩]) (.cond (.t 10) (.seq (.reg [⟨(some 4), none, .mov (.c (.int .i64 (-1)))⟩]) (.ret)) (.skip))) (.seq (.reg [⟨(some 11), none, .mov (.t 1)⟩,
  ⟨(some 4), none, .mov (.t 11)⟩]) (.ret))))
def laws_szQuestionS_r : List RS := [.t 4]
theorem laws_szQuestionS_e {a0 a1 : AV} {h : AH} {K : AV → AH → Prop} (hw : TC Tryz.prog Θ Γ laws_szQuestionS_c (retQ laws_szQuestionS_r K) ⟨[a0, a1, u, u, u, u, u, u, u, u, u, u], [], h⟩) : T Tryz.prog Γ Fn.laws_szQuestionS [a0, a1] h K :=
  T_of_body tabOK Tryz.func173 (code := bodyOf Tryz.f173) (by kernel_rfl) (by kernel_rfl) (by kernel_rfl) (by kernel_rfl) hw
def laws_toValueS_c : C := .seq (.reg [⟨(some 2), none, .mov (.c (.nils))⟩]) (.seq (.reg [⟨(some 5), none, .mov (.t 0)⟩,
  ⟨(some 6), none, .len false (.t 5)⟩,
  ⟨(some 7), none, .mks 2 16 [.int .i64 0, .int .i64 0] (.t 6) (.t 6)⟩,
  ⟨(some 3), none, .mov (.t 7)⟩]) (.seq (.seq (.reg [⟨(some 4), none, .mov (.c (.int .i64 0))⟩]) (.block 0 (.loop (.seq (.seq (.reg [⟨(some 8), none, .mov (.t 4)⟩,
  ⟨(some 9), none, .mov (.t 0)⟩,
  ⟨(some 10), none, .len false (.t 9)⟩,
  ⟨(some 11), none, .bin .lss (.num) (.t 8) (.t 10)⟩]) (.cond (.t 11) (.skip) (.exit 0))) (.seq (.block 1 (.reg [⟨(some 14), none, .mov (.t 3)⟩,
  ⟨(some 15), none, .mov (.t 4)⟩,
  ⟨(some 16), none, .mov (.t 0)⟩,
  ⟨(some 17), none, .mov (.t 4)⟩,
  ⟨(some 18), none, .idxs 2 (.t 16) (.t 17)⟩,
  ⟨(some 19), none, .load 2 true (.t 18)⟩,
  ⟨(some 20), none, .call (.c (.fn Fn.laws_toValue [] [])) [.t 19]⟩,
  ⟨(some 21), none, .idxs 2 (.t 14) (.t 15)⟩,
  ⟨none, none, .store 2 (.t 21) (.t 20)⟩])) (.reg [⟨(some 12), none, .mov (.t 4)⟩,
  ⟨(some 13), none, .bin .add (.num) (.t 12) (.c (.int .i64 1))⟩,
  ⟨(some 4), none, .mov (.t 13)⟩])))))) (.seq (.reg [⟨(some 22), none, .mov (.t 3)⟩,
  ⟨(some 2), none, .mov (.t 22)⟩]) (.ret))))
def laws_toValueS_r : List RS := [.t 2]
def laws_toValueS_s0 (t0 t3 t4 : AV) (loc : List (List AV)) (h : AH) : St := ⟨[t0, .any, .any, t3, t4, .any, .any, .any, .any, .any, .any, .any, .any, .any, .any, .any, .any, .any, .any, .any, .any, .any, .any], loc, h⟩
theorem laws_toValueS_e {a0 : AV} {h : AH} {K : AV → AH → Prop} (hw : TC Tryz.prog Θ Γ laws_toValueS_c (retQ laws_toValueS_r K) ⟨[a0, u, u, u, u, u, u, u, u, u, u, u, u, u, u, u, u, u, u, u, u, u, u], [], h⟩) : T Tryz.prog Γ Fn.laws_toValueS [a0] h K :=
  T_of_body tabOK Tryz.func174 (code := bodyOf Tryz.f174) (by kernel_rfl) (by kernel_rfl) (by kernel_rfl) (by kernel_rfl) hw
def laws_toValue_c : C := .seq (.reg [⟨(some 1), none, .box (.t 0)⟩,
  ⟨(some 2), none, .alloc [.int .i64 0, .int .i64 0]⟩]) (.seq (.reg [⟨(some 3), none, .alloc [.int .i64 0, .int .i64 0]⟩]) (.seq (.reg [⟨(some 4), none, .fld 0 (.t 1)⟩,
  ⟨(some 5), none, .load 1 false (.t 4)⟩,
  ⟨(some 6), none, .fld 0 (.t 3)⟩,
  ⟨none, none, .store 1 (.t 6) (.t 5)⟩]) (.seq (.reg [⟨(some 7), none, .fld 1 (.t 1)⟩,
  ⟨(some 8), none, .load 1 false (.t 7)⟩,
  ⟨(some 9), none, .fld 1 (.t 3)⟩,
  ⟨none, none, .store 1 (.t 9) (.t 8)⟩]) (.seq (.reg [⟨(some 10), none, .load 2 true (.t 3)⟩,
  ⟨none, none, .store 2 (.t 2) (.t 10)⟩]) (.ret)))))
def laws_toValue_r : List RS := [.cell 2 2 true]
theorem laws_toValue_e {a0 : AV} {h : AH} {K : AV → AH → Prop} (hw : TC Tryz.prog Θ Γ laws_toValue_c (retQ laws_toValue_r K) ⟨[a0, u, u, u, u, u, u, u, u, u, u], [], h⟩) : T Tryz.prog Γ Fn.laws_toValue [a0] h K :=
  T_of_body tabOK Tryz.func175 (code := bodyOf Tryz.f175) (by kernel_rfl) (by kernel_rfl) (by kernel_rfl) (by kernel_rfl) hw
def laws_toAskerS_c : C := .seq (.reg [⟨(some 2), none, .mov (.c (.nils))⟩]) (.seq (.reg [⟨(some 5), none, .mov (.t 0)⟩,
  ⟨(some 6), none, .len false (.t 5)⟩,
  ⟨(some 7), none, .mks 2 16 [.int .i64 0, .int .i64 0] (.t 6) (.t 6)⟩,
  ⟨(some 3), none, .mov (.t 7)⟩]) (.seq (.seq (.reg [⟨(some 4), none, .mov (.c (.int .i64 0))⟩]) (.block 0 (.loop (.seq (.seq (.reg [⟨(some 8), none, .mov (.t 4)⟩,
  ⟨(some 9), none, .mov (.t 0)⟩,
  ⟨(some 10), none, .len false (.t 9)⟩,
  ⟨(some 11), none, .bin .lss (.num) (.t 8) (.t 10)⟩]) (.cond (.t 11) (.skip) (.exit 0))) (.seq (.block 1 (.reg [⟨(some 14), none, .mov (.t 3)⟩,
  ⟨(some 15), none, .mov (.t 4)⟩,
  ⟨(some 16), none, .mov (.t 0)⟩,
  ⟨(some 17), none, .mov (.t 4)⟩,
  ⟨(some 18), none, .idxs 2 (.t 16) (.t 17)⟩,
  ⟨(some 19), none, .load 2 true (.t 18)⟩,
  ⟨(some 20), none, .call (.c (.fn Fn.laws_toAsker [] [])) [.t 19]⟩,
  ⟨(some 21), none, .idxs 2 (.t 14) (.t 15)⟩,
  ⟨none, none, .store 2 (.t 21) (.t 20)⟩])) (.reg [⟨(some 12), none, .mov (.t 4)⟩,
  ⟨(some 13), none, .bin .add (.num) (.t 12) (.c (.int .i64 1))⟩,
  ⟨(some 4), none, .mov (.t 13)⟩])))))) (.seq (.reg [⟨(some 22), none, .mov (.t 3)⟩,
  ⟨(some 2), none, .mov (.t 22)⟩]) (.ret))))
def laws_toAskerS_r : List RS := [.t 2]
def laws_toAskerS_s0 (t0 t3 t4 : AV) (loc : List (List AV)) (h : AH) : St := ⟨[t0, .any, .any, t3, t4, .any, .any, .any, .any, .any, .any, .any, .any, .any, .any, .any, .any, .any, .any, .any, .any, .any, .any], loc, h⟩
theorem laws_toAskerS_e {a0 : AV} {h : AH} {K : AV → AH → Prop} (hw : TC Tryz.prog Θ Γ laws_toAskerS_c (retQ laws_toAskerS_r K) ⟨[a0, u, u, u, u, u, u, u, u, u, u, u, u, u, u, u, u, u, u, u, u, u, u], [], h⟩) : T Tryz.prog Γ Fn.laws_toAskerS [a0] h K :=
  T_of_body tabOK Tryz.func176 (code := bodyOf Tryz.f176) (by kernel_rfl) (by kernel_rfl) (by kernel_rfl) (by kernel_rfl) hw
def laws_toExportS_c : C := .seq (.reg [⟨(some 2), none, .mov (.c (.nils))⟩]) (.seq (.reg [⟨(some 5), none, .mov (.t 0)⟩,
  ⟨(some 6), none, .len false (.t 5)⟩,
  ⟨(some 7), none, .mks 3 24 [.int .i64 0, .int .i64 0, .int .i64 0] (.t 6) (.t 6)⟩,
  ⟨(some 3), none, .mov (.t 7)⟩]) (.seq (.seq (.reg [⟨(some 4), none, .mov (.c (.int .i64 0))⟩]) (.block 0 (.loop (.seq (.seq (.reg [⟨(some 8), none, .mov (.t 4)⟩,
  ⟨(some 9), none, .mov (.t 0)⟩,
  ⟨(some 10), none, .len false (.t 9)⟩,
  ⟨(some 11), none, .bin .lss (.num) (.t 8) (.t 10)⟩]) (.cond (.t 11) (.skip) (.exit 0))) (.seq (.block 1 (.reg [⟨(some 14), none, .mov (.t 3)⟩,
  ⟨(some 15), none, .mov (.t 4)⟩,
  ⟨(some 16), none, .mov (.t 0)⟩,
  ⟨(some 17), none, .mov (.t 4)⟩,
  ⟨(some 18), none, .idxs 3 (.t 16) (.t 17)⟩,
  ⟨(some 19), none, .load 3 true (.t 18)⟩,
  ⟨(some 20), none, .call (.c (.fn Fn.laws_toExport [] [])) [.t 19]⟩,
  ⟨(some 21), none, .idxs 3 (.t 14) (.t 15)⟩,
  ⟨none, none, .store 3 (.t 21) (.t 20)⟩])) (.reg [⟨(some 12), none, .mov (.t 4)⟩,
  ⟨(some 13), none, .bin .add (.num) (.t 12) (.c (.int .i64 1))⟩,
  ⟨(some 4), none, .mov (.t 13)⟩])))))) (.seq (.reg [⟨(some 22), none, .mov (.t 3)⟩,
  ⟨(some 2), none, .mov (.t 22)⟩]) (.ret))))
def laws_toExportS_r : List RS := [.t 2]
def laws_toExportS_s0 (t0 t3 t4 : AV) (loc : List (List AV)) (h : AH) : St := ⟨[t0, .any, .any, t3, t4, .any, .any, .any, .any, .any, .any, .any, .any, .any, .any, .any, .any, .any, .any, .any, .any, .any, .any], loc, h⟩
theorem laws_toExportS_e {a0 : AV} {h : AH} {K : AV → AH → Prop} (hw : TC Tryz.prog Θ Γ laws_toExportS_c (retQ laws_toExportS_r K) ⟨[a0, u, u, u, u, u, u, u, u, u, u, u, u, u, u, u, u, u, u, u, u, u, u], [], h⟩) : T Tryz.prog Γ Fn.laws_toExportS [a0] h K :=
  T_of_body tabOK Tryz.func177 (code := bodyOf Tryz.f177) (by kernel_rfl) (by kernel_rfl) (by kernel_rfl) (by kernel_rfl) hw
def laws_toQuestionS_c : C := .seq (.reg [⟨(some 2), none, .mov (.c (.nils))⟩]) (.seq (.reg [⟨(some 5), none, .mov (.t 0)⟩,
  ⟨(some 6), none, .len false (.t 5)⟩,
  ⟨(some 7), none, .mks 2 16 [.int .i64 0, .int .i64 0] (.t 6) (.t 6)⟩,
  ⟨(some 3), none, .mov (.t 7)⟩]) (.seq (.seq (.reg [⟨(some 4), none, .mov (.c (.int .i64 0))⟩]) (.block 0 (.loop (.seq (.seq (.reg [⟨(some 8), none, .mov (.t 4)⟩,
  ⟨(some 9), none, .mov (.t 0)⟩,
  ⟨(some 10), none, .len false (.t 9)⟩,
  ⟨(some 11), none, .bin .lss (.num) (.t 8) (.t 10)⟩]) (.cond (.t 11) (.skip) (.exit 0))) (.seq (.block 1 (.reg [⟨(some 14), none, .mov (.t 3)⟩,
  ⟨(some 15), none, .mov (.t 4)⟩,
  ⟨(some 16), none, .mov (.t 0)⟩,
  ⟨(some 17), none, .mov (.t 4)⟩,
  ⟨(some 18), none, .idxs 2 (.t 16) (.t 17)⟩,
  ⟨(some 19), none, .load 2 true (.t 18)⟩,
  ⟨(some 20), none, .call (.c (.fn Fn.laws_toQuestion [] [])) [.t 19]⟩,
  ⟨(some 21), none, .idxs 2 (.t 14) (.t 15)⟩,
  ⟨none, none, .store 2 (.t 21) (.t 20)⟩])) (.reg [⟨(some 12), none, .mov (.t 4)⟩,
  ⟨(some 13), none, .bin .add (.num) (.t 12) (.c (.int .i64 1))⟩,
  ⟨(some 4), none, .mov (.t 13)⟩])))))) (.seq (.reg [⟨(some 22), none, .mov (.t 3)⟩,
  ⟨(some 2), none, .mov (.t 22)⟩]) (.ret))))
def laws_toQuestionS_r : List RS := [.t 2]
def laws_toQuestionS_s0 (t0 t3 t4 : AV) (loc : List (List AV)) (h : AH) : St := ⟨[t0, .any, .any, t3, t4, .any, .any, .any, .any, .any, .any, .any, .any, .any, .any, .any, .any, .any, .any, .any, .any, .any, .any], loc, h⟩
theorem laws_toQuestionS_e {a0 : AV} {h : AH} {K : AV → AH → Prop} (hw : TC Tryz.prog Θ Γ laws_toQuestionS_c (retQ laws_toQuestionS_r K) ⟨[a0, u, u, u, u, u, u, u, u, u, u, u, u, u, u, u, u, u, u, u, u, u, u], [], h⟩) : T Tryz.prog Γ Fn.laws_toQuestionS [a0] h K :=
  T_of_body tabOK Tryz.func178 (code := bodyOf Tryz.f178) (by kernel_rfl) (by kernel_rfl) (by kernel_rfl) (by kernel_rfl) hw
def slices_IndexFunc_iimpl_Link_impl_Link_c : C := .seq (.reg [⟨(some 4), none, .mov (.c (.int .i64 0))⟩]) (.seq (.seq (.reg [⟨(some 6), none, .mov (.t 0)⟩,
  ⟨(some 7), none, .len false (.t 6)⟩,
  ⟨(some 8), none, .mov (.c (.int .i64 0))⟩]) (.block 0 (.loop (.seq (.reg [⟨(some 9), none, .bin .lss (.num) (.t 8) (.t 7)⟩]) (.seq (.cond (.t 9) (.skip) (.exit 0)) (.seq (.block 1 (.seq (.reg [⟨(some 10), none, .mov (.t 8)⟩,
  ⟨(some 5), none, .mov (.t 10)⟩]) (.seq (.reg [⟨(some 11), none, .mov (.t 1)⟩,
  ⟨(some 12), none, .mov (.t 0)⟩,
  ⟨(some 13), none, .mov (.t 5)⟩,
  ⟨(some 14), none, .idxs 7 (.t 12) (.t 13)⟩,
  ⟨(some 15), none, .load 7 true (.t 14)⟩,
  ⟨(some 16), none, .call (.t 11) [.t 15]⟩]) (.cond (.t 16) (.seq (.reg [⟨(some 17), none, .mov (.t 5)⟩,
  ⟨(some 4), none, .mov (.t 17)⟩]) (.ret)) (.skip))))) (.reg [⟨(some 18), none, .bin .add (.num) (.t 8) (.c (.int .i64 1))⟩,
  ⟨(some 8), none, .mov (.t 18)⟩]))))))) (.seq (.reg [⟨(some 4), none, .mov (.c (.int .i64 (-1)))⟩]) (.ret)))
def slices_IndexFunc_iimpl_Link_impl_Link_r : List RS := [.t 4]
def slices_IndexFunc_iimpl_Link_impl_Link_s0 (t0 t1 t7 t8 : AV) (loc : List (List AV)) (h : AH) : St := ⟨[t0, t1, .any, .any, .any, .any, .any, t7, t8, .any, .any, .any, .any, .any, .any, .any, .any, .any, .any], loc, h⟩
theorem slices_IndexFunc_iimpl_Link_impl_Link_e {a0 a1 : AV} {h : AH} {K : AV → AH → Prop} (hw : TC Tryz.prog Θ Γ slices_IndexFunc_iimpl_Link_impl_Link_c (retQ slices_IndexFunc_iimpl_Link_impl_Link_r K) ⟨[a0, a1, u, u, u, u, u, u, u, u, u, u, u, u, u, u, u, u, u], [], h⟩) : T Tryz.prog Γ Fn.slices_IndexFunc_iimpl_Link_impl_Link [a0, a1] h K :=
  T_of_body tabOK Tryz.func179 (code := bodyOf Tryz.f179) (by kernel_rfl) (by kernel_rfl) (by kernel_rfl) (by kernel_rfl) hw
def impl_LinkTo_1_c : C := .seq (.reg [⟨(some 2), none, .box (.t 0)⟩,
  ⟨(some 3), none, .mov (.c (.bool false))⟩]) (.seq (.reg [⟨(some 4), none, .fld 0 (.t 2)⟩,
  ⟨(some 5), none, .load 1 false (.t 4)⟩,
  ⟨(some 6), none, .load 1 false (.t 1)⟩,
  ⟨(some 7), none, .bin .eql (.num) (.t 5) (.t 6)⟩,
  ⟨(some 3), none, .mov (.t 7)⟩]) (.ret))
def impl_LinkTo_1_r : List RS := [.t 3]
theorem impl_LinkTo_1_e {a0 a1 : AV} {h : AH} {K : AV → AH → Prop} (hw : TC Tryz.prog Θ Γ impl_LinkTo_1_c (retQ impl_LinkTo_1_r K) ⟨[a0, a1, u, u, u, u, u, u], [], h⟩) : T Tryz.prog Γ Fn.impl_LinkTo_1 [a0, a1] h K :=
  T_of_body tabOK Tryz.func180 (code := bodyOf Tryz.f180) (by kernel_rfl) (by kernel_rfl) (by kernel_rfl) (by kernel_rfl) hw
def laws_eqValueS_d0_os : List O := [⟨(some 17), none, .mov (.t 0)⟩,
  ⟨(some 18), none, .mov (.t 5)⟩,
  ⟨(some 19), none, .idxs 2 (.t 17) (.t 18)⟩,
  ⟨(some 20), none, .load 2 true (.t 19)⟩,
  ⟨(some 21), none, .mov (.t 1)⟩,
  ⟨(some 22), none, .mov (.t 5)⟩,
  ⟨(some 23), none, .idxs 2 (.t 21) (.t 22)⟩,
  ⟨(some 24), none, .load 2 true (.t 23)⟩,
  ⟨(some 25), none, .call (.c (.fn Fn.laws_eqValue [] [])) [.t 20, .t 24]⟩,
  ⟨(some 26), none, .un .not (.t 25)⟩]
def laws_eqValueS_d0_af : List (List Nat) := [[], [], [0, 1], [2], [], [], [4, 5], [6], [3, 7], [8]]
theorem laws_eqValueS_d0_q (gl : Gl) (Q : AE → St → Prop) (s : St) : aw Tryz.prog Θ Γ gl (.regD laws_eqValueS_d0_os laws_eqValueS_d0_af) Q s = awpT Tryz.prog Γ gl [⟨(some 17), none, .mov (.t 0)⟩,
  ⟨(some 18), none, .mov (.t 5)⟩,
  ⟨(some 19), none, .idxs 2 (.t 17) (.t 18)⟩,
  ⟨(some 20), none, .load 2 true (.t 19)⟩,
  ⟨(some 21), none, .mov (.t 1)⟩,
  ⟨(some 22), none, .mov (.t 5)⟩,
  ⟨(some 23), none, .idxs 2 (.t 21) (.t 22)⟩,
  ⟨(some 24), none, .load 2 true (.t 23)⟩,
  ⟨(some 25), none, .call (.c (.fn Fn.laws_eqValue [] [])) [.t 20, .t 24]⟩,
  ⟨(some 26), none, .un .not (.t 25)⟩] (Q .normal) 10 (.q 0 (.q 1 (.q 2 (.q 3 (.q 4 (.q 5 (.q 6 (.q 7 (.q 8 (.q 9 (.done))))))))))) s := a_dd rfl (by kernel_rfl) gl Q s
def laws_eqValueS_c : C := .seq (.reg [⟨(some 4), none, .mov (.c (.bool false))⟩]) (.seq (.seq (.reg [⟨(some 6), none, .mov (.t 0)⟩,
  ⟨(some 7), none, .len false (.t 6)⟩,
  ⟨(some 8), none, .mov (.t 1)⟩,
  ⟨(some 9), none, .len false (.t 8)⟩,
  ⟨(some 10), none, .bin .neq (.num) (.t 7) (.t 9)⟩]) (.cond (.t 10) (.seq (.reg [⟨(some 4), none, .mov (.c (.bool false))⟩]) (.ret)) (.skip))) (.seq (.seq (.reg [⟨(some 5), none, .mov (.c (.int .i64 0))⟩]) (.block 0 (.loop (.seq (.seq (.reg [⟨(some 11), none, .mov (.t 5)⟩,
  ⟨(some 12), none, .mov (.t 0)⟩,
  ⟨(some 13), none, .len false (.t 12)⟩,
  ⟨(some 14), none, .bin .lss (.num) (.t 11) (.t 13)⟩]) (.cond (.t 14) (.skip) (.exit 0))) (.seq (.block 1 (.seq (.regD laws_eqValueS_d0_os laws_eqValueS_d0_af) (.cond (.t 26) (.seq (.reg [⟨(some 4), none, .mov (.c (.bool false))⟩]) (.ret)) (.skip)))) (.reg [⟨(some 15), none, .mov (.t 5)⟩,
  ⟨(some 16), none, .bin .add (.num) (.t 15) (.c (.int .i64 1))⟩,
  ⟨(some 5), none, .mov (.t 16)⟩])))))) (.seq (.reg [⟨(some 4), none, .mov (.c (.bool true))⟩]) (.ret))))
def laws_eqValueS_r : List RS := [.t 4]
def laws_eqValueS_s0 (t0 t1 t5 : AV) (loc : List (List AV)) (h : AH) : St := ⟨[t0, t1, .any, .any, .any, t5, .any, .any, .any, .any, .any, .any, .any, .any, .any, .any, .any, .any, .any, .any, .any, .any, .any, .any, .any, .any, .any], loc, h⟩
theorem laws_eqValueS_e {a0 a1 : AV} {h : AH} {K : AV → AH → Prop} (hw : TC Tryz.prog Θ Γ laws_eqValueS_c (retQ laws_eqValueS_r K) ⟨[a0, a1, u, u, u, u, u, u, u, u, u, u, u, u, u, u, u, u, u, u, u, u, u, u, u, u, u], [], h⟩) : T Tryz.prog Γ Fn.laws_eqValueS [a0, a1] h K :=
  T_of_body tabOK Tryz.func184 (code := bodyOf Tryz.f184) (by kernel_rfl) (by kernel_rfl) (by kernel_rfl) (by kernel_rfl) hw
def laws_eqValue_c : C := .seq (.reg [⟨(some 2), none, .box (.t 0)⟩,
  ⟨(some 3), none, .box (.t 1)⟩,
  ⟨(some 4), none, .mov (.c (.bool false))⟩]) (.seq (.seq (.reg [⟨(some 5), none, .fld 0 (.t 2)⟩,
  ⟨(some 6), none, .load 1 false (.t 5)⟩,
  ⟨(some 7), none, .fld 0 (.t 3)⟩,
  ⟨(some 8), none, .load 1 false (.t 7)⟩,
  ⟨(some 9), none, .bin .neq (.num) (.t 6) (.t 8)⟩]) (.cond (.t 9) (.seq (.reg [⟨(some 4), none, .mov (.c (.bool false))⟩]) (.ret)) (.skip))) (.seq (.seq (.reg [⟨(some 10), none, .fld 1 (.t 2)⟩,
  ⟨(some 11), none, .load 1 false (.t 10)⟩,
  ⟨(some 12), none, .fld 1 (.t 3)⟩,
  ⟨(some 13), none, .load 1 false (.t 12)⟩,
  ⟨(some 14), none, .bin .neq (.num) (.t 11) (.t 13)⟩]) (.cond (.t 14) (.seq (.reg [⟨(some 4), none, .mov (.c (.bool false))⟩]) (.ret)) (.skip))) (.seq (.reg [⟨(some 4), none, .mov (.c (.bool true))⟩]) (.ret))))
def laws_eqValue_r : List RS := [.t 4]
theorem laws_eqValue_e {a0 a1 : AV} {h : AH} {K : AV → AH → Prop} (hw : TC Tryz.prog Θ Γ laws_eqValue_c (retQ laws_eqValue_r K) ⟨[a0, a1, u, u, u, u, u, u, u, u, u, u, u, u, u], [], h⟩) : T Tryz.prog Γ Fn.laws_eqValue [a0, a1] h K :=
  T_of_body tabOK Tryz.func185 (code := bodyOf Tryz.f185) (by kernel_rfl) (by kernel_rfl) (by kernel_rfl) (by kernel_rfl) hw
def laws_eqAskerS_d0_os : List O := [⟨(some 17), none, .mov (.t 0)⟩,
  ⟨(some 18), none, .mov (.t 5)⟩,
  ⟨(some 19), none, .idxs 2 (.t 17) (.t 18)⟩,
  ⟨(some 20), none, .load 2 true (.t 19)⟩,
  ⟨(some 21), none, .mov (.t 1)⟩,
  ⟨(some 22), none, .mov (.t 5)⟩,
  ⟨(some 23), none, .idxs 2 (.t 21) (.t 22)⟩,
  ⟨(some 24), none, .load 2 true (.t 23)⟩,
  ⟨(some 25), none, .call (.c (.fn Fn.laws_eqAsker [] [])) [.t 20, .t 24]⟩,
  ⟨(some 26), none, .un .not (.t 25)⟩]
def laws_eqAskerS_d0_af : List (List Nat) := [[], [], [0, 1], [2], [], [], [4, 5], [6], [3, 7], [8]]
theorem laws_eqAskerS_d0_q (gl : Gl) (Q : AE → St → Prop) (s : St) : aw Tryz.prog Θ Γ gl (.regD laws_eqAskerS_d0_os laws_eqAskerS_d0_af) Q s = awpT Tryz.prog Γ gl [⟨(some 17), none, .mov (.t 0)⟩,
  ⟨(some 18), none, .mov (.t 5)⟩,
  ⟨(some 19), none, .idxs 2 (.t 17) (.t 18)⟩,
  ⟨(some 20), none, .load 2 true (.t 19)⟩,
  ⟨(some 21), none, .mov (.t 1)⟩,
  ⟨(some 22), none, .mov (.t 5)⟩,
  ⟨(some 23), none, .idxs 2 (.t 21) (.t 22)⟩,
  ⟨(some 24), none, .load 2 true (.t 23)⟩,
  ⟨(some 25), none, .call (.c (.fn Fn.laws_eqAsker [] [])) [.t 20, .t 24]⟩,
  ⟨(some 26), none, .un .not (.t 25)⟩] (Q .normal) 10 (.q 0 (.q 1 (.q 2 (.q 3 (.q 4 (.q 5 (.q 6 (.q 7 (.q 8 (.q 9 (.done))))))))))) s := a_dd rfl (by kernel_rfl) gl Q s
def laws_eqAskerS_c : C := .seq (.reg [⟨(some 4), none, .mov (.c (.bool false))⟩]) (.seq (.seq (.reg [⟨(some 6), none, .mov (.t 0)⟩,
  ⟨(some 7), none, .len false (.t 6)⟩,
  ⟨(some 8), none, .mov (.t 1)⟩,
  ⟨(some 9), none, .len false (.t 8)⟩,
  ⟨(some 10), none, .bin .neq (.num) (.t 7) (.t 9)⟩]) (.cond (.t 10) (.seq (.reg [⟨(some 4), none, .mov (.c (.bool false))⟩]) (.ret)) (.skip))) (.seq (.seq (.reg [⟨(some 5), none, .mov (.c (.int .i64 0))⟩]) (.block 0 (.loop (.seq (.seq (.reg [⟨(some 11), none, .mov (.t 5)⟩,
  ⟨(some 12), none, .mov (.t 0)⟩,
  ⟨(some 13), none, .len false (.t 12)⟩,
  ⟨(some 14), none, .bin .lss (.num) (.t 11) (.t 13)⟩]) (.cond (.t 14) (.skip) (.exit 0))) (.seq (.block 1 (.seq (.regD laws_eqAskerS_d0_os laws_eqAskerS_d0_af) (.cond (.t 26) (.seq (.reg [⟨(some 4), none, .mov (.c (.bool false))⟩]) (.ret)) (.skip)))) (.reg [⟨(some 15), none, .mov (.t 5)⟩,
  ⟨(some 16), none, .bin .add (.num) (.t 15) (.c (.int .i64 1))⟩,
  ⟨(some 5), none, .mov (.t 16)⟩])))))) (.seq (.reg [⟨(some 4), none, .mov (.c (.bool true))⟩]) (.ret))))
def laws_eqAskerS_r : List RS := [.t 4]
def laws_eqAskerS_s0 (t0 t1 t5 : AV) (loc : List (List AV)) (h : AH) : St := ⟨[t0, t1, .any, .any, .any, t5, .any, .any, .any, .any, .any, .any, .any, .any, .any, .any, .any, .any, .any, .any, .any, .any, .any, .any, .any, .any, .any], loc, h⟩
theorem laws_eqAskerS_e {a0 a1 : AV} {h : AH} {K : AV → AH → Prop} (hw : TC Tryz.prog Θ Γ laws_eqAskerS_c (retQ laws_eqAskerS_r K) ⟨[a0, a1, u, u, u, u, u, u, u, u, u, u, u, u, u, u, u, u, u, u, u, u, u, u, u, u, u], [], h⟩) : T Tryz.prog Γ Fn.laws_eqAskerS [a0, a1] h K :=
  T_of_body tabOK Tryz.func186 (code := bodyOf Tryz.f186) (by kernel_rfl) (by kernel_rfl) (by kernel_rfl) (by kernel_rfl) hw
def laws_eqExportS_d0_os : List O := [⟨(some 17), none, .mov (.t 0)⟩,
  ⟨(some 18), none, .mov (.t 5)⟩,
  ⟨(some 19), none, .idxs 3 (.t 17) (.t 18)⟩,
  ⟨(some 20), none, .load 3 true (.t 19)⟩,
  ⟨(some 21), none, .mov (.t 1)⟩,
  ⟨(some 22), none, .mov (.t 5)⟩,
  ⟨(some 23), none, .idxs 3 (.t 21) (.t 22)⟩,
  ⟨(some 24), none, .load 3 true (.t 23)⟩,
  ⟨(some 25), none, .call (.c (.fn Fn.laws_eqExport [] [])) [.t 20, .t 24]⟩,
  ⟨(some 26), none, .un .not (.t 25)⟩]
def laws_eqExportS_d0_af : List (List Nat) := [[], [], [0, 1], [2], [], [], [4, 5], [6], [3, 7], [8]]
theorem laws_eqExportS_d0_q (gl : Gl) (Q : AE → St → Prop) (s : St) : aw Tryz.prog Θ Γ gl (.regD laws_eqExportS_d0_os laws_eqExportS_d0_af) Q s = awpT Tryz.prog Γ gl [⟨(some 17), none, .mov (.t 0)⟩,
  ⟨(some 18), none, .mov (.t 5)⟩,
  ⟨(some 19), none, .idxs 3 (.t 17) (.t 18)⟩,
  ⟨(some 20), none, .load 3 true (.t 19)⟩,
  ⟨(some 21), none, .mov (.t 1)⟩,
  ⟨(some 22), none, .mov (.t 5)⟩,
  ⟨(some 23), none, .idxs 3 (.t 21) (.t 22)⟩,
  ⟨(some 24), none, .load 3 true (.t 23)⟩,
  ⟨(some 25), none, .call (.c (.fn Fn.laws_eqExport [] [])) [.t 20, .t 24]⟩,
  ⟨(some 26), none, .un .not (.t 25)⟩] (Q .normal) 10 (.q 0 (.q 1 (.q 2 (.q 3 (.q 4 (.q 5 (.q 6 (.q 7 (.q 8 (.q 9 (.done))))))))))) s := a_dd rfl (by kernel_rfl) gl Q s
def laws_eqExportS_c : C := .seq (.reg [⟨(some 4), none, .mov (.c (.bool false))⟩]) (.seq (.seq (.reg [⟨(some 6), none, .mov (.t 0)⟩,
  ⟨(some 7), none, .len false (.t 6)⟩,
  ⟨(some 8), none, .mov (.t 1)⟩,
  ⟨(some 9), none, .len false (.t 8)⟩,
  ⟨(some 10), none, .bin .neq (.num) (.t 7) (.t 9)⟩]) (.cond (.t 10) (.seq (.reg [⟨(some 4), none, .mov (.c (.bool false))⟩]) (.ret)) (.skip))) (.seq (.seq (.reg [⟨(some 5), none, .mov (.c (.int .i64 0))⟩]) (.block 0 (.loop (.seq (.seq (.reg [⟨(some 11), none, .mov (.t 5)⟩,
  ⟨(some 12), none, .mov (.t 0)⟩,
  ⟨(some 13), none, .len false (.t 12)⟩,
  ⟨(some 14), none, .bin .lss (.num) (.t 11) (.t 13)⟩]) (.cond (.t 14) (.skip) (.exit 0))) (.seq (.block 1 (.seq (.regD laws_eqExportS_d0_os laws_eqExportS_d0_af) (.cond (.t 26) (.seq (.reg [⟨(some 4), none, .mov (.c (.bool false))⟩]) (.ret)) (.skip)))) (.reg [⟨(some 15), none, .mov (.t 5)⟩,
  ⟨(some 16), none, .bin .add (.num) (.t 15) (.c (.int .i64 1))⟩,
  ⟨(some 5), none, .mov (.t 16)⟩])))))) (.seq (.reg [⟨(some 4), none, .mov (.c (.bool true))⟩]) (.ret))))
def laws_eqExportS_r : List RS := [.t 4]
def laws_eqExportS_s0 (t0 t1 t5 : AV) (loc : List (List AV)) (h : AH) : St := ⟨[t0, t1, .any, .any, .any, t5, .any, .any, .any, .any, .any, .any, .any, .any, .any, .any, .any, .any, .any, .any, .any, .any, .any, .any, .any, .any, .any], loc, h⟩
theorem laws_eqExportS_e {a0 a1 : AV} {h : AH} {K : AV → AH → Prop} (hw : TC Tryz.prog Θ Γ laws_eqExportS_c (retQ laws_eqExportS_r K) ⟨[a0, a1, u, u, u, u, u, u, u, u, u, u, u, u, u, u, u, u, u, u, u, u, u, u, u, u, u], [], h⟩) : T Tryz.prog Γ Fn.laws_eqExportS [a0, a1] h K :=
  T_of_body tabOK Tryz.func187 (code := bodyOf Tryz.f187) (by kernel_rfl) (by kernel_rfl) (by kernel_rfl) (by kernel_rfl) hw
def laws_eqQuestionS_d0_os : List O := [⟨(some 17), none, .mov (.t 0)⟩,
  ⟨(some 18), none, .mov (.t 5)⟩,
  ⟨(some 19), none, .idxs 2 (.t 17) (.t 18)⟩,
  ⟨(some 20), none, .load 2 true (.t 19)⟩,
  ⟨(some 21), none, .mov (.t 1)⟩,
  ⟨(some 22), none, .mov (.t 5)⟩,
  ⟨(some 23), none, .idxs 2 (.t 21) (.t 22)⟩,
  ⟨(some 24), none, .load 2 true (.t 23)⟩,
  ⟨(some 25), none, .call (.c (.fn Fn.laws_eqQuestion [] [])) [.t 20, .t 24]⟩,
  ⟨(some 26), none, .un .not (.t 25)⟩]
def laws_eqQuestionS_d0_af : List (List Nat) := [[], [], [0, 1], [2], [], [], [4, 5], [6], [3, 7], [8]]
theorem laws_eqQuestionS_d0_q (gl : Gl) (Q : AE → St → Prop) (s : St) : aw Tryz.prog Θ Γ gl (.regD laws_eqQuestionS_d0_os laws_eqQuestionS_d0_af) Q s = awpT Tryz.prog Γ gl [⟨(some 17), none, .mov (.t 0)⟩,
  ⟨(some 18), none, .mov (.t 5)⟩,
  ⟨(some 19), none, .idxs 2 (.t 17) (.t 18)⟩,
  ⟨(some 20), none, .load 2 true (.t 19)⟩,
  ⟨(some 21), none, .mov (.t 1)⟩,
  ⟨(some 22), none, .mov (.t 5)⟩,
  ⟨(some 23), none, .idxs 2 (.t 21) (.t 22)⟩,
  ⟨(some 24), none, .load 2 true (.t 23)⟩,
  ⟨(some 25), none, .call (.c (.fn Fn.laws_eqQuestion [] [])) [.t 20, .t 24]⟩,
  ⟨(some 26), none, .un .not (.t 25)⟩] (Q .normal) 10 (.q 0 (.q 1 (.q 2 (.q 3 (.q 4 (.q 5 (.q 6 (.q 7 (.q 8 (.q 9 (.done))))))))))) s := a_dd rfl (by kernel_rfl) gl Q s
def laws_eqQuestionS_c : C := .seq (.reg [⟨(some 4), none, .mov (.c (.bool false))⟩]) (.seq (.seq (.reg [⟨(some 6), none, .mov (.t 0)⟩,
  ⟨(some 7), none, .len false (.t 6)⟩,
  ⟨(some 8), none, .mov (.t 1)⟩,
  ⟨(some 9), none, .len false (.t 8)⟩,
  ⟨(some 10), none, .bin .neq (.num) (.t 7) (.t 9)⟩]) (.cond (.t 10) (.seq (.reg [⟨(some 4), none, .mov (.c (.bool false))⟩]) (.ret)) (.skip))) (.seq (.seq (.reg [⟨(some 5), none, .mov (.c (.int .i64 0))⟩]) (.block 0 (.loop (.seq (.seq (.reg [⟨(some 11), none, .mov (.t 5)⟩,
  ⟨(some 12), none, .mov (.t 0)⟩,
  ⟨(some 13), none, .len false (.t 12)⟩,
  ⟨(some 14), none, .bin .lss (.num) (.t 11) (.t 13)⟩]) (.cond (.t 14) (.skip) (.exit 0))) (.seq (.block 1 (.seq (.regD laws_eqQuestionS_d0_os laws_eqQuestionS_d0_af) (.cond (.t 26) (.seq (.reg [⟨(some 4), none, .mov (.c (.bool false))⟩]) (.ret)) (.skip)))) (.reg [⟨(some 15), none, .mov (.t 5)⟩,
  ⟨(some 16), none, .bin .add (.num) (.t 15) (.c (.int .i64 1))⟩,
  ⟨(some 5), none, .mov (.t 16)⟩])))))) (.seq (.reg [⟨(some 4), none, .mov (.c (.bool true))⟩]) (.ret))))
def laws_eqQuestionS_r : List RS := [.t 4]
def laws_eqQuestionS_s0 (t0 t1 t5 : AV) (loc : List (List AV)) (h : AH) : St := ⟨[t0, t1, .any, .any, .any, t5, .any, .any, .any, .any, .any, .any, .any, .any, .any, .any, .any, .any, .any, .any, .any, .any, .any, .any, .any, .any, .any], loc, h⟩
theorem laws_eqQuestionS_e {a0 a1 : AV} {h : AH} {K : AV → AH → Prop} (hw : TC Tryz.prog Θ Γ laws_eqQuestionS_c (retQ laws_eqQuestionS_r K) ⟨[a0, a1, u, u, u, u, u, u, u, u, u, u, u, u, u, u, u, u, u, u, u, u, u, u, u, u, u], [], h⟩) : T Tryz.prog Γ Fn.laws_eqQuestionS [a0, a1] h K :=
  T_of_body tabOK Tryz.func188 (code := bodyOf Tryz.f188) (by kernel_rfl) (by kernel_rfl) (by kernel_rfl) (by kernel_rfl) hw
def impl_Sent_copied_c : C := .seq (.reg [⟨(some 1), none, .box (.t 0)⟩,
  ⟨(some 2), none, .alloc [.int .i64 0, .str ⟨#[]⟩, .nils, .int .i64 0, .int .i64 0, .int .i64 0, .int .i64 0]⟩]) (.seq (.reg [⟨(some 3), none, .fld 2 (.t 1)⟩,
  ⟨(some 4), none, .load 1 false (.t 3)⟩,
  ⟨(some 5), none, .call (.c (.fn Fn.slices_Clone_iimpl_Value_impl_Value [] [])) [.t 4]⟩,
  ⟨(some 6), none, .fld 2 (.t 1)⟩,
  ⟨none, none, .store 1 (.t 6) (.t 5)⟩]) (.seq (.reg [⟨(some 7), none, .load 7 true (.t 1)⟩,
  ⟨none, none, .store 7 (.t 2) (.t 7)⟩]) (.ret)))
def impl_Sent_copied_r : List RS := [.cell 2 7 true]
theorem impl_Sent_copied_e {a0 : AV} {h : AH} {K : AV → AH → Prop} (hw : TC Tryz.prog Θ Γ impl_Sent_copied_c (retQ impl_Sent_copied_r K) ⟨[a0, u, u, u, u, u, u, u], [], h⟩) : T Tryz.prog Γ Fn.impl_Sent_copied [a0] h K :=
  T_of_body tabOK Tryz.func189 (code := bodyOf Tryz.f189) (by kernel_rfl) (by kernel_rfl) (by kernel_rfl) (by kernel_rfl) hw
def slices_Clone_iimpl_Value_impl_Value_c : C := .seq (.reg [⟨(some 2), none, .mov (.c (.nils))⟩]) (.seq (.seq (.reg [⟨(some 3), none, .mov (.t 0)⟩,
  ⟨(some 4), none, .bin .eql (.nils) (.t 3) (.c (.nils))⟩]) (.cond (.t 4) (.seq (.reg [⟨(some 2), none, .mov (.c (.nils))⟩]) (.ret)) (.skip))) (.seq (.reg [⟨(some 5), none, .bsl 2 0 [.int .i64 0, .int .i64 0] []⟩,
  ⟨(some 6), none, .mov (.t 0)⟩,
  ⟨(some 7), none, .app 2 16 [.int .i64 0, .int .i64 0] false (.t 5) (.t 6)⟩,
  ⟨(some 2), none, .mov (.t 7)⟩]) (.ret)))
def slices_Clone_iimpl_Value_impl_Value_r : List RS := [.t 2]
theorem slices_Clone_iimpl_Value_impl_Value_e {a0 : AV} {h : AH} {K : AV → AH → Prop} (hw : TC Tryz.prog Θ Γ slices_Clone_iimpl_Value_impl_Value_c (retQ slices_Clone_iimpl_Value_impl_Value_r K) ⟨[a0, u, u, u, u, u, u, u], [], h⟩) : T Tryz.prog Γ Fn.slices_Clone_iimpl_Value_impl_Value [a0] h K :=
  T_of_body tabOK Tryz.func190 (code := bodyOf Tryz.f190) (by kernel_rfl) (by kernel_rfl) (by kernel_rfl) (by kernel_rfl) hw
def slices_Clone_iimpl_Asker_impl_Asker_c : C := .seq (.reg [⟨(some 2), none, .mov (.c (.nils))⟩]) (.seq (.seq (.reg [⟨(some 3), none, .mov (.t 0)⟩,
  ⟨(some 4), none, .bin .eql (.nils) (.t 3) (.c (.nils))⟩]) (.cond (.t 4) (.seq (.reg [⟨(some 2), none, .mov (.c (.nils))⟩]) (.ret)) (.skip))) (.seq (.reg [⟨(some 5), none, .bsl 2 0 [.int .i64 0, .int .i64 0] []⟩,
  ⟨(some 6), none, .mov (.t 0)⟩,
  ⟨(some 7), none, .app 2 16 [.int .i64 0, .int .i64 0] false (.t 5) (.t 6)⟩,
  ⟨(some 2), none, .mov (.t 7)⟩]) (.ret)))
def slices_Clone_iimpl_Asker_impl_Asker_r : List RS := [.t 2]
theorem slices_Clone_iimpl_Asker_impl_Asker_e {a0 : AV} {h : AH} {K : AV → AH → Prop} (hw : TC Tryz.prog Θ Γ slices_Clone_iimpl_Asker_impl_Asker_c (retQ slices_Clone_iimpl_Asker_impl_Asker_r K) ⟨[a0, u, u, u, u, u, u, u], [], h⟩) : T Tryz.prog Γ Fn.slices_Clone_iimpl_Asker_impl_Asker [a0] h K :=
  T_of_body tabOK Tryz.func191 (code := bodyOf Tryz.f191) (by kernel_rfl) (by kernel_rfl) (by kernel_rfl) (by kernel_rfl) hw
def slices_Clone_iimpl_Export_impl_Export_c : C := .seq (.reg [⟨(some 2), none, .mov (.c (.nils))⟩]) (.seq (.seq (.reg [⟨(some 3), none, .mov (.t 0)⟩,
  ⟨(some 4), none, .bin .eql (.nils) (.t 3) (.c (.nils))⟩]) (.cond (.t 4) (.seq (.reg [⟨(some 2), none, .mov (.c (.nils))⟩]) (.ret)) (.skip))) (.seq (.reg [⟨(some 5), none, .bsl 3 0 [.int .i64 0, .int .i64 0, .int .i64 0] []⟩,
  ⟨(some 6), none, .mov (.t 0)⟩,
  ⟨(some 7), none, .app 3 24 [.int .i64 0, .int .i64 0, .int .i64 0] false (.t 5) (.t 6)⟩,
  ⟨(some 2), none, .mov (.t 7)⟩]) (.ret)))
def slices_Clone_iimpl_Export_impl_Export_r : List RS := [.t 2]
theorem slices_Clone_iimpl_Export_impl_Export_e {a0 : AV} {h : AH} {K : AV → AH → Prop} (hw : TC Tryz.prog Θ Γ slices_Clone_iimpl_Export_impl_Export_c (retQ slices_Clone_iimpl_Export_impl_Export_r K) ⟨[a0, u, u, u, u, u, u, u], [], h⟩) : T Tryz.prog Γ Fn.slices_Clone_iimpl_Export_impl_Export [a0] h K :=
  T_of_body tabOK Tryz.func192 (code := bodyOf Tryz.f192) (by kernel_rfl) (by kernel_rfl) (by kernel_rfl) (by kernel_rfl) hw
def slices_Clone_iimpl_Question_impl_Question_c : C := .seq (.reg [⟨(some 2), none, .mov (.c (.nils))⟩]) (.seq (.seq (.reg [⟨(some 3), none, .mov (.t 0)⟩,
  ⟨(some 4), none, .bin .eql (.nils) (.t 3) (.c (.nils))⟩]) (.cond (.t 4) (.seq (.reg [⟨(some 2), none, .mov (.c (.nils))⟩]) (.ret)) (.skip))) (.seq (.reg [⟨(some 5), none, .bsl 2 0 [.int .i64 0, .int .i64 0] []⟩,
  ⟨(some 6), none, .mov (.t 0)⟩,
  ⟨(some 7), none, .app 2 16 [.int .i64 0, .int .i64 0] false (.t 5) (.t 6)⟩,
  ⟨(some 2), none, .mov (.t 7)⟩]) (.ret)))
def slices_Clone_iimpl_Question_impl_Question_r : List RS := [.t 2]
theorem slices_Clone_iimpl_Question_impl_Question_e {a0 : AV} {h : AH} {K : AV → AH → Prop} (hw : TC Tryz.prog Θ Γ slices_Clone_iimpl_Question_impl_Question_c (retQ slices_Clone_iimpl_Question_impl_Question_r K) ⟨[a0, u, u, u, u, u, u, u], [], h⟩) : T Tryz.prog Γ Fn.slices_Clone_iimpl_Question_impl_Question [a0] h K :=
  T_of_body tabOK Tryz.func193 (code := bodyOf Tryz.f193) (by kernel_rfl) (by kernel_rfl) (by kernel_rfl) (by kernel_rfl) hw
def impl_Link_of_1_c : C := .seq (.reg [⟨(some 2), none, .box (.t 0)⟩,
  ⟨(some 3), none, .mov (.c (.bool false))⟩]) (.seq (.reg [⟨(some 4), none, .fld 1 (.t 2)⟩,
  ⟨(some 5), none, .load 1 false (.t 4)⟩,
  ⟨(some 6), none, .load 1 false (.t 1)⟩,
  ⟨(some 7), none, .bin .eql (.num) (.t 5) (.t 6)⟩,
  ⟨(some 3), none, .mov (.t 7)⟩]) (.ret))
def impl_Link_of_1_r : List RS := [.t 3]
theorem impl_Link_of_1_e {a0 a1 : AV} {h : AH} {K : AV → AH → Prop} (hw : TC Tryz.prog Θ Γ impl_Link_of_1_c (retQ impl_Link_of_1_r K) ⟨[a0, a1, u, u, u, u, u, u], [], h⟩) : T Tryz.prog Γ Fn.impl_Link_of_1 [a0, a1] h K :=
  T_of_body tabOK Tryz.func195 (code := bodyOf Tryz.f195) (by kernel_rfl) (by kernel_rfl) (by kernel_rfl) (by kernel_rfl) hw
def laws_toAsker_c : C := .seq (.reg [⟨(some 1), none, .box (.t 0)⟩,
  ⟨(some 2), none, .alloc [.int .i64 0, .int .i64 0]⟩]) (.seq (.reg [⟨(some 3), none, .alloc [.int .i64 0, .int .i64 0]⟩]) (.seq (.reg [⟨(some 4), none, .fld 0 (.t 1)⟩,
  ⟨(some 5), none, .load 1 false (.t 4)⟩,
  ⟨(some 6), none, .fld 0 (.t 3)⟩,
  ⟨none, none, .store 1 (.t 6) (.t 5)⟩]) (.seq (.reg [⟨(some 7), none, .fld 1 (.t 1)⟩,
  ⟨(some 8), none, .load 1 false (.t 7)⟩,
  ⟨(some 9), none, .fld 1 (.t 3)⟩,
  ⟨none, none, .store 1 (.t 9) (.t 8)⟩]) (.seq (.reg [⟨(some 10), none, .load 2 true (.t 3)⟩,
  ⟨none, none, .store 2 (.t 2) (.t 10)⟩]) (.ret)))))
def laws_toAsker_r : List RS := [.cell 2 2 true]
theorem laws_toAsker_e {a0 : AV} {h : AH} {K : AV → AH → Prop} (hw : TC Tryz.prog Θ Γ laws_toAsker_c (retQ laws_toAsker_r K) ⟨[a0, u, u, u, u, u, u, u, u, u, u], [], h⟩) : T Tryz.prog Γ Fn.laws_toAsker [a0] h K :=
  T_of_body tabOK Tryz.func210 (code := bodyOf Tryz.f210) (by kernel_rfl) (by kernel_rfl) (by kernel_rfl) (by kernel_rfl) hw
def laws_toExport_c : C := .seq (.reg [⟨(some 1), none, .box (.t 0)⟩,
  ⟨(some 2), none, .alloc [.int .i64 0, .int .i64 0, .int .i64 0]⟩]) (.seq (.reg [⟨(some 3), none, .alloc [.int .i64 0, .int .i64 0, .int .i64 0]⟩]) (.seq (.reg [⟨(some 4), none, .fld 0 (.t 1)⟩,
  ⟨(some 5), none, .load 1 false (.t 4)⟩,
  ⟨(some 6), none, .fld 0 (.t 3)⟩,
  ⟨none, none, .store 1 (.t 6) (.t 5)⟩]) (.seq (.reg [⟨(some 7), none, .fld 1 (.t 1)⟩,
  ⟨(some 8), none, .load 1 false (.t 7)⟩,
  ⟨(some 9), none, .fld 1 (.t 3)⟩,
  ⟨none, none, .store 1 (.t 9) (.t 8)⟩]) (.seq (.reg [⟨(some 10), none, .fld 2 (.t 1)⟩,
  ⟨(some 11), none, .load 1 false (.t 10)⟩,
  ⟨(some 12), none, .fld 2 (.t 3)⟩,
  ⟨none, none, .store 1 (.t 12) (.t 11)⟩]) (.seq (.reg [⟨(some 13), none, .load 3 true (.t 3)⟩,
  ⟨none, none, .store 3 (.t 2) (.t 13)⟩]) (.ret))))))
def laws_toExport_r : List RS := [.cell 2 3 true]
theorem laws_toExport_e {a0 : AV} {h : AH} {K : AV → AH → Prop} (hw : TC Tryz.prog Θ Γ laws_toExport_c (retQ laws_toExport_r K) ⟨[a0, u, u, u, u, u, u, u, u, u, u, u, u, u], [], h⟩) : T Tryz.prog Γ Fn.laws_toExport [a0] h K :=
  T_of_body tabOK Tryz.func211 (code := bodyOf Tryz.f211) (by kernel_rfl) (by kernel_rfl) (by kernel_rfl) (by kernel_rfl) hw
def laws_toQuestion_c : C := .seq (.reg [⟨(some 1), none, .box (.t 0)⟩,
  ⟨(some 2), none, .alloc [.int .i64 0, .int .i64 0]⟩]) (.seq (.reg [⟨(some 3), none, .alloc [.int .i64 0, .int .i64 0]⟩]) (.seq (.reg [⟨(some 4), none, .fld 0 (.t 1)⟩,
  ⟨(some 5), none, .load 1 false (.t 4)⟩,
  ⟨(some 6), none, .fld 0 (.t 3)⟩,
  ⟨none, none, .store 1 (.t 6) (.t 5)⟩]) (.seq (.reg [⟨(some 7), none, .fld 1 (.t 1)⟩,
  ⟨(some 8), none, .load 1 false (.t 7)⟩,
  ⟨(some 9), none, .fld 1 (.t 3)⟩,
  ⟨none, none, .store 1 (.t 9) (.t 8)⟩]) (.seq (.reg [⟨(some 10), none, .load 2 true (.t 3)⟩,
  ⟨none, none, .store 2 (.t 2) (.t 10)⟩]) (.ret)))))
def laws_toQuestion_r : List RS := [.cell 2 2 true]
theorem laws_toQuestion_e {a0 : AV} {h : AH} {K : AV → AH → Prop} (hw : TC Tryz.prog Θ Γ laws_toQuestion_c (retQ laws_toQuestion_r K) ⟨[a0, u, u, u, u, u, u, u, u, u, u], [], h⟩) : T Tryz.prog Γ Fn.laws_toQuestion [a0] h K :=
  T_of_body tabOK Tryz.func212 (code := bodyOf Tryz.f212) (by kernel_rfl) (by kernel_rfl) (by kernel_rfl) (by kernel_rfl) hw
def laws_eqAsker_c : C := .seq (.reg [⟨(some 2), none, .box (.t 0)⟩,
  ⟨(some 3), none, .box (.t 1)⟩,
  ⟨(some 4), none, .mov (.c (.bool false))⟩]) (.seq (.seq (.reg [⟨(some 5), none, .fld 0 (.t 2)⟩,
  ⟨(some 6), none, .load 1 false (.t 5)⟩,
  ⟨(some 7), none, .fld 0 (.t 3)⟩,
  ⟨(some 8), none, .load 1 false (.t 7)⟩,
  ⟨(some 9), none, .bin .neq (.num) (.t 6) (.t 8)⟩]) (.cond (.t 9) (.seq (.reg [⟨(some 4), none, .mov (.c (.bool false))⟩]) (.ret)) (.skip))) (.seq (.seq (.reg [⟨(some 10), none, .fld 1 (.t 2)⟩,
  ⟨(some 11), none, .load 1 false (.t 10)⟩,
  ⟨(some 12), none, .fld 1 (.t 3)⟩,
  ⟨(some 13), none, .load 1 false (.t 12)⟩,
  ⟨(some 14), none, .bin .neq (.num) (.t 11) (.t 13)⟩]) (.cond (.t 14) (.seq (.reg [⟨(some 4), none, .mov (.c (.bool false))⟩]) (.ret)) (.skip))) (.seq (.reg [⟨(some 4), none, .mov (.c (.bool true))⟩]) (.ret))))
def laws_eqAsker_r : List RS := [.t 4]
theorem laws_eqAsker_e {a0 a1 : AV} {h : AH} {K : AV → AH → Prop} (hw : TC Tryz.prog Θ Γ laws_eqAsker_c (retQ laws_eqAsker_r K) ⟨[a0, a1, u, u, u, u, u, u, u, u, u, u, u, u, u], [], h⟩) : T Tryz.prog Γ Fn.laws_eqAsker [a0, a1] h K :=
  T_of_body tabOK Tryz.func213 (code := bodyOf Tryz.f213) (by kernel_rfl) (by kernel_rfl) (by kernel_rfl) (by kernel_rfl) hw
def laws_eqExport_c : C := .seq (.reg [⟨(some 2), none, .box (.t 0)⟩,
  ⟨(some 3), none, .box (.t 1)⟩,
  ⟨(some 4), none, .mov (.c (.bool false))⟩]) (.seq (.seq (.reg [⟨(some 5), none, .fld 0 (.t 2)⟩,
  ⟨(some 6), none, .load 1 false (.t 5)⟩,
  ⟨(some 7), none, .fld 0 (.t 3)⟩,
  ⟨(some 8), none, .load 1 false (.t 7)⟩,
  ⟨(some 9), none, .bin .neq (.num) (.t 6) (.t 8)⟩]) (.cond (.t 9) (.seq (.reg [⟨(some 4), none, .mov (.c (.bool false))⟩]) (.ret)) (.skip))) (.seq (.seq (.reg [⟨(some 10), none, .fld 1 (.t 2)⟩,
  ⟨(some 11), none, .load 1 false (.t 10)⟩,
  ⟨(some 12), none, .fld 1 (.t 3)⟩,
  ⟨(some 13), none, .load 1 false (.t 12)⟩,
  ⟨(some 14), none, .bin .neq (.num) (.t 11) (.t 13)⟩]) (.cond (.t 14) (.seq (.reg [⟨(some 4), none, .mov (.c (.bool false))⟩]) (.ret)) (.skip))) (.seq (.seq (.reg [⟨(some 15), none, .fld 2 (.t 2)⟩,
  ⟨(some 16), none, .load 1 false (.t 15)⟩,
  ⟨(some 17), none, .fld 2 (.t 3)⟩,
  ⟨(some 18), none, .load 1 false (.t 17)⟩,
  ⟨(some 19), none, .bin .neq (.num) (.t 16) (.t 18)⟩]) (.cond (.t 19) (.seq (.reg [⟨(some 4), none, .mov (.c (.bool false))⟩]) (.ret)) (.skip))) (.seq (.reg [⟨(some 4), none, .mov (.c (.bool true))⟩]) (.ret)))))
def laws_eqExport_r : List RS := [.t 4]
theorem laws_eqExport_e {a0 a1 : AV} {h : AH} {K : AV → AH → Prop} (hw : TC Tryz.prog Θ Γ laws_eqExport_c (retQ laws_eqExport_r K) ⟨[a0, a1, u, u, u, u, u, u, u, u, u, u, u, u, u, u, u, u, u, u], [], h⟩) : T Tryz.prog Γ Fn.laws_eqExport [a0, a1] h K :=
  T_of_body tabOK Tryz.func214 (code := bodyOf Tryz.f214) (by kernel_rfl) (by kernel_rfl) (by kernel_rfl) (by kernel_rfl) hw
def laws_eqQuestion_c : C := .seq (.reg [⟨(some 2), none, .box (.t 0)⟩,
  ⟨(some 3), none, .box (.t 1)⟩,
  ⟨(some 4), none, .mov (.c (.bool false))⟩]) (.seq (.seq (.reg [⟨(some 5), none, .fld 0 (.t 2)⟩,
  ⟨(some 6), none, .load 1 false (.t 5)⟩,
  ⟨(some 7), none, .fld 0 (.t 3)⟩,
  ⟨(some 8), none, .load 1 false (.t 7)⟩,
  ⟨(some 9), none, .bin .neq (.num) (.t 6) (.t 8)⟩]) (.cond (.t 9) (.seq (.reg [⟨(some 4), none, .mov (.c (.bool false))⟩]) (.ret)) (.skip))) (.seq (.seq (.reg [⟨(some 10), none, .fld 1 (.t 2)⟩,
  ⟨(some 11), none, .load 1 false (.t 10)⟩,
  ⟨(some 12), none, .fld 1 (.t 3)⟩,
  ⟨(some 13), none, .load 1 false (.t 12)⟩,
  ⟨(some 14), none, .bin .neq (.num) (.t 11) (.t 13)⟩]) (.cond (.t 14) (.seq (.reg [⟨(some 4), none, .mov (.c (.bool false))⟩]) (.ret)) (.skip))) (.seq (.reg [⟨(some 4), none, .mov (.c (.bool true))⟩]) (.ret))))
def laws_eqQuestion_r : List RS := [.t 4]
theorem laws_eqQuestion_e {a0 a1 : AV} {h : AH} {K : AV → AH → Prop} (hw : TC Tryz.prog Θ Γ laws_eqQuestion_c (retQ laws_eqQuestion_r K) ⟨[a0, a1, u, u, u, u, u, u, u, u, u, u, u, u, u], [], h⟩) : T Tryz.prog Γ Fn.laws_eqQuestion [a0, a1] h K :=
  T_of_body tabOK Tryz.func215 (code := bodyOf Tryz.f215) (by kernel_rfl) (by kernel_rfl) (by kernel_rfl) (by kernel_rfl) hw
end Go.Proofs.YtleddolmolkpfaaGreat
