import Derived.Test.YtleddolmolkpfaaProg
import Derived.Test.YtleddolmolkpfaaAmLib
set_option linter.unusedVariables false
set_option linter.unusedSimpArgs false
namespace Go.Proofs.Ytleddolmolkpfaa
open Go.AM
namespace Fn
abbrev main_main : FuncId := 0
abbrev gosem_cut : FuncId := 1
abbrev gosem_cut_init : FuncId := 2
abbrev laws_FnLinks : FuncId := 3
abbrev laws_FnExactIsVat : FuncId := 4
abbrev laws_big : FuncId := 5
abbrev spec_DrawPutExport : FuncId := 6
abbrev impl_PutExport : FuncId := 7
abbrev impl_FindExport : FuncId := 8
abbrev impl_PosOf : FuncId := 9
abbrev impl_ReleaseExport : FuncId := 10
abbrev impl_EqualLinks : FuncId := 11
abbrev spec_PosOf : FuncId := 12
abbrev impl_PutQuestion : FuncId := 13
abbrev impl_DropEntry : FuncId := 14
abbrev impl_FindEntry : FuncId := 15
abbrev laws_szVat : FuncId := 16
abbrev spec_IsVat : FuncId := 17
abbrev laws_toVat : FuncId := 18
abbrev impl_IsVat : FuncId := 19
abbrev laws_eqVat : FuncId := 20
abbrev spec_DrawFindExport : FuncId := 21
abbrev impl_Link_copied : FuncId := 22
abbrev impl_Link_put : FuncId := 23
abbrev impl_Link_at : FuncId := 24
abbrev impl_Link_of : FuncId := 25
abbrev impl_Link_release : FuncId := 26
abbrev slices_Equal_iimpl_Export_impl_Export : FuncId := 27
abbrev slices_Equal_iimpl_Question_impl_Question : FuncId := 28
abbrev impl_Link_ask : FuncId := 29
abbrev slices_DeleteFunc_iimpl_Question_impl_Question : FuncId := 30
abbrev slices_Clone_iimpl_Question_impl_Question : FuncId := 31
abbrev impl_DropEntry_1 : FuncId := 32
abbrev laws_szEntityS : FuncId := 33
abbrev laws_szSentS : FuncId := 34
abbrev laws_szLinkS : FuncId := 35
abbrev laws_szOutgoingS : FuncId := 36
abbrev spec_l1In : FuncId := 37
abbrev spec_l29Sents : FuncId := 38
abbrev spec_IsEntity : FuncId := 39
abbrev spec_l29Entries : FuncId := 40
abbrev laws_toEntityS : FuncId := 41
abbrev laws_toSentS : FuncId := 42
abbrev laws_toLinkS : FuncId := 43
abbrev laws_toOutgoingS : FuncId := 44
abbrev impl_Vat_isVat : FuncId := 45
abbrev laws_eqEntityS : FuncId := 46
abbrev laws_eqSentS : FuncId := 47
abbrev laws_eqLinkS : FuncId := 48
abbrev laws_eqOutgoingS : FuncId := 49
abbrev spec_l1New : FuncId := 50
abbrev spec_l10Link : FuncId := 51
abbrev spec_l1Below : FuncId := 52
abbrev slices_Clone_iimpl_Export_impl_Export : FuncId := 53
abbrev slices_IndexFunc_iimpl_Export_impl_Export : FuncId := 54
abbrev impl_Link_at_1 : FuncId := 55
abbrev impl_Link_of_1 : FuncId := 56
abbrev slices_Delete_iimpl_Export_impl_Export : FuncId := 57
abbrev slices_IndexFunc_iimpl_Question_impl_Question : FuncId := 58
abbrev laws_szEntity : FuncId := 59
abbrev laws_szSent : FuncId := 60
abbrev laws_szLink : FuncId := 61
abbrev laws_szOutgoing : FuncId := 62
abbrev spec_AreValues : FuncId := 63
abbrev spec_l9Promise : FuncId := 64
abbrev laws_toEntity : FuncId := 65
abbrev laws_toSent : FuncId := 66
abbrev laws_toLink : FuncId := 67
abbrev laws_toOutgoing : FuncId := 68
abbrev impl_in : FuncId := 69
abbrev impl_Vat_sentsOk : FuncId := 70
abbrev impl_IsEntity : FuncId := 71
abbrev impl_Vat_linkOk : FuncId := 72
abbrev laws_eqEntity : FuncId := 73
abbrev laws_eqSent : FuncId := 74
abbrev laws_eqLink : FuncId := 75
abbrev laws_eqOutgoing : FuncId := 76
abbrev spec_NewLink : FuncId := 77
abbrev spec_PutExport : FuncId := 78
abbrev spec_PutQuestion : FuncId := 79
abbrev spec_l1Once : FuncId := 80
abbrev spec_ReleaseExport : FuncId := 81
abbrev spec_l1Byte : FuncId := 82
abbrev laws_szValueS : FuncId := 83
abbrev laws_szAskerS : FuncId := 84
abbrev laws_szExportS : FuncId := 85
abbrev laws_szQuestionS : FuncId := 86
abbrev laws_szMessage : FuncId := 87
abbrev spec_IsValue : FuncId := 88
abbrev laws_toValueS : FuncId := 89
abbrev laws_toValue : FuncId := 90
abbrev laws_toAskerS : FuncId := 91
abbrev laws_toTag : FuncId := 92
abbrev laws_toExportS : FuncId := 93
abbrev laws_toQuestionS : FuncId := 94
abbrev laws_toMessage : FuncId := 95
abbrev slices_ContainsFunc_iimpl_Sent_impl_Sent : FuncId := 96
abbrev impl_Vat_sentsOk_1 : FuncId := 97
abbrev impl_Vat_entity : FuncId := 98
abbrev impl_AreValues : FuncId := 99
abbrev impl_Entity_rest : FuncId := 100
abbrev impl_Entity_promiseOk : FuncId := 101
abbrev impl_named : FuncId := 102
abbrev slices_Concat_iimpl_Question_impl_Question : FuncId := 103
abbrev laws_eqValueS : FuncId := 104
abbrev laws_eqValue : FuncId := 105
abbrev laws_eqAskerS : FuncId := 106
abbrev laws_eqTag : FuncId := 107
abbrev laws_eqExportS : FuncId := 108
abbrev laws_eqQuestionS : FuncId := 109
abbrev laws_eqMessage : FuncId := 110
abbrev spec_l10Copy : FuncId := 111
abbrev laws_szWireS : FuncId := 112
abbrev laws_toAsker : FuncId := 113
abbrev laws_toExport : FuncId := 114
abbrev laws_toQuestion : FuncId := 115
abbrev laws_toWireS : FuncId := 116
abbrev laws_toWire : FuncId := 117
abbrev slices_IndexFunc_iimpl_Sent_impl_Sent : FuncId := 118
abbrev slices_ContainsFunc_iimpl_Value_impl_Value : FuncId := 119
abbrev impl_AreValues_1 : FuncId := 120
abbrev impl_IsValue : FuncId := 121
abbrev slices_Grow_iimpl_Question_impl_Question : FuncId := 122
abbrev laws_eqAsker : FuncId := 123
abbrev laws_eqExport : FuncId := 124
abbrev laws_eqQuestion : FuncId := 125
abbrev laws_eqWireS : FuncId := 126
abbrev laws_eqWire : FuncId := 127
abbrev slices_IndexFunc_iimpl_Value_impl_Value : FuncId := 128
abbrev runtime_boundsError_Error : FuncId := 129
abbrev runtime_boundsError_RuntimeError : FuncId := 130
abbrev runtime_errorString_Error : FuncId := 131
abbrev runtime_errorString_RuntimeError : FuncId := 132
abbrev runtime_plainError_Error : FuncId := 133
abbrev runtime_plainError_RuntimeError : FuncId := 134
abbrev runtime_errorAddressString_Error : FuncId := 135
abbrev runtime_errorAddressString_RuntimeError : FuncId := 136
abbrev runtime_TypeAssertionError_Error : FuncId := 137
abbrev runtime_TypeAssertionError_RuntimeError : FuncId := 138
abbrev runtime_PanicNilError_Error : FuncId := 139
abbrev runtime_PanicNilError_RuntimeError : FuncId := 140
abbrev internal_abi_Type_Align : FuncId := 141
abbrev internal_runtime_maps_unhashableTypeError_Error : FuncId := 142
abbrev internal_runtime_maps_unhashableTypeError_RuntimeError : FuncId := 143
abbrev impl_Vat_copied : FuncId := 144
abbrev impl_Entity_copied : FuncId := 145
abbrev impl_Sent_copied : FuncId := 146
abbrev impl_Message_copied : FuncId := 147
abbrev impl_Vat_cut : FuncId := 148
abbrev impl_Entity_isSwept : FuncId := 149
abbrev internal_abi_Kind_String : FuncId := 150
end Fn
namespace Gn
end Gn
def tabL : List (Nat × TI) := [
  (3, ⟨.int .i64, 1, 8, [.int .i64 0], none⟩),
  (4, ⟨.bool, 1, 1, [.bool false], none⟩),
  (5, ⟨.int .u8, 1, 1, [.int .u8 0], none⟩),
  (9, ⟨.str, 1, 16, [.str ⟨#[]⟩], none⟩),
  (22, ⟨.slice 5, 1, 24, [.nils], none⟩),
  (24, ⟨.slice 56, 1, 24, [.nils], none⟩),
  (25, ⟨.slice 61, 1, 24, [.nils], none⟩),
  (27, ⟨.strct [(0, 3), (1, 4), (2, 24), (3, 3), (4, 25), (5, 3), (6, 25)], 7, 104, [.int .i64 0, .bool false, .nils, .int .i64 0, .nils, .int .i64 0, .nils], none⟩),
  (36, ⟨.slice 103, 1, 24, [.nils], none⟩),
  (37, ⟨.slice 108, 1, 24, [.nils], none⟩),
  (38, ⟨.slice 113, 1, 24, [.nils], none⟩),
  (39, ⟨.slice 120, 1, 24, [.nils], none⟩),
  (41, ⟨.strct [(0, 3), (1, 36), (2, 37), (3, 38), (4, 39)], 5, 104, [.int .i64 0, .nils, .nils, .nils, .nils], none⟩),
  (44, ⟨.slice 75, 1, 24, [.nils], none⟩),
  (45, ⟨.slice 123, 1, 24, [.nils], none⟩),
  (46, ⟨.slice 27, 1, 24, [.nils], none⟩),
  (47, ⟨.slice 133, 1, 24, [.nils], none⟩),
  (49, ⟨.strct [(0, 3), (1, 44), (2, 45), (3, 46), (4, 47)], 5, 104, [.int .i64 0, .nils, .nils, .nils, .nils], none⟩),
  (56, ⟨.strct [(0, 3), (1, 3), (2, 3)], 3, 24, [.int .i64 0, .int .i64 0, .int .i64 0], (some [.int .i64, .int .i64, .int .i64])⟩),
  (61, ⟨.strct [(0, 3), (1, 3)], 2, 16, [.int .i64 0, .int .i64 0], (some [.int .i64, .int .i64])⟩),
  (70, ⟨.slice 72, 1, 24, [.nils], none⟩),
  (72, ⟨.strct [(0, 3), (1, 3)], 2, 16, [.int .i64 0, .int .i64 0], (some [.int .i64, .int .i64])⟩),
  (73, ⟨.slice 175, 1, 24, [.nils], none⟩),
  (75, ⟨.strct [(0, 3), (1, 3), (2, 70), (3, 3), (4, 72), (6, 45), (7, 73), (8, 3), (9, 3), (10, 3), (11, 3)], 12, 144, [.int .i64 0, .int .i64 0, .nils, .int .i64 0, .int .i64 0, .int .i64 0, .nils, .nils, .int .i64 0, .int .i64 0, .int .i64 0, .int .i64 0], none⟩),
  (99, ⟨.slice 100, 1, 24, [.nils], none⟩),
  (100, ⟨.strct [(0, 3), (1, 3)], 2, 16, [.int .i64 0, .int .i64 0], none⟩),
  (101, ⟨.slice 177, 1, 24, [.nils], none⟩),
  (103, ⟨.strct [(0, 3), (1, 3), (2, 99), (3, 3), (4, 100), (6, 37), (7, 101), (8, 3), (9, 3), (10, 3), (11, 3)], 12, 144, [.int .i64 0, .int .i64 0, .nils, .int .i64 0, .int .i64 0, .int .i64 0, .nils, .nils, .int .i64 0, .int .i64 0, .int .i64 0, .int .i64 0], none⟩),
  (106, ⟨.strct [(0, 3), (1, 3), (2, 3)], 3, 24, [.int .i64 0, .int .i64 0, .int .i64 0], none⟩),
  (108, ⟨.strct [(0, 3), (1, 9), (2, 99), (3, 3), (4, 106)], 7, 80, [.int .i64 0, .str ⟨#[]⟩, .nils, .int .i64 0, .int .i64 0, .int .i64 0, .int .i64 0], none⟩),
  (110, ⟨.slice 179, 1, 24, [.nils], none⟩),
  (111, ⟨.slice 181, 1, 24, [.nils], none⟩),
  (113, ⟨.strct [(0, 3), (1, 4), (2, 110), (3, 3), (4, 111), (5, 3), (6, 111)], 7, 104, [.int .i64 0, .bool false, .nils, .int .i64 0, .nils, .int .i64 0, .nils], none⟩),
  (115, ⟨.slice 116, 1, 24, [.nils], none⟩),
  (116, ⟨.strct [(0, 3), (1, 3)], 2, 16, [.int .i64 0, .int .i64 0], none⟩),
  (118, ⟨.strct [(0, 3), (1, 3), (2, 3), (3, 3), (4, 9), (5, 115), (6, 116), (8, 3), (9, 106)], 12, 120, [.int .i64 0, .int .i64 0, .int .i64 0, .int .i64 0, .str ⟨#[]⟩, .nils, .int .i64 0, .int .i64 0, .int .i64 0, .int .i64 0, .int .i64 0, .int .i64 0], none⟩),
  (120, ⟨.strct [(0, 3), (1, 118)], 13, 128, [.int .i64 0, .int .i64 0, .int .i64 0, .int .i64 0, .int .i64 0, .str ⟨#[]⟩, .nils, .int .i64 0, .int .i64 0, .int .i64 0, .int .i64 0, .int .i64 0, .int .i64 0], none⟩),
  (121, ⟨.strct [(0, 3), (1, 3), (2, 3)], 3, 24, [.int .i64 0, .int .i64 0, .int .i64 0], none⟩),
  (123, ⟨.strct [(0, 3), (1, 9), (2, 70), (3, 3), (4, 121)], 7, 80, [.int .i64 0, .str ⟨#[]⟩, .nils, .int .i64 0, .int .i64 0, .int .i64 0, .int .i64 0], none⟩),
  (128, ⟨.slice 129, 1, 24, [.nils], none⟩),
  (129, ⟨.strct [(0, 3), (1, 3)], 2, 16, [.int .i64 0, .int .i64 0], none⟩),
  (131, ⟨.strct [(0, 3), (1, 3), (2, 3), (3, 3), (4, 9), (5, 128), (6, 129), (8, 3), (9, 121)], 12, 120, [.int .i64 0, .int .i64 0, .int .i64 0, .int .i64 0, .str ⟨#[]⟩, .nils, .int .i64 0, .int .i64 0, .int .i64 0, .int .i64 0, .int .i64 0, .int .i64 0], none⟩),
  (133, ⟨.strct [(0, 3), (1, 131)], 13, 128, [.int .i64 0, .int .i64 0, .int .i64 0, .int .i64 0, .int .i64 0, .str ⟨#[]⟩, .nils, .int .i64 0, .int .i64 0, .int .i64 0, .int .i64 0, .int .i64 0, .int .i64 0], none⟩),
  (135, ⟨.ptr 49, 1, 8, [.nilp], none⟩),
  (142, ⟨.strct [(0, 22), (1, 3), (2, 3)], 3, 40, [.nils, .int .i64 0, .int .i64 0], none⟩),
  (160, ⟨.ptr 75, 1, 8, [.nilp], none⟩),
  (175, ⟨.strct [(0, 3), (1, 3)], 2, 16, [.int .i64 0, .int .i64 0], none⟩),
  (177, ⟨.strct [(0, 3), (1, 3)], 2, 16, [.int .i64 0, .int .i64 0], none⟩),
  (179, ⟨.strct [(0, 3), (1, 3), (2, 3)], 3, 24, [.int .i64 0, .int .i64 0, .int .i64 0], none⟩),
  (181, ⟨.strct [(0, 3), (1, 3)], 2, 16, [.int .i64 0, .int .i64 0], none⟩),
  (187, ⟨.slice 25, 1, 24, [.nils], none⟩)]
def Θ : Tab := tabOf tabL
theorem tabOK : TabOK Try.prog Θ := tabOK_of (by kernel_rfl) (by kernel_rfl)
theorem mixed : Try.prog.follows .mixedOrders = true := by kernel_rfl
variable {Γ : Glob}

def laws_FnExactIsVat_d0_os : List O := [⟨(some 22), none, .load 5 true (.t 5)⟩,
  ⟨(some 23), none, .load 5 true (.t 1)⟩,
  ⟨(some 24), none, .call (.c (.fn Fn.laws_toVat [] [])) [.t 23]⟩,
  ⟨(some 25), none, .call (.c (.fn Fn.laws_eqVat [] [])) [.t 22, .t 24]⟩,
  ⟨(some 26), none, .un .not (.t 25)⟩]
def laws_FnExactIsVat_d0_af : List (List Nat) := [[], [], [1], [0, 2, 2], [3]]
theorem laws_FnExactIsVat_d0_q (gl : Gl) (Q : AE → St → Prop) (s : St) : aw Try.prog Θ Γ gl (.regD laws_FnExactIsVat_d0_os laws_FnExactIsVat_d0_af) Q s = awpT Try.prog Γ gl [⟨(some 22), none, .load 5 true (.t 5)⟩,
  ⟨(some 23), none, .load 5 true (.t 1)⟩,
  ⟨(some 24), none, .call (.c (.fn Fn.laws_toVat [] [])) [.t 23]⟩,
  ⟨(some 25), none, .call (.c (.fn Fn.laws_eqVat [] [])) [.t 22, .t 24]⟩,
  ⟨(some 26), none, .un .not (.t 25)⟩] (Q .normal) 5 (.q 0 (.q 1 (.all [(2, .q 3 (.q 4 (.done)))]))) s := a_dd rfl (by kernel_rfl) gl Q s
def laws_FnExactIsVat_c : C := .seq (.reg [⟨(some 1), none, .box (.t 0)⟩,
  ⟨(some 2), none, .mov (.c (.bool false))⟩]) (.seq (.reg [⟨(some 3), none, .mov (.c (.int .i64 1048576))⟩]) (.seq (.reg [⟨(some 7), none, .load 5 true (.t 1)⟩,
  ⟨(some 8), none, .mov (.t 3)⟩,
  ⟨(some 9), none, .call (.c (.fn Fn.laws_szVat [] [])) [.t 7, .t 8]⟩,
  ⟨(some 3), none, .mov (.t 9)⟩]) (.seq (.seq (.reg [⟨(some 10), none, .mov (.t 3)⟩,
  ⟨(some 11), none, .bin .lss (.num) (.t 10) (.c (.int .i64 0))⟩]) (.cond (.t 11) (.seq (.reg [⟨(some 2), none, .mov (.c (.bool true))⟩]) (.ret)) (.skip))) (.seq (.reg [⟨(some 12), none, .load 5 true (.t 1)⟩,
  ⟨(some 13), none, .call (.c (.fn Fn.laws_toVat [] [])) [.t 12]⟩,
  ⟨(some 14), none, .call (.c (.fn Fn.spec_IsVat [] [])) [.t 13]⟩,
  ⟨(some 4), none, .mov (.t 14)⟩]) (.seq (.reg [⟨(some 15), none, .load 5 true (.t 1)⟩,
  ⟨(some 16), none, .call (.c (.fn Fn.laws_toVat [] [])) [.t 15]⟩,
  ⟨(some 5), none, .alloc [.int .i64 0, .nils, .nils, .nils, .nils]⟩,
  ⟨none, none, .store 5 (.t 5) (.t 16)⟩]) (.seq (.reg [⟨(some 17), none, .load 5 true (.t 5)⟩,
  ⟨(some 18), none, .call (.c (.fn Fn.impl_IsVat [] [])) [.t 17]⟩,
  ⟨(some 6), none, .mov (.t 18)⟩]) (.seq (.seq (.reg [⟨(some 19), none, .mov (.t 6)⟩,
  ⟨(some 20), none, .mov (.t 4)⟩,
  ⟨(some 21), none, .bin .neq (.bool) (.t 19) (.t 20)⟩]) (.cond (.t 21) (.seq (.reg [⟨(some 2), none, .mov (.c (.bool false))⟩]) (.ret)) (.skip))) (.seq (.seq (.regD laws_FnExactIsVat_d0_os laws_FnExactIsVat_d0_af) (.cond (.t 26) (.seq (.reg [⟨(some 2), none, .mov (.c (.bool false))⟩]) (.ret)) (.skip))) (.seq (.reg [⟨(some 2), none, .mov (.c (.bool true))⟩]) (.ret))))))))))
def laws_FnExactIsVat_r : List RS := [.t 2]
theorem laws_FnExactIsVat_e {a0 : AV} {h : AH} {K : AV → AH → Prop} (hw : TC Try.prog Θ Γ laws_FnExactIsVat_c (retQ laws_FnExactIsVat_r K) ⟨[a0, u, u, u, u, u, u, u, u, u, u, u, u, u, u, u, u, u, u, u, u, u, u, u, u, u, u], [], h⟩) : T Try.prog Γ Fn.laws_FnExactIsVat [a0] h K :=
  T_of_body tabOK Try.func4 (code := bodyOf Try.f4) (by kernel_rfl) (by kernel_rfl) (by kernel_rfl) (by kernel_rfl) hw
def laws_szVat_c : C := .seq (.reg [⟨(some 2), none, .box (.t 0)⟩,
  ⟨(some 4), none, .mov (.c (.int .i64 0))⟩]) (.seq (.reg [⟨(some 5), none, .fld 1 (.t 2)⟩,
  ⟨(some 6), none, .load 1 false (.t 5)⟩,
  ⟨(some 7), none, .mov (.t 1)⟩,
  ⟨(some 8), none, .call (.c (.fn Fn.laws_szEntityS [] [])) [.t 6, .t 7]⟩,
  ⟨(some 1), none, .mov (.t 8)⟩]) (.seq (.seq (.reg [⟨(some 9), none, .mov (.t 1)⟩,
  ⟨(some 10), none, .bin .lss (.num) (.t 9) (.c (.int .i64 0))⟩]) (.cond (.t 10) (.seq (.reg [⟨(some 4), none, .mov (.c (.int .i64 (-1)))⟩]) (.ret)) (.skip))) (.seq (.reg [⟨(some 11), none, .fld 2 (.t 2)⟩,
  ⟨(some 12), none, .load 1 false (.t 11)⟩,
  ⟨(some 13), none, .mov (.t 1)⟩,
  ⟨(some 14), none, .call (.c (.fn Fn.laws_szSentS [] [])) [.t 12, .t 13]⟩,
  ⟨(some 1), none, .mov (.t 14)⟩]) (.seq (.seq (.reg [⟨(some 15), none, .mov (.t 1)⟩,
  ⟨(some 16), none, .bin .lss (.num) (.t 15) (.c (.int .i64 0))⟩]) (.cond (.t 16) (.seq (.reg [⟨(some 4), none, .mov (.c (.int .i64 (-1)))⟩]) (.ret)) (.skip))) (.seq (.reg [⟨(some 17), none, .fld 3 (.t 2)⟩,
  ⟨(some 18), none, .load 1 false (.t 17)⟩,
  ⟨(some 19), none, .mov (.t 1)⟩,
  ⟨(some 20), none, .call (.c (.fn Fn.laws_szLinkS [] [])) [.t 18, .t 19]⟩,
  ⟨(some 1), none, .mov (.t 20)⟩]) (.seq (.seq (.reg [⟨(some 21), none, .mov (.t 1)⟩,
  ⟨(some 22), none, .bin .lss (.num) (.t 21) (.c (.int .i64 0))⟩]) (.cond (.t 22) (.seq (.reg [⟨(some 4), none, .mov (.c (.int .i64 (-1)))⟩]) (.ret)) (.skip))) (.seq (.reg [⟨(some 23), none, .fld 4 (.t 2)⟩,
  ⟨(some 24), none, .load 1 false (.t 23)⟩,
  ⟨(some 25), none, .mov (.t 1)⟩,
  ⟨(some 26), none, .call (.c (.fn Fn.laws_szOutgoingS [] [])) [.t 24, .t 25]⟩,
  ⟨(some 1), none, .mov (.t 26)⟩]) (.seq (.seq (.reg [⟨(some 27), none, .mov (.t 1)⟩,
  ⟨(some 28), none, .bin .lss (.num) (.t 27) (.c (.int .i64 0))⟩]) (.cond (.t 28) (.seq (.reg [⟨(some 4), none, .mov (.c (.int .i64 (-1)))⟩]) (.ret)) (.skip))) (.seq (.reg [⟨(some 29), none, .mov (.t 1)⟩,
  ⟨(some 4), none, .mov (.t 29)⟩]) (.ret))))))))))
def laws_szVat_r : List RS := [.t 4]
theorem laws_szVat_e {a0 a1 : AV} {h : AH} {K : AV → AH → Prop} (hw : TC Try.prog Θ Γ laws_szVat_c (retQ laws_szVat_r K) ⟨[a0, a1, u, u, u, u, u, u, u, u, u, u, u, u, u, u, u, u, u, u, u, u, u, u, u, u, u, u, u, u], [], h⟩) : T Try.prog Γ Fn.laws_szVat [a0, a1] h K :=
  T_of_body tabOK Try.func16 (code := bodyOf Try.f16) (by kernel_rfl) (by kernel_rfl) (by kernel_rfl) (by kernel_rfl) hw
def spec_IsVat_c : C := .seq (.reg [⟨(some 1), none, .box (.t 0)⟩,
  ⟨(some 2), none, .mov (.c (.bool false))⟩]) (.seq (.reg [⟨(some 9), none, .fld 1 (.t 1)⟩,
  ⟨(some 10), none, .load 1 false (.t 9)⟩,
  ⟨(some 11), none, .len false (.t 10)⟩,
  ⟨(some 3), none, .mov (.t 11)⟩]) (.seq (.seq (.reg [⟨(some 12), none, .fld 0 (.t 1)⟩,
  ⟨(some 13), none, .load 1 false (.t 12)⟩,
  ⟨(some 14), none, .call (.c (.fn Fn.spec_l1In [] [])) [.t 13, .c (.int .i64 1), .c (.int .i64 4)]⟩,
  ⟨(some 15), none, .un .not (.t 14)⟩,
  ⟨(some 16), none, .mov (.t 15)⟩,
  ⟨(some 17), (some (4, false)), .mov (.t 3)⟩,
  ⟨(some 18), (some (4, false)), .call (.c (.fn Fn.spec_l1In [] [])) [.t 17, .c (.int .i64 1), .c (.int .i64 200)]⟩,
  ⟨(some 19), (some (4, false)), .un .not (.t 18)⟩,
  ⟨(some 20), none, .pick (.t 16) (.c (.bool true)) (.t 19)⟩,
  ⟨(some 21), none, .mov (.t 20)⟩,
  ⟨(some 22), (some (9, false)), .fld 1 (.t 1)⟩,
  ⟨(some 23), (some (9, false)), .load 1 false (.t 22)⟩,
  ⟨(some 24), (some (9, false)), .idxs 12 (.t 23) (.c (.int .i64 0))⟩,
  ⟨(some 25), (some (9, false)), .fld 0 (.t 24)⟩,
  ⟨(some 26), (some (9, false)), .load 1 false (.t 25)⟩,
  ⟨(some 27), (some (9, false)), .bin .neq (.num) (.t 26) (.c (.int .i64 1))⟩,
  ⟨(some 28), none, .pick (.t 21) (.c (.bool true)) (.t 27)⟩,
  ⟨(some 29), none, .mov (.t 28)⟩,
  ⟨(some 30), (some (17, false)), .fld 2 (.t 1)⟩,
  ⟨(some 31), (some (17, false)), .load 1 false (.t 30)⟩,
  ⟨(some 32), (some (17, false)), .len false (.t 31)⟩,
  ⟨(some 33), (some (17, false)), .bin .gtr (.num) (.t 32) (.c (.int .i64 60))⟩,
  ⟨(some 34), none, .pick (.t 29) (.c (.bool true)) (.t 33)⟩,
  ⟨(some 35), none, .mov (.t 34)⟩,
  ⟨(some 36), (some (23, false)), .fld 2 (.t 1)⟩,
  ⟨(some 37), (some (23, false)), .load 1 false (.t 36)⟩,
  ⟨(some 38), (some (23, false)), .mov (.t 3)⟩,
  ⟨(some 39), (some (23, false)), .call (.c (.fn Fn.spec_l29Sents [] [])) [.t 37, .t 38]⟩,
  ⟨(some 40), (some (23, false)), .un .not (.t 39)⟩,
  ⟨(some 41), none, .pick (.t 35) (.c (.bool true)) (.t 40)⟩]) (.cond (.t 41) (.seq (.reg [⟨(some 2), none, .mov (.c (.bool false))⟩]) (.ret)) (.skip))) (.seq (.seq (.reg [⟨(some 4), none, .mov (.c (.int .i64 0))⟩]) (.block 0 (.loop (.seq (.seq (.reg [⟨(some 42), none, .mov (.t 4)⟩,
  ⟨(some 43), none, .mov (.t 3)⟩,
  ⟨(some 44), none, .bin .lss (.num) (.t 42) (.t 43)⟩]) (.cond (.t 44) (.skip) (.exit 0))) (.seq (.block 1 (.seq (.reg [⟨(some 47), none, .fld 1 (.t 1)⟩,
  ⟨(some 48), none, .load 1 false (.t 47)⟩,
  ⟨(some 49), none, .mov (.t 4)⟩,
  ⟨(some 50), none, .idxs 12 (.t 48) (.t 49)⟩,
  ⟨(some 51), none, .load 12 true (.t 50)⟩,
  ⟨(some 52), none, .mov (.t 3)⟩,
  ⟨(some 53), none, .call (.c (.fn Fn.spec_IsEntity [] [])) [.t 51, .t 52]⟩,
  ⟨(some 54), none, .un .not (.t 53)⟩,
  ⟨(some 55), none, .mov (.t 54)⟩,
  ⟨(some 56), (some (8, false)), .fld 1 (.t 1)⟩,
  ⟨(some 57), (some (8, false)), .load 1 false (.t 56)⟩,
  ⟨(some 58), (some (8, false)), .mov (.t 4)⟩,
  ⟨(some 59), (some (8, false)), .idxs 12 (.t 57) (.t 58)⟩,
  ⟨(some 60), (some (8, false)), .fld 6 (.t 59)⟩,
  ⟨(some 61), (some (8, false)), .load 1 false (.t 60)⟩,
  ⟨(some 62), (some (8, false)), .mov (.t 3)⟩,
  ⟨(some 63), (some (8, false)), .call (.c (.fn Fn.spec_l29Sents [] [])) [.t 61, .t 62]⟩,
  ⟨(some 64), (some (8, false)), .un .not (.t 63)⟩,
  ⟨(some 65), none, .pick (.t 55) (.c (.bool true)) (.t 64)⟩]) (.cond (.t 65) (.seq (.reg [⟨(some 2), none, .mov (.c (.bool false))⟩]) (.ret)) (.skip)))) (.reg [⟨(some 45), none, .mov (.t 4)⟩,
  ⟨(some 46), none, .bin .add (.num) (.t 45) (.c (.int .i64 1))⟩,
  ⟨(some 4), none, .mov (.t 46)⟩])))))) (.seq (.seq (.reg [⟨(some 5), none, .mov (.c (.int .i64 0))⟩]) (.block 2 (.loop (.seq (.seq (.reg [⟨(some 66), none, .mov (.t 5)⟩,
  ⟨(some 67), none, .fld 3 (.t 1)⟩,
  ⟨(some 68), none, .load 1 false (.t 67)⟩,
  ⟨(some 69), none, .len false (.t 68)⟩,
  ⟨(some 70), none, .bin .lss (.num) (.t 66) (.t 69)⟩]) (.cond (.t 70) (.skip) (.exit 2))) (.seq (.block 3 (.seq (.reg [⟨(some 73), none, .fld 3 (.t 1)⟩,
  ⟨(some 74), none, .load 1 false (.t 73)⟩,
  ⟨(some 75), none, .mov (.t 5)⟩,
  ⟨(some 76), none, .idxs 7 (.t 74) (.t 75)⟩,
  ⟨(some 77), none, .load 7 true (.t 76)⟩,
  ⟨(some 6), none, .alloc [.int .i64 0, .bool false, .nils, .int .i64 0, .nils, .int .i64 0, .nils]⟩,
  ⟨none, none, .store 7 (.t 6) (.t 77)⟩]) (.seq (.seq (.reg [⟨(some 7), none, .mov (.c (.int .i64 0))⟩]) (.block 4 (.loop (.seq (.seq (.reg [⟨(some 78), none, .mov (.t 7)⟩,
  ⟨(some 79), none, .fld 2 (.t 6)⟩,
  ⟨(some 80), none, .load 1 false (.t 79)⟩,
  ⟨(some 81), none, .len false (.t 80)⟩,
  ⟨(some 82), none, .bin .lss (.num) (.t 78) (.t 81)⟩]) (.cond (.t 82) (.skip) (.exit 4))) (.seq (.block 5 (.seq (.reg [⟨(some 85), none, .fld 2 (.t 6)⟩,
  ⟨(some 86), none, .load 1 false (.t 85)⟩,
  ⟨(some 87), none, .mov (.t 7)⟩,
  ⟨(some 88), none, .idxs 3 (.t 86) (.t 87)⟩,
  ⟨(some 89), none, .load 3 true (.t 88)⟩,
  ⟨(some 8), none, .alloc [.int .i64 0, .int .i64 0, .int .i64 0]⟩,
  ⟨none, none, .store 3 (.t 8) (.t 89)⟩]) (.seq (.reg [⟨(some 90), none, .fld 1 (.t 8)⟩,
  ⟨(some 91), none, .load 1 false (.t 90)⟩,
  ⟨(some 92), none, .mov (.t 3)⟩,
  ⟨(some 93), none, .bin .sub (.num) (.t 92) (.c (.int .i64 1))⟩,
  ⟨(some 94), none, .call (.c (.fn Fn.spec_l1In [] [])) [.t 91, .c (.int .i64 0), .t 93]⟩,
  ⟨(some 95), none, .un .not (.t 94)⟩,
  ⟨(some 96), none, .mov (.t 95)⟩,
  ⟨(some 97), (some (6, false)), .fld 0 (.t 8)⟩,
  ⟨(some 98), (some (6, false)), .load 1 false (.t 97)⟩,
  ⟨(some 99), (some (6, false)), .call (.c (.fn Fn.spec_l1In [] [])) [.t 98, .c (.int .i64 1), .c (.int .i64 999999)]⟩,
  ⟨(some 100), (some (6, false)), .un .not (.t 99)⟩,
  ⟨(some 101), none, .pick (.t 96) (.c (.bool true)) (.t 100)⟩,
  ⟨(some 102), none, .mov (.t 101)⟩,
  ⟨(some 103), (some (12, false)), .fld 2 (.t 8)⟩,
  ⟨(some 104), (some (12, false)), .load 1 false (.t 103)⟩,
  ⟨(some 105), (some (12, false)), .call (.c (.fn Fn.spec_l1In [] [])) [.t 104, .c (.int .i64 1), .c (.int .i64 999999)]⟩,
  ⟨(some 106), (some (12, false)), .un .not (.t 105)⟩,
  ⟨(some 107), none, .pick (.t 102) (.c (.bool true)) (.t 106)⟩]) (.cond (.t 107) (.seq (.reg [⟨(some 2), none, .mov (.c (.bool false))⟩]) (.ret)) (.skip))))) (.reg [⟨(some 83), none, .mov (.t 7)⟩,
  ⟨(some 84), none, .bin .add (.num) (.t 83) (.c (.int .i64 1))⟩,
  ⟨(some 7), none, .mov (.t 84)⟩])))))) (.seq (.reg [⟨(some 108), none, .fld 4 (.t 6)⟩,
  ⟨(some 109), none, .load 1 false (.t 108)⟩,
  ⟨(some 110), none, .mov (.t 3)⟩,
  ⟨(some 111), none, .call (.c (.fn Fn.spec_l29Entries [] [])) [.t 109, .t 110]⟩,
  ⟨(some 112), none, .un .not (.t 111)⟩,
  ⟨(some 113), none, .mov (.t 112)⟩,
  ⟨(some 114), (some (5, false)), .fld 6 (.t 6)⟩,
  ⟨(some 115), (some (5, false)), .load 1 false (.t 114)⟩,
  ⟨(some 116), (some (5, false)), .mov (.t 3)⟩,
  ⟨(some 117), (some (5, false)), .call (.c (.fn Fn.spec_l29Entries [] [])) [.t 115, .t 116]⟩,
  ⟨(some 118), (some (5, false)), .un .not (.t 117)⟩,
  ⟨(some 119), none, .pick (.t 113) (.c (.bool true)) (.t 118)⟩,
  ⟨(some 120), none, .mov (.t 119)⟩,
  ⟨(some 121), (some (12, false)), .fld 0 (.t 6)⟩,
  ⟨(some 122), (some (12, false)), .load 1 false (.t 121)⟩,
  ⟨(some 123), (some (12, false)), .call (.c (.fn Fn.spec_l1In [] [])) [.t 122, .c (.int .i64 1), .c (.int .i64 4)]⟩,
  ⟨(some 124), (some (12, false)), .un .not (.t 123)⟩,
  ⟨(some 125), none, .pick (.t 120) (.c (.bool true)) (.t 124)⟩,
  ⟨(some 126), none, .mov (.t 125)⟩,
  ⟨(some 127), (some (18, false)), .fld 3 (.t 6)⟩,
  ⟨(some 128), (some (18, false)), .load 1 false (.t 127)⟩,
  ⟨(some 129), (some (18, false)), .call (.c (.fn Fn.spec_l1In [] [])) [.t 128, .c (.int .i64 0), .c (.int .i64 999999)]⟩,
  ⟨(some 130), (some (18, false)), .un .not (.t 129)⟩,
  ⟨(some 131), none, .pick (.t 126) (.c (.bool true)) (.t 130)⟩,
  ⟨(some 132), none, .mov (.t 131)⟩,
  ⟨(some 133), (some (24, false)), .fld 5 (.t 6)⟩,
  ⟨(some 134), (some (24, false)), .load 1 false (.t 133)⟩,
  ⟨(some 135), (some (24, false)), .call (.c (.fn Fn.spec_l1In [] [])) [.t 134, .c (.int .i64 0), .c (.int .i64 999999)]⟩,
  ⟨(some 136), (some (24, false)), .un .not (.t 135)⟩,
  ⟨(some 137), none, .pick (.t 132) (.c (.bool true)) (.t 136)⟩]) (.cond (.t 137) (.seq (.reg [⟨(some 2), none, .mov (.c (.bool false))⟩]) (.ret)) (.skip)))))) (.reg [⟨(some 71), none, .mov (.t 5)⟩,
  ⟨(some 72), none, .bin .add (.num) (.t 71) (.c (.int .i64 1))⟩,
  ⟨(some 5), none, .mov (.t 72)⟩])))))) (.seq (.reg [⟨(some 2), none, .mov (.c (.bool true))⟩]) (.ret))))))
def spec_IsVat_r : List RS := [.t 2]
def spec_IsVat_s0 (t1 t3 t4 : AV) (loc : List (List AV)) (h : AH) : St := ⟨[.any, t1, .any, t3, t4, .any, .any, .any, .any, .any, .any, .any, .any, .any, .any, .any, .any, .any, .any, .any, .any, .any, .any, .any, .any, .any, .any, .any, .any, .any, .any, .any, .any, .any, .any, .any, .any, .any, .any, .any, .any, .any, .any, .any, .any, .any, .any, .any, .any, .any, .any, .any, .any, .any, .any, .any, .any, .any, .any, .any, .any, .any, .any, .any, .any, .any, .any, .any, .any, .any, .any, .any, .any, .any, .any, .any, .any, .any, .any, .any, .any, .any, .any, .any, .any, .any, .any, .any, .any, .any, .any, .any, .any, .any, .any, .any, .any, .any, .any, .any, .any, .any, .any, .any, .any, .any, .any, .any, .any, .any, .any, .any, .any, .any, .any, .any, .any, .any, .any, .any, .any, .any, .any, .any, .any, .any, .any, .any, .any, .any, .any, .any, .any, .any, .any, .any, .any, .any], loc, h⟩
def spec_IsVat_s1 (t1 t3 t5 : AV) (loc : List (List AV)) (h : AH) : St := ⟨[.any, t1, .any, t3, .any, t5, .any, .any, .any, .any, .any, .any, .any, .any, .any, .any, .any, .any, .any, .any, .any, .any, .any, .any, .any, .any, .any, .any, .any, .any, .any, .any, .any, .any, .any, .any, .any, .any, .any, .any, .any, .any, .any, .any, .any, .any, .any, .any, .any, .any, .any, .any, .any, .any, .any, .any, .any, .any, .any, .any, .any, .any, .any, .any, .any, .any, .any, .any, .any, .any, .any, .any, .any, .any, .any, .any, .any, .any, .any, .any, .any, .any, .any, .any, .any, .any, .any, .any, .any, .any, .any, .any, .any, .any, .any, .any, .any, .any, .any, .any, .any, .any, .any, .any, .any, .any, .any, .any, .any, .any, .any, .any, .any, .any, .any, .any, .any, .any, .any, .any, .any, .any, .any, .any, .any, .any, .any, .any, .any, .any, .any, .any, .any, .any, .any, .any, .any, .any], loc, h⟩
def spec_IsVat_s2 (t1 t3 t5 t6 t7 : AV) (loc : List (List AV)) (h : AH) : St := ⟨[.any, t1, .any, t3, .any, t5, t6, t7, .any, .any, .any, .any, .any, .any, .any, .any, .any, .any, .any, .any, .any, .any, .any, .any, .any, .any, .any, .any, .any, .any, .any, .any, .any, .any, .any, .any, .any, .any, .any, .any, .any, .any, .any, .any, .any, .any, .any, .any, .any, .any, .any, .any, .any, .any, .any, .any, .any, .any, .any, .any, .any, .any, .any, .any, .any, .any, .any, .any, .any, .any, .any, .any, .any, .any, .any, .any, .any, .any, .any, .any, .any, .any, .any, .any, .any, .any, .any, .any, .any, .any, .any, .any, .any, .any, .any, .any, .any, .any, .any, .any, .any, .any, .any, .any, .any, .any, .any, .any, .any, .any, .any, .any, .any, .any, .any, .any, .any, .any, .any, .any, .any, .any, .any, .any, .any, .any, .any, .any, .any, .any, .any, .any, .any, .any, .any, .any, .any, .any], loc, h⟩
theorem spec_IsVat_e {a0 : AV} {h : AH} {K : AV → AH → Prop} (hw : TC Try.prog Θ Γ spec_IsVat_c (retQ spec_IsVat_r K) ⟨[a0, u, u, u, u, u, u, u, u, u, u, u, u, u, u, u, u, u, u, u, u, u, u, u, u, u, u, u, u, u, u, u, u, u, u, u, u, u, u, u, u, u, u, u, u, u, u, u, u, u, u, u, u, u, u, u, u, u, u, u, u, u, u, u, u, u, u, u, u, u, u, u, u, u, u, u, u, u, u, u, u, u, u, u, u, u, u, u, u, u, u, u, u, u, u, u, u, u, u, u, u, u, u, u, u, u, u, u, u, u, u, u, u, u, u, u, u, u, u, u, u, u, u, u, u, u, u, u, u, u, u, u, u, u, u, u, u, u], [], h⟩) : T Try.prog Γ Fn.spec_IsVat [a0] h K :=
  T_of_body tabOK Try.func17 (code := bodyOf Try.f17) (by kernel_rfl) (by kernel_rfl) (by kernel_rfl) (by kernel_rfl) hw
def laws_toVat_c : C := .seq (.reg [⟨(some 1), none, .box (.t 0)⟩,
  ⟨(some 2), none, .alloc [.int .i64 0, .nils, .nils, .nils, .nils]⟩]) (.seq (.reg [⟨(some 3), none, .alloc [.int .i64 0, .nils, .nils, .nils, .nils]⟩]) (.seq (.reg [⟨(some 4), none, .fld 0 (.t 1)⟩,
  ⟨(some 5), none, .load 1 false (.t 4)⟩,
  ⟨(some 6), none, .fld 0 (.t 3)⟩,
  ⟨none, none, .store 1 (.t 6) (.t 5)⟩]) (.seq (.reg [⟨(some 7), none, .fld 1 (.t 1)⟩,
  ⟨(some 8), none, .load 1 false (.t 7)⟩,
  ⟨(some 9), none, .call (.c (.fn Fn.laws_toEntityS [] [])) [.t 8]⟩,
  ⟨(some 10), none, .fld 1 (.t 3)⟩,
  ⟨none, none, .store 1 (.t 10) (.t 9)⟩]) (.seq (.reg [⟨(some 11), none, .fld 2 (.t 1)⟩,
  ⟨(some 12), none, .load 1 false (.t 11)⟩,
  ⟨(some 13), none, .call (.c (.fn Fn.laws_toSentS [] [])) [.t 12]⟩,
  ⟨(some 14), none, .fld 2 (.t 3)⟩,
  ⟨none, none, .store 1 (.t 14) (.t 13)⟩]) (.seq (.reg [⟨(some 15), none, .fld 3 (.t 1)⟩,
  ⟨(some 16), none, .load 1 false (.t 15)⟩,
  ⟨(some 17), none, .call (.c (.fn Fn.laws_toLinkS [] [])) [.t 16]⟩,
  ⟨(some 18), none, .fld 3 (.t 3)⟩,
  ⟨none, none, .store 1 (.t 18) (.t 17)⟩]) (.seq (.reg [⟨(some 19), none, .fld 4 (.t 1)⟩,
  ⟨(some 20), none, .load 1 false (.t 19)⟩,
  ⟨(some 21), none, .call (.c (.fn Fn.laws_toOutgoingS [] [])) [.t 20]⟩,
  ⟨(some 22), none, .fld 4 (.t 3)⟩,
  ⟨none, none, .store 1 (.t 22) (.t 21)⟩]) (.seq (.reg [⟨(some 23), none, .load 5 true (.t 3)⟩,
  ⟨none, none, .store 5 (.t 2) (.t 23)⟩]) (.ret))))))))
def laws_toVat_r : List RS := [.cell 2 5 true]
theorem laws_toVat_e {a0 : AV} {h : AH} {K : AV → AH → Prop} (hw : TC Try.prog Θ Γ laws_toVat_c (retQ laws_toVat_r K) ⟨[a0, u, u, u, u, u, u, u, u, u, u, u, u, u, u, u, u, u, u, u, u, u, u, u], [], h⟩) : T Try.prog Γ Fn.laws_toVat [a0] h K :=
  T_of_body tabOK Try.func18 (code := bodyOf Try.f18) (by kernel_rfl) (by kernel_rfl) (by kernel_rfl) (by kernel_rfl) hw
def impl_IsVat_c : C := .seq (.reg [⟨(some 1), none, .box (.t 0)⟩,
  ⟨(some 2), none, .mov (.c (.bool false))⟩]) (.seq (.reg [⟨(some 3), none, .call (.c (.fn Fn.impl_Vat_isVat [] [])) [.t 1]⟩,
  ⟨(some 2), none, .mov (.t 3)⟩]) (.ret))
def impl_IsVat_r : List RS := [.t 2]
theorem impl_IsVat_e {a0 : AV} {h : AH} {K : AV → AH → Prop} (hw : TC Try.prog Θ Γ impl_IsVat_c (retQ impl_IsVat_r K) ⟨[a0, u, u, u], [], h⟩) : T Try.prog Γ Fn.impl_IsVat [a0] h K :=
  T_of_body tabOK Try.func19 (code := bodyOf Try.f19) (by kernel_rfl) (by kernel_rfl) (by kernel_rfl) (by kernel_rfl) hw
def laws_eqVat_c : C := .seq (.reg [⟨(some 2), none, .box (.t 0)⟩,
  ⟨(some 3), none, .box (.t 1)⟩,
  ⟨(some 4), none, .mov (.c (.bool false))⟩]) (.seq (.seq (.reg [⟨(some 5), none, .fld 0 (.t 2)⟩,
  ⟨(some 6), none, .load 1 false (.t 5)⟩,
  ⟨(some 7), none, .fld 0 (.t 3)⟩,
  ⟨(some 8), none, .load 1 false (.t 7)⟩,
  ⟨(some 9), none, .bin .neq (.num) (.t 6) (.t 8)⟩]) (.cond (.t 9) (.seq (.reg [⟨(some 4), none, .mov (.c (.bool false))⟩]) (.ret)) (.skip))) (.seq (.seq (.reg [⟨(some 10), none, .fld 1 (.t 2)⟩,
  ⟨(some 11), none, .load 1 false (.t 10)⟩,
  ⟨(some 12), none, .fld 1 (.t 3)⟩,
  ⟨(some 13), none, .load 1 false (.t 12)⟩,
  ⟨(some 14), none, .call (.c (.fn Fn.laws_eqEntityS [] [])) [.t 11, .t 13]⟩,
  ⟨(some 15), none, .un .not (.t 14)⟩]) (.cond (.t 15) (.seq (.reg [⟨(some 4), none, .mov (.c (.bool false))⟩]) (.ret)) (.skip))) (.seq (.seq (.reg [⟨(some 16), none, .fld 2 (.t 2)⟩,
  ⟨(some 17), none, .load 1 false (.t 16)⟩,
  ⟨(some 18), none, .fld 2 (.t 3)⟩,
  ⟨(some 19), none, .load 1 false (.t 18)⟩,
  ⟨(some 20), none, .call (.c (.fn Fn.laws_eqSentS [] [])) [.t 17, .t 19]⟩,
  ⟨(some 21), none, .un .not (.t 20)⟩]) (.cond (.t 21) (.seq (.reg [⟨(some 4), none, .mov (.c (.bool false))⟩]) (.ret)) (.skip))) (.seq (.seq (.reg [⟨(some 22), none, .fld 3 (.t 2)⟩,
  ⟨(some 23), none, .load 1 false (.t 22)⟩,
  ⟨(some 24), none, .fld 3 (.t 3)⟩,
  ⟨(some 25), none, .load 1 false (.t 24)⟩,
  ⟨(some 26), none, .call (.c (.fn Fn.laws_eqLinkS [] [])) [.t 23, .t 25]⟩,
  ⟨(some 27), none, .un .not (.t 26)⟩]) (.cond (.t 27) (.seq (.reg [⟨(some 4), none, .mov (.c (.bool false))⟩]) (.ret)) (.skip))) (.seq (.seq (.reg [⟨(some 28), none, .fld 4 (.t 2)⟩,
  ⟨(some 29), none, .load 1 false (.t 28)⟩,
  ⟨(some 30), none, .fld 4 (.t 3)⟩,
  ⟨(some 31), none, .load 1 false (.t 30)⟩,
  ⟨(some 32), none, .call (.c (.fn Fn.laws_eqOutgoingS [] [])) [.t 29, .t 31]⟩,
  ⟨(some 33), none, .un .not (.t 32)⟩]) (.cond (.t 33) (.seq (.reg [⟨(some 4), none, .mov (.c (.bool false))⟩]) (.ret)) (.skip))) (.seq (.reg [⟨(some 4), none, .mov (.c (.bool true))⟩]) (.ret)))))))
def laws_eqVat_r : List RS := [.t 4]
theorem laws_eqVat_e {a0 a1 : AV} {h : AH} {K : AV → AH → Prop} (hw : TC Try.prog Θ Γ laws_eqVat_c (retQ laws_eqVat_r K) ⟨[a0, a1, u, u, u, u, u, u, u, u, u, u, u, u, u, u, u, u, u, u, u, u, u, u, u, u, u, u, u, u, u, u, u, u], [], h⟩) : T Try.prog Γ Fn.laws_eqVat [a0, a1] h K :=
  T_of_body tabOK Try.func20 (code := bodyOf Try.f20) (by kernel_rfl) (by kernel_rfl) (by kernel_rfl) (by kernel_rfl) hw
def laws_szEntityS_c : C := .seq (.reg [⟨(some 4), none, .mov (.c (.int .i64 0))⟩]) (.seq (.reg [⟨(some 6), none, .mov (.t 1)⟩,
  ⟨(some 7), none, .mov (.t 0)⟩,
  ⟨(some 8), none, .len false (.t 7)⟩,
  ⟨(some 9), none, .bin .sub (.num) (.t 6) (.t 8)⟩,
  ⟨(some 1), none, .mov (.t 9)⟩]) (.seq (.seq (.reg [⟨(some 10), none, .mov (.t 1)⟩,
  ⟨(some 11), none, .bin .lss (.num) (.t 10) (.c (.int .i64 0))⟩]) (.cond (.t 11) (.seq (.reg [⟨(some 4), none, .mov (.c (.int .i64 (-1)))⟩]) (.ret)) (.skip))) (.seq (.seq (.reg [⟨(some 5), none, .mov (.c (.int .i64 0))⟩]) (.block 0 (.loop (.seq (.seq (.reg [⟨(some 12), none, .mov (.t 5)⟩,
  ⟨(some 13), none, .mov (.t 0)⟩,
  ⟨(some 14), none, .len false (.t 13)⟩,
  ⟨(some 15), none, .bin .lss (.num) (.t 12) (.t 14)⟩]) (.cond (.t 15) (.skip) (.exit 0))) (.seq (.block 1 (.seq (.reg [⟨(some 18), none, .mov (.t 0)⟩,
  ⟨(some 19), none, .mov (.t 5)⟩,
  ⟨(some 20), none, .idxs 12 (.t 18) (.t 19)⟩,
  ⟨(some 21), none, .load 12 true (.t 20)⟩,
  ⟨(some 22), none, .mov (.t 1)⟩,
  ⟨(some 23), none, .call (.c (.fn Fn.laws_szEntity [] [])) [.t 21, .t 22]⟩,
  ⟨(some 1), none, .mov (.t 23)⟩]) (.seq (.reg [⟨(some 24), none, .mov (.t 1)⟩,
  ⟨(some 25), none, .bin .lss (.num) (.t 24) (.c (.int .i64 0))⟩]) (.cond (.t 25) (.seq (.reg [⟨(some 4), none, .mov (.c (.int .i64 (-1)))⟩]) (.ret)) (.skip))))) (.reg [⟨(some 16), none, .mov (.t 5)⟩,
  ⟨(some 17), none, .bin .add (.num) (.t 16) (.c (.int .i64 1))⟩,
  ⟨(some 5), none, .mov (.t 17)⟩])))))) (.seq (.reg [⟨(some 26), none, .mov (.t 1)⟩,
  ⟨(some 4), none, .mov (.t 26)⟩]) (.ret)))))
def laws_szEntityS_r : List RS := [.t 4]
def laws_szEntityS_s0 (t0 t1 t5 : AV) (loc : List (List AV)) (h : AH) : St := ⟨[t0, t1, .any, .any, .any, t5, .any, .any, .any, .any, .any, .any, .any, .any, .any, .any, .any, .any, .any, .any, .any, .any, .any, .any, .any, .any, .any], loc, h⟩
theorem laws_szEntityS_e {a0 a1 : AV} {h : AH} {K : AV → AH → Prop} (hw : TC Try.prog Θ Γ laws_szEntityS_c (retQ laws_szEntityS_r K) ⟨[a0, a1, u, u, u, u, u, u, u, u, u, u, u, u, u, u, u, u, u, u, u, u, u, u, u, u, u], [], h⟩) : T Try.prog Γ Fn.laws_szEntityS [a0, a1] h K :=
  T_of_body tabOK Try.func33 (code := bodyOf Try.f33) (by kernel_rfl) (by kernel_rfl) (by kernel_rfl) (by kernel_rfl) hw
def laws_szSentS_c : C := .seq (.reg [⟨(some 4), none, .mov (.c (.int .i64 0))⟩]) (.seq (.reg [⟨(some 6), none, .mov (.t 1)⟩,
  ⟨(some 7), none, .mov (.t 0)⟩,
  ⟨(some 8), none, .len false (.t 7)⟩,
  ⟨(some 9), none, .bin .sub (.num) (.t 6) (.t 8)⟩,
  ⟨(some 1), none, .mov (.t 9)⟩]) (.seq (.seq (.reg [⟨(some 10), none, .mov (.t 1)⟩,
  ⟨(some 11), none, .bin .lss (.num) (.t 10) (.c (.int .i64 0))⟩]) (.cond (.t 11) (.seq (.reg [⟨(some 4), none, .mov (.c (.int .i64 (-1)))⟩]) (.ret)) (.skip))) (.seq (.seq (.reg [⟨(some 5), none, .mov (.c (.int .i64 0))⟩]) (.block 0 (.loop (.seq (.seq (.reg [⟨(some 12), none, .mov (.t 5)⟩,
  ⟨(some 13), none, .mov (.t 0)⟩,
  ⟨(some 14), none, .len false (.t 13)⟩,
  ⟨(some 15), none, .bin .lss (.num) (.t 12) (.t 14)⟩]) (.cond (.t 15) (.skip) (.exit 0))) (.seq (.block 1 (.seq (.reg [⟨(some 18), none, .mov (.t 0)⟩,
  ⟨(some 19), none, .mov (.t 5)⟩,
  ⟨(some 20), none, .idxs 7 (.t 18) (.t 19)⟩,
  ⟨(some 21), none, .load 7 true (.t 20)⟩,
  ⟨(some 22), none, .mov (.t 1)⟩,
  ⟨(some 23), none, .call (.c (.fn Fn.laws_szSent [] [])) [.t 21, .t 22]⟩,
  ⟨(some 1), none, .mov (.t 23)⟩]) (.seq (.reg [⟨(some 24), none, .mov (.t 1)⟩,
  ⟨(some 25), none, .bin .lss (.num) (.t 24) (.c (.int .i64 0))⟩]) (.cond (.t 25) (.seq (.reg [⟨(some 4), none, .mov (.c (.int .i64 (-1)))⟩]) (.ret)) (.skip))))) (.reg [⟨(some 16), none, .mov (.t 5)⟩,
  ⟨(some 17), none, .bin .add (.num) (.t 16) (.c (.int .i64 1))⟩,
  ⟨(some 5), none, .mov (.t 17)⟩])))))) (.seq (.reg [⟨(some 26), none, .mov (.t 1)⟩,
  ⟨(some 4), none, .mov (.t 26)⟩]) (.ret)))))
def laws_szSentS_r : List RS := [.t 4]
def laws_szSentS_s0 (t0 t1 t5 : AV) (loc : List (List AV)) (h : AH) : St := ⟨[t0, t1, .any, .any, .any, t5, .any, .any, .any, .any, .any, .any, .any, .any, .any, .any, .any, .any, .any, .any, .any, .any, .any, .any, .any, .any, .any], loc, h⟩
theorem laws_szSentS_e {a0 a1 : AV} {h : AH} {K : AV → AH → Prop} (hw : TC Try.prog Θ Γ laws_szSentS_c (retQ laws_szSentS_r K) ⟨[a0, a1, u, u, u, u, u, u, u, u, u, u, u, u, u, u, u, u, u, u, u, u, u, u, u, u, u], [], h⟩) : T Try.prog Γ Fn.laws_szSentS [a0, a1] h K :=
  T_of_body tabOK Try.func34 (code := bodyOf Try.f34) (by kernel_rfl) (by kernel_rfl) (by kernel_rfl) (by kernel_rfl) hw
def laws_szLinkS_c : C := .seq (.reg [⟨(some 4), none, .mov (.c (.int .i64 0))⟩]) (.seq (.reg [⟨(some 6), none, .mov (.t 1)⟩,
  ⟨(some 7), none, .mov (.t 0)⟩,
  ⟨(some 8), none, .len false (.t 7)⟩,
  ⟨(some 9), none, .bin .sub (.num) (.t 6) (.t 8)⟩,
  ⟨(some 1), none, .mov (.t 9)⟩]) (.seq (.seq (.reg [⟨(some 10), none, .mov (.t 1)⟩,
  ⟨(some 11), none, .bin .lss (.num) (.t 10) (.c (.int .i64 0))⟩]) (.cond (.t 11) (.seq (.reg [⟨(some 4), none, .mov (.c (.int .i64 (-1)))⟩]) (.ret)) (.skip))) (.seq (.seq (.reg [⟨(some 5), none, .mov (.c (.int .i64 0))⟩]) (.block 0 (.loop (.seq (.seq (.reg [⟨(some 12), none, .mov (.t 5)⟩,
  ⟨(some 13), none, .mov (.t 0)⟩,
  ⟨(some 14), none, .len false (.t 13)⟩,
  ⟨(some 15), none, .bin .lss (.num) (.t 12) (.t 14)⟩]) (.cond (.t 15) (.skip) (.exit 0))) (.seq (.block 1 (.seq (.reg [⟨(some 18), none, .mov (.t 0)⟩,
  ⟨(some 19), none, .mov (.t 5)⟩,
  ⟨(some 20), none, .idxs 7 (.t 18) (.t 19)⟩,
  ⟨(some 21), none, .load 7 true (.t 20)⟩,
  ⟨(some 22), none, .mov (.t 1)⟩,
  ⟨(some 23), none, .call (.c (.fn Fn.laws_szLink [] [])) [.t 21, .t 22]⟩,
  ⟨(some 1), none, .mov (.t 23)⟩]) (.seq (.reg [⟨(some 24), none, .mov (.t 1)⟩,
  ⟨(some 25), none, .bin .lss (.num) (.t 24) (.c (.int .i64 0))⟩]) (.cond (.t 25) (.seq (.reg [⟨(some 4), none, .mov (.c (.int .i64 (-1)))⟩]) (.ret)) (.skip))))) (.reg [⟨(some 16), none, .mov (.t 5)⟩,
  ⟨(some 17), none, .bin .add (.num) (.t 16) (.c (.int .i64 1))⟩,
  ⟨(some 5), none, .mov (.t 17)⟩])))))) (.seq (.reg [⟨(some 26), none, .mov (.t 1)⟩,
  ⟨(some 4), none, .mov (.t 26)⟩]) (.ret)))))
def laws_szLinkS_r : List RS := [.t 4]
def laws_szLinkS_s0 (t0 t1 t5 : AV) (loc : List (List AV)) (h : AH) : St := ⟨[t0, t1, .any, .any, .any, t5, .any, .any, .any, .any, .any, .any, .any, .any, .any, .any, .any, .any, .any, .any, .any, .any, .any, .any, .any, .any, .any], loc, h⟩
theorem laws_szLinkS_e {a0 a1 : AV} {h : AH} {K : AV → AH → Prop} (hw : TC Try.prog Θ Γ laws_szLinkS_c (retQ laws_szLinkS_r K) ⟨[a0, a1, u, u, u, u, u, u, u, u, u, u, u, u, u, u, u, u, u, u, u, u, u, u, u, u, u], [], h⟩) : T Try.prog Γ Fn.laws_szLinkS [a0, a1] h K :=
  T_of_body tabOK Try.func35 (code := bodyOf Try.f35) (by kernel_rfl) (by kernel_rfl) (by kernel_rfl) (by kernel_rfl) hw
def laws_szOutgoingS_c : C := .seq (.reg [⟨(some 4), none, .mov (.c (.int .i64 0))⟩]) (.seq (.reg [⟨(some 6), none, .mov (.t 1)⟩,
  ⟨(some 7), none, .mov (.t 0)⟩,
  ⟨(some 8), none, .len false (.t 7)⟩,
  ⟨(some 9), none, .bin .sub (.num) (.t 6) (.t 8)⟩,
  ⟨(some 1), none, .mov (.t 9)⟩]) (.seq (.seq (.reg [⟨(some 10), none, .mov (.t 1)⟩,
  ⟨(some 11), none, .bin .lss (.num) (.t 10) (.c (.int .i64 0))⟩]) (.cond (.t 11) (.seq (.reg [⟨(some 4), none, .mov (.c (.int .i64 (-1)))⟩]) (.ret)) (.skip))) (.seq (.seq (.reg [⟨(some 5), none, .mov (.c (.int .i64 0))⟩]) (.block 0 (.loop (.seq (.seq (.reg [⟨(some 12), none, .mov (.t 5)⟩,
  ⟨(some 13), none, .mov (.t 0)⟩,
  ⟨(some 14), none, .len false (.t 13)⟩,
  ⟨(some 15), none, .bin .lss (.num) (.t 12) (.t 14)⟩]) (.cond (.t 15) (.skip) (.exit 0))) (.seq (.block 1 (.seq (.reg [⟨(some 18), none, .mov (.t 0)⟩,
  ⟨(some 19), none, .mov (.t 5)⟩,
  ⟨(some 20), none, .idxs 13 (.t 18) (.t 19)⟩,
  ⟨(some 21), none, .load 13 true (.t 20)⟩,
  ⟨(some 22), none, .mov (.t 1)⟩,
  ⟨(some 23), none, .call (.c (.fn Fn.laws_szOutgoing [] [])) [.t 21, .t 22]⟩,
  ⟨(some 1), none, .mov (.t 23)⟩]) (.seq (.reg [⟨(some 24), none, .mov (.t 1)⟩,
  ⟨(some 25), none, .bin .lss (.num) (.t 24) (.c (.int .i64 0))⟩]) (.cond (.t 25) (.seq (.reg [⟨(some 4), none, .mov (.c (.int .i64 (-1)))⟩]) (.ret)) (.skip))))) (.reg [⟨(some 16), none, .mov (.t 5)⟩,
  ⟨(some 17), none, .bin .add (.num) (.t 16) (.c (.int .i64 1))⟩,
  ⟨(some 5), none, .mov (.t 17)⟩])))))) (.seq (.reg [⟨(some 26), none, .mov (.t 1)⟩,
  ⟨(some 4), none, .mov (.t 26)⟩]) (.ret)))))
def laws_szOutgoingS_r : List RS := [.t 4]
def laws_szOutgoingS_s0 (t0 t1 t5 : AV) (loc : List (List AV)) (h : AH) : St := ⟨[t0, t1, .any, .any, .any, t5, .any, .any, .any, .any, .any, .any, .any, .any, .any, .any, .any, .any, .any, .any, .any, .any, .any, .any, .any, .any, .any], loc, h⟩
theorem laws_szOutgoingS_e {a0 a1 : AV} {h : AH} {K : AV → AH → Prop} (hw : TC Try.prog Θ Γ laws_szOutgoingS_c (retQ laws_szOutgoingS_r K) ⟨[a0, a1, u, u, u, u, u, u, u, u, u, u, u, u, u, u, u, u, u, u, u, u, u, u, u, u, u], [], h⟩) : T Try.prog Γ Fn.laws_szOutgoingS [a0, a1] h K :=
  T_of_body tabOK Try.func36 (code := bodyOf Try.f36) (by kernel_rfl) (by kernel_rfl) (by kernel_rfl) (by kernel_rfl) hw
def spec_l1In_c : C := .seq (.reg [⟨(some 6), none, .mov (.c (.bool false))⟩]) (.seq (.reg [⟨(some 7), none, .mov (.t 0)⟩,
  ⟨(some 8), none, .mov (.t 1)⟩,
  ⟨(some 9), none, .bin .geq (.num) (.t 7) (.t 8)⟩,
  ⟨(some 10), none, .mov (.t 9)⟩,
  ⟨(some 11), (some (3, true)), .mov (.t 0)⟩,
  ⟨(some 12), (some (3, true)), .mov (.t 2)⟩,
  ⟨(some 13), (some (3, true)), .bin .leq (.num) (.t 11) (.t 12)⟩,
  ⟨(some 14), none, .pick (.t 10) (.t 13) (.c (.bool false))⟩,
  ⟨(some 6), none, .mov (.t 14)⟩]) (.ret))
def spec_l1In_r : List RS := [.t 6]
theorem spec_l1In_e {a0 a1 a2 : AV} {h : AH} {K : AV → AH → Prop} (hw : TC Try.prog Θ Γ spec_l1In_c (retQ spec_l1In_r K) ⟨[a0, a1, a2, u, u, u, u, u, u, u, u, u, u, u, u], [], h⟩) : T Try.prog Γ Fn.spec_l1In [a0, a1, a2] h K :=
  T_of_body tabOK Try.func37 (code := bodyOf Try.f37) (by kernel_rfl) (by kernel_rfl) (by kernel_rfl) (by kernel_rfl) hw
def spec_l29Sents_c : C := .seq (.reg [⟨(some 4), none, .mov (.c (.bool false))⟩]) (.seq (.seq (.reg [⟨(some 5), none, .mov (.c (.int .i64 0))⟩]) (.block 0 (.loop (.seq (.seq (.reg [⟨(some 6), none, .mov (.t 5)⟩,
  ⟨(some 7), none, .mov (.t 0)⟩,
  ⟨(some 8), none, .len false (.t 7)⟩,
  ⟨(some 9), none, .bin .lss (.num) (.t 6) (.t 8)⟩]) (.cond (.t 9) (.skip) (.exit 0))) (.seq (.block 1 (.seq (.reg [⟨(some 12), none, .mov (.t 0)⟩,
  ⟨(some 13), none, .mov (.t 5)⟩,
  ⟨(some 14), none, .idxs 7 (.t 12) (.t 13)⟩,
  ⟨(some 15), none, .fld 0 (.t 14)⟩,
  ⟨(some 16), none, .load 1 false (.t 15)⟩,
  ⟨(some 17), none, .mov (.t 1)⟩,
  ⟨(some 18), none, .bin .sub (.num) (.t 17) (.c (.int .i64 1))⟩,
  ⟨(some 19), none, .call (.c (.fn Fn.spec_l1In [] [])) [.t 16, .c (.int .i64 0), .t 18]⟩,
  ⟨(some 20), none, .un .not (.t 19)⟩,
  ⟨(some 21), none, .mov (.t 20)⟩,
  ⟨(some 22), (some (9, false)), .mov (.t 0)⟩,
  ⟨(some 23), (some (9, false)), .mov (.t 5)⟩,
  ⟨(some 24), (some (9, false)), .idxs 7 (.t 22) (.t 23)⟩,
  ⟨(some 25), (some (9, false)), .fld 3 (.t 24)⟩,
  ⟨(some 26), (some (9, false)), .load 1 false (.t 25)⟩,
  ⟨(some 27), (some (9, false)), .mov (.t 1)⟩,
  ⟨(some 28), (some (9, false)), .bin .sub (.num) (.t 27) (.c (.int .i64 1))⟩,
  ⟨(some 29), (some (9, false)), .call (.c (.fn Fn.spec_l1In [] [])) [.t 26, .c (.int .i64 0), .t 28]⟩,
  ⟨(some 30), (some (9, false)), .un .not (.t 29)⟩,
  ⟨(some 31), none, .pick (.t 21) (.c (.bool true)) (.t 30)⟩]) (.cond (.t 31) (.seq (.reg [⟨(some 4), none, .mov (.c (.bool false))⟩]) (.ret)) (.skip)))) (.reg [⟨(some 10), none, .mov (.t 5)⟩,
  ⟨(some 11), none, .bin .add (.num) (.t 10) (.c (.int .i64 1))⟩,
  ⟨(some 5), none, .mov (.t 11)⟩])))))) (.seq (.reg [⟨(some 4), none, .mov (.c (.bool true))⟩]) (.ret)))
def spec_l29Sents_r : List RS := [.t 4]
def spec_l29Sents_s0 (t0 t1 t5 : AV) (loc : List (List AV)) (h : AH) : St := ⟨[t0, t1, .any, .any, .any, t5, .any, .any, .any, .any, .any, .any, .any, .any, .any, .any, .any, .any, .any, .any, .any, .any, .any, .any, .any, .any, .any, .any, .any, .any, .any, .any], loc, h⟩
theorem spec_l29Sents_e {a0 a1 : AV} {h : AH} {K : AV → AH → Prop} (hw : TC Try.prog Θ Γ spec_l29Sents_c (retQ spec_l29Sents_r K) ⟨[a0, a1, u, u, u, u, u, u, u, u, u, u, u, u, u, u, u, u, u, u, u, u, u, u, u, u, u, u, u, u, u, u], [], h⟩) : T Try.prog Γ Fn.spec_l29Sents [a0, a1] h K :=
  T_of_body tabOK Try.func38 (code := bodyOf Try.f38) (by kernel_rfl) (by kernel_rfl) (by kernel_rfl) (by kernel_rfl) hw
def spec_IsEntity_c : C := .seq (.reg [⟨(some 2), none, .box (.t 0)⟩,
  ⟨(some 4), none, .mov (.c (.bool false))⟩]) (.seq (.reg [⟨(some 6), none, .fld 3 (.t 2)⟩,
  ⟨(some 7), none, .load 1 false (.t 6)⟩,
  ⟨(some 8), none, .bin .eql (.num) (.t 7) (.c (.int .i64 0))⟩,
  ⟨(some 9), none, .mov (.t 8)⟩,
  ⟨(some 10), (some (3, true)), .fld 4 (.t 2)⟩,
  ⟨(some 11), (some (3, true)), .load 2 true (.t 10)⟩,
  ⟨(some 12), (some (3, true)), .build [.int .i64 0, .int .i64 0] []⟩,
  ⟨(some 13), (some (3, true)), .bin .eql (.agg [.int .i64, .int .i64]) (.t 11) (.t 12)⟩,
  ⟨(some 14), none, .pick (.t 9) (.t 13) (.c (.bool false))⟩,
  ⟨(some 15), none, .mov (.t 14)⟩,
  ⟨(some 16), (some (9, true)), .fld 6 (.t 2)⟩,
  ⟨(some 17), (some (9, true)), .load 1 false (.t 16)⟩,
  ⟨(some 18), (some (9, true)), .len false (.t 17)⟩,
  ⟨(some 19), (some (9, true)), .bin .eql (.num) (.t 18) (.c (.int .i64 0))⟩,
  ⟨(some 20), none, .pick (.t 15) (.t 19) (.c (.bool false))⟩,
  ⟨(some 21), none, .mov (.t 20)⟩,
  ⟨(some 22), (some (15, true)), .fld 7 (.t 2)⟩,
  ⟨(some 23), (some (15, true)), .load 1 false (.t 22)⟩,
  ⟨(some 24), (some (15, true)), .len false (.t 23)⟩,
  ⟨(some 25), (some (15, true)), .bin .eql (.num) (.t 24) (.c (.int .i64 0))⟩,
  ⟨(some 26), none, .pick (.t 21) (.t 25) (.c (.bool false))⟩,
  ⟨(some 5), none, .mov (.t 26)⟩]) (.seq (.seq (.reg [⟨(some 27), none, .fld 11 (.t 2)⟩,
  ⟨(some 28), none, .load 1 false (.t 27)⟩,
  ⟨(some 29), none, .call (.c (.fn Fn.spec_l1In [] [])) [.t 28, .c (.int .i64 0), .c (.int .i64 999999)]⟩,
  ⟨(some 30), none, .un .not (.t 29)⟩]) (.cond (.t 30) (.seq (.reg [⟨(some 4), none, .mov (.c (.bool false))⟩]) (.ret)) (.skip))) (.seq (.seq (.reg [⟨(some 31), none, .fld 0 (.t 2)⟩,
  ⟨(some 32), none, .load 1 false (.t 31)⟩]) (.block 0 (.seq (.reg [⟨(some 34), none, .bin .eql (.num) (.t 32) (.c (.int .i64 1))⟩,
  ⟨(some 33), none, .mov (.t 34)⟩]) (.cond (.t 33) (.seq (.reg [⟨(some 35), none, .mov (.t 5)⟩,
  ⟨(some 36), none, .mov (.t 35)⟩,
  ⟨(some 37), (some (1, true)), .fld 1 (.t 2)⟩,
  ⟨(some 38), (some (1, true)), .load 1 false (.t 37)⟩,
  ⟨(some 39), (some (1, true)), .call (.c (.fn Fn.spec_l1In [] [])) [.t 38, .c (.int .i64 0), .c (.int .i64 5)]⟩,
  ⟨(some 40), none, .pick (.t 36) (.t 39) (.c (.bool false))⟩,
  ⟨(some 41), none, .mov (.t 40)⟩,
  ⟨(some 42), (some (6, true)), .fld 2 (.t 2)⟩,
  ⟨(some 43), (some (6, true)), .load 1 false (.t 42)⟩,
  ⟨(some 44), (some (6, true)), .len false (.t 43)⟩,
  ⟨(some 45), (some (6, true)), .bin .leq (.num) (.t 44) (.c (.int .i64 3))⟩,
  ⟨(some 46), none, .pick (.t 41) (.t 45) (.c (.bool false))⟩,
  ⟨(some 47), none, .mov (.t 46)⟩,
  ⟨(some 48), (some (12, true)), .fld 2 (.t 2)⟩,
  ⟨(some 49), (some (12, true)), .load 1 false (.t 48)⟩,
  ⟨(some 50), (some (12, true)), .mov (.t 1)⟩,
  ⟨(some 51), (some (12, true)), .call (.c (.fn Fn.spec_AreValues [] [])) [.t 49, .t 50]⟩,
  ⟨(some 52), none, .pick (.t 47) (.t 51) (.c (.bool false))⟩,
  ⟨(some 53), none, .mov (.t 52)⟩,
  ⟨(some 54), (some (18, true)), .fld 8 (.t 2)⟩,
  ⟨(some 55), (some (18, true)), .load 1 false (.t 54)⟩,
  ⟨(some 56), (some (18, true)), .bin .eql (.num) (.t 55) (.c (.int .i64 0))⟩,
  ⟨(some 57), none, .pick (.t 53) (.t 56) (.c (.bool false))⟩,
  ⟨(some 58), none, .mov (.t 57)⟩,
  ⟨(some 59), (some (23, true)), .fld 9 (.t 2)⟩,
  ⟨(some 60), (some (23, true)), .load 1 false (.t 59)⟩,
  ⟨(some 61), (some (23, true)), .bin .eql (.num) (.t 60) (.c (.int .i64 0))⟩,
  ⟨(some 62), none, .pick (.t 58) (.t 61) (.c (.bool false))⟩,
  ⟨(some 63), none, .mov (.t 62)⟩,
  ⟨(some 64), (some (28, true)), .fld 10 (.t 2)⟩,
  ⟨(some 65), (some (28, true)), .load 1 false (.t 64)⟩,
  ⟨(some 66), (some (28, true)), .bin .eql (.num) (.t 65) (.c (.int .i64 0))⟩,
  ⟨(some 67), none, .pick (.t 63) (.t 66) (.c (.bool false))⟩,
  ⟨(some 4), none, .mov (.t 67)⟩]) (.ret)) (.seq (.reg [⟨(some 69), none, .bin .eql (.num) (.t 32) (.c (.int .i64 3))⟩,
  ⟨(some 68), none, .mov (.t 69)⟩]) (.cond (.t 68) (.seq (.reg [⟨(some 70), none, .mov (.t 5)⟩,
  ⟨(some 71), none, .mov (.t 70)⟩,
  ⟨(some 72), (some (1, true)), .fld 1 (.t 2)⟩,
  ⟨(some 73), (some (1, true)), .load 1 false (.t 72)⟩,
  ⟨(some 74), (some (1, true)), .bin .eql (.num) (.t 73) (.c (.int .i64 0))⟩,
  ⟨(some 75), none, .pick (.t 71) (.t 74) (.c (.bool false))⟩,
  ⟨(some 76), none, .mov (.t 75)⟩,
  ⟨(some 77), (some (6, true)), .fld 2 (.t 2)⟩,
  ⟨(some 78), (some (6, true)), .load 1 false (.t 77)⟩,
  ⟨(some 79), (some (6, true)), .len false (.t 78)⟩,
  ⟨(some 80), (some (6, true)), .bin .eql (.num) (.t 79) (.c (.int .i64 0))⟩,
  ⟨(some 81), none, .pick (.t 76) (.t 80) (.c (.bool false))⟩,
  ⟨(some 82), none, .mov (.t 81)⟩,
  ⟨(some 83), (some (12, true)), .fld 8 (.t 2)⟩,
  ⟨(some 84), (some (12, true)), .load 1 false (.t 83)⟩,
  ⟨(some 85), (some (12, true)), .call (.c (.fn Fn.spec_l1In [] [])) [.t 84, .c (.int .i64 1), .c (.int .i64 4)]⟩,
  ⟨(some 86), none, .pick (.t 82) (.t 85) (.c (.bool false))⟩,
  ⟨(some 87), none, .mov (.t 86)⟩,
  ⟨(some 88), (some (17, true)), .fld 9 (.t 2)⟩,
  ⟨(some 89), (some (17, true)), .load 1 false (.t 88)⟩,
  ⟨(some 90), (some (17, true)), .call (.c (.fn Fn.spec_l1In [] [])) [.t 89, .c (.int .i64 1), .c (.int .i64 999999)]⟩,
  ⟨(some 91), none, .pick (.t 87) (.t 90) (.c (.bool false))⟩,
  ⟨(some 92), none, .mov (.t 91)⟩,
  ⟨(some 93), (some (22, true)), .fld 10 (.t 2)⟩,
  ⟨(some 94), (some (22, true)), .load 1 false (.t 93)⟩,
  ⟨(some 95), (some (22, true)), .call (.c (.fn Fn.spec_l1In [] [])) [.t 94, .c (.int .i64 1), .c (.int .i64 999999)]⟩,
  ⟨(some 96), none, .pick (.t 92) (.t 95) (.c (.bool false))⟩,
  ⟨(some 4), none, .mov (.t 96)⟩]) (.ret)) (.seq (.reg [⟨(some 98), none, .bin .eql (.num) (.t 32) (.c (.int .i64 2))⟩,
  ⟨(some 97), none, .mov (.t 98)⟩]) (.cond (.t 97) (.seq (.reg [⟨(some 99), none, .load 12 true (.t 2)⟩,
  ⟨(some 100), none, .mov (.t 1)⟩,
  ⟨(some 101), none, .call (.c (.fn Fn.spec_l9Promise [] [])) [.t 99, .t 100]⟩,
  ⟨(some 4), none, .mov (.t 101)⟩]) (.ret)) (.skip))))))))) (.seq (.reg [⟨(some 4), none, .mov (.c (.bool false))⟩]) (.ret)))))
def spec_IsEntity_r : List RS := [.t 4]
theorem spec_IsEntity_e {a0 a1 : AV} {h : AH} {K : AV → AH → Prop} (hw : TC Try.prog Θ Γ spec_IsEntity_c (retQ spec_IsEntity_r K) ⟨[a0, a1, u, u, u, u, u, u, u, u, u, u, u, u, u, u, u, u, u, u, u, u, u, u, u, u, u, u, u, u, u, u, u, u, u, u, u, u, u, u, u, u, u, u, u, u, u, u, u, u, u, u, u, u, u, u, u, u, u, u, u, u, u, u, u, u, u, u, u, u, u, u, u, u, u, u, u, u, u, u, u, u, u, u, u, u, u, u, u, u, u, u, u, u, u, u, u, u, u, u, u, u], [], h⟩) : T Try.prog Γ Fn.spec_IsEntity [a0, a1] h K :=
  T_of_body tabOK Try.func39 (code := bodyOf Try.f39) (by kernel_rfl) (by kernel_rfl) (by kernel_rfl) (by kernel_rfl) hw
def spec_l29Entries_c : C := .seq (.reg [⟨(some 4), none, .mov (.c (.bool false))⟩]) (.seq (.seq (.reg [⟨(some 5), none, .mov (.c (.int .i64 0))⟩]) (.block 0 (.loop (.seq (.seq (.reg [⟨(some 6), none, .mov (.t 5)⟩,
  ⟨(some 7), none, .mov (.t 0)⟩,
  ⟨(some 8), none, .len false (.t 7)⟩,
  ⟨(some 9), none, .bin .lss (.num) (.t 6) (.t 8)⟩]) (.cond (.t 9) (.skip) (.exit 0))) (.seq (.block 1 (.seq (.reg [⟨(some 12), none, .mov (.t 0)⟩,
  ⟨(some 13), none, .mov (.t 5)⟩,
  ⟨(some 14), none, .idxs 2 (.t 12) (.t 13)⟩,
  ⟨(some 15), none, .fld 1 (.t 14)⟩,
  ⟨(some 16), none, .load 1 false (.t 15)⟩,
  ⟨(some 17), none, .mov (.t 1)⟩,
  ⟨(some 18), none, .bin .sub (.num) (.t 17) (.c (.int .i64 1))⟩,
  ⟨(some 19), none, .call (.c (.fn Fn.spec_l1In [] [])) [.t 16, .c (.int .i64 0), .t 18]⟩,
  ⟨(some 20), none, .un .not (.t 19)⟩,
  ⟨(some 21), none, .mov (.t 20)⟩,
  ⟨(some 22), (some (9, false)), .mov (.t 0)⟩,
  ⟨(some 23), (some (9, false)), .mov (.t 5)⟩,
  ⟨(some 24), (some (9, false)), .idxs 2 (.t 22) (.t 23)⟩,
  ⟨(some 25), (some (9, false)), .fld 0 (.t 24)⟩,
  ⟨(some 26), (some (9, false)), .load 1 false (.t 25)⟩,
  ⟨(some 27), (some (9, false)), .call (.c (.fn Fn.spec_l1In [] [])) [.t 26, .c (.int .i64 1), .c (.int .i64 999999)]⟩,
  ⟨(some 28), (some (9, false)), .un .not (.t 27)⟩,
  ⟨(some 29), none, .pick (.t 21) (.c (.bool true)) (.t 28)⟩]) (.cond (.t 29) (.seq (.reg [⟨(some 4), none, .mov (.c (.bool false))⟩]) (.ret)) (.skip)))) (.reg [⟨(some 10), none, .mov (.t 5)⟩,
  ⟨(some 11), none, .bin .add (.num) (.t 10) (.c (.int .i64 1))⟩,
  ⟨(some 5), none, .mov (.t 11)⟩])))))) (.seq (.reg [⟨(some 4), none, .mov (.c (.bool true))⟩]) (.ret)))
def spec_l29Entries_r : List RS := [.t 4]
def spec_l29Entries_s0 (t0 t1 t5 : AV) (loc : List (List AV)) (h : AH) : St := ⟨[t0, t1, .any, .any, .any, t5, .any, .any, .any, .any, .any, .any, .any, .any, .any, .any, .any, .any, .any, .any, .any, .any, .any, .any, .any, .any, .any, .any, .any, .any], loc, h⟩
theorem spec_l29Entries_e {a0 a1 : AV} {h : AH} {K : AV → AH → Prop} (hw : TC Try.prog Θ Γ spec_l29Entries_c (retQ spec_l29Entries_r K) ⟨[a0, a1, u, u, u, u, u, u, u, u, u, u, u, u, u, u, u, u, u, u, u, u, u, u, u, u, u, u, u, u], [], h⟩) : T Try.prog Γ Fn.spec_l29Entries [a0, a1] h K :=
  T_of_body tabOK Try.func40 (code := bodyOf Try.f40) (by kernel_rfl) (by kernel_rfl) (by kernel_rfl) (by kernel_rfl) hw
def laws_toEntityS_c : C := .seq (.reg [⟨(some 2), none, .mov (.c (.nils))⟩]) (.seq (.reg [⟨(some 5), none, .mov (.t 0)⟩,
  ⟨(some 6), none, .len false (.t 5)⟩,
  ⟨(some 7), none, .mks 12 144 [.int .i64 0, .int .i64 0, .nils, .int .i64 0, .int .i64 0, .int .i64 0, .nils, .nils, .int .i64 0, .int .i64 0, .int .i64 0, .int .i64 0] (.t 6) (.t 6)⟩,
  ⟨(some 3), none, .mov (.t 7)⟩]) (.seq (.seq (.reg [⟨(some 4), none, .mov (.c (.int .i64 0))⟩]) (.block 0 (.loop (.seq (.seq (.reg [⟨(some 8), none, .mov (.t 4)⟩,
  ⟨(some 9), none, .mov (.t 0)⟩,
  ⟨(some 10), none, .len false (.t 9)⟩,
  ⟨(some 11), none, .bin .lss (.num) (.t 8) (.t 10)⟩]) (.cond (.t 11) (.skip) (.exit 0))) (.seq (.block 1 (.reg [⟨(some 14), none, .mov (.t 3)⟩,
  ⟨(some 15), none, .mov (.t 4)⟩,
  ⟨(some 16), none, .mov (.t 0)⟩,
  ⟨(some 17), none, .mov (.t 4)⟩,
  ⟨(some 18), none, .idxs 12 (.t 16) (.t 17)⟩,
  ⟨(some 19), none, .load 12 true (.t 18)⟩,
  ⟨(some 20), none, .call (.c (.fn Fn.laws_toEntity [] [])) [.t 19]⟩,
  ⟨(some 21), none, .idxs 12 (.t 14) (.t 15)⟩,
  ⟨none, none, .store 12 (.t 21) (.t 20)⟩])) (.reg [⟨(some 12), none, .mov (.t 4)⟩,
  ⟨(some 13), none, .bin .add (.num) (.t 12) (.c (.int .i64 1))⟩,
  ⟨(some 4), none, .mov (.t 13)⟩])))))) (.seq (.reg [⟨(some 22), none, .mov (.t 3)⟩,
  ⟨(some 2), none, .mov (.t 22)⟩]) (.ret))))
def laws_toEntityS_r : List RS := [.t 2]
def laws_toEntityS_s0 (t0 t3 t4 : AV) (loc : List (List AV)) (h : AH) : St := ⟨[t0, .any, .any, t3, t4, .any, .any, .any, .any, .any, .any, .any, .any, .any, .any, .any, .any, .any, .any, .any, .any, .any, .any], loc, h⟩
theorem laws_toEntityS_e {a0 : AV} {h : AH} {K : AV → AH → Prop} (hw : TC Try.prog Θ Γ laws_toEntityS_c (retQ laws_toEntityS_r K) ⟨[a0, u, u, u, u, u, u, u, u, u, u, u, u, u, u, u, u, u, u, u, u, u, u], [], h⟩) : T Try.prog Γ Fn.laws_toEntityS [a0] h K :=
  T_of_body tabOK Try.func41 (code := bodyOf Try.f41) (by kernel_rfl) (by kernel_rfl) (by kernel_rfl) (by kernel_rfl) hw
def laws_toSentS_c : C := .seq (.reg [⟨(some 2), none, .mov (.c (.nils))⟩]) (.seq (.reg [⟨(some 5), none, .mov (.t 0)⟩,
  ⟨(some 6), none, .len false (.t 5)⟩,
  ⟨(some 7), none, .mks 7 80 [.int .i64 0, .str ⟨#[]⟩, .nils, .int .i64 0, .int .i64 0, .int .i64 0, .int .i64 0] (.t 6) (.t 6)⟩,
  ⟨(some 3), none, .mov (.t 7)⟩]) (.seq (.seq (.reg [⟨(some 4), none, .mov (.c (.int .i64 0))⟩]) (.block 0 (.loop (.seq (.seq (.reg [⟨(some 8), none, .mov (.t 4)⟩,
  ⟨(some 9), none, .mov (.t 0)⟩,
  ⟨(some 10), none, .len false (.t 9)⟩,
  ⟨(some 11), none, .bin .lss (.num) (.t 8) (.t 10)⟩]) (.cond (.t 11) (.skip) (.exit 0))) (.seq (.block 1 (.reg [⟨(some 14), none, .mov (.t 3)⟩,
  ⟨(some 15), none, .mov (.t 4)⟩,
  ⟨(some 16), none, .mov (.t 0)⟩,
  ⟨(some 17), none, .mov (.t 4)⟩,
  ⟨(some 18), none, .idxs 7 (.t 16) (.t 17)⟩,
  ⟨(some 19), none, .load 7 true (.t 18)⟩,
  ⟨(some 20), none, .call (.c (.fn Fn.laws_toSent [] [])) [.t 19]⟩,
  ⟨(some 21), none, .idxs 7 (.t 14) (.t 15)⟩,
  ⟨none, none, .store 7 (.t 21) (.t 20)⟩])) (.reg [⟨(some 12), none, .mov (.t 4)⟩,
  ⟨(some 13), none, .bin .add (.num) (.t 12) (.c (.int .i64 1))⟩,
  ⟨(some 4), none, .mov (.t 13)⟩])))))) (.seq (.reg [⟨(some 22), none, .mov (.t 3)⟩,
  ⟨(some 2), none, .mov (.t 22)⟩]) (.ret))))
def laws_toSentS_r : List RS := [.t 2]
def laws_toSentS_s0 (t0 t3 t4 : AV) (loc : List (List AV)) (h : AH) : St := ⟨[t0, .any, .any, t3, t4, .any, .any, .any, .any, .any, .any, .any, .any, .any, .any, .any, .any, .any, .any, .any, .any, .any, .any], loc, h⟩
theorem laws_toSentS_e {a0 : AV} {h : AH} {K : AV → AH → Prop} (hw : TC Try.prog Θ Γ laws_toSentS_c (retQ laws_toSentS_r K) ⟨[a0, u, u, u, u, u, u, u, u, u, u, u, u, u, u, u, u, u, u, u, u, u, u], [], h⟩) : T Try.prog Γ Fn.laws_toSentS [a0] h K :=
  T_of_body tabOK Try.func42 (code := bodyOf Try.f42) (by kernel_rfl) (by kernel_rfl) (by kernel_rfl) (by kernel_rfl) hw
def laws_toLinkS_c : C := .seq (.reg [⟨(some 2), none, .mov (.c (.nils))⟩]) (.seq (.reg [⟨(some 5), none, .mov (.t 0)⟩,
  ⟨(some 6), none, .len false (.t 5)⟩,
  ⟨(some 7), none, .mks 7 104 [.int .i64 0, .bool false, .nils, .int .i64 0, .nils, .int .i64 0, .nils] (.t 6) (.t 6)⟩,
  ⟨(some 3), none, .mov (.t 7)⟩]) (.seq (.seq (.reg [⟨(some 4), none, .mov (.c (.int .i64 0))⟩]) (.block 0 (.loop (.seq (.seq (.reg [⟨(some 8), none, .mov (.t 4)⟩,
  ⟨(some 9), none, .mov (.t 0)⟩,
  ⟨(some 10), none, .len false (.t 9)⟩,
  ⟨(some 11), none, .bin .lss (.num) (.t 8) (.t 10)⟩]) (.cond (.t 11) (.skip) (.exit 0))) (.seq (.block 1 (.reg [⟨(some 14), none, .mov (.t 3)⟩,
  ⟨(some 15), none, .mov (.t 4)⟩,
  ⟨(some 16), none, .mov (.t 0)⟩,
  ⟨(some 17), none, .mov (.t 4)⟩,
  ⟨(some 18), none, .idxs 7 (.t 16) (.t 17)⟩,
  ⟨(some 19), none, .load 7 true (.t 18)⟩,
  ⟨(some 20), none, .call (.c (.fn Fn.laws_toLink [] [])) [.t 19]⟩,
  ⟨(some 21), none, .idxs 7 (.t 14) (.t 15)⟩,
  ⟨none, none, .store 7 (.t 21) (.t 20)⟩])) (.reg [⟨(some 12), none, .mov (.t 4)⟩,
  ⟨(some 13), none, .bin .add (.num) (.t 12) (.c (.int .i64 1))⟩,
  ⟨(some 4), none, .mov (.t 13)⟩])))))) (.seq (.reg [⟨(some 22), none, .mov (.t 3)⟩,
  ⟨(some 2), none, .mov (.t 22)⟩]) (.ret))))
def laws_toLinkS_r : List RS := [.t 2]
def laws_toLinkS_s0 (t0 t3 t4 : AV) (loc : List (List AV)) (h : AH) : St := ⟨[t0, .any, .any, t3, t4, .any, .any, .any, .any, .any, .any, .any, .any, .any, .any, .any, .any, .any, .any, .any, .any, .any, .any], loc, h⟩
theorem laws_toLinkS_e {a0 : AV} {h : AH} {K : AV → AH → Prop} (hw : TC Try.prog Θ Γ laws_toLinkS_c (retQ laws_toLinkS_r K) ⟨[a0, u, u, u, u, u, u, u, u, u, u, u, u, u, u, u, u, u, u, u, u, u, u], [], h⟩) : T Try.prog Γ Fn.laws_toLinkS [a0] h K :=
  T_of_body tabOK Try.func43 (code := bodyOf Try.f43) (by kernel_rfl) (by kernel_rfl) (by kernel_rfl) (by kernel_rfl) hw
def laws_toOutgoingS_c : C := .seq (.reg [⟨(some 2), none, .mov (.c (.nils))⟩]) (.seq (.reg [⟨(some 5), none, .mov (.t 0)⟩,
  ⟨(some 6), none, .len false (.t 5)⟩,
  ⟨(some 7), none, .mks 13 128 [.int .i64 0, .int .i64 0, .int .i64 0, .int .i64 0, .int .i64 0, .str ⟨#[]⟩, .nils, .int .i64 0, .int .i64 0, .int .i64 0, .int .i64 0, .int .i64 0, .int .i64 0] (.t 6) (.t 6)⟩,
  ⟨(some 3), none, .mov (.t 7)⟩]) (.seq (.seq (.reg [⟨(some 4), none, .mov (.c (.int .i64 0))⟩]) (.block 0 (.loop (.seq (.seq (.reg [⟨(some 8), none, .mov (.t 4)⟩,
  ⟨(some 9), none, .mov (.t 0)⟩,
  ⟨(some 10), none, .len false (.t 9)⟩,
  ⟨(some 11), none, .bin .lss (.num) (.t 8) (.t 10)⟩]) (.cond (.t 11) (.skip) (.exit 0))) (.seq (.block 1 (.reg [⟨(some 14), none, .mov (.t 3)⟩,
  ⟨(some 15), none, .mov (.t 4)⟩,
  ⟨(some 16), none, .mov (.t 0)⟩,
  ⟨(some 17), none, .mov (.t 4)⟩,
  ⟨(some 18), none, .idxs 13 (.t 16) (.t 17)⟩,
  ⟨(some 19), none, .load 13 true (.t 18)⟩,
  ⟨(some 20), none, .call (.c (.fn Fn.laws_toOutgoing [] [])) [.t 19]⟩,
  ⟨(some 21), none, .idxs 13 (.t 14) (.t 15)⟩,
  ⟨none, none, .store 13 (.t 21) (.t 20)⟩])) (.reg [⟨(some 12), none, .mov (.t 4)⟩,
  ⟨(some 13), none, .bin .add (.num) (.t 12) (.c (.int .i64 1))⟩,
  ⟨(some 4), none, .mov (.t 13)⟩])))))) (.seq (.reg [⟨(some 22), none, .mov (.t 3)⟩,
  ⟨(some 2), none, .mov (.t 22)⟩]) (.ret))))
def laws_toOutgoingS_r : List RS := [.t 2]
def laws_toOutgoingS_s0 (t0 t3 t4 : AV) (loc : List (List AV)) (h : AH) : St := ⟨[t0, .any, .any, t3, t4, .any, .any, .any, .any, .any, .any, .any, .any, .any, .any, .any, .any, .any, .any, .any, .any, .any, .any], loc, h⟩
theorem laws_toOutgoingS_e {a0 : AV} {h : AH} {K : AV → AH → Prop} (hw : TC Try.prog Θ Γ laws_toOutgoingS_c (retQ laws_toOutgoingS_r K) ⟨[a0, u, u, u, u, u, u, u, u, u, u, u, u, u, u, u, u, u, u, u, u, u, u], [], h⟩) : T Try.prog Γ Fn.laws_toOutgoingS [a0] h K :=
  T_of_body tabOK Try.func44 (code := bodyOf Try.f44) (by kernel_rfl) (by kernel_rfl) (by kernel_rfl) (by kernel_rfl) hw
def impl_Vat_isVat_d0_os : List O := [⟨(some 57), none, .load 12 true (.t 4)⟩,
  ⟨(some 58), none, .mov (.t 0)⟩,
  ⟨(some 59), none, .nilchk (.t 58)⟩,
  ⟨(some 60), none, .fld 1 (.t 59)⟩,
  ⟨(some 61), none, .load 1 false (.t 60)⟩,
  ⟨(some 62), none, .len false (.t 61)⟩,
  ⟨(some 63), none, .call (.c (.fn Fn.impl_IsEntity [] [])) [.t 57, .t 62]⟩,
  ⟨(some 64), none, .un .not (.t 63)⟩,
  ⟨(some 65), none, .mov (.t 64)⟩,
  ⟨(some 66), (some (8, false)), .mov (.t 0)⟩,
  ⟨(some 67), (some (8, false)), .fld 6 (.t 4)⟩,
  ⟨(some 68), (some (8, false)), .load 1 false (.t 67)⟩,
  ⟨(some 69), (some (8, false)), .call (.c (.fn Fn.impl_Vat_sentsOk [] [])) [.t 66, .t 68]⟩,
  ⟨(some 70), (some (8, false)), .un .not (.t 69)⟩,
  ⟨(some 71), none, .pick (.t 65) (.c (.bool true)) (.t 70)⟩]
def impl_Vat_isVat_d0_af : List (List Nat) := [[], [], [1], [2], [3], [4], [0, 5], [6], [7, 6], [8], [8], [10, 8], [9, 11, 8, 8], [12, 8], [8, 13]]
theorem impl_Vat_isVat_d0_q (gl : Gl) (Q : AE → St → Prop) (s : St) : aw Try.prog Θ Γ gl (.regD impl_Vat_isVat_d0_os impl_Vat_isVat_d0_af) Q s = awpT Try.prog Γ gl [⟨(some 57), none, .load 12 true (.t 4)⟩,
  ⟨(some 58), none, .mov (.t 0)⟩,
  ⟨(some 59), none, .nilchk (.t 58)⟩,
  ⟨(some 60), none, .fld 1 (.t 59)⟩,
  ⟨(some 61), none, .load 1 false (.t 60)⟩,
  ⟨(some 62), none, .len false (.t 61)⟩,
  ⟨(some 63), none, .call (.c (.fn Fn.impl_IsEntity [] [])) [.t 57, .t 62]⟩,
  ⟨(some 64), none, .un .not (.t 63)⟩,
  ⟨(some 65), none, .mov (.t 64)⟩,
  ⟨(some 66), (some (8, false)), .mov (.t 0)⟩,
  ⟨(some 67), (some (8, false)), .fld 6 (.t 4)⟩,
  ⟨(some 68), (some (8, false)), .load 1 false (.t 67)⟩,
  ⟨(some 69), (some (8, false)), .call (.c (.fn Fn.impl_Vat_sentsOk [] [])) [.t 66, .t 68]⟩,
  ⟨(some 70), (some (8, false)), .un .not (.t 69)⟩,
  ⟨(some 71), none, .pick (.t 65) (.c (.bool true)) (.t 70)⟩] (Q .normal) 15 (.q 0 (.q 1 (.q 2 (.q 3 (.q 4 (.q 5 (.q 6 (.q 7 (.q 8 (.q 9 (.q 10 (.q 11 (.q 12 (.q 13 (.q 14 (.done)))))))))))))))) s := a_dd rfl (by kernel_rfl) gl Q s
def impl_Vat_isVat_c : C := .seq (.reg [⟨(some 2), none, .mov (.c (.bool false))⟩]) (.seq (.seq (.reg [⟨(some 6), none, .mov (.t 0)⟩,
  ⟨(some 7), none, .nilchk (.t 6)⟩,
  ⟨(some 8), none, .fld 0 (.t 7)⟩,
  ⟨(some 9), none, .load 1 false (.t 8)⟩,
  ⟨(some 10), none, .call (.c (.fn Fn.impl_in [] [])) [.t 9, .c (.int .i64 1), .c (.int .i64 4)]⟩,
  ⟨(some 11), none, .un .not (.t 10)⟩,
  ⟨(some 12), none, .mov (.t 11)⟩,
  ⟨(some 13), (some (6, false)), .mov (.t 0)⟩,
  ⟨(some 14), (some (6, false)), .nilchk (.t 13)⟩,
  ⟨(some 15), (some (6, false)), .fld 1 (.t 14)⟩,
  ⟨(some 16), (some (6, false)), .load 1 false (.t 15)⟩,
  ⟨(some 17), (some (6, false)), .len false (.t 16)⟩,
  ⟨(some 18), (some (6, false)), .call (.c (.fn Fn.impl_in [] [])) [.t 17, .c (.int .i64 1), .c (.int .i64 200)]⟩,
  ⟨(some 19), (some (6, false)), .un .not (.t 18)⟩,
  ⟨(some 20), none, .pick (.t 12) (.c (.bool true)) (.t 19)⟩,
  ⟨(some 21), none, .mov (.t 20)⟩,
  ⟨(some 22), (some (15, false)), .mov (.t 0)⟩,
  ⟨(some 23), (some (15, false)), .nilchk (.t 22)⟩,
  ⟨(some 24), (some (15, false)), .fld 1 (.t 23)⟩,
  ⟨(some 25), (some (15, false)), .load 1 false (.t 24)⟩,
  ⟨(some 26), (some (15, false)), .idxs 12 (.t 25) (.c (.int .i64 0))⟩,
  ⟨(some 27), (some (15, false)), .fld 0 (.t 26)⟩,
  ⟨(some 28), (some (15, false)), .load 1 false (.t 27)⟩,
  ⟨(some 29), (some (15, false)), .bin .neq (.num) (.t 28) (.c (.int .i64 1))⟩,
  ⟨(some 30), none, .pick (.t 21) (.c (.bool true)) (.t 29)⟩,
  ⟨(some 31), none, .mov (.t 30)⟩,
  ⟨(some 32), (some (25, false)), .mov (.t 0)⟩,
  ⟨(some 33), (some (25, false)), .nilchk (.t 32)⟩,
  ⟨(some 34), (some (25, false)), .fld 2 (.t 33)⟩,
  ⟨(some 35), (some (25, false)), .load 1 false (.t 34)⟩,
  ⟨(some 36), (some (25, false)), .len false (.t 35)⟩,
  ⟨(some 37), (some (25, false)), .bin .gtr (.num) (.t 36) (.c (.int .i64 60))⟩,
  ⟨(some 38), none, .pick (.t 31) (.c (.bool true)) (.t 37)⟩,
  ⟨(some 39), none, .mov (.t 38)⟩,
  ⟨(some 40), (some (33, false)), .mov (.t 0)⟩,
  ⟨(some 41), (some (33, false)), .mov (.t 0)⟩,
  ⟨(some 42), (some (33, false)), .nilchk (.t 41)⟩,
  ⟨(some 43), (some (33, false)), .fld 2 (.t 42)⟩,
  ⟨(some 44), (some (33, false)), .load 1 false (.t 43)⟩,
  ⟨(some 45), (some (33, false)), .call (.c (.fn Fn.impl_Vat_sentsOk [] [])) [.t 40, .t 44]⟩,
  ⟨(some 46), (some (33, false)), .un .not (.t 45)⟩,
  ⟨(some 47), none, .pick (.t 39) (.c (.bool true)) (.t 46)⟩]) (.cond (.t 47) (.seq (.reg [⟨(some 2), none, .mov (.c (.bool false))⟩]) (.ret)) (.skip))) (.seq (.seq (.reg [⟨(some 48), none, .mov (.t 0)⟩,
  ⟨(some 49), none, .nilchk (.t 48)⟩,
  ⟨(some 50), none, .fld 1 (.t 49)⟩,
  ⟨(some 51), none, .load 1 false (.t 50)⟩,
  ⟨(some 52), none, .len false (.t 51)⟩,
  ⟨(some 53), none, .mov (.c (.int .i64 0))⟩]) (.block 0 (.loop (.seq (.reg [⟨(some 54), none, .bin .lss (.num) (.t 53) (.t 52)⟩]) (.seq (.cond (.t 54) (.skip) (.exit 0)) (.seq (.block 1 (.seq (.reg [⟨(some 55), none, .idxs 12 (.t 51) (.t 53)⟩,
  ⟨(some 56), none, .load 12 true (.t 55)⟩,
  ⟨(some 4), none, .alloc [.int .i64 0, .int .i64 0, .nils, .int .i64 0, .int .i64 0, .int .i64 0, .nils, .nils, .int .i64 0, .int .i64 0, .int .i64 0, .int .i64 0]⟩,
  ⟨none, none, .store 12 (.t 4) (.t 56)⟩]) (.seq (.regD impl_Vat_isVat_d0_os impl_Vat_isVat_d0_af) (.cond (.t 71) (.seq (.reg [⟨(some 2), none, .mov (.c (.bool false))⟩]) (.ret)) (.skip))))) (.reg [⟨(some 72), none, .bin .add (.num) (.t 53) (.c (.int .i64 1))⟩,
  ⟨(some 53), none, .mov (.t 72)⟩]))))))) (.seq (.seq (.reg [⟨(some 73), none, .mov (.t 0)⟩,
  ⟨(some 74), none, .nilchk (.t 73)⟩,
  ⟨(some 75), none, .fld 3 (.t 74)⟩,
  ⟨(some 76), none, .load 1 false (.t 75)⟩,
  ⟨(some 77), none, .len false (.t 76)⟩,
  ⟨(some 78), none, .mov (.c (.int .i64 0))⟩]) (.block 2 (.loop (.seq (.reg [⟨(some 79), none, .bin .lss (.num) (.t 78) (.t 77)⟩]) (.seq (.cond (.t 79) (.skip) (.exit 2)) (.seq (.block 3 (.seq (.reg [⟨(some 80), none, .mov (.t 78)⟩,
  ⟨(some 5), none, .mov (.t 80)⟩]) (.seq (.reg [⟨(some 81), none, .mov (.t 0)⟩,
  ⟨(some 82), none, .mov (.t 0)⟩,
  ⟨(some 83), none, .nilchk (.t 82)⟩,
  ⟨(some 84), none, .fld 3 (.t 83)⟩,
  ⟨(some 85), none, .load 1 false (.t 84)⟩,
  ⟨(some 86), none, .mov (.t 5)⟩,
  ⟨(some 87), none, .idxs 7 (.t 85) (.t 86)⟩,
  ⟨(some 88), none, .call (.c (.fn Fn.impl_Vat_linkOk [] [])) [.t 81, .t 87]⟩,
  ⟨(some 89), none, .un .not (.t 88)⟩]) (.cond (.t 89) (.seq (.reg [⟨(some 2), none, .mov (.c (.bool false))⟩]) (.ret)) (.skip))))) (.reg [⟨(some 90), none, .bin .add (.num) (.t 78) (.c (.int .i64 1))⟩,
  ⟨(some 78), none, .mov (.t 90)⟩]))))))) (.seq (.reg [⟨(some 2), none, .mov (.c (.bool true))⟩]) (.ret)))))
def impl_Vat_isVat_r : List RS := [.t 2]
def impl_Vat_isVat_s0 (t0 t51 t52 t53 : AV) (loc : List (List AV)) (h : AH) : St := ⟨[t0, .any, .any, .any, .any, .any, .any, .any, .any, .any, .any, .any, .any, .any, .any, .any, .any, .any, .any, .any, .any, .any, .any, .any, .any, .any, .any, .any, .any, .any, .any, .any, .any, .any, .any, .any, .any, .any, .any, .any, .any, .any, .any, .any, .any, .any, .any, .any, .any, .any, .any, t51, t52, t53, .any, .any, .any, .any, .any, .any, .any, .any, .any, .any, .any, .any, .any, .any, .any, .any, .any, .any, .any, .any, .any, .any, .any, .any, .any, .any, .any, .any, .any, .any, .any, .any, .any, .any, .any, .any, .any], loc, h⟩
def impl_Vat_isVat_s1 (t0 t77 t78 : AV) (loc : List (List AV)) (h : AH) : St := ⟨[t0, .any, .any, .any, .any, .any, .any, .any, .any, .any, .any, .any, .any, .any, .any, .any, .any, .any, .any, .any, .any, .any, .any, .any, .any, .any, .any, .any, .any, .any, .any, .any, .any, .any, .any, .any, .any, .any, .any, .any, .any, .any, .any, .any, .any, .any, .any, .any, .any, .any, .any, .any, .any, .any, .any, .any, .any, .any, .any, .any, .any, .any, .any, .any, .any, .any, .any, .any, .any, .any, .any, .any, .any, .any, .any, .any, .any, t77, t78, .any, .any, .any, .any, .any, .any, .any, .any, .any, .any, .any, .any], loc, h⟩
theorem impl_Vat_isVat_e {a0 : AV} {h : AH} {K : AV → AH → Prop} (hw : TC Try.prog Θ Γ impl_Vat_isVat_c (retQ impl_Vat_isVat_r K) ⟨[a0, u, u, u, u, u, u, u, u, u, u, u, u, u, u, u, u, u, u, u, u, u, u, u, u, u, u, u, u, u, u, u, u, u, u, u, u, u, u, u, u, u, u, u, u, u, u, u, u, u, u, u, u, u, u, u, u, u, u, u, u, u, u, u, u, u, u, u, u, u, u, u, u, u, u, u, u, u, u, u, u, u, u, u, u, u, u, u, u, u, u], [], h⟩) : T Try.prog Γ Fn.impl_Vat_isVat [a0] h K :=
  T_of_body tabOK Try.func45 (code := bodyOf Try.f45) (by kernel_rfl) (by kernel_rfl) (by kernel_rfl) (by kernel_rfl) hw
def laws_eqEntityS_d0_os : List O := [⟨(some 17), none, .mov (.t 0)⟩,
  ⟨(some 18), none, .mov (.t 5)⟩,
  ⟨(some 19), none, .idxs 12 (.t 17) (.t 18)⟩,
  ⟨(some 20), none, .load 12 true (.t 19)⟩,
  ⟨(some 21), none, .mov (.t 1)⟩,
  ⟨(some 22), none, .mov (.t 5)⟩,
  ⟨(some 23), none, .idxs 12 (.t 21) (.t 22)⟩,
  ⟨(some 24), none, .load 12 true (.t 23)⟩,
  ⟨(some 25), none, .call (.c (.fn Fn.laws_eqEntity [] [])) [.t 20, .t 24]⟩,
  ⟨(some 26), none, .un .not (.t 25)⟩]
def laws_eqEntityS_d0_af : List (List Nat) := [[], [], [0, 1], [2], [], [], [4, 5], [6], [3, 7], [8]]
theorem laws_eqEntityS_d0_q (gl : Gl) (Q : AE → St → Prop) (s : St) : aw Try.prog Θ Γ gl (.regD laws_eqEntityS_d0_os laws_eqEntityS_d0_af) Q s = awpT Try.prog Γ gl [⟨(some 17), none, .mov (.t 0)⟩,
  ⟨(some 18), none, .mov (.t 5)⟩,
  ⟨(some 19), none, .idxs 12 (.t 17) (.t 18)⟩,
  ⟨(some 20), none, .load 12 true (.t 19)⟩,
  ⟨(some 21), none, .mov (.t 1)⟩,
  ⟨(some 22), none, .mov (.t 5)⟩,
  ⟨(some 23), none, .idxs 12 (.t 21) (.t 22)⟩,
  ⟨(some 24), none, .load 12 true (.t 23)⟩,
  ⟨(some 25), none, .call (.c (.fn Fn.laws_eqEntity [] [])) [.t 20, .t 24]⟩,
  ⟨(some 26), none, .un .not (.t 25)⟩] (Q .normal) 10 (.q 0 (.q 1 (.q 2 (.q 3 (.q 4 (.q 5 (.q 6 (.q 7 (.q 8 (.q 9 (.done))))))))))) s := a_dd rfl (by kernel_rfl) gl Q s
def laws_eqEntityS_c : C := .seq (.reg [⟨(some 4), none, .mov (.c (.bool false))⟩]) (.seq (.seq (.reg [⟨(some 6), none, .mov (.t 0)⟩,
  ⟨(some 7), none, .len false (.t 6)⟩,
  ⟨(some 8), none, .mov (.t 1)⟩,
  ⟨(some 9), none, .len false (.t 8)⟩,
  ⟨(some 10), none, .bin .neq (.num) (.t 7) (.t 9)⟩]) (.cond (.t 10) (.seq (.reg [⟨(some 4), none, .mov (.c (.bool false))⟩]) (.ret)) (.skip))) (.seq (.seq (.reg [⟨(some 5), none, .mov (.c (.int .i64 0))⟩]) (.block 0 (.loop (.seq (.seq (.reg [⟨(some 11), none, .mov (.t 5)⟩,
  ⟨(some 12), none, .mov (.t 0)⟩,
  ⟨(some 13), none, .len false (.t 12)⟩,
  ⟨(some 14), none, .bin .lss (.num) (.t 11) (.t 13)⟩]) (.cond (.t 14) (.skip) (.exit 0))) (.seq (.block 1 (.seq (.regD laws_eqEntityS_d0_os laws_eqEntityS_d0_af) (.cond (.t 26) (.seq (.reg [⟨(some 4), none, .mov (.c (.bool false))⟩]) (.ret)) (.skip)))) (.reg [⟨(some 15), none, .mov (.t 5)⟩,
  ⟨(some 16), none, .bin .add (.num) (.t 15) (.c (.int .i64 1))⟩,
  ⟨(some 5), none, .mov (.t 16)⟩])))))) (.seq (.reg [⟨(some 4), none, .mov (.c (.bool true))⟩]) (.ret))))
def laws_eqEntityS_r : List RS := [.t 4]
def laws_eqEntityS_s0 (t0 t1 t5 : AV) (loc : List (List AV)) (h : AH) : St := ⟨[t0, t1, .any, .any, .any, t5, .any, .any, .any, .any, .any, .any, .any, .any, .any, .any, .any, .any, .any, .any, .any, .any, .any, .any, .any, .any, .any], loc, h⟩
theorem laws_eqEntityS_e {a0 a1 : AV} {h : AH} {K : AV → AH → Prop} (hw : TC Try.prog Θ Γ laws_eqEntityS_c (retQ laws_eqEntityS_r K) ⟨[a0, a1, u, u, u, u, u, u, u, u, u, u, u, u, u, u, u, u, u, u, u, u, u, u, u, u, u], [], h⟩) : T Try.prog Γ Fn.laws_eqEntityS [a0, a1] h K :=
  T_of_body tabOK Try.func46 (code := bodyOf Try.f46) (by kernel_rfl) (by kernel_rfl) (by kernel_rfl) (by kernel_rfl) hw
def laws_eqSentS_d0_os : List O := [⟨(some 17), none, .mov (.t 0)⟩,
  ⟨(some 18), none, .mov (.t 5)⟩,
  ⟨(some 19), none, .idxs 7 (.t 17) (.t 18)⟩,
  ⟨(some 20), none, .load 7 true (.t 19)⟩,
  ⟨(some 21), none, .mov (.t 1)⟩,
  ⟨(some 22), none, .mov (.t 5)⟩,
  ⟨(some 23), none, .idxs 7 (.t 21) (.t 22)⟩,
  ⟨(some 24), none, .load 7 true (.t 23)⟩,
  ⟨(some 25), none, .call (.c (.fn Fn.laws_eqSent [] [])) [.t 20, .t 24]⟩,
  ⟨(some 26), none, .un .not (.t 25)⟩]
def laws_eqSentS_d0_af : List (List Nat) := [[], [], [0, 1], [2], [], [], [4, 5], [6], [3, 7], [8]]
theorem laws_eqSentS_d0_q (gl : Gl) (Q : AE → St → Prop) (s : St) : aw Try.prog Θ Γ gl (.regD laws_eqSentS_d0_os laws_eqSentS_d0_af) Q s = awpT Try.prog Γ gl [⟨(some 17), none, .mov (.t 0)⟩,
  ⟨(some 18), none, .mov (.t 5)⟩,
  ⟨(some 19), none, .idxs 7 (.t 17) (.t 18)⟩,
  ⟨(some 20), none, .load 7 true (.t 19)⟩,
  ⟨(some 21), none, .mov (.t 1)⟩,
  ⟨(some 22), none, .mov (.t 5)⟩,
  ⟨(some 23), none, .idxs 7 (.t 21) (.t 22)⟩,
  ⟨(some 24), none, .load 7 true (.t 23)⟩,
  ⟨(some 25), none, .call (.c (.fn Fn.laws_eqSent [] [])) [.t 20, .t 24]⟩,
  ⟨(some 26), none, .un .not (.t 25)⟩] (Q .normal) 10 (.q 0 (.q 1 (.q 2 (.q 3 (.q 4 (.q 5 (.q 6 (.q 7 (.q 8 (.q 9 (.done))))))))))) s := a_dd rfl (by kernel_rfl) gl Q s
def laws_eqSentS_c : C := .seq (.reg [⟨(some 4), none, .mov (.c (.bool false))⟩]) (.seq (.seq (.reg [⟨(some 6), none, .mov (.t 0)⟩,
  ⟨(some 7), none, .len false (.t 6)⟩,
  ⟨(some 8), none, .mov (.t 1)⟩,
  ⟨(some 9), none, .len false (.t 8)⟩,
  ⟨(some 10), none, .bin .neq (.num) (.t 7) (.t 9)⟩]) (.cond (.t 10) (.seq (.reg [⟨(some 4), none, .mov (.c (.bool false))⟩]) (.ret)) (.skip))) (.seq (.seq (.reg [⟨(some 5), none, .mov (.c (.int .i64 0))⟩]) (.block 0 (.loop (.seq (.seq (.reg [⟨(some 11), none, .mov (.t 5)⟩,
  ⟨(some 12), none, .mov (.t 0)⟩,
  ⟨(some 13), none, .len false (.t 12)⟩,
  ⟨(some 14), none, .bin .lss (.num) (.t 11) (.t 13)⟩]) (.cond (.t 14) (.skip) (.exit 0))) (.seq (.block 1 (.seq (.regD laws_eqSentS_d0_os laws_eqSentS_d0_af) (.cond (.t 26) (.seq (.reg [⟨(some 4), none, .mov (.c (.bool false))⟩]) (.ret)) (.skip)))) (.reg [⟨(some 15), none, .mov (.t 5)⟩,
  ⟨(some 16), none, .bin .add (.num) (.t 15) (.c (.int .i64 1))⟩,
  ⟨(some 5), none, .mov (.t 16)⟩])))))) (.seq (.reg [⟨(some 4), none, .mov (.c (.bool true))⟩]) (.ret))))
def laws_eqSentS_r : List RS := [.t 4]
def laws_eqSentS_s0 (t0 t1 t5 : AV) (loc : List (List AV)) (h : AH) : St := ⟨[t0, t1, .any, .any, .any, t5, .any, .any, .any, .any, .any, .any, .any, .any, .any, .any, .any, .any, .any, .any, .any, .any, .any, .any, .any, .any, .any], loc, h⟩
theorem laws_eqSentS_e {a0 a1 : AV} {h : AH} {K : AV → AH → Prop} (hw : TC Try.prog Θ Γ laws_eqSentS_c (retQ laws_eqSentS_r K) ⟨[a0, a1, u, u, u, u, u, u, u, u, u, u, u, u, u, u, u, u, u, u, u, u, u, u, u, u, u], [], h⟩) : T Try.prog Γ Fn.laws_eqSentS [a0, a1] h K :=
  T_of_body tabOK Try.func47 (code := bodyOf Try.f47) (by kernel_rfl) (by kernel_rfl) (by kernel_rfl) (by kernel_rfl) hw
def laws_eqLinkS_d0_os : List O := [⟨(some 17), none, .mov (.t 0)⟩,
  ⟨(some 18), none, .mov (.t 5)⟩,
  ⟨(some 19), none, .idxs 7 (.t 17) (.t 18)⟩,
  ⟨(some 20), none, .load 7 true (.t 19)⟩,
  ⟨(some 21), none, .mov (.t 1)⟩,
  ⟨(some 22), none, .mov (.t 5)⟩,
  ⟨(some 23), none, .idxs 7 (.t 21) (.t 22)⟩,
  ⟨(some 24), none, .load 7 true (.t 23)⟩,
  ⟨(some 25), none, .call (.c (.fn Fn.laws_eqLink [] [])) [.t 20, .t 24]⟩,
  ⟨(some 26), none, .un .not (.t 25)⟩]
def laws_eqLinkS_d0_af : List (List Nat) := [[], [], [0, 1], [2], [], [], [4, 5], [6], [3, 7], [8]]
theorem laws_eqLinkS_d0_q (gl : Gl) (Q : AE → St → Prop) (s : St) : aw Try.prog Θ Γ gl (.regD laws_eqLinkS_d0_os laws_eqLinkS_d0_af) Q s = awpT Try.prog Γ gl [⟨(some 17), none, .mov (.t 0)⟩,
  ⟨(some 18), none, .mov (.t 5)⟩,
  ⟨(some 19), none, .idxs 7 (.t 17) (.t 18)⟩,
  ⟨(some 20), none, .load 7 true (.t 19)⟩,
  ⟨(some 21), none, .mov (.t 1)⟩,
  ⟨(some 22), none, .mov (.t 5)⟩,
  ⟨(some 23), none, .idxs 7 (.t 21) (.t 22)⟩,
  ⟨(some 24), none, .load 7 true (.t 23)⟩,
  ⟨(some 25), none, .call (.c (.fn Fn.laws_eqLink [] [])) [.t 20, .t 24]⟩,
  ⟨(some 26), none, .un .not (.t 25)⟩] (Q .normal) 10 (.q 0 (.q 1 (.q 2 (.q 3 (.q 4 (.q 5 (.q 6 (.q 7 (.q 8 (.q 9 (.done))))))))))) s := a_dd rfl (by kernel_rfl) gl Q s
def laws_eqLinkS_c : C := .seq (.reg [⟨(some 4), none, .mov (.c (.bool false))⟩]) (.seq (.seq (.reg [⟨(some 6), none, .mov (.t 0)⟩,
  ⟨(some 7), none, .len false (.t 6)⟩,
  ⟨(some 8), none, .mov (.t 1)⟩,
  ⟨(some 9), none, .len false (.t 8)⟩,
  ⟨(some 10), none, .bin .neq (.num) (.t 7) (.t 9)⟩]) (.cond (.t 10) (.seq (.reg [⟨(some 4), none, .mov (.c (.bool false))⟩]) (.ret)) (.skip))) (.seq (.seq (.reg [⟨(some 5), none, .mov (.c (.int .i64 0))⟩]) (.block 0 (.loop (.seq (.seq (.reg [⟨(some 11), none, .mov (.t 5)⟩,
  ⟨(some 12), none, .mov (.t 0)⟩,
  ⟨(some 13), none, .len false (.t 12)⟩,
  ⟨(some 14), none, .bin .lss (.num) (.t 11) (.t 13)⟩]) (.cond (.t 14) (.skip) (.exit 0))) (.seq (.block 1 (.seq (.regD laws_eqLinkS_d0_os laws_eqLinkS_d0_af) (.cond (.t 26) (.seq (.reg [⟨(some 4), none, .mov (.c (.bool false))⟩]) (.ret)) (.skip)))) (.reg [⟨(some 15), none, .mov (.t 5)⟩,
  ⟨(some 16), none, .bin .add (.num) (.t 15) (.c (.int .i64 1))⟩,
  ⟨(some 5), none, .mov (.t 16)⟩])))))) (.seq (.reg [⟨(some 4), none, .mov (.c (.bool true))⟩]) (.ret))))
def laws_eqLinkS_r : List RS := [.t 4]
def laws_eqLinkS_s0 (t0 t1 t5 : AV) (loc : List (List AV)) (h : AH) : St := ⟨[t0, t1, .any, .any, .any, t5, .any, .any, .any, .any, .any, .any, .any, .any, .any, .any, .any, .any, .any, .any, .any, .any, .any, .any, .any, .any, .any], loc, h⟩
theorem laws_eqLinkS_e {a0 a1 : AV} {h : AH} {K : AV → AH → Prop} (hw : TC Try.prog Θ Γ laws_eqLinkS_c (retQ laws_eqLinkS_r K) ⟨[a0, a1, u, u, u, u, u, u, u, u, u, u, u, u, u, u, u, u, u, u, u, u, u, u, u, u, u], [], h⟩) : T Try.prog Γ Fn.laws_eqLinkS [a0, a1] h K :=
  T_of_body tabOK Try.func48 (code := bodyOf Try.f48) (by kernel_rfl) (by kernel_rfl) (by kernel_rfl) (by kernel_rfl) hw
def laws_eqOutgoingS_d0_os : List O := [⟨(some 17), none, .mov (.t 0)⟩,
  ⟨(some 18), none, .mov (.t 5)⟩,
  ⟨(some 19), none, .idxs 13 (.t 17) (.t 18)⟩,
  ⟨(some 20), none, .load 13 true (.t 19)⟩,
  ⟨(some 21), none, .mov (.t 1)⟩,
  ⟨(some 22), none, .mov (.t 5)⟩,
  ⟨(some 23), none, .idxs 13 (.t 21) (.t 22)⟩,
  ⟨(some 24), none, .load 13 true (.t 23)⟩,
  ⟨(some 25), none, .call (.c (.fn Fn.laws_eqOutgoing [] [])) [.t 20, .t 24]⟩,
  ⟨(some 26), none, .un .not (.t 25)⟩]
def laws_eqOutgoingS_d0_af : List (List Nat) := [[], [], [0, 1], [2], [], [], [4, 5], [6], [3, 7], [8]]
theorem laws_eqOutgoingS_d0_q (gl : Gl) (Q : AE → St → Prop) (s : St) : aw Try.prog Θ Γ gl (.regD laws_eqOutgoingS_d0_os laws_eqOutgoingS_d0_af) Q s = awpT Try.prog Γ gl [⟨(some 17), none, .mov (.t 0)⟩,
  ⟨(some 18), none, .mov (.t 5)⟩,
  ⟨(some 19), none, .idxs 13 (.t 17) (.t 18)⟩,
  ⟨(some 20), none, .load 13 true (.t 19)⟩,
  ⟨(some 21), none, .mov (.t 1)⟩,
  ⟨(some 22), none, .mov (.t 5)⟩,
  ⟨(some 23), none, .idxs 13 (.t 21) (.t 22)⟩,
  ⟨(some 24), none, .load 13 true (.t 23)⟩,
  ⟨(some 25), none, .call (.c (.fn Fn.laws_eqOutgoing [] [])) [.t 20, .t 24]⟩,
  ⟨(some 26), none, .un .not (.t 25)⟩] (Q .normal) 10 (.q 0 (.q 1 (.q 2 (.q 3 (.q 4 (.q 5 (.q 6 (.q 7 (.q 8 (.q 9 (.done))))))))))) s := a_dd rfl (by kernel_rfl) gl Q s
def laws_eqOutgoingS_c : C := .seq (.reg [⟨(some 4), none, .mov (.c (.bool false))⟩]) (.seq (.seq (.reg [⟨(some 6), none, .mov (.t 0)⟩,
  ⟨(some 7), none, .len false (.t 6)⟩,
  ⟨(some 8), none, .mov (.t 1)⟩,
  ⟨(some 9), none, .len false (.t 8)⟩,
  ⟨(some 10), none, .bin .neq (.num) (.t 7) (.t 9)⟩]) (.cond (.t 10) (.seq (.reg [⟨(some 4), none, .mov (.c (.bool false))⟩]) (.ret)) (.skip))) (.seq (.seq (.reg [⟨(some 5), none, .mov (.c (.int .i64 0))⟩]) (.block 0 (.loop (.seq (.seq (.reg [⟨(some 11), none, .mov (.t 5)⟩,
  ⟨(some 12), none, .mov (.t 0)⟩,
  ⟨(some 13), none, .len false (.t 12)⟩,
  ⟨(some 14), none, .bin .lss (.num) (.t 11) (.t 13)⟩]) (.cond (.t 14) (.skip) (.exit 0))) (.seq (.block 1 (.seq (.regD laws_eqOutgoingS_d0_os laws_eqOutgoingS_d0_af) (.cond (.t 26) (.seq (.reg [⟨(some 4), none, .mov (.c (.bool false))⟩]) (.ret)) (.skip)))) (.reg [⟨(some 15), none, .mov (.t 5)⟩,
  ⟨(some 16), none, .bin .add (.num) (.t 15) (.c (.int .i64 1))⟩,
  ⟨(some 5), none, .mov (.t 16)⟩])))))) (.seq (.reg [⟨(some 4), none, .mov (.c (.bool true))⟩]) (.ret))))
def laws_eqOutgoingS_r : List RS := [.t 4]
def laws_eqOutgoingS_s0 (t0 t1 t5 : AV) (loc : List (List AV)) (h : AH) : St := ⟨[t0, t1, .any, .any, .any, t5, .any, .any, .any, .any, .any, .any, .any, .any, .any, .any, .any, .any, .any, .any, .any, .any, .any, .any, .any, .any, .any], loc, h⟩
theorem laws_eqOutgoingS_e {a0 a1 : AV} {h : AH} {K : AV → AH → Prop} (hw : TC Try.prog Θ Γ laws_eqOutgoingS_c (retQ laws_eqOutgoingS_r K) ⟨[a0, a1, u, u, u, u, u, u, u, u, u, u, u, u, u, u, u, u, u, u, u, u, u, u, u, u, u], [], h⟩) : T Try.prog Γ Fn.laws_eqOutgoingS [a0, a1] h K :=
  T_of_body tabOK Try.func49 (code := bodyOf Try.f49) (by kernel_rfl) (by kernel_rfl) (by kernel_rfl) (by kernel_rfl) hw
def laws_szEntity_c : C := .seq (.reg [⟨(some 2), none, .box (.t 0)⟩,
  ⟨(some 4), none, .mov (.c (.int .i64 0))⟩]) (.seq (.reg [⟨(some 5), none, .fld 2 (.t 2)⟩,
  ⟨(some 6), none, .load 1 false (.t 5)⟩,
  ⟨(some 7), none, .mov (.t 1)⟩,
  ⟨(some 8), none, .call (.c (.fn Fn.laws_szValueS [] [])) [.t 6, .t 7]⟩,
  ⟨(some 1), none, .mov (.t 8)⟩]) (.seq (.seq (.reg [⟨(some 9), none, .mov (.t 1)⟩,
  ⟨(some 10), none, .bin .lss (.num) (.t 9) (.c (.int .i64 0))⟩]) (.cond (.t 10) (.seq (.reg [⟨(some 4), none, .mov (.c (.int .i64 (-1)))⟩]) (.ret)) (.skip))) (.seq (.reg [⟨(some 11), none, .fld 6 (.t 2)⟩,
  ⟨(some 12), none, .load 1 false (.t 11)⟩,
  ⟨(some 13), none, .mov (.t 1)⟩,
  ⟨(some 14), none, .call (.c (.fn Fn.laws_szSentS [] [])) [.t 12, .t 13]⟩,
  ⟨(some 1), none, .mov (.t 14)⟩]) (.seq (.seq (.reg [⟨(some 15), none, .mov (.t 1)⟩,
  ⟨(some 16), none, .bin .lss (.num) (.t 15) (.c (.int .i64 0))⟩]) (.cond (.t 16) (.seq (.reg [⟨(some 4), none, .mov (.c (.int .i64 (-1)))⟩]) (.ret)) (.skip))) (.seq (.reg [⟨(some 17), none, .fld 7 (.t 2)⟩,
  ⟨(some 18), none, .load 1 false (.t 17)⟩,
  ⟨(some 19), none, .mov (.t 1)⟩,
  ⟨(some 20), none, .call (.c (.fn Fn.laws_szAskerS [] [])) [.t 18, .t 19]⟩,
  ⟨(some 1), none, .mov (.t 20)⟩]) (.seq (.seq (.reg [⟨(some 21), none, .mov (.t 1)⟩,
  ⟨(some 22), none, .bin .lss (.num) (.t 21) (.c (.int .i64 0))⟩]) (.cond (.t 22) (.seq (.reg [⟨(some 4), none, .mov (.c (.int .i64 (-1)))⟩]) (.ret)) (.skip))) (.seq (.reg [⟨(some 23), none, .mov (.t 1)⟩,
  ⟨(some 4), none, .mov (.t 23)⟩]) (.ret))))))))
def laws_szEntity_r : List RS := [.t 4]
theorem laws_szEntity_e {a0 a1 : AV} {h : AH} {K : AV → AH → Prop} (hw : TC Try.prog Θ Γ laws_szEntity_c (retQ laws_szEntity_r K) ⟨[a0, a1, u, u, u, u, u, u, u, u, u, u, u, u, u, u, u, u, u, u, u, u, u, u], [], h⟩) : T Try.prog Γ Fn.laws_szEntity [a0, a1] h K :=
  T_of_body tabOK Try.func59 (code := bodyOf Try.f59) (by kernel_rfl) (by kernel_rfl) (by kernel_rfl) (by kernel_rfl) hw
def laws_szSent_c : C := .seq (.reg [⟨(some 2), none, .box (.t 0)⟩,
  ⟨(some 4), none, .mov (.c (.int .i64 0))⟩]) (.seq (.reg [⟨(some 5), none, .mov (.t 1)⟩,
  ⟨(some 6), none, .fld 1 (.t 2)⟩,
  ⟨(some 7), none, .load 1 false (.t 6)⟩,
  ⟨(some 8), none, .len true (.t 7)⟩,
  ⟨(some 9), none, .bin .sub (.num) (.t 5) (.t 8)⟩,
  ⟨(some 1), none, .mov (.t 9)⟩]) (.seq (.seq (.reg [⟨(some 10), none, .mov (.t 1)⟩,
  ⟨(some 11), none, .bin .lss (.num) (.t 10) (.c (.int .i64 0))⟩]) (.cond (.t 11) (.seq (.reg [⟨(some 4), none, .mov (.c (.int .i64 (-1)))⟩]) (.ret)) (.skip))) (.seq (.reg [⟨(some 12), none, .fld 2 (.t 2)⟩,
  ⟨(some 13), none, .load 1 false (.t 12)⟩,
  ⟨(some 14), none, .mov (.t 1)⟩,
  ⟨(some 15), none, .call (.c (.fn Fn.laws_szValueS [] [])) [.t 13, .t 14]⟩,
  ⟨(some 1), none, .mov (.t 15)⟩]) (.seq (.seq (.reg [⟨(some 16), none, .mov (.t 1)⟩,
  ⟨(some 17), none, .bin .lss (.num) (.t 16) (.c (.int .i64 0))⟩]) (.cond (.t 17) (.seq (.reg [⟨(some 4), none, .mov (.c (.int .i64 (-1)))⟩]) (.ret)) (.skip))) (.seq (.reg [⟨(some 18), none, .mov (.t 1)⟩,
  ⟨(some 4), none, .mov (.t 18)⟩]) (.ret))))))
def laws_szSent_r : List RS := [.t 4]
theorem laws_szSent_e {a0 a1 : AV} {h : AH} {K : AV → AH → Prop} (hw : TC Try.prog Θ Γ laws_szSent_c (retQ laws_szSent_r K) ⟨[a0, a1, u, u, u, u, u, u, u, u, u, u, u, u, u, u, u, u, u], [], h⟩) : T Try.prog Γ Fn.laws_szSent [a0, a1] h K :=
  T_of_body tabOK Try.func60 (code := bodyOf Try.f60) (by kernel_rfl) (by kernel_rfl) (by kernel_rfl) (by kernel_rfl) hw
def laws_szLink_c : C := .seq (.reg [⟨(some 2), none, .box (.t 0)⟩,
  ⟨(some 4), none, .mov (.c (.int .i64 0))⟩]) (.seq (.reg [⟨(some 5), none, .fld 2 (.t 2)⟩,
  ⟨(some 6), none, .load 1 false (.t 5)⟩,
  ⟨(some 7), none, .mov (.t 1)⟩,
  ⟨(some 8), none, .call (.c (.fn Fn.laws_szExportS [] [])) [.t 6, .t 7]⟩,
  ⟨(some 1), none, .mov (.t 8)⟩]) (.seq (.seq (.reg [⟨(some 9), none, .mov (.t 1)⟩,
  ⟨(some 10), none, .bin .lss (.num) (.t 9) (.c (.int .i64 0))⟩]) (.cond (.t 10) (.seq (.reg [⟨(some 4), none, .mov (.c (.int .i64 (-1)))⟩]) (.ret)) (.skip))) (.seq (.reg [⟨(some 11), none, .fld 4 (.t 2)⟩,
  ⟨(some 12), none, .load 1 false (.t 11)⟩,
  ⟨(some 13), none, .mov (.t 1)⟩,
  ⟨(some 14), none, .call (.c (.fn Fn.laws_szQuestionS [] [])) [.t 12, .t 13]⟩,
  ⟨(some 1), none, .mov (.t 14)⟩]) (.seq (.seq (.reg [⟨(some 15), none, .mov (.t 1)⟩,
  ⟨(some 16), none, .bin .lss (.num) (.t 15) (.c (.int .i64 0))⟩]) (.cond (.t 16) (.seq (.reg [⟨(some 4), none, .mov (.c (.int .i64 (-1)))⟩]) (.ret)) (.skip))) (.seq (.reg [⟨(some 17), none, .fld 6 (.t 2)⟩,
  ⟨(some 18), none, .load 1 false (.t 17)⟩,
  ⟨(some 19), none, .mov (.t 1)⟩,
  ⟨(some 20), none, .call (.c (.fn Fn.laws_szQuestionS [] [])) [.t 18, .t 19]⟩,
  ⟨(some 1), none, .mov (.t 20)⟩]) (.seq (.seq (.reg [⟨(some 21), none, .mov (.t 1)⟩,
  ⟨(some 22), none, .bin .lss (.num) (.t 21) (.c (.int .i64 0))⟩]) (.cond (.t 22) (.seq (.reg [⟨(some 4), none, .mov (.c (.int .i64 (-1)))⟩]) (.ret)) (.skip))) (.seq (.reg [⟨(some 23), none, .mov (.t 1)⟩,
  ⟨(some 4), none, .mov (.t 23)⟩]) (.ret))))))))
def laws_szLink_r : List RS := [.t 4]
theorem laws_szLink_e {a0 a1 : AV} {h : AH} {K : AV → AH → Prop} (hw : TC Try.prog Θ Γ laws_szLink_c (retQ laws_szLink_r K) ⟨[a0, a1, u, u, u, u, u, u, u, u, u, u, u, u, u, u, u, u, u, u, u, u, u, u], [], h⟩) : T Try.prog Γ Fn.laws_szLink [a0, a1] h K :=
  T_of_body tabOK Try.func61 (code := bodyOf Try.f61) (by kernel_rfl) (by kernel_rfl) (by kernel_rfl) (by kernel_rfl) hw
def laws_szOutgoing_c : C := .seq (.reg [⟨(some 2), none, .box (.t 0)⟩,
  ⟨(some 4), none, .mov (.c (.int .i64 0))⟩]) (.seq (.reg [⟨(some 5), none, .fld 1 (.t 2)⟩,
  ⟨(some 6), none, .load 12 true (.t 5)⟩,
  ⟨(some 7), none, .mov (.t 1)⟩,
  ⟨(some 8), none, .call (.c (.fn Fn.laws_szMessage [] [])) [.t 6, .t 7]⟩,
  ⟨(some 1), none, .mov (.t 8)⟩]) (.seq (.seq (.reg [⟨(some 9), none, .mov (.t 1)⟩,
  ⟨(some 10), none, .bin .lss (.num) (.t 9) (.c (.int .i64 0))⟩]) (.cond (.t 10) (.seq (.reg [⟨(some 4), none, .mov (.c (.int .i64 (-1)))⟩]) (.ret)) (.skip))) (.seq (.reg [⟨(some 11), none, .mov (.t 1)⟩,
  ⟨(some 4), none, .mov (.t 11)⟩]) (.ret))))
def laws_szOutgoing_r : List RS := [.t 4]
theorem laws_szOutgoing_e {a0 a1 : AV} {h : AH} {K : AV → AH → Prop} (hw : TC Try.prog Θ Γ laws_szOutgoing_c (retQ laws_szOutgoing_r K) ⟨[a0, a1, u, u, u, u, u, u, u, u, u, u], [], h⟩) : T Try.prog Γ Fn.laws_szOutgoing [a0, a1] h K :=
  T_of_body tabOK Try.func62 (code := bodyOf Try.f62) (by kernel_rfl) (by kernel_rfl) (by kernel_rfl) (by kernel_rfl) hw
def spec_AreValues_c : C := .seq (.reg [⟨(some 4), none, .mov (.c (.bool false))⟩]) (.seq (.seq (.reg [⟨(some 5), none, .mov (.c (.int .i64 0))⟩]) (.block 0 (.loop (.seq (.seq (.reg [⟨(some 6), none, .mov (.t 5)⟩,
  ⟨(some 7), none, .mov (.t 0)⟩,
  ⟨(some 8), none, .len false (.t 7)⟩,
  ⟨(some 9), none, .bin .lss (.num) (.t 6) (.t 8)⟩]) (.cond (.t 9) (.skip) (.exit 0))) (.seq (.block 1 (.seq (.reg [⟨(some 12), none, .mov (.t 0)⟩,
  ⟨(some 13), none, .mov (.t 5)⟩,
  ⟨(some 14), none, .idxs 2 (.t 12) (.t 13)⟩,
  ⟨(some 15), none, .load 2 true (.t 14)⟩,
  ⟨(some 16), none, .mov (.t 1)⟩,
  ⟨(some 17), none, .call (.c (.fn Fn.spec_IsValue [] [])) [.t 15, .t 16]⟩,
  ⟨(some 18), none, .un .not (.t 17)⟩]) (.cond (.t 18) (.seq (.reg [⟨(some 4), none, .mov (.c (.bool false))⟩]) (.ret)) (.skip)))) (.reg [⟨(some 10), none, .mov (.t 5)⟩,
  ⟨(some 11), none, .bin .add (.num) (.t 10) (.c (.int .i64 1))⟩,
  ⟨(some 5), none, .mov (.t 11)⟩])))))) (.seq (.reg [⟨(some 4), none, .mov (.c (.bool true))⟩]) (.ret)))
def spec_AreValues_r : List RS := [.t 4]
def spec_AreValues_s0 (t0 t1 t5 : AV) (loc : List (List AV)) (h : AH) : St := ⟨[t0, t1, .any, .any, .any, t5, .any, .any, .any, .any, .any, .any, .any, .any, .any, .any, .any, .any, .any], loc, h⟩
theorem spec_AreValues_e {a0 a1 : AV} {h : AH} {K : AV → AH → Prop} (hw : TC Try.prog Θ Γ spec_AreValues_c (retQ spec_AreValues_r K) ⟨[a0, a1, u, u, u, u, u, u, u, u, u, u, u, u, u, u, u, u, u], [], h⟩) : T Try.prog Γ Fn.spec_AreValues [a0, a1] h K :=
  T_of_body tabOK Try.func63 (code := bodyOf Try.f63) (by kernel_rfl) (by kernel_rfl) (by kernel_rfl) (by kernel_rfl) hw
def spec_l9Promise_c : C := .seq (.reg [⟨(some 2), none, .box (.t 0)⟩,
  ⟨(some 4), none, .mov (.c (.bool false))⟩]) (.seq (.reg [⟨(some 7), none, .fld 3 (.t 2)⟩,
  ⟨(some 8), none, .load 1 false (.t 7)⟩,
  ⟨(some 9), none, .bin .eql (.num) (.t 8) (.c (.int .i64 2))⟩,
  ⟨(some 10), none, .mov (.t 9)⟩,
  ⟨(some 11), (some (3, false)), .fld 3 (.t 2)⟩,
  ⟨(some 12), (some (3, false)), .load 1 false (.t 11)⟩,
  ⟨(some 13), (some (3, false)), .bin .eql (.num) (.t 12) (.c (.int .i64 4))⟩,
  ⟨(some 14), none, .pick (.t 10) (.c (.bool true)) (.t 13)⟩,
  ⟨(some 5), none, .mov (.t 14)⟩]) (.seq (.reg [⟨(some 15), none, .fld 3 (.t 2)⟩,
  ⟨(some 16), none, .load 1 false (.t 15)⟩,
  ⟨(some 17), none, .bin .eql (.num) (.t 16) (.c (.int .i64 3))⟩,
  ⟨(some 18), none, .mov (.t 17)⟩,
  ⟨(some 19), (some (3, false)), .fld 3 (.t 2)⟩,
  ⟨(some 20), (some (3, false)), .load 1 false (.t 19)⟩,
  ⟨(some 21), (some (3, false)), .bin .eql (.num) (.t 20) (.c (.int .i64 4))⟩,
  ⟨(some 22), none, .pick (.t 18) (.c (.bool true)) (.t 21)⟩,
  ⟨(some 6), none, .mov (.t 22)⟩]) (.seq (.seq (.reg [⟨(some 23), none, .fld 3 (.t 2)⟩,
  ⟨(some 24), none, .load 1 false (.t 23)⟩,
  ⟨(some 25), none, .call (.c (.fn Fn.spec_l1In [] [])) [.t 24, .c (.int .i64 1), .c (.int .i64 4)]⟩,
  ⟨(some 26), none, .un .not (.t 25)⟩,
  ⟨(some 27), none, .mov (.t 26)⟩,
  ⟨(some 28), (some (4, false)), .mov (.t 5)⟩,
  ⟨(some 29), (some (4, false)), .mov (.t 28)⟩,
  ⟨(some 30), (some (6, true)), .fld 4 (.t 2)⟩,
  ⟨(some 31), (some (6, true)), .load 2 true (.t 30)⟩,
  ⟨(some 32), (some (6, true)), .mov (.t 1)⟩,
  ⟨(some 33), (some (6, true)), .call (.c (.fn Fn.spec_IsValue [] [])) [.t 31, .t 32]⟩,
  ⟨(some 34), (some (6, true)), .un .not (.t 33)⟩,
  ⟨(some 35), (some (4, false)), .pick (.t 29) (.t 34) (.c (.bool false))⟩,
  ⟨(some 36), none, .pick (.t 27) (.c (.bool true)) (.t 35)⟩,
  ⟨(some 37), none, .mov (.t 36)⟩,
  ⟨(some 38), (some (14, false)), .mov (.t 5)⟩,
  ⟨(some 39), (some (14, false)), .un .not (.t 38)⟩,
  ⟨(some 40), (some (14, false)), .mov (.t 39)⟩,
  ⟨(some 41), (some (17, true)), .fld 4 (.t 2)⟩,
  ⟨(some 42), (some (17, true)), .load 2 true (.t 41)⟩,
  ⟨(some 43), (some (17, true)), .build [.int .i64 0, .int .i64 0] []⟩,
  ⟨(some 44), (some (17, true)), .bin .neq (.agg [.int .i64, .int .i64]) (.t 42) (.t 43)⟩,
  ⟨(some 45), (some (14, false)), .pick (.t 40) (.t 44) (.c (.bool false))⟩,
  ⟨(some 46), none, .pick (.t 37) (.c (.bool true)) (.t 45)⟩]) (.cond (.t 46) (.seq (.reg [⟨(some 4), none, .mov (.c (.bool false))⟩]) (.ret)) (.skip))) (.seq (.seq (.reg [⟨(some 47), none, .mov (.t 6)⟩,
  ⟨(some 48), none, .mov (.t 47)⟩,
  ⟨(some 49), (some (1, true)), .fld 8 (.t 2)⟩,
  ⟨(some 50), (some (1, true)), .load 1 false (.t 49)⟩,
  ⟨(some 51), (some (1, true)), .call (.c (.fn Fn.spec_l1In [] [])) [.t 50, .c (.int .i64 1), .c (.int .i64 4)]⟩,
  ⟨(some 52), (some (1, true)), .un .not (.t 51)⟩,
  ⟨(some 53), (some (1, true)), .mov (.t 52)⟩,
  ⟨(some 54), (some (6, false)), .fld 9 (.t 2)⟩,
  ⟨(some 55), (some (6, false)), .load 1 false (.t 54)⟩,
  ⟨(some 56), (some (6, false)), .call (.c (.fn Fn.spec_l1In [] [])) [.t 55, .c (.int .i64 1), .c (.int .i64 999999)]⟩,
  ⟨(some 57), (some (6, false)), .un .not (.t 56)⟩,
  ⟨(some 58), (some (1, true)), .pick (.t 53) (.c (.bool true)) (.t 57)⟩,
  ⟨(some 59), (some (1, true)), .mov (.t 58)⟩,
  ⟨(some 60), (some (12, false)), .fld 10 (.t 2)⟩,
  ⟨(some 61), (some (12, false)), .load 1 false (.t 60)⟩,
  ⟨(some 62), (some (12, false)), .call (.c (.fn Fn.spec_l1In [] [])) [.t 61, .c (.int .i64 0), .c (.int .i64 999999)]⟩,
  ⟨(some 63), (some (12, false)), .un .not (.t 62)⟩,
  ⟨(some 64), (some (1, true)), .pick (.t 59) (.c (.bool true)) (.t 63)⟩,
  ⟨(some 65), none, .pick (.t 48) (.t 64) (.c (.bool false))⟩,
  ⟨(some 66), none, .mov (.t 65)⟩,
  ⟨(some 67), (some (19, false)), .mov (.t 6)⟩,
  ⟨(some 68), (some (19, false)), .un .not (.t 67)⟩,
  ⟨(some 69), (some (19, false)), .mov (.t 68)⟩,
  ⟨(some 70), (some (22, true)), .fld 8 (.t 2)⟩,
  ⟨(some 71), (some (22, true)), .load 1 false (.t 70)⟩,
  ⟨(some 72), (some (22, true)), .bin .neq (.num) (.t 71) (.c (.int .i64 0))⟩,
  ⟨(some 73), (some (22, true)), .mov (.t 72)⟩,
  ⟨(some 74), (some (26, false)), .fld 9 (.t 2)⟩,
  ⟨(some 75), (some (26, false)), .load 1 false (.t 74)⟩,
  ⟨(some 76), (some (26, false)), .bin .neq (.num) (.t 75) (.c (.int .i64 0))⟩,
  ⟨(some 77), (some (22, true)), .pick (.t 73) (.c (.bool true)) (.t 76)⟩,
  ⟨(some 78), (some (22, true)), .mov (.t 77)⟩,
  ⟨(some 79), (some (31, false)), .fld 10 (.t 2)⟩,
  ⟨(some 80), (some (31, false)), .load 1 false (.t 79)⟩,
  ⟨(some 81), (some (31, false)), .bin .neq (.num) (.t 80) (.c (.int .i64 0))⟩,
  ⟨(some 82), (some (22, true)), .pick (.t 78) (.c (.bool true)) (.t 81)⟩,
  ⟨(some 83), (some (19, false)), .pick (.t 69) (.t 82) (.c (.bool false))⟩,
  ⟨(some 84), none, .pick (.t 66) (.c (.bool true)) (.t 83)⟩]) (.cond (.t 84) (.seq (.reg [⟨(some 4), none, .mov (.c (.bool false))⟩]) (.ret)) (.skip))) (.seq (.seq (.reg [⟨(some 85), none, .fld 6 (.t 2)⟩,
  ⟨(some 86), none, .load 1 false (.t 85)⟩,
  ⟨(some 87), none, .len false (.t 86)⟩,
  ⟨(some 88), none, .bin .gtr (.num) (.t 87) (.c (.int .i64 40))⟩,
  ⟨(some 89), none, .mov (.t 88)⟩,
  ⟨(some 90), (some (4, false)), .fld 6 (.t 2)⟩,
  ⟨(some 91), (some (4, false)), .load 1 false (.t 90)⟩,
  ⟨(some 92), (some (4, false)), .len false (.t 91)⟩,
  ⟨(some 93), (some (4, false)), .bin .gtr (.num) (.t 92) (.c (.int .i64 0))⟩,
  ⟨(some 94), (some (4, false)), .mov (.t 93)⟩,
  ⟨(some 95), (some (9, true)), .fld 3 (.t 2)⟩,
  ⟨(some 96), (some (9, true)), .load 1 false (.t 95)⟩,
  ⟨(some 97), (some (9, true)), .bin .neq (.num) (.t 96) (.c (.int .i64 1))⟩,
  ⟨(some 98), (some (4, false)), .pick (.t 94) (.t 97) (.c (.bool false))⟩,
  ⟨(some 99), (some (4, false)), .mov (.t 98)⟩,
  ⟨(some 100), (some (14, true)), .fld 3 (.t 2)⟩,
  ⟨(some 101), (some (14, true)), .load 1 false (.t 100)⟩,
  ⟨(some 102), (some (14, true)), .bin .neq (.num) (.t 101) (.c (.int .i64 4))⟩,
  ⟨(some 103), (some (4, false)), .pick (.t 99) (.t 102) (.c (.bool false))⟩,
  ⟨(some 104), none, .pick (.t 89) (.c (.bool true)) (.t 103)⟩]) (.cond (.t 104) (.seq (.reg [⟨(some 4), none, .mov (.c (.bool false))⟩]) (.ret)) (.skip))) (.seq (.reg [⟨(some 105), none, .fld 1 (.t 2)⟩,
  ⟨(some 106), none, .load 1 false (.t 105)⟩,
  ⟨(some 107), none, .bin .eql (.num) (.t 106) (.c (.int .i64 0))⟩,
  ⟨(some 108), none, .mov (.t 107)⟩,
  ⟨(some 109), (some (3, true)), .fld 2 (.t 2)⟩,
  ⟨(some 110), (some (3, true)), .load 1 false (.t 109)⟩,
  ⟨(some 111), (some (3, true)), .len false (.t 110)⟩,
  ⟨(some 112), (some (3, true)), .bin .eql (.num) (.t 111) (.c (.int .i64 0))⟩,
  ⟨(some 113), none, .pick (.t 108) (.t 112) (.c (.bool false))⟩,
  ⟨(some 114), none, .mov (.t 113)⟩,
  ⟨(some 115), (some (9, true)), .fld 3 (.t 2)⟩,
  ⟨(some 116), (some (9, true)), .load 1 false (.t 115)⟩,
  ⟨(some 117), (some (9, true)), .bin .neq (.num) (.t 116) (.c (.int .i64 2))⟩,
  ⟨(some 118), (some (9, true)), .mov (.t 117)⟩,
  ⟨(some 119), (some (13, false)), .fld 7 (.t 2)⟩,
  ⟨(some 120), (some (13, false)), .load 1 false (.t 119)⟩,
  ⟨(some 121), (some (13, false)), .len false (.t 120)⟩,
  ⟨(some 122), (some (13, false)), .bin .eql (.num) (.t 121) (.c (.int .i64 0))⟩,
  ⟨(some 123), (some (9, true)), .pick (.t 118) (.c (.bool true)) (.t 122)⟩,
  ⟨(some 124), none, .pick (.t 114) (.t 123) (.c (.bool false))⟩,
  ⟨(some 4), none, .mov (.t 124)⟩]) (.ret)))))))
def spec_l9Promise_r : List RS := [.t 4]
theorem spec_l9Promise_e {a0 a1 : AV} {h : AH} {K : AV → AH → Prop} (hw : TC Try.prog Θ Γ spec_l9Promise_c (retQ spec_l9Promise_r K) ⟨[a0, a1, u, u, u, u, u, u, u, u, u, u, u, u, u, u, u, u, u, u, u, u, u, u, u, u, u, u, u, u, u, u, u, u, u, u, u, u, u, u, u, u, u, u, u, u, u, u, u, u, u, u, u, u, u, u, u, u, u, u, u, u, u, u, u, u, u, u, u, u, u, u, u, u, u, u, u, u, u, u, u, u, u, u, u, u, u, u, u, u, u, u, u, u, u, u, u, u, u, u, u, u, u, u, u, u, u, u, u, u, u, u, u, u, u, u, u, u, u, u, u, u, u, u, u], [], h⟩) : T Try.prog Γ Fn.spec_l9Promise [a0, a1] h K :=
  T_of_body tabOK Try.func64 (code := bodyOf Try.f64) (by kernel_rfl) (by kernel_rfl) (by kernel_rfl) (by kernel_rfl) hw
def laws_toEntity_c : C := .seq (.reg [⟨(some 1), none, .box (.t 0)⟩,
  ⟨(some 2), none, .alloc [.int .i64 0, .int .i64 0, .nils, .int .i64 0, .int .i64 0, .int .i64 0, .nils, .nils, .int .i64 0, .int .i64 0, .int .i64 0, .int .i64 0]⟩]) (.seq (.reg [⟨(some 3), none, .alloc [.int .i64 0, .int .i64 0, .nils, .int .i64 0, .int .i64 0, .int .i64 0, .nils, .nils, .int .i64 0, .int .i64 0, .int .i64 0, .int .i64 0]⟩]) (.seq (.reg [⟨(some 4), none, .fld 0 (.t 1)⟩,
  ⟨(some 5), none, .load 1 false (.t 4)⟩,
  ⟨(some 6), none, .fld 0 (.t 3)⟩,
  ⟨none, none, .store 1 (.t 6) (.t 5)⟩]) (.seq (.reg [⟨(some 7), none, .fld 1 (.t 1)⟩,
  ⟨(some 8), none, .load 1 false (.t 7)⟩,
  ⟨(some 9), none, .fld 1 (.t 3)⟩,
  ⟨none, none, .store 1 (.t 9) (.t 8)⟩]) (.seq (.reg [⟨(some 10), none, .fld 2 (.t 1)⟩,
  ⟨(some 11), none, .load 1 false (.t 10)⟩,
  ⟨(some 12), none, .call (.c (.fn Fn.laws_toValueS [] [])) [.t 11]⟩,
  ⟨(some 13), none, .fld 2 (.t 3)⟩,
  ⟨none, none, .store 1 (.t 13) (.t 12)⟩]) (.seq (.reg [⟨(some 14), none, .fld 3 (.t 1)⟩,
  ⟨(some 15), none, .load 1 false (.t 14)⟩,
  ⟨(some 16), none, .fld 3 (.t 3)⟩,
  ⟨none, none, .store 1 (.t 16) (.t 15)⟩]) (.seq (.reg [⟨(some 17), none, .fld 4 (.t 1)⟩,
  ⟨(some 18), none, .load 2 true (.t 17)⟩,
  ⟨(some 19), none, .call (.c (.fn Fn.laws_toValue [] [])) [.t 18]⟩,
  ⟨(some 20), none, .fld 4 (.t 3)⟩,
  ⟨none, none, .store 2 (.t 20) (.t 19)⟩]) (.seq (.reg [⟨(some 21), none, .fld 6 (.t 1)⟩,
  ⟨(some 22), none, .load 1 false (.t 21)⟩,
  ⟨(some 23), none, .call (.c (.fn Fn.laws_toSentS [] [])) [.t 22]⟩,
  ⟨(some 24), none, .fld 6 (.t 3)⟩,
  ⟨none, none, .store 1 (.t 24) (.t 23)⟩]) (.seq (.reg [⟨(some 25), none, .fld 7 (.t 1)⟩,
  ⟨(some 26), none, .load 1 false (.t 25)⟩,
  ⟨(some 27), none, .call (.c (.fn Fn.laws_toAskerS [] [])) [.t 26]⟩,
  ⟨(some 28), none, .fld 7 (.t 3)⟩,
  ⟨none, none, .store 1 (.t 28) (.t 27)⟩]) (.seq (.reg [⟨(some 29), none, .fld 8 (.t 1)⟩,
  ⟨(some 30), none, .load 1 false (.t 29)⟩,
  ⟨(some 31), none, .fld 8 (.t 3)⟩,
  ⟨none, none, .store 1 (.t 31) (.t 30)⟩]) (.seq (.reg [⟨(some 32), none, .fld 9 (.t 1)⟩,
  ⟨(some 33), none, .load 1 false (.t 32)⟩,
  ⟨(some 34), none, .fld 9 (.t 3)⟩,
  ⟨none, none, .store 1 (.t 34) (.t 33)⟩]) (.seq (.reg [⟨(some 35), none, .fld 10 (.t 1)⟩,
  ⟨(some 36), none, .load 1 false (.t 35)⟩,
  ⟨(some 37), none, .fld 10 (.t 3)⟩,
  ⟨none, none, .store 1 (.t 37) (.t 36)⟩]) (.seq (.reg [⟨(some 38), none, .fld 11 (.t 1)⟩,
  ⟨(some 39), none, .load 1 false (.t 38)⟩,
  ⟨(some 40), none, .fld 11 (.t 3)⟩,
  ⟨none, none, .store 1 (.t 40) (.t 39)⟩]) (.seq (.reg [⟨(some 41), none, .load 12 true (.t 3)⟩,
  ⟨none, none, .store 12 (.t 2) (.t 41)⟩]) (.ret))))))))))))))
def laws_toEntity_r : List RS := [.cell 2 12 true]
theorem laws_toEntity_e {a0 : AV} {h : AH} {K : AV → AH → Prop} (hw : TC Try.prog Θ Γ laws_toEntity_c (retQ laws_toEntity_r K) ⟨[a0, u, u, u, u, u, u, u, u, u, u, u, u, u, u, u, u, u, u, u, u, u, u, u, u, u, u, u, u, u, u, u, u, u, u, u, u, u, u, u, u, u], [], h⟩) : T Try.prog Γ Fn.laws_toEntity [a0] h K :=
  T_of_body tabOK Try.func65 (code := bodyOf Try.f65) (by kernel_rfl) (by kernel_rfl) (by kernel_rfl) (by kernel_rfl) hw
def laws_toSent_c : C := .seq (.reg [⟨(some 1), none, .box (.t 0)⟩,
  ⟨(some 2), none, .alloc [.int .i64 0, .str ⟨#[]⟩, .nils, .int .i64 0, .int .i64 0, .int .i64 0, .int .i64 0]⟩]) (.seq (.reg [⟨(some 3), none, .alloc [.int .i64 0, .str ⟨#[]⟩, .nils, .int .i64 0, .int .i64 0, .int .i64 0, .int .i64 0]⟩]) (.seq (.reg [⟨(some 4), none, .fld 0 (.t 1)⟩,
  ⟨(some 5), none, .load 1 false (.t 4)⟩,
  ⟨(some 6), none, .fld 0 (.t 3)⟩,
  ⟨none, none, .store 1 (.t 6) (.t 5)⟩]) (.seq (.reg [⟨(some 7), none, .fld 1 (.t 1)⟩,
  ⟨(some 8), none, .load 1 false (.t 7)⟩,
  ⟨(some 9), none, .fld 1 (.t 3)⟩,
  ⟨none, none, .store 1 (.t 9) (.t 8)⟩]) (.seq (.reg [⟨(some 10), none, .fld 2 (.t 1)⟩,
  ⟨(some 11), none, .load 1 false (.t 10)⟩,
  ⟨(some 12), none, .call (.c (.fn Fn.laws_toValueS [] [])) [.t 11]⟩,
  ⟨(some 13), none, .fld 2 (.t 3)⟩,
  ⟨none, none, .store 1 (.t 13) (.t 12)⟩]) (.seq (.reg [⟨(some 14), none, .fld 3 (.t 1)⟩,
  ⟨(some 15), none, .load 1 false (.t 14)⟩,
  ⟨(some 16), none, .fld 3 (.t 3)⟩,
  ⟨none, none, .store 1 (.t 16) (.t 15)⟩]) (.seq (.reg [⟨(some 17), none, .fld 4 (.t 1)⟩,
  ⟨(some 18), none, .load 3 true (.t 17)⟩,
  ⟨(some 19), none, .call (.c (.fn Fn.laws_toTag [] [])) [.t 18]⟩,
  ⟨(some 20), none, .fld 4 (.t 3)⟩,
  ⟨none, none, .store 3 (.t 20) (.t 19)⟩]) (.seq (.reg [⟨(some 21), none, .load 7 true (.t 3)⟩,
  ⟨none, none, .store 7 (.t 2) (.t 21)⟩]) (.ret))))))))
def laws_toSent_r : List RS := [.cell 2 7 true]
theorem laws_toSent_e {a0 : AV} {h : AH} {K : AV → AH → Prop} (hw : TC Try.prog Θ Γ laws_toSent_c (retQ laws_toSent_r K) ⟨[a0, u, u, u, u, u, u, u, u, u, u, u, u, u, u, u, u, u, u, u, u, u], [], h⟩) : T Try.prog Γ Fn.laws_toSent [a0] h K :=
  T_of_body tabOK Try.func66 (code := bodyOf Try.f66) (by kernel_rfl) (by kernel_rfl) (by kernel_rfl) (by kernel_rfl) hw
def laws_toLink_c : C := .seq (.reg [⟨(some 1), none, .box (.t 0)⟩,
  ⟨(some 2), none, .alloc [.int .i64 0, .bool false, .nils, .int .i64 0, .nils, .int .i64 0, .nils]⟩]) (.seq (.reg [⟨(some 3), none, .alloc [.int .i64 0, .bool false, .nils, .int .i64 0, .nils, .int .i64 0, .nils]⟩]) (.seq (.reg [⟨(some 4), none, .fld 0 (.t 1)⟩,
  ⟨(some 5), none, .load 1 false (.t 4)⟩,
  ⟨(some 6), none, .fld 0 (.t 3)⟩,
  ⟨none, none, .store 1 (.t 6) (.t 5)⟩]) (.seq (.reg [⟨(some 7), none, .fld 1 (.t 1)⟩,
  ⟨(some 8), none, .load 1 false (.t 7)⟩,
  ⟨(some 9), none, .fld 1 (.t 3)⟩,
  ⟨none, none, .store 1 (.t 9) (.t 8)⟩]) (.seq (.reg [⟨(some 10), none, .fld 2 (.t 1)⟩,
  ⟨(some 11), none, .load 1 false (.t 10)⟩,
  ⟨(some 12), none, .call (.c (.fn Fn.laws_toExportS [] [])) [.t 11]⟩,
  ⟨(some 13), none, .fld 2 (.t 3)⟩,
  ⟨none, none, .store 1 (.t 13) (.t 12)⟩]) (.seq (.reg [⟨(some 14), none, .fld 3 (.t 1)⟩,
  ⟨(some 15), none, .load 1 false (.t 14)⟩,
  ⟨(some 16), none, .fld 3 (.t 3)⟩,
  ⟨none, none, .store 1 (.t 16) (.t 15)⟩]) (.seq (.reg [⟨(some 17), none, .fld 4 (.t 1)⟩,
  ⟨(some 18), none, .load 1 false (.t 17)⟩,
  ⟨(some 19), none, .call (.c (.fn Fn.laws_toQuestionS [] [])) [.t 18]⟩,
  ⟨(some 20), none, .fld 4 (.t 3)⟩,
  ⟨none, none, .store 1 (.t 20) (.t 19)⟩]) (.seq (.reg [⟨(some 21), none, .fld 5 (.t 1)⟩,
  ⟨(some 22), none, .load 1 false (.t 21)⟩,
  ⟨(some 23), none, .fld 5 (.t 3)⟩,
  ⟨none, none, .store 1 (.t 23) (.t 22)⟩]) (.seq (.reg [⟨(some 24), none, .fld 6 (.t 1)⟩,
  ⟨(some 25), none, .load 1 false (.t 24)⟩,
  ⟨(some 26), none, .call (.c (.fn Fn.laws_toQuestionS [] [])) [.t 25]⟩,
  ⟨(some 27), none, .fld 6 (.t 3)⟩,
  ⟨none, none, .store 1 (.t 27) (.t 26)⟩]) (.seq (.reg [⟨(some 28), none, .load 7 true (.t 3)⟩,
  ⟨none, none, .store 7 (.t 2) (.t 28)⟩]) (.ret))))))))))
def laws_toLink_r : List RS := [.cell 2 7 true]
theorem laws_toLink_e {a0 : AV} {h : AH} {K : AV → AH → Prop} (hw : TC Try.prog Θ Γ laws_toLink_c (retQ laws_toLink_r K) ⟨[a0, u, u, u, u, u, u, u, u, u, u, u, u, u, u, u, u, u, u, u, u, u, u, u, u, u, u, u, u], [], h⟩) : T Try.prog Γ Fn.laws_toLink [a0] h K :=
  T_of_body tabOK Try.func67 (code := bodyOf Try.f67) (by kernel_rfl) (by kernel_rfl) (by kernel_rfl) (by kernel_rfl) hw
def laws_toOutgoing_c : C := .seq (.reg [⟨(some 1), none, .box (.t 0)⟩,
  ⟨(some 2), none, .alloc [.int .i64 0, .int .i64 0, .int .i64 0, .int .i64 0, .int .i64 0, .str ⟨#[]⟩, .nils, .int .i64 0, .int .i64 0, .int .i64 0, .int .i64 0, .int .i64 0, .int .i64 0]⟩]) (.seq (.reg [⟨(some 3), none, .alloc [.int .i64 0, .int .i64 0, .int .i64 0, .int .i64 0, .int .i64 0, .str ⟨#[]⟩, .nils, .int .i64 0, .int .i64 0, .int .i64 0, .int .i64 0, .int .i64 0, .int .i64 0]⟩]) (.seq (.reg [⟨(some 4), none, .fld 0 (.t 1)⟩,
  ⟨(some 5), none, .load 1 false (.t 4)⟩,
  ⟨(some 6), none, .fld 0 (.t 3)⟩,
  ⟨none, none, .store 1 (.t 6) (.t 5)⟩]) (.seq (.reg [⟨(some 7), none, .fld 1 (.t 1)⟩,
  ⟨(some 8), none, .load 12 true (.t 7)⟩,
  ⟨(some 9), none, .call (.c (.fn Fn.laws_toMessage [] [])) [.t 8]⟩,
  ⟨(some 10), none, .fld 1 (.t 3)⟩,
  ⟨none, none, .store 12 (.t 10) (.t 9)⟩]) (.seq (.reg [⟨(some 11), none, .load 13 true (.t 3)⟩,
  ⟨none, none, .store 13 (.t 2) (.t 11)⟩]) (.ret)))))
def laws_toOutgoing_r : List RS := [.cell 2 13 true]
theorem laws_toOutgoing_e {a0 : AV} {h : AH} {K : AV → AH → Prop} (hw : TC Try.prog Θ Γ laws_toOutgoing_c (retQ laws_toOutgoing_r K) ⟨[a0, u, u, u, u, u, u, u, u, u, u, u], [], h⟩) : T Try.prog Γ Fn.laws_toOutgoing [a0] h K :=
  T_of_body tabOK Try.func68 (code := bodyOf Try.f68) (by kernel_rfl) (by kernel_rfl) (by kernel_rfl) (by kernel_rfl) hw
def impl_in_c : C := .seq (.reg [⟨(some 6), none, .mov (.c (.bool false))⟩]) (.seq (.reg [⟨(some 7), none, .mov (.t 1)⟩,
  ⟨(some 8), none, .mov (.t 0)⟩,
  ⟨(some 9), none, .bin .leq (.num) (.t 7) (.t 8)⟩,
  ⟨(some 10), none, .mov (.t 9)⟩,
  ⟨(some 11), (some (3, true)), .mov (.t 0)⟩,
  ⟨(some 12), (some (3, true)), .mov (.t 2)⟩,
  ⟨(some 13), (some (3, true)), .bin .leq (.num) (.t 11) (.t 12)⟩,
  ⟨(some 14), none, .pick (.t 10) (.t 13) (.c (.bool false))⟩,
  ⟨(some 6), none, .mov (.t 14)⟩]) (.ret))
def impl_in_r : List RS := [.t 6]
theorem impl_in_e {a0 a1 a2 : AV} {h : AH} {K : AV → AH → Prop} (hw : TC Try.prog Θ Γ impl_in_c (retQ impl_in_r K) ⟨[a0, a1, a2, u, u, u, u, u, u, u, u, u, u, u, u], [], h⟩) : T Try.prog Γ Fn.impl_in [a0, a1, a2] h K :=
  T_of_body tabOK Try.func69 (code := bodyOf Try.f69) (by kernel_rfl) (by kernel_rfl) (by kernel_rfl) (by kernel_rfl) hw
def impl_Vat_sentsOk_c : C := .seq (.reg [⟨(some 2), none, .box (.t 0)⟩,
  ⟨(some 4), none, .mov (.c (.bool false))⟩]) (.seq (.reg [⟨(some 5), none, .mov (.t 1)⟩,
  ⟨(some 6), none, .mkf Fn.impl_Vat_sentsOk_1 [] [.t 2]⟩,
  ⟨(some 7), none, .call (.c (.fn Fn.slices_ContainsFunc_iimpl_Sent_impl_Sent [] [])) [.t 5, .t 6]⟩,
  ⟨(some 8), none, .un .not (.t 7)⟩,
  ⟨(some 4), none, .mov (.t 8)⟩]) (.ret))
def impl_Vat_sentsOk_r : List RS := [.t 4]
theorem impl_Vat_sentsOk_e {a0 a1 : AV} {h : AH} {K : AV → AH → Prop} (hw : TC Try.prog Θ Γ impl_Vat_sentsOk_c (retQ impl_Vat_sentsOk_r K) ⟨[a0, a1, u, u, u, u, u, u, u], [], h⟩) : T Try.prog Γ Fn.impl_Vat_sentsOk [a0, a1] h K :=
  T_of_body tabOK Try.func70 (code := bodyOf Try.f70) (by kernel_rfl) (by kernel_rfl) (by kernel_rfl) (by kernel_rfl) hw
def impl_IsEntity_c : C := .seq (.reg [⟨(some 2), none, .box (.t 0)⟩,
  ⟨(some 4), none, .mov (.c (.bool false))⟩]) (.seq (.seq (.reg [⟨(some 5), none, .fld 11 (.t 2)⟩,
  ⟨(some 6), none, .load 1 false (.t 5)⟩,
  ⟨(some 7), none, .call (.c (.fn Fn.impl_in [] [])) [.t 6, .c (.int .i64 0), .c (.int .i64 999999)]⟩,
  ⟨(some 8), none, .un .not (.t 7)⟩]) (.cond (.t 8) (.seq (.reg [⟨(some 4), none, .mov (.c (.bool false))⟩]) (.ret)) (.skip))) (.seq (.seq (.reg [⟨(some 9), none, .fld 0 (.t 2)⟩,
  ⟨(some 10), none, .load 1 false (.t 9)⟩]) (.block 0 (.seq (.reg [⟨(some 12), none, .bin .eql (.num) (.t 10) (.c (.int .i64 1))⟩,
  ⟨(some 11), none, .mov (.t 12)⟩]) (.cond (.t 11) (.seq (.reg [⟨(some 13), none, .fld 1 (.t 2)⟩,
  ⟨(some 14), none, .load 1 false (.t 13)⟩,
  ⟨(some 15), none, .call (.c (.fn Fn.impl_in [] [])) [.t 14, .c (.int .i64 0), .c (.int .i64 5)]⟩,
  ⟨(some 16), none, .mov (.t 15)⟩,
  ⟨(some 17), (some (3, true)), .fld 2 (.t 2)⟩,
  ⟨(some 18), (some (3, true)), .load 1 false (.t 17)⟩,
  ⟨(some 19), (some (3, true)), .len false (.t 18)⟩,
  ⟨(some 20), (some (3, true)), .bin .leq (.num) (.t 19) (.c (.int .i64 3))⟩,
  ⟨(some 21), none, .pick (.t 16) (.t 20) (.c (.bool false))⟩,
  ⟨(some 22), none, .mov (.t 21)⟩,
  ⟨(some 23), (some (9, true)), .fld 2 (.t 2)⟩,
  ⟨(some 24), (some (9, true)), .load 1 false (.t 23)⟩,
  ⟨(some 25), (some (9, true)), .mov (.t 1)⟩,
  ⟨(some 26), (some (9, true)), .call (.c (.fn Fn.impl_AreValues [] [])) [.t 24, .t 25]⟩,
  ⟨(some 27), none, .pick (.t 22) (.t 26) (.c (.bool false))⟩,
  ⟨(some 28), none, .mov (.t 27)⟩,
  ⟨(some 29), (some (15, true)), .call (.c (.fn Fn.impl_Entity_rest [] [])) [.t 2, .c (.bool true), .c (.bool true), .c (.bool false), .c (.bool false)]⟩,
  ⟨(some 30), none, .pick (.t 28) (.t 29) (.c (.bool false))⟩,
  ⟨(some 4), none, .mov (.t 30)⟩]) (.ret)) (.seq (.reg [⟨(some 32), none, .bin .eql (.num) (.t 10) (.c (.int .i64 3))⟩,
  ⟨(some 31), none, .mov (.t 32)⟩]) (.cond (.t 31) (.seq (.reg [⟨(some 33), none, .fld 8 (.t 2)⟩,
  ⟨(some 34), none, .load 1 false (.t 33)⟩,
  ⟨(some 35), none, .call (.c (.fn Fn.impl_in [] [])) [.t 34, .c (.int .i64 1), .c (.int .i64 4)]⟩,
  ⟨(some 36), none, .mov (.t 35)⟩,
  ⟨(some 37), (some (3, true)), .fld 9 (.t 2)⟩,
  ⟨(some 38), (some (3, true)), .load 1 false (.t 37)⟩,
  ⟨(some 39), (some (3, true)), .call (.c (.fn Fn.impl_in [] [])) [.t 38, .c (.int .i64 1), .c (.int .i64 999999)]⟩,
  ⟨(some 40), none, .pick (.t 36) (.t 39) (.c (.bool false))⟩,
  ⟨(some 41), none, .mov (.t 40)⟩,
  ⟨(some 42), (some (8, true)), .fld 10 (.t 2)⟩,
  ⟨(some 43), (some (8, true)), .load 1 false (.t 42)⟩,
  ⟨(some 44), (some (8, true)), .call (.c (.fn Fn.impl_in [] [])) [.t 43, .c (.int .i64 1), .c (.int .i64 999999)]⟩,
  ⟨(some 45), none, .pick (.t 41) (.t 44) (.c (.bool false))⟩,
  ⟨(some 46), none, .mov (.t 45)⟩,
  ⟨(some 47), (some (13, true)), .call (.c (.fn Fn.impl_Entity_rest [] [])) [.t 2, .c (.bool false), .c (.bool false), .c (.bool false), .c (.bool true)]⟩,
  ⟨(some 48), none, .pick (.t 46) (.t 47) (.c (.bool false))⟩,
  ⟨(some 4), none, .mov (.t 48)⟩]) (.ret)) (.seq (.reg [⟨(some 50), none, .bin .eql (.num) (.t 10) (.c (.int .i64 2))⟩,
  ⟨(some 49), none, .mov (.t 50)⟩]) (.cond (.t 49) (.seq (.reg [⟨(some 51), none, .fld 3 (.t 2)⟩,
  ⟨(some 52), none, .load 1 false (.t 51)⟩,
  ⟨(some 53), none, .call (.c (.fn Fn.impl_in [] [])) [.t 52, .c (.int .i64 1), .c (.int .i64 4)]⟩,
  ⟨(some 54), none, .mov (.t 53)⟩,
  ⟨(some 55), (some (3, true)), .mov (.t 1)⟩,
  ⟨(some 56), (some (3, true)), .call (.c (.fn Fn.impl_Entity_promiseOk [] [])) [.t 2, .t 55]⟩,
  ⟨(some 57), none, .pick (.t 54) (.t 56) (.c (.bool false))⟩,
  ⟨(some 58), none, .mov (.t 57)⟩,
  ⟨(some 59), (some (7, true)), .call (.c (.fn Fn.impl_Entity_rest [] [])) [.t 2, .c (.bool false), .c (.bool false), .c (.bool true), .c (.bool true)]⟩,
  ⟨(some 60), none, .pick (.t 58) (.t 59) (.c (.bool false))⟩,
  ⟨(some 4), none, .mov (.t 60)⟩]) (.ret)) (.skip))))))))) (.seq (.reg [⟨(some 4), none, .mov (.c (.bool false))⟩]) (.ret))))
def impl_IsEntity_r : List RS := [.t 4]
theorem impl_IsEntity_e {a0 a1 : AV} {h : AH} {K : AV → AH → Prop} (hw : TC Try.prog Θ Γ impl_IsEntity_c (retQ impl_IsEntity_r K) ⟨[a0, a1, u, u, u, u, u, u, u, u, u, u, u, u, u, u, u, u, u, u, u, u, u, u, u, u, u, u, u, u, u, u, u, u, u, u, u, u, u, u, u, u, u, u, u, u, u, u, u, u, u, u, u, u, u, u, u, u, u, u, u], [], h⟩) : T Try.prog Γ Fn.impl_IsEntity [a0, a1] h K :=
  T_of_body tabOK Try.func71 (code := bodyOf Try.f71) (by kernel_rfl) (by kernel_rfl) (by kernel_rfl) (by kernel_rfl) hw
def impl_Vat_linkOk_d0_os : List O := [⟨(some 58), none, .mov (.t 1)⟩,
  ⟨(some 59), none, .nilchk (.t 58)⟩,
  ⟨(some 60), none, .fld 4 (.t 59)⟩,
  ⟨(some 61), none, .load 1 false (.t 60)⟩,
  ⟨(some 62), none, .mov (.t 1)⟩,
  ⟨(some 63), none, .nilchk (.t 62)⟩,
  ⟨(some 64), none, .fld 6 (.t 63)⟩,
  ⟨(some 65), none, .load 1 false (.t 64)⟩,
  ⟨(some 66), none, .bsl 1 2 [.nils] [(0, .t 61), (1, .t 65)]⟩,
  ⟨(some 67), none, .call (.c (.fn Fn.slices_Concat_iimpl_Question_impl_Question [] [])) [.t 66]⟩,
  ⟨(some 68), none, .len false (.t 67)⟩,
  ⟨(some 69), none, .mov (.c (.int .i64 0))⟩]
def impl_Vat_linkOk_d0_af : List (List Nat) := [[], [0], [1], [2], [], [4], [5], [6], [3, 7], [8], [9], []]
theorem impl_Vat_linkOk_d0_q (gl : Gl) (Q : AE → St → Prop) (s : St) : aw Try.prog Θ Γ gl (.regD impl_Vat_linkOk_d0_os impl_Vat_linkOk_d0_af) Q s = awpT Try.prog Γ gl [⟨(some 58), none, .mov (.t 1)⟩,
  ⟨(some 59), none, .nilchk (.t 58)⟩,
  ⟨(some 60), none, .fld 4 (.t 59)⟩,
  ⟨(some 61), none, .load 1 false (.t 60)⟩,
  ⟨(some 62), none, .mov (.t 1)⟩,
  ⟨(some 63), none, .nilchk (.t 62)⟩,
  ⟨(some 64), none, .fld 6 (.t 63)⟩,
  ⟨(some 65), none, .load 1 false (.t 64)⟩,
  ⟨(some 66), none, .bsl 1 2 [.nils] [(0, .t 61), (1, .t 65)]⟩,
  ⟨(some 67), none, .call (.c (.fn Fn.slices_Concat_iimpl_Question_impl_Question [] [])) [.t 66]⟩,
  ⟨(some 68), none, .len false (.t 67)⟩,
  ⟨(some 69), none, .mov (.c (.int .i64 0))⟩] (Q .normal) 12 (.q 0 (.q 1 (.q 2 (.q 3 (.q 4 (.q 5 (.q 6 (.q 7 (.q 11 (.q 8 (.q 9 (.q 10 (.done))))))))))))) s := a_dd rfl (by kernel_rfl) gl Q s
def impl_Vat_linkOk_c : C := .seq (.reg [⟨(some 4), none, .mov (.c (.bool false))⟩]) (.seq (.seq (.reg [⟨(some 9), none, .mov (.t 1)⟩,
  ⟨(some 10), none, .nilchk (.t 9)⟩,
  ⟨(some 11), none, .fld 0 (.t 10)⟩,
  ⟨(some 12), none, .load 1 false (.t 11)⟩,
  ⟨(some 13), none, .call (.c (.fn Fn.impl_in [] [])) [.t 12, .c (.int .i64 1), .c (.int .i64 4)]⟩,
  ⟨(some 14), none, .un .not (.t 13)⟩,
  ⟨(some 15), none, .mov (.t 14)⟩,
  ⟨(some 16), (some (6, false)), .mov (.t 1)⟩,
  ⟨(some 17), (some (6, false)), .nilchk (.t 16)⟩,
  ⟨(some 18), (some (6, false)), .fld 3 (.t 17)⟩,
  ⟨(some 19), (some (6, false)), .load 1 false (.t 18)⟩,
  ⟨(some 20), (some (6, false)), .call (.c (.fn Fn.impl_in [] [])) [.t 19, .c (.int .i64 0), .c (.int .i64 999999)]⟩,
  ⟨(some 21), (some (6, false)), .un .not (.t 20)⟩,
  ⟨(some 22), none, .pick (.t 15) (.c (.bool true)) (.t 21)⟩,
  ⟨(some 23), none, .mov (.t 22)⟩,
  ⟨(some 24), (some (14, false)), .mov (.t 1)⟩,
  ⟨(some 25), (some (14, false)), .nilchk (.t 24)⟩,
  ⟨(some 26), (some (14, false)), .fld 5 (.t 25)⟩,
  ⟨(some 27), (some (14, false)), .load 1 false (.t 26)⟩,
  ⟨(some 28), (some (14, false)), .call (.c (.fn Fn.impl_in [] [])) [.t 27, .c (.int .i64 0), .c (.int .i64 999999)]⟩,
  ⟨(some 29), (some (14, false)), .un .not (.t 28)⟩,
  ⟨(some 30), none, .pick (.t 23) (.c (.bool true)) (.t 29)⟩]) (.cond (.t 30) (.seq (.reg [⟨(some 4), none, .mov (.c (.bool false))⟩]) (.ret)) (.skip))) (.seq (.seq (.reg [⟨(some 31), none, .mov (.t 1)⟩,
  ⟨(some 32), none, .nilchk (.t 31)⟩,
  ⟨(some 33), none, .fld 2 (.t 32)⟩,
  ⟨(some 34), none, .load 1 false (.t 33)⟩,
  ⟨(some 35), none, .len false (.t 34)⟩,
  ⟨(some 36), none, .mov (.c (.int .i64 0))⟩]) (.block 0 (.loop (.seq (.reg [⟨(some 37), none, .bin .lss (.num) (.t 36) (.t 35)⟩]) (.seq (.cond (.t 37) (.skip) (.exit 0)) (.seq (.block 1 (.seq (.reg [⟨(some 38), none, .idxs 3 (.t 34) (.t 36)⟩,
  ⟨(some 39), none, .load 3 true (.t 38)⟩,
  ⟨(some 6), none, .alloc [.int .i64 0, .int .i64 0, .int .i64 0]⟩,
  ⟨none, none, .store 3 (.t 6) (.t 39)⟩]) (.seq (.reg [⟨(some 40), none, .fld 0 (.t 6)⟩,
  ⟨(some 41), none, .load 1 false (.t 40)⟩,
  ⟨(some 42), none, .call (.c (.fn Fn.impl_named [] [])) [.t 41]⟩,
  ⟨(some 43), none, .un .not (.t 42)⟩,
  ⟨(some 44), none, .mov (.t 43)⟩,
  ⟨(some 45), (some (4, false)), .fld 2 (.t 6)⟩,
  ⟨(some 46), (some (4, false)), .load 1 false (.t 45)⟩,
  ⟨(some 47), (some (4, false)), .call (.c (.fn Fn.impl_named [] [])) [.t 46]⟩,
  ⟨(some 48), (some (4, false)), .un .not (.t 47)⟩,
  ⟨(some 49), none, .pick (.t 44) (.c (.bool true)) (.t 48)⟩,
  ⟨(some 50), none, .mov (.t 49)⟩,
  ⟨(some 51), (some (10, false)), .mov (.t 0)⟩,
  ⟨(some 52), (some (10, false)), .fld 1 (.t 6)⟩,
  ⟨(some 53), (some (10, false)), .load 1 false (.t 52)⟩,
  ⟨(some 54), (some (10, false)), .call (.c (.fn Fn.impl_Vat_entity [] [])) [.t 51, .t 53]⟩,
  ⟨(some 55), (some (10, false)), .bin .eql (.nilp) (.t 54) (.c (.nilp))⟩,
  ⟨(some 56), none, .pick (.t 50) (.c (.bool true)) (.t 55)⟩]) (.cond (.t 56) (.seq (.reg [⟨(some 4), none, .mov (.c (.bool false))⟩]) (.ret)) (.skip))))) (.reg [⟨(some 57), none, .bin .add (.num) (.t 36) (.c (.int .i64 1))⟩,
  ⟨(some 36), none, .mov (.t 57)⟩]))))))) (.seq (.seq (.regD impl_Vat_linkOk_d0_os impl_Vat_linkOk_d0_af) (.block 2 (.loop (.seq (.reg [⟨(some 70), none, .bin .lss (.num) (.t 69) (.t 68)⟩]) (.seq (.cond (.t 70) (.skip) (.exit 2)) (.seq (.block 3 (.seq (.reg [⟨(some 71), none, .idxs 2 (.t 67) (.t 69)⟩,
  ⟨(some 72), none, .load 2 true (.t 71)⟩,
  ⟨(some 8), none, .alloc [.int .i64 0, .int .i64 0]⟩,
  ⟨none, none, .store 2 (.t 8) (.t 72)⟩]) (.seq (.reg [⟨(some 73), none, .fld 0 (.t 8)⟩,
  ⟨(some 74), none, .load 1 false (.t 73)⟩,
  ⟨(some 75), none, .call (.c (.fn Fn.impl_named [] [])) [.t 74]⟩,
  ⟨(some 76), none, .un .not (.t 75)⟩,
  ⟨(some 77), none, .mov (.t 76)⟩,
  ⟨(some 78), (some (4, false)), .mov (.t 0)⟩,
  ⟨(some 79), (some (4, false)), .fld 1 (.t 8)⟩,
  ⟨(some 80), (some (4, false)), .load 1 false (.t 79)⟩,
  ⟨(some 81), (some (4, false)), .call (.c (.fn Fn.impl_Vat_entity [] [])) [.t 78, .t 80]⟩,
  ⟨(some 82), (some (4, false)), .bin .eql (.nilp) (.t 81) (.c (.nilp))⟩,
  ⟨(some 83), none, .pick (.t 77) (.c (.bool true)) (.t 82)⟩]) (.cond (.t 83) (.seq (.reg [⟨(some 4), none, .mov (.c (.bool false))⟩]) (.ret)) (.skip))))) (.reg [⟨(some 84), none, .bin .add (.num) (.t 69) (.c (.int .i64 1))⟩,
  ⟨(some 69), none, .mov (.t 84)⟩]))))))) (.seq (.reg [⟨(some 4), none, .mov (.c (.bool true))⟩]) (.ret)))))
def impl_Vat_linkOk_r : List RS := [.t 4]
def impl_Vat_linkOk_s0 (t0 t1 t34 t35 t36 : AV) (loc : List (List AV)) (h : AH) : St := ⟨[t0, t1, .any, .any, .any, .any, .any, .any, .any, .any, .any, .any, .any, .any, .any, .any, .any, .any, .any, .any, .any, .any, .any, .any, .any, .any, .any, .any, .any, .any, .any, .any, .any, .any, t34, t35, t36, .any, .any, .any, .any, .any, .any, .any, .any, .any, .any, .any, .any, .any, .any, .any, .any, .any, .any, .any, .any, .any, .any, .any, .any, .any, .any, .any, .any, .any, .any, .any, .any, .any, .any, .any, .any, .any, .any, .any, .any, .any, .any, .any, .any, .any, .any, .any, .any], loc, h⟩
def impl_Vat_linkOk_s1 (t0 t67 t68 t69 : AV) (loc : List (List AV)) (h : AH) : St := ⟨[t0, .any, .any, .any, .any, .any, .any, .any, .any, .any, .any, .any, .any, .any, .any, .any, .any, .any, .any, .any, .any, .any, .any, .any, .any, .any, .any, .any, .any, .any, .any, .any, .any, .any, .any, .any, .any, .any, .any, .any, .any, .any, .any, .any, .any, .any, .any, .any, .any, .any, .any, .any, .any, .any, .any, .any, .any, .any, .any, .any, .any, .any, .any, .any, .any, .any, .any, t67, t68, t69, .any, .any, .any, .any, .any, .any, .any, .any, .any, .any, .any, .any, .any, .any, .any], loc, h⟩
theorem impl_Vat_linkOk_e {a0 a1 : AV} {h : AH} {K : AV → AH → Prop} (hw : TC Try.prog Θ Γ impl_Vat_linkOk_c (retQ impl_Vat_linkOk_r K) ⟨[a0, a1, u, u, u, u, u, u, u, u, u, u, u, u, u, u, u, u, u, u, u, u, u, u, u, u, u, u, u, u, u, u, u, u, u, u, u, u, u, u, u, u, u, u, u, u, u, u, u, u, u, u, u, u, u, u, u, u, u, u, u, u, u, u, u, u, u, u, u, u, u, u, u, u, u, u, u, u, u, u, u, u, u, u, u], [], h⟩) : T Try.prog Γ Fn.impl_Vat_linkOk [a0, a1] h K :=
  T_of_body tabOK Try.func72 (code := bodyOf Try.f72) (by kernel_rfl) (by kernel_rfl) (by kernel_rfl) (by kernel_rfl) hw
def laws_eqEntity_c : C := .seq (.reg [⟨(some 2), none, .box (.t 0)⟩,
  ⟨(some 3), none, .box (.t 1)⟩,
  ⟨(some 4), none, .mov (.c (.bool false))⟩]) (.seq (.seq (.reg [⟨(some 5), none, .fld 0 (.t 2)⟩,
  ⟨(some 6), none, .load 1 false (.t 5)⟩,
  ⟨(some 7), none, .fld 0 (.t 3)⟩,
  ⟨(some 8), none, .load 1 false (.t 7)⟩,
  ⟨(some 9), none, .bin .neq (.num) (.t 6) (.t 8)⟩]) (.cond (.t 9) (.seq (.reg [⟨(some 4), none, .mov (.c (.bool false))⟩]) (.ret)) (.skip))) (.seq (.seq (.reg [⟨(some 10), none, .fld 1 (.t 2)⟩,
  ⟨(some 11), none, .load 1 false (.t 10)⟩,
  ⟨(some 12), none, .fld 1 (.t 3)⟩,
  ⟨(some 13), none, .load 1 false (.t 12)⟩,
  ⟨(some 14), none, .bin .neq (.num) (.t 11) (.t 13)⟩]) (.cond (.t 14) (.seq (.reg [⟨(some 4), none, .mov (.c (.bool false))⟩]) (.ret)) (.skip))) (.seq (.seq (.reg [⟨(some 15), none, .fld 2 (.t 2)⟩,
  ⟨(some 16), none, .load 1 false (.t 15)⟩,
  ⟨(some 17), none, .fld 2 (.t 3)⟩,
  ⟨(some 18), none, .load 1 false (.t 17)⟩,
  ⟨(some 19), none, .call (.c (.fn Fn.laws_eqValueS [] [])) [.t 16, .t 18]⟩,
  ⟨(some 20), none, .un .not (.t 19)⟩]) (.cond (.t 20) (.seq (.reg [⟨(some 4), none, .mov (.c (.bool false))⟩]) (.ret)) (.skip))) (.seq (.seq (.reg [⟨(some 21), none, .fld 3 (.t 2)⟩,
  ⟨(some 22), none, .load 1 false (.t 21)⟩,
  ⟨(some 23), none, .fld 3 (.t 3)⟩,
  ⟨(some 24), none, .load 1 false (.t 23)⟩,
  ⟨(some 25), none, .bin .neq (.num) (.t 22) (.t 24)⟩]) (.cond (.t 25) (.seq (.reg [⟨(some 4), none, .mov (.c (.bool false))⟩]) (.ret)) (.skip))) (.seq (.seq (.reg [⟨(some 26), none, .fld 4 (.t 2)⟩,
  ⟨(some 27), none, .load 2 true (.t 26)⟩,
  ⟨(some 28), none, .fld 4 (.t 3)⟩,
  ⟨(some 29), none, .load 2 true (.t 28)⟩,
  ⟨(some 30), none, .call (.c (.fn Fn.laws_eqValue [] [])) [.t 27, .t 29]⟩,
  ⟨(some 31), none, .un .not (.t 30)⟩]) (.cond (.t 31) (.seq (.reg [⟨(some 4), none, .mov (.c (.bool false))⟩]) (.ret)) (.skip))) (.seq (.seq (.reg [⟨(some 32), none, .fld 6 (.t 2)⟩,
  ⟨(some 33), none, .load 1 false (.t 32)⟩,
  ⟨(some 34), none, .fld 6 (.t 3)⟩,
  ⟨(some 35), none, .load 1 false (.t 34)⟩,
  ⟨(some 36), none, .call (.c (.fn Fn.laws_eqSentS [] [])) [.t 33, .t 35]⟩,
  ⟨(some 37), none, .un .not (.t 36)⟩]) (.cond (.t 37) (.seq (.reg [⟨(some 4), none, .mov (.c (.bool false))⟩]) (.ret)) (.skip))) (.seq (.seq (.reg [⟨(some 38), none, .fld 7 (.t 2)⟩,
  ⟨(some 39), none, .load 1 false (.t 38)⟩,
  ⟨(some 40), none, .fld 7 (.t 3)⟩,
  ⟨(some 41), none, .load 1 false (.t 40)⟩,
  ⟨(some 42), none, .call (.c (.fn Fn.laws_eqAskerS [] [])) [.t 39, .t 41]⟩,
  ⟨(some 43), none, .un .not (.t 42)⟩]) (.cond (.t 43) (.seq (.reg [⟨(some 4), none, .mov (.c (.bool false))⟩]) (.ret)) (.skip))) (.seq (.seq (.reg [⟨(some 44), none, .fld 8 (.t 2)⟩,
  ⟨(some 45), none, .load 1 false (.t 44)⟩,
  ⟨(some 46), none, .fld 8 (.t 3)⟩,
  ⟨(some 47), none, .load 1 false (.t 46)⟩,
  ⟨(some 48), none, .bin .neq (.num) (.t 45) (.t 47)⟩]) (.cond (.t 48) (.seq (.reg [⟨(some 4), none, .mov (.c (.bool false))⟩]) (.ret)) (.skip))) (.seq (.seq (.reg [⟨(some 49), none, .fld 9 (.t 2)⟩,
  ⟨(some 50), none, .load 1 false (.t 49)⟩,
  ⟨(some 51), none, .fld 9 (.t 3)⟩,
  ⟨(some 52), none, .load 1 false (.t 51)⟩,
  ⟨(some 53), none, .bin .neq (.num) (.t 50) (.t 52)⟩]) (.cond (.t 53) (.seq (.reg [⟨(some 4), none, .mov (.c (.bool false))⟩]) (.ret)) (.skip))) (.seq (.seq (.reg [⟨(some 54), none, .fld 10 (.t 2)⟩,
  ⟨(some 55), none, .load 1 false (.t 54)⟩,
  ⟨(some 56), none, .fld 10 (.t 3)⟩,
  ⟨(some 57), none, .load 1 false (.t 56)⟩,
  ⟨(some 58), none, .bin .neq (.num) (.t 55) (.t 57)⟩]) (.cond (.t 58) (.seq (.reg [⟨(some 4), none, .mov (.c (.bool false))⟩]) (.ret)) (.skip))) (.seq (.seq (.reg [⟨(some 59), none, .fld 11 (.t 2)⟩,
  ⟨(some 60), none, .load 1 false (.t 59)⟩,
  ⟨(some 61), none, .fld 11 (.t 3)⟩,
  ⟨(some 62), none, .load 1 false (.t 61)⟩,
  ⟨(some 63), none, .bin .neq (.num) (.t 60) (.t 62)⟩]) (.cond (.t 63) (.seq (.reg [⟨(some 4), none, .mov (.c (.bool false))⟩]) (.ret)) (.skip))) (.seq (.reg [⟨(some 4), none, .mov (.c (.bool true))⟩]) (.ret)))))))))))))
def laws_eqEntity_r : List RS := [.t 4]
theorem laws_eqEntity_e {a0 a1 : AV} {h : AH} {K : AV → AH → Prop} (hw : TC Try.prog Θ Γ laws_eqEntity_c (retQ laws_eqEntity_r K) ⟨[a0, a1, u, u, u, u, u, u, u, u, u, u, u, u, u, u, u, u, u, u, u, u, u, u, u, u, u, u, u, u, u, u, u, u, u, u, u, u, u, u, u, u, u, u, u, u, u, u, u, u, u, u, u, u, u, u, u, u, u, u, u, u, u, u], [], h⟩) : T Try.prog Γ Fn.laws_eqEntity [a0, a1] h K :=
  T_of_body tabOK Try.func73 (code := bodyOf Try.f73) (by kernel_rfl) (by kernel_rfl) (by kernel_rfl) (by kernel_rfl) hw
def laws_eqSent_c : C := .seq (.reg [⟨(some 2), none, .box (.t 0)⟩,
  ⟨(some 3), none, .box (.t 1)⟩,
  ⟨(some 4), none, .mov (.c (.bool false))⟩]) (.seq (.seq (.reg [⟨(some 5), none, .fld 0 (.t 2)⟩,
  ⟨(some 6), none, .load 1 false (.t 5)⟩,
  ⟨(some 7), none, .fld 0 (.t 3)⟩,
  ⟨(some 8), none, .load 1 false (.t 7)⟩,
  ⟨(some 9), none, .bin .neq (.num) (.t 6) (.t 8)⟩]) (.cond (.t 9) (.seq (.reg [⟨(some 4), none, .mov (.c (.bool false))⟩]) (.ret)) (.skip))) (.seq (.seq (.reg [⟨(some 10), none, .fld 1 (.t 2)⟩,
  ⟨(some 11), none, .load 1 false (.t 10)⟩,
  ⟨(some 12), none, .fld 1 (.t 3)⟩,
  ⟨(some 13), none, .load 1 false (.t 12)⟩,
  ⟨(some 14), none, .bin .neq (.num) (.t 11) (.t 13)⟩]) (.cond (.t 14) (.seq (.reg [⟨(some 4), none, .mov (.c (.bool false))⟩]) (.ret)) (.skip))) (.seq (.seq (.reg [⟨(some 15), none, .fld 2 (.t 2)⟩,
  ⟨(some 16), none, .load 1 false (.t 15)⟩,
  ⟨(some 17), none, .fld 2 (.t 3)⟩,
  ⟨(some 18), none, .load 1 false (.t 17)⟩,
  ⟨(some 19), none, .call (.c (.fn Fn.laws_eqValueS [] [])) [.t 16, .t 18]⟩,
  ⟨(some 20), none, .un .not (.t 19)⟩]) (.cond (.t 20) (.seq (.reg [⟨(some 4), none, .mov (.c (.bool false))⟩]) (.ret)) (.skip))) (.seq (.seq (.reg [⟨(some 21), none, .fld 3 (.t 2)⟩,
  ⟨(some 22), none, .load 1 false (.t 21)⟩,
  ⟨(some 23), none, .fld 3 (.t 3)⟩,
  ⟨(some 24), none, .load 1 false (.t 23)⟩,
  ⟨(some 25), none, .bin .neq (.num) (.t 22) (.t 24)⟩]) (.cond (.t 25) (.seq (.reg [⟨(some 4), none, .mov (.c (.bool false))⟩]) (.ret)) (.skip))) (.seq (.seq (.reg [⟨(some 26), none, .fld 4 (.t 2)⟩,
  ⟨(some 27), none, .load 3 true (.t 26)⟩,
  ⟨(some 28), none, .fld 4 (.t 3)⟩,
  ⟨(some 29), none, .load 3 true (.t 28)⟩,
  ⟨(some 30), none, .call (.c (.fn Fn.laws_eqTag [] [])) [.t 27, .t 29]⟩,
  ⟨(some 31), none, .un .not (.t 30)⟩]) (.cond (.t 31) (.seq (.reg [⟨(some 4), none, .mov (.c (.bool false))⟩]) (.ret)) (.skip))) (.seq (.reg [⟨(some 4), none, .mov (.c (.bool true))⟩]) (.ret)))))))
def laws_eqSent_r : List RS := [.t 4]
theorem laws_eqSent_e {a0 a1 : AV} {h : AH} {K : AV → AH → Prop} (hw : TC Try.prog Θ Γ laws_eqSent_c (retQ laws_eqSent_r K) ⟨[a0, a1, u, u, u, u, u, u, u, u, u, u, u, u, u, u, u, u, u, u, u, u, u, u, u, u, u, u, u, u, u, u], [], h⟩) : T Try.prog Γ Fn.laws_eqSent [a0, a1] h K :=
  T_of_body tabOK Try.func74 (code := bodyOf Try.f74) (by kernel_rfl) (by kernel_rfl) (by kernel_rfl) (by kernel_rfl) hw
def laws_eqLink_c : C := .seq (.reg [⟨(some 2), none, .box (.t 0)⟩,
  ⟨(some 3), none, .box (.t 1)⟩,
  ⟨(some 4), none, .mov (.c (.bool false))⟩]) (.seq (.seq (.reg [⟨(some 5), none, .fld 0 (.t 2)⟩,
  ⟨(some 6), none, .load 1 false (.t 5)⟩,
  ⟨(some 7), none, .fld 0 (.t 3)⟩,
  ⟨(some 8), none, .load 1 false (.t 7)⟩,
  ⟨(some 9), none, .bin .neq (.num) (.t 6) (.t 8)⟩]) (.cond (.t 9) (.seq (.reg [⟨(some 4), none, .mov (.c (.bool false))⟩]) (.ret)) (.skip))) (.seq (.seq (.reg [⟨(some 10), none, .fld 1 (.t 2)⟩,
  ⟨(some 11), none, .load 1 false (.t 10)⟩,
  ⟨(some 12), none, .fld 1 (.t 3)⟩,
  ⟨(some 13), none, .load 1 false (.t 12)⟩,
  ⟨(some 14), none, .bin .neq (.bool) (.t 11) (.t 13)⟩]) (.cond (.t 14) (.seq (.reg [⟨(some 4), none, .mov (.c (.bool false))⟩]) (.ret)) (.skip))) (.seq (.seq (.reg [⟨(some 15), none, .fld 2 (.t 2)⟩,
  ⟨(some 16), none, .load 1 false (.t 15)⟩,
  ⟨(some 17), none, .fld 2 (.t 3)⟩,
  ⟨(some 18), none, .load 1 false (.t 17)⟩,
  ⟨(some 19), none, .call (.c (.fn Fn.laws_eqExportS [] [])) [.t 16, .t 18]⟩,
  ⟨(some 20), none, .un .not (.t 19)⟩]) (.cond (.t 20) (.seq (.reg [⟨(some 4), none, .mov (.c (.bool false))⟩]) (.ret)) (.skip))) (.seq (.seq (.reg [⟨(some 21), none, .fld 3 (.t 2)⟩,
  ⟨(some 22), none, .load 1 false (.t 21)⟩,
  ⟨(some 23), none, .fld 3 (.t 3)⟩,
  ⟨(some 24), none, .load 1 false (.t 23)⟩,
  ⟨(some 25), none, .bin .neq (.num) (.t 22) (.t 24)⟩]) (.cond (.t 25) (.seq (.reg [⟨(some 4), none, .mov (.c (.bool false))⟩]) (.ret)) (.skip))) (.seq (.seq (.reg [⟨(some 26), none, .fld 4 (.t 2)⟩,
  ⟨(some 27), none, .load 1 false (.t 26)⟩,
  ⟨(some 28), none, .fld 4 (.t 3)⟩,
  ⟨(some 29), none, .load 1 false (.t 28)⟩,
  ⟨(some 30), none, .call (.c (.fn Fn.laws_eqQuestionS [] [])) [.t 27, .t 29]⟩,
  ⟨(some 31), none, .un .not (.t 30)⟩]) (.cond (.t 31) (.seq (.reg [⟨(some 4), none, .mov (.c (.bool false))⟩]) (.ret)) (.skip))) (.seq (.seq (.reg [⟨(some 32), none, .fld 5 (.t 2)⟩,
  ⟨(some 33), none, .load 1 false (.t 32)⟩,
  ⟨(some 34), none, .fld 5 (.t 3)⟩,
  ⟨(some 35), none, .load 1 false (.t 34)⟩,
  ⟨(some 36), none, .bin .neq (.num) (.t 33) (.t 35)⟩]) (.cond (.t 36) (.seq (.reg [⟨(some 4), none, .mov (.c (.bool false))⟩]) (.ret)) (.skip))) (.seq (.seq (.reg [⟨(some 37), none, .fld 6 (.t 2)⟩,
  ⟨(some 38), none, .load 1 false (.t 37)⟩,
  ⟨(some 39), none, .fld 6 (.t 3)⟩,
  ⟨(some 40), none, .load 1 false (.t 39)⟩,
  ⟨(some 41), none, .call (.c (.fn Fn.laws_eqQuestionS [] [])) [.t 38, .t 40]⟩,
  ⟨(some 42), none, .un .not (.t 41)⟩]) (.cond (.t 42) (.seq (.reg [⟨(some 4), none, .mov (.c (.bool false))⟩]) (.ret)) (.skip))) (.seq (.reg [⟨(some 4), none, .mov (.c (.bool true))⟩]) (.ret)))))))))
def laws_eqLink_r : List RS := [.t 4]
theorem laws_eqLink_e {a0 a1 : AV} {h : AH} {K : AV → AH → Prop} (hw : TC Try.prog Θ Γ laws_eqLink_c (retQ laws_eqLink_r K) ⟨[a0, a1, u, u, u, u, u, u, u, u, u, u, u, u, u, u, u, u, u, u, u, u, u, u, u, u, u, u, u, u, u, u, u, u, u, u, u, u, u, u, u, u, u], [], h⟩) : T Try.prog Γ Fn.laws_eqLink [a0, a1] h K :=
  T_of_body tabOK Try.func75 (code := bodyOf Try.f75) (by kernel_rfl) (by kernel_rfl) (by kernel_rfl) (by kernel_rfl) hw
def laws_eqOutgoing_c : C := .seq (.reg [⟨(some 2), none, .box (.t 0)⟩,
  ⟨(some 3), none, .box (.t 1)⟩,
  ⟨(some 4), none, .mov (.c (.bool false))⟩]) (.seq (.seq (.reg [⟨(some 5), none, .fld 0 (.t 2)⟩,
  ⟨(some 6), none, .load 1 false (.t 5)⟩,
  ⟨(some 7), none, .fld 0 (.t 3)⟩,
  ⟨(some 8), none, .load 1 false (.t 7)⟩,
  ⟨(some 9), none, .bin .neq (.num) (.t 6) (.t 8)⟩]) (.cond (.t 9) (.seq (.reg [⟨(some 4), none, .mov (.c (.bool false))⟩]) (.ret)) (.skip))) (.seq (.seq (.reg [⟨(some 10), none, .fld 1 (.t 2)⟩,
  ⟨(some 11), none, .load 12 true (.t 10)⟩,
  ⟨(some 12), none, .fld 1 (.t 3)⟩,
  ⟨(some 13), none, .load 12 true (.t 12)⟩,
  ⟨(some 14), none, .call (.c (.fn Fn.laws_eqMessage [] [])) [.t 11, .t 13]⟩,
  ⟨(some 15), none, .un .not (.t 14)⟩]) (.cond (.t 15) (.seq (.reg [⟨(some 4), none, .mov (.c (.bool false))⟩]) (.ret)) (.skip))) (.seq (.reg [⟨(some 4), none, .mov (.c (.bool true))⟩]) (.ret))))
def laws_eqOutgoing_r : List RS := [.t 4]
theorem laws_eqOutgoing_e {a0 a1 : AV} {h : AH} {K : AV → AH → Prop} (hw : TC Try.prog Θ Γ laws_eqOutgoing_c (retQ laws_eqOutgoing_r K) ⟨[a0, a1, u, u, u, u, u, u, u, u, u, u, u, u, u, u], [], h⟩) : T Try.prog Γ Fn.laws_eqOutgoing [a0, a1] h K :=
  T_of_body tabOK Try.func76 (code := bodyOf Try.f76) (by kernel_rfl) (by kernel_rfl) (by kernel_rfl) (by kernel_rfl) hw
def laws_szValueS_c : C := .seq (.reg [⟨(some 4), none, .mov (.c (.int .i64 0))⟩]) (.seq (.reg [⟨(some 5), none, .mov (.t 1)⟩,
  ⟨(some 6), none, .mov (.t 0)⟩,
  ⟨(some 7), none, .len false (.t 6)⟩,
  ⟨(some 8), none, .bin .sub (.num) (.t 5) (.t 7)⟩,
  ⟨(some 1), none, .mov (.t 8)⟩]) (.seq (.seq (.reg [⟨(some 9), none, .mov (.t 1)⟩,
  ⟨(some 10), none, .bin .lss (.num) (.t 9) (.c (.int .i64 0))⟩]) (.cond (.t 10) (.seq (.reg [⟨(some 4), none, .mov (.c (.int .i64 (-1)))⟩]) (.ret)) (.skip))) (.seq (.reg [⟨(some 11), none, .mov (.t 1)⟩,
  ⟨(some 4), none, .mov (.t 11)⟩]) (.ret))))
def laws_szValueS_r : List RS := [.t 4]
theorem laws_szValueS_e {a0 a1 : AV} {h : AH} {K : AV → AH → Prop} (hw : TC Try.prog Θ Γ laws_szValueS_c (retQ laws_szValueS_r K) ⟨[a0, a1, u, u, u, u, u, u, u, u, u, u], [], h⟩) : T Try.prog Γ Fn.laws_szValueS [a0, a1] h K :=
  T_of_body tabOK Try.func83 (code := bodyOf Try.f83) (by kernel_rfl) (by kernel_rfl) (by kernel_rfl) (by kernel_rfl) hw
def laws_szAskerS_c : C := .seq (.reg [⟨(some 4), none, .mov (.c (.int .i64 0))⟩]) (.seq (.reg [⟨(some 5), none, .mov (.t 1)⟩,
  ⟨(some 6), none, .mov (.t 0)⟩,
  ⟨(some 7), none, .len false (.t 6)⟩,
  ⟨(some 8), none, .bin .sub (.num) (.t 5) (.t 7)⟩,
  ⟨(some 1), none, .mov (.t 8)⟩]) (.seq (.seq (.reg [⟨(some 9), none, .mov (.t 1)⟩,
  ⟨(some 10), none, .bin .lss (.num) (.t 9) (.c (.int .i64 0))⟩]) (.cond (.t 10) (.seq (.reg [⟨(some 4), none, .mov (.c (.int .i64 (-1)))⟩]) (.ret)) (.skip))) (.seq (.reg [⟨(some 11), none, .mov (.t 1)⟩,
  ⟨(some 4), none, .mov (.t 11)⟩]) (.ret))))
def laws_szAskerS_r : List RS := [.t 4]
theorem laws_szAskerS_e {a0 a1 : AV} {h : AH} {K : AV → AH → Prop} (hw : TC Try.prog Θ Γ laws_szAskerS_c (retQ laws_szAskerS_r K) ⟨[a0, a1, u, u, u, u, u, u, u, u, u, u], [], h⟩) : T Try.prog Γ Fn.laws_szAskerS [a0, a1] h K :=
  T_of_body tabOK Try.func84 (code := bodyOf Try.f84) (by kernel_rfl) (by kernel_rfl) (by kernel_rfl) (by kernel_rfl) hw
def laws_szExportS_c : C := .seq (.reg [⟨(some 4), none, .mov (.c (.int .i64 0))⟩]) (.seq (.reg [⟨(some 5), none, .mov (.t 1)⟩,
  ⟨(some 6), none, .mov (.t 0)⟩,
  ⟨(some 7), none, .len false (.t 6)⟩,
  ⟨(some 8), none, .bin .sub (.num) (.t 5) (.t 7)⟩,
  ⟨(some 1), none, .mov (.t 8)⟩]) (.seq (.seq (.reg [⟨(some 9), none, .mov (.t 1)⟩,
  ⟨(some 10), none, .bin .lss (.num) (.t 9) (.c (.int .i64 0))⟩]) (.cond (.t 10) (.seq (.reg [⟨(some 4), none, .mov (.c (.int .i64 (-1)))⟩]) (.ret)) (.skip))) (.seq (.reg [⟨(some 11), none, .mov (.t 1)⟩,
  ⟨(some 4), none, .mov (.t 11)⟩]) (.ret))))
def laws_szExportS_r : List RS := [.t 4]
theorem laws_szExportS_e {a0 a1 : AV} {h : AH} {K : AV → AH → Prop} (hw : TC Try.prog Θ Γ laws_szExportS_c (retQ laws_szExportS_r K) ⟨[a0, a1, u, u, u, u, u, u, u, u, u, u], [], h⟩) : T Try.prog Γ Fn.laws_szExportS [a0, a1] h K :=
  T_of_body tabOK Try.func85 (code := bodyOf Try.f85) (by kernel_rfl) (by kernel_rfl) (by kernel_rfl) (by kernel_rfl) hw
def laws_szQuestionS_c : C := .seq (.reg [⟨(some 4), none, .mov (.c (.int .i64 0))⟩]) (.seq (.reg [⟨(some 5), none, .mov (.t 1)⟩,
  ⟨(some 6), none, .mov (.t 0)⟩,
  ⟨(some 7), none, .len false (.t 6)⟩,
  ⟨(some 8), none, .bin .sub (.num) (.t 5) (.t 7)⟩,
  ⟨(some 1), none, .mov (.t 8)⟩]) (.seq (.seq (.reg [⟨(some 9), none, .mov (.t 1)⟩,
  ⟨(some 10), none, .bin .lss (.num) (.t 9) (.c (.int .i64 0))⟩]) (.cond (.t 10) (.seq (.reg [⟨(some 4), none, .mov (.c (.int .i64 (-1)))⟩]) (.ret)) (.skip))) (.seq (.reg [⟨(some 11), none, .mov (.t 1)⟩,
  ⟨(some 4), none, .mov (.t 11)⟩]) (.ret))))
def laws_szQuestionS_r : List RS := [.t 4]
theorem laws_szQuestionS_e {a0 a1 : AV} {h : AH} {K : AV → AH → Prop} (hw : TC Try.prog Θ Γ laws_szQuestionS_c (retQ laws_szQuestionS_r K) ⟨[a0, a1, u, u, u, u, u, u, u, u, u, u], [], h⟩) : T Try.prog Γ Fn.laws_szQuestionS [a0, a1] h K :=
  T_of_body tabOK Try.func86 (code := bodyOf Try.f86) (by kernel_rfl) (by kernel_rfl) (by kernel_rfl) (by kernel_rfl) hw
def laws_szMessage_c : C := .seq (.reg [⟨(some 2), none, .box (.t 0)⟩,
  ⟨(some 4), none, .mov (.c (.int .i64 0))⟩]) (.seq (.reg [⟨(some 5), none, .mov (.t 1)⟩,
  ⟨(some 6), none, .fld 4 (.t 2)⟩,
  ⟨(some 7), none, .load 1 false (.t 6)⟩,
  ⟨(some 8), none, .len true (.t 7)⟩,
  ⟨(some 9), none, .bin .sub (.num) (.t 5) (.t 8)⟩,
  ⟨(some 1), none, .mov (.t 9)⟩]) (.seq (.seq (.reg [⟨(some 10), none, .mov (.t 1)⟩,
  ⟨(some 11), none, .bin .lss (.num) (.t 10) (.c (.int .i64 0))⟩]) (.cond (.t 11) (.seq (.reg [⟨(some 4), none, .mov (.c (.int .i64 (-1)))⟩]) (.ret)) (.skip))) (.seq (.reg [⟨(some 12), none, .fld 5 (.t 2)⟩,
  ⟨(some 13), none, .load 1 false (.t 12)⟩,
  ⟨(some 14), none, .mov (.t 1)⟩,
  ⟨(some 15), none, .call (.c (.fn Fn.laws_szWireS [] [])) [.t 13, .t 14]⟩,
  ⟨(some 1), none, .mov (.t 15)⟩]) (.seq (.seq (.reg [⟨(some 16), none, .mov (.t 1)⟩,
  ⟨(some 17), none, .bin .lss (.num) (.t 16) (.c (.int .i64 0))⟩]) (.cond (.t 17) (.seq (.reg [⟨(some 4), none, .mov (.c (.int .i64 (-1)))⟩]) (.ret)) (.skip))) (.seq (.reg [⟨(some 18), none, .mov (.t 1)⟩,
  ⟨(some 4), none, .mov (.t 18)⟩]) (.ret))))))
def laws_szMessage_r : List RS := [.t 4]
theorem laws_szMessage_e {a0 a1 : AV} {h : AH} {K : AV → AH → Prop} (hw : TC Try.prog Θ Γ laws_szMessage_c (retQ laws_szMessage_r K) ⟨[a0, a1, u, u, u, u, u, u, u, u, u, u, u, u, u, u, u, u, u], [], h⟩) : T Try.prog Γ Fn.laws_szMessage [a0, a1] h K :=
  T_of_body tabOK Try.func87 (code := bodyOf Try.f87) (by kernel_rfl) (by kernel_rfl) (by kernel_rfl) (by kernel_rfl) hw
def spec_IsValue_c : C := .seq (.reg [⟨(some 2), none, .box (.t 0)⟩,
  ⟨(some 4), none, .mov (.c (.bool false))⟩]) (.seq (.seq (.reg [⟨(some 5), none, .fld 0 (.t 2)⟩,
  ⟨(some 6), none, .load 1 false (.t 5)⟩]) (.block 0 (.seq (.reg [⟨(some 8), none, .bin .eql (.num) (.t 6) (.c (.int .i64 0))⟩,
  ⟨(some 7), none, .mov (.t 8)⟩]) (.cond (.t 7) (.seq (.reg [⟨(some 9), none, .fld 1 (.t 2)⟩,
  ⟨(some 10), none, .load 1 false (.t 9)⟩,
  ⟨(some 11), none, .call (.c (.fn Fn.spec_l1In [] [])) [.t 10, .c (.int .i64 0), .c (.int .i64 999999)]⟩,
  ⟨(some 4), none, .mov (.t 11)⟩]) (.ret)) (.seq (.reg [⟨(some 13), none, .bin .eql (.num) (.t 6) (.c (.int .i64 1))⟩,
  ⟨(some 12), none, .mov (.t 13)⟩]) (.cond (.t 12) (.seq (.reg [⟨(some 14), none, .fld 1 (.t 2)⟩,
  ⟨(some 15), none, .load 1 false (.t 14)⟩,
  ⟨(some 16), none, .bin .geq (.num) (.t 15) (.c (.int .i64 0))⟩,
  ⟨(some 17), none, .mov (.t 16)⟩,
  ⟨(some 18), (some (3, true)), .fld 1 (.t 2)⟩,
  ⟨(some 19), (some (3, true)), .load 1 false (.t 18)⟩,
  ⟨(some 20), (some (3, true)), .mov (.t 1)⟩,
  ⟨(some 21), (some (3, true)), .bin .lss (.num) (.t 19) (.t 20)⟩,
  ⟨(some 22), none, .pick (.t 17) (.t 21) (.c (.bool false))⟩,
  ⟨(some 4), none, .mov (.t 22)⟩]) (.ret)) (.skip))))))) (.seq (.reg [⟨(some 23), none, .fld 0 (.t 2)⟩,
  ⟨(some 24), none, .load 1 false (.t 23)⟩,
  ⟨(some 25), none, .bin .eql (.num) (.t 24) (.c (.int .i64 2))⟩,
  ⟨(some 26), none, .mov (.t 25)⟩,
  ⟨(some 27), (some (3, true)), .fld 1 (.t 2)⟩,
  ⟨(some 28), (some (3, true)), .load 1 false (.t 27)⟩,
  ⟨(some 29), (some (3, true)), .bin .eql (.num) (.t 28) (.c (.int .i64 0))⟩,
  ⟨(some 30), none, .pick (.t 26) (.t 29) (.c (.bool false))⟩,
  ⟨(some 4), none, .mov (.t 30)⟩]) (.ret)))
def spec_IsValue_r : List RS := [.t 4]
theorem spec_IsValue_e {a0 a1 : AV} {h : AH} {K : AV → AH → Prop} (hw : TC Try.prog Θ Γ spec_IsValue_c (retQ spec_IsValue_r K) ⟨[a0, a1, u, u, u, u, u, u, u, u, u, u, u, u, u, u, u, u, u, u, u, u, u, u, u, u, u, u, u, u, u], [], h⟩) : T Try.prog Γ Fn.spec_IsValue [a0, a1] h K :=
  T_of_body tabOK Try.func88 (code := bodyOf Try.f88) (by kernel_rfl) (by kernel_rfl) (by kernel_rfl) (by kernel_rfl) hw
def laws_toValueS_c : C := .seq (.reg [⟨(some 2), none, .mov (.c (.nils))⟩]) (.seq (.reg [⟨(some 5), none, .mov (.t 0)⟩,
  ⟨(some 6), none, .len false (.t 5)⟩,
  ⟨(some 7), none, .mks 2 16 [.int .i64 0, .int .i64 0] (.t 6) (.t 6)⟩,
  ⟨(some 3), none, .mov (.t 7)⟩]) (.seq (.seq (.reg [⟨(some 4), none, .mov (.c (.int .i64 0))⟩]) (.block 0 (.loop (.seq (.seq (.reg [⟨(some 8), none, .mov (.t 4)⟩,
  ⟨(some 9), none, .mov (.t 0)⟩,
  ⟨(some 10), none, .len false (.t 9)⟩,
  ⟨(some 11), none, .bin .lss (.num) (.t 8) (.t 10)⟩]) (.cond (.t 11) (.skip) (.exit 0))) (.seq (.block 1 (.reg [⟨(some 14), none, .mov (.t 3)⟩,
  ⟨(some 15), none, .mov (.t 4)⟩,
  ⟨(some 16), none, .mov (.t 0)⟩,
  ⟨(some 17), none, .mov (.t 4)⟩,
  ⟨(some 18), none, .idxs 2 (.t 16) (.t 17)⟩,
  ⟨(some 19), none, .load 2 true (.t 18)⟩,
  ⟨(some 20), none, .call (.c (.fn Fn.laws_toValue [] [])) [.t 19]⟩,
  ⟨(some 21), none, .idxs 2 (.t 14) (.t 15)⟩,
  ⟨none, none, .store 2 (.t 21) (.t 20)⟩])) (.reg [⟨(some 12), none, .mov (.t 4)⟩,
  ⟨(some 13), none, .bin .add (.num) (.t 12) (.c (.int .i64 1))⟩,
  ⟨(some 4), none, .mov (.t 13)⟩])))))) (.seq (.reg [⟨(some 22), none, .mov (.t 3)⟩,
  ⟨(some 2), none, .mov (.t 22)⟩]) (.ret))))
def laws_toValueS_r : List RS := [.t 2]
def laws_toValueS_s0 (t0 t3 t4 : AV) (loc : List (List AV)) (h : AH) : St := ⟨[t0, .any, .any, t3, t4, .any, .any, .any, .any, .any, .any, .any, .any, .any, .any, .any, .any, .any, .any, .any, .any, .any, .any], loc, h⟩
theorem laws_toValueS_e {a0 : AV} {h : AH} {K : AV → AH → Prop} (hw : TC Try.prog Θ Γ laws_toValueS_c (retQ laws_toValueS_r K) ⟨[a0, u, u, u, u, u, u, u, u, u, u, u, u, u, u, u, u, u, u, u, u, u, u], [], h⟩) : T Try.prog Γ Fn.laws_toValueS [a0] h K :=
  T_of_body tabOK Try.func89 (code := bodyOf Try.f89) (by kernel_rfl) (by kernel_rfl) (by kernel_rfl) (by kernel_rfl) hw
def laws_toValue_c : C := .seq (.reg [⟨(some 1), none, .box (.t 0)⟩,
  ⟨(some 2), none, .alloc [.int .i64 0, .int .i64 0]⟩]) (.seq (.reg [⟨(some 3), none, .alloc [.int .i64 0, .int .i64 0]⟩]) (.seq (.reg [⟨(some 4), none, .fld 0 (.t 1)⟩,
  ⟨(some 5), none, .load 1 false (.t 4)⟩,
  ⟨(some 6), none, .fld 0 (.t 3)⟩,
  ⟨none, none, .store 1 (.t 6) (.t 5)⟩]) (.seq (.reg [⟨(some 7), none, .fld 1 (.t 1)⟩,
  ⟨(some 8), none, .load 1 false (.t 7)⟩,
  ⟨(some 9), none, .fld 1 (.t 3)⟩,
  ⟨none, none, .store 1 (.t 9) (.t 8)⟩]) (.seq (.reg [⟨(some 10), none, .load 2 true (.t 3)⟩,
  ⟨none, none, .store 2 (.t 2) (.t 10)⟩]) (.ret)))))
def laws_toValue_r : List RS := [.cell 2 2 true]
theorem laws_toValue_e {a0 : AV} {h : AH} {K : AV → AH → Prop} (hw : TC Try.prog Θ Γ laws_toValue_c (retQ laws_toValue_r K) ⟨[a0, u, u, u, u, u, u, u, u, u, u], [], h⟩) : T Try.prog Γ Fn.laws_toValue [a0] h K :=
  T_of_body tabOK Try.func90 (code := bodyOf Try.f90) (by kernel_rfl) (by kernel_rfl) (by kernel_rfl) (by kernel_rfl) hw
def laws_toAskerS_c : C := .seq (.reg [⟨(some 2), none, .mov (.c (.nils))⟩]) (.seq (.reg [⟨(some 5), none, .mov (.t 0)⟩,
  ⟨(some 6), none, .len false (.t 5)⟩,
  ⟨(some 7), none, .mks 2 16 [.int .i64 0, .int .i64 0] (.t 6) (.t 6)⟩,
  ⟨(some 3), none, .mov (.t 7)⟩]) (.seq (.seq (.reg [⟨(some 4), none, .mov (.c (.int .i64 0))⟩]) (.block 0 (.loop (.seq (.seq (.reg [⟨(some 8), none, .mov (.t 4)⟩,
  ⟨(some 9), none, .mov (.t 0)⟩,
  ⟨(some 10), none, .len false (.t 9)⟩,
  ⟨(some 11), none, .bin .lss (.num) (.t 8) (.t 10)⟩]) (.cond (.t 11) (.skip) (.exit 0))) (.seq (.block 1 (.reg [⟨(some 14), none, .mov (.t 3)⟩,
  ⟨(some 15), none, .mov (.t 4)⟩,
  ⟨(some 16), none, .mov (.t 0)⟩,
  ⟨(some 17), none, .mov (.t 4)⟩,
  ⟨(some 18), none, .idxs 2 (.t 16) (.t 17)⟩,
  ⟨(some 19), none, .load 2 true (.t 18)⟩,
  ⟨(some 20), none, .call (.c (.fn Fn.laws_toAsker [] [])) [.t 19]⟩,
  ⟨(some 21), none, .idxs 2 (.t 14) (.t 15)⟩,
  ⟨none, none, .store 2 (.t 21) (.t 20)⟩])) (.reg [⟨(some 12), none, .mov (.t 4)⟩,
  ⟨(some 13), none, .bin .add (.num) (.t 12) (.c (.int .i64 1))⟩,
  ⟨(some 4), none, .mov (.t 13)⟩])))))) (.seq (.reg [⟨(some 22), none, .mov (.t 3)⟩,
  ⟨(some 2), none, .mov (.t 22)⟩]) (.ret))))
def laws_toAskerS_r : List RS := [.t 2]
def laws_toAskerS_s0 (t0 t3 t4 : AV) (loc : List (List AV)) (h : AH) : St := ⟨[t0, .any, .any, t3, t4, .any, .any, .any, .any, .any, .any, .any, .any, .any, .any, .any, .any, .any, .any, .any, .any, .any, .any], loc, h⟩
theorem laws_toAskerS_e {a0 : AV} {h : AH} {K : AV → AH → Prop} (hw : TC Try.prog Θ Γ laws_toAskerS_c (retQ laws_toAskerS_r K) ⟨[a0, u, u, u, u, u, u, u, u, u, u, u, u, u, u, u, u, u, u, u, u, u, u], [], h⟩) : T Try.prog Γ Fn.laws_toAskerS [a0] h K :=
  T_of_body tabOK Try.func91 (code := bodyOf Try.f91) (by kernel_rfl) (by kernel_rfl) (by kernel_rfl) (by kernel_rfl) hw
def laws_toTag_c : C := .seq (.reg [⟨(some 1), none, .box (.t 0)⟩,
  ⟨(some 2), none, .alloc [.int .i64 0, .int .i64 0, .int .i64 0]⟩]) (.seq (.reg [⟨(some 3), none, .alloc [.int .i64 0, .int .i64 0, .int .i64 0]⟩]) (.seq (.reg [⟨(some 4), none, .fld 0 (.t 1)⟩,
  ⟨(some 5), none, .load 1 false (.t 4)⟩,
  ⟨(some 6), none, .fld 0 (.t 3)⟩,
  ⟨none, none, .store 1 (.t 6) (.t 5)⟩]) (.seq (.reg [⟨(some 7), none, .fld 1 (.t 1)⟩,
  ⟨(some 8), none, .load 1 false (.t 7)⟩,
  ⟨(some 9), none, .fld 1 (.t 3)⟩,
  ⟨none, none, .store 1 (.t 9) (.t 8)⟩]) (.seq (.reg [⟨(some 10), none, .fld 2 (.t 1)⟩,
  ⟨(some 11), none, .load 1 false (.t 10)⟩,
  ⟨(some 12), none, .fld 2 (.t 3)⟩,
  ⟨none, none, .store 1 (.t 12) (.t 11)⟩]) (.seq (.reg [⟨(some 13), none, .load 3 true (.t 3)⟩,
  ⟨none, none, .store 3 (.t 2) (.t 13)⟩]) (.ret))))))
def laws_toTag_r : List RS := [.cell 2 3 true]
theorem laws_toTag_e {a0 : AV} {h : AH} {K : AV → AH → Prop} (hw : TC Try.prog Θ Γ laws_toTag_c (retQ laws_toTag_r K) ⟨[a0, u, u, u, u, u, u, u, u, u, u, u, u, u], [], h⟩) : T Try.prog Γ Fn.laws_toTag [a0] h K :=
  T_of_body tabOK Try.func92 (code := bodyOf Try.f92) (by kernel_rfl) (by kernel_rfl) (by kernel_rfl) (by kernel_rfl) hw
def laws_toExportS_c : C := .seq (.reg [⟨(some 2), none, .mov (.c (.nils))⟩]) (.seq (.reg [⟨(some 5), none, .mov (.t 0)⟩,
  ⟨(some 6), none, .len false (.t 5)⟩,
  ⟨(some 7), none, .mks 3 24 [.int .i64 0, .int .i64 0, .int .i64 0] (.t 6) (.t 6)⟩,
  ⟨(some 3), none, .mov (.t 7)⟩]) (.seq (.seq (.reg [⟨(some 4), none, .mov (.c (.int .i64 0))⟩]) (.block 0 (.loop (.seq (.seq (.reg [⟨(some 8), none, .mov (.t 4)⟩,
  ⟨(some 9), none, .mov (.t 0)⟩,
  ⟨(some 10), none, .len false (.t 9)⟩,
  ⟨(some 11), none, .bin .lss (.num) (.t 8) (.t 10)⟩]) (.cond (.t 11) (.skip) (.exit 0))) (.seq (.block 1 (.reg [⟨(some 14), none, .mov (.t 3)⟩,
  ⟨(some 15), none, .mov (.t 4)⟩,
  ⟨(some 16), none, .mov (.t 0)⟩,
  ⟨(some 17), none, .mov (.t 4)⟩,
  ⟨(some 18), none, .idxs 3 (.t 16) (.t 17)⟩,
  ⟨(some 19), none, .load 3 true (.t 18)⟩,
  ⟨(some 20), none, .call (.c (.fn Fn.laws_toExport [] [])) [.t 19]⟩,
  ⟨(some 21), none, .idxs 3 (.t 14) (.t 15)⟩,
  ⟨none, none, .store 3 (.t 21) (.t 20)⟩])) (.reg [⟨(some 12), none, .mov (.t 4)⟩,
  ⟨(some 13), none, .bin .add (.num) (.t 12) (.c (.int .i64 1))⟩,
  ⟨(some 4), none, .mov (.t 13)⟩])))))) (.seq (.reg [⟨(some 22), none, .mov (.t 3)⟩,
  ⟨(some 2), none, .mov (.t 22)⟩]) (.ret))))
def laws_toExportS_r : List RS := [.t 2]
def laws_toExportS_s0 (t0 t3 t4 : AV) (loc : List (List AV)) (h : AH) : St := ⟨[t0, .any, .any, t3, t4, .any, .any, .any, .any, .any, .any, .any, .any, .any, .any, .any, .any, .any, .any, .any, .any, .any, .any], loc, h⟩
theorem laws_toExportS_e {a0 : AV} {h : AH} {K : AV → AH → Prop} (hw : TC Try.prog Θ Γ laws_toExportS_c (retQ laws_toExportS_r K) ⟨[a0, u, u, u, u, u, u, u, u, u, u, u, u, u, u, u, u, u, u, u, u, u, u], [], h⟩) : T Try.prog Γ Fn.laws_toExportS [a0] h K :=
  T_of_body tabOK Try.func93 (code := bodyOf Try.f93) (by kernel_rfl) (by kernel_rfl) (by kernel_rfl) (by kernel_rfl) hw
def laws_toQuestionS_c : C := .seq (.reg [⟨(some 2), none, .mov (.c (.nils))⟩]) (.seq (.reg [⟨(some 5), none, .mov (.t 0)⟩,
  ⟨(some 6), none, .len false (.t 5)⟩,
  ⟨(some 7), none, .mks 2 16 [.int .i64 0, .int .i64 0] (.t 6) (.t 6)⟩,
  ⟨(some 3), none, .mov (.t 7)⟩]) (.seq (.seq (.reg [⟨(some 4), none, .mov (.c (.int .i64 0))⟩]) (.block 0 (.loop (.seq (.seq (.reg [⟨(some 8), none, .mov (.t 4)⟩,
  ⟨(some 9), none, .mov (.t 0)⟩,
  ⟨(some 10), none, .len false (.t 9)⟩,
  ⟨(some 11), none, .bin .lss (.num) (.t 8) (.t 10)⟩]) (.cond (.t 11) (.skip) (.exit 0))) (.seq (.block 1 (.reg [⟨(some 14), none, .mov (.t 3)⟩,
  ⟨(some 15), none, .mov (.t 4)⟩,
  ⟨(some 16), none, .mov (.t 0)⟩,
  ⟨(some 17), none, .mov (.t 4)⟩,
  ⟨(some 18), none, .idxs 2 (.t 16) (.t 17)⟩,
  ⟨(some 19), none, .load 2 true (.t 18)⟩,
  ⟨(some 20), none, .call (.c (.fn Fn.laws_toQuestion [] [])) [.t 19]⟩,
  ⟨(some 21), none, .idxs 2 (.t 14) (.t 15)⟩,
  ⟨none, none, .store 2 (.t 21) (.t 20)⟩])) (.reg [⟨(some 12), none, .mov (.t 4)⟩,
  ⟨(some 13), none, .bin .add (.num) (.t 12) (.c (.int .i64 1))⟩,
  ⟨(some 4), none, .mov (.t 13)⟩])))))) (.seq (.reg [⟨(some 22), none, .mov (.t 3)⟩,
  ⟨(some 2), none, .mov (.t 22)⟩]) (.ret))))
def laws_toQuestionS_r : List RS := [.t 2]
def laws_toQuestionS_s0 (t0 t3 t4 : AV) (loc : List (List AV)) (h : AH) : St := ⟨[t0, .any, .any, t3, t4, .any, .any, .any, .any, .any, .any, .any, .any, .any, .any, .any, .any, .any, .any, .any, .any, .any, .any], loc, h⟩
theorem laws_toQuestionS_e {a0 : AV} {h : AH} {K : AV → AH → Prop} (hw : TC Try.prog Θ Γ laws_toQuestionS_c (retQ laws_toQuestionS_r K) ⟨[a0, u, u, u, u, u, u, u, u, u, u, u, u, u, u, u, u, u, u, u, u, u, u], [], h⟩) : T Try.prog Γ Fn.laws_toQuestionS [a0] h K :=
  T_of_body tabOK Try.func94 (code := bodyOf Try.f94) (by kernel_rfl) (by kernel_rfl) (by kernel_rfl) (by kernel_rfl) hw
def laws_toMessage_c : C := .seq (.reg [⟨(some 1), none, .box (.t 0)⟩,
  ⟨(some 2), none, .alloc [.int .i64 0, .int .i64 0, .int .i64 0, .int .i64 0, .str ⟨#[]⟩, .nils, .int .i64 0, .int .i64 0, .int .i64 0, .int .i64 0, .int .i64 0, .int .i64 0]⟩]) (.seq (.reg [⟨(some 3), none, .alloc [.int .i64 0, .int .i64 0, .int .i64 0, .int .i64 0, .str ⟨#[]⟩, .nils, .int .i64 0, .int .i64 0, .int .i64 0, .int .i64 0, .int .i64 0, .int .i64 0]⟩]) (.seq (.reg [⟨(some 4), none, .fld 0 (.t 1)⟩,
  ⟨(some 5), none, .load 1 false (.t 4)⟩,
  ⟨(some 6), none, .fld 0 (.t 3)⟩,
  ⟨none, none, .store 1 (.t 6) (.t 5)⟩]) (.seq (.reg [⟨(some 7), none, .fld 1 (.t 1)⟩,
  ⟨(some 8), none, .load 1 false (.t 7)⟩,
  ⟨(some 9), none, .fld 1 (.t 3)⟩,
  ⟨none, none, .store 1 (.t 9) (.t 8)⟩]) (.seq (.reg [⟨(some 10), none, .fld 2 (.t 1)⟩,
  ⟨(some 11), none, .load 1 false (.t 10)⟩,
  ⟨(some 12), none, .fld 2 (.t 3)⟩,
  ⟨none, none, .store 1 (.t 12) (.t 11)⟩]) (.seq (.reg [⟨(some 13), none, .fld 3 (.t 1)⟩,
  ⟨(some 14), none, .load 1 false (.t 13)⟩,
  ⟨(some 15), none, .fld 3 (.t 3)⟩,
  ⟨none, none, .store 1 (.t 15) (.t 14)⟩]) (.seq (.reg [⟨(some 16), none, .fld 4 (.t 1)⟩,
  ⟨(some 17), none, .load 1 false (.t 16)⟩,
  ⟨(some 18), none, .fld 4 (.t 3)⟩,
  ⟨none, none, .store 1 (.t 18) (.t 17)⟩]) (.seq (.reg [⟨(some 19), none, .fld 5 (.t 1)⟩,
  ⟨(some 20), none, .load 1 false (.t 19)⟩,
  ⟨(some 21), none, .call (.c (.fn Fn.laws_toWireS [] [])) [.t 20]⟩,
  ⟨(some 22), none, .fld 5 (.t 3)⟩,
  ⟨none, none, .store 1 (.t 22) (.t 21)⟩]) (.seq (.reg [⟨(some 23), none, .fld 6 (.t 1)⟩,
  ⟨(some 24), none, .load 2 true (.t 23)⟩,
  ⟨(some 25), none, .call (.c (.fn Fn.laws_toWire [] [])) [.t 24]⟩,
  ⟨(some 26), none, .fld 6 (.t 3)⟩,
  ⟨none, none, .store 2 (.t 26) (.t 25)⟩]) (.seq (.reg [⟨(some 27), none, .fld 8 (.t 1)⟩,
  ⟨(some 28), none, .load 1 false (.t 27)⟩,
  ⟨(some 29), none, .fld 8 (.t 3)⟩,
  ⟨none, none, .store 1 (.t 29) (.t 28)⟩]) (.seq (.reg [⟨(some 30), none, .fld 9 (.t 1)⟩,
  ⟨(some 31), none, .load 3 true (.t 30)⟩,
  ⟨(some 32), none, .call (.c (.fn Fn.laws_toTag [] [])) [.t 31]⟩,
  ⟨(some 33), none, .fld 9 (.t 3)⟩,
  ⟨none, none, .store 3 (.t 33) (.t 32)⟩]) (.seq (.reg [⟨(some 34), none, .load 12 true (.t 3)⟩,
  ⟨none, none, .store 12 (.t 2) (.t 34)⟩]) (.ret))))))))))))
def laws_toMessage_r : List RS := [.cell 2 12 true]
theorem laws_toMessage_e {a0 : AV} {h : AH} {K : AV → AH → Prop} (hw : TC Try.prog Θ Γ laws_toMessage_c (retQ laws_toMessage_r K) ⟨[a0, u, u, u, u, u, u, u, u, u, u, u, u, u, u, u, u, u, u, u, u, u, u, u, u, u, u, u, u, u, u, u, u, u, u], [], h⟩) : T Try.prog Γ Fn.laws_toMessage [a0] h K :=
  T_of_body tabOK Try.func95 (code := bodyOf Try.f95) (by kernel_rfl) (by kernel_rfl) (by kernel_rfl) (by kernel_rfl) hw
def slices_ContainsFunc_iimpl_Sent_impl_Sent_c : C := .seq (.reg [⟨(some 4), none, .mov (.c (.bool false))⟩]) (.seq (.reg [⟨(some 5), none, .mov (.t 0)⟩,
  ⟨(some 6), none, .mov (.t 1)⟩,
  ⟨(some 7), none, .call (.c (.fn Fn.slices_IndexFunc_iimpl_Sent_impl_Sent [] [])) [.t 5, .t 6]⟩,
  ⟨(some 8), none, .bin .geq (.num) (.t 7) (.c (.int .i64 0))⟩,
  ⟨(some 4), none, .mov (.t 8)⟩]) (.ret))
def slices_ContainsFunc_iimpl_Sent_impl_Sent_r : List RS := [.t 4]
theorem slices_ContainsFunc_iimpl_Sent_impl_Sent_e {a0 a1 : AV} {h : AH} {K : AV → AH → Prop} (hw : TC Try.prog Θ Γ slices_ContainsFunc_iimpl_Sent_impl_Sent_c (retQ slices_ContainsFunc_iimpl_Sent_impl_Sent_r K) ⟨[a0, a1, u, u, u, u, u, u, u], [], h⟩) : T Try.prog Γ Fn.slices_ContainsFunc_iimpl_Sent_impl_Sent [a0, a1] h K :=
  T_of_body tabOK Try.func96 (code := bodyOf Try.f96) (by kernel_rfl) (by kernel_rfl) (by kernel_rfl) (by kernel_rfl) hw
def impl_Vat_sentsOk_1_c : C := .seq (.reg [⟨(some 2), none, .box (.t 0)⟩,
  ⟨(some 3), none, .mov (.c (.bool false))⟩]) (.seq (.reg [⟨(some 4), none, .load 1 false (.t 1)⟩,
  ⟨(some 5), none, .fld 0 (.t 2)⟩,
  ⟨(some 6), none, .load 1 false (.t 5)⟩,
  ⟨(some 7), none, .call (.c (.fn Fn.impl_Vat_entity [] [])) [.t 4, .t 6]⟩,
  ⟨(some 8), none, .bin .eql (.nilp) (.t 7) (.c (.nilp))⟩,
  ⟨(some 9), none, .mov (.t 8)⟩,
  ⟨(some 10), (some (5, false)), .load 1 false (.t 1)⟩,
  ⟨(some 11), (some (5, false)), .fld 3 (.t 2)⟩,
  ⟨(some 12), (some (5, false)), .load 1 false (.t 11)⟩,
  ⟨(some 13), (some (5, false)), .call (.c (.fn Fn.impl_Vat_entity [] [])) [.t 10, .t 12]⟩,
  ⟨(some 14), (some (5, false)), .bin .eql (.nilp) (.t 13) (.c (.nilp))⟩,
  ⟨(some 15), none, .pick (.t 9) (.c (.bool true)) (.t 14)⟩,
  ⟨(some 3), none, .mov (.t 15)⟩]) (.ret))
def impl_Vat_sentsOk_1_r : List RS := [.t 3]
theorem impl_Vat_sentsOk_1_e {a0 a1 : AV} {h : AH} {K : AV → AH → Prop} (hw : TC Try.prog Θ Γ impl_Vat_sentsOk_1_c (retQ impl_Vat_sentsOk_1_r K) ⟨[a0, a1, u, u, u, u, u, u, u, u, u, u, u, u, u, u], [], h⟩) : T Try.prog Γ Fn.impl_Vat_sentsOk_1 [a0, a1] h K :=
  T_of_body tabOK Try.func97 (code := bodyOf Try.f97) (by kernel_rfl) (by kernel_rfl) (by kernel_rfl) (by kernel_rfl) hw
def impl_Vat_entity_c : C := .seq (.reg [⟨(some 4), none, .mov (.c (.nilp))⟩]) (.seq (.seq (.reg [⟨(some 5), none, .mov (.t 1)⟩,
  ⟨(some 6), none, .mov (.t 0)⟩,
  ⟨(some 7), none, .nilchk (.t 6)⟩,
  ⟨(some 8), none, .fld 1 (.t 7)⟩,
  ⟨(some 9), none, .load 1 false (.t 8)⟩,
  ⟨(some 10), none, .len false (.t 9)⟩,
  ⟨(some 11), none, .bin .sub (.num) (.t 10) (.c (.int .i64 1))⟩,
  ⟨(some 12), none, .call (.c (.fn Fn.impl_in [] [])) [.t 5, .c (.int .i64 0), .t 11]⟩,
  ⟨(some 13), none, .un .not (.t 12)⟩]) (.cond (.t 13) (.seq (.reg [⟨(some 4), none, .mov (.c (.nilp))⟩]) (.ret)) (.skip))) (.seq (.reg [⟨(some 14), none, .mov (.t 0)⟩,
  ⟨(some 15), none, .nilchk (.t 14)⟩,
  ⟨(some 16), none, .fld 1 (.t 15)⟩,
  ⟨(some 17), none, .load 1 false (.t 16)⟩,
  ⟨(some 18), none, .mov (.t 1)⟩,
  ⟨(some 19), none, .idxs 12 (.t 17) (.t 18)⟩,
  ⟨(some 4), none, .mov (.t 19)⟩]) (.ret)))
def impl_Vat_entity_r : List RS := [.t 4]
theorem impl_Vat_entity_e {a0 a1 : AV} {h : AH} {K : AV → AH → Prop} (hw : TC Try.prog Θ Γ impl_Vat_entity_c (retQ impl_Vat_entity_r K) ⟨[a0, a1, u, u, u, u, u, u, u, u, u, u, u, u, u, u, u, u, u, u], [], h⟩) : T Try.prog Γ Fn.impl_Vat_entity [a0, a1] h K :=
  T_of_body tabOK Try.func98 (code := bodyOf Try.f98) (by kernel_rfl) (by kernel_rfl) (by kernel_rfl) (by kernel_rfl) hw
def impl_AreValues_c : C := .seq (.reg [⟨(some 3), none, .box (.t 1)⟩,
  ⟨(some 4), none, .mov (.c (.bool false))⟩]) (.seq (.reg [⟨(some 5), none, .mov (.t 0)⟩,
  ⟨(some 6), none, .mkf Fn.impl_AreValues_1 [] [.t 3]⟩,
  ⟨(some 7), none, .call (.c (.fn Fn.slices_ContainsFunc_iimpl_Value_impl_Value [] [])) [.t 5, .t 6]⟩,
  ⟨(some 8), none, .un .not (.t 7)⟩,
  ⟨(some 4), none, .mov (.t 8)⟩]) (.ret))
def impl_AreValues_r : List RS := [.t 4]
theorem impl_AreValues_e {a0 a1 : AV} {h : AH} {K : AV → AH → Prop} (hw : TC Try.prog Θ Γ impl_AreValues_c (retQ impl_AreValues_r K) ⟨[a0, a1, u, u, u, u, u, u, u], [], h⟩) : T Try.prog Γ Fn.impl_AreValues [a0, a1] h K :=
  T_of_body tabOK Try.func99 (code := bodyOf Try.f99) (by kernel_rfl) (by kernel_rfl) (by kernel_rfl) (by kernel_rfl) hw
def impl_Entity_rest_c : C := .seq (.reg [⟨(some 10), none, .mov (.c (.bool false))⟩]) (.seq (.reg [⟨(some 11), none, .mov (.t 1)⟩,
  ⟨(some 12), none, .mov (.t 11)⟩,
  ⟨(some 13), (some (1, false)), .mov (.t 0)⟩,
  ⟨(some 14), (some (1, false)), .nilchk (.t 13)⟩,
  ⟨(some 15), (some (1, false)), .fld 1 (.t 14)⟩,
  ⟨(some 16), (some (1, false)), .load 1 false (.t 15)⟩,
  ⟨(some 17), (some (1, false)), .bin .eql (.num) (.t 16) (.c (.int .i64 0))⟩,
  ⟨(some 18), none, .pick (.t 12) (.c (.bool true)) (.t 17)⟩,
  ⟨(some 19), none, .mov (.t 18)⟩,
  ⟨(some 20), (some (8, true)), .mov (.t 2)⟩,
  ⟨(some 21), (some (8, true)), .mov (.t 20)⟩,
  ⟨(some 22), (some (10, false)), .mov (.t 0)⟩,
  ⟨(some 23), (some (10, false)), .nilchk (.t 22)⟩,
  ⟨(some 24), (some (10, false)), .fld 2 (.t 23)⟩,
  ⟨(some 25), (some (10, false)), .load 1 false (.t 24)⟩,
  ⟨(some 26), (some (10, false)), .len false (.t 25)⟩,
  ⟨(some 27), (some (10, false)), .bin .eql (.num) (.t 26) (.c (.int .i64 0))⟩,
  ⟨(some 28), (some (8, true)), .pick (.t 21) (.c (.bool true)) (.t 27)⟩,
  ⟨(some 29), none, .pick (.t 19) (.t 28) (.c (.bool false))⟩,
  ⟨(some 30), none, .mov (.t 29)⟩,
  ⟨(some 31), (some (19, true)), .mov (.t 3)⟩,
  ⟨(some 32), (some (19, true)), .mov (.t 31)⟩,
  ⟨(some 33), (some (21, false)), .mov (.t 0)⟩,
  ⟨(some 34), (some (21, false)), .nilchk (.t 33)⟩,
  ⟨(some 35), (some (21, false)), .fld 3 (.t 34)⟩,
  ⟨(some 36), (some (21, false)), .load 1 false (.t 35)⟩,
  ⟨(some 37), (some (21, false)), .bin .eql (.num) (.t 36) (.c (.int .i64 0))⟩,
  ⟨(some 38), (some (21, false)), .mov (.t 37)⟩,
  ⟨(some 39), (some (27, true)), .mov (.t 0)⟩,
  ⟨(some 40), (some (27, true)), .nilchk (.t 39)⟩,
  ⟨(some 41), (some (27, true)), .fld 4 (.t 40)⟩,
  ⟨(some 42), (some (27, true)), .load 2 true (.t 41)⟩,
  ⟨(some 43), (some (27, true)), .build [.int .i64 0, .int .i64 0] []⟩,
  ⟨(some 44), (some (27, true)), .bin .eql (.agg [.int .i64, .int .i64]) (.t 42) (.t 43)⟩,
  ⟨(some 45), (some (21, false)), .pick (.t 38) (.t 44) (.c (.bool false))⟩,
  ⟨(some 46), (some (21, false)), .mov (.t 45)⟩,
  ⟨(some 47), (some (35, true)), .mov (.t 0)⟩,
  ⟨(some 48), (some (35, true)), .nilchk (.t 47)⟩,
  ⟨(some 49), (some (35, true)), .fld 6 (.t 48)⟩,
  ⟨(some 50), (some (35, true)), .load 1 false (.t 49)⟩,
  ⟨(some 51), (some (35, true)), .len false (.t 50)⟩,
  ⟨(some 52), (some (35, true)), .bin .eql (.num) (.t 51) (.c (.int .i64 0))⟩,
  ⟨(some 53), (some (21, false)), .pick (.t 46) (.t 52) (.c (.bool false))⟩,
  ⟨(some 54), (some (21, false)), .mov (.t 53)⟩,
  ⟨(some 55), (some (43, true)), .mov (.t 0)⟩,
  ⟨(some 56), (some (43, true)), .nilchk (.t 55)⟩,
  ⟨(some 57), (some (43, true)), .fld 7 (.t 56)⟩,
  ⟨(some 58), (some (43, true)), .load 1 false (.t 57)⟩,
  ⟨(some 59), (some (43, true)), .len false (.t 58)⟩,
  ⟨(some 60), (some (43, true)), .bin .eql (.num) (.t 59) (.c (.int .i64 0))⟩,
  ⟨(some 61), (some (21, false)), .pick (.t 54) (.t 60) (.c (.bool false))⟩,
  ⟨(some 62), (some (19, true)), .pick (.t 32) (.c (.bool true)) (.t 61)⟩,
  ⟨(some 63), none, .pick (.t 30) (.t 62) (.c (.bool false))⟩,
  ⟨(some 64), none, .mov (.t 63)⟩,
  ⟨(some 65), (some (53, true)), .mov (.t 4)⟩,
  ⟨(some 66), (some (53, true)), .mov (.t 65)⟩,
  ⟨(some 67), (some (55, false)), .mov (.t 0)⟩,
  ⟨(some 68), (some (55, false)), .nilchk (.t 67)⟩,
  ⟨(some 69), (some (55, false)), .fld 8 (.t 68)⟩,
  ⟨(some 70), (some (55, false)), .load 1 false (.t 69)⟩,
  ⟨(some 71), (some (55, false)), .bin .eql (.num) (.t 70) (.c (.int .i64 0))⟩,
  ⟨(some 72), (some (55, false)), .mov (.t 71)⟩,
  ⟨(some 73), (some (61, true)), .mov (.t 0)⟩,
  ⟨(some 74), (some (61, true)), .nilchk (.t 73)⟩,
  ⟨(some 75), (some (61, true)), .fld 9 (.t 74)⟩,
  ⟨(some 76), (some (61, true)), .load 1 false (.t 75)⟩,
  ⟨(some 77), (some (61, true)), .bin .eql (.num) (.t 76) (.c (.int .i64 0))⟩,
  ⟨(some 78), (some (55, false)), .pick (.t 72) (.t 77) (.c (.bool false))⟩,
  ⟨(some 79), (some (55, false)), .mov (.t 78)⟩,
  ⟨(some 80), (some (68, true)), .mov (.t 0)⟩,
  ⟨(some 81), (some (68, true)), .nilchk (.t 80)⟩,
  ⟨(some 82), (some (68, true)), .fld 10 (.t 81)⟩,
  ⟨(some 83), (some (68, true)), .load 1 false (.t 82)⟩,
  ⟨(some 84), (some (68, true)), .bin .eql (.num) (.t 83) (.c (.int .i64 0))⟩,
  ⟨(some 85), (some (55, false)), .pick (.t 79) (.t 84) (.c (.bool false))⟩,
  ⟨(some 86), (some (53, true)), .pick (.t 66) (.c (.bool true)) (.t 85)⟩,
  ⟨(some 87), none, .pick (.t 64) (.t 86) (.c (.bool false))⟩,
  ⟨(some 10), none, .mov (.t 87)⟩]) (.ret))
def impl_Entity_rest_r : List RS := [.t 10]
theorem impl_Entity_rest_e {a0 a1 a2 a3 a4 : AV} {h : AH} {K : AV → AH → Prop} (hw : TC Try.prog Θ Γ impl_Entity_rest_c (retQ impl_Entity_rest_r K) ⟨[a0, a1, a2, a3, a4, u, u, u, u, u, u, u, u, u, u, u, u, u, u, u, u, u, u, u, u, u, u, u, u, u, u, u, u, u, u, u, u, u, u, u, u, u, u, u, u, u, u, u, u, u, u, u, u, u, u, u, u, u, u, u, u, u, u, u, u, u, u, u, u, u, u, u, u, u, u, u, u, u, u, u, u, u, u, u, u, u, u, u], [], h⟩) : T Try.prog Γ Fn.impl_Entity_rest [a0, a1, a2, a3, a4] h K :=
  T_of_body tabOK Try.func100 (code := bodyOf Try.f100) (by kernel_rfl) (by kernel_rfl) (by kernel_rfl) (by kernel_rfl) hw
def impl_Entity_promiseOk_c : C := .seq (.reg [⟨(some 4), none, .mov (.c (.bool false))⟩]) (.seq (.reg [⟨(some 8), none, .mov (.t 0)⟩,
  ⟨(some 9), none, .nilchk (.t 8)⟩,
  ⟨(some 10), none, .fld 3 (.t 9)⟩,
  ⟨(some 11), none, .load 1 false (.t 10)⟩,
  ⟨(some 12), none, .bin .eql (.num) (.t 11) (.c (.int .i64 2))⟩,
  ⟨(some 13), none, .mov (.t 12)⟩,
  ⟨(some 14), (some (5, false)), .mov (.t 0)⟩,
  ⟨(some 15), (some (5, false)), .nilchk (.t 14)⟩,
  ⟨(some 16), (some (5, false)), .fld 3 (.t 15)⟩,
  ⟨(some 17), (some (5, false)), .load 1 false (.t 16)⟩,
  ⟨(some 18), (some (5, false)), .bin .eql (.num) (.t 17) (.c (.int .i64 4))⟩,
  ⟨(some 19), none, .pick (.t 13) (.c (.bool true)) (.t 18)⟩,
  ⟨(some 5), none, .mov (.t 19)⟩]) (.seq (.reg [⟨(some 20), none, .mov (.t 0)⟩,
  ⟨(some 21), none, .nilchk (.t 20)⟩,
  ⟨(some 22), none, .fld 3 (.t 21)⟩,
  ⟨(some 23), none, .load 1 false (.t 22)⟩,
  ⟨(some 24), none, .bin .eql (.num) (.t 23) (.c (.int .i64 3))⟩,
  ⟨(some 25), none, .mov (.t 24)⟩,
  ⟨(some 26), (some (5, false)), .mov (.t 0)⟩,
  ⟨(some 27), (some (5, false)), .nilchk (.t 26)⟩,
  ⟨(some 28), (some (5, false)), .fld 3 (.t 27)⟩,
  ⟨(some 29), (some (5, false)), .load 1 false (.t 28)⟩,
  ⟨(some 30), (some (5, false)), .bin .eql (.num) (.t 29) (.c (.int .i64 4))⟩,
  ⟨(some 31), none, .pick (.t 25) (.c (.bool true)) (.t 30)⟩,
  ⟨(some 6), none, .mov (.t 31)⟩]) (.seq (.block 0 (.seq (.reg [⟨(some 33), none, .mov (.t 5)⟩,
  ⟨(some 34), none, .mov (.t 33)⟩,
  ⟨(some 35), (some (1, true)), .mov (.t 0)⟩,
  ⟨(some 36), (some (1, true)), .nilchk (.t 35)⟩,
  ⟨(some 37), (some (1, true)), .fld 4 (.t 36)⟩,
  ⟨(some 38), (some (1, true)), .load 2 true (.t 37)⟩,
  ⟨(some 39), (some (1, true)), .mov (.t 1)⟩,
  ⟨(some 40), (some (1, true)), .call (.c (.fn Fn.impl_IsValue [] [])) [.t 38, .t 39]⟩,
  ⟨(some 41), (some (1, true)), .un .not (.t 40)⟩,
  ⟨(some 42), none, .pick (.t 34) (.t 41) (.c (.bool false))⟩,
  ⟨(some 43), none, .mov (.t 42)⟩,
  ⟨(some 44), (some (10, false)), .mov (.t 5)⟩,
  ⟨(some 45), (some (10, false)), .un .not (.t 44)⟩,
  ⟨(some 46), (some (10, false)), .mov (.t 45)⟩,
  ⟨(some 47), (some (13, true)), .mov (.t 0)⟩,
  ⟨(some 48), (some (13, true)), .nilchk (.t 47)⟩,
  ⟨(some 49), (some (13, true)), .fld 4 (.t 48)⟩,
  ⟨(some 50), (some (13, true)), .load 2 true (.t 49)⟩,
  ⟨(some 51), (some (13, true)), .build [.int .i64 0, .int .i64 0] []⟩,
  ⟨(some 52), (some (13, true)), .bin .neq (.agg [.int .i64, .int .i64]) (.t 50) (.t 51)⟩,
  ⟨(some 53), (some (10, false)), .pick (.t 46) (.t 52) (.c (.bool false))⟩,
  ⟨(some 54), none, .pick (.t 43) (.c (.bool true)) (.t 53)⟩,
  ⟨(some 32), none, .mov (.t 54)⟩]) (.cond (.t 32) (.seq (.reg [⟨(some 4), none, .mov (.c (.bool false))⟩]) (.ret)) (.seq (.reg [⟨(some 56), none, .mov (.t 6)⟩,
  ⟨(some 57), none, .mov (.t 56)⟩,
  ⟨(some 58), (some (1, true)), .mov (.t 0)⟩,
  ⟨(some 59), (some (1, true)), .nilchk (.t 58)⟩,
  ⟨(some 60), (some (1, true)), .fld 8 (.t 59)⟩,
  ⟨(some 61), (some (1, true)), .load 1 false (.t 60)⟩,
  ⟨(some 62), (some (1, true)), .call (.c (.fn Fn.impl_in [] [])) [.t 61, .c (.int .i64 1), .c (.int .i64 4)]⟩,
  ⟨(some 63), (some (1, true)), .un .not (.t 62)⟩,
  ⟨(some 64), (some (1, true)), .mov (.t 63)⟩,
  ⟨(some 65), (some (8, false)), .mov (.t 0)⟩,
  ⟨(some 66), (some (8, false)), .nilchk (.t 65)⟩,
  ⟨(some 67), (some (8, false)), .fld 9 (.t 66)⟩,
  ⟨(some 68), (some (8, false)), .load 1 false (.t 67)⟩,
  ⟨(some 69), (some (8, false)), .call (.c (.fn Fn.impl_in [] [])) [.t 68, .c (.int .i64 1), .c (.int .i64 999999)]⟩,
  ⟨(some 70), (some (8, false)), .un .not (.t 69)⟩,
  ⟨(some 71), (some (1, true)), .pick (.t 64) (.c (.bool true)) (.t 70)⟩,
  ⟨(some 72), (some (1, true)), .mov (.t 71)⟩,
  ⟨(some 73), (some (16, false)), .mov (.t 0)⟩,
  ⟨(some 74), (some (16, false)), .nilchk (.t 73)⟩,
  ⟨(some 75), (some (16, false)), .fld 10 (.t 74)⟩,
  ⟨(some 76), (some (16, false)), .load 1 false (.t 75)⟩,
  ⟨(some 77), (some (16, false)), .call (.c (.fn Fn.impl_in [] [])) [.t 76, .c (.int .i64 0), .c (.int .i64 999999)]⟩,
  ⟨(some 78), (some (16, false)), .un .not (.t 77)⟩,
  ⟨(some 79), (some (1, true)), .pick (.t 72) (.c (.bool true)) (.t 78)⟩,
  ⟨(some 80), none, .pick (.t 57) (.t 79) (.c (.bool false))⟩,
  ⟨(some 55), none, .mov (.t 80)⟩]) (.cond (.t 55) (.seq (.reg [⟨(some 4), none, .mov (.c (.bool false))⟩]) (.ret)) (.seq (.reg [⟨(some 82), none, .mov (.t 6)⟩,
  ⟨(some 83), none, .un .not (.t 82)⟩,
  ⟨(some 84), none, .mov (.t 83)⟩,
  ⟨(some 85), (some (2, true)), .mov (.t 0)⟩,
  ⟨(some 86), (some (2, true)), .nilchk (.t 85)⟩,
  ⟨(some 87), (some (2, true)), .fld 8 (.t 86)⟩,
  ⟨(some 88), (some (2, true)), .load 1 false (.t 87)⟩,
  ⟨(some 89), (some (2, true)), .bin .neq (.num) (.t 88) (.c (.int .i64 0))⟩,
  ⟨(some 90), (some (2, true)), .mov (.t 89)⟩,
  ⟨(some 91), (some (8, false)), .mov (.t 0)⟩,
  ⟨(some 92), (some (8, false)), .nilchk (.t 91)⟩,
  ⟨(some 93), (some (8, false)), .fld 9 (.t 92)⟩,
  ⟨(some 94), (some (8, false)), .load 1 false (.t 93)⟩,
  ⟨(some 95), (some (8, false)), .bin .neq (.num) (.t 94) (.c (.int .i64 0))⟩,
  ⟨(some 96), (some (2, true)), .pick (.t 90) (.c (.bool true)) (.t 95)⟩,
  ⟨(some 97), (some (2, true)), .mov (.t 96)⟩,
  ⟨(some 98), (some (15, false)), .mov (.t 0)⟩,
  ⟨(some 99), (some (15, false)), .nilchk (.t 98)⟩,
  ⟨(some 100), (some (15, false)), .fld 10 (.t 99)⟩,
  ⟨(some 101), (some (15, false)), .load 1 false (.t 100)⟩,
  ⟨(some 102), (some (15, false)), .bin .neq (.num) (.t 101) (.c (.int .i64 0))⟩,
  ⟨(some 103), (some (2, true)), .pick (.t 97) (.c (.bool true)) (.t 102)⟩,
  ⟨(some 104), none, .pick (.t 84) (.t 103) (.c (.bool false))⟩,
  ⟨(some 81), none, .mov (.t 104)⟩]) (.cond (.t 81) (.seq (.reg [⟨(some 4), none, .mov (.c (.bool false))⟩]) (.ret)) (.skip)))))))) (.seq (.reg [⟨(some 105), none, .mov (.t 0)⟩,
  ⟨(some 106), none, .nilchk (.t 105)⟩,
  ⟨(some 107), none, .fld 3 (.t 106)⟩,
  ⟨(some 108), none, .load 1 false (.t 107)⟩,
  ⟨(some 109), none, .bin .eql (.num) (.t 108) (.c (.int .i64 1))⟩,
  ⟨(some 110), none, .mov (.t 109)⟩,
  ⟨(some 111), (some (5, false)), .mov (.t 0)⟩,
  ⟨(some 112), (some (5, false)), .nilchk (.t 111)⟩,
  ⟨(some 113), (some (5, false)), .fld 3 (.t 112)⟩,
  ⟨(some 114), (some (5, false)), .load 1 false (.t 113)⟩,
  ⟨(some 115), (some (5, false)), .bin .eql (.num) (.t 114) (.c (.int .i64 4))⟩,
  ⟨(some 116), none, .pick (.t 110) (.c (.bool true)) (.t 115)⟩,
  ⟨(some 7), none, .mov (.t 116)⟩]) (.seq (.reg [⟨(some 117), none, .mov (.t 7)⟩,
  ⟨(some 118), none, .mov (.t 117)⟩,
  ⟨(some 119), (some (1, false)), .mov (.t 0)⟩,
  ⟨(some 120), (some (1, false)), .nilchk (.t 119)⟩,
  ⟨(some 121), (some (1, false)), .fld 6 (.t 120)⟩,
  ⟨(some 122), (some (1, false)), .load 1 false (.t 121)⟩,
  ⟨(some 123), (some (1, false)), .len false (.t 122)⟩,
  ⟨(some 124), (some (1, false)), .bin .eql (.num) (.t 123) (.c (.int .i64 0))⟩,
  ⟨(some 125), none, .pick (.t 118) (.c (.bool true)) (.t 124)⟩,
  ⟨(some 126), none, .mov (.t 125)⟩,
  ⟨(some 127), (some (9, true)), .mov (.t 0)⟩,
  ⟨(some 128), (some (9, true)), .nilchk (.t 127)⟩,
  ⟨(some 129), (some (9, true)), .fld 6 (.t 128)⟩,
  ⟨(some 130), (some (9, true)), .load 1 false (.t 129)⟩,
  ⟨(some 131), (some (9, true)), .len false (.t 130)⟩,
  ⟨(some 132), (some (9, true)), .bin .leq (.num) (.t 131) (.c (.int .i64 40))⟩,
  ⟨(some 133), none, .pick (.t 126) (.t 132) (.c (.bool false))⟩,
  ⟨(some 134), none, .mov (.t 133)⟩,
  ⟨(some 135), (some (17, true)), .mov (.t 0)⟩,
  ⟨(some 136), (some (17, true)), .nilchk (.t 135)⟩,
  ⟨(some 137), (some (17, true)), .fld 3 (.t 136)⟩,
  ⟨(some 138), (some (17, true)), .load 1 false (.t 137)⟩,
  ⟨(some 139), (some (17, true)), .bin .neq (.num) (.t 138) (.c (.int .i64 2))⟩,
  ⟨(some 140), (some (17, true)), .mov (.t 139)⟩,
  ⟨(some 141), (some (23, false)), .mov (.t 0)⟩,
  ⟨(some 142), (some (23, false)), .nilchk (.t 141)⟩,
  ⟨(some 143), (some (23, false)), .fld 7 (.t 142)⟩,
  ⟨(some 144), (some (23, false)), .load 1 false (.t 143)⟩,
  ⟨(some 145), (some (23, false)), .len false (.t 144)⟩,
  ⟨(some 146), (some (23, false)), .bin .eql (.num) (.t 145) (.c (.int .i64 0))⟩,
  ⟨(some 147), (some (17, true)), .pick (.t 140) (.c (.bool true)) (.t 146)⟩,
  ⟨(some 148), none, .pick (.t 134) (.t 147) (.c (.bool false))⟩,
  ⟨(some 4), none, .mov (.t 148)⟩]) (.ret))))))
def impl_Entity_promiseOk_r : List RS := [.t 4]
theorem impl_Entity_promiseOk_e {a0 a1 : AV} {h : AH} {K : AV → AH → Prop} (hw : TC Try.prog Θ Γ impl_Entity_promiseOk_c (retQ impl_Entity_promiseOk_r K) ⟨[a0, a1, u, u, u, u, u, u, u, u, u, u, u, u, u, u, u, u, u, u, u, u, u, u, u, u, u, u, u, u, u, u, u, u, u, u, u, u, u, u, u, u, u, u, u, u, u, u, u, u, u, u, u, u, u, u, u, u, u, u, u, u, u, u, u, u, u, u, u, u, u, u, u, u, u, u, u, u, u, u, u, u, u, u, u, u, u, u, u, u, u, u, u, u, u, u, u, u, u, u, u, u, u, u, u, u, u, u, u, u, u, u, u, u, u, u, u, u, u, u, u, u, u, u, u, u, u, u, u, u, u, u, u, u, u, u, u, u, u, u, u, u, u, u, u, u, u, u, u], [], h⟩) : T Try.prog Γ Fn.impl_Entity_promiseOk [a0, a1] h K :=
  T_of_body tabOK Try.func101 (code := bodyOf Try.f101) (by kernel_rfl) (by kernel_rfl) (by kernel_rfl) (by kernel_rfl) hw
def impl_named_c : C := .seq (.reg [⟨(some 2), none, .mov (.c (.bool false))⟩]) (.seq (.reg [⟨(some 3), none, .mov (.t 0)⟩,
  ⟨(some 4), none, .call (.c (.fn Fn.impl_in [] [])) [.t 3, .c (.int .i64 1), .c (.int .i64 999999)]⟩,
  ⟨(some 2), none, .mov (.t 4)⟩]) (.ret))
def impl_named_r : List RS := [.t 2]
theorem impl_named_e {a0 : AV} {h : AH} {K : AV → AH → Prop} (hw : TC Try.prog Θ Γ impl_named_c (retQ impl_named_r K) ⟨[a0, u, u, u, u], [], h⟩) : T Try.prog Γ Fn.impl_named [a0] h K :=
  T_of_body tabOK Try.func102 (code := bodyOf Try.f102) (by kernel_rfl) (by kernel_rfl) (by kernel_rfl) (by kernel_rfl) hw
def slices_Concat_iimpl_Question_impl_Question_c : C := .seq (.reg [⟨(some 2), none, .mov (.c (.nils))⟩]) (.seq (.reg [⟨(some 3), none, .mov (.c (.int .i64 0))⟩]) (.seq (.seq (.reg [⟨(some 9), none, .mov (.t 0)⟩,
  ⟨(some 10), none, .len false (.t 9)⟩,
  ⟨(some 11), none, .mov (.c (.int .i64 0))⟩]) (.block 0 (.loop (.seq (.reg [⟨(some 12), none, .bin .lss (.num) (.t 11) (.t 10)⟩]) (.seq (.cond (.t 12) (.skip) (.exit 0)) (.seq (.block 1 (.seq (.reg [⟨(some 13), none, .idxs 1 (.t 9) (.t 11)⟩,
  ⟨(some 14), none, .load 1 false (.t 13)⟩,
  ⟨(some 5), none, .mov (.t 14)⟩]) (.seq (.reg [⟨(some 15), none, .mov (.t 3)⟩,
  ⟨(some 16), none, .mov (.t 5)⟩,
  ⟨(some 17), none, .len false (.t 16)⟩,
  ⟨(some 18), none, .bin .add (.num) (.t 15) (.t 17)⟩,
  ⟨(some 3), none, .mov (.t 18)⟩]) (.seq (.reg [⟨(some 19), none, .mov (.t 3)⟩,
  ⟨(some 20), none, .bin .lss (.num) (.t 19) (.c (.int .i64 0))⟩]) (.cond (.t 20) (.reg [⟨(some 21), none, .bad⟩,
  ⟨none, none, .bad⟩]) (.skip)))))) (.reg [⟨(some 22), none, .bin .add (.num) (.t 11) (.c (.int .i64 1))⟩,
  ⟨(some 11), none, .mov (.t 22)⟩]))))))) (.seq (.reg [⟨(some 23), none, .mov (.t 3)⟩,
  ⟨(some 24), none, .call (.c (.fn Fn.slices_Grow_iimpl_Question_impl_Question [] [])) [.c (.nils), .t 23]⟩,
  ⟨(some 6), none, .mov (.t 24)⟩]) (.seq (.seq (.reg [⟨(some 25), none, .mov (.t 0)⟩,
  ⟨(some 26), none, .len false (.t 25)⟩,
  ⟨(some 27), none, .mov (.c (.int .i64 0))⟩]) (.block 2 (.loop (.seq (.reg [⟨(some 28), none, .bin .lss (.num) (.t 27) (.t 26)⟩]) (.seq (.cond (.t 28) (.skip) (.exit 2)) (.seq (.block 3 (.seq (.reg [⟨(some 29), none, .idxs 1 (.t 25) (.t 27)⟩,
  ⟨(some 30), none, .load 1 false (.t 29)⟩,
  ⟨(some 8), none, .mov (.t 30)⟩]) (.reg [⟨(some 31), none, .mov (.t 6)⟩,
  ⟨(some 32), none, .mov (.t 8)⟩,
  ⟨(some 33), none, .app 2 16 [.int .i64 0, .int .i64 0] false (.t 31) (.t 32)⟩,
  ⟨(some 6), none, .mov (.t 33)⟩]))) (.reg [⟨(some 34), none, .bin .add (.num) (.t 27) (.c (.int .i64 1))⟩,
  ⟨(some 27), none, .mov (.t 34)⟩]))))))) (.seq (.reg [⟨(some 35), none, .mov (.t 6)⟩,
  ⟨(some 2), none, .mov (.t 35)⟩]) (.ret))))))
def slices_Concat_iimpl_Question_impl_Question_r : List RS := [.t 2]
def slices_Concat_iimpl_Question_impl_Question_s0 (t0 t3 t9 t10 t11 : AV) (loc : List (List AV)) (h : AH) : St := ⟨[t0, .any, .any, t3, .any, .any, .any, .any, .any, t9, t10, t11, .any, .any, .any, .any, .any, .any, .any, .any, .any, .any, .any, .any, .any, .any, .any, .any, .any, .any, .any, .any, .any, .any, .any, .any], loc, h⟩
def slices_Concat_iimpl_Question_impl_Question_s1 (t6 t25 t26 t27 : AV) (loc : List (List AV)) (h : AH) : St := ⟨[.any, .any, .any, .any, .any, .any, t6, .any, .any, .any, .any, .any, .any, .any, .any, .any, .any, .any, .any, .any, .any, .any, .any, .any, .any, t25, t26, t27, .any, .any, .any, .any, .any, .any, .any, .any], loc, h⟩
theorem slices_Concat_iimpl_Question_impl_Question_e {a0 : AV} {h : AH} {K : AV → AH → Prop} (hw : TC Try.prog Θ Γ slices_Concat_iimpl_Question_impl_Question_c (retQ slices_Concat_iimpl_Question_impl_Question_r K) ⟨[a0, u, u, u, u, u, u, u, u, u, u, u, u, u, u, u, u, u, u, u, u, u, u, u, u, u, u, u, u, u, u, u, u, u, u, u], [], h⟩) : T Try.prog Γ Fn.slices_Concat_iimpl_Question_impl_Question [a0] h K :=
  T_of_body tabOK Try.func103 (code := bodyOf Try.f103) (by kernel_rfl) (by kernel_rfl) (by kernel_rfl) (by kernel_rfl) hw
def laws_eqValueS_d0_os : List O := [⟨(some 17), none, .mov (.t 0)⟩,
  ⟨(some 18), none, .mov (.t 5)⟩,
  ⟨(some 19), none, .idxs 2 (.t 17) (.t 18)⟩,
  ⟨(some 20), none, .load 2 true (.t 19)⟩,
  ⟨(some 21), none, .mov (.t 1)⟩,
  ⟨(some 22), none, .mov (.t 5)⟩,
  ⟨(some 23), none, .idxs 2 (.t 21) (.t 22)⟩,
  ⟨(some 24), none, .load 2 true (.t 23)⟩,
  ⟨(some 25), none, .call (.c (.fn Fn.laws_eqValue [] [])) [.t 20, .t 24]⟩,
  ⟨(some 26), none, .un .not (.t 25)⟩]
def laws_eqValueS_d0_af : List (List Nat) := [[], [], [0, 1], [2], [], [], [4, 5], [6], [3, 7], [8]]
theorem laws_eqValueS_d0_q (gl : Gl) (Q : AE → St → Prop) (s : St) : aw Try.prog Θ Γ gl (.regD laws_eqValueS_d0_os laws_eqValueS_d0_af) Q s = awpT Try.prog Γ gl [⟨(some 17), none, .mov (.t 0)⟩,
  ⟨(some 18), none, .mov (.t 5)⟩,
  ⟨(some 19), none, .idxs 2 (.t 17) (.t 18)⟩,
  ⟨(some 20), none, .load 2 true (.t 19)⟩,
  ⟨(some 21), none, .mov (.t 1)⟩,
  ⟨(some 22), none, .mov (.t 5)⟩,
  ⟨(some 23), none, .idxs 2 (.t 21) (.t 22)⟩,
  ⟨(some 24), none, .load 2 true (.t 23)⟩,
  ⟨(some 25), none, .call (.c (.fn Fn.laws_eqValue [] [])) [.t 20, .t 24]⟩,
  ⟨(some 26), none, .un .not (.t 25)⟩] (Q .normal) 10 (.q 0 (.q 1 (.q 2 (.q 3 (.q 4 (.q 5 (.q 6 (.q 7 (.q 8 (.q 9 (.done))))))))))) s := a_dd rfl (by kernel_rfl) gl Q s
def laws_eqValueS_c : C := .seq (.reg [⟨(some 4), none, .mov (.c (.bool false))⟩]) (.seq (.seq (.reg [⟨(some 6), none, .mov (.t 0)⟩,
  ⟨(some 7), none, .len false (.t 6)⟩,
  ⟨(some 8), none, .mov (.t 1)⟩,
  ⟨(some 9), none, .len false (.t 8)⟩,
  ⟨(some 10), none, .bin .neq (.num) (.t 7) (.t 9)⟩]) (.cond (.t 10) (.seq (.reg [⟨(some 4), none, .mov (.c (.bool false))⟩]) (.ret)) (.skip))) (.seq (.seq (.reg [⟨(some 5), none, .mov (.c (.int .i64 0))⟩]) (.block 0 (.loop (.seq (.seq (.reg [⟨(some 11), none, .mov (.t 5)⟩,
  ⟨(some 12), none, .mov (.t 0)⟩,
  ⟨(some 13), none, .len false (.t 12)⟩,
  ⟨(some 14), none, .bin .lss (.num) (.t 11) (.t 13)⟩]) (.cond (.t 14) (.skip) (.exit 0))) (.seq (.block 1 (.seq (.regD laws_eqValueS_d0_os laws_eqValueS_d0_af) (.cond (.t 26) (.seq (.reg [⟨(some 4), none, .mov (.c (.bool false))⟩]) (.ret)) (.skip)))) (.reg [⟨(some 15), none, .mov (.t 5)⟩,
  ⟨(some 16), none, .bin .add (.num) (.t 15) (.c (.int .i64 1))⟩,
  ⟨(some 5), none, .mov (.t 16)⟩])))))) (.seq (.reg [⟨(some 4), none, .mov (.c (.bool true))⟩]) (.ret))))
def laws_eqValueS_r : List RS := [.t 4]
def laws_eqValueS_s0 (t0 t1 t5 : AV) (loc : List (List AV)) (h : AH) : St := ⟨[t0, t1, .any, .any, .any, t5, .any, .any, .any, .any, .any, .any, .any, .any, .any, .any, .any, .any, .any, .any, .any, .any, .any, .any, .any, .any, .any], loc, h⟩
theorem laws_eqValueS_e {a0 a1 : AV} {h : AH} {K : AV → AH → Prop} (hw : TC Try.prog Θ Γ laws_eqValueS_c (retQ laws_eqValueS_r K) ⟨[a0, a1, u, u, u, u, u, u, u, u, u, u, u, u, u, u, u, u, u, u, u, u, u, u, u, u, u], [], h⟩) : T Try.prog Γ Fn.laws_eqValueS [a0, a1] h K :=
  T_of_body tabOK Try.func104 (code := bodyOf Try.f104) (by kernel_rfl) (by kernel_rfl) (by kernel_rfl) (by kernel_rfl) hw
def laws_eqValue_c : C := .seq (.reg [⟨(some 2), none, .box (.t 0)⟩,
  ⟨(some 3), none, .box (.t 1)⟩,
  ⟨(some 4), none, .mov (.c (.bool false))⟩]) (.seq (.seq (.reg [⟨(some 5), none, .fld 0 (.t 2)⟩,
  ⟨(some 6), none, .load 1 false (.t 5)⟩,
  ⟨(some 7), none, .fld 0 (.t 3)⟩,
  ⟨(some 8), none, .load 1 false (.t 7)⟩,
  ⟨(some 9), none, .bin .neq (.num) (.t 6) (.t 8)⟩]) (.cond (.t 9) (.seq (.reg [⟨(some 4), none, .mov (.c (.bool false))⟩]) (.ret)) (.skip))) (.seq (.seq (.reg [⟨(some 10), none, .fld 1 (.t 2)⟩,
  ⟨(some 11), none, .load 1 false (.t 10)⟩,
  ⟨(some 12), none, .fld 1 (.t 3)⟩,
  ⟨(some 13), none, .load 1 false (.t 12)⟩,
  ⟨(some 14), none, .bin .neq (.num) (.t 11) (.t 13)⟩]) (.cond (.t 14) (.seq (.reg [⟨(some 4), none, .mov (.c (.bool false))⟩]) (.ret)) (.skip))) (.seq (.reg [⟨(some 4), none, .mov (.c (.bool true))⟩]) (.ret))))
def laws_eqValue_r : List RS := [.t 4]
theorem laws_eqValue_e {a0 a1 : AV} {h : AH} {K : AV → AH → Prop} (hw : TC Try.prog Θ Γ laws_eqValue_c (retQ laws_eqValue_r K) ⟨[a0, a1, u, u, u, u, u, u, u, u, u, u, u, u, u], [], h⟩) : T Try.prog Γ Fn.laws_eqValue [a0, a1] h K :=
  T_of_body tabOK Try.func105 (code := bodyOf Try.f105) (by kernel_rfl) (by kernel_rfl) (by kernel_rfl) (by kernel_rfl) hw
def laws_eqAskerS_d0_os : List O := [⟨(some 17), none, .mov (.t 0)⟩,
  ⟨(some 18), none, .mov (.t 5)⟩,
  ⟨(some 19), none, .idxs 2 (.t 17) (.t 18)⟩,
  ⟨(some 20), none, .load 2 true (.t 19)⟩,
  ⟨(some 21), none, .mov (.t 1)⟩,
  ⟨(some 22), none, .mov (.t 5)⟩,
  ⟨(some 23), none, .idxs 2 (.t 21) (.t 22)⟩,
  ⟨(some 24), none, .load 2 true (.t 23)⟩,
  ⟨(some 25), none, .call (.c (.fn Fn.laws_eqAsker [] [])) [.t 20, .t 24]⟩,
  ⟨(some 26), none, .un .not (.t 25)⟩]
def laws_eqAskerS_d0_af : List (List Nat) := [[], [], [0, 1], [2], [], [], [4, 5], [6], [3, 7], [8]]
theorem laws_eqAskerS_d0_q (gl : Gl) (Q : AE → St → Prop) (s : St) : aw Try.prog Θ Γ gl (.regD laws_eqAskerS_d0_os laws_eqAskerS_d0_af) Q s = awpT Try.prog Γ gl [⟨(some 17), none, .mov (.t 0)⟩,
  ⟨(some 18), none, .mov (.t 5)⟩,
  ⟨(some 19), none, .idxs 2 (.t 17) (.t 18)⟩,
  ⟨(some 20), none, .load 2 true (.t 19)⟩,
  ⟨(some 21), none, .mov (.t 1)⟩,
  ⟨(some 22), none, .mov (.t 5)⟩,
  ⟨(some 23), none, .idxs 2 (.t 21) (.t 22)⟩,
  ⟨(some 24), none, .load 2 true (.t 23)⟩,
  ⟨(some 25), none, .call (.c (.fn Fn.laws_eqAsker [] [])) [.t 20, .t 24]⟩,
  ⟨(some 26), none, .un .not (.t 25)⟩] (Q .normal) 10 (.q 0 (.q 1 (.q 2 (.q 3 (.q 4 (.q 5 (.q 6 (.q 7 (.q 8 (.q 9 (.done))))))))))) s := a_dd rfl (by kernel_rfl) gl Q s
def laws_eqAskerS_c : C := .seq (.reg [⟨(some 4), none, .mov (.c (.bool false))⟩]) (.seq (.seq (.reg [⟨(some 6), none, .mov (.t 0)⟩,
  ⟨(some 7), none, .len false (.t 6)⟩,
  ⟨(some 8), none, .mov (.t 1)⟩,
  ⟨(some 9), none, .len false (.t 8)⟩,
  ⟨(some 10), none, .bin .neq (.num) (.t 7) (.t 9)⟩]) (.cond (.t 10) (.seq (.reg [⟨(some 4), none, .mov (.c (.bool false))⟩]) (.ret)) (.skip))) (.seq (.seq (.reg [⟨(some 5), none, .mov (.c (.int .i64 0))⟩]) (.block 0 (.loop (.seq (.seq (.reg [⟨(some 11), none, .mov (.t 5)⟩,
  ⟨(some 12), none, .mov (.t 0)⟩,
  ⟨(some 13), none, .len false (.t 12)⟩,
  ⟨(some 14), none, .bin .lss (.num) (.t 11) (.t 13)⟩]) (.cond (.t 14) (.skip) (.exit 0))) (.seq (.block 1 (.seq (.regD laws_eqAskerS_d0_os laws_eqAskerS_d0_af) (.cond (.t 26) (.seq (.reg [⟨(some 4), none, .mov (.c (.bool false))⟩]) (.ret)) (.skip)))) (.reg [⟨(some 15), none, .mov (.t 5)⟩,
  ⟨(some 16), none, .bin .add (.num) (.t 15) (.c (.int .i64 1))⟩,
  ⟨(some 5), none, .mov (.t 16)⟩])))))) (.seq (.reg [⟨(some 4), none, .mov (.c (.bool true))⟩]) (.ret))))
def laws_eqAskerS_r : List RS := [.t 4]
def laws_eqAskerS_s0 (t0 t1 t5 : AV) (loc : List (List AV)) (h : AH) : St := ⟨[t0, t1, .any, .any, .any, t5, .any, .any, .any, .any, .any, .any, .any, .any, .any, .any, .any, .any, .any, .any, .any, .any, .any, .any, .any, .any, .any], loc, h⟩
theorem laws_eqAskerS_e {a0 a1 : AV} {h : AH} {K : AV → AH → Prop} (hw : TC Try.prog Θ Γ laws_eqAskerS_c (retQ laws_eqAskerS_r K) ⟨[a0, a1, u, u, u, u, u, u, u, u, u, u, u, u, u, u, u, u, u, u, u, u, u, u, u, u, u], [], h⟩) : T Try.prog Γ Fn.laws_eqAskerS [a0, a1] h K :=
  T_of_body tabOK Try.func106 (code := bodyOf Try.f106) (by kernel_rfl) (by kernel_rfl) (by kernel_rfl) (by kernel_rfl) hw
def laws_eqTag_c : C := .seq (.reg [⟨(some 2), none, .box (.t 0)⟩,
  ⟨(some 3), none, .box (.t 1)⟩,
  ⟨(some 4), none, .mov (.c (.bool false))⟩]) (.seq (.seq (.reg [⟨(some 5), none, .fld 0 (.t 2)⟩,
  ⟨(some 6), none, .load 1 false (.t 5)⟩,
  ⟨(some 7), none, .fld 0 (.t 3)⟩,
  ⟨(some 8), none, .load 1 false (.t 7)⟩,
  ⟨(some 9), none, .bin .neq (.num) (.t 6) (.t 8)⟩]) (.cond (.t 9) (.seq (.reg [⟨(some 4), none, .mov (.c (.bool false))⟩]) (.ret)) (.skip))) (.seq (.seq (.reg [⟨(some 10), none, .fld 1 (.t 2)⟩,
  ⟨(some 11), none, .load 1 false (.t 10)⟩,
  ⟨(some 12), none, .fld 1 (.t 3)⟩,
  ⟨(some 13), none, .load 1 false (.t 12)⟩,
  ⟨(some 14), none, .bin .neq (.num) (.t 11) (.t 13)⟩]) (.cond (.t 14) (.seq (.reg [⟨(some 4), none, .mov (.c (.bool false))⟩]) (.ret)) (.skip))) (.seq (.seq (.reg [⟨(some 15), none, .fld 2 (.t 2)⟩,
  ⟨(some 16), none, .load 1 false (.t 15)⟩,
  ⟨(some 17), none, .fld 2 (.t 3)⟩,
  ⟨(some 18), none, .load 1 false (.t 17)⟩,
  ⟨(some 19), none, .bin .neq (.num) (.t 16) (.t 18)⟩]) (.cond (.t 19) (.seq (.reg [⟨(some 4), none, .mov (.c (.bool false))⟩]) (.ret)) (.skip))) (.seq (.reg [⟨(some 4), none, .mov (.c (.bool true))⟩]) (.ret)))))
def laws_eqTag_r : List RS := [.t 4]
theorem laws_eqTag_e {a0 a1 : AV} {h : AH} {K : AV → AH → Prop} (hw : TC Try.prog Θ Γ laws_eqTag_c (retQ laws_eqTag_r K) ⟨[a0, a1, u, u, u, u, u, u, u, u, u, u, u, u, u, u, u, u, u, u], [], h⟩) : T Try.prog Γ Fn.laws_eqTag [a0, a1] h K :=
  T_of_body tabOK Try.func107 (code := bodyOf Try.f107) (by kernel_rfl) (by kernel_rfl) (by kernel_rfl) (by kernel_rfl) hw
def laws_eqExportS_d0_os : List O := [⟨(some 17), none, .mov (.t 0)⟩,
  ⟨(some 18), none, .mov (.t 5)⟩,
  ⟨(some 19), none, .idxs 3 (.t 17) (.t 18)⟩,
  ⟨(some 20), none, .load 3 true (.t 19)⟩,
  ⟨(some 21), none, .mov (.t 1)⟩,
  ⟨(some 22), none, .mov (.t 5)⟩,
  ⟨(some 23), none, .idxs 3 (.t 21) (.t 22)⟩,
  ⟨(some 24), none, .load 3 true (.t 23)⟩,
  ⟨(some 25), none, .call (.c (.fn Fn.laws_eqExport [] [])) [.t 20, .t 24]⟩,
  ⟨(some 26), none, .un .not (.t 25)⟩]
def laws_eqExportS_d0_af : List (List Nat) := [[], [], [0, 1], [2], [], [], [4, 5], [6], [3, 7], [8]]
theorem laws_eqExportS_d0_q (gl : Gl) (Q : AE → St → Prop) (s : St) : aw Try.prog Θ Γ gl (.regD laws_eqExportS_d0_os laws_eqExportS_d0_af) Q s = awpT Try.prog Γ gl [⟨(some 17), none, .mov (.t 0)⟩,
  ⟨(some 18), none, .mov (.t 5)⟩,
  ⟨(some 19), none, .idxs 3 (.t 17) (.t 18)⟩,
  ⟨(some 20), none, .load 3 true (.t 19)⟩,
  ⟨(some 21), none, .mov (.t 1)⟩,
  ⟨(some 22), none, .mov (.t 5)⟩,
  ⟨(some 23), none, .idxs 3 (.t 21) (.t 22)⟩,
  ⟨(some 24), none, .load 3 true (.t 23)⟩,
  ⟨(some 25), none, .call (.c (.fn Fn.laws_eqExport [] [])) [.t 20, .t 24]⟩,
  ⟨(some 26), none, .un .not (.t 25)⟩] (Q .normal) 10 (.q 0 (.q 1 (.q 2 (.q 3 (.q 4 (.q 5 (.q 6 (.q 7 (.q 8 (.q 9 (.done))))))))))) s := a_dd rfl (by kernel_rfl) gl Q s
def laws_eqExportS_c : C := .seq (.reg [⟨(some 4), none, .mov (.c (.bool false))⟩]) (.seq (.seq (.reg [⟨(some 6), none, .mov (.t 0)⟩,
  ⟨(some 7), none, .len false (.t 6)⟩,
  ⟨(some 8), none, .mov (.t 1)⟩,
  ⟨(some 9), none, .len false (.t 8)⟩,
  ⟨(some 10), none, .bin .neq (.num) (.t 7) (.t 9)⟩]) (.cond (.t 10) (.seq (.reg [⟨(some 4), none, .mov (.c (.bool false))⟩]) (.ret)) (.skip))) (.seq (.seq (.reg [⟨(some 5), none, .mov (.c (.int .i64 0))⟩]) (.block 0 (.loop (.seq (.seq (.reg [⟨(some 11), none, .mov (.t 5)⟩,
  ⟨(some 12), none, .mov (.t 0)⟩,
  ⟨(some 13), none, .len false (.t 12)⟩,
  ⟨(some 14), none, .bin .lss (.num) (.t 11) (.t 13)⟩]) (.cond (.t 14) (.skip) (.exit 0))) (.seq (.block 1 (.seq (.regD laws_eqExportS_d0_os laws_eqExportS_d0_af) (.cond (.t 26) (.seq (.reg [⟨(some 4), none, .mov (.c (.bool false))⟩]) (.ret)) (.skip)))) (.reg [⟨(some 15), none, .mov (.t 5)⟩,
  ⟨(some 16), none, .bin .add (.num) (.t 15) (.c (.int .i64 1))⟩,
  ⟨(some 5), none, .mov (.t 16)⟩])))))) (.seq (.reg [⟨(some 4), none, .mov (.c (.bool true))⟩]) (.ret))))
def laws_eqExportS_r : List RS := [.t 4]
def laws_eqExportS_s0 (t0 t1 t5 : AV) (loc : List (List AV)) (h : AH) : St := ⟨[t0, t1, .any, .any, .any, t5, .any, .any, .any, .any, .any, .any, .any, .any, .any, .any, .any, .any, .any, .any, .any, .any, .any, .any, .any, .any, .any], loc, h⟩
theorem laws_eqExportS_e {a0 a1 : AV} {h : AH} {K : AV → AH → Prop} (hw : TC Try.prog Θ Γ laws_eqExportS_c (retQ laws_eqExportS_r K) ⟨[a0, a1, u, u, u, u, u, u, u, u, u, u, u, u, u, u, u, u, u, u, u, u, u, u, u, u, u], [], h⟩) : T Try.prog Γ Fn.laws_eqExportS [a0, a1] h K :=
  T_of_body tabOK Try.func108 (code := bodyOf Try.f108) (by kernel_rfl) (by kernel_rfl) (by kernel_rfl) (by kernel_rfl) hw
def laws_eqQuestionS_d0_os : List O := [⟨(some 17), none, .mov (.t 0)⟩,
  ⟨(some 18), none, .mov (.t 5)⟩,
  ⟨(some 19), none, .idxs 2 (.t 17) (.t 18)⟩,
  ⟨(some 20), none, .load 2 true (.t 19)⟩,
  ⟨(some 21), none, .mov (.t 1)⟩,
  ⟨(some 22), none, .mov (.t 5)⟩,
  ⟨(some 23), none, .idxs 2 (.t 21) (.t 22)⟩,
  ⟨(some 24), none, .load 2 true (.t 23)⟩,
  ⟨(some 25), none, .call (.c (.fn Fn.laws_eqQuestion [] [])) [.t 20, .t 24]⟩,
  ⟨(some 26), none, .un .not (.t 25)⟩]
def laws_eqQuestionS_d0_af : List (List Nat) := [[], [], [0, 1], [2], [], [], [4, 5], [6], [3, 7], [8]]
theorem laws_eqQuestionS_d0_q (gl : Gl) (Q : AE → St → Prop) (s : St) : aw Try.prog Θ Γ gl (.regD laws_eqQuestionS_d0_os laws_eqQuestionS_d0_af) Q s = awpT Try.prog Γ gl [⟨(some 17), none, .mov (.t 0)⟩,
  ⟨(some 18), none, .mov (.t 5)⟩,
  ⟨(some 19), none, .idxs 2 (.t 17) (.t 18)⟩,
  ⟨(some 20), none, .load 2 true (.t 19)⟩,
  ⟨(some 21), none, .mov (.t 1)⟩,
  ⟨(some 22), none, .mov (.t 5)⟩,
  ⟨(some 23), none, .idxs 2 (.t 21) (.t 22)⟩,
  ⟨(some 24), none, .load 2 true (.t 23)⟩,
  ⟨(some 25), none, .call (.c (.fn Fn.laws_eqQuestion [] [])) [.t 20, .t 24]⟩,
  ⟨(some 26), none, .un .not (.t 25)⟩] (Q .normal) 10 (.q 0 (.q 1 (.q 2 (.q 3 (.q 4 (.q 5 (.q 6 (.q 7 (.q 8 (.q 9 (.done))))))))))) s := a_dd rfl (by kernel_rfl) gl Q s
def laws_eqQuestionS_c : C := .seq (.reg [⟨(some 4), none, .mov (.c (.bool false))⟩]) (.seq (.seq (.reg [⟨(some 6), none, .mov (.t 0)⟩,
  ⟨(some 7), none, .len false (.t 6)⟩,
  ⟨(some 8), none, .mov (.t 1)⟩,
  ⟨(some 9), none, .len false (.t 8)⟩,
  ⟨(some 10), none, .bin .neq (.num) (.t 7) (.t 9)⟩]) (.cond (.t 10) (.seq (.reg [⟨(some 4), none, .mov (.c (.bool false))⟩]) (.ret)) (.skip))) (.seq (.seq (.reg [⟨(some 5), none, .mov (.c (.int .i64 0))⟩]) (.block 0 (.loop (.seq (.seq (.reg [⟨(some 11), none, .mov (.t 5)⟩,
  ⟨(some 12), none, .mov (.t 0)⟩,
  ⟨(some 13), none, .len false (.t 12)⟩,
  ⟨(some 14), none, .bin .lss (.num) (.t 11) (.t 13)⟩]) (.cond (.t 14) (.skip) (.exit 0))) (.seq (.block 1 (.seq (.regD laws_eqQuestionS_d0_os laws_eqQuestionS_d0_af) (.cond (.t 26) (.seq (.reg [⟨(some 4), none, .mov (.c (.bool false))⟩]) (.ret)) (.skip)))) (.reg [⟨(some 15), none, .mov (.t 5)⟩,
  ⟨(some 16), none, .bin .add (.num) (.t 15) (.c (.int .i64 1))⟩,
  ⟨(some 5), none, .mov (.t 16)⟩])))))) (.seq (.reg [⟨(some 4), none, .mov (.c (.bool true))⟩]) (.ret))))
def laws_eqQuestionS_r : List RS := [.t 4]
def laws_eqQuestionS_s0 (t0 t1 t5 : AV) (loc : List (List AV)) (h : AH) : St := ⟨[t0, t1, .any, .any, .any, t5, .any, .any, .any, .any, .any, .any, .any, .any, .any, .any, .any, .any, .any, .any, .any, .any, .any, .any, .any, .any, .any], loc, h⟩
theorem laws_eqQuestionS_e {a0 a1 : AV} {h : AH} {K : AV → AH → Prop} (hw : TC Try.prog Θ Γ laws_eqQuestionS_c (retQ laws_eqQuestionS_r K) ⟨[a0, a1, u, u, u, u, u, u, u, u, u, u, u, u, u, u, u, u, u, u, u, u, u, u, u, u, u], [], h⟩) : T Try.prog Γ Fn.laws_eqQuestionS [a0, a1] h K :=
  T_of_body tabOK Try.func109 (code := bodyOf Try.f109) (by kernel_rfl) (by kernel_rfl) (by kernel_rfl) (by kernel_rfl) hw
def laws_eqMessage_c : C := .seq (.reg [⟨(some 2), none, .box (.t 0)⟩,
  ⟨(some 3), none, .box (.t 1)⟩,
  ⟨(some 4), none, .mov (.c (.bool false))⟩]) (.seq (.seq (.reg [⟨(some 5), none, .fld 0 (.t 2)⟩,
  ⟨(some 6), none, .load 1 false (.t 5)⟩,
  ⟨(some 7), none, .fld 0 (.t 3)⟩,
  ⟨(some 8), none, .load 1 false (.t 7)⟩,
  ⟨(some 9), none, .bin .neq (.num) (.t 6) (.t 8)⟩]) (.cond (.t 9) (.seq (.reg [⟨(some 4), none, .mov (.c (.bool false))⟩]) (.ret)) (.skip))) (.seq (.seq (.reg [⟨(some 10), none, .fld 1 (.t 2)⟩,
  ⟨(some 11), none, .load 1 false (.t 10)⟩,
  ⟨(some 12), none, .fld 1 (.t 3)⟩,
  ⟨(some 13), none, .load 1 false (.t 12)⟩,
  ⟨(some 14), none, .bin .neq (.num) (.t 11) (.t 13)⟩]) (.cond (.t 14) (.seq (.reg [⟨(some 4), none, .mov (.c (.bool false))⟩]) (.ret)) (.skip))) (.seq (.seq (.reg [⟨(some 15), none, .fld 2 (.t 2)⟩,
  ⟨(some 16), none, .load 1 false (.t 15)⟩,
  ⟨(some 17), none, .fld 2 (.t 3)⟩,
  ⟨(some 18), none, .load 1 false (.t 17)⟩,
  ⟨(some 19), none, .bin .neq (.num) (.t 16) (.t 18)⟩]) (.cond (.t 19) (.seq (.reg [⟨(some 4), none, .mov (.c (.bool false))⟩]) (.ret)) (.skip))) (.seq (.seq (.reg [⟨(some 20), none, .fld 3 (.t 2)⟩,
  ⟨(some 21), none, .load 1 false (.t 20)⟩,
  ⟨(some 22), none, .fld 3 (.t 3)⟩,
  ⟨(some 23), none, .load 1 false (.t 22)⟩,
  ⟨(some 24), none, .bin .neq (.num) (.t 21) (.t 23)⟩]) (.cond (.t 24) (.seq (.reg [⟨(some 4), none, .mov (.c (.bool false))⟩]) (.ret)) (.skip))) (.seq (.seq (.reg [⟨(some 25), none, .fld 4 (.t 2)⟩,
  ⟨(some 26), none, .load 1 false (.t 25)⟩,
  ⟨(some 27), none, .fld 4 (.t 3)⟩,
  ⟨(some 28), none, .load 1 false (.t 27)⟩,
  ⟨(some 29), none, .bin .neq (.num) (.t 26) (.t 28)⟩]) (.cond (.t 29) (.seq (.reg [⟨(some 4), none, .mov (.c (.bool false))⟩]) (.ret)) (.skip))) (.seq (.seq (.reg [⟨(some 30), none, .fld 5 (.t 2)⟩,
  ⟨(some 31), none, .load 1 false (.t 30)⟩,
  ⟨(some 32), none, .fld 5 (.t 3)⟩,
  ⟨(some 33), none, .load 1 false (.t 32)⟩,
  ⟨(some 34), none, .call (.c (.fn Fn.laws_eqWireS [] [])) [.t 31, .t 33]⟩,
  ⟨(some 35), none, .un .not (.t 34)⟩]) (.cond (.t 35) (.seq (.reg [⟨(some 4), none, .mov (.c (.bool false))⟩]) (.ret)) (.skip))) (.seq (.seq (.reg [⟨(some 36), none, .fld 6 (.t 2)⟩,
  ⟨(some 37), none, .load 2 true (.t 36)⟩,
  ⟨(some 38), none, .fld 6 (.t 3)⟩,
  ⟨(some 39), none, .load 2 true (.t 38)⟩,
  ⟨(some 40), none, .call (.c (.fn Fn.laws_eqWire [] [])) [.t 37, .t 39]⟩,
  ⟨(some 41), none, .un .not (.t 40)⟩]) (.cond (.t 41) (.seq (.reg [⟨(some 4), none, .mov (.c (.bool false))⟩]) (.ret)) (.skip))) (.seq (.seq (.reg [⟨(some 42), none, .fld 8 (.t 2)⟩,
  ⟨(some 43), none, .load 1 false (.t 42)⟩,
  ⟨(some 44), none, .fld 8 (.t 3)⟩,
  ⟨(some 45), none, .load 1 false (.t 44)⟩,
  ⟨(some 46), none, .bin .neq (.num) (.t 43) (.t 45)⟩]) (.cond (.t 46) (.seq (.reg [⟨(some 4), none, .mov (.c (.bool false))⟩]) (.ret)) (.skip))) (.seq (.seq (.reg [⟨(some 47), none, .fld 9 (.t 2)⟩,
  ⟨(some 48), none, .load 3 true (.t 47)⟩,
  ⟨(some 49), none, .fld 9 (.t 3)⟩,
  ⟨(some 50), none, .load 3 true (.t 49)⟩,
  ⟨(some 51), none, .call (.c (.fn Fn.laws_eqTag [] [])) [.t 48, .t 50]⟩,
  ⟨(some 52), none, .un .not (.t 51)⟩]) (.cond (.t 52) (.seq (.reg [⟨(some 4), none, .mov (.c (.bool false))⟩]) (.ret)) (.skip))) (.seq (.reg [⟨(some 4), none, .mov (.c (.bool true))⟩]) (.ret)))))))))))
def laws_eqMessage_r : List RS := [.t 4]
theorem laws_eqMessage_e {a0 a1 : AV} {h : AH} {K : AV → AH → Prop} (hw : TC Try.prog Θ Γ laws_eqMessage_c (retQ laws_eqMessage_r K) ⟨[a0, a1, u, u, u, u, u, u, u, u, u, u, u, u, u, u, u, u, u, u, u, u, u, u, u, u, u, u, u, u, u, u, u, u, u, u, u, u, u, u, u, u, u, u, u, u, u, u, u, u, u, u, u], [], h⟩) : T Try.prog Γ Fn.laws_eqMessage [a0, a1] h K :=
  T_of_body tabOK Try.func110 (code := bodyOf Try.f110) (by kernel_rfl) (by kernel_rfl) (by kernel_rfl) (by kernel_rfl) hw
def laws_szWireS_c : C := .seq (.reg [⟨(some 4), none, .mov (.c (.int .i64 0))⟩]) (.seq (.reg [⟨(some 5), none, .mov (.t 1)⟩,
  ⟨(some 6), none, .mov (.t 0)⟩,
  ⟨(some 7), none, .len false (.t 6)⟩,
  ⟨(some 8), none, .bin .sub (.num) (.t 5) (.t 7)⟩,
  ⟨(some 1), none, .mov (.t 8)⟩]) (.seq (.seq (.reg [⟨(some 9), none, .mov (.t 1)⟩,
  ⟨(some 10), none, .bin .lss (.num) (.t 9) (.c (.int .i64 0))⟩]) (.cond (.t 10) (.seq (.reg [⟨(some 4), none, .mov (.c (.int .i64 (-1)))⟩]) (.ret)) (.skip))) (.seq (.reg [⟨(some 11), none, .mov (.t 1)⟩,
  ⟨(some 4), none, .mov (.t 11)⟩]) (.ret))))
def laws_szWireS_r : List RS := [.t 4]
theorem laws_szWireS_e {a0 a1 : AV} {h : AH} {K : AV → AH → Prop} (hw : TC Try.prog Θ Γ laws_szWireS_c (retQ laws_szWireS_r K) ⟨[a0, a1, u, u, u, u, u, u, u, u, u, u], [], h⟩) : T Try.prog Γ Fn.laws_szWireS [a0, a1] h K :=
  T_of_body tabOK Try.func112 (code := bodyOf Try.f112) (by kernel_rfl) (by kernel_rfl) (by kernel_rfl) (by kernel_rfl) hw
def laws_toAsker_c : C := .seq (.reg [⟨(some 1), none, .box (.t 0)⟩,
  ⟨(some 2), none, .alloc [.int .i64 0, .int .i64 0]⟩]) (.seq (.reg [⟨(some 3), none, .alloc [.int .i64 0, .int .i64 0]⟩]) (.seq (.reg [⟨(some 4), none, .fld 0 (.t 1)⟩,
  ⟨(some 5), none, .load 1 false (.t 4)⟩,
  ⟨(some 6), none, .fld 0 (.t 3)⟩,
  ⟨none, none, .store 1 (.t 6) (.t 5)⟩]) (.seq (.reg [⟨(some 7), none, .fld 1 (.t 1)⟩,
  ⟨(some 8), none, .load 1 false (.t 7)⟩,
  ⟨(some 9), none, .fld 1 (.t 3)⟩,
  ⟨none, none, .store 1 (.t 9) (.t 8)⟩]) (.seq (.reg [⟨(some 10), none, .load 2 true (.t 3)⟩,
  ⟨none, none, .store 2 (.t 2) (.t 10)⟩]) (.ret)))))
def laws_toAsker_r : List RS := [.cell 2 2 true]
theorem laws_toAsker_e {a0 : AV} {h : AH} {K : AV → AH → Prop} (hw : TC Try.prog Θ Γ laws_toAsker_c (retQ laws_toAsker_r K) ⟨[a0, u, u, u, u, u, u, u, u, u, u], [], h⟩) : T Try.prog Γ Fn.laws_toAsker [a0] h K :=
  T_of_body tabOK Try.func113 (code := bodyOf Try.f113) (by kernel_rfl) (by kernel_rfl) (by kernel_rfl) (by kernel_rfl) hw
def laws_toExport_c : C := .seq (.reg [⟨(some 1), none, .box (.t 0)⟩,
  ⟨(some 2), none, .alloc [.int .i64 0, .int .i64 0, .int .i64 0]⟩]) (.seq (.reg [⟨(some 3), none, .alloc [.int .i64 0, .int .i64 0, .int .i64 0]⟩]) (.seq (.reg [⟨(some 4), none, .fld 0 (.t 1)⟩,
  ⟨(some 5), none, .load 1 false (.t 4)⟩,
  ⟨(some 6), none, .fld 0 (.t 3)⟩,
  ⟨none, none, .store 1 (.t 6) (.t 5)⟩]) (.seq (.reg [⟨(some 7), none, .fld 1 (.t 1)⟩,
  ⟨(some 8), none, .load 1 false (.t 7)⟩,
  ⟨(some 9), none, .fld 1 (.t 3)⟩,
  ⟨none, none, .store 1 (.t 9) (.t 8)⟩]) (.seq (.reg [⟨(some 10), none, .fld 2 (.t 1)⟩,
  ⟨(some 11), none, .load 1 false (.t 10)⟩,
  ⟨(some 12), none, .fld 2 (.t 3)⟩,
  ⟨none, none, .store 1 (.t 12) (.t 11)⟩]) (.seq (.reg [⟨(some 13), none, .load 3 true (.t 3)⟩,
  ⟨none, none, .store 3 (.t 2) (.t 13)⟩]) (.ret))))))
def laws_toExport_r : List RS := [.cell 2 3 true]
theorem laws_toExport_e {a0 : AV} {h : AH} {K : AV → AH → Prop} (hw : TC Try.prog Θ Γ laws_toExport_c (retQ laws_toExport_r K) ⟨[a0, u, u, u, u, u, u, u, u, u, u, u, u, u], [], h⟩) : T Try.prog Γ Fn.laws_toExport [a0] h K :=
  T_of_body tabOK Try.func114 (code := bodyOf Try.f114) (by kernel_rfl) (by kernel_rfl) (by kernel_rfl) (by kernel_rfl) hw
def laws_toQuestion_c : C := .seq (.reg [⟨(some 1), none, .box (.t 0)⟩,
  ⟨(some 2), none, .alloc [.int .i64 0, .int .i64 0]⟩]) (.seq (.reg [⟨(some 3), none, .alloc [.int .i64 0, .int .i64 0]⟩]) (.seq (.reg [⟨(some 4), none, .fld 0 (.t 1)⟩,
  ⟨(some 5), none, .load 1 false (.t 4)⟩,
  ⟨(some 6), none, .fld 0 (.t 3)⟩,
  ⟨none, none, .store 1 (.t 6) (.t 5)⟩]) (.seq (.reg [⟨(some 7), none, .fld 1 (.t 1)⟩,
  ⟨(some 8), none, .load 1 false (.t 7)⟩,
  ⟨(some 9), none, .fld 1 (.t 3)⟩,
  ⟨none, none, .store 1 (.t 9) (.t 8)⟩]) (.seq (.reg [⟨(some 10), none, .load 2 true (.t 3)⟩,
  ⟨none, none, .store 2 (.t 2) (.t 10)⟩]) (.ret)))))
def laws_toQuestion_r : List RS := [.cell 2 2 true]
theorem laws_toQuestion_e {a0 : AV} {h : AH} {K : AV → AH → Prop} (hw : TC Try.prog Θ Γ laws_toQuestion_c (retQ laws_toQuestion_r K) ⟨[a0, u, u, u, u, u, u, u, u, u, u], [], h⟩) : T Try.prog Γ Fn.laws_toQuestion [a0] h K :=
  T_of_body tabOK Try.func115 (code := bodyOf Try.f115) (by kernel_rfl) (by kernel_rfl) (by kernel_rfl) (by kernel_rfl) hw
def laws_toWireS_c : C := .seq (.reg [⟨(some 2), none, .mov (.c (.nils))⟩]) (.seq (.reg [⟨(some 5), none, .mov (.t 0)⟩,
  ⟨(some 6), none, .len false (.t 5)⟩,
  ⟨(some 7), none, .mks 2 16 [.int .i64 0, .int .i64 0] (.t 6) (.t 6)⟩,
  ⟨(some 3), none, .mov (.t 7)⟩]) (.seq (.seq (.reg [⟨(some 4), none, .mov (.c (.int .i64 0))⟩]) (.block 0 (.loop (.seq (.seq (.reg [⟨(some 8), none, .mov (.t 4)⟩,
  ⟨(some 9), none, .mov (.t 0)⟩,
  ⟨(some 10), none, .len false (.t 9)⟩,
  ⟨(some 11), none, .bin .lss (.num) (.t 8) (.t 10)⟩]) (.cond (.t 11) (.skip) (.exit 0))) (.seq (.block 1 (.reg [⟨(some 14), none, .mov (.t 3)⟩,
  ⟨(some 15), none, .mov (.t 4)⟩,
  ⟨(some 16), none, .mov (.t 0)⟩,
  ⟨(some 17), none, .mov (.t 4)⟩,
  ⟨(some 18), none, .idxs 2 (.t 16) (.t 17)⟩,
  ⟨(some 19), none, .load 2 true (.t 18)⟩,
  ⟨(some 20), none, .call (.c (.fn Fn.laws_toWire [] [])) [.t 19]⟩,
  ⟨(some 21), none, .idxs 2 (.t 14) (.t 15)⟩,
  ⟨none, none, .store 2 (.t 21) (.t 20)⟩])) (.reg [⟨(some 12), none, .mov (.t 4)⟩,
  ⟨(some 13), none, .bin .add (.num) (.t 12) (.c (.int .i64 1))⟩,
  ⟨(some 4), none, .mov (.t 13)⟩])))))) (.seq (.reg [⟨(some 22), none, .mov (.t 3)⟩,
  ⟨(some 2), none, .mov (.t 22)⟩]) (.ret))))
def laws_toWireS_r : List RS := [.t 2]
def laws_toWireS_s0 (t0 t3 t4 : AV) (loc : List (List AV)) (h : AH) : St := ⟨[t0, .any, .any, t3, t4, .any, .any, .any, .any, .any, .any, .any, .any, .any, .any, .any, .any, .any, .any, .any, .any, .any, .any], loc, h⟩
theorem laws_toWireS_e {a0 : AV} {h : AH} {K : AV → AH → Prop} (hw : TC Try.prog Θ Γ laws_toWireS_c (retQ laws_toWireS_r K) ⟨[a0, u, u, u, u, u, u, u, u, u, u, u, u, u, u, u, u, u, u, u, u, u, u], [], h⟩) : T Try.prog Γ Fn.laws_toWireS [a0] h K :=
  T_of_body tabOK Try.func116 (code := bodyOf Try.f116) (by kernel_rfl) (by kernel_rfl) (by kernel_rfl) (by kernel_rfl) hw
def laws_toWire_c : C := .seq (.reg [⟨(some 1), none, .box (.t 0)⟩,
  ⟨(some 2), none, .alloc [.int .i64 0, .int .i64 0]⟩]) (.seq (.reg [⟨(some 3), none, .alloc [.int .i64 0, .int .i64 0]⟩]) (.seq (.reg [⟨(some 4), none, .fld 0 (.t 1)⟩,
  ⟨(some 5), none, .load 1 false (.t 4)⟩,
  ⟨(some 6), none, .fld 0 (.t 3)⟩,
  ⟨none, none, .store 1 (.t 6) (.t 5)⟩]) (.seq (.reg [⟨(some 7), none, .fld 1 (.t 1)⟩,
  ⟨(some 8), none, .load 1 false (.t 7)⟩,
  ⟨(some 9), none, .fld 1 (.t 3)⟩,
  ⟨none, none, .store 1 (.t 9) (.t 8)⟩]) (.seq (.reg [⟨(some 10), none, .load 2 true (.t 3)⟩,
  ⟨none, none, .store 2 (.t 2) (.t 10)⟩]) (.ret)))))
def laws_toWire_r : List RS := [.cell 2 2 true]
theorem laws_toWire_e {a0 : AV} {h : AH} {K : AV → AH → Prop} (hw : TC Try.prog Θ Γ laws_toWire_c (retQ laws_toWire_r K) ⟨[a0, u, u, u, u, u, u, u, u, u, u], [], h⟩) : T Try.prog Γ Fn.laws_toWire [a0] h K :=
  T_of_body tabOK Try.func117 (code := bodyOf Try.f117) (by kernel_rfl) (by kernel_rfl) (by kernel_rfl) (by kernel_rfl) hw
def slices_IndexFunc_iimpl_Sent_impl_Sent_c : C := .seq (.reg [⟨(some 4), none, .mov (.c (.int .i64 0))⟩]) (.seq (.seq (.reg [⟨(some 6), none, .mov (.t 0)⟩,
  ⟨(some 7), none, .len false (.t 6)⟩,
  ⟨(some 8), none, .mov (.c (.int .i64 0))⟩]) (.block 0 (.loop (.seq (.reg [⟨(some 9), none, .bin .lss (.num) (.t 8) (.t 7)⟩]) (.seq (.cond (.t 9) (.skip) (.exit 0)) (.seq (.block 1 (.seq (.reg [⟨(some 10), none, .mov (.t 8)⟩,
  ⟨(some 5), none, .mov (.t 10)⟩]) (.seq (.reg [⟨(some 11), none, .mov (.t 1)⟩,
  ⟨(some 12), none, .mov (.t 0)⟩,
  ⟨(some 13), none, .mov (.t 5)⟩,
  ⟨(some 14), none, .idxs 7 (.t 12) (.t 13)⟩,
  ⟨(some 15), none, .load 7 true (.t 14)⟩,
  ⟨(some 16), none, .call (.t 11) [.t 15]⟩]) (.cond (.t 16) (.seq (.reg [⟨(some 17), none, .mov (.t 5)⟩,
  ⟨(some 4), none, .mov (.t 17)⟩]) (.ret)) (.skip))))) (.reg [⟨(some 18), none, .bin .add (.num) (.t 8) (.c (.int .i64 1))⟩,
  ⟨(some 8), none, .mov (.t 18)⟩]))))))) (.seq (.reg [⟨(some 4), none, .mov (.c (.int .i64 (-1)))⟩]) (.ret)))
def slices_IndexFunc_iimpl_Sent_impl_Sent_r : List RS := [.t 4]
def slices_IndexFunc_iimpl_Sent_impl_Sent_s0 (t0 t1 t7 t8 : AV) (loc : List (List AV)) (h : AH) : St := ⟨[t0, t1, .any, .any, .any, .any, .any, t7, t8, .any, .any, .any, .any, .any, .any, .any, .any, .any, .any], loc, h⟩
theorem slices_IndexFunc_iimpl_Sent_impl_Sent_e {a0 a1 : AV} {h : AH} {K : AV → AH → Prop} (hw : TC Try.prog Θ Γ slices_IndexFunc_iimpl_Sent_impl_Sent_c (retQ slices_IndexFunc_iimpl_Sent_impl_Sent_r K) ⟨[a0, a1, u, u, u, u, u, u, u, u, u, u, u, u, u, u, u, u, u], [], h⟩) : T Try.prog Γ Fn.slices_IndexFunc_iimpl_Sent_impl_Sent [a0, a1] h K :=
  T_of_body tabOK Try.func118 (code := bodyOf Try.f118) (by kernel_rfl) (by kernel_rfl) (by kernel_rfl) (by kernel_rfl) hw
def slices_ContainsFunc_iimpl_Value_impl_Value_c : C := .seq (.reg [⟨(some 4), none, .mov (.c (.bool false))⟩]) (.seq (.reg [⟨(some 5), none, .mov (.t 0)⟩,
  ⟨(some 6), none, .mov (.t 1)⟩,
  ⟨(some 7), none, .call (.c (.fn Fn.slices_IndexFunc_iimpl_Value_impl_Value [] [])) [.t 5, .t 6]⟩,
  ⟨(some 8), none, .bin .geq (.num) (.t 7) (.c (.int .i64 0))⟩,
  ⟨(some 4), none, .mov (.t 8)⟩]) (.ret))
def slices_ContainsFunc_iimpl_Value_impl_Value_r : List RS := [.t 4]
theorem slices_ContainsFunc_iimpl_Value_impl_Value_e {a0 a1 : AV} {h : AH} {K : AV → AH → Prop} (hw : TC Try.prog Θ Γ slices_ContainsFunc_iimpl_Value_impl_Value_c (retQ slices_ContainsFunc_iimpl_Value_impl_Value_r K) ⟨[a0, a1, u, u, u, u, u, u, u], [], h⟩) : T Try.prog Γ Fn.slices_ContainsFunc_iimpl_Value_impl_Value [a0, a1] h K :=
  T_of_body tabOK Try.func119 (code := bodyOf Try.f119) (by kernel_rfl) (by kernel_rfl) (by kernel_rfl) (by kernel_rfl) hw
def impl_AreValues_1_c : C := .seq (.reg [⟨(some 2), none, .box (.t 0)⟩,
  ⟨(some 3), none, .mov (.c (.bool false))⟩]) (.seq (.reg [⟨(some 4), none, .load 2 true (.t 2)⟩,
  ⟨(some 5), none, .load 1 false (.t 1)⟩,
  ⟨(some 6), none, .call (.c (.fn Fn.impl_IsValue [] [])) [.t 4, .t 5]⟩,
  ⟨(some 7), none, .un .not (.t 6)⟩,
  ⟨(some 3), none, .mov (.t 7)⟩]) (.ret))
def impl_AreValues_1_r : List RS := [.t 3]
theorem impl_AreValues_1_e {a0 a1 : AV} {h : AH} {K : AV → AH → Prop} (hw : TC Try.prog Θ Γ impl_AreValues_1_c (retQ impl_AreValues_1_r K) ⟨[a0, a1, u, u, u, u, u, u], [], h⟩) : T Try.prog Γ Fn.impl_AreValues_1 [a0, a1] h K :=
  T_of_body tabOK Try.func120 (code := bodyOf Try.f120) (by kernel_rfl) (by kernel_rfl) (by kernel_rfl) (by kernel_rfl) hw
def impl_IsValue_c : C := .seq (.reg [⟨(some 2), none, .box (.t 0)⟩,
  ⟨(some 4), none, .mov (.c (.bool false))⟩]) (.seq (.seq (.reg [⟨(some 5), none, .fld 0 (.t 2)⟩,
  ⟨(some 6), none, .load 1 false (.t 5)⟩]) (.block 0 (.seq (.reg [⟨(some 8), none, .bin .eql (.num) (.t 6) (.c (.int .i64 0))⟩,
  ⟨(some 7), none, .mov (.t 8)⟩]) (.cond (.t 7) (.seq (.reg [⟨(some 9), none, .fld 1 (.t 2)⟩,
  ⟨(some 10), none, .load 1 false (.t 9)⟩,
  ⟨(some 11), none, .call (.c (.fn Fn.impl_in [] [])) [.t 10, .c (.int .i64 0), .c (.int .i64 999999)]⟩,
  ⟨(some 4), none, .mov (.t 11)⟩]) (.ret)) (.seq (.reg [⟨(some 13), none, .bin .eql (.num) (.t 6) (.c (.int .i64 1))⟩,
  ⟨(some 12), none, .mov (.t 13)⟩]) (.cond (.t 12) (.seq (.reg [⟨(some 14), none, .fld 1 (.t 2)⟩,
  ⟨(some 15), none, .load 1 false (.t 14)⟩,
  ⟨(some 16), none, .mov (.t 1)⟩,
  ⟨(some 17), none, .bin .sub (.num) (.t 16) (.c (.int .i64 1))⟩,
  ⟨(some 18), none, .call (.c (.fn Fn.impl_in [] [])) [.t 15, .c (.int .i64 0), .t 17]⟩,
  ⟨(some 4), none, .mov (.t 18)⟩]) (.ret)) (.seq (.reg [⟨(some 20), none, .bin .eql (.num) (.t 6) (.c (.int .i64 2))⟩,
  ⟨(some 19), none, .mov (.t 20)⟩]) (.cond (.t 19) (.seq (.reg [⟨(some 21), none, .fld 1 (.t 2)⟩,
  ⟨(some 22), none, .load 1 false (.t 21)⟩,
  ⟨(some 23), none, .bin .eql (.num) (.t 22) (.c (.int .i64 0))⟩,
  ⟨(some 4), none, .mov (.t 23)⟩]) (.ret)) (.skip))))))))) (.seq (.reg [⟨(some 4), none, .mov (.c (.bool false))⟩]) (.ret)))
def impl_IsValue_r : List RS := [.t 4]
theorem impl_IsValue_e {a0 a1 : AV} {h : AH} {K : AV → AH → Prop} (hw : TC Try.prog Θ Γ impl_IsValue_c (retQ impl_IsValue_r K) ⟨[a0, a1, u, u, u, u, u, u, u, u, u, u, u, u, u, u, u, u, u, u, u, u, u, u], [], h⟩) : T Try.prog Γ Fn.impl_IsValue [a0, a1] h K :=
  T_of_body tabOK Try.func121 (code := bodyOf Try.f121) (by kernel_rfl) (by kernel_rfl) (by kernel_rfl) (by kernel_rfl) hw
def slices_Grow_iimpl_Question_impl_Question_c : C := .seq (.reg [⟨(some 4), none, .mov (.c (.nils))⟩]) (.seq (.seq (.reg [⟨(some 5), none, .mov (.t 1)⟩,
  ⟨(some 6), none, .bin .lss (.num) (.t 5) (.c (.int .i64 0))⟩]) (.cond (.t 6) (.reg [⟨(some 7), none, .bad⟩,
  ⟨none, none, .bad⟩]) (.skip))) (.seq (.seq (.reg [⟨(some 8), none, .mov (.t 1)⟩,
  ⟨(some 9), none, .mov (.t 0)⟩,
  ⟨(some 10), none, .cap (.t 9)⟩,
  ⟨(some 11), none, .mov (.t 0)⟩,
  ⟨(some 12), none, .len false (.t 11)⟩,
  ⟨(some 13), none, .bin .sub (.num) (.t 10) (.t 12)⟩,
  ⟨(some 14), none, .bin .sub (.num) (.t 8) (.t 13)⟩,
  ⟨(some 1), none, .mov (.t 14)⟩]) (.seq (.reg [⟨(some 15), none, .mov (.t 1)⟩,
  ⟨(some 16), none, .bin .gtr (.num) (.t 15) (.c (.int .i64 0))⟩]) (.cond (.t 16) (.reg [⟨(some 17), none, .mov (.t 0)⟩,
  ⟨(some 18), none, .mov (.t 0)⟩,
  ⟨(some 19), none, .cap (.t 18)⟩,
  ⟨(some 20), none, .slice (.sl 2) (.t 17) none (some (.t 19)) none⟩,
  ⟨(some 21), none, .mov (.t 1)⟩,
  ⟨(some 22), none, .appz 2 16 [.int .i64 0, .int .i64 0] (.t 20) (.t 21)⟩,
  ⟨(some 23), none, .mov (.t 0)⟩,
  ⟨(some 24), none, .len false (.t 23)⟩,
  ⟨(some 25), none, .slice (.sl 2) (.t 22) none (some (.t 24)) none⟩,
  ⟨(some 0), none, .mov (.t 25)⟩]) (.skip)))) (.seq (.reg [⟨(some 26), none, .mov (.t 0)⟩,
  ⟨(some 4), none, .mov (.t 26)⟩]) (.ret))))
def slices_Grow_iimpl_Question_impl_Question_r : List RS := [.t 4]
theorem slices_Grow_iimpl_Question_impl_Question_e {a0 a1 : AV} {h : AH} {K : AV → AH → Prop} (hw : TC Try.prog Θ Γ slices_Grow_iimpl_Question_impl_Question_c (retQ slices_Grow_iimpl_Question_impl_Question_r K) ⟨[a0, a1, u, u, u, u, u, u, u, u, u, u, u, u, u, u, u, u, u, u, u, u, u, u, u, u, u], [], h⟩) : T Try.prog Γ Fn.slices_Grow_iimpl_Question_impl_Question [a0, a1] h K :=
  T_of_body tabOK Try.func122 (code := bodyOf Try.f122) (by kernel_rfl) (by kernel_rfl) (by kernel_rfl) (by kernel_rfl) hw
def laws_eqAsker_c : C := .seq (.reg [⟨(some 2), none, .box (.t 0)⟩,
  ⟨(some 3), none, .box (.t 1)⟩,
  ⟨(some 4), none, .mov (.c (.bool false))⟩]) (.seq (.seq (.reg [⟨(some 5), none, .fld 0 (.t 2)⟩,
  ⟨(some 6), none, .load 1 false (.t 5)⟩,
  ⟨(some 7), none, .fld 0 (.t 3)⟩,
  ⟨(some 8), none, .load 1 false (.t 7)⟩,
  ⟨(some 9), none, .bin .neq (.num) (.t 6) (.t 8)⟩]) (.cond (.t 9) (.seq (.reg [⟨(some 4), none, .mov (.c (.bool false))⟩]) (.ret)) (.skip))) (.seq (.seq (.reg [⟨(some 10), none, .fld 1 (.t 2)⟩,
  ⟨(some 11), none, .load 1 false (.t 10)⟩,
  ⟨(some 12), none, .fld 1 (.t 3)⟩,
  ⟨(some 13), none, .load 1 false (.t 12)⟩,
  ⟨(some 14), none, .bin .neq (.num) (.t 11) (.t 13)⟩]) (.cond (.t 14) (.seq (.reg [⟨(some 4), none, .mov (.c (.bool false))⟩]) (.ret)) (.skip))) (.seq (.reg [⟨(some 4), none, .mov (.c (.bool true))⟩]) (.ret))))
def laws_eqAsker_r : List RS := [.t 4]
theorem laws_eqAsker_e {a0 a1 : AV} {h : AH} {K : AV → AH → Prop} (hw : TC Try.prog Θ Γ laws_eqAsker_c (retQ laws_eqAsker_r K) ⟨[a0, a1, u, u, u, u, u, u, u, u, u, u, u, u, u], [], h⟩) : T Try.prog Γ Fn.laws_eqAsker [a0, a1] h K :=
  T_of_body tabOK Try.func123 (code := bodyOf Try.f123) (by kernel_rfl) (by kernel_rfl) (by kernel_rfl) (by kernel_rfl) hw
def laws_eqExport_c : C := .seq (.reg [⟨(some 2), none, .box (.t 0)⟩,
  ⟨(some 3), none, .box (.t 1)⟩,
  ⟨(some 4), none, .mov (.c (.bool false))⟩]) (.seq (.seq (.reg [⟨(some 5), none, .fld 0 (.t 2)⟩,
  ⟨(some 6), none, .load 1 false (.t 5)⟩,
  ⟨(some 7), none, .fld 0 (.t 3)⟩,
  ⟨(some 8), none, .load 1 false (.t 7)⟩,
  ⟨(some 9), none, .bin .neq (.num) (.t 6) (.t 8)⟩]) (.cond (.t 9) (.seq (.reg [⟨(some 4), none, .mov (.c (.bool false))⟩]) (.ret)) (.skip))) (.seq (.seq (.reg [⟨(some 10), none, .fld 1 (.t 2)⟩,
  ⟨(some 11), none, .load 1 false (.t 10)⟩,
  ⟨(some 12), none, .fld 1 (.t 3)⟩,
  ⟨(some 13), none, .load 1 false (.t 12)⟩,
  ⟨(some 14), none, .bin .neq (.num) (.t 11) (.t 13)⟩]) (.cond (.t 14) (.seq (.reg [⟨(some 4), none, .mov (.c (.bool false))⟩]) (.ret)) (.skip))) (.seq (.seq (.reg [⟨(some 15), none, .fld 2 (.t 2)⟩,
  ⟨(some 16), none, .load 1 false (.t 15)⟩,
  ⟨(some 17), none, .fld 2 (.t 3)⟩,
  ⟨(some 18), none, .load 1 false (.t 17)⟩,
  ⟨(some 19), none, .bin .neq (.num) (.t 16) (.t 18)⟩]) (.cond (.t 19) (.seq (.reg [⟨(some 4), none, .mov (.c (.bool false))⟩]) (.ret)) (.skip))) (.seq (.reg [⟨(some 4), none, .mov (.c (.bool true))⟩]) (.ret)))))
def laws_eqExport_r : List RS := [.t 4]
theorem laws_eqExport_e {a0 a1 : AV} {h : AH} {K : AV → AH → Prop} (hw : TC Try.prog Θ Γ laws_eqExport_c (retQ laws_eqExport_r K) ⟨[a0, a1, u, u, u, u, u, u, u, u, u, u, u, u, u, u, u, u, u, u], [], h⟩) : T Try.prog Γ Fn.laws_eqExport [a0, a1] h K :=
  T_of_body tabOK Try.func124 (code := bodyOf Try.f124) (by kernel_rfl) (by kernel_rfl) (by kernel_rfl) (by kernel_rfl) hw
def laws_eqQuestion_c : C := .seq (.reg [⟨(some 2), none, .box (.t 0)⟩,
  ⟨(some 3), none, .box (.t 1)⟩,
  ⟨(some 4), none, .mov (.c (.bool false))⟩]) (.seq (.seq (.reg [⟨(some 5), none, .fld 0 (.t 2)⟩,
  ⟨(some 6), none, .load 1 false (.t 5)⟩,
  ⟨(some 7), none, .fld 0 (.t 3)⟩,
  ⟨(some 8), none, .load 1 false (.t 7)⟩,
  ⟨(some 9), none, .bin .neq (.num) (.t 6) (.t 8)⟩]) (.cond (.t 9) (.seq (.reg [⟨(some 4), none, .mov (.c (.bool false))⟩]) (.ret)) (.skip))) (.seq (.seq (.reg [⟨(some 10), none, .fld 1 (.t 2)⟩,
  ⟨(some 11), none, .load 1 false (.t 10)⟩,
  ⟨(some 12), none, .fld 1 (.t 3)⟩,
  ⟨(some 13), none, .load 1 false (.t 12)⟩,
  ⟨(some 14), none, .bin .neq (.num) (.t 11) (.t 13)⟩]) (.cond (.t 14) (.seq (.reg [⟨(some 4), none, .mov (.c (.bool false))⟩]) (.ret)) (.skip))) (.seq (.reg [⟨(some 4), none, .mov (.c (.bool true))⟩]) (.ret))))
def laws_eqQuestion_r : List RS := [.t 4]
theorem laws_eqQuestion_e {a0 a1 : AV} {h : AH} {K : AV → AH → Prop} (hw : TC Try.prog Θ Γ laws_eqQuestion_c (retQ laws_eqQuestion_r K) ⟨[a0, a1, u, u, u, u, u, u, u, u, u, u, u, u, u], [], h⟩) : T Try.prog Γ Fn.laws_eqQuestion [a0, a1] h K :=
  T_of_body tabOK Try.func125 (code := bodyOf Try.f125) (by kernel_rfl) (by kernel_rfl) (by kernel_rfl) (by kernel_rfl) hw
def laws_eqWireS_d0_os : List O := [⟨(some 17), none, .mov (.t 0)⟩,
  ⟨(some 18), none, .mov (.t 5)⟩,
  ⟨(some 19), none, .idxs 2 (.t 17) (.t 18)⟩,
  ⟨(some 20), none, .load 2 true (.t 19)⟩,
  ⟨(some 21), none, .mov (.t 1)⟩,
  ⟨(some 22), none, .mov (.t 5)⟩,
  ⟨(some 23), none, .idxs 2 (.t 21) (.t 22)⟩,
  ⟨(some 24), none, .load 2 true (.t 23)⟩,
  ⟨(some 25), none, .call (.c (.fn Fn.laws_eqWire [] [])) [.t 20, .t 24]⟩,
  ⟨(some 26), none, .un .not (.t 25)⟩]
def laws_eqWireS_d0_af : List (List Nat) := [[], [], [0, 1], [2], [], [], [4, 5], [6], [3, 7], [8]]
theorem laws_eqWireS_d0_q (gl : Gl) (Q : AE → St → Prop) (s : St) : aw Try.prog Θ Γ gl (.regD laws_eqWireS_d0_os laws_eqWireS_d0_af) Q s = awpT Try.prog Γ gl [⟨(some 17), none, .mov (.t 0)⟩,
  ⟨(some 18), none, .mov (.t 5)⟩,
  ⟨(some 19), none, .idxs 2 (.t 17) (.t 18)⟩,
  ⟨(some 20), none, .load 2 true (.t 19)⟩,
  ⟨(some 21), none, .mov (.t 1)⟩,
  ⟨(some 22), none, .mov (.t 5)⟩,
  ⟨(some 23), none, .idxs 2 (.t 21) (.t 22)⟩,
  ⟨(some 24), none, .load 2 true (.t 23)⟩,
  ⟨(some 25), none, .call (.c (.fn Fn.laws_eqWire [] [])) [.t 20, .t 24]⟩,
  ⟨(some 26), none, .un .not (.t 25)⟩] (Q .normal) 10 (.q 0 (.q 1 (.q 2 (.q 3 (.q 4 (.q 5 (.q 6 (.q 7 (.q 8 (.q 9 (.done))))))))))) s := a_dd rfl (by kernel_rfl) gl Q s
def laws_eqWireS_c : C := .seq (.reg [⟨(some 4), none, .mov (.c (.bool false))⟩]) (.seq (.seq (.reg [⟨(some 6), none, .mov (.t 0)⟩,
  ⟨(some 7), none, .len false (.t 6)⟩,
  ⟨(some 8), none, .mov (.t 1)⟩,
  ⟨(some 9), none, .len false (.t 8)⟩,
  ⟨(some 10), none, .bin .neq (.num) (.t 7) (.t 9)⟩]) (.cond (.t 10) (.seq (.reg [⟨(some 4), none, .mov (.c (.bool false))⟩]) (.ret)) (.skip))) (.seq (.seq (.reg [⟨(some 5), none, .mov (.c (.int .i64 0))⟩]) (.block 0 (.loop (.seq (.seq (.reg [⟨(some 11), none, .mov (.t 5)⟩,
  ⟨(some 12), none, .mov (.t 0)⟩,
  ⟨(some 13), none, .len false (.t 12)⟩,
  ⟨(some 14), none, .bin .lss (.num) (.t 11) (.t 13)⟩]) (.cond (.t 14) (.skip) (.exit 0))) (.seq (.block 1 (.seq (.regD laws_eqWireS_d0_os laws_eqWireS_d0_af) (.cond (.t 26) (.seq (.reg [⟨(some 4), none, .mov (.c (.bool false))⟩]) (.ret)) (.skip)))) (.reg [⟨(some 15), none, .mov (.t 5)⟩,
  ⟨(some 16), none, .bin .add (.num) (.t 15) (.c (.int .i64 1))⟩,
  ⟨(some 5), none, .mov (.t 16)⟩])))))) (.seq (.reg [⟨(some 4), none, .mov (.c (.bool true))⟩]) (.ret))))
def laws_eqWireS_r : List RS := [.t 4]
def laws_eqWireS_s0 (t0 t1 t5 : AV) (loc : List (List AV)) (h : AH) : St := ⟨[t0, t1, .any, .any, .any, t5, .any, .any, .any, .any, .any, .any, .any, .any, .any, .any, .any, .any, .any, .any, .any, .any, .any, .any, .any, .any, .any], loc, h⟩
theorem laws_eqWireS_e {a0 a1 : AV} {h : AH} {K : AV → AH → Prop} (hw : TC Try.prog Θ Γ laws_eqWireS_c (retQ laws_eqWireS_r K) ⟨[a0, a1, u, u, u, u, u, u, u, u, u, u, u, u, u, u, u, u, u, u, u, u, u, u, u, u, u], [], h⟩) : T Try.prog Γ Fn.laws_eqWireS [a0, a1] h K :=
  T_of_body tabOK Try.func126 (code := bodyOf Try.f126) (by kernel_rfl) (by kernel_rfl) (by kernel_rfl) (by kernel_rfl) hw
def laws_eqWire_c : C := .seq (.reg [⟨(some 2), none, .box (.t 0)⟩,
  ⟨(some 3), none, .box (.t 1)⟩,
  ⟨(some 4), none, .mov (.c (.bool false))⟩]) (.seq (.seq (.reg [⟨(some 5), none, .fld 0 (.t 2)⟩,
  ⟨(some 6), none, .load 1 false (.t 5)⟩,
  ⟨(some 7), none, .fld 0 (.t 3)⟩,
  ⟨(some 8), none, .load 1 false (.t 7)⟩,
  ⟨(some 9), none, .bin .neq (.num) (.t 6) (.t 8)⟩]) (.cond (.t 9) (.seq (.reg [⟨(some 4), none, .mov (.c (.bool false))⟩]) (.ret)) (.skip))) (.seq (.seq (.reg [⟨(some 10), none, .fld 1 (.t 2)⟩,
  ⟨(some 11), none, .load 1 false (.t 10)⟩,
  ⟨(some 12), none, .fld 1 (.t 3)⟩,
  ⟨(some 13), none, .load 1 false (.t 12)⟩,
  ⟨(some 14), none, .bin .neq (.num) (.t 11) (.t 13)⟩]) (.cond (.t 14) (.seq (.reg [⟨(some 4), none, .mov (.c (.bool false))⟩]) (.ret)) (.skip))) (.seq (.reg [⟨(some 4), none, .mov (.c (.bool true))⟩]) (.ret))))
def laws_eqWire_r : List RS := [.t 4]
theorem laws_eqWire_e {a0 a1 : AV} {h : AH} {K : AV → AH → Prop} (hw : TC Try.prog Θ Γ laws_eqWire_c (retQ laws_eqWire_r K) ⟨[a0, a1, u, u, u, u, u, u, u, u, u, u, u, u, u], [], h⟩) : T Try.prog Γ Fn.laws_eqWire [a0, a1] h K :=
  T_of_body tabOK Try.func127 (code := bodyOf Try.f127) (by kernel_rfl) (by kernel_rfl) (by kernel_rfl) (by kernel_rfl) hw
def slices_IndexFunc_iimpl_Value_impl_Value_c : C := .seq (.reg [⟨(some 4), none, .mov (.c (.int .i64 0))⟩]) (.seq (.seq (.reg [⟨(some 6), none, .mov (.t 0)⟩,
  ⟨(some 7), none, .len false (.t 6)⟩,
  ⟨(some 8), none, .mov (.c (.int .i64 0))⟩]) (.block 0 (.loop (.seq (.reg [⟨(some 9), none, .bin .lss (.num) (.t 8) (.t 7)⟩]) (.seq (.cond (.t 9) (.skip) (.exit 0)) (.seq (.block 1 (.seq (.reg [⟨(some 10), none, .mov (.t 8)⟩,
  ⟨(some 5), none, .mov (.t 10)⟩]) (.seq (.reg [⟨(some 11), none, .mov (.t 1)⟩,
  ⟨(some 12), none, .mov (.t 0)⟩,
  ⟨(some 13), none, .mov (.t 5)⟩,
  ⟨(some 14), none, .idxs 2 (.t 12) (.t 13)⟩,
  ⟨(some 15), none, .load 2 true (.t 14)⟩,
  ⟨(some 16), none, .call (.t 11) [.t 15]⟩]) (.cond (.t 16) (.seq (.reg [⟨(some 17), none, .mov (.t 5)⟩,
  ⟨(some 4), none, .mov (.t 17)⟩]) (.ret)) (.skip))))) (.reg [⟨(some 18), none, .bin .add (.num) (.t 8) (.c (.int .i64 1))⟩,
  ⟨(some 8), none, .mov (.t 18)⟩]))))))) (.seq (.reg [⟨(some 4), none, .mov (.c (.int .i64 (-1)))⟩]) (.ret)))
def slices_IndexFunc_iimpl_Value_impl_Value_r : List RS := [.t 4]
def slices_IndexFunc_iimpl_Value_impl_Value_s0 (t0 t1 t7 t8 : AV) (loc : List (List AV)) (h : AH) : St := ⟨[t0, t1, .any, .any, .any, .any, .any, t7, t8, .any, .any, .any, .any, .any, .any, .any, .any, .any, .any], loc, h⟩
theorem slices_IndexFunc_iimpl_Value_impl_Value_e {a0 a1 : AV} {h : AH} {K : AV → AH → Prop} (hw : TC Try.prog Θ Γ slices_IndexFunc_iimpl_Value_impl_Value_c (retQ slices_IndexFunc_iimpl_Value_impl_Value_r K) ⟨[a0, a1, u, u, u, u, u, u, u, u, u, u, u, u, u, u, u, u, u], [], h⟩) : T Try.prog Γ Fn.slices_IndexFunc_iimpl_Value_impl_Value [a0, a1] h K :=
  T_of_body tabOK Try.func128 (code := bodyOf Try.f128) (by kernel_rfl) (by kernel_rfl) (by kernel_rfl) (by kernel_rfl) hw
end Go.Proofs.Ytleddolmolkpfaa
