import Derived.Test.YtleddolmolkpfaaProg
import Derived.Test.YtleddolmolkpfaaAmLib
set_option linter.unusedVariables false
set_option linter.unusedSimpArgs false
namespace Go.Proofs.Ytleddolmolkpfaa
open Go.AM
namespace Fn
abbrev main_main : FuncId := 0
abbrev gosem_cut : FuncId := 1
abbrev gosem_cut_init : FuncId := 2
abbrev laws_FnLinks : FuncId := 3
abbrev laws_FnExactIsVat : FuncId := 4
abbrev laws_big : FuncId := 5
abbrev spec_DrawPutExport : FuncId := 6
abbrev impl_PutExport : FuncId := 7
abbrev impl_FindExport : FuncId := 8
abbrev impl_PosOf : FuncId := 9
abbrev impl_ReleaseExport : FuncId := 10
abbrev impl_EqualLinks : FuncId := 11
abbrev spec_PosOf : FuncId := 12
abbrev impl_PutQuestion : FuncId := 13
abbrev impl_DropEntry : FuncId := 14
abbrev impl_FindEntry : FuncId := 15
abbrev laws_szVat : FuncId := 16
abbrev spec_IsVat : FuncId := 17
abbrev laws_toVat : FuncId := 18
abbrev impl_IsVat : FuncId := 19
abbrev laws_eqVat : FuncId := 20
abbrev spec_DrawFindExport : FuncId := 21
abbrev impl_Link_copied : FuncId := 22
abbrev impl_Link_put : FuncId := 23
abbrev impl_Link_at : FuncId := 24
abbrev impl_Link_of : FuncId := 25
abbrev impl_Link_release : FuncId := 26
abbrev slices_Equal_iimpl_Export_impl_Export : FuncId := 27
abbrev slices_Equal_iimpl_Question_impl_Question : FuncId := 28
abbrev impl_Link_ask : FuncId := 29
abbrev slices_DeleteFunc_iimpl_Question_impl_Question : FuncId := 30
abbrev slices_Clone_iimpl_Question_impl_Question : FuncId := 31
abbrev impl_DropEntry_1 : FuncId := 32
abbrev laws_szEntityS : FuncId := 33
abbrev laws_szSentS : FuncId := 34
abbrev laws_szLinkS : FuncId := 35
abbrev laws_szOutgoingS : FuncId := 36
abbrev spec_l1In : FuncId := 37
abbrev spec_l29Sents : FuncId := 38
abbrev spec_IsEntity : FuncId := 39
abbrev spec_l29Entries : FuncId := 40
abbrev laws_toEntityS : FuncId := 41
abbrev laws_toSentS : FuncId := 42
abbrev laws_toLinkS : FuncId := 43
abbrev laws_toOutgoingS : FuncId := 44
abbrev impl_Vat_isVat : FuncId := 45
abbrev laws_eqEntityS : FuncId := 46
abbrev laws_eqSentS : FuncId := 47
abbrev laws_eqLinkS : FuncId := 48
abbrev laws_eqOutgoingS : FuncId := 49
abbrev spec_l1New : FuncId := 50
abbrev spec_l10Link : FuncId := 51
abbrev spec_l1Below : FuncId := 52
abbrev slices_Clone_iimpl_Export_impl_Export : FuncId := 53
abbrev slices_IndexFunc_iimpl_Export_impl_Export : FuncId := 54
abbrev impl_Link_at_1 : FuncId := 55
abbrev impl_Link_of_1 : FuncId := 56
abbrev slices_Delete_iimpl_Export_impl_Export : FuncId := 57
abbrev slices_IndexFunc_iimpl_Question_impl_Question : FuncId := 58
abbrev laws_szEntity : FuncId := 59
abbrev laws_szSent : FuncId := 60
abbrev laws_szLink : FuncId := 61
abbrev laws_szOutgoing : FuncId := 62
abbrev spec_AreValues : FuncId := 63
abbrev spec_l9Promise : FuncId := 64
abbrev laws_toEntity : FuncId := 65
abbrev laws_toSent : FuncId := 66
abbrev laws_toLink : FuncId := 67
abbrev laws_toOutgoing : FuncId := 68
abbrev impl_in : FuncId := 69
abbrev impl_Vat_sentsOk : FuncId := 70
abbrev impl_IsEntity : FuncId := 71
abbrev impl_Vat_linkOk : FuncId := 72
abbrev laws_eqEntity : FuncId := 73
abbrev laws_eqSent : FuncId := 74
abbrev laws_eqLink : FuncId := 75
abbrev laws_eqOutgoing : FuncId := 76
abbrev spec_NewLink : FuncId := 77
abbrev spec_PutExport : FuncId := 78
abbrev spec_PutQuestion : FuncId := 79
abbrev spec_l1Once : FuncId := 80
abbrev spec_ReleaseExport : FuncId := 81
abbrev spec_l1Byte : FuncId := 82
abbrev laws_szValueS : FuncId := 83
abbrev laws_szAskerS : FuncId := 84
abbrev laws_szExportS : FuncId := 85
abbrev laws_szQuestionS : FuncId := 86
abbrev laws_szMessage : FuncId := 87
abbrev spec_IsValue : FuncId := 88
abbrev laws_toValueS : FuncId := 89
abbrev laws_toValue : FuncId := 90
abbrev laws_toAskerS : FuncId := 91
abbrev laws_toTag : FuncId := 92
abbrev laws_toExportS : FuncId := 93
abbrev laws_toQuestionS : FuncId := 94
abbrev laws_toMessage : FuncId := 95
abbrev slices_ContainsFunc_iimpl_Sent_impl_Sent : FuncId := 96
abbrev impl_Vat_sentsOk_1 : FuncId := 97
abbrev impl_Vat_entity : FuncId := 98
abbrev impl_AreValues : FuncId := 99
abbrev impl_Entity_rest : FuncId := 100
abbrev impl_Entity_promiseOk : FuncId := 101
abbrev impl_named : FuncId := 102
abbrev slices_Concat_iimpl_Question_impl_Question : FuncId := 103
abbrev laws_eqValueS : FuncId := 104
abbrev laws_eqValue : FuncId := 105
abbrev laws_eqAskerS : FuncId := 106
abbrev laws_eqTag : FuncId := 107
abbrev laws_eqExportS : FuncId := 108
abbrev laws_eqQuestionS : FuncId := 109
abbrev laws_eqMessage : FuncId := 110
abbrev spec_l10Copy : FuncId := 111
abbrev laws_szWireS : FuncId := 112
abbrev laws_toAsker : FuncId := 113
abbrev laws_toExport : FuncId := 114
abbrev laws_toQuestion : FuncId := 115
abbrev laws_toWireS : FuncId := 116
abbrev laws_toWire : FuncId := 117
abbrev slices_IndexFunc_iimpl_Sent_impl_Sent : FuncId := 118
abbrev slices_ContainsFunc_iimpl_Value_impl_Value : FuncId := 119
abbrev impl_AreValues_1 : FuncId := 120
abbrev impl_IsValue : FuncId := 121
abbrev slices_Grow_iimpl_Question_impl_Question : FuncId := 122
abbrev laws_eqAsker : FuncId := 123
abbrev laws_eqExport : FuncId := 124
abbrev laws_eqQuestion : FuncId := 125
abbrev laws_eqWireS : FuncId := 126
abbrev laws_eqWire : FuncId := 127
abbrev slices_IndexFunc_iimpl_Value_impl_Value : FuncId := 128
abbrev runtime_boundsError_Error : FuncId := 129
abbrev runtime_boundsError_RuntimeError : FuncId := 130
abbrev runtime_errorString_Error : FuncId := 131
abbrev runtime_errorString_RuntimeError : FuncId := 132
abbrev runtime_plainError_Error : FuncId := 133
abbrev runtime_plainError_RuntimeError : FuncId := 134
abbrev runtime_errorAddressString_Error : FuncId := 135
abbrev runtime_errorAddressString_RuntimeError : FuncId := 136
abbrev runtime_TypeAssertionError_Error : FuncId := 137
abbrev runtime_TypeAssertionError_RuntimeError : FuncId := 138
abbrev runtime_PanicNilError_Error : FuncId := 139
abbrev runtime_PanicNilError_RuntimeError : FuncId := 140
abbrev internal_abi_Type_Align : FuncId := 141
abbrev internal_runtime_maps_unhashableTypeError_Error : FuncId := 142
abbrev internal_runtime_maps_unhashableTypeError_RuntimeError : FuncId := 143
abbrev impl_Vat_copied : FuncId := 144
abbrev impl_Entity_copied : FuncId := 145
abbrev impl_Sent_copied : FuncId := 146
abbrev impl_Message_copied : FuncId := 147
abbrev impl_Vat_cut : FuncId := 148
abbrev impl_Entity_isSwept : FuncId := 149
abbrev internal_abi_Kind_String : FuncId := 150
end Fn
namespace Gn
end Gn
def tabL : List (Nat × TI) := [
  (3, ⟨.int .i64, 1, 8, [.int .i64 0], none⟩),
  (4, ⟨.bool, 1, 1, [.bool false], none⟩),
  (5, ⟨.int .u8, 1, 1, [.int .u8 0], none⟩),
  (9, ⟨.str, 1, 16, [.str ⟨#[]⟩], none⟩),
  (22, ⟨.slice 5, 1, 24, [.nils], none⟩),
  (24, ⟨.slice 56, 1, 24, [.nils], none⟩),
  (25, ⟨.slice 61, 1, 24, [.nils], none⟩),
  (27, ⟨.strct [(0, 3), (1, 4), (2, 24), (3, 3), (4, 25), (5, 3), (6, 25)], 7, 104, [.int .i64 0, .bool false, .nils, .int .i64 0, .nils, .int .i64 0, .nils], none⟩),
  (36, ⟨.slice 103, 1, 24, [.nils], none⟩),
  (37, ⟨.slice 108, 1, 24, [.nils], none⟩),
  (38, ⟨.slice 113, 1, 24, [.nils], none⟩),
  (39, ⟨.slice 120, 1, 24, [.nils], none⟩),
  (41, ⟨.strct [(0, 3), (1, 36), (2, 37), (3, 38), (4, 39)], 5, 104, [.int .i64 0, .nils, .nils, .nils, .nils], none⟩),
  (44, ⟨.slice 75, 1, 24, [.nils], none⟩),
  (45, ⟨.slice 123, 1, 24, [.nils], none⟩),
  (46, ⟨.slice 27, 1, 24, [.nils], none⟩),
  (47, ⟨.slice 133, 1, 24, [.nils], none⟩),
  (49, ⟨.strct [(0, 3), (1, 44), (2, 45), (3, 46), (4, 47)], 5, 104, [.int .i64 0, .nils, .nils, .nils, .nils], none⟩),
  (56, ⟨.strct [(0, 3), (1, 3), (2, 3)], 3, 24, [.int .i64 0, .int .i64 0, .int .i64 0], (some [.int .i64, .int .i64, .int .i64])⟩),
  (61, ⟨.strct [(0, 3), (1, 3)], 2, 16, [.int .i64 0, .int .i64 0], (some [.int .i64, .int .i64])⟩),
  (70, ⟨.slice 72, 1, 24, [.nils], none⟩),
  (72, ⟨.strct [(0, 3), (1, 3)], 2, 16, [.int .i64 0, .int .i64 0], (some [.int .i64, .int .i64])⟩),
  (73, ⟨.slice 175, 1, 24, [.nils], none⟩),
  (75, ⟨.strct [(0, 3), (1, 3), (2, 70), (3, 3), (4, 72), (6, 45), (7, 73), (8, 3), (9, 3), (10, 3), (11, 3)], 12, 144, [.int .i64 0, .int .i64 0, .nils, .int .i64 0, .int .i64 0, .int .i64 0, .nils, .nils, .int .i64 0, .int .i64 0, .int .i64 0, .int .i64 0], none⟩),
  (99, ⟨.slice 100, 1, 24, [.nils], none⟩),
  (100, ⟨.strct [(0, 3), (1, 3)], 2, 16, [.int .i64 0, .int .i64 0], none⟩),
  (101, ⟨.slice 177, 1, 24, [.nils], none⟩),
  (103, ⟨.strct [(0, 3), (1, 3), (2, 99), (3, 3), (4, 100), (6, 37), (7, 101), (8, 3), (9, 3), (10, 3), (11, 3)], 12, 144, [.int .i64 0, .int .i64 0, .nils, .int .i64 0, .int .i64 0, .int .i64 0, .nils, .nils, .int .i64 0, .int .i64 0, .int .i64 0, .int .i64 0], none⟩),
  (106, ⟨.strct [(0, 3), (1, 3), (2, 3)], 3, 24, [.int .i64 0, .int .i64 0, .int .i64 0], none⟩),
  (108, ⟨.strct [(0, 3), (1, 9), (2, 99), (3, 3), (4, 106)], 7, 80, [.int .i64 0, .str ⟨#[]⟩, .nils, .int .i64 0, .int .i64 0, .int .i64 0, .int .i64 0], none⟩),
  (110, ⟨.slice 179, 1, 24, [.nils], none⟩),
  (111, ⟨.slice 181, 1, 24, [.nils], none⟩),
  (113, ⟨.strct [(0, 3), (1, 4), (2, 110), (3, 3), (4, 111), (5, 3), (6, 111)], 7, 104, [.int .i64 0, .bool false, .nils, .int .i64 0, .nils, .int .i64 0, .nils], none⟩),
  (115, ⟨.slice 116, 1, 24, [.nils], none⟩),
  (116, ⟨.strct [(0, 3), (1, 3)], 2, 16, [.int .i64 0, .int .i64 0], none⟩),
  (118, ⟨.strct [(0, 3), (1, 3), (2, 3), (3, 3), (4, 9), (5, 115), (6, 116), (8, 3), (9, 106)], 12, 120, [.int .i64 0, .int .i64 0, .int .i64 0, .int .i64 0, .str ⟨#[]⟩, .nils, .int .i64 0, .int .i64 0, .int .i64 0, .int .i64 0, .int .i64 0, .int .i64 0], none⟩),
  (120, ⟨.strct [(0, 3), (1, 118)], 13, 128, [.int .i64 0, .int .i64 0, .int .i64 0, .int .i64 0, .int .i64 0, .str ⟨#[]⟩, .nils, .int .i64 0, .int .i64 0, .int .i64 0, .int .i64 0, .int .i64 0, .int .i64 0], none⟩),
  (121, ⟨.strct [(0, 3), (1, 3), (2, 3)], 3, 24, [.int .i64 0, .int .i64 0, .int .i64 0], none⟩),
  (123, ⟨.strct [(0, 3), (1, 9), (2, 70), (3, 3), (4, 121)], 7, 80, [.int .i64 0, .str ⟨#[]⟩, .nils, .int .i64 0, .int .i64 0, .int .i64 0, .int .i64 0], none⟩),
  (128, ⟨.slice 129, 1, 24, [.nils], none⟩),
  (129, ⟨.strct [(0, 3), (1, 3)], 2, 16, [.int .i64 0, .int .i64 0], none⟩),
  (131, ⟨.strct [(0, 3), (1, 3), (2, 3), (3, 3), (4, 9), (5, 128), (6, 129), (8, 3), (9, 121)], 12, 120, [.int .i64 0, .int .i64 0, .int .i64 0, .int .i64 0, .str ⟨#[]⟩, .nils, .int .i64 0, .int .i64 0, .int .i64 0, .int .i64 0, .int .i64 0, .int .i64 0], none⟩),
  (133, ⟨.strct [(0, 3), (1, 131)], 13, 128, [.int .i64 0, .int .i64 0, .int .i64 0, .int .i64 0, .int .i64 0, .str ⟨#[]⟩, .nils, .int .i64 0, .int .i64 0, .int .i64 0, .int .i64 0, .int .i64 0, .int .i64 0], none⟩),
  (135, ⟨.ptr 49, 1, 8, [.nilp], none⟩),
  (142, ⟨.strct [(0, 22), (1, 3), (2, 3)], 3, 40, [.nils, .int .i64 0, .int .i64 0], none⟩),
  (160, ⟨.ptr 75, 1, 8, [.nilp], none⟩),
  (175, ⟨.strct [(0, 3), (1, 3)], 2, 16, [.int .i64 0, .int .i64 0], none⟩),
  (177, ⟨.strct [(0, 3), (1, 3)], 2, 16, [.int .i64 0, .int .i64 0], none⟩),
  (179, ⟨.strct [(0, 3), (1, 3), (2, 3)], 3, 24, [.int .i64 0, .int .i64 0, .int .i64 0], none⟩),
  (181, ⟨.strct [(0, 3), (1, 3)], 2, 16, [.int .i64 0, .int .i64 0], none⟩),
  (187, ⟨.slice 25, 1, 24, [.nils], none⟩)]
def Θ : Tab := tabOf tabL
theorem tabOK : TabOK Try.prog Θ := tabOK_of (by kernel_rfl) (by kernel_rfl)
theorem mixed : Try.prog.follows .mixedOrders = true := by kernel_rfl
variable {Γ : Glob}

def laws_FnLinks_c : C := .seq (.reg [⟨(some 2), none, .mov (.c (.bool false))⟩]) (.seq (.seq (.reg [⟨(some 13), none, .mov (.t 0)⟩,
  ⟨(some 14), none, .call (.c (.fn Fn.laws_big [] [])) [.t 13]⟩]) (.cond (.t 14) (.seq (.reg [⟨(some 2), none, .mov (.c (.bool true))⟩]) (.ret)) (.skip))) (.seq (.reg [⟨(some 16), none, .mov (.t 0)⟩,
  ⟨(some 17), none, .call (.c (.fn Fn.spec_DrawPutExport [] [])) [.t 16]⟩,
  ⟨(some 15), none, .mov (.t 17)⟩,
  ⟨(some 18), none, .extr (.t 15) 0⟩,
  ⟨(some 19), none, .extr (.t 15) 1⟩,
  ⟨(some 3), none, .alloc [.int .i64 0, .bool false, .nils, .int .i64 0, .nils, .int .i64 0, .nils]⟩,
  ⟨none, none, .store 7 (.t 3) (.t 18)⟩,
  ⟨(some 4), none, .mov (.t 19)⟩]) (.seq (.reg [⟨(some 21), none, .load 7 true (.t 3)⟩,
  ⟨(some 22), none, .mov (.t 4)⟩,
  ⟨(some 23), none, .call (.c (.fn Fn.impl_PutExport [] [])) [.t 21, .t 22]⟩,
  ⟨(some 20), none, .mov (.t 23)⟩,
  ⟨(some 24), none, .extr (.t 20) 0⟩,
  ⟨(some 25), none, .extr (.t 20) 1⟩,
  ⟨(some 5), none, .alloc [.int .i64 0, .bool false, .nils, .int .i64 0, .nils, .int .i64 0, .nils]⟩,
  ⟨none, none, .store 7 (.t 5) (.t 24)⟩,
  ⟨(some 6), none, .mov (.t 25)⟩]) (.seq (.seq (.reg [⟨(some 26), none, .load 7 true (.t 5)⟩,
  ⟨(some 27), none, .mov (.t 6)⟩,
  ⟨(some 28), none, .call (.c (.fn Fn.impl_FindExport [] [])) [.t 26, .t 27]⟩,
  ⟨(some 29), none, .mov (.t 4)⟩,
  ⟨(some 30), none, .bin .neq (.num) (.t 28) (.t 29)⟩,
  ⟨(some 31), none, .mov (.t 30)⟩,
  ⟨(some 32), (some (5, false)), .load 7 true (.t 5)⟩,
  ⟨(some 33), (some (5, false)), .mov (.t 4)⟩,
  ⟨(some 34), (some (5, false)), .call (.c (.fn Fn.impl_PosOf [] [])) [.t 32, .t 33]⟩,
  ⟨(some 35), (some (5, false)), .mov (.t 6)⟩,
  ⟨(some 36), (some (5, false)), .bin .neq (.num) (.t 34) (.t 35)⟩,
  ⟨(some 37), none, .pick (.t 31) (.c (.bool true)) (.t 36)⟩]) (.cond (.t 37) (.seq (.reg [⟨(some 2), none, .mov (.c (.bool false))⟩]) (.ret)) (.skip))) (.seq (.reg [⟨(some 39), none, .load 7 true (.t 5)⟩,
  ⟨(some 40), none, .mov (.t 4)⟩,
  ⟨(some 41), none, .call (.c (.fn Fn.impl_PutExport [] [])) [.t 39, .t 40]⟩,
  ⟨(some 38), none, .mov (.t 41)⟩,
  ⟨(some 42), none, .extr (.t 38) 0⟩,
  ⟨(some 43), none, .extr (.t 38) 1⟩,
  ⟨(some 7), none, .alloc [.int .i64 0, .bool false, .nils, .int .i64 0, .nils, .int .i64 0, .nils]⟩,
  ⟨none, none, .store 7 (.t 7) (.t 42)⟩,
  ⟨(some 8), none, .mov (.t 43)⟩]) (.seq (.reg [⟨(some 44), none, .load 7 true (.t 7)⟩,
  ⟨(some 45), none, .mov (.t 6)⟩,
  ⟨(some 46), none, .call (.c (.fn Fn.impl_ReleaseExport [] [])) [.t 44, .t 45, .c (.int .i64 1)]⟩,
  ⟨(some 9), none, .alloc [.int .i64 0, .bool false, .nils, .int .i64 0, .nils, .int .i64 0, .nils]⟩,
  ⟨none, none, .store 7 (.t 9) (.t 46)⟩]) (.seq (.seq (.reg [⟨(some 47), none, .mov (.t 8)⟩,
  ⟨(some 48), none, .mov (.t 6)⟩,
  ⟨(some 49), none, .bin .neq (.num) (.t 47) (.t 48)⟩,
  ⟨(some 50), none, .mov (.t 49)⟩,
  ⟨(some 51), (some (3, false)), .load 7 true (.t 9)⟩,
  ⟨(some 52), (some (3, false)), .load 7 true (.t 5)⟩,
  ⟨(some 53), (some (3, false)), .call (.c (.fn Fn.impl_EqualLinks [] [])) [.t 51, .t 52]⟩,
  ⟨(some 54), (some (3, false)), .un .not (.t 53)⟩,
  ⟨(some 55), none, .pick (.t 50) (.c (.bool true)) (.t 54)⟩]) (.cond (.t 55) (.seq (.reg [⟨(some 2), none, .mov (.c (.bool false))⟩]) (.ret)) (.skip))) (.seq (.seq (.reg [⟨(some 56), none, .load 7 true (.t 3)⟩,
  ⟨(some 57), none, .mov (.t 4)⟩,
  ⟨(some 58), none, .call (.c (.fn Fn.spec_PosOf [] [])) [.t 56, .t 57]⟩,
  ⟨(some 59), none, .bin .eql (.num) (.t 58) (.c (.int .i64 0))⟩,
  ⟨(some 60), none, .mov (.t 59)⟩,
  ⟨(some 61), (some (4, true)), .load 7 true (.t 5)⟩,
  ⟨(some 62), (some (4, true)), .mov (.t 6)⟩,
  ⟨(some 63), (some (4, true)), .call (.c (.fn Fn.impl_ReleaseExport [] [])) [.t 61, .t 62, .c (.int .i64 1)]⟩,
  ⟨(some 64), (some (4, true)), .mov (.t 6)⟩,
  ⟨(some 65), (some (4, true)), .call (.c (.fn Fn.impl_FindExport [] [])) [.t 63, .t 64]⟩,
  ⟨(some 66), (some (4, true)), .bin .neq (.num) (.t 65) (.c (.int .i64 (-1)))⟩,
  ⟨(some 67), none, .pick (.t 60) (.t 66) (.c (.bool false))⟩]) (.cond (.t 67) (.seq (.reg [⟨(some 2), none, .mov (.c (.bool false))⟩]) (.ret)) (.skip))) (.seq (.reg [⟨(some 69), none, .load 7 true (.t 3)⟩,
  ⟨(some 70), none, .mov (.t 4)⟩,
  ⟨(some 71), none, .call (.c (.fn Fn.impl_PutQuestion [] [])) [.t 69, .t 70]⟩,
  ⟨(some 68), none, .mov (.t 71)⟩,
  ⟨(some 72), none, .extr (.t 68) 0⟩,
  ⟨(some 73), none, .extr (.t 68) 1⟩,
  ⟨(some 10), none, .alloc [.int .i64 0, .bool false, .nils, .int .i64 0, .nils, .int .i64 0, .nils]⟩,
  ⟨none, none, .store 7 (.t 10) (.t 72)⟩,
  ⟨(some 11), none, .mov (.t 73)⟩]) (.seq (.reg [⟨(some 74), none, .fld 4 (.t 10)⟩,
  ⟨(some 75), none, .load 1 false (.t 74)⟩,
  ⟨(some 76), none, .mov (.t 11)⟩,
  ⟨(some 77), none, .call (.c (.fn Fn.impl_DropEntry [] [])) [.t 75, .t 76]⟩,
  ⟨(some 12), none, .mov (.t 77)⟩]) (.seq (.reg [⟨(some 78), none, .fld 4 (.t 10)⟩,
  ⟨(some 79), none, .load 1 false (.t 78)⟩,
  ⟨(some 80), none, .mov (.t 11)⟩,
  ⟨(some 81), none, .call (.c (.fn Fn.impl_FindEntry [] [])) [.t 79, .t 80]⟩,
  ⟨(some 82), none, .mov (.t 4)⟩,
  ⟨(some 83), none, .bin .eql (.num) (.t 81) (.t 82)⟩,
  ⟨(some 84), none, .mov (.t 83)⟩,
  ⟨(some 85), (some (6, true)), .mov (.t 12)⟩,
  ⟨(some 86), (some (6, true)), .mov (.t 11)⟩,
  ⟨(some 87), (some (6, true)), .call (.c (.fn Fn.impl_FindEntry [] [])) [.t 85, .t 86]⟩,
  ⟨(some 88), (some (6, true)), .bin .eql (.num) (.t 87) (.c (.int .i64 (-1)))⟩,
  ⟨(some 89), none, .pick (.t 84) (.t 88) (.c (.bool false))⟩,
  ⟨(some 90), none, .mov (.t 89)⟩,
  ⟨(some 91), (some (12, true)), .mov (.t 12)⟩,
  ⟨(some 92), (some (12, true)), .len false (.t 91)⟩,
  ⟨(some 93), (some (12, true)), .fld 4 (.t 3)⟩,
  ⟨(some 94), (some (12, true)), .load 1 false (.t 93)⟩,
  ⟨(some 95), (some (12, true)), .len false (.t 94)⟩,
  ⟨(some 96), (some (12, true)), .bin .eql (.num) (.t 92) (.t 95)⟩,
  ⟨(some 97), none, .pick (.t 90) (.t 96) (.c (.bool false))⟩,
  ⟨(some 98), none, .mov (.t 97)⟩,
  ⟨(some 99), (some (20, true)), .mov (.t 11)⟩,
  ⟨(some 100), (some (20, true)), .fld 5 (.t 3)⟩,
  ⟨(some 101), (some (20, true)), .load 1 false (.t 100)⟩,
  ⟨(some 102), (some (20, true)), .bin .add (.num) (.t 101) (.c (.int .i64 1))⟩,
  ⟨(some 103), (some (20, true)), .bin .eql (.num) (.t 99) (.t 102)⟩,
  ⟨(some 104), none, .pick (.t 98) (.t 103) (.c (.bool false))⟩,
  ⟨(some 2), none, .mov (.t 104)⟩]) (.ret))))))))))))
def laws_FnLinks_r : List RS := [.t 2]
theorem laws_FnLinks_e {a0 : AV} {h : AH} {K : AV → AH → Prop} (hw : TC Try.prog Θ Γ laws_FnLinks_c (retQ laws_FnLinks_r K) ⟨[a0, u, u, u, u, u, u, u, u, u, u, u, u, u, u, u, u, u, u, u, u, u, u, u, u, u, u, u, u, u, u, u, u, u, u, u, u, u, u, u, u, u, u, u, u, u, u, u, u, u, u, u, u, u, u, u, u, u, u, u, u, u, u, u, u, u, u, u, u, u, u, u, u, u, u, u, u, u, u, u, u, u, u, u, u, u, u, u, u, u, u, u, u, u, u, u, u, u, u, u, u, u, u, u, u], [], h⟩) : T Try.prog Γ Fn.laws_FnLinks [a0] h K :=
  T_of_body tabOK Try.func3 (code := bodyOf Try.f3) (by kernel_rfl) (by kernel_rfl) (by kernel_rfl) (by kernel_rfl) hw
def laws_big_c : C := .seq (.reg [⟨(some 2), none, .mov (.c (.bool false))⟩]) (.seq (.reg [⟨(some 3), none, .mov (.t 0)⟩,
  ⟨(some 4), none, .len false (.t 3)⟩,
  ⟨(some 5), none, .bin .gtr (.num) (.t 4) (.c (.int .i64 1048576))⟩,
  ⟨(some 2), none, .mov (.t 5)⟩]) (.ret))
def laws_big_r : List RS := [.t 2]
theorem laws_big_e {a0 : AV} {h : AH} {K : AV → AH → Prop} (hw : TC Try.prog Θ Γ laws_big_c (retQ laws_big_r K) ⟨[a0, u, u, u, u, u], [], h⟩) : T Try.prog Γ Fn.laws_big [a0] h K :=
  T_of_body tabOK Try.func5 (code := bodyOf Try.f5) (by kernel_rfl) (by kernel_rfl) (by kernel_rfl) (by kernel_rfl) hw
def spec_DrawPutExport_c : C := .seq (.reg [⟨(some 2), none, .alloc [.int .i64 0, .bool false, .nils, .int .i64 0, .nils, .int .i64 0, .nils]⟩,
  ⟨(some 3), none, .mov (.c (.int .i64 0))⟩]) (.seq (.reg [⟨(some 4), none, .mov (.t 0)⟩,
  ⟨(some 5), none, .call (.c (.fn Fn.spec_DrawFindExport [] [])) [.t 4]⟩,
  ⟨(some 6), none, .extr (.t 5) 0⟩,
  ⟨(some 7), none, .extr (.t 5) 1⟩,
  ⟨none, none, .store 7 (.t 2) (.t 6)⟩,
  ⟨(some 3), none, .mov (.t 7)⟩]) (.ret))
def spec_DrawPutExport_r : List RS := [.cell 2 7 true, .t 3]
theorem spec_DrawPutExport_e {a0 : AV} {h : AH} {K : AV → AH → Prop} (hw : TC Try.prog Θ Γ spec_DrawPutExport_c (retQ spec_DrawPutExport_r K) ⟨[a0, u, u, u, u, u, u, u], [], h⟩) : T Try.prog Γ Fn.spec_DrawPutExport [a0] h K :=
  T_of_body tabOK Try.func6 (code := bodyOf Try.f6) (by kernel_rfl) (by kernel_rfl) (by kernel_rfl) (by kernel_rfl) hw
def impl_PutExport_c : C := .seq (.reg [⟨(some 2), none, .box (.t 0)⟩,
  ⟨(some 4), none, .alloc [.int .i64 0, .bool false, .nils, .int .i64 0, .nils, .int .i64 0, .nils]⟩,
  ⟨(some 5), none, .mov (.c (.int .i64 0))⟩]) (.seq (.reg [⟨(some 8), none, .load 7 true (.t 2)⟩,
  ⟨(some 9), none, .call (.c (.fn Fn.impl_Link_copied [] [])) [.t 8]⟩,
  ⟨(some 6), none, .alloc [.int .i64 0, .bool false, .nils, .int .i64 0, .nils, .int .i64 0, .nils]⟩,
  ⟨none, none, .store 7 (.t 6) (.t 9)⟩]) (.seq (.reg [⟨(some 10), none, .mov (.t 1)⟩,
  ⟨(some 11), none, .call (.c (.fn Fn.impl_Link_put [] [])) [.t 6, .t 10]⟩,
  ⟨(some 7), none, .mov (.t 11)⟩]) (.seq (.reg [⟨(some 12), none, .load 7 true (.t 6)⟩,
  ⟨(some 13), none, .mov (.t 7)⟩,
  ⟨none, none, .store 7 (.t 4) (.t 12)⟩,
  ⟨(some 5), none, .mov (.t 13)⟩]) (.ret))))
def impl_PutExport_r : List RS := [.cell 4 7 true, .t 5]
theorem impl_PutExport_e {a0 a1 : AV} {h : AH} {K : AV → AH → Prop} (hw : TC Try.prog Θ Γ impl_PutExport_c (retQ impl_PutExport_r K) ⟨[a0, a1, u, u, u, u, u, u, u, u, u, u, u, u], [], h⟩) : T Try.prog Γ Fn.impl_PutExport [a0, a1] h K :=
  T_of_body tabOK Try.func7 (code := bodyOf Try.f7) (by kernel_rfl) (by kernel_rfl) (by kernel_rfl) (by kernel_rfl) hw
def impl_FindExport_c : C := .seq (.reg [⟨(some 2), none, .box (.t 0)⟩,
  ⟨(some 4), none, .mov (.c (.int .i64 0))⟩]) (.seq (.seq (.reg [⟨(some 6), none, .mov (.t 1)⟩,
  ⟨(some 7), none, .call (.c (.fn Fn.impl_Link_at [] [])) [.t 2, .t 6]⟩,
  ⟨(some 5), none, .mov (.t 7)⟩]) (.seq (.reg [⟨(some 8), none, .mov (.t 5)⟩,
  ⟨(some 9), none, .bin .geq (.num) (.t 8) (.c (.int .i64 0))⟩]) (.cond (.t 9) (.seq (.reg [⟨(some 10), none, .fld 2 (.t 2)⟩,
  ⟨(some 11), none, .load 1 false (.t 10)⟩,
  ⟨(some 12), none, .mov (.t 5)⟩,
  ⟨(some 13), none, .idxs 3 (.t 11) (.t 12)⟩,
  ⟨(some 14), none, .fld 1 (.t 13)⟩,
  ⟨(some 15), none, .load 1 false (.t 14)⟩,
  ⟨(some 4), none, .mov (.t 15)⟩]) (.ret)) (.skip)))) (.seq (.reg [⟨(some 4), none, .mov (.c (.int .i64 (-1)))⟩]) (.ret)))
def impl_FindExport_r : List RS := [.t 4]
theorem impl_FindExport_e {a0 a1 : AV} {h : AH} {K : AV → AH → Prop} (hw : TC Try.prog Θ Γ impl_FindExport_c (retQ impl_FindExport_r K) ⟨[a0, a1, u, u, u, u, u, u, u, u, u, u, u, u, u, u], [], h⟩) : T Try.prog Γ Fn.impl_FindExport [a0, a1] h K :=
  T_of_body tabOK Try.func8 (code := bodyOf Try.f8) (by kernel_rfl) (by kernel_rfl) (by kernel_rfl) (by kernel_rfl) hw
def impl_PosOf_c : C := .seq (.reg [⟨(some 2), none, .box (.t 0)⟩,
  ⟨(some 4), none, .mov (.c (.int .i64 0))⟩]) (.seq (.seq (.reg [⟨(some 6), none, .mov (.t 1)⟩,
  ⟨(some 7), none, .call (.c (.fn Fn.impl_Link_of [] [])) [.t 2, .t 6]⟩,
  ⟨(some 5), none, .mov (.t 7)⟩]) (.seq (.reg [⟨(some 8), none, .mov (.t 5)⟩,
  ⟨(some 9), none, .bin .geq (.num) (.t 8) (.c (.int .i64 0))⟩]) (.cond (.t 9) (.seq (.reg [⟨(some 10), none, .fld 2 (.t 2)⟩,
  ⟨(some 11), none, .load 1 false (.t 10)⟩,
  ⟨(some 12), none, .mov (.t 5)⟩,
  ⟨(some 13), none, .idxs 3 (.t 11) (.t 12)⟩,
  ⟨(some 14), none, .fld 0 (.t 13)⟩,
  ⟨(some 15), none, .load 1 false (.t 14)⟩,
  ⟨(some 4), none, .mov (.t 15)⟩]) (.ret)) (.skip)))) (.seq (.reg [⟨(some 4), none, .mov (.c (.int .i64 0))⟩]) (.ret)))
def impl_PosOf_r : List RS := [.t 4]
theorem impl_PosOf_e {a0 a1 : AV} {h : AH} {K : AV → AH → Prop} (hw : TC Try.prog Θ Γ impl_PosOf_c (retQ impl_PosOf_r K) ⟨[a0, a1, u, u, u, u, u, u, u, u, u, u, u, u, u, u], [], h⟩) : T Try.prog Γ Fn.impl_PosOf [a0, a1] h K :=
  T_of_body tabOK Try.func9 (code := bodyOf Try.f9) (by kernel_rfl) (by kernel_rfl) (by kernel_rfl) (by kernel_rfl) hw
def impl_ReleaseExport_c : C := .seq (.reg [⟨(some 3), none, .box (.t 0)⟩,
  ⟨(some 6), none, .alloc [.int .i64 0, .bool false, .nils, .int .i64 0, .nils, .int .i64 0, .nils]⟩]) (.seq (.reg [⟨(some 8), none, .load 7 true (.t 3)⟩,
  ⟨(some 9), none, .call (.c (.fn Fn.impl_Link_copied [] [])) [.t 8]⟩,
  ⟨(some 7), none, .alloc [.int .i64 0, .bool false, .nils, .int .i64 0, .nils, .int .i64 0, .nils]⟩,
  ⟨none, none, .store 7 (.t 7) (.t 9)⟩]) (.seq (.reg [⟨(some 10), none, .mov (.t 1)⟩,
  ⟨(some 11), none, .mov (.t 2)⟩,
  ⟨(some 12), none, .call (.c (.fn Fn.impl_Link_release [] [])) [.t 7, .t 10, .t 11]⟩]) (.seq (.reg [⟨(some 13), none, .load 7 true (.t 7)⟩,
  ⟨none, none, .store 7 (.t 6) (.t 13)⟩]) (.ret))))
def impl_ReleaseExport_r : List RS := [.cell 6 7 true]
theorem impl_ReleaseExport_e {a0 a1 a2 : AV} {h : AH} {K : AV → AH → Prop} (hw : TC Try.prog Θ Γ impl_ReleaseExport_c (retQ impl_ReleaseExport_r K) ⟨[a0, a1, a2, u, u, u, u, u, u, u, u, u, u, u], [], h⟩) : T Try.prog Γ Fn.impl_ReleaseExport [a0, a1, a2] h K :=
  T_of_body tabOK Try.func10 (code := bodyOf Try.f10) (by kernel_rfl) (by kernel_rfl) (by kernel_rfl) (by kernel_rfl) hw
def impl_EqualLinks_c : C := .seq (.reg [⟨(some 2), none, .box (.t 0)⟩,
  ⟨(some 3), none, .box (.t 1)⟩,
  ⟨(some 4), none, .mov (.c (.bool false))⟩]) (.seq (.reg [⟨(some 5), none, .fld 0 (.t 2)⟩,
  ⟨(some 6), none, .load 1 false (.t 5)⟩,
  ⟨(some 7), none, .fld 0 (.t 3)⟩,
  ⟨(some 8), none, .load 1 false (.t 7)⟩,
  ⟨(some 9), none, .bin .eql (.num) (.t 6) (.t 8)⟩,
  ⟨(some 10), none, .mov (.t 9)⟩,
  ⟨(some 11), (some (5, true)), .fld 1 (.t 2)⟩,
  ⟨(some 12), (some (5, true)), .load 1 false (.t 11)⟩,
  ⟨(some 13), (some (5, true)), .fld 1 (.t 3)⟩,
  ⟨(some 14), (some (5, true)), .load 1 false (.t 13)⟩,
  ⟨(some 15), (some (5, true)), .bin .eql (.bool) (.t 12) (.t 14)⟩,
  ⟨(some 16), none, .pick (.t 10) (.t 15) (.c (.bool false))⟩,
  ⟨(some 17), none, .mov (.t 16)⟩,
  ⟨(some 18), (some (12, true)), .fld 2 (.t 2)⟩,
  ⟨(some 19), (some (12, true)), .load 1 false (.t 18)⟩,
  ⟨(some 20), (some (12, true)), .fld 2 (.t 3)⟩,
  ⟨(some 21), (some (12, true)), .load 1 false (.t 20)⟩,
  ⟨(some 22), (some (12, true)), .call (.c (.fn Fn.slices_Equal_iimpl_Export_impl_Export [] [])) [.t 19, .t 21]⟩,
  ⟨(some 23), none, .pick (.t 17) (.t 22) (.c (.bool false))⟩,
  ⟨(some 24), none, .mov (.t 23)⟩,
  ⟨(some 25), (some (19, true)), .fld 3 (.t 2)⟩,
  ⟨(some 26), (some (19, true)), .load 1 false (.t 25)⟩,
  ⟨(some 27), (some (19, true)), .fld 3 (.t 3)⟩,
  ⟨(some 28), (some (19, true)), .load 1 false (.t 27)⟩,
  ⟨(some 29), (some (19, true)), .bin .eql (.num) (.t 26) (.t 28)⟩,
  ⟨(some 30), none, .pick (.t 24) (.t 29) (.c (.bool false))⟩,
  ⟨(some 31), none, .mov (.t 30)⟩,
  ⟨(some 32), (some (26, true)), .fld 4 (.t 2)⟩,
  ⟨(some 33), (some (26, true)), .load 1 false (.t 32)⟩,
  ⟨(some 34), (some (26, true)), .fld 4 (.t 3)⟩,
  ⟨(some 35), (some (26, true)), .load 1 false (.t 34)⟩,
  ⟨(some 36), (some (26, true)), .call (.c (.fn Fn.slices_Equal_iimpl_Question_impl_Question [] [])) [.t 33, .t 35]⟩,
  ⟨(some 37), none, .pick (.t 31) (.t 36) (.c (.bool false))⟩,
  ⟨(some 38), none, .mov (.t 37)⟩,
  ⟨(some 39), (some (33, true)), .fld 5 (.t 2)⟩,
  ⟨(some 40), (some (33, true)), .load 1 false (.t 39)⟩,
  ⟨(some 41), (some (33, true)), .fld 5 (.t 3)⟩,
  ⟨(some 42), (some (33, true)), .load 1 false (.t 41)⟩,
  ⟨(some 43), (some (33, true)), .bin .eql (.num) (.t 40) (.t 42)⟩,
  ⟨(some 44), none, .pick (.t 38) (.t 43) (.c (.bool false))⟩,
  ⟨(some 45), none, .mov (.t 44)⟩,
  ⟨(some 46), (some (40, true)), .fld 6 (.t 2)⟩,
  ⟨(some 47), (some (40, true)), .load 1 false (.t 46)⟩,
  ⟨(some 48), (some (40, true)), .fld 6 (.t 3)⟩,
  ⟨(some 49), (some (40, true)), .load 1 false (.t 48)⟩,
  ⟨(some 50), (some (40, true)), .call (.c (.fn Fn.slices_Equal_iimpl_Question_impl_Question [] [])) [.t 47, .t 49]⟩,
  ⟨(some 51), none, .pick (.t 45) (.t 50) (.c (.bool false))⟩,
  ⟨(some 4), none, .mov (.t 51)⟩]) (.ret))
def impl_EqualLinks_r : List RS := [.t 4]
theorem impl_EqualLinks_e {a0 a1 : AV} {h : AH} {K : AV → AH → Prop} (hw : TC Try.prog Θ Γ impl_EqualLinks_c (retQ impl_EqualLinks_r K) ⟨[a0, a1, u, u, u, u, u, u, u, u, u, u, u, u, u, u, u, u, u, u, u, u, u, u, u, u, u, u, u, u, u, u, u, u, u, u, u, u, u, u, u, u, u, u, u, u, u, u, u, u, u, u], [], h⟩) : T Try.prog Γ Fn.impl_EqualLinks [a0, a1] h K :=
  T_of_body tabOK Try.func11 (code := bodyOf Try.f11) (by kernel_rfl) (by kernel_rfl) (by kernel_rfl) (by kernel_rfl) hw
def spec_PosOf_c : C := .seq (.reg [⟨(some 2), none, .box (.t 0)⟩,
  ⟨(some 4), none, .mov (.c (.int .i64 0))⟩]) (.seq (.seq (.reg [⟨(some 5), none, .mov (.c (.int .i64 0))⟩]) (.block 0 (.loop (.seq (.seq (.reg [⟨(some 6), none, .mov (.t 5)⟩,
  ⟨(some 7), none, .fld 2 (.t 2)⟩,
  ⟨(some 8), none, .load 1 false (.t 7)⟩,
  ⟨(some 9), none, .len false (.t 8)⟩,
  ⟨(some 10), none, .bin .lss (.num) (.t 6) (.t 9)⟩]) (.cond (.t 10) (.skip) (.exit 0))) (.seq (.block 1 (.seq (.reg [⟨(some 13), none, .fld 2 (.t 2)⟩,
  ⟨(some 14), none, .load 1 false (.t 13)⟩,
  ⟨(some 15), none, .mov (.t 5)⟩,
  ⟨(some 16), none, .idxs 3 (.t 14) (.t 15)⟩,
  ⟨(some 17), none, .fld 1 (.t 16)⟩,
  ⟨(some 18), none, .load 1 false (.t 17)⟩,
  ⟨(some 19), none, .mov (.t 1)⟩,
  ⟨(some 20), none, .bin .eql (.num) (.t 18) (.t 19)⟩]) (.cond (.t 20) (.seq (.reg [⟨(some 21), none, .fld 2 (.t 2)⟩,
  ⟨(some 22), none, .load 1 false (.t 21)⟩,
  ⟨(some 23), none, .mov (.t 5)⟩,
  ⟨(some 24), none, .idxs 3 (.t 22) (.t 23)⟩,
  ⟨(some 25), none, .fld 0 (.t 24)⟩,
  ⟨(some 26), none, .load 1 false (.t 25)⟩,
  ⟨(some 4), none, .mov (.t 26)⟩]) (.ret)) (.skip)))) (.reg [⟨(some 11), none, .mov (.t 5)⟩,
  ⟨(some 12), none, .bin .add (.num) (.t 11) (.c (.int .i64 1))⟩,
  ⟨(some 5), none, .mov (.t 12)⟩])))))) (.seq (.reg [⟨(some 4), none, .mov (.c (.int .i64 0))⟩]) (.ret)))
def spec_PosOf_r : List RS := [.t 4]
def spec_PosOf_s0 (t1 t2 t5 : AV) (loc : List (List AV)) (h : AH) : St := ⟨[.any, t1, t2, .any, .any, t5, .any, .any, .any, .any, .any, .any, .any, .any, .any, .any, .any, .any, .any, .any, .any, .any, .any, .any, .any, .any, .any], loc, h⟩
theorem spec_PosOf_e {a0 a1 : AV} {h : AH} {K : AV → AH → Prop} (hw : TC Try.prog Θ Γ spec_PosOf_c (retQ spec_PosOf_r K) ⟨[a0, a1, u, u, u, u, u, u, u, u, u, u, u, u, u, u, u, u, u, u, u, u, u, u, u, u, u], [], h⟩) : T Try.prog Γ Fn.spec_PosOf [a0, a1] h K :=
  T_of_body tabOK Try.func12 (code := bodyOf Try.f12) (by kernel_rfl) (by kernel_rfl) (by kernel_rfl) (by kernel_rfl) hw
def impl_PutQuestion_c : C := .seq (.reg [⟨(some 2), none, .box (.t 0)⟩,
  ⟨(some 4), none, .alloc [.int .i64 0, .bool false, .nils, .int .i64 0, .nils, .int .i64 0, .nils]⟩,
  ⟨(some 5), none, .mov (.c (.int .i64 0))⟩]) (.seq (.reg [⟨(some 8), none, .load 7 true (.t 2)⟩,
  ⟨(some 9), none, .call (.c (.fn Fn.impl_Link_copied [] [])) [.t 8]⟩,
  ⟨(some 6), none, .alloc [.int .i64 0, .bool false, .nils, .int .i64 0, .nils, .int .i64 0, .nils]⟩,
  ⟨none, none, .store 7 (.t 6) (.t 9)⟩]) (.seq (.reg [⟨(some 10), none, .mov (.t 1)⟩,
  ⟨(some 11), none, .call (.c (.fn Fn.impl_Link_ask [] [])) [.t 6, .t 10]⟩,
  ⟨(some 7), none, .mov (.t 11)⟩]) (.seq (.reg [⟨(some 12), none, .load 7 true (.t 6)⟩,
  ⟨(some 13), none, .mov (.t 7)⟩,
  ⟨none, none, .store 7 (.t 4) (.t 12)⟩,
  ⟨(some 5), none, .mov (.t 13)⟩]) (.ret))))
def impl_PutQuestion_r : List RS := [.cell 4 7 true, .t 5]
theorem impl_PutQuestion_e {a0 a1 : AV} {h : AH} {K : AV → AH → Prop} (hw : TC Try.prog Θ Γ impl_PutQuestion_c (retQ impl_PutQuestion_r K) ⟨[a0, a1, u, u, u, u, u, u, u, u, u, u, u, u], [], h⟩) : T Try.prog Γ Fn.impl_PutQuestion [a0, a1] h K :=
  T_of_body tabOK Try.func13 (code := bodyOf Try.f13) (by kernel_rfl) (by kernel_rfl) (by kernel_rfl) (by kernel_rfl) hw
def impl_DropEntry_c : C := .seq (.reg [⟨(some 3), none, .box (.t 1)⟩,
  ⟨(some 4), none, .mov (.c (.nils))⟩]) (.seq (.reg [⟨(some 5), none, .mov (.t 0)⟩,
  ⟨(some 6), none, .call (.c (.fn Fn.slices_Clone_iimpl_Question_impl_Question [] [])) [.t 5]⟩,
  ⟨(some 7), none, .mkf Fn.impl_DropEntry_1 [] [.t 3]⟩,
  ⟨(some 8), none, .call (.c (.fn Fn.slices_DeleteFunc_iimpl_Question_impl_Question [] [])) [.t 6, .t 7]⟩,
  ⟨(some 4), none, .mov (.t 8)⟩]) (.ret))
def impl_DropEntry_r : List RS := [.t 4]
theorem impl_DropEntry_e {a0 a1 : AV} {h : AH} {K : AV → AH → Prop} (hw : TC Try.prog Θ Γ impl_DropEntry_c (retQ impl_DropEntry_r K) ⟨[a0, a1, u, u, u, u, u, u, u], [], h⟩) : T Try.prog Γ Fn.impl_DropEntry [a0, a1] h K :=
  T_of_body tabOK Try.func14 (code := bodyOf Try.f14) (by kernel_rfl) (by kernel_rfl) (by kernel_rfl) (by kernel_rfl) hw
def impl_FindEntry_c : C := .seq (.reg [⟨(some 4), none, .mov (.c (.int .i64 0))⟩]) (.seq (.seq (.reg [⟨(some 7), none, .mov (.t 0)⟩,
  ⟨(some 8), none, .len false (.t 7)⟩,
  ⟨(some 9), none, .mov (.c (.int .i64 0))⟩]) (.block 0 (.loop (.seq (.reg [⟨(some 10), none, .bin .lss (.num) (.t 9) (.t 8)⟩]) (.seq (.cond (.t 10) (.skip) (.exit 0)) (.seq (.block 1 (.seq (.reg [⟨(some 11), none, .idxs 2 (.t 7) (.t 9)⟩,
  ⟨(some 12), none, .load 2 true (.t 11)⟩,
  ⟨(some 6), none, .alloc [.int .i64 0, .int .i64 0]⟩,
  ⟨none, none, .store 2 (.t 6) (.t 12)⟩]) (.seq (.reg [⟨(some 13), none, .fld 0 (.t 6)⟩,
  ⟨(some 14), none, .load 1 false (.t 13)⟩,
  ⟨(some 15), none, .mov (.t 1)⟩,
  ⟨(some 16), none, .bin .eql (.num) (.t 14) (.t 15)⟩]) (.cond (.t 16) (.seq (.reg [⟨(some 17), none, .fld 1 (.t 6)⟩,
  ⟨(some 18), none, .load 1 false (.t 17)⟩,
  ⟨(some 4), none, .mov (.t 18)⟩]) (.ret)) (.skip))))) (.reg [⟨(some 19), none, .bin .add (.num) (.t 9) (.c (.int .i64 1))⟩,
  ⟨(some 9), none, .mov (.t 19)⟩]))))))) (.seq (.reg [⟨(some 4), none, .mov (.c (.int .i64 (-1)))⟩]) (.ret)))
def impl_FindEntry_r : List RS := [.t 4]
def impl_FindEntry_s0 (t1 t7 t8 t9 : AV) (loc : List (List AV)) (h : AH) : St := ⟨[.any, t1, .any, .any, .any, .any, .any, t7, t8, t9, .any, .any, .any, .any, .any, .any, .any, .any, .any, .any], loc, h⟩
theorem impl_FindEntry_e {a0 a1 : AV} {h : AH} {K : AV → AH → Prop} (hw : TC Try.prog Θ Γ impl_FindEntry_c (retQ impl_FindEntry_r K) ⟨[a0, a1, u, u, u, u, u, u, u, u, u, u, u, u, u, u, u, u, u, u], [], h⟩) : T Try.prog Γ Fn.impl_FindEntry [a0, a1] h K :=
  T_of_body tabOK Try.func15 (code := bodyOf Try.f15) (by kernel_rfl) (by kernel_rfl) (by kernel_rfl) (by kernel_rfl) hw
def spec_DrawFindExport_d0_os : List O := [⟨(some 10), none, .load 7 true (.t 5)⟩,
  ⟨(some 11), none, .mov (.t 4)⟩,
  ⟨(some 12), none, .call (.c (.fn Fn.spec_l1Below [] [])) [.t 11, .c (.int .i64 6)]⟩,
  ⟨none, none, .store 7 (.t 2) (.t 10)⟩,
  ⟨(some 3), none, .mov (.t 12)⟩]
def spec_DrawFindExport_d0_af : List (List Nat) := [[], [], [1], [0, 2, 0], [2, 3, 0, 1, 2, 3]]
theorem spec_DrawFindExport_d0_q (gl : Gl) (Q : AE → St → Prop) (s : St) : aw Try.prog Θ Γ gl (.regD spec_DrawFindExport_d0_os spec_DrawFindExport_d0_af) Q s = awpT Try.prog Γ gl [⟨(some 10), none, .load 7 true (.t 5)⟩,
  ⟨(some 11), none, .mov (.t 4)⟩,
  ⟨(some 12), none, .call (.c (.fn Fn.spec_l1Below [] [])) [.t 11, .c (.int .i64 6)]⟩,
  ⟨none, none, .store 7 (.t 2) (.t 10)⟩,
  ⟨(some 3), none, .mov (.t 12)⟩] (Q .normal) 5 (.q 0 (.q 1 (.st 2 [5] (.q 3 (.q 4 (.done)))))) s := a_dd rfl (by kernel_rfl) gl Q s
def spec_DrawFindExport_c : C := .seq (.reg [⟨(some 2), none, .alloc [.int .i64 0, .bool false, .nils, .int .i64 0, .nils, .int .i64 0, .nils]⟩,
  ⟨(some 3), none, .mov (.c (.int .i64 0))⟩]) (.seq (.reg [⟨(some 6), none, .mov (.t 0)⟩,
  ⟨(some 7), none, .call (.c (.fn Fn.spec_l1New [] [])) [.t 6]⟩,
  ⟨(some 4), none, .mov (.t 7)⟩]) (.seq (.reg [⟨(some 8), none, .mov (.t 4)⟩,
  ⟨(some 9), none, .call (.c (.fn Fn.spec_l10Link [] [])) [.t 8]⟩,
  ⟨(some 5), none, .alloc [.int .i64 0, .bool false, .nils, .int .i64 0, .nils, .int .i64 0, .nils]⟩,
  ⟨none, none, .store 7 (.t 5) (.t 9)⟩]) (.seq (.regD spec_DrawFindExport_d0_os spec_DrawFindExport_d0_af) (.ret))))
def spec_DrawFindExport_r : List RS := [.cell 2 7 true, .t 3]
theorem spec_DrawFindExport_e {a0 : AV} {h : AH} {K : AV → AH → Prop} (hw : TC Try.prog Θ Γ spec_DrawFindExport_c (retQ spec_DrawFindExport_r K) ⟨[a0, u, u, u, u, u, u, u, u, u, u, u, u], [], h⟩) : T Try.prog Γ Fn.spec_DrawFindExport [a0] h K :=
  T_of_body tabOK Try.func21 (code := bodyOf Try.f21) (by kernel_rfl) (by kernel_rfl) (by kernel_rfl) (by kernel_rfl) hw
def impl_Link_copied_d0_os : List O := [⟨(some 3), none, .fld 2 (.t 1)⟩,
  ⟨(some 4), none, .load 1 false (.t 3)⟩,
  ⟨(some 5), none, .call (.c (.fn Fn.slices_Clone_iimpl_Export_impl_Export [] [])) [.t 4]⟩,
  ⟨(some 6), none, .fld 4 (.t 1)⟩,
  ⟨(some 7), none, .load 1 false (.t 6)⟩,
  ⟨(some 8), none, .call (.c (.fn Fn.slices_Clone_iimpl_Question_impl_Question [] [])) [.t 7]⟩,
  ⟨(some 9), none, .fld 6 (.t 1)⟩,
  ⟨(some 10), none, .load 1 false (.t 9)⟩,
  ⟨(some 11), none, .call (.c (.fn Fn.slices_Clone_iimpl_Question_impl_Question [] [])) [.t 10]⟩,
  ⟨(some 12), none, .fld 2 (.t 1)⟩,
  ⟨none, none, .store 1 (.t 12) (.t 5)⟩,
  ⟨(some 13), none, .fld 4 (.t 1)⟩,
  ⟨none, none, .store 1 (.t 13) (.t 8)⟩,
  ⟨(some 14), none, .fld 6 (.t 1)⟩,
  ⟨none, none, .store 1 (.t 14) (.t 11)⟩]
def impl_Link_copied_d0_af : List (List Nat) := [[], [0], [1], [], [3], [4, 2], [], [6], [7, 5], [0, 1, 2, 3, 4, 6, 7], [9, 2, 8, 0, 1, 2, 3, 4, 6, 7], [0, 1, 2, 3, 4, 5, 6, 7, 9, 10], [11, 5, 10, 0, 1, 2, 3, 4, 5, 6, 7, 9, 10], [0, 1, 2, 3, 4, 5, 6, 7, 8, 9, 10, 11, 12], [13, 8, 12, 0, 1, 2, 3, 4, 5, 6, 7, 8, 9, 10, 11, 12]]
theorem impl_Link_copied_d0_q (gl : Gl) (Q : AE → St → Prop) (s : St) : aw Try.prog Θ Γ gl (.regD impl_Link_copied_d0_os impl_Link_copied_d0_af) Q s = awpT Try.prog Γ gl [⟨(some 3), none, .fld 2 (.t 1)⟩,
  ⟨(some 4), none, .load 1 false (.t 3)⟩,
  ⟨(some 5), none, .call (.c (.fn Fn.slices_Clone_iimpl_Export_impl_Export [] [])) [.t 4]⟩,
  ⟨(some 6), none, .fld 4 (.t 1)⟩,
  ⟨(some 7), none, .load 1 false (.t 6)⟩,
  ⟨(some 8), none, .call (.c (.fn Fn.slices_Clone_iimpl_Question_impl_Question [] [])) [.t 7]⟩,
  ⟨(some 9), none, .fld 6 (.t 1)⟩,
  ⟨(some 10), none, .load 1 false (.t 9)⟩,
  ⟨(some 11), none, .call (.c (.fn Fn.slices_Clone_iimpl_Question_impl_Question [] [])) [.t 10]⟩,
  ⟨(some 12), none, .fld 2 (.t 1)⟩,
  ⟨none, none, .store 1 (.t 12) (.t 5)⟩,
  ⟨(some 13), none, .fld 4 (.t 1)⟩,
  ⟨none, none, .store 1 (.t 13) (.t 8)⟩,
  ⟨(some 14), none, .fld 6 (.t 1)⟩,
  ⟨none, none, .store 1 (.t 14) (.t 11)⟩] (Q .normal) 15 (.q 0 (.q 1 (.q 3 (.q 4 (.q 6 (.q 7 (.st 2 [6, 9] (.q 9 (.st 5 [9] (.q 8 (.q 10 (.q 11 (.q 12 (.q 13 (.q 14 (.done)))))))))))))))) s := a_dd rfl (by kernel_rfl) gl Q s
def impl_Link_copied_c : C := .seq (.reg [⟨(some 1), none, .box (.t 0)⟩,
  ⟨(some 2), none, .alloc [.int .i64 0, .bool false, .nils, .int .i64 0, .nils, .int .i64 0, .nils]⟩]) (.seq (.regD impl_Link_copied_d0_os impl_Link_copied_d0_af) (.seq (.reg [⟨(some 15), none, .load 7 true (.t 1)⟩,
  ⟨none, none, .store 7 (.t 2) (.t 15)⟩]) (.ret)))
def impl_Link_copied_r : List RS := [.cell 2 7 true]
theorem impl_Link_copied_e {a0 : AV} {h : AH} {K : AV → AH → Prop} (hw : TC Try.prog Θ Γ impl_Link_copied_c (retQ impl_Link_copied_r K) ⟨[a0, u, u, u, u, u, u, u, u, u, u, u, u, u, u, u], [], h⟩) : T Try.prog Γ Fn.impl_Link_copied [a0] h K :=
  T_of_body tabOK Try.func22 (code := bodyOf Try.f22) (by kernel_rfl) (by kernel_rfl) (by kernel_rfl) (by kernel_rfl) hw
def impl_Link_put_d0_os : List O := [⟨(some 37), none, .mov (.t 0)⟩,
  ⟨(some 38), none, .mov (.t 0)⟩,
  ⟨(some 39), none, .nilchk (.t 38)⟩,
  ⟨(some 40), none, .fld 2 (.t 39)⟩,
  ⟨(some 41), none, .load 1 false (.t 40)⟩,
  ⟨(some 42), none, .mov (.t 0)⟩,
  ⟨(some 43), none, .nilchk (.t 42)⟩,
  ⟨(some 44), none, .fld 3 (.t 43)⟩,
  ⟨(some 45), none, .load 1 false (.t 44)⟩,
  ⟨(some 46), none, .mov (.t 1)⟩,
  ⟨(some 47), none, .build [.int .i64 0, .int .i64 0, .int .i64 0] [(0, 1, .t 45), (1, 1, .t 46), (2, 1, .c (.int .i64 1))]⟩,
  ⟨(some 48), none, .bsl 3 1 [.int .i64 0, .int .i64 0, .int .i64 0] [(0, .t 47)]⟩,
  ⟨(some 49), none, .app 3 24 [.int .i64 0, .int .i64 0, .int .i64 0] false (.t 41) (.t 48)⟩,
  ⟨(some 50), none, .nilchk (.t 37)⟩,
  ⟨(some 51), none, .fld 2 (.t 50)⟩,
  ⟨none, none, .store 1 (.t 51) (.t 49)⟩]
def impl_Link_put_d0_af : List (List Nat) := [[], [], [1], [2], [3], [], [5], [6], [7], [], [8, 9], [10], [4, 11], [0, 0, 1, 2, 3, 4, 5, 6, 7, 8, 9, 10, 11, 12], [13, 0, 1, 2, 3, 4, 5, 6, 7, 8, 9, 10, 11, 12], [14, 12, 12, 0, 1, 2, 3, 4, 5, 6, 7, 8, 9, 10, 11, 12]]
theorem impl_Link_put_d0_q (gl : Gl) (Q : AE → St → Prop) (s : St) : aw Try.prog Θ Γ gl (.regD impl_Link_put_d0_os impl_Link_put_d0_af) Q s = awpT Try.prog Γ gl [⟨(some 37), none, .mov (.t 0)⟩,
  ⟨(some 38), none, .mov (.t 0)⟩,
  ⟨(some 39), none, .nilchk (.t 38)⟩,
  ⟨(some 40), none, .fld 2 (.t 39)⟩,
  ⟨(some 41), none, .load 1 false (.t 40)⟩,
  ⟨(some 42), none, .mov (.t 0)⟩,
  ⟨(some 43), none, .nilchk (.t 42)⟩,
  ⟨(some 44), none, .fld 3 (.t 43)⟩,
  ⟨(some 45), none, .load 1 false (.t 44)⟩,
  ⟨(some 46), none, .mov (.t 1)⟩,
  ⟨(some 47), none, .build [.int .i64 0, .int .i64 0, .int .i64 0] [(0, 1, .t 45), (1, 1, .t 46), (2, 1, .c (.int .i64 1))]⟩,
  ⟨(some 48), none, .bsl 3 1 [.int .i64 0, .int .i64 0, .int .i64 0] [(0, .t 47)]⟩,
  ⟨(some 49), none, .app 3 24 [.int .i64 0, .int .i64 0, .int .i64 0] false (.t 41) (.t 48)⟩,
  ⟨(some 50), none, .nilchk (.t 37)⟩,
  ⟨(some 51), none, .fld 2 (.t 50)⟩,
  ⟨none, none, .store 1 (.t 51) (.t 49)⟩] (Q .normal) 16 (.q 0 (.q 1 (.q 2 (.q 3 (.q 4 (.q 5 (.q 6 (.q 7 (.q 8 (.q 9 (.q 10 (.all [(11, .q 12 (.q 13 (.q 14 (.q 15 (.done)))))])))))))))))) s := a_dd rfl (by kernel_rfl) gl Q s
def impl_Link_put_c : C := .seq (.reg [⟨(some 4), none, .mov (.c (.int .i64 0))⟩]) (.seq (.seq (.reg [⟨(some 6), none, .mov (.t 0)⟩,
  ⟨(some 7), none, .mov (.t 1)⟩,
  ⟨(some 8), none, .call (.c (.fn Fn.impl_Link_of [] [])) [.t 6, .t 7]⟩,
  ⟨(some 5), none, .mov (.t 8)⟩]) (.seq (.reg [⟨(some 9), none, .mov (.t 5)⟩,
  ⟨(some 10), none, .bin .geq (.num) (.t 9) (.c (.int .i64 0))⟩]) (.cond (.t 10) (.seq (.reg [⟨(some 11), none, .mov (.t 0)⟩,
  ⟨(some 12), none, .nilchk (.t 11)⟩,
  ⟨(some 13), none, .fld 2 (.t 12)⟩,
  ⟨(some 14), none, .load 1 false (.t 13)⟩,
  ⟨(some 15), none, .mov (.t 5)⟩,
  ⟨(some 16), none, .idxs 3 (.t 14) (.t 15)⟩,
  ⟨(some 17), none, .fld 2 (.t 16)⟩,
  ⟨(some 18), none, .load 1 false (.t 17)⟩,
  ⟨(some 19), none, .bin .add (.num) (.t 18) (.c (.int .i64 1))⟩,
  ⟨(some 20), none, .idxs 3 (.t 14) (.t 15)⟩,
  ⟨(some 21), none, .fld 2 (.t 20)⟩,
  ⟨none, none, .store 1 (.t 21) (.t 19)⟩]) (.seq (.reg [⟨(some 22), none, .mov (.t 0)⟩,
  ⟨(some 23), none, .nilchk (.t 22)⟩,
  ⟨(some 24), none, .fld 2 (.t 23)⟩,
  ⟨(some 25), none, .load 1 false (.t 24)⟩,
  ⟨(some 26), none, .mov (.t 5)⟩,
  ⟨(some 27), none, .idxs 3 (.t 25) (.t 26)⟩,
  ⟨(some 28), none, .fld 0 (.t 27)⟩,
  ⟨(some 29), none, .load 1 false (.t 28)⟩,
  ⟨(some 4), none, .mov (.t 29)⟩]) (.ret))) (.skip)))) (.seq (.reg [⟨(some 30), none, .mov (.t 0)⟩,
  ⟨(some 31), none, .nilchk (.t 30)⟩,
  ⟨(some 32), none, .fld 3 (.t 31)⟩,
  ⟨(some 33), none, .load 1 false (.t 32)⟩,
  ⟨(some 34), none, .bin .add (.num) (.t 33) (.c (.int .i64 1))⟩,
  ⟨(some 35), none, .nilchk (.t 30)⟩,
  ⟨(some 36), none, .fld 3 (.t 35)⟩,
  ⟨none, none, .store 1 (.t 36) (.t 34)⟩]) (.seq (.regD impl_Link_put_d0_os impl_Link_put_d0_af) (.seq (.reg [⟨(some 52), none, .mov (.t 0)⟩,
  ⟨(some 53), none, .nilchk (.t 52)⟩,
  ⟨(some 54), none, .fld 3 (.t 53)⟩,
  ⟨(some 55), none, .load 1 false (.t 54)⟩,
  ⟨(some 4), none, .mov (.t 55)⟩]) (.ret)))))
def impl_Link_put_r : List RS := [.t 4]
theorem impl_Link_put_e {a0 a1 : AV} {h : AH} {K : AV → AH → Prop} (hw : TC Try.prog Θ Γ impl_Link_put_c (retQ impl_Link_put_r K) ⟨[a0, a1, u, u, u, u, u, u, u, u, u, u, u, u, u, u, u, u, u, u, u, u, u, u, u, u, u, u, u, u, u, u, u, u, u, u, u, u, u, u, u, u, u, u, u, u, u, u, u, u, u, u, u, u, u, u], [], h⟩) : T Try.prog Γ Fn.impl_Link_put [a0, a1] h K :=
  T_of_body tabOK Try.func23 (code := bodyOf Try.f23) (by kernel_rfl) (by kernel_rfl) (by kernel_rfl) (by kernel_rfl) hw
def impl_Link_at_c : C := .seq (.reg [⟨(some 3), none, .box (.t 1)⟩,
  ⟨(some 4), none, .mov (.c (.int .i64 0))⟩]) (.seq (.reg [⟨(some 5), none, .mov (.t 0)⟩,
  ⟨(some 6), none, .nilchk (.t 5)⟩,
  ⟨(some 7), none, .fld 2 (.t 6)⟩,
  ⟨(some 8), none, .load 1 false (.t 7)⟩,
  ⟨(some 9), none, .mkf Fn.impl_Link_at_1 [] [.t 3]⟩,
  ⟨(some 10), none, .call (.c (.fn Fn.slices_IndexFunc_iimpl_Export_impl_Export [] [])) [.t 8, .t 9]⟩,
  ⟨(some 4), none, .mov (.t 10)⟩]) (.ret))
def impl_Link_at_r : List RS := [.t 4]
theorem impl_Link_at_e {a0 a1 : AV} {h : AH} {K : AV → AH → Prop} (hw : TC Try.prog Θ Γ impl_Link_at_c (retQ impl_Link_at_r K) ⟨[a0, a1, u, u, u, u, u, u, u, u, u], [], h⟩) : T Try.prog Γ Fn.impl_Link_at [a0, a1] h K :=
  T_of_body tabOK Try.func24 (code := bodyOf Try.f24) (by kernel_rfl) (by kernel_rfl) (by kernel_rfl) (by kernel_rfl) hw
def impl_Link_of_c : C := .seq (.reg [⟨(some 3), none, .box (.t 1)⟩,
  ⟨(some 4), none, .mov (.c (.int .i64 0))⟩]) (.seq (.reg [⟨(some 5), none, .mov (.t 0)⟩,
  ⟨(some 6), none, .nilchk (.t 5)⟩,
  ⟨(some 7), none, .fld 2 (.t 6)⟩,
  ⟨(some 8), none, .load 1 false (.t 7)⟩,
  ⟨(some 9), none, .mkf Fn.impl_Link_of_1 [] [.t 3]⟩,
  ⟨(some 10), none, .call (.c (.fn Fn.slices_IndexFunc_iimpl_Export_impl_Export [] [])) [.t 8, .t 9]⟩,
  ⟨(some 4), none, .mov (.t 10)⟩]) (.ret))
def impl_Link_of_r : List RS := [.t 4]
theorem impl_Link_of_e {a0 a1 : AV} {h : AH} {K : AV → AH → Prop} (hw : TC Try.prog Θ Γ impl_Link_of_c (retQ impl_Link_of_r K) ⟨[a0, a1, u, u, u, u, u, u, u, u, u], [], h⟩) : T Try.prog Γ Fn.impl_Link_of [a0, a1] h K :=
  T_of_body tabOK Try.func25 (code := bodyOf Try.f25) (by kernel_rfl) (by kernel_rfl) (by kernel_rfl) (by kernel_rfl) hw
def impl_Link_release_c : C := .seq (.reg [⟨(some 7), none, .mov (.t 0)⟩,
  ⟨(some 8), none, .mov (.t 1)⟩,
  ⟨(some 9), none, .call (.c (.fn Fn.impl_Link_at [] [])) [.t 7, .t 8]⟩,
  ⟨(some 6), none, .mov (.t 9)⟩]) (.seq (.seq (.reg [⟨(some 10), none, .mov (.t 6)⟩,
  ⟨(some 11), none, .bin .lss (.num) (.t 10) (.c (.int .i64 0))⟩,
  ⟨(some 12), none, .mov (.t 11)⟩,
  ⟨(some 13), (some (2, false)), .mov (.t 2)⟩,
  ⟨(some 14), (some (2, false)), .bin .lss (.num) (.t 13) (.c (.int .i64 1))⟩,
  ⟨(some 15), none, .pick (.t 12) (.c (.bool true)) (.t 14)⟩]) (.cond (.t 15) (.ret) (.skip))) (.seq (.reg [⟨(some 16), none, .mov (.t 0)⟩,
  ⟨(some 17), none, .nilchk (.t 16)⟩,
  ⟨(some 18), none, .fld 2 (.t 17)⟩,
  ⟨(some 19), none, .load 1 false (.t 18)⟩,
  ⟨(some 20), none, .mov (.t 6)⟩,
  ⟨(some 21), none, .idxs 3 (.t 19) (.t 20)⟩,
  ⟨(some 22), none, .fld 2 (.t 21)⟩,
  ⟨(some 23), none, .load 1 false (.t 22)⟩,
  ⟨(some 24), none, .mov (.t 2)⟩,
  ⟨(some 25), none, .bin .sub (.num) (.t 23) (.t 24)⟩,
  ⟨(some 26), none, .idxs 3 (.t 19) (.t 20)⟩,
  ⟨(some 27), none, .fld 2 (.t 26)⟩,
  ⟨none, none, .store 1 (.t 27) (.t 25)⟩]) (.seq (.reg [⟨(some 28), none, .mov (.t 0)⟩,
  ⟨(some 29), none, .nilchk (.t 28)⟩,
  ⟨(some 30), none, .fld 2 (.t 29)⟩,
  ⟨(some 31), none, .load 1 false (.t 30)⟩,
  ⟨(some 32), none, .mov (.t 6)⟩,
  ⟨(some 33), none, .idxs 3 (.t 31) (.t 32)⟩,
  ⟨(some 34), none, .fld 2 (.t 33)⟩,
  ⟨(some 35), none, .load 1 false (.t 34)⟩,
  ⟨(some 36), none, .bin .lss (.num) (.t 35) (.c (.int .i64 1))⟩]) (.cond (.t 36) (.reg [⟨(some 37), none, .mov (.t 0)⟩,
  ⟨(some 38), none, .mov (.t 0)⟩,
  ⟨(some 39), none, .nilchk (.t 38)⟩,
  ⟨(some 40), none, .fld 2 (.t 39)⟩,
  ⟨(some 41), none, .load 1 false (.t 40)⟩,
  ⟨(some 42), none, .mov (.t 6)⟩,
  ⟨(some 43), none, .mov (.t 6)⟩,
  ⟨(some 44), none, .bin .add (.num) (.t 43) (.c (.int .i64 1))⟩,
  ⟨(some 45), none, .call (.c (.fn Fn.slices_Delete_iimpl_Export_impl_Export [] [])) [.t 41, .t 42, .t 44]⟩,
  ⟨(some 46), none, .nilchk (.t 37)⟩,
  ⟨(some 47), none, .fld 2 (.t 46)⟩,
  ⟨none, none, .store 1 (.t 47) (.t 45)⟩]) (.skip)))))
def impl_Link_release_r : List RS := []
theorem impl_Link_release_e {a0 a1 a2 : AV} {h : AH} {K : AV → AH → Prop} (hw : TC Try.prog Θ Γ impl_Link_release_c (retQ impl_Link_release_r K) ⟨[a0, a1, a2, u, u, u, u, u, u, u, u, u, u, u, u, u, u, u, u, u, u, u, u, u, u, u, u, u, u, u, u, u, u, u, u, u, u, u, u, u, u, u, u, u, u, u, u, u], [], h⟩) : T Try.prog Γ Fn.impl_Link_release [a0, a1, a2] h K :=
  T_of_body tabOK Try.func26 (code := bodyOf Try.f26) (by kernel_rfl) (by kernel_rfl) (by kernel_rfl) (by kernel_rfl) hw
def slices_Equal_iimpl_Export_impl_Export_d0_os : List O := [⟨(some 16), none, .mov (.t 0)⟩,
  ⟨(some 17), none, .mov (.t 5)⟩,
  ⟨(some 18), none, .idxs 3 (.t 16) (.t 17)⟩,
  ⟨(some 19), none, .load 3 true (.t 18)⟩,
  ⟨(some 20), none, .mov (.t 1)⟩,
  ⟨(some 21), none, .mov (.t 5)⟩,
  ⟨(some 22), none, .idxs 3 (.t 20) (.t 21)⟩,
  ⟨(some 23), none, .load 3 true (.t 22)⟩,
  ⟨(some 24), none, .bin .neq (.agg [.int .i64, .int .i64, .int .i64]) (.t 19) (.t 23)⟩]
def slices_Equal_iimpl_Export_impl_Export_d0_af : List (List Nat) := [[], [], [0, 1], [2], [], [], [4, 5], [6], [3, 7]]
theorem slices_Equal_iimpl_Export_impl_Export_d0_q (gl : Gl) (Q : AE → St → Prop) (s : St) : aw Try.prog Θ Γ gl (.regD slices_Equal_iimpl_Export_impl_Export_d0_os slices_Equal_iimpl_Export_impl_Export_d0_af) Q s = awpOps Try.prog Γ gl [⟨(some 16), none, .mov (.t 0)⟩,
  ⟨(some 17), none, .mov (.t 5)⟩,
  ⟨(some 18), none, .idxs 3 (.t 16) (.t 17)⟩,
  ⟨(some 19), none, .load 3 true (.t 18)⟩,
  ⟨(some 20), none, .mov (.t 1)⟩,
  ⟨(some 21), none, .mov (.t 5)⟩,
  ⟨(some 22), none, .idxs 3 (.t 20) (.t 21)⟩,
  ⟨(some 23), none, .load 3 true (.t 22)⟩,
  ⟨(some 24), none, .bin .neq (.agg [.int .i64, .int .i64, .int .i64]) (.t 19) (.t 23)⟩] [⟨(some 16), none, .mov (.t 0)⟩,
  ⟨(some 17), none, .mov (.t 5)⟩,
  ⟨(some 18), none, .idxs 3 (.t 16) (.t 17)⟩,
  ⟨(some 19), none, .load 3 true (.t 18)⟩,
  ⟨(some 20), none, .mov (.t 1)⟩,
  ⟨(some 21), none, .mov (.t 5)⟩,
  ⟨(some 22), none, .idxs 3 (.t 20) (.t 21)⟩,
  ⟨(some 23), none, .load 3 true (.t 22)⟩,
  ⟨(some 24), none, .bin .neq (.agg [.int .i64, .int .i64, .int .i64]) (.t 19) (.t 23)⟩] (Q .normal) s := a_dq (by kernel_rfl) gl Q s
def slices_Equal_iimpl_Export_impl_Export_c : C := .seq (.reg [⟨(some 4), none, .mov (.c (.bool false))⟩]) (.seq (.seq (.reg [⟨(some 6), none, .mov (.t 0)⟩,
  ⟨(some 7), none, .len false (.t 6)⟩,
  ⟨(some 8), none, .mov (.t 1)⟩,
  ⟨(some 9), none, .len false (.t 8)⟩,
  ⟨(some 10), none, .bin .neq (.num) (.t 7) (.t 9)⟩]) (.cond (.t 10) (.seq (.reg [⟨(some 4), none, .mov (.c (.bool false))⟩]) (.ret)) (.skip))) (.seq (.seq (.reg [⟨(some 11), none, .mov (.t 0)⟩,
  ⟨(some 12), none, .len false (.t 11)⟩,
  ⟨(some 13), none, .mov (.c (.int .i64 0))⟩]) (.block 0 (.loop (.seq (.reg [⟨(some 14), none, .bin .lss (.num) (.t 13) (.t 12)⟩]) (.seq (.cond (.t 14) (.skip) (.exit 0)) (.seq (.block 1 (.seq (.reg [⟨(some 15), none, .mov (.t 13)⟩,
  ⟨(some 5), none, .mov (.t 15)⟩]) (.seq (.regD slices_Equal_iimpl_Export_impl_Export_d0_os slices_Equal_iimpl_Export_impl_Export_d0_af) (.cond (.t 24) (.seq (.reg [⟨(some 4), none, .mov (.c (.bool false))⟩]) (.ret)) (.skip))))) (.reg [⟨(some 25), none, .bin .add (.num) (.t 13) (.c (.int .i64 1))⟩,
  ⟨(some 13), none, .mov (.t 25)⟩]))))))) (.seq (.reg [⟨(some 4), none, .mov (.c (.bool true))⟩]) (.ret))))
def slices_Equal_iimpl_Export_impl_Export_r : List RS := [.t 4]
def slices_Equal_iimpl_Export_impl_Export_s0 (t0 t1 t12 t13 : AV) (loc : List (List AV)) (h : AH) : St := ⟨[t0, t1, .any, .any, .any, .any, .any, .any, .any, .any, .any, .any, t12, t13, .any, .any, .any, .any, .any, .any, .any, .any, .any, .any, .any, .any], loc, h⟩
theorem slices_Equal_iimpl_Export_impl_Export_e {a0 a1 : AV} {h : AH} {K : AV → AH → Prop} (hw : TC Try.prog Θ Γ slices_Equal_iimpl_Export_impl_Export_c (retQ slices_Equal_iimpl_Export_impl_Export_r K) ⟨[a0, a1, u, u, u, u, u, u, u, u, u, u, u, u, u, u, u, u, u, u, u, u, u, u, u, u], [], h⟩) : T Try.prog Γ Fn.slices_Equal_iimpl_Export_impl_Export [a0, a1] h K :=
  T_of_body tabOK Try.func27 (code := bodyOf Try.f27) (by kernel_rfl) (by kernel_rfl) (by kernel_rfl) (by kernel_rfl) hw
def slices_Equal_iimpl_Question_impl_Question_d0_os : List O := [⟨(some 16), none, .mov (.t 0)⟩,
  ⟨(some 17), none, .mov (.t 5)⟩,
  ⟨(some 18), none, .idxs 2 (.t 16) (.t 17)⟩,
  ⟨(some 19), none, .load 2 true (.t 18)⟩,
  ⟨(some 20), none, .mov (.t 1)⟩,
  ⟨(some 21), none, .mov (.t 5)⟩,
  ⟨(some 22), none, .idxs 2 (.t 20) (.t 21)⟩,
  ⟨(some 23), none, .load 2 true (.t 22)⟩,
  ⟨(some 24), none, .bin .neq (.agg [.int .i64, .int .i64]) (.t 19) (.t 23)⟩]
def slices_Equal_iimpl_Question_impl_Question_d0_af : List (List Nat) := [[], [], [0, 1], [2], [], [], [4, 5], [6], [3, 7]]
theorem slices_Equal_iimpl_Question_impl_Question_d0_q (gl : Gl) (Q : AE → St → Prop) (s : St) : aw Try.prog Θ Γ gl (.regD slices_Equal_iimpl_Question_impl_Question_d0_os slices_Equal_iimpl_Question_impl_Question_d0_af) Q s = awpOps Try.prog Γ gl [⟨(some 16), none, .mov (.t 0)⟩,
  ⟨(some 17), none, .mov (.t 5)⟩,
  ⟨(some 18), none, .idxs 2 (.t 16) (.t 17)⟩,
  ⟨(some 19), none, .load 2 true (.t 18)⟩,
  ⟨(some 20), none, .mov (.t 1)⟩,
  ⟨(some 21), none, .mov (.t 5)⟩,
  ⟨(some 22), none, .idxs 2 (.t 20) (.t 21)⟩,
  ⟨(some 23), none, .load 2 true (.t 22)⟩,
  ⟨(some 24), none, .bin .neq (.agg [.int .i64, .int .i64]) (.t 19) (.t 23)⟩] [⟨(some 16), none, .mov (.t 0)⟩,
  ⟨(some 17), none, .mov (.t 5)⟩,
  ⟨(some 18), none, .idxs 2 (.t 16) (.t 17)⟩,
  ⟨(some 19), none, .load 2 true (.t 18)⟩,
  ⟨(some 20), none, .mov (.t 1)⟩,
  ⟨(some 21), none, .mov (.t 5)⟩,
  ⟨(some 22), none, .idxs 2 (.t 20) (.t 21)⟩,
  ⟨(some 23), none, .load 2 true (.t 22)⟩,
  ⟨(some 24), none, .bin .neq (.agg [.int .i64, .int .i64]) (.t 19) (.t 23)⟩] (Q .normal) s := a_dq (by kernel_rfl) gl Q s
def slices_Equal_iimpl_Question_impl_Question_c : C := .seq (.reg [⟨(some 4), none, .mov (.c (.bool false))⟩]) (.seq (.seq (.reg [⟨(some 6), none, .mov (.t 0)⟩,
  ⟨(some 7), none, .len false (.t 6)⟩,
  ⟨(some 8), none, .mov (.t 1)⟩,
  ⟨(some 9), none, .len false (.t 8)⟩,
  ⟨(some 10), none, .bin .neq (.num) (.t 7) (.t 9)⟩]) (.cond (.t 10) (.seq (.reg [⟨(some 4), none, .mov (.c (.bool false))⟩]) (.ret)) (.skip))) (.seq (.seq (.reg [⟨(some 11), none, .mov (.t 0)⟩,
  ⟨(some 12), none, .len false (.t 11)⟩,
  ⟨(some 13), none, .mov (.c (.int .i64 0))⟩]) (.block 0 (.loop (.seq (.reg [⟨(some 14), none, .bin .lss (.num) (.t 13) (.t 12)⟩]) (.seq (.cond (.t 14) (.skip) (.exit 0)) (.seq (.block 1 (.seq (.reg [⟨(some 15), none, .mov (.t 13)⟩,
  ⟨(some 5), none, .mov (.t 15)⟩]) (.seq (.regD slices_Equal_iimpl_Question_impl_Question_d0_os slices_Equal_iimpl_Question_impl_Question_d0_af) (.cond (.t 24) (.seq (.reg [⟨(some 4), none, .mov (.c (.bool false))⟩]) (.ret)) (.skip))))) (.reg [⟨(some 25), none, .bin .add (.num) (.t 13) (.c (.int .i64 1))⟩,
  ⟨(some 13), none, .mov (.t 25)⟩]))))))) (.seq (.reg [⟨(some 4), none, .mov (.c (.bool true))⟩]) (.ret))))
def slices_Equal_iimpl_Question_impl_Question_r : List RS := [.t 4]
def slices_Equal_iimpl_Question_impl_Question_s0 (t0 t1 t12 t13 : AV) (loc : List (List AV)) (h : AH) : St := ⟨[t0, t1, .any, .any, .any, .any, .any, .any, .any, .any, .any, .any, t12, t13, .any, .any, .any, .any, .any, .any, .any, .any, .any, .any, .any, .any], loc, h⟩
theorem slices_Equal_iimpl_Question_impl_Question_e {a0 a1 : AV} {h : AH} {K : AV → AH → Prop} (hw : TC Try.prog Θ Γ slices_Equal_iimpl_Question_impl_Question_c (retQ slices_Equal_iimpl_Question_impl_Question_r K) ⟨[a0, a1, u, u, u, u, u, u, u, u, u, u, u, u, u, u, u, u, u, u, u, u, u, u, u, u], [], h⟩) : T Try.prog Γ Fn.slices_Equal_iimpl_Question_impl_Question [a0, a1] h K :=
  T_of_body tabOK Try.func28 (code := bodyOf Try.f28) (by kernel_rfl) (by kernel_rfl) (by kernel_rfl) (by kernel_rfl) hw
def impl_Link_ask_d0_os : List O := [⟨(some 12), none, .mov (.t 0)⟩,
  ⟨(some 13), none, .mov (.t 0)⟩,
  ⟨(some 14), none, .nilchk (.t 13)⟩,
  ⟨(some 15), none, .fld 4 (.t 14)⟩,
  ⟨(some 16), none, .load 1 false (.t 15)⟩,
  ⟨(some 17), none, .mov (.t 0)⟩,
  ⟨(some 18), none, .nilchk (.t 17)⟩,
  ⟨(some 19), none, .fld 5 (.t 18)⟩,
  ⟨(some 20), none, .load 1 false (.t 19)⟩,
  ⟨(some 21), none, .mov (.t 1)⟩,
  ⟨(some 22), none, .build [.int .i64 0, .int .i64 0] [(0, 1, .t 20), (1, 1, .t 21)]⟩,
  ⟨(some 23), none, .bsl 2 1 [.int .i64 0, .int .i64 0] [(0, .t 22)]⟩,
  ⟨(some 24), none, .app 2 16 [.int .i64 0, .int .i64 0] false (.t 16) (.t 23)⟩,
  ⟨(some 25), none, .nilchk (.t 12)⟩,
  ⟨(some 26), none, .fld 4 (.t 25)⟩,
  ⟨none, none, .store 1 (.t 26) (.t 24)⟩]
def impl_Link_ask_d0_af : List (List Nat) := [[], [], [1], [2], [3], [], [5], [6], [7], [], [8, 9], [10], [4, 11], [0, 0, 1, 2, 3, 4, 5, 6, 7, 8, 9, 10, 11, 12], [13, 0, 1, 2, 3, 4, 5, 6, 7, 8, 9, 10, 11, 12], [14, 12, 12, 0, 1, 2, 3, 4, 5, 6, 7, 8, 9, 10, 11, 12]]
theorem impl_Link_ask_d0_q (gl : Gl) (Q : AE → St → Prop) (s : St) : aw Try.prog Θ Γ gl (.regD impl_Link_ask_d0_os impl_Link_ask_d0_af) Q s = awpT Try.prog Γ gl [⟨(some 12), none, .mov (.t 0)⟩,
  ⟨(some 13), none, .mov (.t 0)⟩,
  ⟨(some 14), none, .nilchk (.t 13)⟩,
  ⟨(some 15), none, .fld 4 (.t 14)⟩,
  ⟨(some 16), none, .load 1 false (.t 15)⟩,
  ⟨(some 17), none, .mov (.t 0)⟩,
  ⟨(some 18), none, .nilchk (.t 17)⟩,
  ⟨(some 19), none, .fld 5 (.t 18)⟩,
  ⟨(some 20), none, .load 1 false (.t 19)⟩,
  ⟨(some 21), none, .mov (.t 1)⟩,
  ⟨(some 22), none, .build [.int .i64 0, .int .i64 0] [(0, 1, .t 20), (1, 1, .t 21)]⟩,
  ⟨(some 23), none, .bsl 2 1 [.int .i64 0, .int .i64 0] [(0, .t 22)]⟩,
  ⟨(some 24), none, .app 2 16 [.int .i64 0, .int .i64 0] false (.t 16) (.t 23)⟩,
  ⟨(some 25), none, .nilchk (.t 12)⟩,
  ⟨(some 26), none, .fld 4 (.t 25)⟩,
  ⟨none, none, .store 1 (.t 26) (.t 24)⟩] (Q .normal) 16 (.q 0 (.q 1 (.q 2 (.q 3 (.q 4 (.q 5 (.q 6 (.q 7 (.q 8 (.q 9 (.q 10 (.all [(11, .q 12 (.q 13 (.q 14 (.q 15 (.done)))))])))))))))))) s := a_dd rfl (by kernel_rfl) gl Q s
def impl_Link_ask_c : C := .seq (.reg [⟨(some 4), none, .mov (.c (.int .i64 0))⟩]) (.seq (.reg [⟨(some 5), none, .mov (.t 0)⟩,
  ⟨(some 6), none, .nilchk (.t 5)⟩,
  ⟨(some 7), none, .fld 5 (.t 6)⟩,
  ⟨(some 8), none, .load 1 false (.t 7)⟩,
  ⟨(some 9), none, .bin .add (.num) (.t 8) (.c (.int .i64 1))⟩,
  ⟨(some 10), none, .nilchk (.t 5)⟩,
  ⟨(some 11), none, .fld 5 (.t 10)⟩,
  ⟨none, none, .store 1 (.t 11) (.t 9)⟩]) (.seq (.regD impl_Link_ask_d0_os impl_Link_ask_d0_af) (.seq (.reg [⟨(some 27), none, .mov (.t 0)⟩,
  ⟨(some 28), none, .nilchk (.t 27)⟩,
  ⟨(some 29), none, .fld 5 (.t 28)⟩,
  ⟨(some 30), none, .load 1 false (.t 29)⟩,
  ⟨(some 4), none, .mov (.t 30)⟩]) (.ret))))
def impl_Link_ask_r : List RS := [.t 4]
theorem impl_Link_ask_e {a0 a1 : AV} {h : AH} {K : AV → AH → Prop} (hw : TC Try.prog Θ Γ impl_Link_ask_c (retQ impl_Link_ask_r K) ⟨[a0, a1, u, u, u, u, u, u, u, u, u, u, u, u, u, u, u, u, u, u, u, u, u, u, u, u, u, u, u, u, u], [], h⟩) : T Try.prog Γ Fn.impl_Link_ask [a0, a1] h K :=
  T_of_body tabOK Try.func29 (code := bodyOf Try.f29) (by kernel_rfl) (by kernel_rfl) (by kernel_rfl) (by kernel_rfl) hw
def slices_DeleteFunc_iimpl_Question_impl_Question_c : C := .seq (.reg [⟨(some 4), none, .mov (.c (.nils))⟩]) (.seq (.reg [⟨(some 8), none, .mov (.t 0)⟩,
  ⟨(some 9), none, .mov (.t 1)⟩,
  ⟨(some 10), none, .call (.c (.fn Fn.slices_IndexFunc_iimpl_Question_impl_Question [] [])) [.t 8, .t 9]⟩,
  ⟨(some 5), none, .mov (.t 10)⟩]) (.seq (.seq (.reg [⟨(some 11), none, .mov (.t 5)⟩,
  ⟨(some 12), none, .bin .eql (.num) (.t 11) (.c (.int .i64 (-1)))⟩]) (.cond (.t 12) (.seq (.reg [⟨(some 13), none, .mov (.t 0)⟩,
  ⟨(some 4), none, .mov (.t 13)⟩]) (.ret)) (.skip))) (.seq (.seq (.reg [⟨(some 14), none, .mov (.t 5)⟩,
  ⟨(some 15), none, .bin .add (.num) (.t 14) (.c (.int .i64 1))⟩,
  ⟨(some 6), none, .mov (.t 15)⟩]) (.block 0 (.loop (.seq (.seq (.reg [⟨(some 16), none, .mov (.t 6)⟩,
  ⟨(some 17), none, .mov (.t 0)⟩,
  ⟨(some 18), none, .len false (.t 17)⟩,
  ⟨(some 19), none, .bin .lss (.num) (.t 16) (.t 18)⟩]) (.cond (.t 19) (.skip) (.exit 0))) (.seq (.block 1 (.seq (.reg [⟨(some 22), none, .mov (.t 0)⟩,
  ⟨(some 23), none, .mov (.t 6)⟩,
  ⟨(some 24), none, .idxs 2 (.t 22) (.t 23)⟩,
  ⟨(some 25), none, .load 2 true (.t 24)⟩,
  ⟨(some 7), none, .alloc [.int .i64 0, .int .i64 0]⟩,
  ⟨none, none, .store 2 (.t 7) (.t 25)⟩]) (.seq (.reg [⟨(some 26), none, .mov (.t 1)⟩,
  ⟨(some 27), none, .load 2 true (.t 7)⟩,
  ⟨(some 28), none, .call (.t 26) [.t 27]⟩,
  ⟨(some 29), none, .un .not (.t 28)⟩]) (.cond (.t 29) (.seq (.reg [⟨(some 30), none, .mov (.t 0)⟩,
  ⟨(some 31), none, .mov (.t 5)⟩,
  ⟨(some 32), none, .load 2 true (.t 7)⟩,
  ⟨(some 33), none, .idxs 2 (.t 30) (.t 31)⟩,
  ⟨none, none, .store 2 (.t 33) (.t 32)⟩]) (.reg [⟨(some 34), none, .mov (.t 5)⟩,
  ⟨(some 35), none, .bin .add (.num) (.t 34) (.c (.int .i64 1))⟩,
  ⟨(some 5), none, .mov (.t 35)⟩])) (.skip))))) (.reg [⟨(some 20), none, .mov (.t 6)⟩,
  ⟨(some 21), none, .bin .add (.num) (.t 20) (.c (.int .i64 1))⟩,
  ⟨(some 6), none, .mov (.t 21)⟩])))))) (.seq (.reg [⟨(some 36), none, .mov (.t 0)⟩,
  ⟨(some 37), none, .mov (.t 5)⟩,
  ⟨(some 38), none, .slice (.sl 2) (.t 36) (some (.t 37)) none none⟩,
  ⟨none, none, .clr 2 [.int .i64 0, .int .i64 0] (.t 38)⟩]) (.seq (.reg [⟨(some 39), none, .mov (.t 0)⟩,
  ⟨(some 40), none, .mov (.t 5)⟩,
  ⟨(some 41), none, .slice (.sl 2) (.t 39) none (some (.t 40)) none⟩,
  ⟨(some 4), none, .mov (.t 41)⟩]) (.ret))))))
def slices_DeleteFunc_iimpl_Question_impl_Question_r : List RS := [.t 4]
def slices_DeleteFunc_iimpl_Question_impl_Question_s0 (t0 t1 t5 t6 : AV) (loc : List (List AV)) (h : AH) : St := ⟨[t0, t1, .any, .any, .any, t5, t6, .any, .any, .any, .any, .any, .any, .any, .any, .any, .any, .any, .any, .any, .any, .any, .any, .any, .any, .any, .any, .any, .any, .any, .any, .any, .any, .any, .any, .any, .any, .any, .any, .any, .any, .any], loc, h⟩
theorem slices_DeleteFunc_iimpl_Question_impl_Question_e {a0 a1 : AV} {h : AH} {K : AV → AH → Prop} (hw : TC Try.prog Θ Γ slices_DeleteFunc_iimpl_Question_impl_Question_c (retQ slices_DeleteFunc_iimpl_Question_impl_Question_r K) ⟨[a0, a1, u, u, u, u, u, u, u, u, u, u, u, u, u, u, u, u, u, u, u, u, u, u, u, u, u, u, u, u, u, u, u, u, u, u, u, u, u, u, u, u], [], h⟩) : T Try.prog Γ Fn.slices_DeleteFunc_iimpl_Question_impl_Question [a0, a1] h K :=
  T_of_body tabOK Try.func30 (code := bodyOf Try.f30) (by kernel_rfl) (by kernel_rfl) (by kernel_rfl) (by kernel_rfl) hw
def slices_Clone_iimpl_Question_impl_Question_c : C := .seq (.reg [⟨(some 2), none, .mov (.c (.nils))⟩]) (.seq (.seq (.reg [⟨(some 3), none, .mov (.t 0)⟩,
  ⟨(some 4), none, .bin .eql (.nils) (.t 3) (.c (.nils))⟩]) (.cond (.t 4) (.seq (.reg [⟨(some 2), none, .mov (.c (.nils))⟩]) (.ret)) (.skip))) (.seq (.reg [⟨(some 5), none, .bsl 2 0 [.int .i64 0, .int .i64 0] []⟩,
  ⟨(some 6), none, .mov (.t 0)⟩,
  ⟨(some 7), none, .app 2 16 [.int .i64 0, .int .i64 0] false (.t 5) (.t 6)⟩,
  ⟨(some 2), none, .mov (.t 7)⟩]) (.ret)))
def slices_Clone_iimpl_Question_impl_Question_r : List RS := [.t 2]
theorem slices_Clone_iimpl_Question_impl_Question_e {a0 : AV} {h : AH} {K : AV → AH → Prop} (hw : TC Try.prog Θ Γ slices_Clone_iimpl_Question_impl_Question_c (retQ slices_Clone_iimpl_Question_impl_Question_r K) ⟨[a0, u, u, u, u, u, u, u], [], h⟩) : T Try.prog Γ Fn.slices_Clone_iimpl_Question_impl_Question [a0] h K :=
  T_of_body tabOK Try.func31 (code := bodyOf Try.f31) (by kernel_rfl) (by kernel_rfl) (by kernel_rfl) (by kernel_rfl) hw
def impl_DropEntry_1_c : C := .seq (.reg [⟨(some 2), none, .box (.t 0)⟩,
  ⟨(some 3), none, .mov (.c (.bool false))⟩]) (.seq (.reg [⟨(some 4), none, .fld 0 (.t 2)⟩,
  ⟨(some 5), none, .load 1 false (.t 4)⟩,
  ⟨(some 6), none, .load 1 false (.t 1)⟩,
  ⟨(some 7), none, .bin .eql (.num) (.t 5) (.t 6)⟩,
  ⟨(some 3), none, .mov (.t 7)⟩]) (.ret))
def impl_DropEntry_1_r : List RS := [.t 3]
theorem impl_DropEntry_1_e {a0 a1 : AV} {h : AH} {K : AV → AH → Prop} (hw : TC Try.prog Θ Γ impl_DropEntry_1_c (retQ impl_DropEntry_1_r K) ⟨[a0, a1, u, u, u, u, u, u], [], h⟩) : T Try.prog Γ Fn.impl_DropEntry_1 [a0, a1] h K :=
  T_of_body tabOK Try.func32 (code := bodyOf Try.f32) (by kernel_rfl) (by kernel_rfl) (by kernel_rfl) (by kernel_rfl) hw
def spec_l1New_c : C := .seq (.reg [⟨(some 2), none, .mov (.c (.nilp))⟩]) (.seq (.reg [⟨(some 5), none, .mov (.t 0)⟩,
  ⟨(some 6), none, .len false (.t 5)⟩,
  ⟨(some 7), none, .bin .add (.num) (.c (.int .i64 193017)) (.t 6)⟩,
  ⟨(some 3), none, .mov (.t 7)⟩]) (.seq (.seq (.reg [⟨(some 4), none, .mov (.c (.int .i64 0))⟩]) (.block 0 (.loop (.seq (.seq (.reg [⟨(some 8), none, .mov (.t 4)⟩,
  ⟨(some 9), none, .mov (.t 0)⟩,
  ⟨(some 10), none, .len false (.t 9)⟩,
  ⟨(some 11), none, .bin .lss (.num) (.t 8) (.t 10)⟩,
  ⟨(some 12), none, .mov (.t 11)⟩,
  ⟨(some 13), (some (4, true)), .mov (.t 4)⟩,
  ⟨(some 14), (some (4, true)), .bin .lss (.num) (.t 13) (.c (.int .i64 4000))⟩,
  ⟨(some 15), none, .pick (.t 12) (.t 14) (.c (.bool false))⟩]) (.cond (.t 15) (.skip) (.exit 0))) (.seq (.block 1 (.reg [⟨(some 18), none, .mov (.t 3)⟩,
  ⟨(some 19), none, .bin .mul (.num) (.t 18) (.c (.int .i64 137))⟩,
  ⟨(some 20), none, .mov (.t 0)⟩,
  ⟨(some 21), none, .mov (.t 4)⟩,
  ⟨(some 22), none, .idxs 1 (.t 20) (.t 21)⟩,
  ⟨(some 23), none, .load 1 false (.t 22)⟩,
  ⟨(some 24), none, .cvi .i64 (.t 23)⟩,
  ⟨(some 25), none, .bin .add (.num) (.t 19) (.t 24)⟩,
  ⟨(some 26), none, .bin .add (.num) (.t 25) (.c (.int .i64 11))⟩,
  ⟨(some 27), none, .bin .and (.num) (.t 26) (.c (.int .i64 1073741823))⟩,
  ⟨(some 3), none, .mov (.t 27)⟩])) (.reg [⟨(some 16), none, .mov (.t 4)⟩,
  ⟨(some 17), none, .bin .add (.num) (.t 16) (.c (.int .i64 1))⟩,
  ⟨(some 4), none, .mov (.t 17)⟩])))))) (.seq (.reg [⟨(some 28), none, .mov (.t 0)⟩,
  ⟨(some 29), none, .mov (.t 3)⟩,
  ⟨(some 30), none, .build [.nils, .int .i64 0, .int .i64 0] [(0, 1, .t 28), (2, 1, .t 29)]⟩,
  ⟨(some 31), none, .box (.t 30)⟩,
  ⟨(some 2), none, .mov (.t 31)⟩]) (.ret))))
def spec_l1New_r : List RS := [.t 2]
def spec_l1New_s0 (t0 t3 t4 : AV) (loc : List (List AV)) (h : AH) : St := ⟨[t0, .any, .any, t3, t4, .any, .any, .any, .any, .any, .any, .any, .any, .any, .any, .any, .any, .any, .any, .any, .any, .any, .any, .any, .any, .any, .any, .any, .any, .any, .any, .any], loc, h⟩
theorem spec_l1New_e {a0 : AV} {h : AH} {K : AV → AH → Prop} (hw : TC Try.prog Θ Γ spec_l1New_c (retQ spec_l1New_r K) ⟨[a0, u, u, u, u, u, u, u, u, u, u, u, u, u, u, u, u, u, u, u, u, u, u, u, u, u, u, u, u, u, u, u], [], h⟩) : T Try.prog Γ Fn.spec_l1New [a0] h K :=
  T_of_body tabOK Try.func50 (code := bodyOf Try.f50) (by kernel_rfl) (by kernel_rfl) (by kernel_rfl) (by kernel_rfl) hw
def spec_l10Link_d0_os : List O := [⟨(some 18), none, .load 7 true (.t 3)⟩,
  ⟨(some 19), none, .mov (.t 0)⟩,
  ⟨(some 20), none, .call (.c (.fn Fn.spec_l1Below [] [])) [.t 19, .c (.int .i64 4)]⟩,
  ⟨(some 21), none, .call (.c (.fn Fn.spec_PutExport [] [])) [.t 18, .t 20]⟩,
  ⟨(some 17), none, .mov (.t 21)⟩,
  ⟨(some 22), none, .extr (.t 17) 0⟩,
  ⟨(some 23), none, .extr (.t 17) 1⟩,
  ⟨none, none, .store 7 (.t 3) (.t 22)⟩]
def spec_l10Link_d0_af : List (List Nat) := [[], [], [1], [0, 2, 2], [3], [4], [4], [5, 3, 0, 1, 2, 3, 4, 5]]
theorem spec_l10Link_d0_q (gl : Gl) (Q : AE → St → Prop) (s : St) : aw Try.prog Θ Γ gl (.regD spec_l10Link_d0_os spec_l10Link_d0_af) Q s = awpT Try.prog Γ gl [⟨(some 18), none, .load 7 true (.t 3)⟩,
  ⟨(some 19), none, .mov (.t 0)⟩,
  ⟨(some 20), none, .call (.c (.fn Fn.spec_l1Below [] [])) [.t 19, .c (.int .i64 4)]⟩,
  ⟨(some 21), none, .call (.c (.fn Fn.spec_PutExport [] [])) [.t 18, .t 20]⟩,
  ⟨(some 17), none, .mov (.t 21)⟩,
  ⟨(some 22), none, .extr (.t 17) 0⟩,
  ⟨(some 23), none, .extr (.t 17) 1⟩,
  ⟨none, none, .store 7 (.t 3) (.t 22)⟩] (Q .normal) 8 (.q 0 (.q 1 (.st 2 [3] (.q 3 (.q 4 (.q 5 (.q 6 (.q 7 (.done))))))))) s := a_dd rfl (by kernel_rfl) gl Q s
def spec_l10Link_d1_os : List O := [⟨(some 31), none, .load 7 true (.t 3)⟩,
  ⟨(some 32), none, .mov (.t 0)⟩,
  ⟨(some 33), none, .call (.c (.fn Fn.spec_l1Below [] [])) [.t 32, .c (.int .i64 4)]⟩,
  ⟨(some 34), none, .call (.c (.fn Fn.spec_PutQuestion [] [])) [.t 31, .t 33]⟩,
  ⟨(some 30), none, .mov (.t 34)⟩,
  ⟨(some 35), none, .extr (.t 30) 0⟩,
  ⟨(some 36), none, .extr (.t 30) 1⟩,
  ⟨none, none, .store 7 (.t 3) (.t 35)⟩]
def spec_l10Link_d1_af : List (List Nat) := [[], [], [1], [0, 2, 2], [3], [4], [4], [5, 3, 0, 1, 2, 3, 4, 5]]
theorem spec_l10Link_d1_q (gl : Gl) (Q : AE → St → Prop) (s : St) : aw Try.prog Θ Γ gl (.regD spec_l10Link_d1_os spec_l10Link_d1_af) Q s = awpT Try.prog Γ gl [⟨(some 31), none, .load 7 true (.t 3)⟩,
  ⟨(some 32), none, .mov (.t 0)⟩,
  ⟨(some 33), none, .call (.c (.fn Fn.spec_l1Below [] [])) [.t 32, .c (.int .i64 4)]⟩,
  ⟨(some 34), none, .call (.c (.fn Fn.spec_PutQuestion [] [])) [.t 31, .t 33]⟩,
  ⟨(some 30), none, .mov (.t 34)⟩,
  ⟨(some 35), none, .extr (.t 30) 0⟩,
  ⟨(some 36), none, .extr (.t 30) 1⟩,
  ⟨none, none, .store 7 (.t 3) (.t 35)⟩] (Q .normal) 8 (.q 0 (.q 1 (.st 2 [3] (.q 3 (.q 4 (.q 5 (.q 6 (.q 7 (.done))))))))) s := a_dd rfl (by kernel_rfl) gl Q s
def spec_l10Link_d2_os : List O := [⟨(some 43), none, .fld 6 (.t 3)⟩,
  ⟨(some 44), none, .load 1 false (.t 43)⟩,
  ⟨(some 45), none, .mov (.t 6)⟩,
  ⟨(some 46), none, .mov (.t 0)⟩,
  ⟨(some 47), none, .call (.c (.fn Fn.spec_l1Below [] [])) [.t 46, .c (.int .i64 4)]⟩,
  ⟨(some 48), none, .build [.int .i64 0, .int .i64 0] [(0, 1, .t 45), (1, 1, .t 47)]⟩,
  ⟨(some 49), none, .bsl 2 1 [.int .i64 0, .int .i64 0] [(0, .t 48)]⟩,
  ⟨(some 50), none, .app 2 16 [.int .i64 0, .int .i64 0] false (.t 44) (.t 49)⟩,
  ⟨(some 51), none, .fld 6 (.t 3)⟩,
  ⟨none, none, .store 1 (.t 51) (.t 50)⟩]
def spec_l10Link_d2_af : List (List Nat) := [[], [0], [], [], [3], [2, 4], [5], [1, 6, 4], [0, 1, 2, 3, 4, 5, 6, 7], [8, 7, 7, 0, 1, 2, 3, 4, 5, 6, 7]]
theorem spec_l10Link_d2_q (gl : Gl) (Q : AE → St → Prop) (s : St) : aw Try.prog Θ Γ gl (.regD spec_l10Link_d2_os spec_l10Link_d2_af) Q s = awpT Try.prog Γ gl [⟨(some 43), none, .fld 6 (.t 3)⟩,
  ⟨(some 44), none, .load 1 false (.t 43)⟩,
  ⟨(some 45), none, .mov (.t 6)⟩,
  ⟨(some 46), none, .mov (.t 0)⟩,
  ⟨(some 47), none, .call (.c (.fn Fn.spec_l1Below [] [])) [.t 46, .c (.int .i64 4)]⟩,
  ⟨(some 48), none, .build [.int .i64 0, .int .i64 0] [(0, 1, .t 45), (1, 1, .t 47)]⟩,
  ⟨(some 49), none, .bsl 2 1 [.int .i64 0, .int .i64 0] [(0, .t 48)]⟩,
  ⟨(some 50), none, .app 2 16 [.int .i64 0, .int .i64 0] false (.t 44) (.t 49)⟩,
  ⟨(some 51), none, .fld 6 (.t 3)⟩,
  ⟨none, none, .store 1 (.t 51) (.t 50)⟩] (Q .normal) 10 (.q 0 (.q 1 (.q 2 (.q 3 (.st 4 [43] (.q 5 (.all [(6, .q 7 (.q 8 (.q 9 (.done))))]))))))) s := a_dd rfl (by kernel_rfl) gl Q s
def spec_l10Link_d3_os : List O := [⟨(some 54), none, .load 7 true (.t 3)⟩,
  ⟨(some 55), none, .mov (.t 0)⟩,
  ⟨(some 56), none, .call (.c (.fn Fn.spec_l1Below [] [])) [.t 55, .c (.int .i64 3)]⟩,
  ⟨(some 57), none, .bin .add (.num) (.c (.int .i64 1)) (.t 56)⟩,
  ⟨(some 58), none, .mov (.t 0)⟩,
  ⟨(some 59), none, .call (.c (.fn Fn.spec_l1Below [] [])) [.t 58, .c (.int .i64 3)]⟩,
  ⟨(some 60), none, .bin .add (.num) (.c (.int .i64 1)) (.t 59)⟩,
  ⟨(some 61), none, .call (.c (.fn Fn.spec_ReleaseExport [] [])) [.t 54, .t 57, .t 60]⟩,
  ⟨none, none, .store 7 (.t 3) (.t 61)⟩]
def spec_l10Link_d3_af : List (List Nat) := [[], [], [1], [2], [], [4, 2], [5], [0, 3, 6, 5], [7, 7, 0, 1, 2, 3, 4, 5, 6, 7]]
theorem spec_l10Link_d3_q (gl : Gl) (Q : AE → St → Prop) (s : St) : aw Try.prog Θ Γ gl (.regD spec_l10Link_d3_os spec_l10Link_d3_af) Q s = awpT Try.prog Γ gl [⟨(some 54), none, .load 7 true (.t 3)⟩,
  ⟨(some 55), none, .mov (.t 0)⟩,
  ⟨(some 56), none, .call (.c (.fn Fn.spec_l1Below [] [])) [.t 55, .c (.int .i64 3)]⟩,
  ⟨(some 57), none, .bin .add (.num) (.c (.int .i64 1)) (.t 56)⟩,
  ⟨(some 58), none, .mov (.t 0)⟩,
  ⟨(some 59), none, .call (.c (.fn Fn.spec_l1Below [] [])) [.t 58, .c (.int .i64 3)]⟩,
  ⟨(some 60), none, .bin .add (.num) (.c (.int .i64 1)) (.t 59)⟩,
  ⟨(some 61), none, .call (.c (.fn Fn.spec_ReleaseExport [] [])) [.t 54, .t 57, .t 60]⟩,
  ⟨none, none, .store 7 (.t 3) (.t 61)⟩] (Q .normal) 9 (.q 0 (.q 1 (.q 4 (.st 2 [3] (.q 3 (.st 5 [3] (.q 6 (.q 7 (.q 8 (.done)))))))))) s := a_dd rfl (by kernel_rfl) gl Q s
def spec_l10Link_c : C := .seq (.reg [⟨(some 2), none, .alloc [.int .i64 0, .bool false, .nils, .int .i64 0, .nils, .int .i64 0, .nils]⟩]) (.seq (.reg [⟨(some 7), none, .mov (.t 0)⟩,
  ⟨(some 8), none, .call (.c (.fn Fn.spec_l1Below [] [])) [.t 7, .c (.int .i64 3)]⟩,
  ⟨(some 9), none, .bin .add (.num) (.c (.int .i64 1)) (.t 8)⟩,
  ⟨(some 10), none, .call (.c (.fn Fn.spec_NewLink [] [])) [.t 9]⟩,
  ⟨(some 3), none, .alloc [.int .i64 0, .bool false, .nils, .int .i64 0, .nils, .int .i64 0, .nils]⟩,
  ⟨none, none, .store 7 (.t 3) (.t 10)⟩]) (.seq (.seq (.reg [⟨(some 11), none, .mov (.t 0)⟩,
  ⟨(some 12), none, .call (.c (.fn Fn.spec_l1Below [] [])) [.t 11, .c (.int .i64 5)]⟩,
  ⟨(some 4), none, .mov (.t 12)⟩]) (.block 0 (.loop (.seq (.seq (.reg [⟨(some 13), none, .mov (.t 4)⟩,
  ⟨(some 14), none, .bin .gtr (.num) (.t 13) (.c (.int .i64 0))⟩]) (.cond (.t 14) (.skip) (.exit 0))) (.seq (.block 1 (.regD spec_l10Link_d0_os spec_l10Link_d0_af)) (.reg [⟨(some 15), none, .mov (.t 4)⟩,
  ⟨(some 16), none, .bin .sub (.num) (.t 15) (.c (.int .i64 1))⟩,
  ⟨(some 4), none, .mov (.t 16)⟩])))))) (.seq (.seq (.reg [⟨(some 24), none, .mov (.t 0)⟩,
  ⟨(some 25), none, .call (.c (.fn Fn.spec_l1Below [] [])) [.t 24, .c (.int .i64 4)]⟩,
  ⟨(some 5), none, .mov (.t 25)⟩]) (.block 2 (.loop (.seq (.seq (.reg [⟨(some 26), none, .mov (.t 5)⟩,
  ⟨(some 27), none, .bin .gtr (.num) (.t 26) (.c (.int .i64 0))⟩]) (.cond (.t 27) (.skip) (.exit 2))) (.seq (.block 3 (.regD spec_l10Link_d1_os spec_l10Link_d1_af)) (.reg [⟨(some 28), none, .mov (.t 5)⟩,
  ⟨(some 29), none, .bin .sub (.num) (.t 28) (.c (.int .i64 1))⟩,
  ⟨(some 5), none, .mov (.t 29)⟩])))))) (.seq (.seq (.reg [⟨(some 37), none, .mov (.t 0)⟩,
  ⟨(some 38), none, .call (.c (.fn Fn.spec_l1Below [] [])) [.t 37, .c (.int .i64 3)]⟩,
  ⟨(some 6), none, .mov (.t 38)⟩]) (.block 4 (.loop (.seq (.seq (.reg [⟨(some 39), none, .mov (.t 6)⟩,
  ⟨(some 40), none, .bin .gtr (.num) (.t 39) (.c (.int .i64 0))⟩]) (.cond (.t 40) (.skip) (.exit 4))) (.seq (.block 5 (.regD spec_l10Link_d2_os spec_l10Link_d2_af)) (.reg [⟨(some 41), none, .mov (.t 6)⟩,
  ⟨(some 42), none, .bin .sub (.num) (.t 41) (.c (.int .i64 1))⟩,
  ⟨(some 6), none, .mov (.t 42)⟩])))))) (.seq (.seq (.reg [⟨(some 52), none, .mov (.t 0)⟩,
  ⟨(some 53), none, .call (.c (.fn Fn.spec_l1Once [] [])) [.t 52, .c (.int .i64 4)]⟩]) (.cond (.t 53) (.regD spec_l10Link_d3_os spec_l10Link_d3_af) (.skip))) (.seq (.reg [⟨(some 62), none, .load 7 true (.t 3)⟩,
  ⟨none, none, .store 7 (.t 2) (.t 62)⟩]) (.ret)))))))
def spec_l10Link_r : List RS := [.cell 2 7 true]
def spec_l10Link_s0 (t0 t2 t3 t4 : AV) (loc : List (List AV)) (h : AH) : St := ⟨[t0, .any, t2, t3, t4, .any, .any, .any, .any, .any, .any, .any, .any, .any, .any, .any, .any, .any, .any, .any, .any, .any, .any, .any, .any, .any, .any, .any, .any, .any, .any, .any, .any, .any, .any, .any, .any, .any, .any, .any, .any, .any, .any, .any, .any, .any, .any, .any, .any, .any, .any, .any, .any, .any, .any, .any, .any, .any, .any, .any, .any, .any, .any], loc, h⟩
def spec_l10Link_s1 (t0 t2 t3 t5 : AV) (loc : List (List AV)) (h : AH) : St := ⟨[t0, .any, t2, t3, .any, t5, .any, .any, .any, .any, .any, .any, .any, .any, .any, .any, .any, .any, .any, .any, .any, .any, .any, .any, .any, .any, .any, .any, .any, .any, .any, .any, .any, .any, .any, .any, .any, .any, .any, .any, .any, .any, .any, .any, .any, .any, .any, .any, .any, .any, .any, .any, .any, .any, .any, .any, .any, .any, .any, .any, .any, .any, .any], loc, h⟩
def spec_l10Link_s2 (t0 t2 t3 t6 : AV) (loc : List (List AV)) (h : AH) : St := ⟨[t0, .any, t2, t3, .any, .any, t6, .any, .any, .any, .any, .any, .any, .any, .any, .any, .any, .any, .any, .any, .any, .any, .any, .any, .any, .any, .any, .any, .any, .any, .any, .any, .any, .any, .any, .any, .any, .any, .any, .any, .any, .any, .any, .any, .any, .any, .any, .any, .any, .any, .any, .any, .any, .any, .any, .any, .any, .any, .any, .any, .any, .any, .any], loc, h⟩
theorem spec_l10Link_e {a0 : AV} {h : AH} {K : AV → AH → Prop} (hw : TC Try.prog Θ Γ spec_l10Link_c (retQ spec_l10Link_r K) ⟨[a0, u, u, u, u, u, u, u, u, u, u, u, u, u, u, u, u, u, u, u, u, u, u, u, u, u, u, u, u, u, u, u, u, u, u, u, u, u, u, u, u, u, u, u, u, u, u, u, u, u, u, u, u, u, u, u, u, u, u, u, u, u, u], [], h⟩) : T Try.prog Γ Fn.spec_l10Link [a0] h K :=
  T_of_body tabOK Try.func51 (code := bodyOf Try.f51) (by kernel_rfl) (by kernel_rfl) (by kernel_rfl) (by kernel_rfl) hw
def spec_l1Below_c : C := .seq (.reg [⟨(some 4), none, .mov (.c (.int .i64 0))⟩]) (.seq (.seq (.reg [⟨(some 8), none, .mov (.t 1)⟩,
  ⟨(some 9), none, .bin .leq (.num) (.t 8) (.c (.int .i64 0))⟩]) (.cond (.t 9) (.seq (.reg [⟨(some 4), none, .mov (.c (.int .i64 0))⟩]) (.ret)) (.skip))) (.seq (.seq (.reg [⟨(some 10), none, .mov (.t 1)⟩,
  ⟨(some 11), none, .bin .leq (.num) (.t 10) (.c (.int .i64 256))⟩]) (.cond (.t 11) (.seq (.reg [⟨(some 12), none, .mov (.t 0)⟩,
  ⟨(some 13), none, .call (.c (.fn Fn.spec_l1Byte [] [])) [.t 12]⟩,
  ⟨(some 14), none, .mov (.t 1)⟩,
  ⟨(some 15), none, .bin .rem (.num) (.t 13) (.t 14)⟩,
  ⟨(some 4), none, .mov (.t 15)⟩]) (.ret)) (.skip))) (.seq (.reg [⟨(some 16), none, .mov (.t 0)⟩,
  ⟨(some 17), none, .call (.c (.fn Fn.spec_l1Byte [] [])) [.t 16]⟩,
  ⟨(some 5), none, .mov (.t 17)⟩]) (.seq (.reg [⟨(some 18), none, .mov (.t 0)⟩,
  ⟨(some 19), none, .call (.c (.fn Fn.spec_l1Byte [] [])) [.t 18]⟩,
  ⟨(some 6), none, .mov (.t 19)⟩]) (.seq (.reg [⟨(some 20), none, .mov (.t 0)⟩,
  ⟨(some 21), none, .call (.c (.fn Fn.spec_l1Byte [] [])) [.t 20]⟩,
  ⟨(some 7), none, .mov (.t 21)⟩]) (.seq (.reg [⟨(some 22), none, .mov (.t 5)⟩,
  ⟨(some 23), none, .bin .mul (.num) (.t 22) (.c (.int .i64 65536))⟩,
  ⟨(some 24), none, .mov (.t 6)⟩,
  ⟨(some 25), none, .bin .mul (.num) (.t 24) (.c (.int .i64 256))⟩,
  ⟨(some 26), none, .bin .add (.num) (.t 23) (.t 25)⟩,
  ⟨(some 27), none, .mov (.t 7)⟩,
  ⟨(some 28), none, .bin .add (.num) (.t 26) (.t 27)⟩,
  ⟨(some 29), none, .mov (.t 1)⟩,
  ⟨(some 30), none, .bin .rem (.num) (.t 28) (.t 29)⟩,
  ⟨(some 4), none, .mov (.t 30)⟩]) (.ret)))))))
def spec_l1Below_r : List RS := [.t 4]
theorem spec_l1Below_e {a0 a1 : AV} {h : AH} {K : AV → AH → Prop} (hw : TC Try.prog Θ Γ spec_l1Below_c (retQ spec_l1Below_r K) ⟨[a0, a1, u, u, u, u, u, u, u, u, u, u, u, u, u, u, u, u, u, u, u, u, u, u, u, u, u, u, u, u, u], [], h⟩) : T Try.prog Γ Fn.spec_l1Below [a0, a1] h K :=
  T_of_body tabOK Try.func52 (code := bodyOf Try.f52) (by kernel_rfl) (by kernel_rfl) (by kernel_rfl) (by kernel_rfl) hw
def slices_Clone_iimpl_Export_impl_Export_c : C := .seq (.reg [⟨(some 2), none, .mov (.c (.nils))⟩]) (.seq (.seq (.reg [⟨(some 3), none, .mov (.t 0)⟩,
  ⟨(some 4), none, .bin .eql (.nils) (.t 3) (.c (.nils))⟩]) (.cond (.t 4) (.seq (.reg [⟨(some 2), none, .mov (.c (.nils))⟩]) (.ret)) (.skip))) (.seq (.reg [⟨(some 5), none, .bsl 3 0 [.int .i64 0, .int .i64 0, .int .i64 0] []⟩,
  ⟨(some 6), none, .mov (.t 0)⟩,
  ⟨(some 7), none, .app 3 24 [.int .i64 0, .int .i64 0, .int .i64 0] false (.t 5) (.t 6)⟩,
  ⟨(some 2), none, .mov (.t 7)⟩]) (.ret)))
def slices_Clone_iimpl_Export_impl_Export_r : List RS := [.t 2]
theorem slices_Clone_iimpl_Export_impl_Export_e {a0 : AV} {h : AH} {K : AV → AH → Prop} (hw : TC Try.prog Θ Γ slices_Clone_iimpl_Export_impl_Export_c (retQ slices_Clone_iimpl_Export_impl_Export_r K) ⟨[a0, u, u, u, u, u, u, u], [], h⟩) : T Try.prog Γ Fn.slices_Clone_iimpl_Export_impl_Export [a0] h K :=
  T_of_body tabOK Try.func53 (code := bodyOf Try.f53) (by kernel_rfl) (by kernel_rfl) (by kernel_rfl) (by kernel_rfl) hw
def slices_IndexFunc_iimpl_Export_impl_Export_c : C := .seq (.reg [⟨(some 4), none, .mov (.c (.int .i64 0))⟩]) (.seq (.seq (.reg [⟨(some 6), none, .mov (.t 0)⟩,
  ⟨(some 7), none, .len false (.t 6)⟩,
  ⟨(some 8), none, .mov (.c (.int .i64 0))⟩]) (.block 0 (.loop (.seq (.reg [⟨(some 9), none, .bin .lss (.num) (.t 8) (.t 7)⟩]) (.seq (.cond (.t 9) (.skip) (.exit 0)) (.seq (.block 1 (.seq (.reg [⟨(some 10), none, .mov (.t 8)⟩,
  ⟨(some 5), none, .mov (.t 10)⟩]) (.seq (.reg [⟨(some 11), none, .mov (.t 1)⟩,
  ⟨(some 12), none, .mov (.t 0)⟩,
  ⟨(some 13), none, .mov (.t 5)⟩,
  ⟨(some 14), none, .idxs 3 (.t 12) (.t 13)⟩,
  ⟨(some 15), none, .load 3 true (.t 14)⟩,
  ⟨(some 16), none, .call (.t 11) [.t 15]⟩]) (.cond (.t 16) (.seq (.reg [⟨(some 17), none, .mov (.t 5)⟩,
  ⟨(some 4), none, .mov (.t 17)⟩]) (.ret)) (.skip))))) (.reg [⟨(some 18), none, .bin .add (.num) (.t 8) (.c (.int .i64 1))⟩,
  ⟨(some 8), none, .mov (.t 18)⟩]))))))) (.seq (.reg [⟨(some 4), none, .mov (.c (.int .i64 (-1)))⟩]) (.ret)))
def slices_IndexFunc_iimpl_Export_impl_Export_r : List RS := [.t 4]
def slices_IndexFunc_iimpl_Export_impl_Export_s0 (t0 t1 t7 t8 : AV) (loc : List (List AV)) (h : AH) : St := ⟨[t0, t1, .any, .any, .any, .any, .any, t7, t8, .any, .any, .any, .any, .any, .any, .any, .any, .any, .any], loc, h⟩
theorem slices_IndexFunc_iimpl_Export_impl_Export_e {a0 a1 : AV} {h : AH} {K : AV → AH → Prop} (hw : TC Try.prog Θ Γ slices_IndexFunc_iimpl_Export_impl_Export_c (retQ slices_IndexFunc_iimpl_Export_impl_Export_r K) ⟨[a0, a1, u, u, u, u, u, u, u, u, u, u, u, u, u, u, u, u, u], [], h⟩) : T Try.prog Γ Fn.slices_IndexFunc_iimpl_Export_impl_Export [a0, a1] h K :=
  T_of_body tabOK Try.func54 (code := bodyOf Try.f54) (by kernel_rfl) (by kernel_rfl) (by kernel_rfl) (by kernel_rfl) hw
def impl_Link_at_1_c : C := .seq (.reg [⟨(some 2), none, .box (.t 0)⟩,
  ⟨(some 3), none, .mov (.c (.bool false))⟩]) (.seq (.reg [⟨(some 4), none, .fld 0 (.t 2)⟩,
  ⟨(some 5), none, .load 1 false (.t 4)⟩,
  ⟨(some 6), none, .load 1 false (.t 1)⟩,
  ⟨(some 7), none, .bin .eql (.num) (.t 5) (.t 6)⟩,
  ⟨(some 3), none, .mov (.t 7)⟩]) (.ret))
def impl_Link_at_1_r : List RS := [.t 3]
theorem impl_Link_at_1_e {a0 a1 : AV} {h : AH} {K : AV → AH → Prop} (hw : TC Try.prog Θ Γ impl_Link_at_1_c (retQ impl_Link_at_1_r K) ⟨[a0, a1, u, u, u, u, u, u], [], h⟩) : T Try.prog Γ Fn.impl_Link_at_1 [a0, a1] h K :=
  T_of_body tabOK Try.func55 (code := bodyOf Try.f55) (by kernel_rfl) (by kernel_rfl) (by kernel_rfl) (by kernel_rfl) hw
def impl_Link_of_1_c : C := .seq (.reg [⟨(some 2), none, .box (.t 0)⟩,
  ⟨(some 3), none, .mov (.c (.bool false))⟩]) (.seq (.reg [⟨(some 4), none, .fld 1 (.t 2)⟩,
  ⟨(some 5), none, .load 1 false (.t 4)⟩,
  ⟨(some 6), none, .load 1 false (.t 1)⟩,
  ⟨(some 7), none, .bin .eql (.num) (.t 5) (.t 6)⟩,
  ⟨(some 3), none, .mov (.t 7)⟩]) (.ret))
def impl_Link_of_1_r : List RS := [.t 3]
theorem impl_Link_of_1_e {a0 a1 : AV} {h : AH} {K : AV → AH → Prop} (hw : TC Try.prog Θ Γ impl_Link_of_1_c (retQ impl_Link_of_1_r K) ⟨[a0, a1, u, u, u, u, u, u], [], h⟩) : T Try.prog Γ Fn.impl_Link_of_1 [a0, a1] h K :=
  T_of_body tabOK Try.func56 (code := bodyOf Try.f56) (by kernel_rfl) (by kernel_rfl) (by kernel_rfl) (by kernel_rfl) hw
def slices_Delete_iimpl_Export_impl_Export_d0_os : List O := [⟨(some 20), none, .mov (.t 0)⟩,
  ⟨(some 21), none, .mov (.t 1)⟩,
  ⟨(some 22), none, .slice (.sl 3) (.t 20) none (some (.t 21)) none⟩,
  ⟨(some 23), none, .mov (.t 0)⟩,
  ⟨(some 24), none, .mov (.t 2)⟩,
  ⟨(some 25), none, .slice (.sl 3) (.t 23) (some (.t 24)) none none⟩,
  ⟨(some 26), none, .app 3 24 [.int .i64 0, .int .i64 0, .int .i64 0] false (.t 22) (.t 25)⟩,
  ⟨(some 0), none, .mov (.t 26)⟩]
def slices_Delete_iimpl_Export_impl_Export_d0_af : List (List Nat) := [[], [], [0, 1], [], [], [3, 4], [2, 5], [6, 6, 0, 1, 2, 3, 4, 5, 6]]
theorem slices_Delete_iimpl_Export_impl_Export_d0_q (gl : Gl) (Q : AE → St → Prop) (s : St) : aw Try.prog Θ Γ gl (.regD slices_Delete_iimpl_Export_impl_Export_d0_os slices_Delete_iimpl_Export_impl_Export_d0_af) Q s = awpT Try.prog Γ gl [⟨(some 20), none, .mov (.t 0)⟩,
  ⟨(some 21), none, .mov (.t 1)⟩,
  ⟨(some 22), none, .slice (.sl 3) (.t 20) none (some (.t 21)) none⟩,
  ⟨(some 23), none, .mov (.t 0)⟩,
  ⟨(some 24), none, .mov (.t 2)⟩,
  ⟨(some 25), none, .slice (.sl 3) (.t 23) (some (.t 24)) none none⟩,
  ⟨(some 26), none, .app 3 24 [.int .i64 0, .int .i64 0, .int .i64 0] false (.t 22) (.t 25)⟩,
  ⟨(some 0), none, .mov (.t 26)⟩] (Q .normal) 8 (.q 0 (.q 1 (.q 2 (.q 3 (.q 4 (.q 5 (.q 6 (.q 7 (.done))))))))) s := a_dd rfl (by kernel_rfl) gl Q s
def slices_Delete_iimpl_Export_impl_Export_c : C := .seq (.reg [⟨(some 6), none, .mov (.c (.nils))⟩]) (.seq (.reg [⟨(some 8), none, .mov (.t 0)⟩,
  ⟨(some 9), none, .mov (.t 1)⟩,
  ⟨(some 10), none, .mov (.t 2)⟩,
  ⟨(some 11), none, .mov (.t 0)⟩,
  ⟨(some 12), none, .len false (.t 11)⟩,
  ⟨(some 13), none, .slice (.sl 3) (.t 8) (some (.t 9)) (some (.t 10)) (some (.t 12))⟩]) (.seq (.seq (.reg [⟨(some 14), none, .mov (.t 1)⟩,
  ⟨(some 15), none, .mov (.t 2)⟩,
  ⟨(some 16), none, .bin .eql (.num) (.t 14) (.t 15)⟩]) (.cond (.t 16) (.seq (.reg [⟨(some 17), none, .mov (.t 0)⟩,
  ⟨(some 6), none, .mov (.t 17)⟩]) (.ret)) (.skip))) (.seq (.reg [⟨(some 18), none, .mov (.t 0)⟩,
  ⟨(some 19), none, .len false (.t 18)⟩,
  ⟨(some 7), none, .mov (.t 19)⟩]) (.seq (.regD slices_Delete_iimpl_Export_impl_Export_d0_os slices_Delete_iimpl_Export_impl_Export_d0_af) (.seq (.reg [⟨(some 27), none, .mov (.t 0)⟩,
  ⟨(some 28), none, .mov (.t 0)⟩,
  ⟨(some 29), none, .len false (.t 28)⟩,
  ⟨(some 30), none, .mov (.t 7)⟩,
  ⟨(some 31), none, .slice (.sl 3) (.t 27) (some (.t 29)) (some (.t 30)) none⟩,
  ⟨none, none, .clr 3 [.int .i64 0, .int .i64 0, .int .i64 0] (.t 31)⟩]) (.seq (.reg [⟨(some 32), none, .mov (.t 0)⟩,
  ⟨(some 6), none, .mov (.t 32)⟩]) (.ret)))))))
def slices_Delete_iimpl_Export_impl_Export_r : List RS := [.t 6]
theorem slices_Delete_iimpl_Export_impl_Export_e {a0 a1 a2 : AV} {h : AH} {K : AV → AH → Prop} (hw : TC Try.prog Θ Γ slices_Delete_iimpl_Export_impl_Export_c (retQ slices_Delete_iimpl_Export_impl_Export_r K) ⟨[a0, a1, a2, u, u, u, u, u, u, u, u, u, u, u, u, u, u, u, u, u, u, u, u, u, u, u, u, u, u, u, u, u, u], [], h⟩) : T Try.prog Γ Fn.slices_Delete_iimpl_Export_impl_Export [a0, a1, a2] h K :=
  T_of_body tabOK Try.func57 (code := bodyOf Try.f57) (by kernel_rfl) (by kernel_rfl) (by kernel_rfl) (by kernel_rfl) hw
def slices_IndexFunc_iimpl_Question_impl_Question_c : C := .seq (.reg [⟨(some 4), none, .mov (.c (.int .i64 0))⟩]) (.seq (.seq (.reg [⟨(some 6), none, .mov (.t 0)⟩,
  ⟨(some 7), none, .len false (.t 6)⟩,
  ⟨(some 8), none, .mov (.c (.int .i64 0))⟩]) (.block 0 (.loop (.seq (.reg [⟨(some 9), none, .bin .lss (.num) (.t 8) (.t 7)⟩]) (.seq (.cond (.t 9) (.skip) (.exit 0)) (.seq (.block 1 (.seq (.reg [⟨(some 10), none, .mov (.t 8)⟩,
  ⟨(some 5), none, .mov (.t 10)⟩]) (.seq (.reg [⟨(some 11), none, .mov (.t 1)⟩,
  ⟨(some 12), none, .mov (.t 0)⟩,
  ⟨(some 13), none, .mov (.t 5)⟩,
  ⟨(some 14), none, .idxs 2 (.t 12) (.t 13)⟩,
  ⟨(some 15), none, .load 2 true (.t 14)⟩,
  ⟨(some 16), none, .call (.t 11) [.t 15]⟩]) (.cond (.t 16) (.seq (.reg [⟨(some 17), none, .mov (.t 5)⟩,
  ⟨(some 4), none, .mov (.t 17)⟩]) (.ret)) (.skip))))) (.reg [⟨(some 18), none, .bin .add (.num) (.t 8) (.c (.int .i64 1))⟩,
  ⟨(some 8), none, .mov (.t 18)⟩]))))))) (.seq (.reg [⟨(some 4), none, .mov (.c (.int .i64 (-1)))⟩]) (.ret)))
def slices_IndexFunc_iimpl_Question_impl_Question_r : List RS := [.t 4]
def slices_IndexFunc_iimpl_Question_impl_Question_s0 (t0 t1 t7 t8 : AV) (loc : List (List AV)) (h : AH) : St := ⟨[t0, t1, .any, .any, .any, .any, .any, t7, t8, .any, .any, .any, .any, .any, .any, .any, .any, .any, .any], loc, h⟩
theorem slices_IndexFunc_iimpl_Question_impl_Question_e {a0 a1 : AV} {h : AH} {K : AV → AH → Prop} (hw : TC Try.prog Θ Γ slices_IndexFunc_iimpl_Question_impl_Question_c (retQ slices_IndexFunc_iimpl_Question_impl_Question_r K) ⟨[a0, a1, u, u, u, u, u, u, u, u, u, u, u, u, u, u, u, u, u], [], h⟩) : T Try.prog Γ Fn.slices_IndexFunc_iimpl_Question_impl_Question [a0, a1] h K :=
  T_of_body tabOK Try.func58 (code := bodyOf Try.f58) (by kernel_rfl) (by kernel_rfl) (by kernel_rfl) (by kernel_rfl) hw
def spec_NewLink_c : C := .seq (.reg [⟨(some 2), none, .alloc [.int .i64 0, .bool false, .nils, .int .i64 0, .nils, .int .i64 0, .nils]⟩]) (.seq (.reg [⟨(some 3), none, .mov (.t 0)⟩,
  ⟨(some 4), none, .build [.int .i64 0, .bool false, .nils, .int .i64 0, .nils, .int .i64 0, .nils] [(0, 1, .t 3), (1, 1, .c (.bool true))]⟩,
  ⟨none, none, .store 7 (.t 2) (.t 4)⟩]) (.ret))
def spec_NewLink_r : List RS := [.cell 2 7 true]
theorem spec_NewLink_e {a0 : AV} {h : AH} {K : AV → AH → Prop} (hw : TC Try.prog Θ Γ spec_NewLink_c (retQ spec_NewLink_r K) ⟨[a0, u, u, u, u], [], h⟩) : T Try.prog Γ Fn.spec_NewLink [a0] h K :=
  T_of_body tabOK Try.func77 (code := bodyOf Try.f77) (by kernel_rfl) (by kernel_rfl) (by kernel_rfl) (by kernel_rfl) hw
def spec_PutExport_d0_os : List O := [⟨(some 25), none, .fld 2 (.t 6)⟩,
  ⟨(some 26), none, .load 1 false (.t 25)⟩,
  ⟨(some 27), none, .mov (.t 7)⟩,
  ⟨(some 28), none, .fld 2 (.t 2)⟩,
  ⟨(some 29), none, .load 1 false (.t 28)⟩,
  ⟨(some 30), none, .mov (.t 7)⟩,
  ⟨(some 31), none, .idxs 3 (.t 29) (.t 30)⟩,
  ⟨(some 32), none, .fld 2 (.t 31)⟩,
  ⟨(some 33), none, .load 1 false (.t 32)⟩,
  ⟨(some 34), none, .bin .add (.num) (.t 33) (.c (.int .i64 1))⟩,
  ⟨(some 35), none, .idxs 3 (.t 26) (.t 27)⟩,
  ⟨(some 36), none, .fld 2 (.t 35)⟩,
  ⟨none, none, .store 1 (.t 36) (.t 34)⟩]
def spec_PutExport_d0_af : List (List Nat) := [[], [0], [], [], [3], [], [4, 5], [6], [7], [8], [1, 2, 0, 1, 2, 3, 4, 5, 6, 7, 8, 9], [10, 0, 1, 2, 3, 4, 5, 6, 7, 8, 9], [11, 9, 0, 1, 2, 3, 4, 5, 6, 7, 8, 9]]
theorem spec_PutExport_d0_q (gl : Gl) (Q : AE → St → Prop) (s : St) : aw Try.prog Θ Γ gl (.regD spec_PutExport_d0_os spec_PutExport_d0_af) Q s = awpT Try.prog Γ gl [⟨(some 25), none, .fld 2 (.t 6)⟩,
  ⟨(some 26), none, .load 1 false (.t 25)⟩,
  ⟨(some 27), none, .mov (.t 7)⟩,
  ⟨(some 28), none, .fld 2 (.t 2)⟩,
  ⟨(some 29), none, .load 1 false (.t 28)⟩,
  ⟨(some 30), none, .mov (.t 7)⟩,
  ⟨(some 31), none, .idxs 3 (.t 29) (.t 30)⟩,
  ⟨(some 32), none, .fld 2 (.t 31)⟩,
  ⟨(some 33), none, .load 1 false (.t 32)⟩,
  ⟨(some 34), none, .bin .add (.num) (.t 33) (.c (.int .i64 1))⟩,
  ⟨(some 35), none, .idxs 3 (.t 26) (.t 27)⟩,
  ⟨(some 36), none, .fld 2 (.t 35)⟩,
  ⟨none, none, .store 1 (.t 36) (.t 34)⟩] (Q .normal) 13 (.q 0 (.q 1 (.q 2 (.q 3 (.q 4 (.q 5 (.q 6 (.q 7 (.q 8 (.q 9 (.q 10 (.q 11 (.q 12 (.done)))))))))))))) s := a_dd rfl (by kernel_rfl) gl Q s
def spec_PutExport_d1_os : List O := [⟨(some 37), none, .load 7 true (.t 6)⟩,
  ⟨(some 38), none, .fld 2 (.t 2)⟩,
  ⟨(some 39), none, .load 1 false (.t 38)⟩,
  ⟨(some 40), none, .mov (.t 7)⟩,
  ⟨(some 41), none, .idxs 3 (.t 39) (.t 40)⟩,
  ⟨(some 42), none, .fld 0 (.t 41)⟩,
  ⟨(some 43), none, .load 1 false (.t 42)⟩,
  ⟨none, none, .store 7 (.t 4) (.t 37)⟩,
  ⟨(some 5), none, .mov (.t 43)⟩]
def spec_PutExport_d1_af : List (List Nat) := [[], [], [1], [], [2, 3], [4], [5], [0, 0], [6, 7, 0, 1, 2, 3, 4, 5, 6, 7]]
theorem spec_PutExport_d1_q (gl : Gl) (Q : AE → St → Prop) (s : St) : aw Try.prog Θ Γ gl (.regD spec_PutExport_d1_os spec_PutExport_d1_af) Q s = awpT Try.prog Γ gl [⟨(some 37), none, .load 7 true (.t 6)⟩,
  ⟨(some 38), none, .fld 2 (.t 2)⟩,
  ⟨(some 39), none, .load 1 false (.t 38)⟩,
  ⟨(some 40), none, .mov (.t 7)⟩,
  ⟨(some 41), none, .idxs 3 (.t 39) (.t 40)⟩,
  ⟨(some 42), none, .fld 0 (.t 41)⟩,
  ⟨(some 43), none, .load 1 false (.t 42)⟩,
  ⟨none, none, .store 7 (.t 4) (.t 37)⟩,
  ⟨(some 5), none, .mov (.t 43)⟩] (Q .normal) 9 (.q 0 (.q 1 (.q 2 (.q 3 (.q 4 (.q 5 (.q 6 (.st 7 [38, 42] (.q 8 (.done)))))))))) s := a_dd rfl (by kernel_rfl) gl Q s
def spec_PutExport_d2_os : List O := [⟨(some 57), none, .load 7 true (.t 6)⟩,
  ⟨(some 58), none, .fld 3 (.t 6)⟩,
  ⟨(some 59), none, .load 1 false (.t 58)⟩,
  ⟨none, none, .store 7 (.t 4) (.t 57)⟩,
  ⟨(some 5), none, .mov (.t 59)⟩]
def spec_PutExport_d2_af : List (List Nat) := [[], [], [1], [0, 0], [2, 3, 0, 1, 2, 3]]
theorem spec_PutExport_d2_q (gl : Gl) (Q : AE → St → Prop) (s : St) : aw Try.prog Θ Γ gl (.regD spec_PutExport_d2_os spec_PutExport_d2_af) Q s = awpT Try.prog Γ gl [⟨(some 57), none, .load 7 true (.t 6)⟩,
  ⟨(some 58), none, .fld 3 (.t 6)⟩,
  ⟨(some 59), none, .load 1 false (.t 58)⟩,
  ⟨none, none, .store 7 (.t 4) (.t 57)⟩,
  ⟨(some 5), none, .mov (.t 59)⟩] (Q .normal) 5 (.q 0 (.q 1 (.q 2 (.st 3 [58] (.q 4 (.done)))))) s := a_dd rfl (by kernel_rfl) gl Q s
def spec_PutExport_c : C := .seq (.reg [⟨(some 2), none, .box (.t 0)⟩,
  ⟨(some 4), none, .alloc [.int .i64 0, .bool false, .nils, .int .i64 0, .nils, .int .i64 0, .nils]⟩,
  ⟨(some 5), none, .mov (.c (.int .i64 0))⟩]) (.seq (.reg [⟨(some 8), none, .load 7 true (.t 2)⟩,
  ⟨(some 9), none, .call (.c (.fn Fn.spec_l10Copy [] [])) [.t 8]⟩,
  ⟨(some 6), none, .alloc [.int .i64 0, .bool false, .nils, .int .i64 0, .nils, .int .i64 0, .nils]⟩,
  ⟨none, none, .store 7 (.t 6) (.t 9)⟩]) (.seq (.seq (.reg [⟨(some 7), none, .mov (.c (.int .i64 0))⟩]) (.block 0 (.loop (.seq (.seq (.reg [⟨(some 10), none, .mov (.t 7)⟩,
  ⟨(some 11), none, .fld 2 (.t 2)⟩,
  ⟨(some 12), none, .load 1 false (.t 11)⟩,
  ⟨(some 13), none, .len false (.t 12)⟩,
  ⟨(some 14), none, .bin .lss (.num) (.t 10) (.t 13)⟩]) (.cond (.t 14) (.skip) (.exit 0))) (.seq (.block 1 (.seq (.reg [⟨(some 17), none, .fld 2 (.t 2)⟩,
  ⟨(some 18), none, .load 1 false (.t 17)⟩,
  ⟨(some 19), none, .mov (.t 7)⟩,
  ⟨(some 20), none, .idxs 3 (.t 18) (.t 19)⟩,
  ⟨(some 21), none, .fld 1 (.t 20)⟩,
  ⟨(some 22), none, .load 1 false (.t 21)⟩,
  ⟨(some 23), none, .mov (.t 1)⟩,
  ⟨(some 24), none, .bin .eql (.num) (.t 22) (.t 23)⟩]) (.cond (.t 24) (.seq (.regD spec_PutExport_d0_os spec_PutExport_d0_af) (.seq (.regD spec_PutExport_d1_os spec_PutExport_d1_af) (.ret))) (.skip)))) (.reg [⟨(some 15), none, .mov (.t 7)⟩,
  ⟨(some 16), none, .bin .add (.num) (.t 15) (.c (.int .i64 1))⟩,
  ⟨(some 7), none, .mov (.t 16)⟩])))))) (.seq (.reg [⟨(some 44), none, .fld 3 (.t 2)⟩,
  ⟨(some 45), none, .load 1 false (.t 44)⟩,
  ⟨(some 46), none, .bin .add (.num) (.t 45) (.c (.int .i64 1))⟩,
  ⟨(some 47), none, .fld 3 (.t 6)⟩,
  ⟨none, none, .store 1 (.t 47) (.t 46)⟩]) (.seq (.reg [⟨(some 48), none, .fld 2 (.t 6)⟩,
  ⟨(some 49), none, .load 1 false (.t 48)⟩,
  ⟨(some 50), none, .fld 3 (.t 6)⟩,
  ⟨(some 51), none, .load 1 false (.t 50)⟩,
  ⟨(some 52), none, .mov (.t 1)⟩,
  ⟨(some 53), none, .build [.int .i64 0, .int .i64 0, .int .i64 0] [(0, 1, .t 51), (1, 1, .t 52), (2, 1, .c (.int .i64 1))]⟩,
  ⟨(some 54), none, .bsl 3 1 [.int .i64 0, .int .i64 0, .int .i64 0] [(0, .t 53)]⟩,
  ⟨(some 55), none, .app 3 24 [.int .i64 0, .int .i64 0, .int .i64 0] false (.t 49) (.t 54)⟩,
  ⟨(some 56), none, .fld 2 (.t 6)⟩,
  ⟨none, none, .store 1 (.t 56) (.t 55)⟩]) (.seq (.regD spec_PutExport_d2_os spec_PutExport_d2_af) (.ret))))))
def spec_PutExport_r : List RS := [.cell 4 7 true, .t 5]
def spec_PutExport_s0 (t1 t2 t4 t6 t7 : AV) (loc : List (List AV)) (h : AH) : St := ⟨[.any, t1, t2, .any, t4, .any, t6, t7, .any, .any, .any, .any, .any, .any, .any, .any, .any, .any, .any, .any, .any, .any, .any, .any, .any, .any, .any, .any, .any, .any, .any, .any, .any, .any, .any, .any, .any, .any, .any, .any, .any, .any, .any, .any, .any, .any, .any, .any, .any, .any, .any, .any, .any, .any, .any, .any, .any, .any, .any, .any], loc, h⟩
theorem spec_PutExport_e {a0 a1 : AV} {h : AH} {K : AV → AH → Prop} (hw : TC Try.prog Θ Γ spec_PutExport_c (retQ spec_PutExport_r K) ⟨[a0, a1, u, u, u, u, u, u, u, u, u, u, u, u, u, u, u, u, u, u, u, u, u, u, u, u, u, u, u, u, u, u, u, u, u, u, u, u, u, u, u, u, u, u, u, u, u, u, u, u, u, u, u, u, u, u, u, u, u, u], [], h⟩) : T Try.prog Γ Fn.spec_PutExport [a0, a1] h K :=
  T_of_body tabOK Try.func78 (code := bodyOf Try.f78) (by kernel_rfl) (by kernel_rfl) (by kernel_rfl) (by kernel_rfl) hw
def spec_PutQuestion_d0_os : List O := [⟨(some 22), none, .load 7 true (.t 6)⟩,
  ⟨(some 23), none, .fld 5 (.t 6)⟩,
  ⟨(some 24), none, .load 1 false (.t 23)⟩,
  ⟨none, none, .store 7 (.t 4) (.t 22)⟩,
  ⟨(some 5), none, .mov (.t 24)⟩]
def spec_PutQuestion_d0_af : List (List Nat) := [[], [], [1], [0, 0], [2, 3, 0, 1, 2, 3]]
theorem spec_PutQuestion_d0_q (gl : Gl) (Q : AE → St → Prop) (s : St) : aw Try.prog Θ Γ gl (.regD spec_PutQuestion_d0_os spec_PutQuestion_d0_af) Q s = awpT Try.prog Γ gl [⟨(some 22), none, .load 7 true (.t 6)⟩,
  ⟨(some 23), none, .fld 5 (.t 6)⟩,
  ⟨(some 24), none, .load 1 false (.t 23)⟩,
  ⟨none, none, .store 7 (.t 4) (.t 22)⟩,
  ⟨(some 5), none, .mov (.t 24)⟩] (Q .normal) 5 (.q 0 (.q 1 (.q 2 (.st 3 [23] (.q 4 (.done)))))) s := a_dd rfl (by kernel_rfl) gl Q s
def spec_PutQuestion_c : C := .seq (.reg [⟨(some 2), none, .box (.t 0)⟩,
  ⟨(some 4), none, .alloc [.int .i64 0, .bool false, .nils, .int .i64 0, .nils, .int .i64 0, .nils]⟩,
  ⟨(some 5), none, .mov (.c (.int .i64 0))⟩]) (.seq (.reg [⟨(some 7), none, .load 7 true (.t 2)⟩,
  ⟨(some 8), none, .call (.c (.fn Fn.spec_l10Copy [] [])) [.t 7]⟩,
  ⟨(some 6), none, .alloc [.int .i64 0, .bool false, .nils, .int .i64 0, .nils, .int .i64 0, .nils]⟩,
  ⟨none, none, .store 7 (.t 6) (.t 8)⟩]) (.seq (.reg [⟨(some 9), none, .fld 5 (.t 2)⟩,
  ⟨(some 10), none, .load 1 false (.t 9)⟩,
  ⟨(some 11), none, .bin .add (.num) (.t 10) (.c (.int .i64 1))⟩,
  ⟨(some 12), none, .fld 5 (.t 6)⟩,
  ⟨none, none, .store 1 (.t 12) (.t 11)⟩]) (.seq (.reg [⟨(some 13), none, .fld 4 (.t 6)⟩,
  ⟨(some 14), none, .load 1 false (.t 13)⟩,
  ⟨(some 15), none, .fld 5 (.t 6)⟩,
  ⟨(some 16), none, .load 1 false (.t 15)⟩,
  ⟨(some 17), none, .mov (.t 1)⟩,
  ⟨(some 18), none, .build [.int .i64 0, .int .i64 0] [(0, 1, .t 16), (1, 1, .t 17)]⟩,
  ⟨(some 19), none, .bsl 2 1 [.int .i64 0, .int .i64 0] [(0, .t 18)]⟩,
  ⟨(some 20), none, .app 2 16 [.int .i64 0, .int .i64 0] false (.t 14) (.t 19)⟩,
  ⟨(some 21), none, .fld 4 (.t 6)⟩,
  ⟨none, none, .store 1 (.t 21) (.t 20)⟩]) (.seq (.regD spec_PutQuestion_d0_os spec_PutQuestion_d0_af) (.ret)))))
def spec_PutQuestion_r : List RS := [.cell 4 7 true, .t 5]
theorem spec_PutQuestion_e {a0 a1 : AV} {h : AH} {K : AV → AH → Prop} (hw : TC Try.prog Θ Γ spec_PutQuestion_c (retQ spec_PutQuestion_r K) ⟨[a0, a1, u, u, u, u, u, u, u, u, u, u, u, u, u, u, u, u, u, u, u, u, u, u, u], [], h⟩) : T Try.prog Γ Fn.spec_PutQuestion [a0, a1] h K :=
  T_of_body tabOK Try.func79 (code := bodyOf Try.f79) (by kernel_rfl) (by kernel_rfl) (by kernel_rfl) (by kernel_rfl) hw
def spec_l1Once_c : C := .seq (.reg [⟨(some 4), none, .mov (.c (.bool false))⟩]) (.seq (.reg [⟨(some 5), none, .mov (.t 0)⟩,
  ⟨(some 6), none, .mov (.t 1)⟩,
  ⟨(some 7), none, .call (.c (.fn Fn.spec_l1Below [] [])) [.t 5, .t 6]⟩,
  ⟨(some 8), none, .bin .eql (.num) (.t 7) (.c (.int .i64 0))⟩,
  ⟨(some 4), none, .mov (.t 8)⟩]) (.ret))
def spec_l1Once_r : List RS := [.t 4]
theorem spec_l1Once_e {a0 a1 : AV} {h : AH} {K : AV → AH → Prop} (hw : TC Try.prog Θ Γ spec_l1Once_c (retQ spec_l1Once_r K) ⟨[a0, a1, u, u, u, u, u, u, u], [], h⟩) : T Try.prog Γ Fn.spec_l1Once [a0, a1] h K :=
  T_of_body tabOK Try.func80 (code := bodyOf Try.f80) (by kernel_rfl) (by kernel_rfl) (by kernel_rfl) (by kernel_rfl) hw
def spec_ReleaseExport_d0_os : List O := [⟨(some 40), none, .bsl 3 0 [.int .i64 0, .int .i64 0, .int .i64 0] []⟩,
  ⟨(some 41), none, .fld 2 (.t 3)⟩,
  ⟨(some 42), none, .load 1 false (.t 41)⟩,
  ⟨(some 43), none, .mov (.t 8)⟩,
  ⟨(some 44), none, .slice (.sl 3) (.t 42) none (some (.t 43)) none⟩,
  ⟨(some 45), none, .app 3 24 [.int .i64 0, .int .i64 0, .int .i64 0] false (.t 40) (.t 44)⟩,
  ⟨(some 46), none, .fld 2 (.t 3)⟩,
  ⟨(some 47), none, .load 1 false (.t 46)⟩,
  ⟨(some 48), none, .mov (.t 8)⟩,
  ⟨(some 49), none, .bin .add (.num) (.t 48) (.c (.int .i64 1))⟩,
  ⟨(some 50), none, .slice (.sl 3) (.t 47) (some (.t 49)) none none⟩,
  ⟨(some 51), none, .app 3 24 [.int .i64 0, .int .i64 0, .int .i64 0] false (.t 45) (.t 50)⟩,
  ⟨(some 52), none, .fld 2 (.t 7)⟩,
  ⟨none, none, .store 1 (.t 52) (.t 51)⟩]
def spec_ReleaseExport_d0_af : List (List Nat) := [[], [], [1], [], [2, 3], [0, 4], [], [6], [], [8], [7, 9], [5, 10, 5], [0, 1, 2, 3, 4, 5, 6, 7, 8, 9, 10, 11], [12, 11, 11, 0, 1, 2, 3, 4, 5, 6, 7, 8, 9, 10, 11]]
theorem spec_ReleaseExport_d0_q (gl : Gl) (Q : AE → St → Prop) (s : St) : aw Try.prog Θ Γ gl (.regD spec_ReleaseExport_d0_os spec_ReleaseExport_d0_af) Q s = awpT Try.prog Γ gl [⟨(some 40), none, .bsl 3 0 [.int .i64 0, .int .i64 0, .int .i64 0] []⟩,
  ⟨(some 41), none, .fld 2 (.t 3)⟩,
  ⟨(some 42), none, .load 1 false (.t 41)⟩,
  ⟨(some 43), none, .mov (.t 8)⟩,
  ⟨(some 44), none, .slice (.sl 3) (.t 42) none (some (.t 43)) none⟩,
  ⟨(some 45), none, .app 3 24 [.int .i64 0, .int .i64 0, .int .i64 0] false (.t 40) (.t 44)⟩,
  ⟨(some 46), none, .fld 2 (.t 3)⟩,
  ⟨(some 47), none, .load 1 false (.t 46)⟩,
  ⟨(some 48), none, .mov (.t 8)⟩,
  ⟨(some 49), none, .bin .add (.num) (.t 48) (.c (.int .i64 1))⟩,
  ⟨(some 50), none, .slice (.sl 3) (.t 47) (some (.t 49)) none none⟩,
  ⟨(some 51), none, .app 3 24 [.int .i64 0, .int .i64 0, .int .i64 0] false (.t 45) (.t 50)⟩,
  ⟨(some 52), none, .fld 2 (.t 7)⟩,
  ⟨none, none, .store 1 (.t 52) (.t 51)⟩] (Q .normal) 14 (.q 1 (.q 2 (.q 3 (.q 4 (.q 6 (.q 7 (.q 8 (.q 9 (.q 10 (.all [(0, .st 5 [46] (.q 11 (.q 12 (.q 13 (.done)))))])))))))))) s := a_dd rfl (by kernel_rfl) gl Q s
def spec_ReleaseExport_c : C := .seq (.reg [⟨(some 3), none, .box (.t 0)⟩,
  ⟨(some 6), none, .alloc [.int .i64 0, .bool false, .nils, .int .i64 0, .nils, .int .i64 0, .nils]⟩]) (.seq (.reg [⟨(some 10), none, .load 7 true (.t 3)⟩,
  ⟨(some 11), none, .call (.c (.fn Fn.spec_l10Copy [] [])) [.t 10]⟩,
  ⟨(some 7), none, .alloc [.int .i64 0, .bool false, .nils, .int .i64 0, .nils, .int .i64 0, .nils]⟩,
  ⟨none, none, .store 7 (.t 7) (.t 11)⟩]) (.seq (.seq (.reg [⟨(some 12), none, .mov (.t 2)⟩,
  ⟨(some 13), none, .bin .lss (.num) (.t 12) (.c (.int .i64 1))⟩]) (.cond (.t 13) (.seq (.reg [⟨(some 14), none, .load 7 true (.t 7)⟩,
  ⟨none, none, .store 7 (.t 6) (.t 14)⟩]) (.ret)) (.skip))) (.seq (.seq (.reg [⟨(some 8), none, .mov (.c (.int .i64 0))⟩]) (.block 0 (.loop (.seq (.seq (.reg [⟨(some 15), none, .mov (.t 8)⟩,
  ⟨(some 16), none, .fld 2 (.t 3)⟩,
  ⟨(some 17), none, .load 1 false (.t 16)⟩,
  ⟨(some 18), none, .len false (.t 17)⟩,
  ⟨(some 19), none, .bin .lss (.num) (.t 15) (.t 18)⟩]) (.cond (.t 19) (.skip) (.exit 0))) (.seq (.block 1 (.seq (.seq (.reg [⟨(some 22), none, .fld 2 (.t 3)⟩,
  ⟨(some 23), none, .load 1 false (.t 22)⟩,
  ⟨(some 24), none, .mov (.t 8)⟩,
  ⟨(some 25), none, .idxs 3 (.t 23) (.t 24)⟩,
  ⟨(some 26), none, .fld 0 (.t 25)⟩,
  ⟨(some 27), none, .load 1 false (.t 26)⟩,
  ⟨(some 28), none, .mov (.t 1)⟩,
  ⟨(some 29), none, .bin .neq (.num) (.t 27) (.t 28)⟩]) (.cond (.t 29) (.exit 1) (.skip))) (.seq (.reg [⟨(some 30), none, .fld 2 (.t 3)⟩,
  ⟨(some 31), none, .load 1 false (.t 30)⟩,
  ⟨(some 32), none, .mov (.t 8)⟩,
  ⟨(some 33), none, .idxs 3 (.t 31) (.t 32)⟩,
  ⟨(some 34), none, .fld 2 (.t 33)⟩,
  ⟨(some 35), none, .load 1 false (.t 34)⟩,
  ⟨(some 36), none, .mov (.t 2)⟩,
  ⟨(some 37), none, .bin .sub (.num) (.t 35) (.t 36)⟩,
  ⟨(some 9), none, .mov (.t 37)⟩]) (.seq (.seq (.reg [⟨(some 38), none, .mov (.t 9)⟩,
  ⟨(some 39), none, .bin .lss (.num) (.t 38) (.c (.int .i64 1))⟩]) (.cond (.t 39) (.regD spec_ReleaseExport_d0_os spec_ReleaseExport_d0_af) (.reg [⟨(some 53), none, .fld 2 (.t 7)⟩,
  ⟨(some 54), none, .load 1 false (.t 53)⟩,
  ⟨(some 55), none, .mov (.t 8)⟩,
  ⟨(some 56), none, .mov (.t 9)⟩,
  ⟨(some 57), none, .idxs 3 (.t 54) (.t 55)⟩,
  ⟨(some 58), none, .fld 2 (.t 57)⟩,
  ⟨none, none, .store 1 (.t 58) (.t 56)⟩]))) (.seq (.reg [⟨(some 59), none, .load 7 true (.t 7)⟩,
  ⟨none, none, .store 7 (.t 6) (.t 59)⟩]) (.ret)))))) (.reg [⟨(some 20), none, .mov (.t 8)⟩,
  ⟨(some 21), none, .bin .add (.num) (.t 20) (.c (.int .i64 1))⟩,
  ⟨(some 8), none, .mov (.t 21)⟩])))))) (.seq (.reg [⟨(some 60), none, .load 7 true (.t 7)⟩,
  ⟨none, none, .store 7 (.t 6) (.t 60)⟩]) (.ret)))))
def spec_ReleaseExport_r : List RS := [.cell 6 7 true]
def spec_ReleaseExport_s0 (t1 t2 t3 t6 t7 t8 : AV) (loc : List (List AV)) (h : AH) : St := ⟨[.any, t1, t2, t3, .any, .any, t6, t7, t8, .any, .any, .any, .any, .any, .any, .any, .any, .any, .any, .any, .any, .any, .any, .any, .any, .any, .any, .any, .any, .any, .any, .any, .any, .any, .any, .any, .any, .any, .any, .any, .any, .any, .any, .any, .any, .any, .any, .any, .any, .any, .any, .any, .any, .any, .any, .any, .any, .any, .any, .any, .any], loc, h⟩
theorem spec_ReleaseExport_e {a0 a1 a2 : AV} {h : AH} {K : AV → AH → Prop} (hw : TC Try.prog Θ Γ spec_ReleaseExport_c (retQ spec_ReleaseExport_r K) ⟨[a0, a1, a2, u, u, u, u, u, u, u, u, u, u, u, u, u, u, u, u, u, u, u, u, u, u, u, u, u, u, u, u, u, u, u, u, u, u, u, u, u, u, u, u, u, u, u, u, u, u, u, u, u, u, u, u, u, u, u, u, u, u], [], h⟩) : T Try.prog Γ Fn.spec_ReleaseExport [a0, a1, a2] h K :=
  T_of_body tabOK Try.func81 (code := bodyOf Try.f81) (by kernel_rfl) (by kernel_rfl) (by kernel_rfl) (by kernel_rfl) hw
def spec_l1Byte_d0_os : List O := [⟨(some 13), none, .mov (.t 0)⟩,
  ⟨(some 14), none, .nilchk (.t 13)⟩,
  ⟨(some 15), none, .fld 2 (.t 14)⟩,
  ⟨(some 16), none, .load 1 false (.t 15)⟩,
  ⟨(some 17), none, .bin .shr (.num) (.t 16) (.c (.int .u64 33))⟩,
  ⟨(some 18), none, .mov (.t 0)⟩,
  ⟨(some 19), none, .nilchk (.t 18)⟩,
  ⟨(some 20), none, .fld 2 (.t 19)⟩,
  ⟨(some 21), none, .load 1 false (.t 20)⟩,
  ⟨(some 22), none, .bin .shr (.num) (.t 21) (.c (.int .u64 47))⟩,
  ⟨(some 23), none, .bin .xor (.num) (.t 17) (.t 22)⟩,
  ⟨(some 24), none, .bin .and (.num) (.t 23) (.c (.int .i64 255))⟩,
  ⟨(some 3), none, .mov (.t 24)⟩]
def spec_l1Byte_d0_af : List (List Nat) := [[], [0], [1], [2], [3], [], [5], [6], [7], [8], [4, 9], [10], [11, 0, 1, 2, 3, 4, 5, 6, 7, 8, 9, 10, 11]]
theorem spec_l1Byte_d0_q (gl : Gl) (Q : AE → St → Prop) (s : St) : aw Try.prog Θ Γ gl (.regD spec_l1Byte_d0_os spec_l1Byte_d0_af) Q s = awpOps Try.prog Γ gl [⟨(some 13), none, .mov (.t 0)⟩,
  ⟨(some 14), none, .nilchk (.t 13)⟩,
  ⟨(some 15), none, .fld 2 (.t 14)⟩,
  ⟨(some 16), none, .load 1 false (.t 15)⟩,
  ⟨(some 17), none, .bin .shr (.num) (.t 16) (.c (.int .u64 33))⟩,
  ⟨(some 18), none, .mov (.t 0)⟩,
  ⟨(some 19), none, .nilchk (.t 18)⟩,
  ⟨(some 20), none, .fld 2 (.t 19)⟩,
  ⟨(some 21), none, .load 1 false (.t 20)⟩,
  ⟨(some 22), none, .bin .shr (.num) (.t 21) (.c (.int .u64 47))⟩,
  ⟨(some 23), none, .bin .xor (.num) (.t 17) (.t 22)⟩,
  ⟨(some 24), none, .bin .and (.num) (.t 23) (.c (.int .i64 255))⟩,
  ⟨(some 3), none, .mov (.t 24)⟩] [⟨(some 13), none, .mov (.t 0)⟩,
  ⟨(some 14), none, .nilchk (.t 13)⟩,
  ⟨(some 15), none, .fld 2 (.t 14)⟩,
  ⟨(some 16), none, .load 1 false (.t 15)⟩,
  ⟨(some 17), none, .bin .shr (.num) (.t 16) (.c (.int .u64 33))⟩,
  ⟨(some 18), none, .mov (.t 0)⟩,
  ⟨(some 19), none, .nilchk (.t 18)⟩,
  ⟨(some 20), none, .fld 2 (.t 19)⟩,
  ⟨(some 21), none, .load 1 false (.t 20)⟩,
  ⟨(some 22), none, .bin .shr (.num) (.t 21) (.c (.int .u64 47))⟩,
  ⟨(some 23), none, .bin .xor (.num) (.t 17) (.t 22)⟩,
  ⟨(some 24), none, .bin .and (.num) (.t 23) (.c (.int .i64 255))⟩,
  ⟨(some 3), none, .mov (.t 24)⟩] (Q .normal) s := a_dq (by kernel_rfl) gl Q s
def spec_l1Byte_d1_os : List O := [⟨(some 25), none, .mov (.t 0)⟩,
  ⟨(some 26), none, .nilchk (.t 25)⟩,
  ⟨(some 27), none, .fld 1 (.t 26)⟩,
  ⟨(some 28), none, .load 1 false (.t 27)⟩,
  ⟨(some 29), none, .mov (.t 0)⟩,
  ⟨(some 30), none, .nilchk (.t 29)⟩,
  ⟨(some 31), none, .fld 0 (.t 30)⟩,
  ⟨(some 32), none, .load 1 false (.t 31)⟩,
  ⟨(some 33), none, .len false (.t 32)⟩,
  ⟨(some 34), none, .bin .lss (.num) (.t 28) (.t 33)⟩]
def spec_l1Byte_d1_af : List (List Nat) := [[], [0], [1], [2], [], [4], [5], [6], [7], [3, 8]]
theorem spec_l1Byte_d1_q (gl : Gl) (Q : AE → St → Prop) (s : St) : aw Try.prog Θ Γ gl (.regD spec_l1Byte_d1_os spec_l1Byte_d1_af) Q s = awpOps Try.prog Γ gl [⟨(some 25), none, .mov (.t 0)⟩,
  ⟨(some 26), none, .nilchk (.t 25)⟩,
  ⟨(some 27), none, .fld 1 (.t 26)⟩,
  ⟨(some 28), none, .load 1 false (.t 27)⟩,
  ⟨(some 29), none, .mov (.t 0)⟩,
  ⟨(some 30), none, .nilchk (.t 29)⟩,
  ⟨(some 31), none, .fld 0 (.t 30)⟩,
  ⟨(some 32), none, .load 1 false (.t 31)⟩,
  ⟨(some 33), none, .len false (.t 32)⟩,
  ⟨(some 34), none, .bin .lss (.num) (.t 28) (.t 33)⟩] [⟨(some 25), none, .mov (.t 0)⟩,
  ⟨(some 26), none, .nilchk (.t 25)⟩,
  ⟨(some 27), none, .fld 1 (.t 26)⟩,
  ⟨(some 28), none, .load 1 false (.t 27)⟩,
  ⟨(some 29), none, .mov (.t 0)⟩,
  ⟨(some 30), none, .nilchk (.t 29)⟩,
  ⟨(some 31), none, .fld 0 (.t 30)⟩,
  ⟨(some 32), none, .load 1 false (.t 31)⟩,
  ⟨(some 33), none, .len false (.t 32)⟩,
  ⟨(some 34), none, .bin .lss (.num) (.t 28) (.t 33)⟩] (Q .normal) s := a_dq (by kernel_rfl) gl Q s
def spec_l1Byte_d2_os : List O := [⟨(some 35), none, .mov (.t 3)⟩,
  ⟨(some 36), none, .mov (.t 0)⟩,
  ⟨(some 37), none, .nilchk (.t 36)⟩,
  ⟨(some 38), none, .fld 0 (.t 37)⟩,
  ⟨(some 39), none, .load 1 false (.t 38)⟩,
  ⟨(some 40), none, .mov (.t 0)⟩,
  ⟨(some 41), none, .nilchk (.t 40)⟩,
  ⟨(some 42), none, .fld 1 (.t 41)⟩,
  ⟨(some 43), none, .load 1 false (.t 42)⟩,
  ⟨(some 44), none, .idxs 1 (.t 39) (.t 43)⟩,
  ⟨(some 45), none, .load 1 false (.t 44)⟩,
  ⟨(some 46), none, .cvi .i64 (.t 45)⟩,
  ⟨(some 47), none, .bin .add (.num) (.t 35) (.t 46)⟩,
  ⟨(some 48), none, .bin .and (.num) (.t 47) (.c (.int .i64 255))⟩,
  ⟨(some 3), none, .mov (.t 48)⟩]
def spec_l1Byte_d2_af : List (List Nat) := [[], [], [1], [2], [3], [], [5], [6], [7], [4, 8], [9], [10], [0, 11], [12], [13, 0, 1, 2, 3, 4, 5, 6, 7, 8, 9, 10, 11, 12, 13]]
theorem spec_l1Byte_d2_q (gl : Gl) (Q : AE → St → Prop) (s : St) : aw Try.prog Θ Γ gl (.regD spec_l1Byte_d2_os spec_l1Byte_d2_af) Q s = awpOps Try.prog Γ gl [⟨(some 35), none, .mov (.t 3)⟩,
  ⟨(some 36), none, .mov (.t 0)⟩,
  ⟨(some 37), none, .nilchk (.t 36)⟩,
  ⟨(some 38), none, .fld 0 (.t 37)⟩,
  ⟨(some 39), none, .load 1 false (.t 38)⟩,
  ⟨(some 40), none, .mov (.t 0)⟩,
  ⟨(some 41), none, .nilchk (.t 40)⟩,
  ⟨(some 42), none, .fld 1 (.t 41)⟩,
  ⟨(some 43), none, .load 1 false (.t 42)⟩,
  ⟨(some 44), none, .idxs 1 (.t 39) (.t 43)⟩,
  ⟨(some 45), none, .load 1 false (.t 44)⟩,
  ⟨(some 46), none, .cvi .i64 (.t 45)⟩,
  ⟨(some 47), none, .bin .add (.num) (.t 35) (.t 46)⟩,
  ⟨(some 48), none, .bin .and (.num) (.t 47) (.c (.int .i64 255))⟩,
  ⟨(some 3), none, .mov (.t 48)⟩] [⟨(some 35), none, .mov (.t 3)⟩,
  ⟨(some 36), none, .mov (.t 0)⟩,
  ⟨(some 37), none, .nilchk (.t 36)⟩,
  ⟨(some 38), none, .fld 0 (.t 37)⟩,
  ⟨(some 39), none, .load 1 false (.t 38)⟩,
  ⟨(some 40), none, .mov (.t 0)⟩,
  ⟨(some 41), none, .nilchk (.t 40)⟩,
  ⟨(some 42), none, .fld 1 (.t 41)⟩,
  ⟨(some 43), none, .load 1 false (.t 42)⟩,
  ⟨(some 44), none, .idxs 1 (.t 39) (.t 43)⟩,
  ⟨(some 45), none, .load 1 false (.t 44)⟩,
  ⟨(some 46), none, .cvi .i64 (.t 45)⟩,
  ⟨(some 47), none, .bin .add (.num) (.t 35) (.t 46)⟩,
  ⟨(some 48), none, .bin .and (.num) (.t 47) (.c (.int .i64 255))⟩,
  ⟨(some 3), none, .mov (.t 48)⟩] (Q .normal) s := a_dq (by kernel_rfl) gl Q s
def spec_l1Byte_c : C := .seq (.reg [⟨(some 2), none, .mov (.c (.int .i64 0))⟩]) (.seq (.reg [⟨(some 4), none, .mov (.t 0)⟩,
  ⟨(some 5), none, .mov (.t 0)⟩,
  ⟨(some 6), none, .nilchk (.t 5)⟩,
  ⟨(some 7), none, .fld 2 (.t 6)⟩,
  ⟨(some 8), none, .load 1 false (.t 7)⟩,
  ⟨(some 9), none, .bin .mul (.num) (.t 8) (.c (.int .i64 6364136223846793005))⟩,
  ⟨(some 10), none, .bin .add (.num) (.t 9) (.c (.int .i64 1442695040888963407))⟩,
  ⟨(some 11), none, .nilchk (.t 4)⟩,
  ⟨(some 12), none, .fld 2 (.t 11)⟩,
  ⟨none, none, .store 1 (.t 12) (.t 10)⟩]) (.seq (.regD spec_l1Byte_d0_os spec_l1Byte_d0_af) (.seq (.seq (.regD spec_l1Byte_d1_os spec_l1Byte_d1_af) (.cond (.t 34) (.seq (.regD spec_l1Byte_d2_os spec_l1Byte_d2_af) (.reg [⟨(some 49), none, .mov (.t 0)⟩,
  ⟨(some 50), none, .mov (.t 0)⟩,
  ⟨(some 51), none, .nilchk (.t 50)⟩,
  ⟨(some 52), none, .fld 1 (.t 51)⟩,
  ⟨(some 53), none, .load 1 false (.t 52)⟩,
  ⟨(some 54), none, .bin .add (.num) (.t 53) (.c (.int .i64 1))⟩,
  ⟨(some 55), none, .nilchk (.t 49)⟩,
  ⟨(some 56), none, .fld 1 (.t 55)⟩,
  ⟨none, none, .store 1 (.t 56) (.t 54)⟩])) (.skip))) (.seq (.reg [⟨(some 57), none, .mov (.t 3)⟩,
  ⟨(some 2), none, .mov (.t 57)⟩]) (.ret)))))
def spec_l1Byte_r : List RS := [.t 2]
theorem spec_l1Byte_e {a0 : AV} {h : AH} {K : AV → AH → Prop} (hw : TC Try.prog Θ Γ spec_l1Byte_c (retQ spec_l1Byte_r K) ⟨[a0, u, u, u, u, u, u, u, u, u, u, u, u, u, u, u, u, u, u, u, u, u, u, u, u, u, u, u, u, u, u, u, u, u, u, u, u, u, u, u, u, u, u, u, u, u, u, u, u, u, u, u, u, u, u, u, u, u], [], h⟩) : T Try.prog Γ Fn.spec_l1Byte [a0] h K :=
  T_of_body tabOK Try.func82 (code := bodyOf Try.f82) (by kernel_rfl) (by kernel_rfl) (by kernel_rfl) (by kernel_rfl) hw
def spec_l10Copy_c : C := .seq (.reg [⟨(some 1), none, .box (.t 0)⟩,
  ⟨(some 2), none, .alloc [.int .i64 0, .bool false, .nils, .int .i64 0, .nils, .int .i64 0, .nils]⟩]) (.seq (.reg [⟨(some 4), none, .load 7 true (.t 1)⟩,
  ⟨(some 3), none, .alloc [.int .i64 0, .bool false, .nils, .int .i64 0, .nils, .int .i64 0, .nils]⟩,
  ⟨none, none, .store 7 (.t 3) (.t 4)⟩]) (.seq (.reg [⟨(some 5), none, .bsl 3 0 [.int .i64 0, .int .i64 0, .int .i64 0] []⟩,
  ⟨(some 6), none, .fld 2 (.t 1)⟩,
  ⟨(some 7), none, .load 1 false (.t 6)⟩,
  ⟨(some 8), none, .app 3 24 [.int .i64 0, .int .i64 0, .int .i64 0] false (.t 5) (.t 7)⟩,
  ⟨(some 9), none, .fld 2 (.t 3)⟩,
  ⟨none, none, .store 1 (.t 9) (.t 8)⟩]) (.seq (.reg [⟨(some 10), none, .bsl 2 0 [.int .i64 0, .int .i64 0] []⟩,
  ⟨(some 11), none, .fld 4 (.t 1)⟩,
  ⟨(some 12), none, .load 1 false (.t 11)⟩,
  ⟨(some 13), none, .app 2 16 [.int .i64 0, .int .i64 0] false (.t 10) (.t 12)⟩,
  ⟨(some 14), none, .fld 4 (.t 3)⟩,
  ⟨none, none, .store 1 (.t 14) (.t 13)⟩]) (.seq (.reg [⟨(some 15), none, .bsl 2 0 [.int .i64 0, .int .i64 0] []⟩,
  ⟨(some 16), none, .fld 6 (.t 1)⟩,
  ⟨(some 17), none, .load 1 false (.t 16)⟩,
  ⟨(some 18), none, .app 2 16 [.int .i64 0, .int .i64 0] false (.t 15) (.t 17)⟩,
  ⟨(some 19), none, .fld 6 (.t 3)⟩,
  ⟨none, none, .store 1 (.t 19) (.t 18)⟩]) (.seq (.reg [⟨(some 20), none, .load 7 true (.t 3)⟩,
  ⟨none, none, .store 7 (.t 2) (.t 20)⟩]) (.ret))))))
def spec_l10Copy_r : List RS := [.cell 2 7 true]
theorem spec_l10Copy_e {a0 : AV} {h : AH} {K : AV → AH → Prop} (hw : TC Try.prog Θ Γ spec_l10Copy_c (retQ spec_l10Copy_r K) ⟨[a0, u, u, u, u, u, u, u, u, u, u, u, u, u, u, u, u, u, u, u, u], [], h⟩) : T Try.prog Γ Fn.spec_l10Copy [a0] h K :=
  T_of_body tabOK Try.func111 (code := bodyOf Try.f111) (by kernel_rfl) (by kernel_rfl) (by kernel_rfl) (by kernel_rfl) hw
end Go.Proofs.Ytleddolmolkpfaa
