import Derived.Test.YtjmcfdhklogpkaaProg
import Derived.Test.YtjmcfdhklogpkaaAmLib
set_option linter.unusedVariables false
set_option linter.unusedSimpArgs false
namespace Go.Proofs.Ytjmcfdhklogpkaa
open Go.AM
namespace Fn
abbrev main_main : FuncId := 0
abbrev gosem_cut : FuncId := 1
abbrev gosem_cut_init : FuncId := 2
abbrev laws_FnExactRefsIn : FuncId := 3
abbrev laws_FnLinks : FuncId := 4
abbrev laws_FnExactEqualOutputs : FuncId := 5
abbrev laws_FnExactCellValue : FuncId := 6
abbrev laws_FnExactIsKeptLoop : FuncId := 7
abbrev laws_FnExactSameShape : FuncId := 8
abbrev laws_FnExactTargetAt : FuncId := 9
abbrev laws_FnExactIsVat : FuncId := 10
abbrev laws_FnExactNewLoop : FuncId := 11
abbrev laws_szSentS : FuncId := 12
abbrev spec_RefsIn : FuncId := 13
abbrev laws_toSentS : FuncId := 14
abbrev impl_RefsIn : FuncId := 15
abbrev laws_eqIntS : FuncId := 16
abbrev laws_eqSentS : FuncId := 17
abbrev laws_markSentS : FuncId := 18
abbrev laws_markIntS : FuncId := 19
abbrev laws_heldIntS : FuncId := 20
abbrev laws_big : FuncId := 21
abbrev spec_DrawPutExport : FuncId := 22
abbrev impl_PutExport : FuncId := 23
abbrev impl_FindExport : FuncId := 24
abbrev impl_PosOf : FuncId := 25
abbrev impl_ReleaseExport : FuncId := 26
abbrev impl_EqualLinks : FuncId := 27
abbrev spec_PosOf : FuncId := 28
abbrev impl_PutQuestion : FuncId := 29
abbrev impl_DropEntry : FuncId := 30
abbrev impl_FindEntry : FuncId := 31
abbrev laws_szOutgoingS : FuncId := 32
abbrev spec_EqualOutputs : FuncId := 33
abbrev laws_toOutgoingS : FuncId := 34
abbrev impl_EqualOutputs : FuncId := 35
abbrev laws_eqOutgoingS : FuncId := 36
abbrev laws_szVat : FuncId := 37
abbrev spec_CellValue : FuncId := 38
abbrev laws_toVat : FuncId := 39
abbrev impl_CellValue : FuncId := 40
abbrev laws_eqValue : FuncId := 41
abbrev laws_eqVat : FuncId := 42
abbrev spec_IsKeptLoop : FuncId := 43
abbrev impl_IsKeptLoop : FuncId := 44
abbrev spec_SameShape : FuncId := 45
abbrev impl_SameShape : FuncId := 46
abbrev laws_szMessage : FuncId := 47
abbrev spec_TargetAt : FuncId := 48
abbrev laws_toMessage : FuncId := 49
abbrev impl_TargetAt : FuncId := 50
abbrev laws_eqMessage : FuncId := 51
abbrev spec_IsVat : FuncId := 52
abbrev impl_IsVat : FuncId := 53
abbrev spec_NewLoop : FuncId := 54
abbrev impl_NewLoop : FuncId := 55
abbrev laws_markVat : FuncId := 56
abbrev laws_heldSentS : FuncId := 57
abbrev laws_szSent : FuncId := 58
abbrev spec_l19Ref : FuncId := 59
abbrev laws_toSent : FuncId := 60
abbrev impl_refsIn : FuncId := 61
abbrev laws_eqSent : FuncId := 62
abbrev laws_markText : FuncId := 63
abbrev laws_markValueS : FuncId := 64
abbrev spec_DrawFindExport : FuncId := 65
abbrev impl_Link_copied : FuncId := 66
abbrev impl_Link_put : FuncId := 67
abbrev impl_Link_at : FuncId := 68
abbrev impl_Link_of : FuncId := 69
abbrev impl_Link_release : FuncId := 70
abbrev slices_Equal_iimpl_Export_impl_Export : FuncId := 71
abbrev slices_Equal_iimpl_Question_impl_Question : FuncId := 72
abbrev impl_Link_ask : FuncId := 73
abbrev slices_DeleteFunc_iimpl_Question_impl_Question : FuncId := 74
abbrev slices_Clone_iimpl_Question_impl_Question : FuncId := 75
abbrev impl_DropEntry_1 : FuncId := 76
abbrev laws_szOutgoing : FuncId := 77
abbrev spec_EqualVats : FuncId := 78
abbrev laws_toOutgoing : FuncId := 79
abbrev slices_EqualFunc_iimpl_Outgoing_impl_Outgoing_impl_Outgoing_impl_Outgoing : FuncId := 80
abbrev impl_EqualOutputs_1 : FuncId := 81
abbrev impl_equalMessage : FuncId := 82
abbrev laws_eqOutgoing : FuncId := 83
abbrev laws_szEntityS : FuncId := 84
abbrev laws_szLinkS : FuncId := 85
abbrev spec_l1In : FuncId := 86
abbrev spec_BrokenValue : FuncId := 87
abbrev spec_SlotOf : FuncId := 88
abbrev laws_toEntityS : FuncId := 89
abbrev laws_toLinkS : FuncId := 90
abbrev impl_Vat_entity : FuncId := 91
abbrev impl_BrokenValue : FuncId := 92
abbrev impl_SlotOf : FuncId := 93
abbrev laws_eqEntityS : FuncId := 94
abbrev laws_eqLinkS : FuncId := 95
abbrev spec_RefValue : FuncId := 96
abbrev impl_Vat_keptLoop : FuncId := 97
abbrev spec_EqualLinks : FuncId := 98
abbrev slices_EqualFunc_iimpl_Entity_impl_Entity_impl_Entity_impl_Entity : FuncId := 99
abbrev impl_SameShape_1 : FuncId := 100
abbrev slices_EqualFunc_iimpl_Link_impl_Link_impl_Link_impl_Link : FuncId := 101
abbrev laws_szWireS : FuncId := 102
abbrev spec_LinkTo : FuncId := 103
abbrev spec_FindExport : FuncId := 104
abbrev spec_FindEntry : FuncId := 105
abbrev laws_toWireS : FuncId := 106
abbrev laws_toWire : FuncId := 107
abbrev laws_toTag : FuncId := 108
abbrev impl_LinkTo : FuncId := 109
abbrev impl_targetAt : FuncId := 110
abbrev laws_eqWireS : FuncId := 111
abbrev laws_eqWire : FuncId := 112
abbrev laws_eqTag : FuncId := 113
abbrev spec_l29Sents : FuncId := 114
abbrev spec_IsEntity : FuncId := 115
abbrev spec_l29Entries : FuncId := 116
abbrev impl_Vat_isVat : FuncId := 117
abbrev spec_l9CopySents : FuncId := 118
abbrev impl_copiedSents : FuncId := 119
abbrev laws_markEntityS : FuncId := 120
abbrev laws_markLinkS : FuncId := 121
abbrev laws_markOutgoingS : FuncId := 122
abbrev laws_heldValueS : FuncId := 123
abbrev laws_szValueS : FuncId := 124
abbrev laws_toValueS : FuncId := 125
abbrev laws_eqValueS : FuncId := 126
abbrev spec_l1New : FuncId := 127
abbrev spec_l10Link : FuncId := 128
abbrev spec_l1Below : FuncId := 129
abbrev slices_Clone_iimpl_Export_impl_Export : FuncId := 130
abbrev slices_IndexFunc_iimpl_Export_impl_Export : FuncId := 131
abbrev impl_Link_at_1 : FuncId := 132
abbrev impl_Link_of_1 : FuncId := 133
abbrev slices_Delete_iimpl_Export_impl_Export : FuncId := 134
abbrev slices_IndexFunc_iimpl_Question_impl_Question : FuncId := 135
abbrev spec_EqualSents : FuncId := 136
abbrev spec_EqualEntities : FuncId := 137
abbrev spec_EqualMessages : FuncId := 138
abbrev slices_Equal_iimpl_Wire_impl_Wire : FuncId := 139
abbrev laws_szEntity : FuncId := 140
abbrev laws_szLink : FuncId := 141
abbrev laws_toEntity : FuncId := 142
abbrev laws_toLink : FuncId := 143
abbrev impl_in : FuncId := 144
abbrev impl_IntValue : FuncId := 145
abbrev laws_eqEntity : FuncId := 146
abbrev laws_eqLink : FuncId := 147
abbrev impl_RefValue : FuncId := 148
abbrev impl_Vat_refers : FuncId := 149
abbrev spec_l10Same : FuncId := 150
abbrev slices_IndexFunc_iimpl_Link_impl_Link : FuncId := 151
abbrev impl_LinkTo_1 : FuncId := 152
abbrev spec_AreValues : FuncId := 153
abbrev spec_l9Promise : FuncId := 154
abbrev impl_Vat_sentsOk : FuncId := 155
abbrev impl_IsEntity : FuncId := 156
abbrev impl_Vat_linkOk : FuncId := 157
abbrev impl_Sent_copied : FuncId := 158
abbrev laws_markAskerS : FuncId := 159
abbrev laws_markExportS : FuncId := 160
abbrev laws_markQuestionS : FuncId := 161
abbrev laws_markWireS : FuncId := 162
abbrev laws_toValue : FuncId := 163
abbrev spec_NewLink : FuncId := 164
abbrev spec_PutExport : FuncId := 165
abbrev spec_PutQuestion : FuncId := 166
abbrev spec_l1Once : FuncId := 167
abbrev spec_ReleaseExport : FuncId := 168
abbrev spec_l1Byte : FuncId := 169
abbrev spec_EqualValues : FuncId := 170
abbrev laws_szAskerS : FuncId := 171
abbrev laws_szExportS : FuncId := 172
abbrev laws_szQuestionS : FuncId := 173
abbrev laws_toAskerS : FuncId := 174
abbrev laws_toExportS : FuncId := 175
abbrev laws_toQuestionS : FuncId := 176
abbrev impl_Mod : FuncId := 177
abbrev laws_eqAskerS : FuncId := 178
abbrev laws_eqExportS : FuncId := 179
abbrev laws_eqQuestionS : FuncId := 180
abbrev spec_IsValue : FuncId := 181
abbrev slices_ContainsFunc_iimpl_Sent_impl_Sent : FuncId := 182
abbrev impl_Vat_sentsOk_1 : FuncId := 183
abbrev impl_AreValues : FuncId := 184
abbrev impl_Entity_rest : FuncId := 185
abbrev impl_Entity_promiseOk : FuncId := 186
abbrev impl_named : FuncId := 187
abbrev slices_Concat_iimpl_Question_impl_Question : FuncId := 188
abbrev slices_Clone_iimpl_Value_impl_Value : FuncId := 189
abbrev spec_l10Copy : FuncId := 190
abbrev laws_toAsker : FuncId := 191
abbrev laws_toExport : FuncId := 192
abbrev laws_toQuestion : FuncId := 193
abbrev laws_eqAsker : FuncId := 194
abbrev laws_eqExport : FuncId := 195
abbrev laws_eqQuestion : FuncId := 196
abbrev slices_IndexFunc_iimpl_Sent_impl_Sent : FuncId := 197
abbrev slices_ContainsFunc_iimpl_Value_impl_Value : FuncId := 198
abbrev impl_AreValues_1 : FuncId := 199
abbrev impl_IsValue : FuncId := 200
abbrev slices_Grow_iimpl_Question_impl_Question : FuncId := 201
abbrev slices_IndexFunc_iimpl_Value_impl_Value : FuncId := 202
abbrev runtime_boundsError_Error : FuncId := 203
abbrev runtime_boundsError_RuntimeError : FuncId := 204
abbrev runtime_errorString_Error : FuncId := 205
abbrev runtime_errorString_RuntimeError : FuncId := 206
abbrev runtime_plainError_Error : FuncId := 207
abbrev runtime_plainError_RuntimeError : FuncId := 208
abbrev runtime_errorAddressString_Error : FuncId := 209
abbrev runtime_errorAddressString_RuntimeError : FuncId := 210
abbrev runtime_TypeAssertionError_Error : FuncId := 211
abbrev runtime_TypeAssertionError_RuntimeError : FuncId := 212
abbrev runtime_PanicNilError_Error : FuncId := 213
abbrev runtime_PanicNilError_RuntimeError : FuncId := 214
abbrev internal_abi_Type_Align : FuncId := 215
abbrev internal_runtime_maps_unhashableTypeError_Error : FuncId := 216
abbrev internal_runtime_maps_unhashableTypeError_RuntimeError : FuncId := 217
abbrev impl_Vat_copied : FuncId := 218
abbrev impl_Message_copied : FuncId := 219
abbrev impl_Entity_copied : FuncId := 220
abbrev impl_Entity_isSwept : FuncId := 221
abbrev impl_Vat_cut : FuncId := 222
abbrev internal_abi_Kind_String : FuncId := 223
end Fn
namespace Gn
end Gn
def tabL : List (Nat × TI) := [
  (3, ⟨.int .i64, 1, 8, [.int .i64 0], none⟩),
  (4, ⟨.bool, 1, 1, [.bool false], none⟩),
  (5, ⟨.int .u8, 1, 1, [.int .u8 0], none⟩),
  (9, ⟨.str, 1, 16, [.str ⟨#[]⟩], none⟩),
  (22, ⟨.slice 93, 1, 24, [.nils], none⟩),
  (24, ⟨.slice 3, 1, 24, [.nils], none⟩),
  (26, ⟨.slice 96, 1, 24, [.nils], none⟩),
  (33, ⟨.slice 5, 1, 24, [.nils], none⟩),
  (35, ⟨.slice 106, 1, 24, [.nils], none⟩),
  (36, ⟨.slice 111, 1, 24, [.nils], none⟩),
  (38, ⟨.strct [(0, 3), (1, 4), (2, 35), (3, 3), (4, 36), (5, 3), (6, 36)], 7, 104, [.int .i64 0, .bool false, .nils, .int .i64 0, .nils, .int .i64 0, .nils], none⟩),
  (47, ⟨.slice 117, 1, 24, [.nils], none⟩),
  (50, ⟨.slice 119, 1, 24, [.nils], none⟩),
  (53, ⟨.slice 174, 1, 24, [.nils], none⟩),
  (54, ⟨.slice 179, 1, 24, [.nils], none⟩),
  (56, ⟨.strct [(0, 3), (1, 53), (2, 22), (3, 54), (4, 47)], 5, 104, [.int .i64 0, .nils, .nils, .nils, .nils], none⟩),
  (59, ⟨.strct [(0, 3), (1, 3)], 2, 16, [.int .i64 0, .int .i64 0], (some [.int .i64, .int .i64])⟩),
  (61, ⟨.slice 128, 1, 24, [.nils], none⟩),
  (62, ⟨.slice 38, 1, 24, [.nils], none⟩),
  (64, ⟨.strct [(0, 3), (1, 61), (2, 26), (3, 62), (4, 50)], 5, 104, [.int .i64 0, .nils, .nils, .nils, .nils], none⟩),
  (72, ⟨.slice 73, 1, 24, [.nils], none⟩),
  (73, ⟨.strct [(0, 3), (1, 3)], 2, 16, [.int .i64 0, .int .i64 0], none⟩),
  (75, ⟨.strct [(0, 3), (1, 3), (2, 3)], 3, 24, [.int .i64 0, .int .i64 0, .int .i64 0], none⟩),
  (77, ⟨.strct [(0, 3), (1, 3), (2, 3), (3, 3), (4, 9), (5, 72), (6, 73), (8, 3), (9, 75)], 12, 120, [.int .i64 0, .int .i64 0, .int .i64 0, .int .i64 0, .str ⟨#[]⟩, .nils, .int .i64 0, .int .i64 0, .int .i64 0, .int .i64 0, .int .i64 0, .int .i64 0], none⟩),
  (80, ⟨.slice 81, 1, 24, [.nils], none⟩),
  (81, ⟨.strct [(0, 3), (1, 3)], 2, 16, [.int .i64 0, .int .i64 0], (some [.int .i64, .int .i64])⟩),
  (82, ⟨.strct [(0, 3), (1, 3), (2, 3)], 3, 24, [.int .i64 0, .int .i64 0, .int .i64 0], (some [.int .i64, .int .i64, .int .i64])⟩),
  (84, ⟨.strct [(0, 3), (1, 3), (2, 3), (3, 3), (4, 9), (5, 80), (6, 81), (8, 3), (9, 82)], 12, 120, [.int .i64 0, .int .i64 0, .int .i64 0, .int .i64 0, .str ⟨#[]⟩, .nils, .int .i64 0, .int .i64 0, .int .i64 0, .int .i64 0, .int .i64 0, .int .i64 0], none⟩),
  (91, ⟨.slice 171, 1, 24, [.nils], none⟩),
  (93, ⟨.strct [(0, 3), (1, 9), (2, 91), (3, 3), (4, 75)], 7, 80, [.int .i64 0, .str ⟨#[]⟩, .nils, .int .i64 0, .int .i64 0, .int .i64 0, .int .i64 0], none⟩),
  (94, ⟨.slice 59, 1, 24, [.nils], none⟩),
  (96, ⟨.strct [(0, 3), (1, 9), (2, 94), (3, 3), (4, 82)], 7, 80, [.int .i64 0, .str ⟨#[]⟩, .nils, .int .i64 0, .int .i64 0, .int .i64 0, .int .i64 0], none⟩),
  (106, ⟨.strct [(0, 3), (1, 3), (2, 3)], 3, 24, [.int .i64 0, .int .i64 0, .int .i64 0], (some [.int .i64, .int .i64, .int .i64])⟩),
  (111, ⟨.strct [(0, 3), (1, 3)], 2, 16, [.int .i64 0, .int .i64 0], (some [.int .i64, .int .i64])⟩),
  (117, ⟨.strct [(0, 3), (1, 77)], 13, 128, [.int .i64 0, .int .i64 0, .int .i64 0, .int .i64 0, .int .i64 0, .str ⟨#[]⟩, .nils, .int .i64 0, .int .i64 0, .int .i64 0, .int .i64 0, .int .i64 0, .int .i64 0], none⟩),
  (119, ⟨.strct [(0, 3), (1, 84)], 13, 128, [.int .i64 0, .int .i64 0, .int .i64 0, .int .i64 0, .int .i64 0, .str ⟨#[]⟩, .nils, .int .i64 0, .int .i64 0, .int .i64 0, .int .i64 0, .int .i64 0, .int .i64 0], none⟩),
  (126, ⟨.slice 200, 1, 24, [.nils], none⟩),
  (128, ⟨.strct [(0, 3), (1, 3), (2, 94), (3, 3), (4, 59), (6, 26), (7, 126), (8, 3), (9, 3), (10, 3), (11, 3)], 12, 144, [.int .i64 0, .int .i64 0, .nils, .int .i64 0, .int .i64 0, .int .i64 0, .nils, .nils, .int .i64 0, .int .i64 0, .int .i64 0, .int .i64 0], none⟩),
  (133, ⟨.ptr 128, 1, 8, [.nilp], none⟩),
  (171, ⟨.strct [(0, 3), (1, 3)], 2, 16, [.int .i64 0, .int .i64 0], none⟩),
  (172, ⟨.slice 219, 1, 24, [.nils], none⟩),
  (174, ⟨.strct [(0, 3), (1, 3), (2, 91), (3, 3), (4, 171), (6, 22), (7, 172), (8, 3), (9, 3), (10, 3), (11, 3)], 12, 144, [.int .i64 0, .int .i64 0, .nils, .int .i64 0, .int .i64 0, .int .i64 0, .nils, .nils, .int .i64 0, .int .i64 0, .int .i64 0, .int .i64 0], none⟩),
  (176, ⟨.slice 221, 1, 24, [.nils], none⟩),
  (177, ⟨.slice 223, 1, 24, [.nils], none⟩),
  (179, ⟨.strct [(0, 3), (1, 4), (2, 176), (3, 3), (4, 177), (5, 3), (6, 177)], 7, 104, [.int .i64 0, .bool false, .nils, .int .i64 0, .nils, .int .i64 0, .nils], none⟩),
  (182, ⟨.ptr 64, 1, 8, [.nilp], none⟩),
  (195, ⟨.strct [(0, 33), (1, 3), (2, 3)], 3, 40, [.nils, .int .i64 0, .int .i64 0], none⟩),
  (200, ⟨.strct [(0, 3), (1, 3)], 2, 16, [.int .i64 0, .int .i64 0], (some [.int .i64, .int .i64])⟩),
  (219, ⟨.strct [(0, 3), (1, 3)], 2, 16, [.int .i64 0, .int .i64 0], none⟩),
  (221, ⟨.strct [(0, 3), (1, 3), (2, 3)], 3, 24, [.int .i64 0, .int .i64 0, .int .i64 0], none⟩),
  (223, ⟨.strct [(0, 3), (1, 3)], 2, 16, [.int .i64 0, .int .i64 0], none⟩),
  (230, ⟨.slice 36, 1, 24, [.nils], none⟩)]
def Θ : Tab := tabOf tabL
theorem tabOK : TabOK Try.prog Θ := tabOK_of (by kernel_rfl) (by kernel_rfl)
theorem mixed : Try.prog.follows .mixedOrders = true := by kernel_rfl
variable {Γ : Glob}

def laws_FnExactNewLoop_d0_os : List O := [⟨(some 24), none, .load 5 true (.t 2)⟩,
  ⟨(some 25), none, .call (.c (.fn Fn.laws_toVat [] [])) [.t 24]⟩,
  ⟨(some 26), none, .load 5 true (.t 3)⟩,
  ⟨(some 27), none, .call (.c (.fn Fn.laws_toVat [] [])) [.t 26]⟩,
  ⟨(some 28), none, .call (.c (.fn Fn.spec_NewLoop [] [])) [.t 25, .t 27]⟩,
  ⟨(some 6), none, .mov (.t 28)⟩]
def laws_FnExactNewLoop_d0_af : List (List Nat) := [[], [0], [], [2, 1], [1, 3, 3], [4, 4, 0, 1, 2, 3, 4]]
theorem laws_FnExactNewLoop_d0_q (gl : Gl) (Q : AE → St → Prop) (s : St) : aw Try.prog Θ Γ gl (.regD laws_FnExactNewLoop_d0_os laws_FnExactNewLoop_d0_af) Q s = awpT Try.prog Γ gl [⟨(some 24), none, .load 5 true (.t 2)⟩,
  ⟨(some 25), none, .call (.c (.fn Fn.laws_toVat [] [])) [.t 24]⟩,
  ⟨(some 26), none, .load 5 true (.t 3)⟩,
  ⟨(some 27), none, .call (.c (.fn Fn.laws_toVat [] [])) [.t 26]⟩,
  ⟨(some 28), none, .call (.c (.fn Fn.spec_NewLoop [] [])) [.t 25, .t 27]⟩,
  ⟨(some 6), none, .mov (.t 28)⟩] (Q .normal) 6 (.q 0 (.q 2 (.all [(1, .all [(3, .all [(4, .q 5 (.done))])])]))) s := a_dd rfl (by kernel_rfl) gl Q s
def laws_FnExactNewLoop_d1_os : List O := [⟨(some 40), none, .load 5 true (.t 7)⟩,
  ⟨(some 41), none, .load 5 true (.t 2)⟩,
  ⟨(some 42), none, .call (.c (.fn Fn.laws_toVat [] [])) [.t 41]⟩,
  ⟨(some 43), none, .call (.c (.fn Fn.laws_eqVat [] [])) [.t 40, .t 42]⟩,
  ⟨(some 44), none, .un .not (.t 43)⟩]
def laws_FnExactNewLoop_d1_af : List (List Nat) := [[], [], [1], [0, 2, 2], [3]]
theorem laws_FnExactNewLoop_d1_q (gl : Gl) (Q : AE → St → Prop) (s : St) : aw Try.prog Θ Γ gl (.regD laws_FnExactNewLoop_d1_os laws_FnExactNewLoop_d1_af) Q s = awpT Try.prog Γ gl [⟨(some 40), none, .load 5 true (.t 7)⟩,
  ⟨(some 41), none, .load 5 true (.t 2)⟩,
  ⟨(some 42), none, .call (.c (.fn Fn.laws_toVat [] [])) [.t 41]⟩,
  ⟨(some 43), none, .call (.c (.fn Fn.laws_eqVat [] [])) [.t 40, .t 42]⟩,
  ⟨(some 44), none, .un .not (.t 43)⟩] (Q .normal) 5 (.q 0 (.q 1 (.all [(2, .all [(3, .q 4 (.done))])]))) s := a_dd rfl (by kernel_rfl) gl Q s
def laws_FnExactNewLoop_d2_os : List O := [⟨(some 45), none, .load 5 true (.t 8)⟩,
  ⟨(some 46), none, .load 5 true (.t 3)⟩,
  ⟨(some 47), none, .call (.c (.fn Fn.laws_toVat [] [])) [.t 46]⟩,
  ⟨(some 48), none, .call (.c (.fn Fn.laws_eqVat [] [])) [.t 45, .t 47]⟩,
  ⟨(some 49), none, .un .not (.t 48)⟩]
def laws_FnExactNewLoop_d2_af : List (List Nat) := [[], [], [1], [0, 2, 2], [3]]
theorem laws_FnExactNewLoop_d2_q (gl : Gl) (Q : AE → St → Prop) (s : St) : aw Try.prog Θ Γ gl (.regD laws_FnExactNewLoop_d2_os laws_FnExactNewLoop_d2_af) Q s = awpT Try.prog Γ gl [⟨(some 45), none, .load 5 true (.t 8)⟩,
  ⟨(some 46), none, .load 5 true (.t 3)⟩,
  ⟨(some 47), none, .call (.c (.fn Fn.laws_toVat [] [])) [.t 46]⟩,
  ⟨(some 48), none, .call (.c (.fn Fn.laws_eqVat [] [])) [.t 45, .t 47]⟩,
  ⟨(some 49), none, .un .not (.t 48)⟩] (Q .normal) 5 (.q 0 (.q 1 (.all [(2, .all [(3, .q 4 (.done))])]))) s := a_dd rfl (by kernel_rfl) gl Q s
def laws_FnExactNewLoop_d3_os : List O := [⟨(some 75), none, .load 5 true (.t 2)⟩,
  ⟨(some 76), none, .call (.c (.fn Fn.laws_toVat [] [])) [.t 75]⟩,
  ⟨(some 77), none, .load 5 true (.t 3)⟩,
  ⟨(some 78), none, .call (.c (.fn Fn.laws_toVat [] [])) [.t 77]⟩,
  ⟨(some 79), none, .call (.c (.fn Fn.impl_NewLoop [] [])) [.t 76, .t 78]⟩,
  ⟨(some 13), none, .mov (.t 79)⟩]
def laws_FnExactNewLoop_d3_af : List (List Nat) := [[], [0], [], [2, 1], [1, 3, 3], [4, 4, 0, 1, 2, 3, 4]]
theorem laws_FnExactNewLoop_d3_q (gl : Gl) (Q : AE → St → Prop) (s : St) : aw Try.prog Θ Γ gl (.regD laws_FnExactNewLoop_d3_os laws_FnExactNewLoop_d3_af) Q s = awpT Try.prog Γ gl [⟨(some 75), none, .load 5 true (.t 2)⟩,
  ⟨(some 76), none, .call (.c (.fn Fn.laws_toVat [] [])) [.t 75]⟩,
  ⟨(some 77), none, .load 5 true (.t 3)⟩,
  ⟨(some 78), none, .call (.c (.fn Fn.laws_toVat [] [])) [.t 77]⟩,
  ⟨(some 79), none, .call (.c (.fn Fn.impl_NewLoop [] [])) [.t 76, .t 78]⟩,
  ⟨(some 13), none, .mov (.t 79)⟩] (Q .normal) 6 (.q 0 (.q 2 (.all [(1, .all [(3, .all [(4, .q 5 (.done))])])]))) s := a_dd rfl (by kernel_rfl) gl Q s
def laws_FnExactNewLoop_c : C := .seq (.reg [⟨(some 2), none, .box (.t 0)⟩,
  ⟨(some 3), none, .box (.t 1)⟩,
  ⟨(some 4), none, .mov (.c (.bool false))⟩]) (.seq (.reg [⟨(some 5), none, .mov (.c (.int .i64 1048576))⟩]) (.seq (.reg [⟨(some 14), none, .load 5 true (.t 2)⟩,
  ⟨(some 15), none, .mov (.t 5)⟩,
  ⟨(some 16), none, .call (.c (.fn Fn.laws_szVat [] [])) [.t 14, .t 15]⟩,
  ⟨(some 5), none, .mov (.t 16)⟩]) (.seq (.seq (.reg [⟨(some 17), none, .mov (.t 5)⟩,
  ⟨(some 18), none, .bin .lss (.num) (.t 17) (.c (.int .i64 0))⟩]) (.cond (.t 18) (.seq (.reg [⟨(some 4), none, .mov (.c (.bool true))⟩]) (.ret)) (.skip))) (.seq (.reg [⟨(some 19), none, .load 5 true (.t 3)⟩,
  ⟨(some 20), none, .mov (.t 5)⟩,
  ⟨(some 21), none, .call (.c (.fn Fn.laws_szVat [] [])) [.t 19, .t 20]⟩,
  ⟨(some 5), none, .mov (.t 21)⟩]) (.seq (.seq (.reg [⟨(some 22), none, .mov (.t 5)⟩,
  ⟨(some 23), none, .bin .lss (.num) (.t 22) (.c (.int .i64 0))⟩]) (.cond (.t 23) (.seq (.reg [⟨(some 4), none, .mov (.c (.bool true))⟩]) (.ret)) (.skip))) (.seq (.regD laws_FnExactNewLoop_d0_os laws_FnExactNewLoop_d0_af) (.seq (.reg [⟨(some 29), none, .load 5 true (.t 2)⟩,
  ⟨(some 30), none, .call (.c (.fn Fn.laws_toVat [] [])) [.t 29]⟩,
  ⟨(some 7), none, .alloc [.int .i64 0, .nils, .nils, .nils, .nils]⟩,
  ⟨none, none, .store 5 (.t 7) (.t 30)⟩]) (.seq (.reg [⟨(some 31), none, .load 5 true (.t 3)⟩,
  ⟨(some 32), none, .call (.c (.fn Fn.laws_toVat [] [])) [.t 31]⟩,
  ⟨(some 8), none, .alloc [.int .i64 0, .nils, .nils, .nils, .nils]⟩,
  ⟨none, none, .store 5 (.t 8) (.t 32)⟩]) (.seq (.reg [⟨(some 33), none, .load 5 true (.t 7)⟩,
  ⟨(some 34), none, .load 5 true (.t 8)⟩,
  ⟨(some 35), none, .call (.c (.fn Fn.impl_NewLoop [] [])) [.t 33, .t 34]⟩,
  ⟨(some 9), none, .mov (.t 35)⟩]) (.seq (.seq (.reg [⟨(some 36), none, .mov (.t 9)⟩,
  ⟨(some 37), none, .mov (.t 6)⟩,
  ⟨(some 38), none, .call (.c (.fn Fn.laws_eqSentS [] [])) [.t 36, .t 37]⟩,
  ⟨(some 39), none, .un .not (.t 38)⟩]) (.cond (.t 39) (.seq (.reg [⟨(some 4), none, .mov (.c (.bool false))⟩]) (.ret)) (.skip))) (.seq (.seq (.regD laws_FnExactNewLoop_d1_os laws_FnExactNewLoop_d1_af) (.cond (.t 44) (.seq (.reg [⟨(some 4), none, .mov (.c (.bool false))⟩]) (.ret)) (.skip))) (.seq (.seq (.regD laws_FnExactNewLoop_d2_os laws_FnExactNewLoop_d2_af) (.cond (.t 49) (.seq (.reg [⟨(some 4), none, .mov (.c (.bool false))⟩]) (.ret)) (.skip))) (.seq (.reg [⟨(some 10), none, .mov (.c (.int .i64 1))⟩]) (.seq (.reg [⟨(some 50), none, .load 5 true (.t 7)⟩,
  ⟨(some 51), none, .mov (.t 10)⟩,
  ⟨(some 52), none, .call (.c (.fn Fn.laws_markVat [] [])) [.t 50, .t 51]⟩,
  ⟨(some 10), none, .mov (.t 52)⟩]) (.seq (.reg [⟨(some 53), none, .load 5 true (.t 8)⟩,
  ⟨(some 54), none, .mov (.t 10)⟩,
  ⟨(some 55), none, .call (.c (.fn Fn.laws_markVat [] [])) [.t 53, .t 54]⟩,
  ⟨(some 10), none, .mov (.t 55)⟩]) (.seq (.seq (.reg [⟨(some 56), none, .mov (.t 10)⟩,
  ⟨(some 57), none, .bin .lss (.num) (.t 56) (.c (.int .i64 0))⟩,
  ⟨(some 58), none, .mov (.t 57)⟩,
  ⟨(some 59), (some (2, false)), .mov (.t 9)⟩,
  ⟨(some 60), (some (2, false)), .mov (.t 6)⟩,
  ⟨(some 61), (some (2, false)), .call (.c (.fn Fn.laws_eqSentS [] [])) [.t 59, .t 60]⟩,
  ⟨(some 62), (some (2, false)), .un .not (.t 61)⟩,
  ⟨(some 63), none, .pick (.t 58) (.c (.bool true)) (.t 62)⟩]) (.cond (.t 63) (.seq (.reg [⟨(some 4), none, .mov (.c (.bool false))⟩]) (.ret)) (.skip))) (.seq (.reg [⟨(some 11), none, .mov (.c (.int .i64 1))⟩]) (.seq (.reg [⟨(some 64), none, .mov (.t 9)⟩,
  ⟨(some 65), none, .mov (.t 11)⟩,
  ⟨(some 66), none, .call (.c (.fn Fn.laws_markSentS [] [])) [.t 64, .t 65]⟩,
  ⟨(some 11), none, .mov (.t 66)⟩]) (.seq (.reg [⟨(some 12), none, .mov (.c (.int .i64 1))⟩]) (.seq (.reg [⟨(some 67), none, .mov (.t 9)⟩,
  ⟨(some 68), none, .mov (.t 12)⟩,
  ⟨(some 69), none, .call (.c (.fn Fn.laws_heldSentS [] [])) [.t 67, .t 68]⟩,
  ⟨(some 12), none, .mov (.t 69)⟩]) (.seq (.seq (.reg [⟨(some 70), none, .mov (.t 12)⟩,
  ⟨(some 71), none, .bin .lss (.num) (.t 70) (.c (.int .i64 0))⟩]) (.cond (.t 71) (.seq (.reg [⟨(some 4), none, .mov (.c (.bool false))⟩]) (.ret)) (.skip))) (.seq (.seq (.reg [⟨(some 72), none, .mov (.t 12)⟩,
  ⟨(some 73), none, .mov (.t 11)⟩,
  ⟨(some 74), none, .bin .neq (.num) (.t 72) (.t 73)⟩]) (.cond (.t 74) (.seq (.reg [⟨(some 4), none, .mov (.c (.bool false))⟩]) (.ret)) (.skip))) (.seq (.regD laws_FnExactNewLoop_d3_os laws_FnExactNewLoop_d3_af) (.seq (.seq (.reg [⟨(some 80), none, .mov (.t 13)⟩,
  ⟨(some 81), none, .mov (.t 6)⟩,
  ⟨(some 82), none, .call (.c (.fn Fn.laws_eqSentS [] [])) [.t 80, .t 81]⟩,
  ⟨(some 83), none, .un .not (.t 82)⟩]) (.cond (.t 83) (.seq (.reg [⟨(some 4), none, .mov (.c (.bool false))⟩]) (.ret)) (.skip))) (.seq (.reg [⟨(some 12), none, .mov (.c (.int .i64 1))⟩]) (.seq (.reg [⟨(some 84), none, .mov (.t 9)⟩,
  ⟨(some 85), none, .mov (.t 12)⟩,
  ⟨(some 86), none, .call (.c (.fn Fn.laws_heldSentS [] [])) [.t 84, .t 85]⟩,
  ⟨(some 12), none, .mov (.t 86)⟩]) (.seq (.seq (.reg [⟨(some 87), none, .mov (.t 12)⟩,
  ⟨(some 88), none, .bin .lss (.num) (.t 87) (.c (.int .i64 0))⟩]) (.cond (.t 88) (.seq (.reg [⟨(some 4), none, .mov (.c (.bool false))⟩]) (.ret)) (.skip))) (.seq (.seq (.reg [⟨(some 89), none, .mov (.t 12)⟩,
  ⟨(some 90), none, .mov (.t 11)⟩,
  ⟨(some 91), none, .bin .neq (.num) (.t 89) (.t 90)⟩]) (.cond (.t 91) (.seq (.reg [⟨(some 4), none, .mov (.c (.bool false))⟩]) (.ret)) (.skip))) (.seq (.reg [⟨(some 4), none, .mov (.c (.bool true))⟩]) (.ret))))))))))))))))))))))))))))))
def laws_FnExactNewLoop_r : List RS := [.t 4]
theorem laws_FnExactNewLoop_e {a0 a1 : AV} {h : AH} {K : AV → AH → Prop} (hw : TC Try.prog Θ Γ laws_FnExactNewLoop_c (retQ laws_FnExactNewLoop_r K) ⟨[a0, a1, u, u, u, u, u, u, u, u, u, u, u, u, u, u, u, u, u, u, u, u, u, u, u, u, u, u, u, u, u, u, u, u, u, u, u, u, u, u, u, u, u, u, u, u, u, u, u, u, u, u, u, u, u, u, u, u, u, u, u, u, u, u, u, u, u, u, u, u, u, u, u, u, u, u, u, u, u, u, u, u, u, u, u, u, u, u, u, u, u, u], [], h⟩) : T Try.prog Γ Fn.laws_FnExactNewLoop [a0, a1] h K :=
  T_of_body tabOK Try.func11 (code := bodyOf Try.f11) (by kernel_rfl) (by kernel_rfl) (by kernel_rfl) (by kernel_rfl) hw
def laws_szSentS_c : C := .seq (.reg [⟨(some 4), none, .mov (.c (.int .i64 0))⟩]) (.seq (.reg [⟨(some 6), none, .mov (.t 1)⟩,
  ⟨(some 7), none, .mov (.t 0)⟩,
  ⟨(some 8), none, .len false (.t 7)⟩,
  ⟨(some 9), none, .bin .sub (.num) (.t 6) (.t 8)⟩,
  ⟨(some 1), none, .mov (.t 9)⟩]) (.seq (.seq (.reg [⟨(some 10), none, .mov (.t 1)⟩,
  ⟨(some 11), none, .bin .lss (.num) (.t 10) (.c (.int .i64 0))⟩]) (.cond (.t 11) (.seq (.reg [⟨(some 4), none, .mov (.c (.int .i64 (-1)))⟩]) (.ret)) (.skip))) (.seq (.seq (.reg [⟨(some 5), none, .mov (.c (.int .i64 0))⟩]) (.block 0 (.loop (.seq (.seq (.reg [⟨(some 12), none, .mov (.t 5)⟩,
  ⟨(some 13), none, .mov (.t 0)⟩,
  ⟨(some 14), none, .len false (.t 13)⟩,
  ⟨(some 15), none, .bin .lss (.num) (.t 12) (.t 14)⟩]) (.cond (.t 15) (.skip) (.exit 0))) (.seq (.block 1 (.seq (.reg [⟨(some 18), none, .mov (.t 0)⟩,
  ⟨(some 19), none, .mov (.t 5)⟩,
  ⟨(some 20), none, .idxs 7 (.t 18) (.t 19)⟩,
  ⟨(some 21), none, .load 7 true (.t 20)⟩,
  ⟨(some 22), none, .mov (.t 1)⟩,
  ⟨(some 23), none, .call (.c (.fn Fn.laws_szSent [] [])) [.t 21, .t 22]⟩,
  ⟨(some 1), none, .mov (.t 23)⟩]) (.seq (.reg [⟨(some 24), none, .mov (.t 1)⟩,
  ⟨(some 25), none, .bin .lss (.num) (.t 24) (.c (.int .i64 0))⟩]) (.cond (.t 25) (.seq (.reg [⟨(some 4), none, .mov (.c (.int .i64 (-1)))⟩]) (.ret)) (.skip))))) (.reg [⟨(some 16), none, .mov (.t 5)⟩,
  ⟨(some 17), none, .bin .add (.num) (.t 16) (.c (.int .i64 1))⟩,
  ⟨(some 5), none, .mov (.t 17)⟩])))))) (.seq (.reg [⟨(some 26), none, .mov (.t 1)⟩,
  ⟨(some 4), none, .mov (.t 26)⟩]) (.ret)))))
def laws_szSentS_r : List RS := [.t 4]
def laws_szSentS_s0 (t0 t1 t5 : AV) (loc : List (List AV)) (h : AH) : St := ⟨[t0, t1, .any, .any, .any, t5, .any, .any, .any, .any, .any, .any, .any, .any, .any, .any, .any, .any, .any, .any, .any, .any, .any, .any, .any, .any, .any], loc, h⟩
theorem laws_szSentS_e {a0 a1 : AV} {h : AH} {K : AV → AH → Prop} (hw : TC Try.prog Θ Γ laws_szSentS_c (retQ laws_szSentS_r K) ⟨[a0, a1, u, u, u, u, u, u, u, u, u, u, u, u, u, u, u, u, u, u, u, u, u, u, u, u, u], [], h⟩) : T Try.prog Γ Fn.laws_szSentS [a0, a1] h K :=
  T_of_body tabOK Try.func12 (code := bodyOf Try.f12) (by kernel_rfl) (by kernel_rfl) (by kernel_rfl) (by kernel_rfl) hw
def laws_toSentS_c : C := .seq (.reg [⟨(some 2), none, .mov (.c (.nils))⟩]) (.seq (.reg [⟨(some 5), none, .mov (.t 0)⟩,
  ⟨(some 6), none, .len false (.t 5)⟩,
  ⟨(some 7), none, .mks 7 80 [.int .i64 0, .str ⟨#[]⟩, .nils, .int .i64 0, .int .i64 0, .int .i64 0, .int .i64 0] (.t 6) (.t 6)⟩,
  ⟨(some 3), none, .mov (.t 7)⟩]) (.seq (.seq (.reg [⟨(some 4), none, .mov (.c (.int .i64 0))⟩]) (.block 0 (.loop (.seq (.seq (.reg [⟨(some 8), none, .mov (.t 4)⟩,
  ⟨(some 9), none, .mov (.t 0)⟩,
  ⟨(some 10), none, .len false (.t 9)⟩,
  ⟨(some 11), none, .bin .lss (.num) (.t 8) (.t 10)⟩]) (.cond (.t 11) (.skip) (.exit 0))) (.seq (.block 1 (.reg [⟨(some 14), none, .mov (.t 3)⟩,
  ⟨(some 15), none, .mov (.t 4)⟩,
  ⟨(some 16), none, .mov (.t 0)⟩,
  ⟨(some 17), none, .mov (.t 4)⟩,
  ⟨(some 18), none, .idxs 7 (.t 16) (.t 17)⟩,
  ⟨(some 19), none, .load 7 true (.t 18)⟩,
  ⟨(some 20), none, .call (.c (.fn Fn.laws_toSent [] [])) [.t 19]⟩,
  ⟨(some 21), none, .idxs 7 (.t 14) (.t 15)⟩,
  ⟨none, none, .store 7 (.t 21) (.t 20)⟩])) (.reg [⟨(some 12), none, .mov (.t 4)⟩,
  ⟨(some 13), none, .bin .add (.num) (.t 12) (.c (.int .i64 1))⟩,
  ⟨(some 4), none, .mov (.t 13)⟩])))))) (.seq (.reg [⟨(some 22), none, .mov (.t 3)⟩,
  ⟨(some 2), none, .mov (.t 22)⟩]) (.ret))))
def laws_toSentS_r : List RS := [.t 2]
def laws_toSentS_s0 (t0 t3 t4 : AV) (loc : List (List AV)) (h : AH) : St := ⟨[t0, .any, .any, t3, t4, .any, .any, .any, .any, .any, .any, .any, .any, .any, .any, .any, .any, .any, .any, .any, .any, .any, .any], loc, h⟩
theorem laws_toSentS_e {a0 : AV} {h : AH} {K : AV → AH → Prop} (hw : TC Try.prog Θ Γ laws_toSentS_c (retQ laws_toSentS_r K) ⟨[a0, u, u, u, u, u, u, u, u, u, u, u, u, u, u, u, u, u, u, u, u, u, u], [], h⟩) : T Try.prog Γ Fn.laws_toSentS [a0] h K :=
  T_of_body tabOK Try.func14 (code := bodyOf Try.f14) (by kernel_rfl) (by kernel_rfl) (by kernel_rfl) (by kernel_rfl) hw
def laws_eqIntS_d0_os : List O := [⟨(some 17), none, .mov (.t 0)⟩,
  ⟨(some 18), none, .mov (.t 5)⟩,
  ⟨(some 19), none, .idxs 1 (.t 17) (.t 18)⟩,
  ⟨(some 20), none, .load 1 false (.t 19)⟩,
  ⟨(some 21), none, .mov (.t 1)⟩,
  ⟨(some 22), none, .mov (.t 5)⟩,
  ⟨(some 23), none, .idxs 1 (.t 21) (.t 22)⟩,
  ⟨(some 24), none, .load 1 false (.t 23)⟩,
  ⟨(some 25), none, .bin .neq (.num) (.t 20) (.t 24)⟩]
def laws_eqIntS_d0_af : List (List Nat) := [[], [], [0, 1], [2], [], [], [4, 5], [6], [3, 7]]
theorem laws_eqIntS_d0_q (gl : Gl) (Q : AE → St → Prop) (s : St) : aw Try.prog Θ Γ gl (.regD laws_eqIntS_d0_os laws_eqIntS_d0_af) Q s = awpOps Try.prog Γ gl [⟨(some 17), none, .mov (.t 0)⟩,
  ⟨(some 18), none, .mov (.t 5)⟩,
  ⟨(some 19), none, .idxs 1 (.t 17) (.t 18)⟩,
  ⟨(some 20), none, .load 1 false (.t 19)⟩,
  ⟨(some 21), none, .mov (.t 1)⟩,
  ⟨(some 22), none, .mov (.t 5)⟩,
  ⟨(some 23), none, .idxs 1 (.t 21) (.t 22)⟩,
  ⟨(some 24), none, .load 1 false (.t 23)⟩,
  ⟨(some 25), none, .bin .neq (.num) (.t 20) (.t 24)⟩] [⟨(some 17), none, .mov (.t 0)⟩,
  ⟨(some 18), none, .mov (.t 5)⟩,
  ⟨(some 19), none, .idxs 1 (.t 17) (.t 18)⟩,
  ⟨(some 20), none, .load 1 false (.t 19)⟩,
  ⟨(some 21), none, .mov (.t 1)⟩,
  ⟨(some 22), none, .mov (.t 5)⟩,
  ⟨(some 23), none, .idxs 1 (.t 21) (.t 22)⟩,
  ⟨(some 24), none, .load 1 false (.t 23)⟩,
  ⟨(some 25), none, .bin .neq (.num) (.t 20) (.t 24)⟩] (Q .normal) s := a_dq (by kernel_rfl) gl Q s
def laws_eqIntS_c : C := .seq (.reg [⟨(some 4), none, .mov (.c (.bool false))⟩]) (.seq (.seq (.reg [⟨(some 6), none, .mov (.t 0)⟩,
  ⟨(some 7), none, .len false (.t 6)⟩,
  ⟨(some 8), none, .mov (.t 1)⟩,
  ⟨(some 9), none, .len false (.t 8)⟩,
  ⟨(some 10), none, .bin .neq (.num) (.t 7) (.t 9)⟩]) (.cond (.t 10) (.seq (.reg [⟨(some 4), none, .mov (.c (.bool false))⟩]) (.ret)) (.skip))) (.seq (.seq (.reg [⟨(some 5), none, .mov (.c (.int .i64 0))⟩]) (.block 0 (.loop (.seq (.seq (.reg [⟨(some 11), none, .mov (.t 5)⟩,
  ⟨(some 12), none, .mov (.t 0)⟩,
  ⟨(some 13), none, .len false (.t 12)⟩,
  ⟨(some 14), none, .bin .lss (.num) (.t 11) (.t 13)⟩]) (.cond (.t 14) (.skip) (.exit 0))) (.seq (.block 1 (.seq (.regD laws_eqIntS_d0_os laws_eqIntS_d0_af) (.cond (.t 25) (.seq (.reg [⟨(some 4), none, .mov (.c (.bool false))⟩]) (.ret)) (.skip)))) (.reg [⟨(some 15), none, .mov (.t 5)⟩,
  ⟨(some 16), none, .bin .add (.num) (.t 15) (.c (.int .i64 1))⟩,
  ⟨(some 5), none, .mov (.t 16)⟩])))))) (.seq (.reg [⟨(some 4), none, .mov (.c (.bool true))⟩]) (.ret))))
def laws_eqIntS_r : List RS := [.t 4]
def laws_eqIntS_s0 (t0 t1 t5 : AV) (loc : List (List AV)) (h : AH) : St := ⟨[t0, t1, .any, .any, .any, t5, .any, .any, .any, .any, .any, .any, .any, .any, .any, .any, .any, .any, .any, .any, .any, .any, .any, .any, .any, .any], loc, h⟩
theorem laws_eqIntS_e {a0 a1 : AV} {h : AH} {K : AV → AH → Prop} (hw : TC Try.prog Θ Γ laws_eqIntS_c (retQ laws_eqIntS_r K) ⟨[a0, a1, u, u, u, u, u, u, u, u, u, u, u, u, u, u, u, u, u, u, u, u, u, u, u, u], [], h⟩) : T Try.prog Γ Fn.laws_eqIntS [a0, a1] h K :=
  T_of_body tabOK Try.func16 (code := bodyOf Try.f16) (by kernel_rfl) (by kernel_rfl) (by kernel_rfl) (by kernel_rfl) hw
def laws_eqSentS_d0_os : List O := [⟨(some 17), none, .mov (.t 0)⟩,
  ⟨(some 18), none, .mov (.t 5)⟩,
  ⟨(some 19), none, .idxs 7 (.t 17) (.t 18)⟩,
  ⟨(some 20), none, .load 7 true (.t 19)⟩,
  ⟨(some 21), none, .mov (.t 1)⟩,
  ⟨(some 22), none, .mov (.t 5)⟩,
  ⟨(some 23), none, .idxs 7 (.t 21) (.t 22)⟩,
  ⟨(some 24), none, .load 7 true (.t 23)⟩,
  ⟨(some 25), none, .call (.c (.fn Fn.laws_eqSent [] [])) [.t 20, .t 24]⟩,
  ⟨(some 26), none, .un .not (.t 25)⟩]
def laws_eqSentS_d0_af : List (List Nat) := [[], [], [0, 1], [2], [], [], [4, 5], [6], [3, 7], [8]]
theorem laws_eqSentS_d0_q (gl : Gl) (Q : AE → St → Prop) (s : St) : aw Try.prog Θ Γ gl (.regD laws_eqSentS_d0_os laws_eqSentS_d0_af) Q s = awpT Try.prog Γ gl [⟨(some 17), none, .mov (.t 0)⟩,
  ⟨(some 18), none, .mov (.t 5)⟩,
  ⟨(some 19), none, .idxs 7 (.t 17) (.t 18)⟩,
  ⟨(some 20), none, .load 7 true (.t 19)⟩,
  ⟨(some 21), none, .mov (.t 1)⟩,
  ⟨(some 22), none, .mov (.t 5)⟩,
  ⟨(some 23), none, .idxs 7 (.t 21) (.t 22)⟩,
  ⟨(some 24), none, .load 7 true (.t 23)⟩,
  ⟨(some 25), none, .call (.c (.fn Fn.laws_eqSent [] [])) [.t 20, .t 24]⟩,
  ⟨(some 26), none, .un .not (.t 25)⟩] (Q .normal) 10 (.q 0 (.q 1 (.q 2 (.q 3 (.q 4 (.q 5 (.q 6 (.q 7 (.all [(8, .q 9 (.done))]))))))))) s := a_dd rfl (by kernel_rfl) gl Q s
def laws_eqSentS_c : C := .seq (.reg [⟨(some 4), none, .mov (.c (.bool false))⟩]) (.seq (.seq (.reg [⟨(some 6), none, .mov (.t 0)⟩,
  ⟨(some 7), none, .len false (.t 6)⟩,
  ⟨(some 8), none, .mov (.t 1)⟩,
  ⟨(some 9), none, .len false (.t 8)⟩,
  ⟨(some 10), none, .bin .neq (.num) (.t 7) (.t 9)⟩]) (.cond (.t 10) (.seq (.reg [⟨(some 4), none, .mov (.c (.bool false))⟩]) (.ret)) (.skip))) (.seq (.seq (.reg [⟨(some 5), none, .mov (.c (.int .i64 0))⟩]) (.block 0 (.loop (.seq (.seq (.reg [⟨(some 11), none, .mov (.t 5)⟩,
  ⟨(some 12), none, .mov (.t 0)⟩,
  ⟨(some 13), none, .len false (.t 12)⟩,
  ⟨(some 14), none, .bin .lss (.num) (.t 11) (.t 13)⟩]) (.cond (.t 14) (.skip) (.exit 0))) (.seq (.block 1 (.seq (.regD laws_eqSentS_d0_os laws_eqSentS_d0_af) (.cond (.t 26) (.seq (.reg [⟨(some 4), none, .mov (.c (.bool false))⟩]) (.ret)) (.skip)))) (.reg [⟨(some 15), none, .mov (.t 5)⟩,
  ⟨(some 16), none, .bin .add (.num) (.t 15) (.c (.int .i64 1))⟩,
  ⟨(some 5), none, .mov (.t 16)⟩])))))) (.seq (.reg [⟨(some 4), none, .mov (.c (.bool true))⟩]) (.ret))))
def laws_eqSentS_r : List RS := [.t 4]
def laws_eqSentS_s0 (t0 t1 t5 : AV) (loc : List (List AV)) (h : AH) : St := ⟨[t0, t1, .any, .any, .any, t5, .any, .any, .any, .any, .any, .any, .any, .any, .any, .any, .any, .any, .any, .any, .any, .any, .any, .any, .any, .any, .any], loc, h⟩
theorem laws_eqSentS_e {a0 a1 : AV} {h : AH} {K : AV → AH → Prop} (hw : TC Try.prog Θ Γ laws_eqSentS_c (retQ laws_eqSentS_r K) ⟨[a0, a1, u, u, u, u, u, u, u, u, u, u, u, u, u, u, u, u, u, u, u, u, u, u, u, u, u], [], h⟩) : T Try.prog Γ Fn.laws_eqSentS [a0, a1] h K :=
  T_of_body tabOK Try.func17 (code := bodyOf Try.f17) (by kernel_rfl) (by kernel_rfl) (by kernel_rfl) (by kernel_rfl) hw
def laws_markSentS_c : C := .seq (.reg [⟨(some 4), none, .mov (.c (.int .i64 0))⟩]) (.seq (.seq (.reg [⟨(some 5), none, .mov (.c (.int .i64 0))⟩]) (.block 0 (.loop (.seq (.seq (.reg [⟨(some 6), none, .mov (.t 5)⟩,
  ⟨(some 7), none, .mov (.t 0)⟩,
  ⟨(some 8), none, .len false (.t 7)⟩,
  ⟨(some 9), none, .bin .lss (.num) (.t 6) (.t 8)⟩]) (.cond (.t 9) (.skip) (.exit 0))) (.seq (.block 1 (.seq (.reg [⟨(some 12), none, .mov (.t 0)⟩,
  ⟨(some 13), none, .mov (.t 5)⟩,
  ⟨(some 14), none, .mov (.t 1)⟩,
  ⟨(some 15), none, .idxs 7 (.t 12) (.t 13)⟩,
  ⟨(some 16), none, .fld 0 (.t 15)⟩,
  ⟨none, none, .store 1 (.t 16) (.t 14)⟩]) (.seq (.reg [⟨(some 17), none, .mov (.t 1)⟩,
  ⟨(some 18), none, .bin .add (.num) (.t 17) (.c (.int .i64 1))⟩,
  ⟨(some 1), none, .mov (.t 18)⟩]) (.seq (.reg [⟨(some 19), none, .mov (.t 0)⟩,
  ⟨(some 20), none, .mov (.t 5)⟩,
  ⟨(some 21), none, .mov (.t 1)⟩,
  ⟨(some 22), none, .call (.c (.fn Fn.laws_markText [] [])) [.t 21]⟩,
  ⟨(some 23), none, .idxs 7 (.t 19) (.t 20)⟩,
  ⟨(some 24), none, .fld 1 (.t 23)⟩,
  ⟨none, none, .store 1 (.t 24) (.t 22)⟩]) (.seq (.reg [⟨(some 25), none, .mov (.t 1)⟩,
  ⟨(some 26), none, .bin .add (.num) (.t 25) (.c (.int .i64 1))⟩,
  ⟨(some 1), none, .mov (.t 26)⟩]) (.seq (.reg [⟨(some 27), none, .mov (.t 0)⟩,
  ⟨(some 28), none, .mov (.t 5)⟩,
  ⟨(some 29), none, .idxs 7 (.t 27) (.t 28)⟩,
  ⟨(some 30), none, .fld 2 (.t 29)⟩,
  ⟨(some 31), none, .load 1 false (.t 30)⟩,
  ⟨(some 32), none, .mov (.t 1)⟩,
  ⟨(some 33), none, .call (.c (.fn Fn.laws_markValueS [] [])) [.t 31, .t 32]⟩,
  ⟨(some 1), none, .mov (.t 33)⟩]) (.seq (.reg [⟨(some 34), none, .mov (.t 0)⟩,
  ⟨(some 35), none, .mov (.t 5)⟩,
  ⟨(some 36), none, .mov (.t 1)⟩,
  ⟨(some 37), none, .idxs 7 (.t 34) (.t 35)⟩,
  ⟨(some 38), none, .fld 3 (.t 37)⟩,
  ⟨none, none, .store 1 (.t 38) (.t 36)⟩]) (.seq (.reg [⟨(some 39), none, .mov (.t 1)⟩,
  ⟨(some 40), none, .bin .add (.num) (.t 39) (.c (.int .i64 1))⟩,
  ⟨(some 1), none, .mov (.t 40)⟩]) (.seq (.reg [⟨(some 41), none, .mov (.t 0)⟩,
  ⟨(some 42), none, .mov (.t 5)⟩,
  ⟨(some 43), none, .mov (.t 1)⟩,
  ⟨(some 44), none, .idxs 7 (.t 41) (.t 42)⟩,
  ⟨(some 45), none, .fld 4 (.t 44)⟩,
  ⟨(some 46), none, .fld 0 (.t 45)⟩,
  ⟨none, none, .store 1 (.t 46) (.t 43)⟩]) (.seq (.reg [⟨(some 47), none, .mov (.t 1)⟩,
  ⟨(some 48), none, .bin .add (.num) (.t 47) (.c (.int .i64 1))⟩,
  ⟨(some 1), none, .mov (.t 48)⟩]) (.seq (.reg [⟨(some 49), none, .mov (.t 0)⟩,
  ⟨(some 50), none, .mov (.t 5)⟩,
  ⟨(some 51), none, .mov (.t 1)⟩,
  ⟨(some 52), none, .idxs 7 (.t 49) (.t 50)⟩,
  ⟨(some 53), none, .fld 4 (.t 52)⟩,
  ⟨(some 54), none, .fld 1 (.t 53)⟩,
  ⟨none, none, .store 1 (.t 54) (.t 51)⟩]) (.seq (.reg [⟨(some 55), none, .mov (.t 1)⟩,
  ⟨(some 56), none, .bin .add (.num) (.t 55) (.c (.int .i64 1))⟩,
  ⟨(some 1), none, .mov (.t 56)⟩]) (.seq (.reg [⟨(some 57), none, .mov (.t 0)⟩,
  ⟨(some 58), none, .mov (.t 5)⟩,
  ⟨(some 59), none, .mov (.t 1)⟩,
  ⟨(some 60), none, .idxs 7 (.t 57) (.t 58)⟩,
  ⟨(some 61), none, .fld 4 (.t 60)⟩,
  ⟨(some 62), none, .fld 2 (.t 61)⟩,
  ⟨none, none, .store 1 (.t 62) (.t 59)⟩]) (.reg [⟨(some 63), none, .mov (.t 1)⟩,
  ⟨(some 64), none, .bin .add (.num) (.t 63) (.c (.int .i64 1))⟩,
  ⟨(some 1), none, .mov (.t 64)⟩])))))))))))))) (.reg [⟨(some 10), none, .mov (.t 5)⟩,
  ⟨(some 11), none, .bin .add (.num) (.t 10) (.c (.int .i64 1))⟩,
  ⟨(some 5), none, .mov (.t 11)⟩])))))) (.seq (.reg [⟨(some 65), none, .mov (.t 1)⟩,
  ⟨(some 4), none, .mov (.t 65)⟩]) (.ret)))
def laws_markSentS_r : List RS := [.t 4]
def laws_markSentS_s0 (t0 t1 t5 : AV) (loc : List (List AV)) (h : AH) : St := ⟨[t0, t1, .any, .any, .any, t5, .any, .any, .any, .any, .any, .any, .any, .any, .any, .any, .any, .any, .any, .any, .any, .any, .any, .any, .any, .any, .any, .any, .any, .any, .any, .any, .any, .any, .any, .any, .any, .any, .any, .any, .any, .any, .any, .any, .any, .any, .any, .any, .any, .any, .any, .any, .any, .any, .any, .any, .any, .any, .any, .any, .any, .any, .any, .any, .any, .any], loc, h⟩
theorem laws_markSentS_e {a0 a1 : AV} {h : AH} {K : AV → AH → Prop} (hw : TC Try.prog Θ Γ laws_markSentS_c (retQ laws_markSentS_r K) ⟨[a0, a1, u, u, u, u, u, u, u, u, u, u, u, u, u, u, u, u, u, u, u, u, u, u, u, u, u, u, u, u, u, u, u, u, u, u, u, u, u, u, u, u, u, u, u, u, u, u, u, u, u, u, u, u, u, u, u, u, u, u, u, u, u, u, u, u], [], h⟩) : T Try.prog Γ Fn.laws_markSentS [a0, a1] h K :=
  T_of_body tabOK Try.func18 (code := bodyOf Try.f18) (by kernel_rfl) (by kernel_rfl) (by kernel_rfl) (by kernel_rfl) hw
def laws_markIntS_c : C := .seq (.reg [⟨(some 4), none, .mov (.c (.int .i64 0))⟩]) (.seq (.seq (.reg [⟨(some 5), none, .mov (.c (.int .i64 0))⟩]) (.block 0 (.loop (.seq (.seq (.reg [⟨(some 6), none, .mov (.t 5)⟩,
  ⟨(some 7), none, .mov (.t 0)⟩,
  ⟨(some 8), none, .len false (.t 7)⟩,
  ⟨(some 9), none, .bin .lss (.num) (.t 6) (.t 8)⟩]) (.cond (.t 9) (.skip) (.exit 0))) (.seq (.block 1 (.seq (.reg [⟨(some 12), none, .mov (.t 0)⟩,
  ⟨(some 13), none, .mov (.t 5)⟩,
  ⟨(some 14), none, .mov (.t 1)⟩,
  ⟨(some 15), none, .idxs 1 (.t 12) (.t 13)⟩,
  ⟨none, none, .store 1 (.t 15) (.t 14)⟩]) (.reg [⟨(some 16), none, .mov (.t 1)⟩,
  ⟨(some 17), none, .bin .add (.num) (.t 16) (.c (.int .i64 1))⟩,
  ⟨(some 1), none, .mov (.t 17)⟩]))) (.reg [⟨(some 10), none, .mov (.t 5)⟩,
  ⟨(some 11), none, .bin .add (.num) (.t 10) (.c (.int .i64 1))⟩,
  ⟨(some 5), none, .mov (.t 11)⟩])))))) (.seq (.reg [⟨(some 18), none, .mov (.t 1)⟩,
  ⟨(some 4), none, .mov (.t 18)⟩]) (.ret)))
def laws_markIntS_r : List RS := [.t 4]
def laws_markIntS_s0 (t0 t1 t5 : AV) (loc : List (List AV)) (h : AH) : St := ⟨[t0, t1, .any, .any, .any, t5, .any, .any, .any, .any, .any, .any, .any, .any, .any, .any, .any, .any, .any], loc, h⟩
theorem laws_markIntS_e {a0 a1 : AV} {h : AH} {K : AV → AH → Prop} (hw : TC Try.prog Θ Γ laws_markIntS_c (retQ laws_markIntS_r K) ⟨[a0, a1, u, u, u, u, u, u, u, u, u, u, u, u, u, u, u, u, u], [], h⟩) : T Try.prog Γ Fn.laws_markIntS [a0, a1] h K :=
  T_of_body tabOK Try.func19 (code := bodyOf Try.f19) (by kernel_rfl) (by kernel_rfl) (by kernel_rfl) (by kernel_rfl) hw
def laws_heldIntS_c : C := .seq (.reg [⟨(some 4), none, .mov (.c (.int .i64 0))⟩]) (.seq (.seq (.reg [⟨(some 5), none, .mov (.c (.int .i64 0))⟩]) (.block 0 (.loop (.seq (.seq (.reg [⟨(some 6), none, .mov (.t 5)⟩,
  ⟨(some 7), none, .mov (.t 0)⟩,
  ⟨(some 8), none, .len false (.t 7)⟩,
  ⟨(some 9), none, .bin .lss (.num) (.t 6) (.t 8)⟩]) (.cond (.t 9) (.skip) (.exit 0))) (.seq (.block 1 (.seq (.seq (.reg [⟨(some 12), none, .mov (.t 0)⟩,
  ⟨(some 13), none, .mov (.t 5)⟩,
  ⟨(some 14), none, .idxs 1 (.t 12) (.t 13)⟩,
  ⟨(some 15), none, .load 1 false (.t 14)⟩,
  ⟨(some 16), none, .mov (.t 1)⟩,
  ⟨(some 17), none, .bin .neq (.num) (.t 15) (.t 16)⟩]) (.cond (.t 17) (.seq (.reg [⟨(some 4), none, .mov (.c (.int .i64 (-1)))⟩]) (.ret)) (.skip))) (.reg [⟨(some 18), none, .mov (.t 1)⟩,
  ⟨(some 19), none, .bin .add (.num) (.t 18) (.c (.int .i64 1))⟩,
  ⟨(some 1), none, .mov (.t 19)⟩]))) (.reg [⟨(some 10), none, .mov (.t 5)⟩,
  ⟨(some 11), none, .bin .add (.num) (.t 10) (.c (.int .i64 1))⟩,
  ⟨(some 5), none, .mov (.t 11)⟩])))))) (.seq (.reg [⟨(some 20), none, .mov (.t 1)⟩,
  ⟨(some 4), none, .mov (.t 20)⟩]) (.ret)))
def laws_heldIntS_r : List RS := [.t 4]
def laws_heldIntS_s0 (t0 t1 t5 : AV) (loc : List (List AV)) (h : AH) : St := ⟨[t0, t1, .any, .any, .any, t5, .any, .any, .any, .any, .any, .any, .any, .any, .any, .any, .any, .any, .any, .any, .any], loc, h⟩
theorem laws_heldIntS_e {a0 a1 : AV} {h : AH} {K : AV → AH → Prop} (hw : TC Try.prog Θ Γ laws_heldIntS_c (retQ laws_heldIntS_r K) ⟨[a0, a1, u, u, u, u, u, u, u, u, u, u, u, u, u, u, u, u, u, u, u], [], h⟩) : T Try.prog Γ Fn.laws_heldIntS [a0, a1] h K :=
  T_of_body tabOK Try.func20 (code := bodyOf Try.f20) (by kernel_rfl) (by kernel_rfl) (by kernel_rfl) (by kernel_rfl) hw
def laws_szOutgoingS_c : C := .seq (.reg [⟨(some 4), none, .mov (.c (.int .i64 0))⟩]) (.seq (.reg [⟨(some 6), none, .mov (.t 1)⟩,
  ⟨(some 7), none, .mov (.t 0)⟩,
  ⟨(some 8), none, .len false (.t 7)⟩,
  ⟨(some 9), none, .bin .sub (.num) (.t 6) (.t 8)⟩,
  ⟨(some 1), none, .mov (.t 9)⟩]) (.seq (.seq (.reg [⟨(some 10), none, .mov (.t 1)⟩,
  ⟨(some 11), none, .bin .lss (.num) (.t 10) (.c (.int .i64 0))⟩]) (.cond (.t 11) (.seq (.reg [⟨(some 4), none, .mov (.c (.int .i64 (-1)))⟩]) (.ret)) (.skip))) (.seq (.seq (.reg [⟨(some 5), none, .mov (.c (.int .i64 0))⟩]) (.block 0 (.loop (.seq (.seq (.reg [⟨(some 12), none, .mov (.t 5)⟩,
  ⟨(some 13), none, .mov (.t 0)⟩,
  ⟨(some 14), none, .len false (.t 13)⟩,
  ⟨(some 15), none, .bin .lss (.num) (.t 12) (.t 14)⟩]) (.cond (.t 15) (.skip) (.exit 0))) (.seq (.block 1 (.seq (.reg [⟨(some 18), none, .mov (.t 0)⟩,
  ⟨(some 19), none, .mov (.t 5)⟩,
  ⟨(some 20), none, .idxs 13 (.t 18) (.t 19)⟩,
  ⟨(some 21), none, .load 13 true (.t 20)⟩,
  ⟨(some 22), none, .mov (.t 1)⟩,
  ⟨(some 23), none, .call (.c (.fn Fn.laws_szOutgoing [] [])) [.t 21, .t 22]⟩,
  ⟨(some 1), none, .mov (.t 23)⟩]) (.seq (.reg [⟨(some 24), none, .mov (.t 1)⟩,
  ⟨(some 25), none, .bin .lss (.num) (.t 24) (.c (.int .i64 0))⟩]) (.cond (.t 25) (.seq (.reg [⟨(some 4), none, .mov (.c (.int .i64 (-1)))⟩]) (.ret)) (.skip))))) (.reg [⟨(some 16), none, .mov (.t 5)⟩,
  ⟨(some 17), none, .bin .add (.num) (.t 16) (.c (.int .i64 1))⟩,
  ⟨(some 5), none, .mov (.t 17)⟩])))))) (.seq (.reg [⟨(some 26), none, .mov (.t 1)⟩,
  ⟨(some 4), none, .mov (.t 26)⟩]) (.ret)))))
def laws_szOutgoingS_r : List RS := [.t 4]
def laws_szOutgoingS_s0 (t0 t1 t5 : AV) (loc : List (List AV)) (h : AH) : St := ⟨[t0, t1, .any, .any, .any, t5, .any, .any, .any, .any, .any, .any, .any, .any, .any, .any, .any, .any, .any, .any, .any, .any, .any, .any, .any, .any, .any], loc, h⟩
theorem laws_szOutgoingS_e {a0 a1 : AV} {h : AH} {K : AV → AH → Prop} (hw : TC Try.prog Θ Γ laws_szOutgoingS_c (retQ laws_szOutgoingS_r K) ⟨[a0, a1, u, u, u, u, u, u, u, u, u, u, u, u, u, u, u, u, u, u, u, u, u, u, u, u, u], [], h⟩) : T Try.prog Γ Fn.laws_szOutgoingS [a0, a1] h K :=
  T_of_body tabOK Try.func32 (code := bodyOf Try.f32) (by kernel_rfl) (by kernel_rfl) (by kernel_rfl) (by kernel_rfl) hw
def laws_toOutgoingS_c : C := .seq (.reg [⟨(some 2), none, .mov (.c (.nils))⟩]) (.seq (.reg [⟨(some 5), none, .mov (.t 0)⟩,
  ⟨(some 6), none, .len false (.t 5)⟩,
  ⟨(some 7), none, .mks 13 128 [.int .i64 0, .int .i64 0, .int .i64 0, .int .i64 0, .int .i64 0, .str ⟨#[]⟩, .nils, .int .i64 0, .int .i64 0, .int .i64 0, .int .i64 0, .int .i64 0, .int .i64 0] (.t 6) (.t 6)⟩,
  ⟨(some 3), none, .mov (.t 7)⟩]) (.seq (.seq (.reg [⟨(some 4), none, .mov (.c (.int .i64 0))⟩]) (.block 0 (.loop (.seq (.seq (.reg [⟨(some 8), none, .mov (.t 4)⟩,
  ⟨(some 9), none, .mov (.t 0)⟩,
  ⟨(some 10), none, .len false (.t 9)⟩,
  ⟨(some 11), none, .bin .lss (.num) (.t 8) (.t 10)⟩]) (.cond (.t 11) (.skip) (.exit 0))) (.seq (.block 1 (.reg [⟨(some 14), none, .mov (.t 3)⟩,
  ⟨(some 15), none, .mov (.t 4)⟩,
  ⟨(some 16), none, .mov (.t 0)⟩,
  ⟨(some 17), none, .mov (.t 4)⟩,
  ⟨(some 18), none, .idxs 13 (.t 16) (.t 17)⟩,
  ⟨(some 19), none, .load 13 true (.t 18)⟩,
  ⟨(some 20), none, .call (.c (.fn Fn.laws_toOutgoing [] [])) [.t 19]⟩,
  ⟨(some 21), none, .idxs 13 (.t 14) (.t 15)⟩,
  ⟨none, none, .store 13 (.t 21) (.t 20)⟩])) (.reg [⟨(some 12), none, .mov (.t 4)⟩,
  ⟨(some 13), none, .bin .add (.num) (.t 12) (.c (.int .i64 1))⟩,
  ⟨(some 4), none, .mov (.t 13)⟩])))))) (.seq (.reg [⟨(some 22), none, .mov (.t 3)⟩,
  ⟨(some 2), none, .mov (.t 22)⟩]) (.ret))))
def laws_toOutgoingS_r : List RS := [.t 2]
def laws_toOutgoingS_s0 (t0 t3 t4 : AV) (loc : List (List AV)) (h : AH) : St := ⟨[t0, .any, .any, t3, t4, .any, .any, .any, .any, .any, .any, .any, .any, .any, .any, .any, .any, .any, .any, .any, .any, .any, .any], loc, h⟩
theorem laws_toOutgoingS_e {a0 : AV} {h : AH} {K : AV → AH → Prop} (hw : TC Try.prog Θ Γ laws_toOutgoingS_c (retQ laws_toOutgoingS_r K) ⟨[a0, u, u, u, u, u, u, u, u, u, u, u, u, u, u, u, u, u, u, u, u, u, u], [], h⟩) : T Try.prog Γ Fn.laws_toOutgoingS [a0] h K :=
  T_of_body tabOK Try.func34 (code := bodyOf Try.f34) (by kernel_rfl) (by kernel_rfl) (by kernel_rfl) (by kernel_rfl) hw
def laws_eqOutgoingS_d0_os : List O := [⟨(some 17), none, .mov (.t 0)⟩,
  ⟨(some 18), none, .mov (.t 5)⟩,
  ⟨(some 19), none, .idxs 13 (.t 17) (.t 18)⟩,
  ⟨(some 20), none, .load 13 true (.t 19)⟩,
  ⟨(some 21), none, .mov (.t 1)⟩,
  ⟨(some 22), none, .mov (.t 5)⟩,
  ⟨(some 23), none, .idxs 13 (.t 21) (.t 22)⟩,
  ⟨(some 24), none, .load 13 true (.t 23)⟩,
  ⟨(some 25), none, .call (.c (.fn Fn.laws_eqOutgoing [] [])) [.t 20, .t 24]⟩,
  ⟨(some 26), none, .un .not (.t 25)⟩]
def laws_eqOutgoingS_d0_af : List (List Nat) := [[], [], [0, 1], [2], [], [], [4, 5], [6], [3, 7], [8]]
theorem laws_eqOutgoingS_d0_q (gl : Gl) (Q : AE → St → Prop) (s : St) : aw Try.prog Θ Γ gl (.regD laws_eqOutgoingS_d0_os laws_eqOutgoingS_d0_af) Q s = awpT Try.prog Γ gl [⟨(some 17), none, .mov (.t 0)⟩,
  ⟨(some 18), none, .mov (.t 5)⟩,
  ⟨(some 19), none, .idxs 13 (.t 17) (.t 18)⟩,
  ⟨(some 20), none, .load 13 true (.t 19)⟩,
  ⟨(some 21), none, .mov (.t 1)⟩,
  ⟨(some 22), none, .mov (.t 5)⟩,
  ⟨(some 23), none, .idxs 13 (.t 21) (.t 22)⟩,
  ⟨(some 24), none, .load 13 true (.t 23)⟩,
  ⟨(some 25), none, .call (.c (.fn Fn.laws_eqOutgoing [] [])) [.t 20, .t 24]⟩,
  ⟨(some 26), none, .un .not (.t 25)⟩] (Q .normal) 10 (.q 0 (.q 1 (.q 2 (.q 3 (.q 4 (.q 5 (.q 6 (.q 7 (.all [(8, .q 9 (.done))]))))))))) s := a_dd rfl (by kernel_rfl) gl Q s
def laws_eqOutgoingS_c : C := .seq (.reg [⟨(some 4), none, .mov (.c (.bool false))⟩]) (.seq (.seq (.reg [⟨(some 6), none, .mov (.t 0)⟩,
  ⟨(some 7), none, .len false (.t 6)⟩,
  ⟨(some 8), none, .mov (.t 1)⟩,
  ⟨(some 9), none, .len false (.t 8)⟩,
  ⟨(some 10), none, .bin .neq (.num) (.t 7) (.t 9)⟩]) (.cond (.t 10) (.seq (.reg [⟨(some 4), none, .mov (.c (.bool false))⟩]) (.ret)) (.skip))) (.seq (.seq (.reg [⟨(some 5), none, .mov (.c (.int .i64 0))⟩]) (.block 0 (.loop (.seq (.seq (.reg [⟨(some 11), none, .mov (.t 5)⟩,
  ⟨(some 12), none, .mov (.t 0)⟩,
  ⟨(some 13), none, .len false (.t 12)⟩,
  ⟨(some 14), none, .bin .lss (.num) (.t 11) (.t 13)⟩]) (.cond (.t 14) (.skip) (.exit 0))) (.seq (.block 1 (.seq (.regD laws_eqOutgoingS_d0_os laws_eqOutgoingS_d0_af) (.cond (.t 26) (.seq (.reg [⟨(some 4), none, .mov (.c (.bool false))⟩]) (.ret)) (.skip)))) (.reg [⟨(some 15), none, .mov (.t 5)⟩,
  ⟨(some 16), none, .bin .add (.num) (.t 15) (.c (.int .i64 1))⟩,
  ⟨(some 5), none, .mov (.t 16)⟩])))))) (.seq (.reg [⟨(some 4), none, .mov (.c (.bool true))⟩]) (.ret))))
def laws_eqOutgoingS_r : List RS := [.t 4]
def laws_eqOutgoingS_s0 (t0 t1 t5 : AV) (loc : List (List AV)) (h : AH) : St := ⟨[t0, t1, .any, .any, .any, t5, .any, .any, .any, .any, .any, .any, .any, .any, .any, .any, .any, .any, .any, .any, .any, .any, .any, .any, .any, .any, .any], loc, h⟩
theorem laws_eqOutgoingS_e {a0 a1 : AV} {h : AH} {K : AV → AH → Prop} (hw : TC Try.prog Θ Γ laws_eqOutgoingS_c (retQ laws_eqOutgoingS_r K) ⟨[a0, a1, u, u, u, u, u, u, u, u, u, u, u, u, u, u, u, u, u, u, u, u, u, u, u, u, u], [], h⟩) : T Try.prog Γ Fn.laws_eqOutgoingS [a0, a1] h K :=
  T_of_body tabOK Try.func36 (code := bodyOf Try.f36) (by kernel_rfl) (by kernel_rfl) (by kernel_rfl) (by kernel_rfl) hw
def laws_szVat_c : C := .seq (.reg [⟨(some 2), none, .box (.t 0)⟩,
  ⟨(some 4), none, .mov (.c (.int .i64 0))⟩]) (.seq (.reg [⟨(some 5), none, .fld 1 (.t 2)⟩,
  ⟨(some 6), none, .load 1 false (.t 5)⟩,
  ⟨(some 7), none, .mov (.t 1)⟩,
  ⟨(some 8), none, .call (.c (.fn Fn.laws_szEntityS [] [])) [.t 6, .t 7]⟩,
  ⟨(some 1), none, .mov (.t 8)⟩]) (.seq (.seq (.reg [⟨(some 9), none, .mov (.t 1)⟩,
  ⟨(some 10), none, .bin .lss (.num) (.t 9) (.c (.int .i64 0))⟩]) (.cond (.t 10) (.seq (.reg [⟨(some 4), none, .mov (.c (.int .i64 (-1)))⟩]) (.ret)) (.skip))) (.seq (.reg [⟨(some 11), none, .fld 2 (.t 2)⟩,
  ⟨(some 12), none, .load 1 false (.t 11)⟩,
  ⟨(some 13), none, .mov (.t 1)⟩,
  ⟨(some 14), none, .call (.c (.fn Fn.laws_szSentS [] [])) [.t 12, .t 13]⟩,
  ⟨(some 1), none, .mov (.t 14)⟩]) (.seq (.seq (.reg [⟨(some 15), none, .mov (.t 1)⟩,
  ⟨(some 16), none, .bin .lss (.num) (.t 15) (.c (.int .i64 0))⟩]) (.cond (.t 16) (.seq (.reg [⟨(some 4), none, .mov (.c (.int .i64 (-1)))⟩]) (.ret)) (.skip))) (.seq (.reg [⟨(some 17), none, .fld 3 (.t 2)⟩,
  ⟨(some 18), none, .load 1 false (.t 17)⟩,
  ⟨(some 19), none, .mov (.t 1)⟩,
  ⟨(some 20), none, .call (.c (.fn Fn.laws_szLinkS [] [])) [.t 18, .t 19]⟩,
  ⟨(some 1), none, .mov (.t 20)⟩]) (.seq (.seq (.reg [⟨(some 21), none, .mov (.t 1)⟩,
  ⟨(some 22), none, .bin .lss (.num) (.t 21) (.c (.int .i64 0))⟩]) (.cond (.t 22) (.seq (.reg [⟨(some 4), none, .mov (.c (.int .i64 (-1)))⟩]) (.ret)) (.skip))) (.seq (.reg [⟨(some 23), none, .fld 4 (.t 2)⟩,
  ⟨(some 24), none, .load 1 false (.t 23)⟩,
  ⟨(some 25), none, .mov (.t 1)⟩,
  ⟨(some 26), none, .call (.c (.fn Fn.laws_szOutgoingS [] [])) [.t 24, .t 25]⟩,
  ⟨(some 1), none, .mov (.t 26)⟩]) (.seq (.seq (.reg [⟨(some 27), none, .mov (.t 1)⟩,
  ⟨(some 28), none, .bin .lss (.num) (.t 27) (.c (.int .i64 0))⟩]) (.cond (.t 28) (.seq (.reg [⟨(some 4), none, .mov (.c (.int .i64 (-1)))⟩]) (.ret)) (.skip))) (.seq (.reg [⟨(some 29), none, .mov (.t 1)⟩,
  ⟨(some 4), none, .mov (.t 29)⟩]) (.ret))))))))))
def laws_szVat_r : List RS := [.t 4]
theorem laws_szVat_e {a0 a1 : AV} {h : AH} {K : AV → AH → Prop} (hw : TC Try.prog Θ Γ laws_szVat_c (retQ laws_szVat_r K) ⟨[a0, a1, u, u, u, u, u, u, u, u, u, u, u, u, u, u, u, u, u, u, u, u, u, u, u, u, u, u, u, u], [], h⟩) : T Try.prog Γ Fn.laws_szVat [a0, a1] h K :=
  T_of_body tabOK Try.func37 (code := bodyOf Try.f37) (by kernel_rfl) (by kernel_rfl) (by kernel_rfl) (by kernel_rfl) hw
def laws_toVat_c : C := .seq (.reg [⟨(some 1), none, .box (.t 0)⟩,
  ⟨(some 2), none, .alloc [.int .i64 0, .nils, .nils, .nils, .nils]⟩]) (.seq (.reg [⟨(some 3), none, .alloc [.int .i64 0, .nils, .nils, .nils, .nils]⟩]) (.seq (.reg [⟨(some 4), none, .fld 0 (.t 1)⟩,
  ⟨(some 5), none, .load 1 false (.t 4)⟩,
  ⟨(some 6), none, .fld 0 (.t 3)⟩,
  ⟨none, none, .store 1 (.t 6) (.t 5)⟩]) (.seq (.reg [⟨(some 7), none, .fld 1 (.t 1)⟩,
  ⟨(some 8), none, .load 1 false (.t 7)⟩,
  ⟨(some 9), none, .call (.c (.fn Fn.laws_toEntityS [] [])) [.t 8]⟩,
  ⟨(some 10), none, .fld 1 (.t 3)⟩,
  ⟨none, none, .store 1 (.t 10) (.t 9)⟩]) (.seq (.reg [⟨(some 11), none, .fld 2 (.t 1)⟩,
  ⟨(some 12), none, .load 1 false (.t 11)⟩,
  ⟨(some 13), none, .call (.c (.fn Fn.laws_toSentS [] [])) [.t 12]⟩,
  ⟨(some 14), none, .fld 2 (.t 3)⟩,
  ⟨none, none, .store 1 (.t 14) (.t 13)⟩]) (.seq (.reg [⟨(some 15), none, .fld 3 (.t 1)⟩,
  ⟨(some 16), none, .load 1 false (.t 15)⟩,
  ⟨(some 17), none, .call (.c (.fn Fn.laws_toLinkS [] [])) [.t 16]⟩,
  ⟨(some 18), none, .fld 3 (.t 3)⟩,
  ⟨none, none, .store 1 (.t 18) (.t 17)⟩]) (.seq (.reg [⟨(some 19), none, .fld 4 (.t 1)⟩,
  ⟨(some 20), none, .load 1 false (.t 19)⟩,
  ⟨(some 21), none, .call (.c (.fn Fn.laws_toOutgoingS [] [])) [.t 20]⟩,
  ⟨(some 22), none, .fld 4 (.t 3)⟩,
  ⟨none, none, .store 1 (.t 22) (.t 21)⟩]) (.seq (.reg [⟨(some 23), none, .load 5 true (.t 3)⟩,
  ⟨none, none, .store 5 (.t 2) (.t 23)⟩]) (.ret))))))))
def laws_toVat_r : List RS := [.cell 2 5 true]
theorem laws_toVat_e {a0 : AV} {h : AH} {K : AV → AH → Prop} (hw : TC Try.prog Θ Γ laws_toVat_c (retQ laws_toVat_r K) ⟨[a0, u, u, u, u, u, u, u, u, u, u, u, u, u, u, u, u, u, u, u, u, u, u, u], [], h⟩) : T Try.prog Γ Fn.laws_toVat [a0] h K :=
  T_of_body tabOK Try.func39 (code := bodyOf Try.f39) (by kernel_rfl) (by kernel_rfl) (by kernel_rfl) (by kernel_rfl) hw
def laws_eqValue_c : C := .seq (.reg [⟨(some 2), none, .box (.t 0)⟩,
  ⟨(some 3), none, .box (.t 1)⟩,
  ⟨(some 4), none, .mov (.c (.bool false))⟩]) (.seq (.seq (.reg [⟨(some 5), none, .fld 0 (.t 2)⟩,
  ⟨(some 6), none, .load 1 false (.t 5)⟩,
  ⟨(some 7), none, .fld 0 (.t 3)⟩,
  ⟨(some 8), none, .load 1 false (.t 7)⟩,
  ⟨(some 9), none, .bin .neq (.num) (.t 6) (.t 8)⟩]) (.cond (.t 9) (.seq (.reg [⟨(some 4), none, .mov (.c (.bool false))⟩]) (.ret)) (.skip))) (.seq (.seq (.reg [⟨(some 10), none, .fld 1 (.t 2)⟩,
  ⟨(some 11), none, .load 1 false (.t 10)⟩,
  ⟨(some 12), none, .fld 1 (.t 3)⟩,
  ⟨(some 13), none, .load 1 false (.t 12)⟩,
  ⟨(some 14), none, .bin .neq (.num) (.t 11) (.t 13)⟩]) (.cond (.t 14) (.seq (.reg [⟨(some 4), none, .mov (.c (.bool false))⟩]) (.ret)) (.skip))) (.seq (.reg [⟨(some 4), none, .mov (.c (.bool true))⟩]) (.ret))))
def laws_eqValue_r : List RS := [.t 4]
theorem laws_eqValue_e {a0 a1 : AV} {h : AH} {K : AV → AH → Prop} (hw : TC Try.prog Θ Γ laws_eqValue_c (retQ laws_eqValue_r K) ⟨[a0, a1, u, u, u, u, u, u, u, u, u, u, u, u, u], [], h⟩) : T Try.prog Γ Fn.laws_eqValue [a0, a1] h K :=
  T_of_body tabOK Try.func41 (code := bodyOf Try.f41) (by kernel_rfl) (by kernel_rfl) (by kernel_rfl) (by kernel_rfl) hw
def laws_eqVat_c : C := .seq (.reg [⟨(some 2), none, .box (.t 0)⟩,
  ⟨(some 3), none, .box (.t 1)⟩,
  ⟨(some 4), none, .mov (.c (.bool false))⟩]) (.seq (.seq (.reg [⟨(some 5), none, .fld 0 (.t 2)⟩,
  ⟨(some 6), none, .load 1 false (.t 5)⟩,
  ⟨(some 7), none, .fld 0 (.t 3)⟩,
  ⟨(some 8), none, .load 1 false (.t 7)⟩,
  ⟨(some 9), none, .bin .neq (.num) (.t 6) (.t 8)⟩]) (.cond (.t 9) (.seq (.reg [⟨(some 4), none, .mov (.c (.bool false))⟩]) (.ret)) (.skip))) (.seq (.seq (.reg [⟨(some 10), none, .fld 1 (.t 2)⟩,
  ⟨(some 11), none, .load 1 false (.t 10)⟩,
  ⟨(some 12), none, .fld 1 (.t 3)⟩,
  ⟨(some 13), none, .load 1 false (.t 12)⟩,
  ⟨(some 14), none, .call (.c (.fn Fn.laws_eqEntityS [] [])) [.t 11, .t 13]⟩,
  ⟨(some 15), none, .un .not (.t 14)⟩]) (.cond (.t 15) (.seq (.reg [⟨(some 4), none, .mov (.c (.bool false))⟩]) (.ret)) (.skip))) (.seq (.seq (.reg [⟨(some 16), none, .fld 2 (.t 2)⟩,
  ⟨(some 17), none, .load 1 false (.t 16)⟩,
  ⟨(some 18), none, .fld 2 (.t 3)⟩,
  ⟨(some 19), none, .load 1 false (.t 18)⟩,
  ⟨(some 20), none, .call (.c (.fn Fn.laws_eqSentS [] [])) [.t 17, .t 19]⟩,
  ⟨(some 21), none, .un .not (.t 20)⟩]) (.cond (.t 21) (.seq (.reg [⟨(some 4), none, .mov (.c (.bool false))⟩]) (.ret)) (.skip))) (.seq (.seq (.reg [⟨(some 22), none, .fld 3 (.t 2)⟩,
  ⟨(some 23), none, .load 1 false (.t 22)⟩,
  ⟨(some 24), none, .fld 3 (.t 3)⟩,
  ⟨(some 25), none, .load 1 false (.t 24)⟩,
  ⟨(some 26), none, .call (.c (.fn Fn.laws_eqLinkS [] [])) [.t 23, .t 25]⟩,
  ⟨(some 27), none, .un .not (.t 26)⟩]) (.cond (.t 27) (.seq (.reg [⟨(some 4), none, .mov (.c (.bool false))⟩]) (.ret)) (.skip))) (.seq (.seq (.reg [⟨(some 28), none, .fld 4 (.t 2)⟩,
  ⟨(some 29), none, .load 1 false (.t 28)⟩,
  ⟨(some 30), none, .fld 4 (.t 3)⟩,
  ⟨(some 31), none, .load 1 false (.t 30)⟩,
  ⟨(some 32), none, .call (.c (.fn Fn.laws_eqOutgoingS [] [])) [.t 29, .t 31]⟩,
  ⟨(some 33), none, .un .not (.t 32)⟩]) (.cond (.t 33) (.seq (.reg [⟨(some 4), none, .mov (.c (.bool false))⟩]) (.ret)) (.skip))) (.seq (.reg [⟨(some 4), none, .mov (.c (.bool true))⟩]) (.ret)))))))
def laws_eqVat_r : List RS := [.t 4]
theorem laws_eqVat_e {a0 a1 : AV} {h : AH} {K : AV → AH → Prop} (hw : TC Try.prog Θ Γ laws_eqVat_c (retQ laws_eqVat_r K) ⟨[a0, a1, u, u, u, u, u, u, u, u, u, u, u, u, u, u, u, u, u, u, u, u, u, u, u, u, u, u, u, u, u, u, u, u], [], h⟩) : T Try.prog Γ Fn.laws_eqVat [a0, a1] h K :=
  T_of_body tabOK Try.func42 (code := bodyOf Try.f42) (by kernel_rfl) (by kernel_rfl) (by kernel_rfl) (by kernel_rfl) hw
def laws_szMessage_c : C := .seq (.reg [⟨(some 2), none, .box (.t 0)⟩,
  ⟨(some 4), none, .mov (.c (.int .i64 0))⟩]) (.seq (.reg [⟨(some 5), none, .mov (.t 1)⟩,
  ⟨(some 6), none, .fld 4 (.t 2)⟩,
  ⟨(some 7), none, .load 1 false (.t 6)⟩,
  ⟨(some 8), none, .len true (.t 7)⟩,
  ⟨(some 9), none, .bin .sub (.num) (.t 5) (.t 8)⟩,
  ⟨(some 1), none, .mov (.t 9)⟩]) (.seq (.seq (.reg [⟨(some 10), none, .mov (.t 1)⟩,
  ⟨(some 11), none, .bin .lss (.num) (.t 10) (.c (.int .i64 0))⟩]) (.cond (.t 11) (.seq (.reg [⟨(some 4), none, .mov (.c (.int .i64 (-1)))⟩]) (.ret)) (.skip))) (.seq (.reg [⟨(some 12), none, .fld 5 (.t 2)⟩,
  ⟨(some 13), none, .load 1 false (.t 12)⟩,
  ⟨(some 14), none, .mov (.t 1)⟩,
  ⟨(some 15), none, .call (.c (.fn Fn.laws_szWireS [] [])) [.t 13, .t 14]⟩,
  ⟨(some 1), none, .mov (.t 15)⟩]) (.seq (.seq (.reg [⟨(some 16), none, .mov (.t 1)⟩,
  ⟨(some 17), none, .bin .lss (.num) (.t 16) (.c (.int .i64 0))⟩]) (.cond (.t 17) (.seq (.reg [⟨(some 4), none, .mov (.c (.int .i64 (-1)))⟩]) (.ret)) (.skip))) (.seq (.reg [⟨(some 18), none, .mov (.t 1)⟩,
  ⟨(some 4), none, .mov (.t 18)⟩]) (.ret))))))
def laws_szMessage_r : List RS := [.t 4]
theorem laws_szMessage_e {a0 a1 : AV} {h : AH} {K : AV → AH → Prop} (hw : TC Try.prog Θ Γ laws_szMessage_c (retQ laws_szMessage_r K) ⟨[a0, a1, u, u, u, u, u, u, u, u, u, u, u, u, u, u, u, u, u], [], h⟩) : T Try.prog Γ Fn.laws_szMessage [a0, a1] h K :=
  T_of_body tabOK Try.func47 (code := bodyOf Try.f47) (by kernel_rfl) (by kernel_rfl) (by kernel_rfl) (by kernel_rfl) hw
def laws_toMessage_c : C := .seq (.reg [⟨(some 1), none, .box (.t 0)⟩,
  ⟨(some 2), none, .alloc [.int .i64 0, .int .i64 0, .int .i64 0, .int .i64 0, .str ⟨#[]⟩, .nils, .int .i64 0, .int .i64 0, .int .i64 0, .int .i64 0, .int .i64 0, .int .i64 0]⟩]) (.seq (.reg [⟨(some 3), none, .alloc [.int .i64 0, .int .i64 0, .int .i64 0, .int .i64 0, .str ⟨#[]⟩, .nils, .int .i64 0, .int .i64 0, .int .i64 0, .int .i64 0, .int .i64 0, .int .i64 0]⟩]) (.seq (.reg [⟨(some 4), none, .fld 0 (.t 1)⟩,
  ⟨(some 5), none, .load 1 false (.t 4)⟩,
  ⟨(some 6), none, .fld 0 (.t 3)⟩,
  ⟨none, none, .store 1 (.t 6) (.t 5)⟩]) (.seq (.reg [⟨(some 7), none, .fld 1 (.t 1)⟩,
  ⟨(some 8), none, .load 1 false (.t 7)⟩,
  ⟨(some 9), none, .fld 1 (.t 3)⟩,
  ⟨none, none, .store 1 (.t 9) (.t 8)⟩]) (.seq (.reg [⟨(some 10), none, .fld 2 (.t 1)⟩,
  ⟨(some 11), none, .load 1 false (.t 10)⟩,
  ⟨(some 12), none, .fld 2 (.t 3)⟩,
  ⟨none, none, .store 1 (.t 12) (.t 11)⟩]) (.seq (.reg [⟨(some 13), none, .fld 3 (.t 1)⟩,
  ⟨(some 14), none, .load 1 false (.t 13)⟩,
  ⟨(some 15), none, .fld 3 (.t 3)⟩,
  ⟨none, none, .store 1 (.t 15) (.t 14)⟩]) (.seq (.reg [⟨(some 16), none, .fld 4 (.t 1)⟩,
  ⟨(some 17), none, .load 1 false (.t 16)⟩,
  ⟨(some 18), none, .fld 4 (.t 3)⟩,
  ⟨none, none, .store 1 (.t 18) (.t 17)⟩]) (.seq (.reg [⟨(some 19), none, .fld 5 (.t 1)⟩,
  ⟨(some 20), none, .load 1 false (.t 19)⟩,
  ⟨(some 21), none, .call (.c (.fn Fn.laws_toWireS [] [])) [.t 20]⟩,
  ⟨(some 22), none, .fld 5 (.t 3)⟩,
  ⟨none, none, .store 1 (.t 22) (.t 21)⟩]) (.seq (.reg [⟨(some 23), none, .fld 6 (.t 1)⟩,
  ⟨(some 24), none, .load 2 true (.t 23)⟩,
  ⟨(some 25), none, .call (.c (.fn Fn.laws_toWire [] [])) [.t 24]⟩,
  ⟨(some 26), none, .fld 6 (.t 3)⟩,
  ⟨none, none, .store 2 (.t 26) (.t 25)⟩]) (.seq (.reg [⟨(some 27), none, .fld 8 (.t 1)⟩,
  ⟨(some 28), none, .load 1 false (.t 27)⟩,
  ⟨(some 29), none, .fld 8 (.t 3)⟩,
  ⟨none, none, .store 1 (.t 29) (.t 28)⟩]) (.seq (.reg [⟨(some 30), none, .fld 9 (.t 1)⟩,
  ⟨(some 31), none, .load 3 true (.t 30)⟩,
  ⟨(some 32), none, .call (.c (.fn Fn.laws_toTag [] [])) [.t 31]⟩,
  ⟨(some 33), none, .fld 9 (.t 3)⟩,
  ⟨none, none, .store 3 (.t 33) (.t 32)⟩]) (.seq (.reg [⟨(some 34), none, .load 12 true (.t 3)⟩,
  ⟨none, none, .store 12 (.t 2) (.t 34)⟩]) (.ret))))))))))))
def laws_toMessage_r : List RS := [.cell 2 12 true]
theorem laws_toMessage_e {a0 : AV} {h : AH} {K : AV → AH → Prop} (hw : TC Try.prog Θ Γ laws_toMessage_c (retQ laws_toMessage_r K) ⟨[a0, u, u, u, u, u, u, u, u, u, u, u, u, u, u, u, u, u, u, u, u, u, u, u, u, u, u, u, u, u, u, u, u, u, u], [], h⟩) : T Try.prog Γ Fn.laws_toMessage [a0] h K :=
  T_of_body tabOK Try.func49 (code := bodyOf Try.f49) (by kernel_rfl) (by kernel_rfl) (by kernel_rfl) (by kernel_rfl) hw
def laws_eqMessage_c : C := .seq (.reg [⟨(some 2), none, .box (.t 0)⟩,
  ⟨(some 3), none, .box (.t 1)⟩,
  ⟨(some 4), none, .mov (.c (.bool false))⟩]) (.seq (.seq (.reg [⟨(some 5), none, .fld 0 (.t 2)⟩,
  ⟨(some 6), none, .load 1 false (.t 5)⟩,
  ⟨(some 7), none, .fld 0 (.t 3)⟩,
  ⟨(some 8), none, .load 1 false (.t 7)⟩,
  ⟨(some 9), none, .bin .neq (.num) (.t 6) (.t 8)⟩]) (.cond (.t 9) (.seq (.reg [⟨(some 4), none, .mov (.c (.bool false))⟩]) (.ret)) (.skip))) (.seq (.seq (.reg [⟨(some 10), none, .fld 1 (.t 2)⟩,
  ⟨(some 11), none, .load 1 false (.t 10)⟩,
  ⟨(some 12), none, .fld 1 (.t 3)⟩,
  ⟨(some 13), none, .load 1 false (.t 12)⟩,
  ⟨(some 14), none, .bin .neq (.num) (.t 11) (.t 13)⟩]) (.cond (.t 14) (.seq (.reg [⟨(some 4), none, .mov (.c (.bool false))⟩]) (.ret)) (.skip))) (.seq (.seq (.reg [⟨(some 15), none, .fld 2 (.t 2)⟩,
  ⟨(some 16), none, .load 1 false (.t 15)⟩,
  ⟨(some 17), none, .fld 2 (.t 3)⟩,
  ⟨(some 18), none, .load 1 false (.t 17)⟩,
  ⟨(some 19), none, .bin .neq (.num) (.t 16) (.t 18)⟩]) (.cond (.t 19) (.seq (.reg [⟨(some 4), none, .mov (.c (.bool false))⟩]) (.ret)) (.skip))) (.seq (.seq (.reg [⟨(some 20), none, .fld 3 (.t 2)⟩,
  ⟨(some 21), none, .load 1 false (.t 20)⟩,
  ⟨(some 22), none, .fld 3 (.t 3)⟩,
  ⟨(some 23), none, .load 1 false (.t 22)⟩,
  ⟨(some 24), none, .bin .neq (.num) (.t 21) (.t 23)⟩]) (.cond (.t 24) (.seq (.reg [⟨(some 4), none, .mov (.c (.bool false))⟩]) (.ret)) (.skip))) (.seq (.seq (.reg [⟨(some 25), none, .fld 4 (.t 2)⟩,
  ⟨(some 26), none, .load 1 false (.t 25)⟩,
  ⟨(some 27), none, .fld 4 (.t 3)⟩,
  ⟨(some 28), none, .load 1 false (.t 27)⟩,
  ⟨(some 29), none, .bin .neq (.num) (.t 26) (.t 28)⟩]) (.cond (.t 29) (.seq (.reg [⟨(some 4), none, .mov (.c (.bool false))⟩]) (.ret)) (.skip))) (.seq (.seq (.reg [⟨(some 30), none, .fld 5 (.t 2)⟩,
  ⟨(some 31), none, .load 1 false (.t 30)⟩,
  ⟨(some 32), none, .fld 5 (.t 3)⟩,
  ⟨(some 33), none, .load 1 false (.t 32)⟩,
  ⟨(some 34), none, .call (.c (.fn Fn.laws_eqWireS [] [])) [.t 31, .t 33]⟩,
  ⟨(some 35), none, .un .not (.t 34)⟩]) (.cond (.t 35) (.seq (.reg [⟨(some 4), none, .mov (.c (.bool false))⟩]) (.ret)) (.skip))) (.seq (.seq (.reg [⟨(some 36), none, .fld 6 (.t 2)⟩,
  ⟨(some 37), none, .load 2 true (.t 36)⟩,
  ⟨(some 38), none, .fld 6 (.t 3)⟩,
  ⟨(some 39), none, .load 2 true (.t 38)⟩,
  ⟨(some 40), none, .call (.c (.fn Fn.laws_eqWire [] [])) [.t 37, .t 39]⟩,
  ⟨(some 41), none, .un .not (.t 40)⟩]) (.cond (.t 41) (.seq (.reg [⟨(some 4), none, .mov (.c (.bool false))⟩]) (.ret)) (.skip))) (.seq (.seq (.reg [⟨(some 42), none, .fld 8 (.t 2)⟩,
  ⟨(some 43), none, .load 1 false (.t 42)⟩,
  ⟨(some 44), none, .fld 8 (.t 3)⟩,
  ⟨(some 45), none, .load 1 false (.t 44)⟩,
  ⟨(some 46), none, .bin .neq (.num) (.t 43) (.t 45)⟩]) (.cond (.t 46) (.seq (.reg [⟨(some 4), none, .mov (.c (.bool false))⟩]) (.ret)) (.skip))) (.seq (.seq (.reg [⟨(some 47), none, .fld 9 (.t 2)⟩,
  ⟨(some 48), none, .load 3 true (.t 47)⟩,
  ⟨(some 49), none, .fld 9 (.t 3)⟩,
  ⟨(some 50), none, .load 3 true (.t 49)⟩,
  ⟨(some 51), none, .call (.c (.fn Fn.laws_eqTag [] [])) [.t 48, .t 50]⟩,
  ⟨(some 52), none, .un .not (.t 51)⟩]) (.cond (.t 52) (.seq (.reg [⟨(some 4), none, .mov (.c (.bool false))⟩]) (.ret)) (.skip))) (.seq (.reg [⟨(some 4), none, .mov (.c (.bool true))⟩]) (.ret)))))))))))
def laws_eqMessage_r : List RS := [.t 4]
theorem laws_eqMessage_e {a0 a1 : AV} {h : AH} {K : AV → AH → Prop} (hw : TC Try.prog Θ Γ laws_eqMessage_c (retQ laws_eqMessage_r K) ⟨[a0, a1, u, u, u, u, u, u, u, u, u, u, u, u, u, u, u, u, u, u, u, u, u, u, u, u, u, u, u, u, u, u, u, u, u, u, u, u, u, u, u, u, u, u, u, u, u, u, u, u, u, u, u], [], h⟩) : T Try.prog Γ Fn.laws_eqMessage [a0, a1] h K :=
  T_of_body tabOK Try.func51 (code := bodyOf Try.f51) (by kernel_rfl) (by kernel_rfl) (by kernel_rfl) (by kernel_rfl) hw
def spec_NewLoop_c : C := .seq (.reg [⟨(some 2), none, .box (.t 0)⟩,
  ⟨(some 3), none, .box (.t 1)⟩,
  ⟨(some 4), none, .mov (.c (.nils))⟩]) (.seq (.seq (.reg [⟨(some 5), none, .fld 2 (.t 3)⟩,
  ⟨(some 6), none, .load 1 false (.t 5)⟩,
  ⟨(some 7), none, .len false (.t 6)⟩,
  ⟨(some 8), none, .fld 2 (.t 2)⟩,
  ⟨(some 9), none, .load 1 false (.t 8)⟩,
  ⟨(some 10), none, .len false (.t 9)⟩,
  ⟨(some 11), none, .bin .lss (.num) (.t 7) (.t 10)⟩]) (.cond (.t 11) (.seq (.reg [⟨(some 12), none, .bsl 7 0 [.int .i64 0, .str ⟨#[]⟩, .nils, .int .i64 0, .int .i64 0, .int .i64 0, .int .i64 0] []⟩,
  ⟨(some 4), none, .mov (.t 12)⟩]) (.ret)) (.skip))) (.seq (.reg [⟨(some 13), none, .fld 2 (.t 3)⟩,
  ⟨(some 14), none, .load 1 false (.t 13)⟩,
  ⟨(some 15), none, .fld 2 (.t 2)⟩,
  ⟨(some 16), none, .load 1 false (.t 15)⟩,
  ⟨(some 17), none, .len false (.t 16)⟩,
  ⟨(some 18), none, .slice (.sl 7) (.t 14) (some (.t 17)) none none⟩,
  ⟨(some 19), none, .call (.c (.fn Fn.spec_l9CopySents [] [])) [.t 18]⟩,
  ⟨(some 4), none, .mov (.t 19)⟩]) (.ret)))
def spec_NewLoop_r : List RS := [.t 4]
theorem spec_NewLoop_e {a0 a1 : AV} {h : AH} {K : AV → AH → Prop} (hw : TC Try.prog Θ Γ spec_NewLoop_c (retQ spec_NewLoop_r K) ⟨[a0, a1, u, u, u, u, u, u, u, u, u, u, u, u, u, u, u, u, u, u], [], h⟩) : T Try.prog Γ Fn.spec_NewLoop [a0, a1] h K :=
  T_of_body tabOK Try.func54 (code := bodyOf Try.f54) (by kernel_rfl) (by kernel_rfl) (by kernel_rfl) (by kernel_rfl) hw
def impl_NewLoop_c : C := .seq (.reg [⟨(some 2), none, .box (.t 0)⟩,
  ⟨(some 3), none, .box (.t 1)⟩,
  ⟨(some 4), none, .mov (.c (.nils))⟩]) (.seq (.seq (.reg [⟨(some 5), none, .fld 2 (.t 3)⟩,
  ⟨(some 6), none, .load 1 false (.t 5)⟩,
  ⟨(some 7), none, .len false (.t 6)⟩,
  ⟨(some 8), none, .fld 2 (.t 2)⟩,
  ⟨(some 9), none, .load 1 false (.t 8)⟩,
  ⟨(some 10), none, .len false (.t 9)⟩,
  ⟨(some 11), none, .bin .lss (.num) (.t 7) (.t 10)⟩]) (.cond (.t 11) (.seq (.reg [⟨(some 4), none, .mov (.c (.nils))⟩]) (.ret)) (.skip))) (.seq (.reg [⟨(some 12), none, .fld 2 (.t 3)⟩,
  ⟨(some 13), none, .load 1 false (.t 12)⟩,
  ⟨(some 14), none, .fld 2 (.t 2)⟩,
  ⟨(some 15), none, .load 1 false (.t 14)⟩,
  ⟨(some 16), none, .len false (.t 15)⟩,
  ⟨(some 17), none, .slice (.sl 7) (.t 13) (some (.t 16)) none none⟩,
  ⟨(some 18), none, .call (.c (.fn Fn.impl_copiedSents [] [])) [.t 17]⟩,
  ⟨(some 4), none, .mov (.t 18)⟩]) (.ret)))
def impl_NewLoop_r : List RS := [.t 4]
theorem impl_NewLoop_e {a0 a1 : AV} {h : AH} {K : AV → AH → Prop} (hw : TC Try.prog Θ Γ impl_NewLoop_c (retQ impl_NewLoop_r K) ⟨[a0, a1, u, u, u, u, u, u, u, u, u, u, u, u, u, u, u, u, u], [], h⟩) : T Try.prog Γ Fn.impl_NewLoop [a0, a1] h K :=
  T_of_body tabOK Try.func55 (code := bodyOf Try.f55) (by kernel_rfl) (by kernel_rfl) (by kernel_rfl) (by kernel_rfl) hw
def laws_markVat_c : C := .seq (.reg [⟨(some 2), none, .box (.t 0)⟩,
  ⟨(some 4), none, .mov (.c (.int .i64 0))⟩]) (.seq (.reg [⟨(some 5), none, .fld 1 (.t 2)⟩,
  ⟨(some 6), none, .load 1 false (.t 5)⟩,
  ⟨(some 7), none, .mov (.t 1)⟩,
  ⟨(some 8), none, .call (.c (.fn Fn.laws_markEntityS [] [])) [.t 6, .t 7]⟩,
  ⟨(some 1), none, .mov (.t 8)⟩]) (.seq (.reg [⟨(some 9), none, .fld 2 (.t 2)⟩,
  ⟨(some 10), none, .load 1 false (.t 9)⟩,
  ⟨(some 11), none, .mov (.t 1)⟩,
  ⟨(some 12), none, .call (.c (.fn Fn.laws_markSentS [] [])) [.t 10, .t 11]⟩,
  ⟨(some 1), none, .mov (.t 12)⟩]) (.seq (.reg [⟨(some 13), none, .fld 3 (.t 2)⟩,
  ⟨(some 14), none, .load 1 false (.t 13)⟩,
  ⟨(some 15), none, .mov (.t 1)⟩,
  ⟨(some 16), none, .call (.c (.fn Fn.laws_markLinkS [] [])) [.t 14, .t 15]⟩,
  ⟨(some 1), none, .mov (.t 16)⟩]) (.seq (.reg [⟨(some 17), none, .fld 4 (.t 2)⟩,
  ⟨(some 18), none, .load 1 false (.t 17)⟩,
  ⟨(some 19), none, .mov (.t 1)⟩,
  ⟨(some 20), none, .call (.c (.fn Fn.laws_markOutgoingS [] [])) [.t 18, .t 19]⟩,
  ⟨(some 1), none, .mov (.t 20)⟩]) (.seq (.reg [⟨(some 21), none, .mov (.t 1)⟩,
  ⟨(some 4), none, .mov (.t 21)⟩]) (.ret))))))
def laws_markVat_r : List RS := [.t 4]
theorem laws_markVat_e {a0 a1 : AV} {h : AH} {K : AV → AH → Prop} (hw : TC Try.prog Θ Γ laws_markVat_c (retQ laws_markVat_r K) ⟨[a0, a1, u, u, u, u, u, u, u, u, u, u, u, u, u, u, u, u, u, u, u, u], [], h⟩) : T Try.prog Γ Fn.laws_markVat [a0, a1] h K :=
  T_of_body tabOK Try.func56 (code := bodyOf Try.f56) (by kernel_rfl) (by kernel_rfl) (by kernel_rfl) (by kernel_rfl) hw
def laws_heldSentS_d0_os : List O := [⟨(some 21), none, .mov (.t 0)⟩,
  ⟨(some 22), none, .mov (.t 5)⟩,
  ⟨(some 23), none, .idxs 7 (.t 21) (.t 22)⟩,
  ⟨(some 24), none, .fld 1 (.t 23)⟩,
  ⟨(some 25), none, .load 1 false (.t 24)⟩,
  ⟨(some 26), none, .mov (.t 1)⟩,
  ⟨(some 27), none, .call (.c (.fn Fn.laws_markText [] [])) [.t 26]⟩,
  ⟨(some 28), none, .bin .neq (.num) (.t 25) (.t 27)⟩]
def laws_heldSentS_d0_af : List (List Nat) := [[], [], [0, 1], [2], [3], [], [5], [4, 6]]
theorem laws_heldSentS_d0_q (gl : Gl) (Q : AE → St → Prop) (s : St) : aw Try.prog Θ Γ gl (.regD laws_heldSentS_d0_os laws_heldSentS_d0_af) Q s = awpT Try.prog Γ gl [⟨(some 21), none, .mov (.t 0)⟩,
  ⟨(some 22), none, .mov (.t 5)⟩,
  ⟨(some 23), none, .idxs 7 (.t 21) (.t 22)⟩,
  ⟨(some 24), none, .fld 1 (.t 23)⟩,
  ⟨(some 25), none, .load 1 false (.t 24)⟩,
  ⟨(some 26), none, .mov (.t 1)⟩,
  ⟨(some 27), none, .call (.c (.fn Fn.laws_markText [] [])) [.t 26]⟩,
  ⟨(some 28), none, .bin .neq (.num) (.t 25) (.t 27)⟩] (Q .normal) 8 (.q 0 (.q 1 (.q 2 (.q 3 (.q 4 (.q 5 (.all [(6, .q 7 (.done))]))))))) s := a_dd rfl (by kernel_rfl) gl Q s
def laws_heldSentS_c : C := .seq (.reg [⟨(some 4), none, .mov (.c (.int .i64 0))⟩]) (.seq (.seq (.reg [⟨(some 5), none, .mov (.c (.int .i64 0))⟩]) (.block 0 (.loop (.seq (.seq (.reg [⟨(some 6), none, .mov (.t 5)⟩,
  ⟨(some 7), none, .mov (.t 0)⟩,
  ⟨(some 8), none, .len false (.t 7)⟩,
  ⟨(some 9), none, .bin .lss (.num) (.t 6) (.t 8)⟩]) (.cond (.t 9) (.skip) (.exit 0))) (.seq (.block 1 (.seq (.seq (.reg [⟨(some 12), none, .mov (.t 0)⟩,
  ⟨(some 13), none, .mov (.t 5)⟩,
  ⟨(some 14), none, .idxs 7 (.t 12) (.t 13)⟩,
  ⟨(some 15), none, .fld 0 (.t 14)⟩,
  ⟨(some 16), none, .load 1 false (.t 15)⟩,
  ⟨(some 17), none, .mov (.t 1)⟩,
  ⟨(some 18), none, .bin .neq (.num) (.t 16) (.t 17)⟩]) (.cond (.t 18) (.seq (.reg [⟨(some 4), none, .mov (.c (.int .i64 (-1)))⟩]) (.ret)) (.skip))) (.seq (.reg [⟨(some 19), none, .mov (.t 1)⟩,
  ⟨(some 20), none, .bin .add (.num) (.t 19) (.c (.int .i64 1))⟩,
  ⟨(some 1), none, .mov (.t 20)⟩]) (.seq (.seq (.regD laws_heldSentS_d0_os laws_heldSentS_d0_af) (.cond (.t 28) (.seq (.reg [⟨(some 4), none, .mov (.c (.int .i64 (-1)))⟩]) (.ret)) (.skip))) (.seq (.reg [⟨(some 29), none, .mov (.t 1)⟩,
  ⟨(some 30), none, .bin .add (.num) (.t 29) (.c (.int .i64 1))⟩,
  ⟨(some 1), none, .mov (.t 30)⟩]) (.seq (.reg [⟨(some 31), none, .mov (.t 0)⟩,
  ⟨(some 32), none, .mov (.t 5)⟩,
  ⟨(some 33), none, .idxs 7 (.t 31) (.t 32)⟩,
  ⟨(some 34), none, .fld 2 (.t 33)⟩,
  ⟨(some 35), none, .load 1 false (.t 34)⟩,
  ⟨(some 36), none, .mov (.t 1)⟩,
  ⟨(some 37), none, .call (.c (.fn Fn.laws_heldValueS [] [])) [.t 35, .t 36]⟩,
  ⟨(some 1), none, .mov (.t 37)⟩]) (.seq (.seq (.reg [⟨(some 38), none, .mov (.t 1)⟩,
  ⟨(some 39), none, .bin .lss (.num) (.t 38) (.c (.int .i64 0))⟩]) (.cond (.t 39) (.seq (.reg [⟨(some 4), none, .mov (.c (.int .i64 (-1)))⟩]) (.ret)) (.skip))) (.seq (.seq (.reg [⟨(some 40), none, .mov (.t 0)⟩,
  ⟨(some 41), none, .mov (.t 5)⟩,
  ⟨(some 42), none, .idxs 7 (.t 40) (.t 41)⟩,
  ⟨(some 43), none, .fld 3 (.t 42)⟩,
  ⟨(some 44), none, .load 1 false (.t 43)⟩,
  ⟨(some 45), none, .mov (.t 1)⟩,
  ⟨(some 46), none, .bin .neq (.num) (.t 44) (.t 45)⟩]) (.cond (.t 46) (.seq (.reg [⟨(some 4), none, .mov (.c (.int .i64 (-1)))⟩]) (.ret)) (.skip))) (.seq (.reg [⟨(some 47), none, .mov (.t 1)⟩,
  ⟨(some 48), none, .bin .add (.num) (.t 47) (.c (.int .i64 1))⟩,
  ⟨(some 1), none, .mov (.t 48)⟩]) (.seq (.seq (.reg [⟨(some 49), none, .mov (.t 0)⟩,
  ⟨(some 50), none, .mov (.t 5)⟩,
  ⟨(some 51), none, .idxs 7 (.t 49) (.t 50)⟩,
  ⟨(some 52), none, .fld 4 (.t 51)⟩,
  ⟨(some 53), none, .fld 0 (.t 52)⟩,
  ⟨(some 54), none, .load 1 false (.t 53)⟩,
  ⟨(some 55), none, .mov (.t 1)⟩,
  ⟨(some 56), none, .bin .neq (.num) (.t 54) (.t 55)⟩]) (.cond (.t 56) (.seq (.reg [⟨(some 4), none, .mov (.c (.int .i64 (-1)))⟩]) (.ret)) (.skip))) (.seq (.reg [⟨(some 57), none, .mov (.t 1)⟩,
  ⟨(some 58), none, .bin .add (.num) (.t 57) (.c (.int .i64 1))⟩,
  ⟨(some 1), none, .mov (.t 58)⟩]) (.seq (.seq (.reg [⟨(some 59), none, .mov (.t 0)⟩,
  ⟨(some 60), none, .mov (.t 5)⟩,
  ⟨(some 61), none, .idxs 7 (.t 59) (.t 60)⟩,
  ⟨(some 62), none, .fld 4 (.t 61)⟩,
  ⟨(some 63), none, .fld 1 (.t 62)⟩,
  ⟨(some 64), none, .load 1 false (.t 63)⟩,
  ⟨(some 65), none, .mov (.t 1)⟩,
  ⟨(some 66), none, .bin .neq (.num) (.t 64) (.t 65)⟩]) (.cond (.t 66) (.seq (.reg [⟨(some 4), none, .mov (.c (.int .i64 (-1)))⟩]) (.ret)) (.skip))) (.seq (.reg [⟨(some 67), none, .mov (.t 1)⟩,
  ⟨(some 68), none, .bin .add (.num) (.t 67) (.c (.int .i64 1))⟩,
  ⟨(some 1), none, .mov (.t 68)⟩]) (.seq (.seq (.reg [⟨(some 69), none, .mov (.t 0)⟩,
  ⟨(some 70), none, .mov (.t 5)⟩,
  ⟨(some 71), none, .idxs 7 (.t 69) (.t 70)⟩,
  ⟨(some 72), none, .fld 4 (.t 71)⟩,
  ⟨(some 73), none, .fld 2 (.t 72)⟩,
  ⟨(some 74), none, .load 1 false (.t 73)⟩,
  ⟨(some 75), none, .mov (.t 1)⟩,
  ⟨(some 76), none, .bin .neq (.num) (.t 74) (.t 75)⟩]) (.cond (.t 76) (.seq (.reg [⟨(some 4), none, .mov (.c (.int .i64 (-1)))⟩]) (.ret)) (.skip))) (.reg [⟨(some 77), none, .mov (.t 1)⟩,
  ⟨(some 78), none, .bin .add (.num) (.t 77) (.c (.int .i64 1))⟩,
  ⟨(some 1), none, .mov (.t 78)⟩]))))))))))))))) (.reg [⟨(some 10), none, .mov (.t 5)⟩,
  ⟨(some 11), none, .bin .add (.num) (.t 10) (.c (.int .i64 1))⟩,
  ⟨(some 5), none, .mov (.t 11)⟩])))))) (.seq (.reg [⟨(some 79), none, .mov (.t 1)⟩,
  ⟨(some 4), none, .mov (.t 79)⟩]) (.ret)))
def laws_heldSentS_r : List RS := [.t 4]
def laws_heldSentS_s0 (t0 t1 t5 : AV) (loc : List (List AV)) (h : AH) : St := ⟨[t0, t1, .any, .any, .any, t5, .any, .any, .any, .any, .any, .any, .any, .any, .any, .any, .any, .any, .any, .any, .any, .any, .any, .any, .any, .any, .any, .any, .any, .any, .any, .any, .any, .any, .any, .any, .any, .any, .any, .any, .any, .any, .any, .any, .any, .any, .any, .any, .any, .any, .any, .any, .any, .any, .any, .any, .any, .any, .any, .any, .any, .any, .any, .any, .any, .any, .any, .any, .any, .any, .any, .any, .any, .any, .any, .any, .any, .any, .any, .any], loc, h⟩
theorem laws_heldSentS_e {a0 a1 : AV} {h : AH} {K : AV → AH → Prop} (hw : TC Try.prog Θ Γ laws_heldSentS_c (retQ laws_heldSentS_r K) ⟨[a0, a1, u, u, u, u, u, u, u, u, u, u, u, u, u, u, u, u, u, u, u, u, u, u, u, u, u, u, u, u, u, u, u, u, u, u, u, u, u, u, u, u, u, u, u, u, u, u, u, u, u, u, u, u, u, u, u, u, u, u, u, u, u, u, u, u, u, u, u, u, u, u, u, u, u, u, u, u, u, u], [], h⟩) : T Try.prog Γ Fn.laws_heldSentS [a0, a1] h K :=
  T_of_body tabOK Try.func57 (code := bodyOf Try.f57) (by kernel_rfl) (by kernel_rfl) (by kernel_rfl) (by kernel_rfl) hw
def laws_szSent_c : C := .seq (.reg [⟨(some 2), none, .box (.t 0)⟩,
  ⟨(some 4), none, .mov (.c (.int .i64 0))⟩]) (.seq (.reg [⟨(some 5), none, .mov (.t 1)⟩,
  ⟨(some 6), none, .fld 1 (.t 2)⟩,
  ⟨(some 7), none, .load 1 false (.t 6)⟩,
  ⟨(some 8), none, .len true (.t 7)⟩,
  ⟨(some 9), none, .bin .sub (.num) (.t 5) (.t 8)⟩,
  ⟨(some 1), none, .mov (.t 9)⟩]) (.seq (.seq (.reg [⟨(some 10), none, .mov (.t 1)⟩,
  ⟨(some 11), none, .bin .lss (.num) (.t 10) (.c (.int .i64 0))⟩]) (.cond (.t 11) (.seq (.reg [⟨(some 4), none, .mov (.c (.int .i64 (-1)))⟩]) (.ret)) (.skip))) (.seq (.reg [⟨(some 12), none, .fld 2 (.t 2)⟩,
  ⟨(some 13), none, .load 1 false (.t 12)⟩,
  ⟨(some 14), none, .mov (.t 1)⟩,
  ⟨(some 15), none, .call (.c (.fn Fn.laws_szValueS [] [])) [.t 13, .t 14]⟩,
  ⟨(some 1), none, .mov (.t 15)⟩]) (.seq (.seq (.reg [⟨(some 16), none, .mov (.t 1)⟩,
  ⟨(some 17), none, .bin .lss (.num) (.t 16) (.c (.int .i64 0))⟩]) (.cond (.t 17) (.seq (.reg [⟨(some 4), none, .mov (.c (.int .i64 (-1)))⟩]) (.ret)) (.skip))) (.seq (.reg [⟨(some 18), none, .mov (.t 1)⟩,
  ⟨(some 4), none, .mov (.t 18)⟩]) (.ret))))))
def laws_szSent_r : List RS := [.t 4]
theorem laws_szSent_e {a0 a1 : AV} {h : AH} {K : AV → AH → Prop} (hw : TC Try.prog Θ Γ laws_szSent_c (retQ laws_szSent_r K) ⟨[a0, a1, u, u, u, u, u, u, u, u, u, u, u, u, u, u, u, u, u], [], h⟩) : T Try.prog Γ Fn.laws_szSent [a0, a1] h K :=
  T_of_body tabOK Try.func58 (code := bodyOf Try.f58) (by kernel_rfl) (by kernel_rfl) (by kernel_rfl) (by kernel_rfl) hw
def laws_toSent_c : C := .seq (.reg [⟨(some 1), none, .box (.t 0)⟩,
  ⟨(some 2), none, .alloc [.int .i64 0, .str ⟨#[]⟩, .nils, .int .i64 0, .int .i64 0, .int .i64 0, .int .i64 0]⟩]) (.seq (.reg [⟨(some 3), none, .alloc [.int .i64 0, .str ⟨#[]⟩, .nils, .int .i64 0, .int .i64 0, .int .i64 0, .int .i64 0]⟩]) (.seq (.reg [⟨(some 4), none, .fld 0 (.t 1)⟩,
  ⟨(some 5), none, .load 1 false (.t 4)⟩,
  ⟨(some 6), none, .fld 0 (.t 3)⟩,
  ⟨none, none, .store 1 (.t 6) (.t 5)⟩]) (.seq (.reg [⟨(some 7), none, .fld 1 (.t 1)⟩,
  ⟨(some 8), none, .load 1 false (.t 7)⟩,
  ⟨(some 9), none, .fld 1 (.t 3)⟩,
  ⟨none, none, .store 1 (.t 9) (.t 8)⟩]) (.seq (.reg [⟨(some 10), none, .fld 2 (.t 1)⟩,
  ⟨(some 11), none, .load 1 false (.t 10)⟩,
  ⟨(some 12), none, .call (.c (.fn Fn.laws_toValueS [] [])) [.t 11]⟩,
  ⟨(some 13), none, .fld 2 (.t 3)⟩,
  ⟨none, none, .store 1 (.t 13) (.t 12)⟩]) (.seq (.reg [⟨(some 14), none, .fld 3 (.t 1)⟩,
  ⟨(some 15), none, .load 1 false (.t 14)⟩,
  ⟨(some 16), none, .fld 3 (.t 3)⟩,
  ⟨none, none, .store 1 (.t 16) (.t 15)⟩]) (.seq (.reg [⟨(some 17), none, .fld 4 (.t 1)⟩,
  ⟨(some 18), none, .load 3 true (.t 17)⟩,
  ⟨(some 19), none, .call (.c (.fn Fn.laws_toTag [] [])) [.t 18]⟩,
  ⟨(some 20), none, .fld 4 (.t 3)⟩,
  ⟨none, none, .store 3 (.t 20) (.t 19)⟩]) (.seq (.reg [⟨(some 21), none, .load 7 true (.t 3)⟩,
  ⟨none, none, .store 7 (.t 2) (.t 21)⟩]) (.ret))))))))
def laws_toSent_r : List RS := [.cell 2 7 true]
theorem laws_toSent_e {a0 : AV} {h : AH} {K : AV → AH → Prop} (hw : TC Try.prog Θ Γ laws_toSent_c (retQ laws_toSent_r K) ⟨[a0, u, u, u, u, u, u, u, u, u, u, u, u, u, u, u, u, u, u, u, u, u], [], h⟩) : T Try.prog Γ Fn.laws_toSent [a0] h K :=
  T_of_body tabOK Try.func60 (code := bodyOf Try.f60) (by kernel_rfl) (by kernel_rfl) (by kernel_rfl) (by kernel_rfl) hw
def laws_eqSent_c : C := .seq (.reg [⟨(some 2), none, .box (.t 0)⟩,
  ⟨(some 3), none, .box (.t 1)⟩,
  ⟨(some 4), none, .mov (.c (.bool false))⟩]) (.seq (.seq (.reg [⟨(some 5), none, .fld 0 (.t 2)⟩,
  ⟨(some 6), none, .load 1 false (.t 5)⟩,
  ⟨(some 7), none, .fld 0 (.t 3)⟩,
  ⟨(some 8), none, .load 1 false (.t 7)⟩,
  ⟨(some 9), none, .bin .neq (.num) (.t 6) (.t 8)⟩]) (.cond (.t 9) (.seq (.reg [⟨(some 4), none, .mov (.c (.bool false))⟩]) (.ret)) (.skip))) (.seq (.seq (.reg [⟨(some 10), none, .fld 1 (.t 2)⟩,
  ⟨(some 11), none, .load 1 false (.t 10)⟩,
  ⟨(some 12), none, .fld 1 (.t 3)⟩,
  ⟨(some 13), none, .load 1 false (.t 12)⟩,
  ⟨(some 14), none, .bin .neq (.num) (.t 11) (.t 13)⟩]) (.cond (.t 14) (.seq (.reg [⟨(some 4), none, .mov (.c (.bool false))⟩]) (.ret)) (.skip))) (.seq (.seq (.reg [⟨(some 15), none, .fld 2 (.t 2)⟩,
  ⟨(some 16), none, .load 1 false (.t 15)⟩,
  ⟨(some 17), none, .fld 2 (.t 3)⟩,
  ⟨(some 18), none, .load 1 false (.t 17)⟩,
  ⟨(some 19), none, .call (.c (.fn Fn.laws_eqValueS [] [])) [.t 16, .t 18]⟩,
  ⟨(some 20), none, .un .not (.t 19)⟩]) (.cond (.t 20) (.seq (.reg [⟨(some 4), none, .mov (.c (.bool false))⟩]) (.ret)) (.skip))) (.seq (.seq (.reg [⟨(some 21), none, .fld 3 (.t 2)⟩,
  ⟨(some 22), none, .load 1 false (.t 21)⟩,
  ⟨(some 23), none, .fld 3 (.t 3)⟩,
  ⟨(some 24), none, .load 1 false (.t 23)⟩,
  ⟨(some 25), none, .bin .neq (.num) (.t 22) (.t 24)⟩]) (.cond (.t 25) (.seq (.reg [⟨(some 4), none, .mov (.c (.bool false))⟩]) (.ret)) (.skip))) (.seq (.seq (.reg [⟨(some 26), none, .fld 4 (.t 2)⟩,
  ⟨(some 27), none, .load 3 true (.t 26)⟩,
  ⟨(some 28), none, .fld 4 (.t 3)⟩,
  ⟨(some 29), none, .load 3 true (.t 28)⟩,
  ⟨(some 30), none, .call (.c (.fn Fn.laws_eqTag [] [])) [.t 27, .t 29]⟩,
  ⟨(some 31), none, .un .not (.t 30)⟩]) (.cond (.t 31) (.seq (.reg [⟨(some 4), none, .mov (.c (.bool false))⟩]) (.ret)) (.skip))) (.seq (.reg [⟨(some 4), none, .mov (.c (.bool true))⟩]) (.ret)))))))
def laws_eqSent_r : List RS := [.t 4]
theorem laws_eqSent_e {a0 a1 : AV} {h : AH} {K : AV → AH → Prop} (hw : TC Try.prog Θ Γ laws_eqSent_c (retQ laws_eqSent_r K) ⟨[a0, a1, u, u, u, u, u, u, u, u, u, u, u, u, u, u, u, u, u, u, u, u, u, u, u, u, u, u, u, u, u, u], [], h⟩) : T Try.prog Γ Fn.laws_eqSent [a0, a1] h K :=
  T_of_body tabOK Try.func62 (code := bodyOf Try.f62) (by kernel_rfl) (by kernel_rfl) (by kernel_rfl) (by kernel_rfl) hw
def laws_markText_c : C := .seq (.reg [⟨(some 2), none, .mov (.c (.str ⟨#[]⟩))⟩]) (.seq (.seq (.reg [⟨(some 4), none, .mov (.t 0)⟩,
  ⟨(some 5), none, .bin .leq (.num) (.t 4) (.c (.int .i64 0))⟩]) (.cond (.t 5) (.seq (.reg [⟨(some 2), none, .mov (.c (.str ⟨#[109, 48]⟩))⟩]) (.ret)) (.skip))) (.seq (.reg [⟨(some 3), none, .mov (.c (.str ⟨#[]⟩))⟩]) (.seq (.block 0 (.loop (.seq (.seq (.reg [⟨(some 6), none, .mov (.t 0)⟩,
  ⟨(some 7), none, .bin .gtr (.num) (.t 6) (.c (.int .i64 0))⟩]) (.cond (.t 7) (.skip) (.exit 0))) (.block 1 (.seq (.reg [⟨(some 8), none, .mov (.t 0)⟩,
  ⟨(some 9), none, .bin .rem (.num) (.t 8) (.c (.int .i64 10))⟩,
  ⟨(some 10), none, .bin .add (.num) (.c (.int .i64 48)) (.t 9)⟩,
  ⟨(some 11), none, .cvi .u8 (.t 10)⟩,
  ⟨(some 12), none, .bsl 1 1 [.int .u8 0] [(0, .t 11)]⟩,
  ⟨(some 13), none, .cvt (.t 12)⟩,
  ⟨(some 14), none, .mov (.t 3)⟩,
  ⟨(some 15), none, .bin .add (.num) (.t 13) (.t 14)⟩,
  ⟨(some 3), none, .mov (.t 15)⟩]) (.reg [⟨(some 16), none, .mov (.t 0)⟩,
  ⟨(some 17), none, .bin .quo (.num) (.t 16) (.c (.int .i64 10))⟩,
  ⟨(some 0), none, .mov (.t 17)⟩])))))) (.seq (.reg [⟨(some 18), none, .mov (.t 3)⟩,
  ⟨(some 19), none, .bin .add (.num) (.c (.str ⟨#[109]⟩)) (.t 18)⟩,
  ⟨(some 2), none, .mov (.t 19)⟩]) (.ret)))))
def laws_markText_r : List RS := [.t 2]
def laws_markText_s0 (t0 t3 : AV) (loc : List (List AV)) (h : AH) : St := ⟨[t0, .any, .any, t3, .any, .any, .any, .any, .any, .any, .any, .any, .any, .any, .any, .any, .any, .any, .any, .any], loc, h⟩
theorem laws_markText_e {a0 : AV} {h : AH} {K : AV → AH → Prop} (hw : TC Try.prog Θ Γ laws_markText_c (retQ laws_markText_r K) ⟨[a0, u, u, u, u, u, u, u, u, u, u, u, u, u, u, u, u, u, u, u], [], h⟩) : T Try.prog Γ Fn.laws_markText [a0] h K :=
  T_of_body tabOK Try.func63 (code := bodyOf Try.f63) (by kernel_rfl) (by kernel_rfl) (by kernel_rfl) (by kernel_rfl) hw
def laws_markValueS_c : C := .seq (.reg [⟨(some 4), none, .mov (.c (.int .i64 0))⟩]) (.seq (.seq (.reg [⟨(some 5), none, .mov (.c (.int .i64 0))⟩]) (.block 0 (.loop (.seq (.seq (.reg [⟨(some 6), none, .mov (.t 5)⟩,
  ⟨(some 7), none, .mov (.t 0)⟩,
  ⟨(some 8), none, .len false (.t 7)⟩,
  ⟨(some 9), none, .bin .lss (.num) (.t 6) (.t 8)⟩]) (.cond (.t 9) (.skip) (.exit 0))) (.seq (.block 1 (.seq (.reg [⟨(some 12), none, .mov (.t 0)⟩,
  ⟨(some 13), none, .mov (.t 5)⟩,
  ⟨(some 14), none, .mov (.t 1)⟩,
  ⟨(some 15), none, .idxs 2 (.t 12) (.t 13)⟩,
  ⟨(some 16), none, .fld 0 (.t 15)⟩,
  ⟨none, none, .store 1 (.t 16) (.t 14)⟩]) (.seq (.reg [⟨(some 17), none, .mov (.t 1)⟩,
  ⟨(some 18), none, .bin .add (.num) (.t 17) (.c (.int .i64 1))⟩,
  ⟨(some 1), none, .mov (.t 18)⟩]) (.seq (.reg [⟨(some 19), none, .mov (.t 0)⟩,
  ⟨(some 20), none, .mov (.t 5)⟩,
  ⟨(some 21), none, .mov (.t 1)⟩,
  ⟨(some 22), none, .idxs 2 (.t 19) (.t 20)⟩,
  ⟨(some 23), none, .fld 1 (.t 22)⟩,
  ⟨none, none, .store 1 (.t 23) (.t 21)⟩]) (.reg [⟨(some 24), none, .mov (.t 1)⟩,
  ⟨(some 25), none, .bin .add (.num) (.t 24) (.c (.int .i64 1))⟩,
  ⟨(some 1), none, .mov (.t 25)⟩]))))) (.reg [⟨(some 10), none, .mov (.t 5)⟩,
  ⟨(some 11), none, .bin .add (.num) (.t 10) (.c (.int .i64 1))⟩,
  ⟨(some 5), none, .mov (.t 11)⟩])))))) (.seq (.reg [⟨(some 26), none, .mov (.t 1)⟩,
  ⟨(some 4), none, .mov (.t 26)⟩]) (.ret)))
def laws_markValueS_r : List RS := [.t 4]
def laws_markValueS_s0 (t0 t1 t5 : AV) (loc : List (List AV)) (h : AH) : St := ⟨[t0, t1, .any, .any, .any, t5, .any, .any, .any, .any, .any, .any, .any, .any, .any, .any, .any, .any, .any, .any, .any, .any, .any, .any, .any, .any, .any], loc, h⟩
theorem laws_markValueS_e {a0 a1 : AV} {h : AH} {K : AV → AH → Prop} (hw : TC Try.prog Θ Γ laws_markValueS_c (retQ laws_markValueS_r K) ⟨[a0, a1, u, u, u, u, u, u, u, u, u, u, u, u, u, u, u, u, u, u, u, u, u, u, u, u, u], [], h⟩) : T Try.prog Γ Fn.laws_markValueS [a0, a1] h K :=
  T_of_body tabOK Try.func64 (code := bodyOf Try.f64) (by kernel_rfl) (by kernel_rfl) (by kernel_rfl) (by kernel_rfl) hw
def laws_szOutgoing_c : C := .seq (.reg [⟨(some 2), none, .box (.t 0)⟩,
  ⟨(some 4), none, .mov (.c (.int .i64 0))⟩]) (.seq (.reg [⟨(some 5), none, .fld 1 (.t 2)⟩,
  ⟨(some 6), none, .load 12 true (.t 5)⟩,
  ⟨(some 7), none, .mov (.t 1)⟩,
  ⟨(some 8), none, .call (.c (.fn Fn.laws_szMessage [] [])) [.t 6, .t 7]⟩,
  ⟨(some 1), none, .mov (.t 8)⟩]) (.seq (.seq (.reg [⟨(some 9), none, .mov (.t 1)⟩,
  ⟨(some 10), none, .bin .lss (.num) (.t 9) (.c (.int .i64 0))⟩]) (.cond (.t 10) (.seq (.reg [⟨(some 4), none, .mov (.c (.int .i64 (-1)))⟩]) (.ret)) (.skip))) (.seq (.reg [⟨(some 11), none, .mov (.t 1)⟩,
  ⟨(some 4), none, .mov (.t 11)⟩]) (.ret))))
def laws_szOutgoing_r : List RS := [.t 4]
theorem laws_szOutgoing_e {a0 a1 : AV} {h : AH} {K : AV → AH → Prop} (hw : TC Try.prog Θ Γ laws_szOutgoing_c (retQ laws_szOutgoing_r K) ⟨[a0, a1, u, u, u, u, u, u, u, u, u, u], [], h⟩) : T Try.prog Γ Fn.laws_szOutgoing [a0, a1] h K :=
  T_of_body tabOK Try.func77 (code := bodyOf Try.f77) (by kernel_rfl) (by kernel_rfl) (by kernel_rfl) (by kernel_rfl) hw
def laws_toOutgoing_c : C := .seq (.reg [⟨(some 1), none, .box (.t 0)⟩,
  ⟨(some 2), none, .alloc [.int .i64 0, .int .i64 0, .int .i64 0, .int .i64 0, .int .i64 0, .str ⟨#[]⟩, .nils, .int .i64 0, .int .i64 0, .int .i64 0, .int .i64 0, .int .i64 0, .int .i64 0]⟩]) (.seq (.reg [⟨(some 3), none, .alloc [.int .i64 0, .int .i64 0, .int .i64 0, .int .i64 0, .int .i64 0, .str ⟨#[]⟩, .nils, .int .i64 0, .int .i64 0, .int .i64 0, .int .i64 0, .int .i64 0, .int .i64 0]⟩]) (.seq (.reg [⟨(some 4), none, .fld 0 (.t 1)⟩,
  ⟨(some 5), none, .load 1 false (.t 4)⟩,
  ⟨(some 6), none, .fld 0 (.t 3)⟩,
  ⟨none, none, .store 1 (.t 6) (.t 5)⟩]) (.seq (.reg [⟨(some 7), none, .fld 1 (.t 1)⟩,
  ⟨(some 8), none, .load 12 true (.t 7)⟩,
  ⟨(some 9), none, .call (.c (.fn Fn.laws_toMessage [] [])) [.t 8]⟩,
  ⟨(some 10), none, .fld 1 (.t 3)⟩,
  ⟨none, none, .store 12 (.t 10) (.t 9)⟩]) (.seq (.reg [⟨(some 11), none, .load 13 true (.t 3)⟩,
  ⟨none, none, .store 13 (.t 2) (.t 11)⟩]) (.ret)))))
def laws_toOutgoing_r : List RS := [.cell 2 13 true]
theorem laws_toOutgoing_e {a0 : AV} {h : AH} {K : AV → AH → Prop} (hw : TC Try.prog Θ Γ laws_toOutgoing_c (retQ laws_toOutgoing_r K) ⟨[a0, u, u, u, u, u, u, u, u, u, u, u], [], h⟩) : T Try.prog Γ Fn.laws_toOutgoing [a0] h K :=
  T_of_body tabOK Try.func79 (code := bodyOf Try.f79) (by kernel_rfl) (by kernel_rfl) (by kernel_rfl) (by kernel_rfl) hw
def laws_eqOutgoing_c : C := .seq (.reg [⟨(some 2), none, .box (.t 0)⟩,
  ⟨(some 3), none, .box (.t 1)⟩,
  ⟨(some 4), none, .mov (.c (.bool false))⟩]) (.seq (.seq (.reg [⟨(some 5), none, .fld 0 (.t 2)⟩,
  ⟨(some 6), none, .load 1 false (.t 5)⟩,
  ⟨(some 7), none, .fld 0 (.t 3)⟩,
  ⟨(some 8), none, .load 1 false (.t 7)⟩,
  ⟨(some 9), none, .bin .neq (.num) (.t 6) (.t 8)⟩]) (.cond (.t 9) (.seq (.reg [⟨(some 4), none, .mov (.c (.bool false))⟩]) (.ret)) (.skip))) (.seq (.seq (.reg [⟨(some 10), none, .fld 1 (.t 2)⟩,
  ⟨(some 11), none, .load 12 true (.t 10)⟩,
  ⟨(some 12), none, .fld 1 (.t 3)⟩,
  ⟨(some 13), none, .load 12 true (.t 12)⟩,
  ⟨(some 14), none, .call (.c (.fn Fn.laws_eqMessage [] [])) [.t 11, .t 13]⟩,
  ⟨(some 15), none, .un .not (.t 14)⟩]) (.cond (.t 15) (.seq (.reg [⟨(some 4), none, .mov (.c (.bool false))⟩]) (.ret)) (.skip))) (.seq (.reg [⟨(some 4), none, .mov (.c (.bool true))⟩]) (.ret))))
def laws_eqOutgoing_r : List RS := [.t 4]
theorem laws_eqOutgoing_e {a0 a1 : AV} {h : AH} {K : AV → AH → Prop} (hw : TC Try.prog Θ Γ laws_eqOutgoing_c (retQ laws_eqOutgoing_r K) ⟨[a0, a1, u, u, u, u, u, u, u, u, u, u, u, u, u, u], [], h⟩) : T Try.prog Γ Fn.laws_eqOutgoing [a0, a1] h K :=
  T_of_body tabOK Try.func83 (code := bodyOf Try.f83) (by kernel_rfl) (by kernel_rfl) (by kernel_rfl) (by kernel_rfl) hw
def laws_szEntityS_c : C := .seq (.reg [⟨(some 4), none, .mov (.c (.int .i64 0))⟩]) (.seq (.reg [⟨(some 6), none, .mov (.t 1)⟩,
  ⟨(some 7), none, .mov (.t 0)⟩,
  ⟨(some 8), none, .len false (.t 7)⟩,
  ⟨(some 9), none, .bin .sub (.num) (.t 6) (.t 8)⟩,
  ⟨(some 1), none, .mov (.t 9)⟩]) (.seq (.seq (.reg [⟨(some 10), none, .mov (.t 1)⟩,
  ⟨(some 11), none, .bin .lss (.num) (.t 10) (.c (.int .i64 0))⟩]) (.cond (.t 11) (.seq (.reg [⟨(some 4), none, .mov (.c (.int .i64 (-1)))⟩]) (.ret)) (.skip))) (.seq (.seq (.reg [⟨(some 5), none, .mov (.c (.int .i64 0))⟩]) (.block 0 (.loop (.seq (.seq (.reg [⟨(some 12), none, .mov (.t 5)⟩,
  ⟨(some 13), none, .mov (.t 0)⟩,
  ⟨(some 14), none, .len false (.t 13)⟩,
  ⟨(some 15), none, .bin .lss (.num) (.t 12) (.t 14)⟩]) (.cond (.t 15) (.skip) (.exit 0))) (.seq (.block 1 (.seq (.reg [⟨(some 18), none, .mov (.t 0)⟩,
  ⟨(some 19), none, .mov (.t 5)⟩,
  ⟨(some 20), none, .idxs 12 (.t 18) (.t 19)⟩,
  ⟨(some 21), none, .load 12 true (.t 20)⟩,
  ⟨(some 22), none, .mov (.t 1)⟩,
  ⟨(some 23), none, .call (.c (.fn Fn.laws_szEntity [] [])) [.t 21, .t 22]⟩,
  ⟨(some 1), none, .mov (.t 23)⟩]) (.seq (.reg [⟨(some 24), none, .mov (.t 1)⟩,
  ⟨(some 25), none, .bin .lss (.num) (.t 24) (.c (.int .i64 0))⟩]) (.cond (.t 25) (.seq (.reg [⟨(some 4), none, .mov (.c (.int .i64 (-1)))⟩]) (.ret)) (.skip))))) (.reg [⟨(some 16), none, .mov (.t 5)⟩,
  ⟨(some 17), none, .bin .add (.num) (.t 16) (.c (.int .i64 1))⟩,
  ⟨(some 5), none, .mov (.t 17)⟩])))))) (.seq (.reg [⟨(some 26), none, .mov (.t 1)⟩,
  ⟨(some 4), none, .mov (.t 26)⟩]) (.ret)))))
def laws_szEntityS_r : List RS := [.t 4]
def laws_szEntityS_s0 (t0 t1 t5 : AV) (loc : List (List AV)) (h : AH) : St := ⟨[t0, t1, .any, .any, .any, t5, .any, .any, .any, .any, .any, .any, .any, .any, .any, .any, .any, .any, .any, .any, .any, .any, .any, .any, .any, .any, .any], loc, h⟩
theorem laws_szEntityS_e {a0 a1 : AV} {h : AH} {K : AV → AH → Prop} (hw : TC Try.prog Θ Γ laws_szEntityS_c (retQ laws_szEntityS_r K) ⟨[a0, a1, u, u, u, u, u, u, u, u, u, u, u, u, u, u, u, u, u, u, u, u, u, u, u, u, u], [], h⟩) : T Try.prog Γ Fn.laws_szEntityS [a0, a1] h K :=
  T_of_body tabOK Try.func84 (code := bodyOf Try.f84) (by kernel_rfl) (by kernel_rfl) (by kernel_rfl) (by kernel_rfl) hw
def laws_szLinkS_c : C := .seq (.reg [⟨(some 4), none, .mov (.c (.int .i64 0))⟩]) (.seq (.reg [⟨(some 6), none, .mov (.t 1)⟩,
  ⟨(some 7), none, .mov (.t 0)⟩,
  ⟨(some 8), none, .len false (.t 7)⟩,
  ⟨(some 9), none, .bin .sub (.num) (.t 6) (.t 8)⟩,
  ⟨(some 1), none, .mov (.t 9)⟩]) (.seq (.seq (.reg [⟨(some 10), none, .mov (.t 1)⟩,
  ⟨(some 11), none, .bin .lss (.num) (.t 10) (.c (.int .i64 0))⟩]) (.cond (.t 11) (.seq (.reg [⟨(some 4), none, .mov (.c (.int .i64 (-1)))⟩]) (.ret)) (.skip))) (.seq (.seq (.reg [⟨(some 5), none, .mov (.c (.int .i64 0))⟩]) (.block 0 (.loop (.seq (.seq (.reg [⟨(some 12), none, .mov (.t 5)⟩,
  ⟨(some 13), none, .mov (.t 0)⟩,
  ⟨(some 14), none, .len false (.t 13)⟩,
  ⟨(some 15), none, .bin .lss (.num) (.t 12) (.t 14)⟩]) (.cond (.t 15) (.skip) (.exit 0))) (.seq (.block 1 (.seq (.reg [⟨(some 18), none, .mov (.t 0)⟩,
  ⟨(some 19), none, .mov (.t 5)⟩,
  ⟨(some 20), none, .idxs 7 (.t 18) (.t 19)⟩,
  ⟨(some 21), none, .load 7 true (.t 20)⟩,
  ⟨(some 22), none, .mov (.t 1)⟩,
  ⟨(some 23), none, .call (.c (.fn Fn.laws_szLink [] [])) [.t 21, .t 22]⟩,
  ⟨(some 1), none, .mov (.t 23)⟩]) (.seq (.reg [⟨(some 24), none, .mov (.t 1)⟩,
  ⟨(some 25), none, .bin .lss (.num) (.t 24) (.c (.int .i64 0))⟩]) (.cond (.t 25) (.seq (.reg [⟨(some 4), none, .mov (.c (.int .i64 (-1)))⟩]) (.ret)) (.skip))))) (.reg [⟨(some 16), none, .mov (.t 5)⟩,
  ⟨(some 17), none, .bin .add (.num) (.t 16) (.c (.int .i64 1))⟩,
  ⟨(some 5), none, .mov (.t 17)⟩])))))) (.seq (.reg [⟨(some 26), none, .mov (.t 1)⟩,
  ⟨(some 4), none, .mov (.t 26)⟩]) (.ret)))))
def laws_szLinkS_r : List RS := [.t 4]
def laws_szLinkS_s0 (t0 t1 t5 : AV) (loc : List (List AV)) (h : AH) : St := ⟨[t0, t1, .any, .any, .any, t5, .any, .any, .any, .any, .any, .any, .any, .any, .any, .any, .any, .any, .any, .any, .any, .any, .any, .any, .any, .any, .any], loc, h⟩
theorem laws_szLinkS_e {a0 a1 : AV} {h : AH} {K : AV → AH → Prop} (hw : TC Try.prog Θ Γ laws_szLinkS_c (retQ laws_szLinkS_r K) ⟨[a0, a1, u, u, u, u, u, u, u, u, u, u, u, u, u, u, u, u, u, u, u, u, u, u, u, u, u], [], h⟩) : T Try.prog Γ Fn.laws_szLinkS [a0, a1] h K :=
  T_of_body tabOK Try.func85 (code := bodyOf Try.f85) (by kernel_rfl) (by kernel_rfl) (by kernel_rfl) (by kernel_rfl) hw
def laws_toEntityS_c : C := .seq (.reg [⟨(some 2), none, .mov (.c (.nils))⟩]) (.seq (.reg [⟨(some 5), none, .mov (.t 0)⟩,
  ⟨(some 6), none, .len false (.t 5)⟩,
  ⟨(some 7), none, .mks 12 144 [.int .i64 0, .int .i64 0, .nils, .int .i64 0, .int .i64 0, .int .i64 0, .nils, .nils, .int .i64 0, .int .i64 0, .int .i64 0, .int .i64 0] (.t 6) (.t 6)⟩,
  ⟨(some 3), none, .mov (.t 7)⟩]) (.seq (.seq (.reg [⟨(some 4), none, .mov (.c (.int .i64 0))⟩]) (.block 0 (.loop (.seq (.seq (.reg [⟨(some 8), none, .mov (.t 4)⟩,
  ⟨(some 9), none, .mov (.t 0)⟩,
  ⟨(some 10), none, .len false (.t 9)⟩,
  ⟨(some 11), none, .bin .lss (.num) (.t 8) (.t 10)⟩]) (.cond (.t 11) (.skip) (.exit 0))) (.seq (.block 1 (.reg [⟨(some 14), none, .mov (.t 3)⟩,
  ⟨(some 15), none, .mov (.t 4)⟩,
  ⟨(some 16), none, .mov (.t 0)⟩,
  ⟨(some 17), none, .mov (.t 4)⟩,
  ⟨(some 18), none, .idxs 12 (.t 16) (.t 17)⟩,
  ⟨(some 19), none, .load 12 true (.t 18)⟩,
  ⟨(some 20), none, .call (.c (.fn Fn.laws_toEntity [] [])) [.t 19]⟩,
  ⟨(some 21), none, .idxs 12 (.t 14) (.t 15)⟩,
  ⟨none, none, .store 12 (.t 21) (.t 20)⟩])) (.reg [⟨(some 12), none, .mov (.t 4)⟩,
  ⟨(some 13), none, .bin .add (.num) (.t 12) (.c (.int .i64 1))⟩,
  ⟨(some 4), none, .mov (.t 13)⟩])))))) (.seq (.reg [⟨(some 22), none, .mov (.t 3)⟩,
  ⟨(some 2), none, .mov (.t 22)⟩]) (.ret))))
def laws_toEntityS_r : List RS := [.t 2]
def laws_toEntityS_s0 (t0 t3 t4 : AV) (loc : List (List AV)) (h : AH) : St := ⟨[t0, .any, .any, t3, t4, .any, .any, .any, .any, .any, .any, .any, .any, .any, .any, .any, .any, .any, .any, .any, .any, .any, .any], loc, h⟩
theorem laws_toEntityS_e {a0 : AV} {h : AH} {K : AV → AH → Prop} (hw : TC Try.prog Θ Γ laws_toEntityS_c (retQ laws_toEntityS_r K) ⟨[a0, u, u, u, u, u, u, u, u, u, u, u, u, u, u, u, u, u, u, u, u, u, u], [], h⟩) : T Try.prog Γ Fn.laws_toEntityS [a0] h K :=
  T_of_body tabOK Try.func89 (code := bodyOf Try.f89) (by kernel_rfl) (by kernel_rfl) (by kernel_rfl) (by kernel_rfl) hw
def laws_toLinkS_c : C := .seq (.reg [⟨(some 2), none, .mov (.c (.nils))⟩]) (.seq (.reg [⟨(some 5), none, .mov (.t 0)⟩,
  ⟨(some 6), none, .len false (.t 5)⟩,
  ⟨(some 7), none, .mks 7 104 [.int .i64 0, .bool false, .nils, .int .i64 0, .nils, .int .i64 0, .nils] (.t 6) (.t 6)⟩,
  ⟨(some 3), none, .mov (.t 7)⟩]) (.seq (.seq (.reg [⟨(some 4), none, .mov (.c (.int .i64 0))⟩]) (.block 0 (.loop (.seq (.seq (.reg [⟨(some 8), none, .mov (.t 4)⟩,
  ⟨(some 9), none, .mov (.t 0)⟩,
  ⟨(some 10), none, .len false (.t 9)⟩,
  ⟨(some 11), none, .bin .lss (.num) (.t 8) (.t 10)⟩]) (.cond (.t 11) (.skip) (.exit 0))) (.seq (.block 1 (.reg [⟨(some 14), none, .mov (.t 3)⟩,
  ⟨(some 15), none, .mov (.t 4)⟩,
  ⟨(some 16), none, .mov (.t 0)⟩,
  ⟨(some 17), none, .mov (.t 4)⟩,
  ⟨(some 18), none, .idxs 7 (.t 16) (.t 17)⟩,
  ⟨(some 19), none, .load 7 true (.t 18)⟩,
  ⟨(some 20), none, .call (.c (.fn Fn.laws_toLink [] [])) [.t 19]⟩,
  ⟨(some 21), none, .idxs 7 (.t 14) (.t 15)⟩,
  ⟨none, none, .store 7 (.t 21) (.t 20)⟩])) (.reg [⟨(some 12), none, .mov (.t 4)⟩,
  ⟨(some 13), none, .bin .add (.num) (.t 12) (.c (.int .i64 1))⟩,
  ⟨(some 4), none, .mov (.t 13)⟩])))))) (.seq (.reg [⟨(some 22), none, .mov (.t 3)⟩,
  ⟨(some 2), none, .mov (.t 22)⟩]) (.ret))))
def laws_toLinkS_r : List RS := [.t 2]
def laws_toLinkS_s0 (t0 t3 t4 : AV) (loc : List (List AV)) (h : AH) : St := ⟨[t0, .any, .any, t3, t4, .any, .any, .any, .any, .any, .any, .any, .any, .any, .any, .any, .any, .any, .any, .any, .any, .any, .any], loc, h⟩
theorem laws_toLinkS_e {a0 : AV} {h : AH} {K : AV → AH → Prop} (hw : TC Try.prog Θ Γ laws_toLinkS_c (retQ laws_toLinkS_r K) ⟨[a0, u, u, u, u, u, u, u, u, u, u, u, u, u, u, u, u, u, u, u, u, u, u], [], h⟩) : T Try.prog Γ Fn.laws_toLinkS [a0] h K :=
  T_of_body tabOK Try.func90 (code := bodyOf Try.f90) (by kernel_rfl) (by kernel_rfl) (by kernel_rfl) (by kernel_rfl) hw
def laws_eqEntityS_d0_os : List O := [⟨(some 17), none, .mov (.t 0)⟩,
  ⟨(some 18), none, .mov (.t 5)⟩,
  ⟨(some 19), none, .idxs 12 (.t 17) (.t 18)⟩,
  ⟨(some 20), none, .load 12 true (.t 19)⟩,
  ⟨(some 21), none, .mov (.t 1)⟩,
  ⟨(some 22), none, .mov (.t 5)⟩,
  ⟨(some 23), none, .idxs 12 (.t 21) (.t 22)⟩,
  ⟨(some 24), none, .load 12 true (.t 23)⟩,
  ⟨(some 25), none, .call (.c (.fn Fn.laws_eqEntity [] [])) [.t 20, .t 24]⟩,
  ⟨(some 26), none, .un .not (.t 25)⟩]
def laws_eqEntityS_d0_af : List (List Nat) := [[], [], [0, 1], [2], [], [], [4, 5], [6], [3, 7], [8]]
theorem laws_eqEntityS_d0_q (gl : Gl) (Q : AE → St → Prop) (s : St) : aw Try.prog Θ Γ gl (.regD laws_eqEntityS_d0_os laws_eqEntityS_d0_af) Q s = awpT Try.prog Γ gl [⟨(some 17), none, .mov (.t 0)⟩,
  ⟨(some 18), none, .mov (.t 5)⟩,
  ⟨(some 19), none, .idxs 12 (.t 17) (.t 18)⟩,
  ⟨(some 20), none, .load 12 true (.t 19)⟩,
  ⟨(some 21), none, .mov (.t 1)⟩,
  ⟨(some 22), none, .mov (.t 5)⟩,
  ⟨(some 23), none, .idxs 12 (.t 21) (.t 22)⟩,
  ⟨(some 24), none, .load 12 true (.t 23)⟩,
  ⟨(some 25), none, .call (.c (.fn Fn.laws_eqEntity [] [])) [.t 20, .t 24]⟩,
  ⟨(some 26), none, .un .not (.t 25)⟩] (Q .normal) 10 (.q 0 (.q 1 (.q 2 (.q 3 (.q 4 (.q 5 (.q 6 (.q 7 (.all [(8, .q 9 (.done))]))))))))) s := a_dd rfl (by kernel_rfl) gl Q s
def laws_eqEntityS_c : C := .seq (.reg [⟨(some 4), none, .mov (.c (.bool false))⟩]) (.seq (.seq (.reg [⟨(some 6), none, .mov (.t 0)⟩,
  ⟨(some 7), none, .len false (.t 6)⟩,
  ⟨(some 8), none, .mov (.t 1)⟩,
  ⟨(some 9), none, .len false (.t 8)⟩,
  ⟨(some 10), none, .bin .neq (.num) (.t 7) (.t 9)⟩]) (.cond (.t 10) (.seq (.reg [⟨(some 4), none, .mov (.c (.bool false))⟩]) (.ret)) (.skip))) (.seq (.seq (.reg [⟨(some 5), none, .mov (.c (.int .i64 0))⟩]) (.block 0 (.loop (.seq (.seq (.reg [⟨(some 11), none, .mov (.t 5)⟩,
  ⟨(some 12), none, .mov (.t 0)⟩,
  ⟨(some 13), none, .len false (.t 12)⟩,
  ⟨(some 14), none, .bin .lss (.num) (.t 11) (.t 13)⟩]) (.cond (.t 14) (.skip) (.exit 0))) (.seq (.block 1 (.seq (.regD laws_eqEntityS_d0_os laws_eqEntityS_d0_af) (.cond (.t 26) (.seq (.reg [⟨(some 4), none, .mov (.c (.bool false))⟩]) (.ret)) (.skip)))) (.reg [⟨(some 15), none, .mov (.t 5)⟩,
  ⟨(some 16), none, .bin .add (.num) (.t 15) (.c (.int .i64 1))⟩,
  ⟨(some 5), none, .mov (.t 16)⟩])))))) (.seq (.reg [⟨(some 4), none, .mov (.c (.bool true))⟩]) (.ret))))
def laws_eqEntityS_r : List RS := [.t 4]
def laws_eqEntityS_s0 (t0 t1 t5 : AV) (loc : List (List AV)) (h : AH) : St := ⟨[t0, t1, .any, .any, .any, t5, .any, .any, .any, .any, .any, .any, .any, .any, .any, .any, .any, .any, .any, .any, .any, .any, .any, .any, .any, .any, .any], loc, h⟩
theorem laws_eqEntityS_e {a0 a1 : AV} {h : AH} {K : AV → AH → Prop} (hw : TC Try.prog Θ Γ laws_eqEntityS_c (retQ laws_eqEntityS_r K) ⟨[a0, a1, u, u, u, u, u, u, u, u, u, u, u, u, u, u, u, u, u, u, u, u, u, u, u, u, u], [], h⟩) : T Try.prog Γ Fn.laws_eqEntityS [a0, a1] h K :=
  T_of_body tabOK Try.func94 (code := bodyOf Try.f94) (by kernel_rfl) (by kernel_rfl) (by kernel_rfl) (by kernel_rfl) hw
def laws_eqLinkS_d0_os : List O := [⟨(some 17), none, .mov (.t 0)⟩,
  ⟨(some 18), none, .mov (.t 5)⟩,
  ⟨(some 19), none, .idxs 7 (.t 17) (.t 18)⟩,
  ⟨(some 20), none, .load 7 true (.t 19)⟩,
  ⟨(some 21), none, .mov (.t 1)⟩,
  ⟨(some 22), none, .mov (.t 5)⟩,
  ⟨(some 23), none, .idxs 7 (.t 21) (.t 22)⟩,
  ⟨(some 24), none, .load 7 true (.t 23)⟩,
  ⟨(some 25), none, .call (.c (.fn Fn.laws_eqLink [] [])) [.t 20, .t 24]⟩,
  ⟨(some 26), none, .un .not (.t 25)⟩]
def laws_eqLinkS_d0_af : List (List Nat) := [[], [], [0, 1], [2], [], [], [4, 5], [6], [3, 7], [8]]
theorem laws_eqLinkS_d0_q (gl : Gl) (Q : AE → St → Prop) (s : St) : aw Try.prog Θ Γ gl (.regD laws_eqLinkS_d0_os laws_eqLinkS_d0_af) Q s = awpT Try.prog Γ gl [⟨(some 17), none, .mov (.t 0)⟩,
  ⟨(some 18), none, .mov (.t 5)⟩,
  ⟨(some 19), none, .idxs 7 (.t 17) (.t 18)⟩,
  ⟨(some 20), none, .load 7 true (.t 19)⟩,
  ⟨(some 21), none, .mov (.t 1)⟩,
  ⟨(some 22), none, .mov (.t 5)⟩,
  ⟨(some 23), none, .idxs 7 (.t 21) (.t 22)⟩,
  ⟨(some 24), none, .load 7 true (.t 23)⟩,
  ⟨(some 25), none, .call (.c (.fn Fn.laws_eqLink [] [])) [.t 20, .t 24]⟩,
  ⟨(some 26), none, .un .not (.t 25)⟩] (Q .normal) 10 (.q 0 (.q 1 (.q 2 (.q 3 (.q 4 (.q 5 (.q 6 (.q 7 (.all [(8, .q 9 (.done))]))))))))) s := a_dd rfl (by kernel_rfl) gl Q s
def laws_eqLinkS_c : C := .seq (.reg [⟨(some 4), none, .mov (.c (.bool false))⟩]) (.seq (.seq (.reg [⟨(some 6), none, .mov (.t 0)⟩,
  ⟨(some 7), none, .len false (.t 6)⟩,
  ⟨(some 8), none, .mov (.t 1)⟩,
  ⟨(some 9), none, .len false (.t 8)⟩,
  ⟨(some 10), none, .bin .neq (.num) (.t 7) (.t 9)⟩]) (.cond (.t 10) (.seq (.reg [⟨(some 4), none, .mov (.c (.bool false))⟩]) (.ret)) (.skip))) (.seq (.seq (.reg [⟨(some 5), none, .mov (.c (.int .i64 0))⟩]) (.block 0 (.loop (.seq (.seq (.reg [⟨(some 11), none, .mov (.t 5)⟩,
  ⟨(some 12), none, .mov (.t 0)⟩,
  ⟨(some 13), none, .len false (.t 12)⟩,
  ⟨(some 14), none, .bin .lss (.num) (.t 11) (.t 13)⟩]) (.cond (.t 14) (.skip) (.exit 0))) (.seq (.block 1 (.seq (.regD laws_eqLinkS_d0_os laws_eqLinkS_d0_af) (.cond (.t 26) (.seq (.reg [⟨(some 4), none, .mov (.c (.bool false))⟩]) (.ret)) (.skip)))) (.reg [⟨(some 15), none, .mov (.t 5)⟩,
  ⟨(some 16), none, .bin .add (.num) (.t 15) (.c (.int .i64 1))⟩,
  ⟨(some 5), none, .mov (.t 16)⟩])))))) (.seq (.reg [⟨(some 4), none, .mov (.c (.bool true))⟩]) (.ret))))
def laws_eqLinkS_r : List RS := [.t 4]
def laws_eqLinkS_s0 (t0 t1 t5 : AV) (loc : List (List AV)) (h : AH) : St := ⟨[t0, t1, .any, .any, .any, t5, .any, .any, .any, .any, .any, .any, .any, .any, .any, .any, .any, .any, .any, .any, .any, .any, .any, .any, .any, .any, .any], loc, h⟩
theorem laws_eqLinkS_e {a0 a1 : AV} {h : AH} {K : AV → AH → Prop} (hw : TC Try.prog Θ Γ laws_eqLinkS_c (retQ laws_eqLinkS_r K) ⟨[a0, a1, u, u, u, u, u, u, u, u, u, u, u, u, u, u, u, u, u, u, u, u, u, u, u, u, u], [], h⟩) : T Try.prog Γ Fn.laws_eqLinkS [a0, a1] h K :=
  T_of_body tabOK Try.func95 (code := bodyOf Try.f95) (by kernel_rfl) (by kernel_rfl) (by kernel_rfl) (by kernel_rfl) hw
def laws_szWireS_c : C := .seq (.reg [⟨(some 4), none, .mov (.c (.int .i64 0))⟩]) (.seq (.reg [⟨(some 5), none, .mov (.t 1)⟩,
  ⟨(some 6), none, .mov (.t 0)⟩,
  ⟨(some 7), none, .len false (.t 6)⟩,
  ⟨(some 8), none, .bin .sub (.num) (.t 5) (.t 7)⟩,
  ⟨(some 1), none, .mov (.t 8)⟩]) (.seq (.seq (.reg [⟨(some 9), none, .mov (.t 1)⟩,
  ⟨(some 10), none, .bin .lss (.num) (.t 9) (.c (.int .i64 0))⟩]) (.cond (.t 10) (.seq (.reg [⟨(some 4), none, .mov (.c (.int .i64 (-1)))⟩]) (.ret)) (.skip))) (.seq (.reg [⟨(some 11), none, .mov (.t 1)⟩,
  ⟨(some 4), none, .mov (.t 11)⟩]) (.ret))))
def laws_szWireS_r : List RS := [.t 4]
theorem laws_szWireS_e {a0 a1 : AV} {h : AH} {K : AV → AH → Prop} (hw : TC Try.prog Θ Γ laws_szWireS_c (retQ laws_szWireS_r K) ⟨[a0, a1, u, u, u, u, u, u, u, u, u, u], [], h⟩) : T Try.prog Γ Fn.laws_szWireS [a0, a1] h K :=
  T_of_body tabOK Try.func102 (code := bodyOf Try.f102) (by kernel_rfl) (by kernel_rfl) (by kernel_rfl) (by kernel_rfl) hw
def laws_toWireS_c : C := .seq (.reg [⟨(some 2), none, .mov (.c (.nils))⟩]) (.seq (.reg [⟨(some 5), none, .mov (.t 0)⟩,
  ⟨(some 6), none, .len false (.t 5)⟩,
  ⟨(some 7), none, .mks 2 16 [.int .i64 0, .int .i64 0] (.t 6) (.t 6)⟩,
  ⟨(some 3), none, .mov (.t 7)⟩]) (.seq (.seq (.reg [⟨(some 4), none, .mov (.c (.int .i64 0))⟩]) (.block 0 (.loop (.seq (.seq (.reg [⟨(some 8), none, .mov (.t 4)⟩,
  ⟨(some 9), none, .mov (.t 0)⟩,
  ⟨(some 10), none, .len false (.t 9)⟩,
  ⟨(some 11), none, .bin .lss (.num) (.t 8) (.t 10)⟩]) (.cond (.t 11) (.skip) (.exit 0))) (.seq (.block 1 (.reg [⟨(some 14), none, .mov (.t 3)⟩,
  ⟨(some 15), none, .mov (.t 4)⟩,
  ⟨(some 16), none, .mov (.t 0)⟩,
  ⟨(some 17), none, .mov (.t 4)⟩,
  ⟨(some 18), none, .idxs 2 (.t 16) (.t 17)⟩,
  ⟨(some 19), none, .load 2 true (.t 18)⟩,
  ⟨(some 20), none, .call (.c (.fn Fn.laws_toWire [] [])) [.t 19]⟩,
  ⟨(some 21), none, .idxs 2 (.t 14) (.t 15)⟩,
  ⟨none, none, .store 2 (.t 21) (.t 20)⟩])) (.reg [⟨(some 12), none, .mov (.t 4)⟩,
  ⟨(some 13), none, .bin .add (.num) (.t 12) (.c (.int .i64 1))⟩,
  ⟨(some 4), none, .mov (.t 13)⟩])))))) (.seq (.reg [⟨(some 22), none, .mov (.t 3)⟩,
  ⟨(some 2), none, .mov (.t 22)⟩]) (.ret))))
def laws_toWireS_r : List RS := [.t 2]
def laws_toWireS_s0 (t0 t3 t4 : AV) (loc : List (List AV)) (h : AH) : St := ⟨[t0, .any, .any, t3, t4, .any, .any, .any, .any, .any, .any, .any, .any, .any, .any, .any, .any, .any, .any, .any, .any, .any, .any], loc, h⟩
theorem laws_toWireS_e {a0 : AV} {h : AH} {K : AV → AH → Prop} (hw : TC Try.prog Θ Γ laws_toWireS_c (retQ laws_toWireS_r K) ⟨[a0, u, u, u, u, u, u, u, u, u, u, u, u, u, u, u, u, u, u, u, u, u, u], [], h⟩) : T Try.prog Γ Fn.laws_toWireS [a0] h K :=
  T_of_body tabOK Try.func106 (code := bodyOf Try.f106) (by kernel_rfl) (by kernel_rfl) (by kernel_rfl) (by kernel_rfl) hw
def laws_toWire_c : C := .seq (.reg [⟨(some 1), none, .box (.t 0)⟩,
  ⟨(some 2), none, .alloc [.int .i64 0, .int .i64 0]⟩]) (.seq (.reg [⟨(some 3), none, .alloc [.int .i64 0, .int .i64 0]⟩]) (.seq (.reg [⟨(some 4), none, .fld 0 (.t 1)⟩,
  ⟨(some 5), none, .load 1 false (.t 4)⟩,
  ⟨(some 6), none, .fld 0 (.t 3)⟩,
  ⟨none, none, .store 1 (.t 6) (.t 5)⟩]) (.seq (.reg [⟨(some 7), none, .fld 1 (.t 1)⟩,
  ⟨(some 8), none, .load 1 false (.t 7)⟩,
  ⟨(some 9), none, .fld 1 (.t 3)⟩,
  ⟨none, none, .store 1 (.t 9) (.t 8)⟩]) (.seq (.reg [⟨(some 10), none, .load 2 true (.t 3)⟩,
  ⟨none, none, .store 2 (.t 2) (.t 10)⟩]) (.ret)))))
def laws_toWire_r : List RS := [.cell 2 2 true]
theorem laws_toWire_e {a0 : AV} {h : AH} {K : AV → AH → Prop} (hw : TC Try.prog Θ Γ laws_toWire_c (retQ laws_toWire_r K) ⟨[a0, u, u, u, u, u, u, u, u, u, u], [], h⟩) : T Try.prog Γ Fn.laws_toWire [a0] h K :=
  T_of_body tabOK Try.func107 (code := bodyOf Try.f107) (by kernel_rfl) (by kernel_rfl) (by kernel_rfl) (by kernel_rfl) hw
def laws_toTag_c : C := .seq (.reg [⟨(some 1), none, .box (.t 0)⟩,
  ⟨(some 2), none, .alloc [.int .i64 0, .int .i64 0, .int .i64 0]⟩]) (.seq (.reg [⟨(some 3), none, .alloc [.int .i64 0, .int .i64 0, .int .i64 0]⟩]) (.seq (.reg [⟨(some 4), none, .fld 0 (.t 1)⟩,
  ⟨(some 5), none, .load 1 false (.t 4)⟩,
  ⟨(some 6), none, .fld 0 (.t 3)⟩,
  ⟨none, none, .store 1 (.t 6) (.t 5)⟩]) (.seq (.reg [⟨(some 7), none, .fld 1 (.t 1)⟩,
  ⟨(some 8), none, .load 1 false (.t 7)⟩,
  ⟨(some 9), none, .fld 1 (.t 3)⟩,
  ⟨none, none, .store 1 (.t 9) (.t 8)⟩]) (.seq (.reg [⟨(some 10), none, .fld 2 (.t 1)⟩,
  ⟨(some 11), none, .load 1 false (.t 10)⟩,
  ⟨(some 12), none, .fld 2 (.t 3)⟩,
  ⟨none, none, .store 1 (.t 12) (.t 11)⟩]) (.seq (.reg [⟨(some 13), none, .load 3 true (.t 3)⟩,
  ⟨none, none, .store 3 (.t 2) (.t 13)⟩]) (.ret))))))
def laws_toTag_r : List RS := [.cell 2 3 true]
theorem laws_toTag_e {a0 : AV} {h : AH} {K : AV → AH → Prop} (hw : TC Try.prog Θ Γ laws_toTag_c (retQ laws_toTag_r K) ⟨[a0, u, u, u, u, u, u, u, u, u, u, u, u, u], [], h⟩) : T Try.prog Γ Fn.laws_toTag [a0] h K :=
  T_of_body tabOK Try.func108 (code := bodyOf Try.f108) (by kernel_rfl) (by kernel_rfl) (by kernel_rfl) (by kernel_rfl) hw
def laws_eqWireS_d0_os : List O := [⟨(some 17), none, .mov (.t 0)⟩,
  ⟨(some 18), none, .mov (.t 5)⟩,
  ⟨(some 19), none, .idxs 2 (.t 17) (.t 18)⟩,
  ⟨(some 20), none, .load 2 true (.t 19)⟩,
  ⟨(some 21), none, .mov (.t 1)⟩,
  ⟨(some 22), none, .mov (.t 5)⟩,
  ⟨(some 23), none, .idxs 2 (.t 21) (.t 22)⟩,
  ⟨(some 24), none, .load 2 true (.t 23)⟩,
  ⟨(some 25), none, .call (.c (.fn Fn.laws_eqWire [] [])) [.t 20, .t 24]⟩,
  ⟨(some 26), none, .un .not (.t 25)⟩]
def laws_eqWireS_d0_af : List (List Nat) := [[], [], [0, 1], [2], [], [], [4, 5], [6], [3, 7], [8]]
theorem laws_eqWireS_d0_q (gl : Gl) (Q : AE → St → Prop) (s : St) : aw Try.prog Θ Γ gl (.regD laws_eqWireS_d0_os laws_eqWireS_d0_af) Q s = awpT Try.prog Γ gl [⟨(some 17), none, .mov (.t 0)⟩,
  ⟨(some 18), none, .mov (.t 5)⟩,
  ⟨(some 19), none, .idxs 2 (.t 17) (.t 18)⟩,
  ⟨(some 20), none, .load 2 true (.t 19)⟩,
  ⟨(some 21), none, .mov (.t 1)⟩,
  ⟨(some 22), none, .mov (.t 5)⟩,
  ⟨(some 23), none, .idxs 2 (.t 21) (.t 22)⟩,
  ⟨(some 24), none, .load 2 true (.t 23)⟩,
  ⟨(some 25), none, .call (.c (.fn Fn.laws_eqWire [] [])) [.t 20, .t 24]⟩,
  ⟨(some 26), none, .un .not (.t 25)⟩] (Q .normal) 10 (.q 0 (.q 1 (.q 2 (.q 3 (.q 4 (.q 5 (.q 6 (.q 7 (.all [(8, .q 9 (.done))]))))))))) s := a_dd rfl (by kernel_rfl) gl Q s
def laws_eqWireS_c : C := .seq (.reg [⟨(some 4), none, .mov (.c (.bool false))⟩]) (.seq (.seq (.reg [⟨(some 6), none, .mov (.t 0)⟩,
  ⟨(some 7), none, .len false (.t 6)⟩,
  ⟨(some 8), none, .mov (.t 1)⟩,
  ⟨(some 9), none, .len false (.t 8)⟩,
  ⟨(some 10), none, .bin .neq (.num) (.t 7) (.t 9)⟩]) (.cond (.t 10) (.seq (.reg [⟨(some 4), none, .mov (.c (.bool false))⟩]) (.ret)) (.skip))) (.seq (.seq (.reg [⟨(some 5), none, .mov (.c (.int .i64 0))⟩]) (.block 0 (.loop (.seq (.seq (.reg [⟨(some 11), none, .mov (.t 5)⟩,
  ⟨(some 12), none, .mov (.t 0)⟩,
  ⟨(some 13), none, .len false (.t 12)⟩,
  ⟨(some 14), none, .bin .lss (.num) (.t 11) (.t 13)⟩]) (.cond (.t 14) (.skip) (.exit 0))) (.seq (.block 1 (.seq (.regD laws_eqWireS_d0_os laws_eqWireS_d0_af) (.cond (.t 26) (.seq (.reg [⟨(some 4), none, .mov (.c (.bool false))⟩]) (.ret)) (.skip)))) (.reg [⟨(some 15), none, .mov (.t 5)⟩,
  ⟨(some 16), none, .bin .add (.num) (.t 15) (.c (.int .i64 1))⟩,
  ⟨(some 5), none, .mov (.t 16)⟩])))))) (.seq (.reg [⟨(some 4), none, .mov (.c (.bool true))⟩]) (.ret))))
def laws_eqWireS_r : List RS := [.t 4]
def laws_eqWireS_s0 (t0 t1 t5 : AV) (loc : List (List AV)) (h : AH) : St := ⟨[t0, t1, .any, .any, .any, t5, .any, .any, .any, .any, .any, .any, .any, .any, .any, .any, .any, .any, .any, .any, .any, .any, .any, .any, .any, .any, .any], loc, h⟩
theorem laws_eqWireS_e {a0 a1 : AV} {h : AH} {K : AV → AH → Prop} (hw : TC Try.prog Θ Γ laws_eqWireS_c (retQ laws_eqWireS_r K) ⟨[a0, a1, u, u, u, u, u, u, u, u, u, u, u, u, u, u, u, u, u, u, u, u, u, u, u, u, u], [], h⟩) : T Try.prog Γ Fn.laws_eqWireS [a0, a1] h K :=
  T_of_body tabOK Try.func111 (code := bodyOf Try.f111) (by kernel_rfl) (by kernel_rfl) (by kernel_rfl) (by kernel_rfl) hw
def laws_eqWire_c : C := .seq (.reg [⟨(some 2), none, .box (.t 0)⟩,
  ⟨(some 3), none, .box (.t 1)⟩,
  ⟨(some 4), none, .mov (.c (.bool false))⟩]) (.seq (.seq (.reg [⟨(some 5), none, .fld 0 (.t 2)⟩,
  ⟨(some 6), none, .load 1 false (.t 5)⟩,
  ⟨(some 7), none, .fld 0 (.t 3)⟩,
  ⟨(some 8), none, .load 1 false (.t 7)⟩,
  ⟨(some 9), none, .bin .neq (.num) (.t 6) (.t 8)⟩]) (.cond (.t 9) (.seq (.reg [⟨(some 4), none, .mov (.c (.bool false))⟩]) (.ret)) (.skip))) (.seq (.seq (.reg [⟨(some 10), none, .fld 1 (.t 2)⟩,
  ⟨(some 11), none, .load 1 false (.t 10)⟩,
  ⟨(some 12), none, .fld 1 (.t 3)⟩,
  ⟨(some 13), none, .load 1 false (.t 12)⟩,
  ⟨(some 14), none, .bin .neq (.num) (.t 11) (.t 13)⟩]) (.cond (.t 14) (.seq (.reg [⟨(some 4), none, .mov (.c (.bool false))⟩]) (.ret)) (.skip))) (.seq (.reg [⟨(some 4), none, .mov (.c (.bool true))⟩]) (.ret))))
def laws_eqWire_r : List RS := [.t 4]
theorem laws_eqWire_e {a0 a1 : AV} {h : AH} {K : AV → AH → Prop} (hw : TC Try.prog Θ Γ laws_eqWire_c (retQ laws_eqWire_r K) ⟨[a0, a1, u, u, u, u, u, u, u, u, u, u, u, u, u], [], h⟩) : T Try.prog Γ Fn.laws_eqWire [a0, a1] h K :=
  T_of_body tabOK Try.func112 (code := bodyOf Try.f112) (by kernel_rfl) (by kernel_rfl) (by kernel_rfl) (by kernel_rfl) hw
def laws_eqTag_c : C := .seq (.reg [⟨(some 2), none, .box (.t 0)⟩,
  ⟨(some 3), none, .box (.t 1)⟩,
  ⟨(some 4), none, .mov (.c (.bool false))⟩]) (.seq (.seq (.reg [⟨(some 5), none, .fld 0 (.t 2)⟩,
  ⟨(some 6), none, .load 1 false (.t 5)⟩,
  ⟨(some 7), none, .fld 0 (.t 3)⟩,
  ⟨(some 8), none, .load 1 false (.t 7)⟩,
  ⟨(some 9), none, .bin .neq (.num) (.t 6) (.t 8)⟩]) (.cond (.t 9) (.seq (.reg [⟨(some 4), none, .mov (.c (.bool false))⟩]) (.ret)) (.skip))) (.seq (.seq (.reg [⟨(some 10), none, .fld 1 (.t 2)⟩,
  ⟨(some 11), none, .load 1 false (.t 10)⟩,
  ⟨(some 12), none, .fld 1 (.t 3)⟩,
  ⟨(some 13), none, .load 1 false (.t 12)⟩,
  ⟨(some 14), none, .bin .neq (.num) (.t 11) (.t 13)⟩]) (.cond (.t 14) (.seq (.reg [⟨(some 4), none, .mov (.c (.bool false))⟩]) (.ret)) (.skip))) (.seq (.seq (.reg [⟨(some 15), none, .fld 2 (.t 2)⟩,
  ⟨(some 16), none, .load 1 false (.t 15)⟩,
  ⟨(some 17), none, .fld 2 (.t 3)⟩,
  ⟨(some 18), none, .load 1 false (.t 17)⟩,
  ⟨(some 19), none, .bin .neq (.num) (.t 16) (.t 18)⟩]) (.cond (.t 19) (.seq (.reg [⟨(some 4), none, .mov (.c (.bool false))⟩]) (.ret)) (.skip))) (.seq (.reg [⟨(some 4), none, .mov (.c (.bool true))⟩]) (.ret)))))
def laws_eqTag_r : List RS := [.t 4]
theorem laws_eqTag_e {a0 a1 : AV} {h : AH} {K : AV → AH → Prop} (hw : TC Try.prog Θ Γ laws_eqTag_c (retQ laws_eqTag_r K) ⟨[a0, a1, u, u, u, u, u, u, u, u, u, u, u, u, u, u, u, u, u, u], [], h⟩) : T Try.prog Γ Fn.laws_eqTag [a0, a1] h K :=
  T_of_body tabOK Try.func113 (code := bodyOf Try.f113) (by kernel_rfl) (by kernel_rfl) (by kernel_rfl) (by kernel_rfl) hw
def spec_l9CopySents_c : C := .seq (.reg [⟨(some 2), none, .mov (.c (.nils))⟩]) (.seq (.reg [⟨(some 6), none, .bsl 7 0 [.int .i64 0, .str ⟨#[]⟩, .nils, .int .i64 0, .int .i64 0, .int .i64 0, .int .i64 0] []⟩,
  ⟨(some 3), none, .mov (.t 6)⟩]) (.seq (.seq (.reg [⟨(some 4), none, .mov (.c (.int .i64 0))⟩]) (.block 0 (.loop (.seq (.seq (.reg [⟨(some 7), none, .mov (.t 4)⟩,
  ⟨(some 8), none, .mov (.t 0)⟩,
  ⟨(some 9), none, .len false (.t 8)⟩,
  ⟨(some 10), none, .bin .lss (.num) (.t 7) (.t 9)⟩]) (.cond (.t 10) (.skip) (.exit 0))) (.seq (.block 1 (.seq (.reg [⟨(some 13), none, .mov (.t 0)⟩,
  ⟨(some 14), none, .mov (.t 4)⟩,
  ⟨(some 15), none, .idxs 7 (.t 13) (.t 14)⟩,
  ⟨(some 16), none, .load 7 true (.t 15)⟩,
  ⟨(some 5), none, .alloc [.int .i64 0, .str ⟨#[]⟩, .nils, .int .i64 0, .int .i64 0, .int .i64 0, .int .i64 0]⟩,
  ⟨none, none, .store 7 (.t 5) (.t 16)⟩]) (.seq (.reg [⟨(some 17), none, .bsl 2 0 [.int .i64 0, .int .i64 0] []⟩,
  ⟨(some 18), none, .mov (.t 0)⟩,
  ⟨(some 19), none, .mov (.t 4)⟩,
  ⟨(some 20), none, .idxs 7 (.t 18) (.t 19)⟩,
  ⟨(some 21), none, .fld 2 (.t 20)⟩,
  ⟨(some 22), none, .load 1 false (.t 21)⟩,
  ⟨(some 23), none, .app 2 16 [.int .i64 0, .int .i64 0] false (.t 17) (.t 22)⟩,
  ⟨(some 24), none, .fld 2 (.t 5)⟩,
  ⟨none, none, .store 1 (.t 24) (.t 23)⟩]) (.reg [⟨(some 25), none, .mov (.t 3)⟩,
  ⟨(some 26), none, .load 7 true (.t 5)⟩,
  ⟨(some 27), none, .bsl 7 1 [.int .i64 0, .str ⟨#[]⟩, .nils, .int .i64 0, .int .i64 0, .int .i64 0, .int .i64 0] [(0, .t 26)]⟩,
  ⟨(some 28), none, .app 7 80 [.int .i64 0, .str ⟨#[]⟩, .nils, .int .i64 0, .int .i64 0, .int .i64 0, .int .i64 0] false (.t 25) (.t 27)⟩,
  ⟨(some 3), none, .mov (.t 28)⟩])))) (.reg [⟨(some 11), none, .mov (.t 4)⟩,
  ⟨(some 12), none, .bin .add (.num) (.t 11) (.c (.int .i64 1))⟩,
  ⟨(some 4), none, .mov (.t 12)⟩])))))) (.seq (.reg [⟨(some 29), none, .mov (.t 3)⟩,
  ⟨(some 2), none, .mov (.t 29)⟩]) (.ret))))
def spec_l9CopySents_r : List RS := [.t 2]
def spec_l9CopySents_s0 (t0 t3 t4 : AV) (loc : List (List AV)) (h : AH) : St := ⟨[t0, .any, .any, t3, t4, .any, .any, .any, .any, .any, .any, .any, .any, .any, .any, .any, .any, .any, .any, .any, .any, .any, .any, .any, .any, .any, .any, .any, .any, .any], loc, h⟩
theorem spec_l9CopySents_e {a0 : AV} {h : AH} {K : AV → AH → Prop} (hw : TC Try.prog Θ Γ spec_l9CopySents_c (retQ spec_l9CopySents_r K) ⟨[a0, u, u, u, u, u, u, u, u, u, u, u, u, u, u, u, u, u, u, u, u, u, u, u, u, u, u, u, u, u], [], h⟩) : T Try.prog Γ Fn.spec_l9CopySents [a0] h K :=
  T_of_body tabOK Try.func118 (code := bodyOf Try.f118) (by kernel_rfl) (by kernel_rfl) (by kernel_rfl) (by kernel_rfl) hw
def impl_copiedSents_c : C := .seq (.reg [⟨(some 2), none, .mov (.c (.nils))⟩]) (.seq (.reg [⟨(some 6), none, .bsl 7 0 [.int .i64 0, .str ⟨#[]⟩, .nils, .int .i64 0, .int .i64 0, .int .i64 0, .int .i64 0] []⟩,
  ⟨(some 3), none, .mov (.t 6)⟩]) (.seq (.seq (.reg [⟨(some 7), none, .mov (.t 0)⟩,
  ⟨(some 8), none, .len false (.t 7)⟩,
  ⟨(some 9), none, .mov (.c (.int .i64 0))⟩]) (.block 0 (.loop (.seq (.reg [⟨(some 10), none, .bin .lss (.num) (.t 9) (.t 8)⟩]) (.seq (.cond (.t 10) (.skip) (.exit 0)) (.seq (.block 1 (.seq (.reg [⟨(some 11), none, .idxs 7 (.t 7) (.t 9)⟩,
  ⟨(some 12), none, .load 7 true (.t 11)⟩,
  ⟨(some 5), none, .alloc [.int .i64 0, .str ⟨#[]⟩, .nils, .int .i64 0, .int .i64 0, .int .i64 0, .int .i64 0]⟩,
  ⟨none, none, .store 7 (.t 5) (.t 12)⟩]) (.reg [⟨(some 13), none, .mov (.t 3)⟩,
  ⟨(some 14), none, .load 7 true (.t 5)⟩,
  ⟨(some 15), none, .call (.c (.fn Fn.impl_Sent_copied [] [])) [.t 14]⟩,
  ⟨(some 16), none, .bsl 7 1 [.int .i64 0, .str ⟨#[]⟩, .nils, .int .i64 0, .int .i64 0, .int .i64 0, .int .i64 0] [(0, .t 15)]⟩,
  ⟨(some 17), none, .app 7 80 [.int .i64 0, .str ⟨#[]⟩, .nils, .int .i64 0, .int .i64 0, .int .i64 0, .int .i64 0] false (.t 13) (.t 16)⟩,
  ⟨(some 3), none, .mov (.t 17)⟩]))) (.reg [⟨(some 18), none, .bin .add (.num) (.t 9) (.c (.int .i64 1))⟩,
  ⟨(some 9), none, .mov (.t 18)⟩]))))))) (.seq (.reg [⟨(some 19), none, .mov (.t 3)⟩,
  ⟨(some 2), none, .mov (.t 19)⟩]) (.ret))))
def impl_copiedSents_r : List RS := [.t 2]
def impl_copiedSents_s0 (t3 t7 t8 t9 : AV) (loc : List (List AV)) (h : AH) : St := ⟨[.any, .any, .any, t3, .any, .any, .any, t7, t8, t9, .any, .any, .any, .any, .any, .any, .any, .any, .any, .any], loc, h⟩
theorem impl_copiedSents_e {a0 : AV} {h : AH} {K : AV → AH → Prop} (hw : TC Try.prog Θ Γ impl_copiedSents_c (retQ impl_copiedSents_r K) ⟨[a0, u, u, u, u, u, u, u, u, u, u, u, u, u, u, u, u, u, u, u], [], h⟩) : T Try.prog Γ Fn.impl_copiedSents [a0] h K :=
  T_of_body tabOK Try.func119 (code := bodyOf Try.f119) (by kernel_rfl) (by kernel_rfl) (by kernel_rfl) (by kernel_rfl) hw
def laws_markEntityS_c : C := .seq (.reg [⟨(some 4), none, .mov (.c (.int .i64 0))⟩]) (.seq (.seq (.reg [⟨(some 5), none, .mov (.c (.int .i64 0))⟩]) (.block 0 (.loop (.seq (.seq (.reg [⟨(some 6), none, .mov (.t 5)⟩,
  ⟨(some 7), none, .mov (.t 0)⟩,
  ⟨(some 8), none, .len false (.t 7)⟩,
  ⟨(some 9), none, .bin .lss (.num) (.t 6) (.t 8)⟩]) (.cond (.t 9) (.skip) (.exit 0))) (.seq (.block 1 (.seq (.reg [⟨(some 12), none, .mov (.t 0)⟩,
  ⟨(some 13), none, .mov (.t 5)⟩,
  ⟨(some 14), none, .mov (.t 1)⟩,
  ⟨(some 15), none, .idxs 12 (.t 12) (.t 13)⟩,
  ⟨(some 16), none, .fld 0 (.t 15)⟩,
  ⟨none, none, .store 1 (.t 16) (.t 14)⟩]) (.seq (.reg [⟨(some 17), none, .mov (.t 1)⟩,
  ⟨(some 18), none, .bin .add (.num) (.t 17) (.c (.int .i64 1))⟩,
  ⟨(some 1), none, .mov (.t 18)⟩]) (.seq (.reg [⟨(some 19), none, .mov (.t 0)⟩,
  ⟨(some 20), none, .mov (.t 5)⟩,
  ⟨(some 21), none, .mov (.t 1)⟩,
  ⟨(some 22), none, .idxs 12 (.t 19) (.t 20)⟩,
  ⟨(some 23), none, .fld 1 (.t 22)⟩,
  ⟨none, none, .store 1 (.t 23) (.t 21)⟩]) (.seq (.reg [⟨(some 24), none, .mov (.t 1)⟩,
  ⟨(some 25), none, .bin .add (.num) (.t 24) (.c (.int .i64 1))⟩,
  ⟨(some 1), none, .mov (.t 25)⟩]) (.seq (.reg [⟨(some 26), none, .mov (.t 0)⟩,
  ⟨(some 27), none, .mov (.t 5)⟩,
  ⟨(some 28), none, .idxs 12 (.t 26) (.t 27)⟩,
  ⟨(some 29), none, .fld 2 (.t 28)⟩,
  ⟨(some 30), none, .load 1 false (.t 29)⟩,
  ⟨(some 31), none, .mov (.t 1)⟩,
  ⟨(some 32), none, .call (.c (.fn Fn.laws_markValueS [] [])) [.t 30, .t 31]⟩,
  ⟨(some 1), none, .mov (.t 32)⟩]) (.seq (.reg [⟨(some 33), none, .mov (.t 0)⟩,
  ⟨(some 34), none, .mov (.t 5)⟩,
  ⟨(some 35), none, .mov (.t 1)⟩,
  ⟨(some 36), none, .idxs 12 (.t 33) (.t 34)⟩,
  ⟨(some 37), none, .fld 3 (.t 36)⟩,
  ⟨none, none, .store 1 (.t 37) (.t 35)⟩]) (.seq (.reg [⟨(some 38), none, .mov (.t 1)⟩,
  ⟨(some 39), none, .bin .add (.num) (.t 38) (.c (.int .i64 1))⟩,
  ⟨(some 1), none, .mov (.t 39)⟩]) (.seq (.reg [⟨(some 40), none, .mov (.t 0)⟩,
  ⟨(some 41), none, .mov (.t 5)⟩,
  ⟨(some 42), none, .mov (.t 1)⟩,
  ⟨(some 43), none, .idxs 12 (.t 40) (.t 41)⟩,
  ⟨(some 44), none, .fld 4 (.t 43)⟩,
  ⟨(some 45), none, .fld 0 (.t 44)⟩,
  ⟨none, none, .store 1 (.t 45) (.t 42)⟩]) (.seq (.reg [⟨(some 46), none, .mov (.t 1)⟩,
  ⟨(some 47), none, .bin .add (.num) (.t 46) (.c (.int .i64 1))⟩,
  ⟨(some 1), none, .mov (.t 47)⟩]) (.seq (.reg [⟨(some 48), none, .mov (.t 0)⟩,
  ⟨(some 49), none, .mov (.t 5)⟩,
  ⟨(some 50), none, .mov (.t 1)⟩,
  ⟨(some 51), none, .idxs 12 (.t 48) (.t 49)⟩,
  ⟨(some 52), none, .fld 4 (.t 51)⟩,
  ⟨(some 53), none, .fld 1 (.t 52)⟩,
  ⟨none, none, .store 1 (.t 53) (.t 50)⟩]) (.seq (.reg [⟨(some 54), none, .mov (.t 1)⟩,
  ⟨(some 55), none, .bin .add (.num) (.t 54) (.c (.int .i64 1))⟩,
  ⟨(some 1), none, .mov (.t 55)⟩]) (.seq (.reg [⟨(some 56), none, .mov (.t 0)⟩,
  ⟨(some 57), none, .mov (.t 5)⟩,
  ⟨(some 58), none, .idxs 12 (.t 56) (.t 57)⟩,
  ⟨(some 59), none, .fld 6 (.t 58)⟩,
  ⟨(some 60), none, .load 1 false (.t 59)⟩,
  ⟨(some 61), none, .mov (.t 1)⟩,
  ⟨(some 62), none, .call (.c (.fn Fn.laws_markSentS [] [])) [.t 60, .t 61]⟩,
  ⟨(some 1), none, .mov (.t 62)⟩]) (.seq (.reg [⟨(some 63), none, .mov (.t 0)⟩,
  ⟨(some 64), none, .mov (.t 5)⟩,
  ⟨(some 65), none, .idxs 12 (.t 63) (.t 64)⟩,
  ⟨(some 66), none, .fld 7 (.t 65)⟩,
  ⟨(some 67), none, .load 1 false (.t 66)⟩,
  ⟨(some 68), none, .mov (.t 1)⟩,
  ⟨(some 69), none, .call (.c (.fn Fn.laws_markAskerS [] [])) [.t 67, .t 68]⟩,
  ⟨(some 1), none, .mov (.t 69)⟩]) (.seq (.reg [⟨(some 70), none, .mov (.t 0)⟩,
  ⟨(some 71), none, .mov (.t 5)⟩,
  ⟨(some 72), none, .mov (.t 1)⟩,
  ⟨(some 73), none, .idxs 12 (.t 70) (.t 71)⟩,
  ⟨(some 74), none, .fld 8 (.t 73)⟩,
  ⟨none, none, .store 1 (.t 74) (.t 72)⟩]) (.seq (.reg [⟨(some 75), none, .mov (.t 1)⟩,
  ⟨(some 76), none, .bin .add (.num) (.t 75) (.c (.int .i64 1))⟩,
  ⟨(some 1), none, .mov (.t 76)⟩]) (.seq (.reg [⟨(some 77), none, .mov (.t 0)⟩,
  ⟨(some 78), none, .mov (.t 5)⟩,
  ⟨(some 79), none, .mov (.t 1)⟩,
  ⟨(some 80), none, .idxs 12 (.t 77) (.t 78)⟩,
  ⟨(some 81), none, .fld 9 (.t 80)⟩,
  ⟨none, none, .store 1 (.t 81) (.t 79)⟩]) (.seq (.reg [⟨(some 82), none, .mov (.t 1)⟩,
  ⟨(some 83), none, .bin .add (.num) (.t 82) (.c (.int .i64 1))⟩,
  ⟨(some 1), none, .mov (.t 83)⟩]) (.seq (.reg [⟨(some 84), none, .mov (.t 0)⟩,
  ⟨(some 85), none, .mov (.t 5)⟩,
  ⟨(some 86), none, .mov (.t 1)⟩,
  ⟨(some 87), none, .idxs 12 (.t 84) (.t 85)⟩,
  ⟨(some 88), none, .fld 10 (.t 87)⟩,
  ⟨none, none, .store 1 (.t 88) (.t 86)⟩]) (.seq (.reg [⟨(some 89), none, .mov (.t 1)⟩,
  ⟨(some 90), none, .bin .add (.num) (.t 89) (.c (.int .i64 1))⟩,
  ⟨(some 1), none, .mov (.t 90)⟩]) (.seq (.reg [⟨(some 91), none, .mov (.t 0)⟩,
  ⟨(some 92), none, .mov (.t 5)⟩,
  ⟨(some 93), none, .mov (.t 1)⟩,
  ⟨(some 94), none, .idxs 12 (.t 91) (.t 92)⟩,
  ⟨(some 95), none, .fld 11 (.t 94)⟩,
  ⟨none, none, .store 1 (.t 95) (.t 93)⟩]) (.reg [⟨(some 96), none, .mov (.t 1)⟩,
  ⟨(some 97), none, .bin .add (.num) (.t 96) (.c (.int .i64 1))⟩,
  ⟨(some 1), none, .mov (.t 97)⟩])))))))))))))))))))))) (.reg [⟨(some 10), none, .mov (.t 5)⟩,
  ⟨(some 11), none, .bin .add (.num) (.t 10) (.c (.int .i64 1))⟩,
  ⟨(some 5), none, .mov (.t 11)⟩])))))) (.seq (.reg [⟨(some 98), none, .mov (.t 1)⟩,
  ⟨(some 4), none, .mov (.t 98)⟩]) (.ret)))
def laws_markEntityS_r : List RS := [.t 4]
def laws_markEntityS_s0 (t0 t1 t5 : AV) (loc : List (List AV)) (h : AH) : St := ⟨[t0, t1, .any, .any, .any, t5, .any, .any, .any, .any, .any, .any, .any, .any, .any, .any, .any, .any, .any, .any, .any, .any, .any, .any, .any, .any, .any, .any, .any, .any, .any, .any, .any, .any, .any, .any, .any, .any, .any, .any, .any, .any, .any, .any, .any, .any, .any, .any, .any, .any, .any, .any, .any, .any, .any, .any, .any, .any, .any, .any, .any, .any, .any, .any, .any, .any, .any, .any, .any, .any, .any, .any, .any, .any, .any, .any, .any, .any, .any, .any, .any, .any, .any, .any, .any, .any, .any, .any, .any, .any, .any, .any, .any, .any, .any, .any, .any, .any, .any], loc, h⟩
theorem laws_markEntityS_e {a0 a1 : AV} {h : AH} {K : AV → AH → Prop} (hw : TC Try.prog Θ Γ laws_markEntityS_c (retQ laws_markEntityS_r K) ⟨[a0, a1, u, u, u, u, u, u, u, u, u, u, u, u, u, u, u, u, u, u, u, u, u, u, u, u, u, u, u, u, u, u, u, u, u, u, u, u, u, u, u, u, u, u, u, u, u, u, u, u, u, u, u, u, u, u, u, u, u, u, u, u, u, u, u, u, u, u, u, u, u, u, u, u, u, u, u, u, u, u, u, u, u, u, u, u, u, u, u, u, u, u, u, u, u, u, u, u, u], [], h⟩) : T Try.prog Γ Fn.laws_markEntityS [a0, a1] h K :=
  T_of_body tabOK Try.func120 (code := bodyOf Try.f120) (by kernel_rfl) (by kernel_rfl) (by kernel_rfl) (by kernel_rfl) hw
def laws_markLinkS_c : C := .seq (.reg [⟨(some 4), none, .mov (.c (.int .i64 0))⟩]) (.seq (.seq (.reg [⟨(some 5), none, .mov (.c (.int .i64 0))⟩]) (.block 0 (.loop (.seq (.seq (.reg [⟨(some 6), none, .mov (.t 5)⟩,
  ⟨(some 7), none, .mov (.t 0)⟩,
  ⟨(some 8), none, .len false (.t 7)⟩,
  ⟨(some 9), none, .bin .lss (.num) (.t 6) (.t 8)⟩]) (.cond (.t 9) (.skip) (.exit 0))) (.seq (.block 1 (.seq (.reg [⟨(some 12), none, .mov (.t 0)⟩,
  ⟨(some 13), none, .mov (.t 5)⟩,
  ⟨(some 14), none, .mov (.t 1)⟩,
  ⟨(some 15), none, .idxs 7 (.t 12) (.t 13)⟩,
  ⟨(some 16), none, .fld 0 (.t 15)⟩,
  ⟨none, none, .store 1 (.t 16) (.t 14)⟩]) (.seq (.reg [⟨(some 17), none, .mov (.t 1)⟩,
  ⟨(some 18), none, .bin .add (.num) (.t 17) (.c (.int .i64 1))⟩,
  ⟨(some 1), none, .mov (.t 18)⟩]) (.seq (.reg [⟨(some 19), none, .mov (.t 0)⟩,
  ⟨(some 20), none, .mov (.t 5)⟩,
  ⟨(some 21), none, .mov (.t 1)⟩,
  ⟨(some 22), none, .bin .rem (.num) (.t 21) (.c (.int .i64 3))⟩,
  ⟨(some 23), none, .bin .eql (.num) (.t 22) (.c (.int .i64 0))⟩,
  ⟨(some 24), none, .idxs 7 (.t 19) (.t 20)⟩,
  ⟨(some 25), none, .fld 1 (.t 24)⟩,
  ⟨none, none, .store 1 (.t 25) (.t 23)⟩]) (.seq (.reg [⟨(some 26), none, .mov (.t 1)⟩,
  ⟨(some 27), none, .bin .add (.num) (.t 26) (.c (.int .i64 1))⟩,
  ⟨(some 1), none, .mov (.t 27)⟩]) (.seq (.reg [⟨(some 28), none, .mov (.t 0)⟩,
  ⟨(some 29), none, .mov (.t 5)⟩,
  ⟨(some 30), none, .idxs 7 (.t 28) (.t 29)⟩,
  ⟨(some 31), none, .fld 2 (.t 30)⟩,
  ⟨(some 32), none, .load 1 false (.t 31)⟩,
  ⟨(some 33), none, .mov (.t 1)⟩,
  ⟨(some 34), none, .call (.c (.fn Fn.laws_markExportS [] [])) [.t 32, .t 33]⟩,
  ⟨(some 1), none, .mov (.t 34)⟩]) (.seq (.reg [⟨(some 35), none, .mov (.t 0)⟩,
  ⟨(some 36), none, .mov (.t 5)⟩,
  ⟨(some 37), none, .mov (.t 1)⟩,
  ⟨(some 38), none, .idxs 7 (.t 35) (.t 36)⟩,
  ⟨(some 39), none, .fld 3 (.t 38)⟩,
  ⟨none, none, .store 1 (.t 39) (.t 37)⟩]) (.seq (.reg [⟨(some 40), none, .mov (.t 1)⟩,
  ⟨(some 41), none, .bin .add (.num) (.t 40) (.c (.int .i64 1))⟩,
  ⟨(some 1), none, .mov (.t 41)⟩]) (.seq (.reg [⟨(some 42), none, .mov (.t 0)⟩,
  ⟨(some 43), none, .mov (.t 5)⟩,
  ⟨(some 44), none, .idxs 7 (.t 42) (.t 43)⟩,
  ⟨(some 45), none, .fld 4 (.t 44)⟩,
  ⟨(some 46), none, .load 1 false (.t 45)⟩,
  ⟨(some 47), none, .mov (.t 1)⟩,
  ⟨(some 48), none, .call (.c (.fn Fn.laws_markQuestionS [] [])) [.t 46, .t 47]⟩,
  ⟨(some 1), none, .mov (.t 48)⟩]) (.seq (.reg [⟨(some 49), none, .mov (.t 0)⟩,
  ⟨(some 50), none, .mov (.t 5)⟩,
  ⟨(some 51), none, .mov (.t 1)⟩,
  ⟨(some 52), none, .idxs 7 (.t 49) (.t 50)⟩,
  ⟨(some 53), none, .fld 5 (.t 52)⟩,
  ⟨none, none, .store 1 (.t 53) (.t 51)⟩]) (.seq (.reg [⟨(some 54), none, .mov (.t 1)⟩,
  ⟨(some 55), none, .bin .add (.num) (.t 54) (.c (.int .i64 1))⟩,
  ⟨(some 1), none, .mov (.t 55)⟩]) (.reg [⟨(some 56), none, .mov (.t 0)⟩,
  ⟨(some 57), none, .mov (.t 5)⟩,
  ⟨(some 58), none, .idxs 7 (.t 56) (.t 57)⟩,
  ⟨(some 59), none, .fld 6 (.t 58)⟩,
  ⟨(some 60), none, .load 1 false (.t 59)⟩,
  ⟨(some 61), none, .mov (.t 1)⟩,
  ⟨(some 62), none, .call (.c (.fn Fn.laws_markQuestionS [] [])) [.t 60, .t 61]⟩,
  ⟨(some 1), none, .mov (.t 62)⟩])))))))))))) (.reg [⟨(some 10), none, .mov (.t 5)⟩,
  ⟨(some 11), none, .bin .add (.num) (.t 10) (.c (.int .i64 1))⟩,
  ⟨(some 5), none, .mov (.t 11)⟩])))))) (.seq (.reg [⟨(some 63), none, .mov (.t 1)⟩,
  ⟨(some 4), none, .mov (.t 63)⟩]) (.ret)))
def laws_markLinkS_r : List RS := [.t 4]
def laws_markLinkS_s0 (t0 t1 t5 : AV) (loc : List (List AV)) (h : AH) : St := ⟨[t0, t1, .any, .any, .any, t5, .any, .any, .any, .any, .any, .any, .any, .any, .any, .any, .any, .any, .any, .any, .any, .any, .any, .any, .any, .any, .any, .any, .any, .any, .any, .any, .any, .any, .any, .any, .any, .any, .any, .any, .any, .any, .any, .any, .any, .any, .any, .any, .any, .any, .any, .any, .any, .any, .any, .any, .any, .any, .any, .any, .any, .any, .any, .any], loc, h⟩
theorem laws_markLinkS_e {a0 a1 : AV} {h : AH} {K : AV → AH → Prop} (hw : TC Try.prog Θ Γ laws_markLinkS_c (retQ laws_markLinkS_r K) ⟨[a0, a1, u, u, u, u, u, u, u, u, u, u, u, u, u, u, u, u, u, u, u, u, u, u, u, u, u, u, u, u, u, u, u, u, u, u, u, u, u, u, u, u, u, u, u, u, u, u, u, u, u, u, u, u, u, u, u, u, u, u, u, u, u, u], [], h⟩) : T Try.prog Γ Fn.laws_markLinkS [a0, a1] h K :=
  T_of_body tabOK Try.func121 (code := bodyOf Try.f121) (by kernel_rfl) (by kernel_rfl) (by kernel_rfl) (by kernel_rfl) hw
def laws_markOutgoingS_c : C := .seq (.reg [⟨(some 4), none, .mov (.c (.int .i64 0))⟩]) (.seq (.seq (.reg [⟨(some 5), none, .mov (.c (.int .i64 0))⟩]) (.block 0 (.loop (.seq (.seq (.reg [⟨(some 6), none, .mov (.t 5)⟩,
  ⟨(some 7), none, .mov (.t 0)⟩,
  ⟨(some 8), none, .len false (.t 7)⟩,
  ⟨(some 9), none, .bin .lss (.num) (.t 6) (.t 8)⟩]) (.cond (.t 9) (.skip) (.exit 0))) (.seq (.block 1 (.seq (.reg [⟨(some 12), none, .mov (.t 0)⟩,
  ⟨(some 13), none, .mov (.t 5)⟩,
  ⟨(some 14), none, .mov (.t 1)⟩,
  ⟨(some 15), none, .idxs 13 (.t 12) (.t 13)⟩,
  ⟨(some 16), none, .fld 0 (.t 15)⟩,
  ⟨none, none, .store 1 (.t 16) (.t 14)⟩]) (.seq (.reg [⟨(some 17), none, .mov (.t 1)⟩,
  ⟨(some 18), none, .bin .add (.num) (.t 17) (.c (.int .i64 1))⟩,
  ⟨(some 1), none, .mov (.t 18)⟩]) (.seq (.reg [⟨(some 19), none, .mov (.t 0)⟩,
  ⟨(some 20), none, .mov (.t 5)⟩,
  ⟨(some 21), none, .mov (.t 1)⟩,
  ⟨(some 22), none, .idxs 13 (.t 19) (.t 20)⟩,
  ⟨(some 23), none, .fld 1 (.t 22)⟩,
  ⟨(some 24), none, .fld 0 (.t 23)⟩,
  ⟨none, none, .store 1 (.t 24) (.t 21)⟩]) (.seq (.reg [⟨(some 25), none, .mov (.t 1)⟩,
  ⟨(some 26), none, .bin .add (.num) (.t 25) (.c (.int .i64 1))⟩,
  ⟨(some 1), none, .mov (.t 26)⟩]) (.seq (.reg [⟨(some 27), none, .mov (.t 0)⟩,
  ⟨(some 28), none, .mov (.t 5)⟩,
  ⟨(some 29), none, .mov (.t 1)⟩,
  ⟨(some 30), none, .idxs 13 (.t 27) (.t 28)⟩,
  ⟨(some 31), none, .fld 1 (.t 30)⟩,
  ⟨(some 32), none, .fld 1 (.t 31)⟩,
  ⟨none, none, .store 1 (.t 32) (.t 29)⟩]) (.seq (.reg [⟨(some 33), none, .mov (.t 1)⟩,
  ⟨(some 34), none, .bin .add (.num) (.t 33) (.c (.int .i64 1))⟩,
  ⟨(some 1), none, .mov (.t 34)⟩]) (.seq (.reg [⟨(some 35), none, .mov (.t 0)⟩,
  ⟨(some 36), none, .mov (.t 5)⟩,
  ⟨(some 37), none, .mov (.t 1)⟩,
  ⟨(some 38), none, .idxs 13 (.t 35) (.t 36)⟩,
  ⟨(some 39), none, .fld 1 (.t 38)⟩,
  ⟨(some 40), none, .fld 2 (.t 39)⟩,
  ⟨none, none, .store 1 (.t 40) (.t 37)⟩]) (.seq (.reg [⟨(some 41), none, .mov (.t 1)⟩,
  ⟨(some 42), none, .bin .add (.num) (.t 41) (.c (.int .i64 1))⟩,
  ⟨(some 1), none, .mov (.t 42)⟩]) (.seq (.reg [⟨(some 43), none, .mov (.t 0)⟩,
  ⟨(some 44), none, .mov (.t 5)⟩,
  ⟨(some 45), none, .mov (.t 1)⟩,
  ⟨(some 46), none, .idxs 13 (.t 43) (.t 44)⟩,
  ⟨(some 47), none, .fld 1 (.t 46)⟩,
  ⟨(some 48), none, .fld 3 (.t 47)⟩,
  ⟨none, none, .store 1 (.t 48) (.t 45)⟩]) (.seq (.reg [⟨(some 49), none, .mov (.t 1)⟩,
  ⟨(some 50), none, .bin .add (.num) (.t 49) (.c (.int .i64 1))⟩,
  ⟨(some 1), none, .mov (.t 50)⟩]) (.seq (.reg [⟨(some 51), none, .mov (.t 0)⟩,
  ⟨(some 52), none, .mov (.t 5)⟩,
  ⟨(some 53), none, .mov (.t 1)⟩,
  ⟨(some 54), none, .call (.c (.fn Fn.laws_markText [] [])) [.t 53]⟩,
  ⟨(some 55), none, .idxs 13 (.t 51) (.t 52)⟩,
  ⟨(some 56), none, .fld 1 (.t 55)⟩,
  ⟨(some 57), none, .fld 4 (.t 56)⟩,
  ⟨none, none, .store 1 (.t 57) (.t 54)⟩]) (.seq (.reg [⟨(some 58), none, .mov (.t 1)⟩,
  ⟨(some 59), none, .bin .add (.num) (.t 58) (.c (.int .i64 1))⟩,
  ⟨(some 1), none, .mov (.t 59)⟩]) (.seq (.reg [⟨(some 60), none, .mov (.t 0)⟩,
  ⟨(some 61), none, .mov (.t 5)⟩,
  ⟨(some 62), none, .idxs 13 (.t 60) (.t 61)⟩,
  ⟨(some 63), none, .fld 1 (.t 62)⟩,
  ⟨(some 64), none, .fld 5 (.t 63)⟩,
  ⟨(some 65), none, .load 1 false (.t 64)⟩,
  ⟨(some 66), none, .mov (.t 1)⟩,
  ⟨(some 67), none, .call (.c (.fn Fn.laws_markWireS [] [])) [.t 65, .t 66]⟩,
  ⟨(some 1), none, .mov (.t 67)⟩]) (.seq (.reg [⟨(some 68), none, .mov (.t 0)⟩,
  ⟨(some 69), none, .mov (.t 5)⟩,
  ⟨(some 70), none, .mov (.t 1)⟩,
  ⟨(some 71), none, .idxs 13 (.t 68) (.t 69)⟩,
  ⟨(some 72), none, .fld 1 (.t 71)⟩,
  ⟨(some 73), none, .fld 6 (.t 72)⟩,
  ⟨(some 74), none, .fld 0 (.t 73)⟩,
  ⟨none, none, .store 1 (.t 74) (.t 70)⟩]) (.seq (.reg [⟨(some 75), none, .mov (.t 1)⟩,
  ⟨(some 76), none, .bin .add (.num) (.t 75) (.c (.int .i64 1))⟩,
  ⟨(some 1), none, .mov (.t 76)⟩]) (.seq (.reg [⟨(some 77), none, .mov (.t 0)⟩,
  ⟨(some 78), none, .mov (.t 5)⟩,
  ⟨(some 79), none, .mov (.t 1)⟩,
  ⟨(some 80), none, .idxs 13 (.t 77) (.t 78)⟩,
  ⟨(some 81), none, .fld 1 (.t 80)⟩,
  ⟨(some 82), none, .fld 6 (.t 81)⟩,
  ⟨(some 83), none, .fld 1 (.t 82)⟩,
  ⟨none, none, .store 1 (.t 83) (.t 79)⟩]) (.seq (.reg [⟨(some 84), none, .mov (.t 1)⟩,
  ⟨(some 85), none, .bin .add (.num) (.t 84) (.c (.int .i64 1))⟩,
  ⟨(some 1), none, .mov (.t 85)⟩]) (.seq (.reg [⟨(some 86), none, .mov (.t 0)⟩,
  ⟨(some 87), none, .mov (.t 5)⟩,
  ⟨(some 88), none, .mov (.t 1)⟩,
  ⟨(some 89), none, .idxs 13 (.t 86) (.t 87)⟩,
  ⟨(some 90), none, .fld 1 (.t 89)⟩,
  ⟨(some 91), none, .fld 8 (.t 90)⟩,
  ⟨none, none, .store 1 (.t 91) (.t 88)⟩]) (.seq (.reg [⟨(some 92), none, .mov (.t 1)⟩,
  ⟨(some 93), none, .bin .add (.num) (.t 92) (.c (.int .i64 1))⟩,
  ⟨(some 1), none, .mov (.t 93)⟩]) (.seq (.reg [⟨(some 94), none, .mov (.t 0)⟩,
  ⟨(some 95), none, .mov (.t 5)⟩,
  ⟨(some 96), none, .mov (.t 1)⟩,
  ⟨(some 97), none, .idxs 13 (.t 94) (.t 95)⟩,
  ⟨(some 98), none, .fld 1 (.t 97)⟩,
  ⟨(some 99), none, .fld 9 (.t 98)⟩,
  ⟨(some 100), none, .fld 0 (.t 99)⟩,
  ⟨none, none, .store 1 (.t 100) (.t 96)⟩]) (.seq (.reg [⟨(some 101), none, .mov (.t 1)⟩,
  ⟨(some 102), none, .bin .add (.num) (.t 101) (.c (.int .i64 1))⟩,
  ⟨(some 1), none, .mov (.t 102)⟩]) (.seq (.reg [⟨(some 103), none, .mov (.t 0)⟩,
  ⟨(some 104), none, .mov (.t 5)⟩,
  ⟨(some 105), none, .mov (.t 1)⟩,
  ⟨(some 106), none, .idxs 13 (.t 103) (.t 104)⟩,
  ⟨(some 107), none, .fld 1 (.t 106)⟩,
  ⟨(some 108), none, .fld 9 (.t 107)⟩,
  ⟨(some 109), none, .fld 1 (.t 108)⟩,
  ⟨none, none, .store 1 (.t 109) (.t 105)⟩]) (.seq (.reg [⟨(some 110), none, .mov (.t 1)⟩,
  ⟨(some 111), none, .bin .add (.num) (.t 110) (.c (.int .i64 1))⟩,
  ⟨(some 1), none, .mov (.t 111)⟩]) (.seq (.reg [⟨(some 112), none, .mov (.t 0)⟩,
  ⟨(some 113), none, .mov (.t 5)⟩,
  ⟨(some 114), none, .mov (.t 1)⟩,
  ⟨(some 115), none, .idxs 13 (.t 112) (.t 113)⟩,
  ⟨(some 116), none, .fld 1 (.t 115)⟩,
  ⟨(some 117), none, .fld 9 (.t 116)⟩,
  ⟨(some 118), none, .fld 2 (.t 117)⟩,
  ⟨none, none, .store 1 (.t 118) (.t 114)⟩]) (.reg [⟨(some 119), none, .mov (.t 1)⟩,
  ⟨(some 120), none, .bin .add (.num) (.t 119) (.c (.int .i64 1))⟩,
  ⟨(some 1), none, .mov (.t 120)⟩])))))))))))))))))))))))))) (.reg [⟨(some 10), none, .mov (.t 5)⟩,
  ⟨(some 11), none, .bin .add (.num) (.t 10) (.c (.int .i64 1))⟩,
  ⟨(some 5), none, .mov (.t 11)⟩])))))) (.seq (.reg [⟨(some 121), none, .mov (.t 1)⟩,
  ⟨(some 4), none, .mov (.t 121)⟩]) (.ret)))
def laws_markOutgoingS_r : List RS := [.t 4]
def laws_markOutgoingS_s0 (t0 t1 t5 : AV) (loc : List (List AV)) (h : AH) : St := ⟨[t0, t1, .any, .any, .any, t5, .any, .any, .any, .any, .any, .any, .any, .any, .any, .any, .any, .any, .any, .any, .any, .any, .any, .any, .any, .any, .any, .any, .any, .any, .any, .any, .any, .any, .any, .any, .any, .any, .any, .any, .any, .any, .any, .any, .any, .any, .any, .any, .any, .any, .any, .any, .any, .any, .any, .any, .any, .any, .any, .any, .any, .any, .any, .any, .any, .any, .any, .any, .any, .any, .any, .any, .any, .any, .any, .any, .any, .any, .any, .any, .any, .any, .any, .any, .any, .any, .any, .any, .any, .any, .any, .any, .any, .any, .any, .any, .any, .any, .any, .any, .any, .any, .any, .any, .any, .any, .any, .any, .any, .any, .any, .any, .any, .any, .any, .any, .any, .any, .any, .any, .any, .any], loc, h⟩
theorem laws_markOutgoingS_e {a0 a1 : AV} {h : AH} {K : AV → AH → Prop} (hw : TC Try.prog Θ Γ laws_markOutgoingS_c (retQ laws_markOutgoingS_r K) ⟨[a0, a1, u, u, u, u, u, u, u, u, u, u, u, u, u, u, u, u, u, u, u, u, u, u, u, u, u, u, u, u, u, u, u, u, u, u, u, u, u, u, u, u, u, u, u, u, u, u, u, u, u, u, u, u, u, u, u, u, u, u, u, u, u, u, u, u, u, u, u, u, u, u, u, u, u, u, u, u, u, u, u, u, u, u, u, u, u, u, u, u, u, u, u, u, u, u, u, u, u, u, u, u, u, u, u, u, u, u, u, u, u, u, u, u, u, u, u, u, u, u, u, u], [], h⟩) : T Try.prog Γ Fn.laws_markOutgoingS [a0, a1] h K :=
  T_of_body tabOK Try.func122 (code := bodyOf Try.f122) (by kernel_rfl) (by kernel_rfl) (by kernel_rfl) (by kernel_rfl) hw
def laws_heldValueS_c : C := .seq (.reg [⟨(some 4), none, .mov (.c (.int .i64 0))⟩]) (.seq (.seq (.reg [⟨(some 5), none, .mov (.c (.int .i64 0))⟩]) (.block 0 (.loop (.seq (.seq (.reg [⟨(some 6), none, .mov (.t 5)⟩,
  ⟨(some 7), none, .mov (.t 0)⟩,
  ⟨(some 8), none, .len false (.t 7)⟩,
  ⟨(some 9), none, .bin .lss (.num) (.t 6) (.t 8)⟩]) (.cond (.t 9) (.skip) (.exit 0))) (.seq (.block 1 (.seq (.seq (.reg [⟨(some 12), none, .mov (.t 0)⟩,
  ⟨(some 13), none, .mov (.t 5)⟩,
  ⟨(some 14), none, .idxs 2 (.t 12) (.t 13)⟩,
  ⟨(some 15), none, .fld 0 (.t 14)⟩,
  ⟨(some 16), none, .load 1 false (.t 15)⟩,
  ⟨(some 17), none, .mov (.t 1)⟩,
  ⟨(some 18), none, .bin .neq (.num) (.t 16) (.t 17)⟩]) (.cond (.t 18) (.seq (.reg [⟨(some 4), none, .mov (.c (.int .i64 (-1)))⟩]) (.ret)) (.skip))) (.seq (.reg [⟨(some 19), none, .mov (.t 1)⟩,
  ⟨(some 20), none, .bin .add (.num) (.t 19) (.c (.int .i64 1))⟩,
  ⟨(some 1), none, .mov (.t 20)⟩]) (.seq (.seq (.reg [⟨(some 21), none, .mov (.t 0)⟩,
  ⟨(some 22), none, .mov (.t 5)⟩,
  ⟨(some 23), none, .idxs 2 (.t 21) (.t 22)⟩,
  ⟨(some 24), none, .fld 1 (.t 23)⟩,
  ⟨(some 25), none, .load 1 false (.t 24)⟩,
  ⟨(some 26), none, .mov (.t 1)⟩,
  ⟨(some 27), none, .bin .neq (.num) (.t 25) (.t 26)⟩]) (.cond (.t 27) (.seq (.reg [⟨(some 4), none, .mov (.c (.int .i64 (-1)))⟩]) (.ret)) (.skip))) (.reg [⟨(some 28), none, .mov (.t 1)⟩,
  ⟨(some 29), none, .bin .add (.num) (.t 28) (.c (.int .i64 1))⟩,
  ⟨(some 1), none, .mov (.t 29)⟩]))))) (.reg [⟨(some 10), none, .mov (.t 5)⟩,
  ⟨(some 11), none, .bin .add (.num) (.t 10) (.c (.int .i64 1))⟩,
  ⟨(some 5), none, .mov (.t 11)⟩])))))) (.seq (.reg [⟨(some 30), none, .mov (.t 1)⟩,
  ⟨(some 4), none, .mov (.t 30)⟩]) (.ret)))
def laws_heldValueS_r : List RS := [.t 4]
def laws_heldValueS_s0 (t0 t1 t5 : AV) (loc : List (List AV)) (h : AH) : St := ⟨[t0, t1, .any, .any, .any, t5, .any, .any, .any, .any, .any, .any, .any, .any, .any, .any, .any, .any, .any, .any, .any, .any, .any, .any, .any, .any, .any, .any, .any, .any, .any], loc, h⟩
theorem laws_heldValueS_e {a0 a1 : AV} {h : AH} {K : AV → AH → Prop} (hw : TC Try.prog Θ Γ laws_heldValueS_c (retQ laws_heldValueS_r K) ⟨[a0, a1, u, u, u, u, u, u, u, u, u, u, u, u, u, u, u, u, u, u, u, u, u, u, u, u, u, u, u, u, u], [], h⟩) : T Try.prog Γ Fn.laws_heldValueS [a0, a1] h K :=
  T_of_body tabOK Try.func123 (code := bodyOf Try.f123) (by kernel_rfl) (by kernel_rfl) (by kernel_rfl) (by kernel_rfl) hw
def laws_szValueS_c : C := .seq (.reg [⟨(some 4), none, .mov (.c (.int .i64 0))⟩]) (.seq (.reg [⟨(some 5), none, .mov (.t 1)⟩,
  ⟨(some 6), none, .mov (.t 0)⟩,
  ⟨(some 7), none, .len false (.t 6)⟩,
  ⟨(some 8), none, .bin .sub (.num) (.t 5) (.t 7)⟩,
  ⟨(some 1), none, .mov (.t 8)⟩]) (.seq (.seq (.reg [⟨(some 9), none, .mov (.t 1)⟩,
  ⟨(some 10), none, .bin .lss (.num) (.t 9) (.c (.int .i64 0))⟩]) (.cond (.t 10) (.seq (.reg [⟨(some 4), none, .mov (.c (.int .i64 (-1)))⟩]) (.ret)) (.skip))) (.seq (.reg [⟨(some 11), none, .mov (.t 1)⟩,
  ⟨(some 4), none, .mov (.t 11)⟩]) (.ret))))
def laws_szValueS_r : List RS := [.t 4]
theorem laws_szValueS_e {a0 a1 : AV} {h : AH} {K : AV → AH → Prop} (hw : TC Try.prog Θ Γ laws_szValueS_c (retQ laws_szValueS_r K) ⟨[a0, a1, u, u, u, u, u, u, u, u, u, u], [], h⟩) : T Try.prog Γ Fn.laws_szValueS [a0, a1] h K :=
  T_of_body tabOK Try.func124 (code := bodyOf Try.f124) (by kernel_rfl) (by kernel_rfl) (by kernel_rfl) (by kernel_rfl) hw
def laws_toValueS_c : C := .seq (.reg [⟨(some 2), none, .mov (.c (.nils))⟩]) (.seq (.reg [⟨(some 5), none, .mov (.t 0)⟩,
  ⟨(some 6), none, .len false (.t 5)⟩,
  ⟨(some 7), none, .mks 2 16 [.int .i64 0, .int .i64 0] (.t 6) (.t 6)⟩,
  ⟨(some 3), none, .mov (.t 7)⟩]) (.seq (.seq (.reg [⟨(some 4), none, .mov (.c (.int .i64 0))⟩]) (.block 0 (.loop (.seq (.seq (.reg [⟨(some 8), none, .mov (.t 4)⟩,
  ⟨(some 9), none, .mov (.t 0)⟩,
  ⟨(some 10), none, .len false (.t 9)⟩,
  ⟨(some 11), none, .bin .lss (.num) (.t 8) (.t 10)⟩]) (.cond (.t 11) (.skip) (.exit 0))) (.seq (.block 1 (.reg [⟨(some 14), none, .mov (.t 3)⟩,
  ⟨(some 15), none, .mov (.t 4)⟩,
  ⟨(some 16), none, .mov (.t 0)⟩,
  ⟨(some 17), none, .mov (.t 4)⟩,
  ⟨(some 18), none, .idxs 2 (.t 16) (.t 17)⟩,
  ⟨(some 19), none, .load 2 true (.t 18)⟩,
  ⟨(some 20), none, .call (.c (.fn Fn.laws_toValue [] [])) [.t 19]⟩,
  ⟨(some 21), none, .idxs 2 (.t 14) (.t 15)⟩,
  ⟨none, none, .store 2 (.t 21) (.t 20)⟩])) (.reg [⟨(some 12), none, .mov (.t 4)⟩,
  ⟨(some 13), none, .bin .add (.num) (.t 12) (.c (.int .i64 1))⟩,
  ⟨(some 4), none, .mov (.t 13)⟩])))))) (.seq (.reg [⟨(some 22), none, .mov (.t 3)⟩,
  ⟨(some 2), none, .mov (.t 22)⟩]) (.ret))))
def laws_toValueS_r : List RS := [.t 2]
def laws_toValueS_s0 (t0 t3 t4 : AV) (loc : List (List AV)) (h : AH) : St := ⟨[t0, .any, .any, t3, t4, .any, .any, .any, .any, .any, .any, .any, .any, .any, .any, .any, .any, .any, .any, .any, .any, .any, .any], loc, h⟩
theorem laws_toValueS_e {a0 : AV} {h : AH} {K : AV → AH → Prop} (hw : TC Try.prog Θ Γ laws_toValueS_c (retQ laws_toValueS_r K) ⟨[a0, u, u, u, u, u, u, u, u, u, u, u, u, u, u, u, u, u, u, u, u, u, u], [], h⟩) : T Try.prog Γ Fn.laws_toValueS [a0] h K :=
  T_of_body tabOK Try.func125 (code := bodyOf Try.f125) (by kernel_rfl) (by kernel_rfl) (by kernel_rfl) (by kernel_rfl) hw
def laws_eqValueS_d0_os : List O := [⟨(some 17), none, .mov (.t 0)⟩,
  ⟨(some 18), none, .mov (.t 5)⟩,
  ⟨(some 19), none, .idxs 2 (.t 17) (.t 18)⟩,
  ⟨(some 20), none, .load 2 true (.t 19)⟩,
  ⟨(some 21), none, .mov (.t 1)⟩,
  ⟨(some 22), none, .mov (.t 5)⟩,
  ⟨(some 23), none, .idxs 2 (.t 21) (.t 22)⟩,
  ⟨(some 24), none, .load 2 true (.t 23)⟩,
  ⟨(some 25), none, .call (.c (.fn Fn.laws_eqValue [] [])) [.t 20, .t 24]⟩,
  ⟨(some 26), none, .un .not (.t 25)⟩]
def laws_eqValueS_d0_af : List (List Nat) := [[], [], [0, 1], [2], [], [], [4, 5], [6], [3, 7], [8]]
theorem laws_eqValueS_d0_q (gl : Gl) (Q : AE → St → Prop) (s : St) : aw Try.prog Θ Γ gl (.regD laws_eqValueS_d0_os laws_eqValueS_d0_af) Q s = awpT Try.prog Γ gl [⟨(some 17), none, .mov (.t 0)⟩,
  ⟨(some 18), none, .mov (.t 5)⟩,
  ⟨(some 19), none, .idxs 2 (.t 17) (.t 18)⟩,
  ⟨(some 20), none, .load 2 true (.t 19)⟩,
  ⟨(some 21), none, .mov (.t 1)⟩,
  ⟨(some 22), none, .mov (.t 5)⟩,
  ⟨(some 23), none, .idxs 2 (.t 21) (.t 22)⟩,
  ⟨(some 24), none, .load 2 true (.t 23)⟩,
  ⟨(some 25), none, .call (.c (.fn Fn.laws_eqValue [] [])) [.t 20, .t 24]⟩,
  ⟨(some 26), none, .un .not (.t 25)⟩] (Q .normal) 10 (.q 0 (.q 1 (.q 2 (.q 3 (.q 4 (.q 5 (.q 6 (.q 7 (.all [(8, .q 9 (.done))]))))))))) s := a_dd rfl (by kernel_rfl) gl Q s
def laws_eqValueS_c : C := .seq (.reg [⟨(some 4), none, .mov (.c (.bool false))⟩]) (.seq (.seq (.reg [⟨(some 6), none, .mov (.t 0)⟩,
  ⟨(some 7), none, .len false (.t 6)⟩,
  ⟨(some 8), none, .mov (.t 1)⟩,
  ⟨(some 9), none, .len false (.t 8)⟩,
  ⟨(some 10), none, .bin .neq (.num) (.t 7) (.t 9)⟩]) (.cond (.t 10) (.seq (.reg [⟨(some 4), none, .mov (.c (.bool false))⟩]) (.ret)) (.skip))) (.seq (.seq (.reg [⟨(some 5), none, .mov (.c (.int .i64 0))⟩]) (.block 0 (.loop (.seq (.seq (.reg [⟨(some 11), none, .mov (.t 5)⟩,
  ⟨(some 12), none, .mov (.t 0)⟩,
  ⟨(some 13), none, .len false (.t 12)⟩,
  ⟨(some 14), none, .bin .lss (.num) (.t 11) (.t 13)⟩]) (.cond (.t 14) (.skip) (.exit 0))) (.seq (.block 1 (.seq (.regD laws_eqValueS_d0_os laws_eqValueS_d0_af) (.cond (.t 26) (.seq (.reg [⟨(some 4), none, .mov (.c (.bool false))⟩]) (.ret)) (.skip)))) (.reg [⟨(some 15), none, .mov (.t 5)⟩,
  ⟨(some 16), none, .bin .add (.num) (.t 15) (.c (.int .i64 1))⟩,
  ⟨(some 5), none, .mov (.t 16)⟩])))))) (.seq (.reg [⟨(some 4), none, .mov (.c (.bool true))⟩]) (.ret))))
def laws_eqValueS_r : List RS := [.t 4]
def laws_eqValueS_s0 (t0 t1 t5 : AV) (loc : List (List AV)) (h : AH) : St := ⟨[t0, t1, .any, .any, .any, t5, .any, .any, .any, .any, .any, .any, .any, .any, .any, .any, .any, .any, .any, .any, .any, .any, .any, .any, .any, .any, .any], loc, h⟩
theorem laws_eqValueS_e {a0 a1 : AV} {h : AH} {K : AV → AH → Prop} (hw : TC Try.prog Θ Γ laws_eqValueS_c (retQ laws_eqValueS_r K) ⟨[a0, a1, u, u, u, u, u, u, u, u, u, u, u, u, u, u, u, u, u, u, u, u, u, u, u, u, u], [], h⟩) : T Try.prog Γ Fn.laws_eqValueS [a0, a1] h K :=
  T_of_body tabOK Try.func126 (code := bodyOf Try.f126) (by kernel_rfl) (by kernel_rfl) (by kernel_rfl) (by kernel_rfl) hw
def laws_szEntity_c : C := .seq (.reg [⟨(some 2), none, .box (.t 0)⟩,
  ⟨(some 4), none, .mov (.c (.int .i64 0))⟩]) (.seq (.reg [⟨(some 5), none, .fld 2 (.t 2)⟩,
  ⟨(some 6), none, .load 1 false (.t 5)⟩,
  ⟨(some 7), none, .mov (.t 1)⟩,
  ⟨(some 8), none, .call (.c (.fn Fn.laws_szValueS [] [])) [.t 6, .t 7]⟩,
  ⟨(some 1), none, .mov (.t 8)⟩]) (.seq (.seq (.reg [⟨(some 9), none, .mov (.t 1)⟩,
  ⟨(some 10), none, .bin .lss (.num) (.t 9) (.c (.int .i64 0))⟩]) (.cond (.t 10) (.seq (.reg [⟨(some 4), none, .mov (.c (.int .i64 (-1)))⟩]) (.ret)) (.skip))) (.seq (.reg [⟨(some 11), none, .fld 6 (.t 2)⟩,
  ⟨(some 12), none, .load 1 false (.t 11)⟩,
  ⟨(some 13), none, .mov (.t 1)⟩,
  ⟨(some 14), none, .call (.c (.fn Fn.laws_szSentS [] [])) [.t 12, .t 13]⟩,
  ⟨(some 1), none, .mov (.t 14)⟩]) (.seq (.seq (.reg [⟨(some 15), none, .mov (.t 1)⟩,
  ⟨(some 16), none, .bin .lss (.num) (.t 15) (.c (.int .i64 0))⟩]) (.cond (.t 16) (.seq (.reg [⟨(some 4), none, .mov (.c (.int .i64 (-1)))⟩]) (.ret)) (.skip))) (.seq (.reg [⟨(some 17), none, .fld 7 (.t 2)⟩,
  ⟨(some 18), none, .load 1 false (.t 17)⟩,
  ⟨(some 19), none, .mov (.t 1)⟩,
  ⟨(some 20), none, .call (.c (.fn Fn.laws_szAskerS [] [])) [.t 18, .t 19]⟩,
  ⟨(some 1), none, .mov (.t 20)⟩]) (.seq (.seq (.reg [⟨(some 21), none, .mov (.t 1)⟩,
  ⟨(some 22), none, .bin .lss (.num) (.t 21) (.c (.int .i64 0))⟩]) (.cond (.t 22) (.seq (.reg [⟨(some 4), none, .mov (.c (.int .i64 (-1)))⟩]) (.ret)) (.skip))) (.seq (.reg [⟨(some 23), none, .mov (.t 1)⟩,
  ⟨(some 4), none, .mov (.t 23)⟩]) (.ret))))))))
def laws_szEntity_r : List RS := [.t 4]
theorem laws_szEntity_e {a0 a1 : AV} {h : AH} {K : AV → AH → Prop} (hw : TC Try.prog Θ Γ laws_szEntity_c (retQ laws_szEntity_r K) ⟨[a0, a1, u, u, u, u, u, u, u, u, u, u, u, u, u, u, u, u, u, u, u, u, u, u], [], h⟩) : T Try.prog Γ Fn.laws_szEntity [a0, a1] h K :=
  T_of_body tabOK Try.func140 (code := bodyOf Try.f140) (by kernel_rfl) (by kernel_rfl) (by kernel_rfl) (by kernel_rfl) hw
def laws_szLink_c : C := .seq (.reg [⟨(some 2), none, .box (.t 0)⟩,
  ⟨(some 4), none, .mov (.c (.int .i64 0))⟩]) (.seq (.reg [⟨(some 5), none, .fld 2 (.t 2)⟩,
  ⟨(some 6), none, .load 1 false (.t 5)⟩,
  ⟨(some 7), none, .mov (.t 1)⟩,
  ⟨(some 8), none, .call (.c (.fn Fn.laws_szExportS [] [])) [.t 6, .t 7]⟩,
  ⟨(some 1), none, .mov (.t 8)⟩]) (.seq (.seq (.reg [⟨(some 9), none, .mov (.t 1)⟩,
  ⟨(some 10), none, .bin .lss (.num) (.t 9) (.c (.int .i64 0))⟩]) (.cond (.t 10) (.seq (.reg [⟨(some 4), none, .mov (.c (.int .i64 (-1)))⟩]) (.ret)) (.skip))) (.seq (.reg [⟨(some 11), none, .fld 4 (.t 2)⟩,
  ⟨(some 12), none, .load 1 false (.t 11)⟩,
  ⟨(some 13), none, .mov (.t 1)⟩,
  ⟨(some 14), none, .call (.c (.fn Fn.laws_szQuestionS [] [])) [.t 12, .t 13]⟩,
  ⟨(some 1), none, .mov (.t 14)⟩]) (.seq (.seq (.reg [⟨(some 15), none, .mov (.t 1)⟩,
  ⟨(some 16), none, .bin .lss (.num) (.t 15) (.c (.int .i64 0))⟩]) (.cond (.t 16) (.seq (.reg [⟨(some 4), none, .mov (.c (.int .i64 (-1)))⟩]) (.ret)) (.skip))) (.seq (.reg [⟨(some 17), none, .fld 6 (.t 2)⟩,
  ⟨(some 18), none, .load 1 false (.t 17)⟩,
  ⟨(some 19), none, .mov (.t 1)⟩,
  ⟨(some 20), none, .call (.c (.fn Fn.laws_szQuestionS [] [])) [.t 18, .t 19]⟩,
  ⟨(some 1), none, .mov (.t 20)⟩]) (.seq (.seq (.reg [⟨(some 21), none, .mov (.t 1)⟩,
  ⟨(some 22), none, .bin .lss (.num) (.t 21) (.c (.int .i64 0))⟩]) (.cond (.t 22) (.seq (.reg [⟨(some 4), none, .mov (.c (.int .i64 (-1)))⟩]) (.ret)) (.skip))) (.seq (.reg [⟨(some 23), none, .mov (.t 1)⟩,
  ⟨(some 4), none, .mov (.t 23)⟩]) (.ret))))))))
def laws_szLink_r : List RS := [.t 4]
theorem laws_szLink_e {a0 a1 : AV} {h : AH} {K : AV → AH → Prop} (hw : TC Try.prog Θ Γ laws_szLink_c (retQ laws_szLink_r K) ⟨[a0, a1, u, u, u, u, u, u, u, u, u, u, u, u, u, u, u, u, u, u, u, u, u, u], [], h⟩) : T Try.prog Γ Fn.laws_szLink [a0, a1] h K :=
  T_of_body tabOK Try.func141 (code := bodyOf Try.f141) (by kernel_rfl) (by kernel_rfl) (by kernel_rfl) (by kernel_rfl) hw
def laws_toEntity_c : C := .seq (.reg [⟨(some 1), none, .box (.t 0)⟩,
  ⟨(some 2), none, .alloc [.int .i64 0, .int .i64 0, .nils, .int .i64 0, .int .i64 0, .int .i64 0, .nils, .nils, .int .i64 0, .int .i64 0, .int .i64 0, .int .i64 0]⟩]) (.seq (.reg [⟨(some 3), none, .alloc [.int .i64 0, .int .i64 0, .nils, .int .i64 0, .int .i64 0, .int .i64 0, .nils, .nils, .int .i64 0, .int .i64 0, .int .i64 0, .int .i64 0]⟩]) (.seq (.reg [⟨(some 4), none, .fld 0 (.t 1)⟩,
  ⟨(some 5), none, .load 1 false (.t 4)⟩,
  ⟨(some 6), none, .fld 0 (.t 3)⟩,
  ⟨none, none, .store 1 (.t 6) (.t 5)⟩]) (.seq (.reg [⟨(some 7), none, .fld 1 (.t 1)⟩,
  ⟨(some 8), none, .load 1 false (.t 7)⟩,
  ⟨(some 9), none, .fld 1 (.t 3)⟩,
  ⟨none, none, .store 1 (.t 9) (.t 8)⟩]) (.seq (.reg [⟨(some 10), none, .fld 2 (.t 1)⟩,
  ⟨(some 11), none, .load 1 false (.t 10)⟩,
  ⟨(some 12), none, .call (.c (.fn Fn.laws_toValueS [] [])) [.t 11]⟩,
  ⟨(some 13), none, .fld 2 (.t 3)⟩,
  ⟨none, none, .store 1 (.t 13) (.t 12)⟩]) (.seq (.reg [⟨(some 14), none, .fld 3 (.t 1)⟩,
  ⟨(some 15), none, .load 1 false (.t 14)⟩,
  ⟨(some 16), none, .fld 3 (.t 3)⟩,
  ⟨none, none, .store 1 (.t 16) (.t 15)⟩]) (.seq (.reg [⟨(some 17), none, .fld 4 (.t 1)⟩,
  ⟨(some 18), none, .load 2 true (.t 17)⟩,
  ⟨(some 19), none, .call (.c (.fn Fn.laws_toValue [] [])) [.t 18]⟩,
  ⟨(some 20), none, .fld 4 (.t 3)⟩,
  ⟨none, none, .store 2 (.t 20) (.t 19)⟩]) (.seq (.reg [⟨(some 21), none, .fld 6 (.t 1)⟩,
  ⟨(some 22), none, .load 1 false (.t 21)⟩,
  ⟨(some 23), none, .call (.c (.fn Fn.laws_toSentS [] [])) [.t 22]⟩,
  ⟨(some 24), none, .fld 6 (.t 3)⟩,
  ⟨none, none, .store 1 (.t 24) (.t 23)⟩]) (.seq (.reg [⟨(some 25), none, .fld 7 (.t 1)⟩,
  ⟨(some 26), none, .load 1 false (.t 25)⟩,
  ⟨(some 27), none, .call (.c (.fn Fn.laws_toAskerS [] [])) [.t 26]⟩,
  ⟨(some 28), none, .fld 7 (.t 3)⟩,
  ⟨none, none, .store 1 (.t 28) (.t 27)⟩]) (.seq (.reg [⟨(some 29), none, .fld 8 (.t 1)⟩,
  ⟨(some 30), none, .load 1 false (.t 29)⟩,
  ⟨(some 31), none, .fld 8 (.t 3)⟩,
  ⟨none, none, .store 1 (.t 31) (.t 30)⟩]) (.seq (.reg [⟨(some 32), none, .fld 9 (.t 1)⟩,
  ⟨(some 33), none, .load 1 false (.t 32)⟩,
  ⟨(some 34), none, .fld 9 (.t 3)⟩,
  ⟨none, none, .store 1 (.t 34) (.t 33)⟩]) (.seq (.reg [⟨(some 35), none, .fld 10 (.t 1)⟩,
  ⟨(some 36), none, .load 1 false (.t 35)⟩,
  ⟨(some 37), none, .fld 10 (.t 3)⟩,
  ⟨none, none, .store 1 (.t 37) (.t 36)⟩]) (.seq (.reg [⟨(some 38), none, .fld 11 (.t 1)⟩,
  ⟨(some 39), none, .load 1 false (.t 38)⟩,
  ⟨(some 40), none, .fld 11 (.t 3)⟩,
  ⟨none, none, .store 1 (.t 40) (.t 39)⟩]) (.seq (.reg [⟨(some 41), none, .load 12 true (.t 3)⟩,
  ⟨none, none, .store 12 (.t 2) (.t 41)⟩]) (.ret))))))))))))))
def laws_toEntity_r : List RS := [.cell 2 12 true]
theorem laws_toEntity_e {a0 : AV} {h : AH} {K : AV → AH → Prop} (hw : TC Try.prog Θ Γ laws_toEntity_c (retQ laws_toEntity_r K) ⟨[a0, u, u, u, u, u, u, u, u, u, u, u, u, u, u, u, u, u, u, u, u, u, u, u, u, u, u, u, u, u, u, u, u, u, u, u, u, u, u, u, u, u], [], h⟩) : T Try.prog Γ Fn.laws_toEntity [a0] h K :=
  T_of_body tabOK Try.func142 (code := bodyOf Try.f142) (by kernel_rfl) (by kernel_rfl) (by kernel_rfl) (by kernel_rfl) hw
def laws_toLink_c : C := .seq (.reg [⟨(some 1), none, .box (.t 0)⟩,
  ⟨(some 2), none, .alloc [.int .i64 0, .bool false, .nils, .int .i64 0, .nils, .int .i64 0, .nils]⟩]) (.seq (.reg [⟨(some 3), none, .alloc [.int .i64 0, .bool false, .nils, .int .i64 0, .nils, .int .i64 0, .nils]⟩]) (.seq (.reg [⟨(some 4), none, .fld 0 (.t 1)⟩,
  ⟨(some 5), none, .load 1 false (.t 4)⟩,
  ⟨(some 6), none, .fld 0 (.t 3)⟩,
  ⟨none, none, .store 1 (.t 6) (.t 5)⟩]) (.seq (.reg [⟨(some 7), none, .fld 1 (.t 1)⟩,
  ⟨(some 8), none, .load 1 false (.t 7)⟩,
  ⟨(some 9), none, .fld 1 (.t 3)⟩,
  ⟨none, none, .store 1 (.t 9) (.t 8)⟩]) (.seq (.reg [⟨(some 10), none, .fld 2 (.t 1)⟩,
  ⟨(some 11), none, .load 1 false (.t 10)⟩,
  ⟨(some 12), none, .call (.c (.fn Fn.laws_toExportS [] [])) [.t 11]⟩,
  ⟨(some 13), none, .fld 2 (.t 3)⟩,
  ⟨none, none, .store 1 (.t 13) (.t 12)⟩]) (.seq (.reg [⟨(some 14), none, .fld 3 (.t 1)⟩,
  ⟨(some 15), none, .load 1 false (.t 14)⟩,
  ⟨(some 16), none, .fld 3 (.t 3)⟩,
  ⟨none, none, .store 1 (.t 16) (.t 15)⟩]) (.seq (.reg [⟨(some 17), none, .fld 4 (.t 1)⟩,
  ⟨(some 18), none, .load 1 false (.t 17)⟩,
  ⟨(some 19), none, .call (.c (.fn Fn.laws_toQuestionS [] [])) [.t 18]⟩,
  ⟨(some 20), none, .fld 4 (.t 3)⟩,
  ⟨none, none, .store 1 (.t 20) (.t 19)⟩]) (.seq (.reg [⟨(some 21), none, .fld 5 (.t 1)⟩,
  ⟨(some 22), none, .load 1 false (.t 21)⟩,
  ⟨(some 23), none, .fld 5 (.t 3)⟩,
  ⟨none, none, .store 1 (.t 23) (.t 22)⟩]) (.seq (.reg [⟨(some 24), none, .fld 6 (.t 1)⟩,
  ⟨(some 25), none, .load 1 false (.t 24)⟩,
  ⟨(some 26), none, .call (.c (.fn Fn.laws_toQuestionS [] [])) [.t 25]⟩,
  ⟨(some 27), none, .fld 6 (.t 3)⟩,
  ⟨none, none, .store 1 (.t 27) (.t 26)⟩]) (.seq (.reg [⟨(some 28), none, .load 7 true (.t 3)⟩,
  ⟨none, none, .store 7 (.t 2) (.t 28)⟩]) (.ret))))))))))
def laws_toLink_r : List RS := [.cell 2 7 true]
theorem laws_toLink_e {a0 : AV} {h : AH} {K : AV → AH → Prop} (hw : TC Try.prog Θ Γ laws_toLink_c (retQ laws_toLink_r K) ⟨[a0, u, u, u, u, u, u, u, u, u, u, u, u, u, u, u, u, u, u, u, u, u, u, u, u, u, u, u, u], [], h⟩) : T Try.prog Γ Fn.laws_toLink [a0] h K :=
  T_of_body tabOK Try.func143 (code := bodyOf Try.f143) (by kernel_rfl) (by kernel_rfl) (by kernel_rfl) (by kernel_rfl) hw
def laws_eqEntity_c : C := .seq (.reg [⟨(some 2), none, .box (.t 0)⟩,
  ⟨(some 3), none, .box (.t 1)⟩,
  ⟨(some 4), none, .mov (.c (.bool false))⟩]) (.seq (.seq (.reg [⟨(some 5), none, .fld 0 (.t 2)⟩,
  ⟨(some 6), none, .load 1 false (.t 5)⟩,
  ⟨(some 7), none, .fld 0 (.t 3)⟩,
  ⟨(some 8), none, .load 1 false (.t 7)⟩,
  ⟨(some 9), none, .bin .neq (.num) (.t 6) (.t 8)⟩]) (.cond (.t 9) (.seq (.reg [⟨(some 4), none, .mov (.c (.bool false))⟩]) (.ret)) (.skip))) (.seq (.seq (.reg [⟨(some 10), none, .fld 1 (.t 2)⟩,
  ⟨(some 11), none, .load 1 false (.t 10)⟩,
  ⟨(some 12), none, .fld 1 (.t 3)⟩,
  ⟨(some 13), none, .load 1 false (.t 12)⟩,
  ⟨(some 14), none, .bin .neq (.num) (.t 11) (.t 13)⟩]) (.cond (.t 14) (.seq (.reg [⟨(some 4), none, .mov (.c (.bool false))⟩]) (.ret)) (.skip))) (.seq (.seq (.reg [⟨(some 15), none, .fld 2 (.t 2)⟩,
  ⟨(some 16), none, .load 1 false (.t 15)⟩,
  ⟨(some 17), none, .fld 2 (.t 3)⟩,
  ⟨(some 18), none, .load 1 false (.t 17)⟩,
  ⟨(some 19), none, .call (.c (.fn Fn.laws_eqValueS [] [])) [.t 16, .t 18]⟩,
  ⟨(some 20), none, .un .not (.t 19)⟩]) (.cond (.t 20) (.seq (.reg [⟨(some 4), none, .mov (.c (.bool false))⟩]) (.ret)) (.skip))) (.seq (.seq (.reg [⟨(some 21), none, .fld 3 (.t 2)⟩,
  ⟨(some 22), none, .load 1 false (.t 21)⟩,
  ⟨(some 23), none, .fld 3 (.t 3)⟩,
  ⟨(some 24), none, .load 1 false (.t 23)⟩,
  ⟨(some 25), none, .bin .neq (.num) (.t 22) (.t 24)⟩]) (.cond (.t 25) (.seq (.reg [⟨(some 4), none, .mov (.c (.bool false))⟩]) (.ret)) (.skip))) (.seq (.seq (.reg [⟨(some 26), none, .fld 4 (.t 2)⟩,
  ⟨(some 27), none, .load 2 true (.t 26)⟩,
  ⟨(some 28), none, .fld 4 (.t 3)⟩,
  ⟨(some 29), none, .load 2 true (.t 28)⟩,
  ⟨(some 30), none, .call (.c (.fn Fn.laws_eqValue [] [])) [.t 27, .t 29]⟩,
  ⟨(some 31), none, .un .not (.t 30)⟩]) (.cond (.t 31) (.seq (.reg [⟨(some 4), none, .mov (.c (.bool false))⟩]) (.ret)) (.skip))) (.seq (.seq (.reg [⟨(some 32), none, .fld 6 (.t 2)⟩,
  ⟨(some 33), none, .load 1 false (.t 32)⟩,
  ⟨(some 34), none, .fld 6 (.t 3)⟩,
  ⟨(some 35), none, .load 1 false (.t 34)⟩,
  ⟨(some 36), none, .call (.c (.fn Fn.laws_eqSentS [] [])) [.t 33, .t 35]⟩,
  ⟨(some 37), none, .un .not (.t 36)⟩]) (.cond (.t 37) (.seq (.reg [⟨(some 4), none, .mov (.c (.bool false))⟩]) (.ret)) (.skip))) (.seq (.seq (.reg [⟨(some 38), none, .fld 7 (.t 2)⟩,
  ⟨(some 39), none, .load 1 false (.t 38)⟩,
  ⟨(some 40), none, .fld 7 (.t 3)⟩,
  ⟨(some 41), none, .load 1 false (.t 40)⟩,
  ⟨(some 42), none, .call (.c (.fn Fn.laws_eqAskerS [] [])) [.t 39, .t 41]⟩,
  ⟨(some 43), none, .un .not (.t 42)⟩]) (.cond (.t 43) (.seq (.reg [⟨(some 4), none, .mov (.c (.bool false))⟩]) (.ret)) (.skip))) (.seq (.seq (.reg [⟨(some 44), none, .fld 8 (.t 2)⟩,
  ⟨(some 45), none, .load 1 false (.t 44)⟩,
  ⟨(some 46), none, .fld 8 (.t 3)⟩,
  ⟨(some 47), none, .load 1 false (.t 46)⟩,
  ⟨(some 48), none, .bin .neq (.num) (.t 45) (.t 47)⟩]) (.cond (.t 48) (.seq (.reg [⟨(some 4), none, .mov (.c (.bool false))⟩]) (.ret)) (.skip))) (.seq (.seq (.reg [⟨(some 49), none, .fld 9 (.t 2)⟩,
  ⟨(some 50), none, .load 1 false (.t 49)⟩,
  ⟨(some 51), none, .fld 9 (.t 3)⟩,
  ⟨(some 52), none, .load 1 false (.t 51)⟩,
  ⟨(some 53), none, .bin .neq (.num) (.t 50) (.t 52)⟩]) (.cond (.t 53) (.seq (.reg [⟨(some 4), none, .mov (.c (.bool false))⟩]) (.ret)) (.skip))) (.seq (.seq (.reg [⟨(some 54), none, .fld 10 (.t 2)⟩,
  ⟨(some 55), none, .load 1 false (.t 54)⟩,
  ⟨(some 56), none, .fld 10 (.t 3)⟩,
  ⟨(some 57), none, .load 1 false (.t 56)⟩,
  ⟨(some 58), none, .bin .neq (.num) (.t 55) (.t 57)⟩]) (.cond (.t 58) (.seq (.reg [⟨(some 4), none, .mov (.c (.bool false))⟩]) (.ret)) (.skip))) (.seq (.seq (.reg [⟨(some 59), none, .fld 11 (.t 2)⟩,
  ⟨(some 60), none, .load 1 false (.t 59)⟩,
  ⟨(some 61), none, .fld 11 (.t 3)⟩,
  ⟨(some 62), none, .load 1 false (.t 61)⟩,
  ⟨(some 63), none, .bin .neq (.num) (.t 60) (.t 62)⟩]) (.cond (.t 63) (.seq (.reg [⟨(some 4), none, .mov (.c (.bool false))⟩]) (.ret)) (.skip))) (.seq (.reg [⟨(some 4), none, .mov (.c (.bool true))⟩]) (.ret)))))))))))))
def laws_eqEntity_r : List RS := [.t 4]
theorem laws_eqEntity_e {a0 a1 : AV} {h : AH} {K : AV → AH → Prop} (hw : TC Try.prog Θ Γ laws_eqEntity_c (retQ laws_eqEntity_r K) ⟨[a0, a1, u, u, u, u, u, u, u, u, u, u, u, u, u, u, u, u, u, u, u, u, u, u, u, u, u, u, u, u, u, u, u, u, u, u, u, u, u, u, u, u, u, u, u, u, u, u, u, u, u, u, u, u, u, u, u, u, u, u, u, u, u, u], [], h⟩) : T Try.prog Γ Fn.laws_eqEntity [a0, a1] h K :=
  T_of_body tabOK Try.func146 (code := bodyOf Try.f146) (by kernel_rfl) (by kernel_rfl) (by kernel_rfl) (by kernel_rfl) hw
def laws_eqLink_c : C := .seq (.reg [⟨(some 2), none, .box (.t 0)⟩,
  ⟨(some 3), none, .box (.t 1)⟩,
  ⟨(some 4), none, .mov (.c (.bool false))⟩]) (.seq (.seq (.reg [⟨(some 5), none, .fld 0 (.t 2)⟩,
  ⟨(some 6), none, .load 1 false (.t 5)⟩,
  ⟨(some 7), none, .fld 0 (.t 3)⟩,
  ⟨(some 8), none, .load 1 false (.t 7)⟩,
  ⟨(some 9), none, .bin .neq (.num) (.t 6) (.t 8)⟩]) (.cond (.t 9) (.seq (.reg [⟨(some 4), none, .mov (.c (.bool false))⟩]) (.ret)) (.skip))) (.seq (.seq (.reg [⟨(some 10), none, .fld 1 (.t 2)⟩,
  ⟨(some 11), none, .load 1 false (.t 10)⟩,
  ⟨(some 12), none, .fld 1 (.t 3)⟩,
  ⟨(some 13), none, .load 1 false (.t 12)⟩,
  ⟨(some 14), none, .bin .neq (.bool) (.t 11) (.t 13)⟩]) (.cond (.t 14) (.seq (.reg [⟨(some 4), none, .mov (.c (.bool false))⟩]) (.ret)) (.skip))) (.seq (.seq (.reg [⟨(some 15), none, .fld 2 (.t 2)⟩,
  ⟨(some 16), none, .load 1 false (.t 15)⟩,
  ⟨(some 17), none, .fld 2 (.t 3)⟩,
  ⟨(some 18), none, .load 1 false (.t 17)⟩,
  ⟨(some 19), none, .call (.c (.fn Fn.laws_eqExportS [] [])) [.t 16, .t 18]⟩,
  ⟨(some 20), none, .un .not (.t 19)⟩]) (.cond (.t 20) (.seq (.reg [⟨(some 4), none, .mov (.c (.bool false))⟩]) (.ret)) (.skip))) (.seq (.seq (.reg [⟨(some 21), none, .fld 3 (.t 2)⟩,
  ⟨(some 22), none, .load 1 false (.t 21)⟩,
  ⟨(some 23), none, .fld 3 (.t 3)⟩,
  ⟨(some 24), none, .load 1 false (.t 23)⟩,
  ⟨(some 25), none, .bin .neq (.num) (.t 22) (.t 24)⟩]) (.cond (.t 25) (.seq (.reg [⟨(some 4), none, .mov (.c (.bool false))⟩]) (.ret)) (.skip))) (.seq (.seq (.reg [⟨(some 26), none, .fld 4 (.t 2)⟩,
  ⟨(some 27), none, .load 1 false (.t 26)⟩,
  ⟨(some 28), none, .fld 4 (.t 3)⟩,
  ⟨(some 29), none, .load 1 false (.t 28)⟩,
  ⟨(some 30), none, .call (.c (.fn Fn.laws_eqQuestionS [] [])) [.t 27, .t 29]⟩,
  ⟨(some 31), none, .un .not (.t 30)⟩]) (.cond (.t 31) (.seq (.reg [⟨(some 4), none, .mov (.c (.bool false))⟩]) (.ret)) (.skip))) (.seq (.seq (.reg [⟨(some 32), none, .fld 5 (.t 2)⟩,
  ⟨(some 33), none, .load 1 false (.t 32)⟩,
  ⟨(some 34), none, .fld 5 (.t 3)⟩,
  ⟨(some 35), none, .load 1 false (.t 34)⟩,
  ⟨(some 36), none, .bin .neq (.num) (.t 33) (.t 35)⟩]) (.cond (.t 36) (.seq (.reg [⟨(some 4), none, .mov (.c (.bool false))⟩]) (.ret)) (.skip))) (.seq (.seq (.reg [⟨(some 37), none, .fld 6 (.t 2)⟩,
  ⟨(some 38), none, .load 1 false (.t 37)⟩,
  ⟨(some 39), none, .fld 6 (.t 3)⟩,
  ⟨(some 40), none, .load 1 false (.t 39)⟩,
  ⟨(some 41), none, .call (.c (.fn Fn.laws_eqQuestionS [] [])) [.t 38, .t 40]⟩,
  ⟨(some 42), none, .un .not (.t 41)⟩]) (.cond (.t 42) (.seq (.reg [⟨(some 4), none, .mov (.c (.bool false))⟩]) (.ret)) (.skip))) (.seq (.reg [⟨(some 4), none, .mov (.c (.bool true))⟩]) (.ret)))))))))
def laws_eqLink_r : List RS := [.t 4]
theorem laws_eqLink_e {a0 a1 : AV} {h : AH} {K : AV → AH → Prop} (hw : TC Try.prog Θ Γ laws_eqLink_c (retQ laws_eqLink_r K) ⟨[a0, a1, u, u, u, u, u, u, u, u, u, u, u, u, u, u, u, u, u, u, u, u, u, u, u, u, u, u, u, u, u, u, u, u, u, u, u, u, u, u, u, u, u], [], h⟩) : T Try.prog Γ Fn.laws_eqLink [a0, a1] h K :=
  T_of_body tabOK Try.func147 (code := bodyOf Try.f147) (by kernel_rfl) (by kernel_rfl) (by kernel_rfl) (by kernel_rfl) hw
def impl_Sent_copied_c : C := .seq (.reg [⟨(some 1), none, .box (.t 0)⟩,
  ⟨(some 2), none, .alloc [.int .i64 0, .str ⟨#[]⟩, .nils, .int .i64 0, .int .i64 0, .int .i64 0, .int .i64 0]⟩]) (.seq (.reg [⟨(some 3), none, .fld 2 (.t 1)⟩,
  ⟨(some 4), none, .load 1 false (.t 3)⟩,
  ⟨(some 5), none, .call (.c (.fn Fn.slices_Clone_iimpl_Value_impl_Value [] [])) [.t 4]⟩,
  ⟨(some 6), none, .fld 2 (.t 1)⟩,
  ⟨none, none, .store 1 (.t 6) (.t 5)⟩]) (.seq (.reg [⟨(some 7), none, .load 7 true (.t 1)⟩,
  ⟨none, none, .store 7 (.t 2) (.t 7)⟩]) (.ret)))
def impl_Sent_copied_r : List RS := [.cell 2 7 true]
theorem impl_Sent_copied_e {a0 : AV} {h : AH} {K : AV → AH → Prop} (hw : TC Try.prog Θ Γ impl_Sent_copied_c (retQ impl_Sent_copied_r K) ⟨[a0, u, u, u, u, u, u, u], [], h⟩) : T Try.prog Γ Fn.impl_Sent_copied [a0] h K :=
  T_of_body tabOK Try.func158 (code := bodyOf Try.f158) (by kernel_rfl) (by kernel_rfl) (by kernel_rfl) (by kernel_rfl) hw
def laws_markAskerS_c : C := .seq (.reg [⟨(some 4), none, .mov (.c (.int .i64 0))⟩]) (.seq (.seq (.reg [⟨(some 5), none, .mov (.c (.int .i64 0))⟩]) (.block 0 (.loop (.seq (.seq (.reg [⟨(some 6), none, .mov (.t 5)⟩,
  ⟨(some 7), none, .mov (.t 0)⟩,
  ⟨(some 8), none, .len false (.t 7)⟩,
  ⟨(some 9), none, .bin .lss (.num) (.t 6) (.t 8)⟩]) (.cond (.t 9) (.skip) (.exit 0))) (.seq (.block 1 (.seq (.reg [⟨(some 12), none, .mov (.t 0)⟩,
  ⟨(some 13), none, .mov (.t 5)⟩,
  ⟨(some 14), none, .mov (.t 1)⟩,
  ⟨(some 15), none, .idxs 2 (.t 12) (.t 13)⟩,
  ⟨(some 16), none, .fld 0 (.t 15)⟩,
  ⟨none, none, .store 1 (.t 16) (.t 14)⟩]) (.seq (.reg [⟨(some 17), none, .mov (.t 1)⟩,
  ⟨(some 18), none, .bin .add (.num) (.t 17) (.c (.int .i64 1))⟩,
  ⟨(some 1), none, .mov (.t 18)⟩]) (.seq (.reg [⟨(some 19), none, .mov (.t 0)⟩,
  ⟨(some 20), none, .mov (.t 5)⟩,
  ⟨(some 21), none, .mov (.t 1)⟩,
  ⟨(some 22), none, .idxs 2 (.t 19) (.t 20)⟩,
  ⟨(some 23), none, .fld 1 (.t 22)⟩,
  ⟨none, none, .store 1 (.t 23) (.t 21)⟩]) (.reg [⟨(some 24), none, .mov (.t 1)⟩,
  ⟨(some 25), none, .bin .add (.num) (.t 24) (.c (.int .i64 1))⟩,
  ⟨(some 1), none, .mov (.t 25)⟩]))))) (.reg [⟨(some 10), none, .mov (.t 5)⟩,
  ⟨(some 11), none, .bin .add (.num) (.t 10) (.c (.int .i64 1))⟩,
  ⟨(some 5), none, .mov (.t 11)⟩])))))) (.seq (.reg [⟨(some 26), none, .mov (.t 1)⟩,
  ⟨(some 4), none, .mov (.t 26)⟩]) (.ret)))
def laws_markAskerS_r : List RS := [.t 4]
def laws_markAskerS_s0 (t0 t1 t5 : AV) (loc : List (List AV)) (h : AH) : St := ⟨[t0, t1, .any, .any, .any, t5, .any, .any, .any, .any, .any, .any, .any, .any, .any, .any, .any, .any, .any, .any, .any, .any, .any, .any, .any, .any, .any], loc, h⟩
theorem laws_markAskerS_e {a0 a1 : AV} {h : AH} {K : AV → AH → Prop} (hw : TC Try.prog Θ Γ laws_markAskerS_c (retQ laws_markAskerS_r K) ⟨[a0, a1, u, u, u, u, u, u, u, u, u, u, u, u, u, u, u, u, u, u, u, u, u, u, u, u, u], [], h⟩) : T Try.prog Γ Fn.laws_markAskerS [a0, a1] h K :=
  T_of_body tabOK Try.func159 (code := bodyOf Try.f159) (by kernel_rfl) (by kernel_rfl) (by kernel_rfl) (by kernel_rfl) hw
def laws_markExportS_c : C := .seq (.reg [⟨(some 4), none, .mov (.c (.int .i64 0))⟩]) (.seq (.seq (.reg [⟨(some 5), none, .mov (.c (.int .i64 0))⟩]) (.block 0 (.loop (.seq (.seq (.reg [⟨(some 6), none, .mov (.t 5)⟩,
  ⟨(some 7), none, .mov (.t 0)⟩,
  ⟨(some 8), none, .len false (.t 7)⟩,
  ⟨(some 9), none, .bin .lss (.num) (.t 6) (.t 8)⟩]) (.cond (.t 9) (.skip) (.exit 0))) (.seq (.block 1 (.seq (.reg [⟨(some 12), none, .mov (.t 0)⟩,
  ⟨(some 13), none, .mov (.t 5)⟩,
  ⟨(some 14), none, .mov (.t 1)⟩,
  ⟨(some 15), none, .idxs 3 (.t 12) (.t 13)⟩,
  ⟨(some 16), none, .fld 0 (.t 15)⟩,
  ⟨none, none, .store 1 (.t 16) (.t 14)⟩]) (.seq (.reg [⟨(some 17), none, .mov (.t 1)⟩,
  ⟨(some 18), none, .bin .add (.num) (.t 17) (.c (.int .i64 1))⟩,
  ⟨(some 1), none, .mov (.t 18)⟩]) (.seq (.reg [⟨(some 19), none, .mov (.t 0)⟩,
  ⟨(some 20), none, .mov (.t 5)⟩,
  ⟨(some 21), none, .mov (.t 1)⟩,
  ⟨(some 22), none, .idxs 3 (.t 19) (.t 20)⟩,
  ⟨(some 23), none, .fld 1 (.t 22)⟩,
  ⟨none, none, .store 1 (.t 23) (.t 21)⟩]) (.seq (.reg [⟨(some 24), none, .mov (.t 1)⟩,
  ⟨(some 25), none, .bin .add (.num) (.t 24) (.c (.int .i64 1))⟩,
  ⟨(some 1), none, .mov (.t 25)⟩]) (.seq (.reg [⟨(some 26), none, .mov (.t 0)⟩,
  ⟨(some 27), none, .mov (.t 5)⟩,
  ⟨(some 28), none, .mov (.t 1)⟩,
  ⟨(some 29), none, .idxs 3 (.t 26) (.t 27)⟩,
  ⟨(some 30), none, .fld 2 (.t 29)⟩,
  ⟨none, none, .store 1 (.t 30) (.t 28)⟩]) (.reg [⟨(some 31), none, .mov (.t 1)⟩,
  ⟨(some 32), none, .bin .add (.num) (.t 31) (.c (.int .i64 1))⟩,
  ⟨(some 1), none, .mov (.t 32)⟩]))))))) (.reg [⟨(some 10), none, .mov (.t 5)⟩,
  ⟨(some 11), none, .bin .add (.num) (.t 10) (.c (.int .i64 1))⟩,
  ⟨(some 5), none, .mov (.t 11)⟩])))))) (.seq (.reg [⟨(some 33), none, .mov (.t 1)⟩,
  ⟨(some 4), none, .mov (.t 33)⟩]) (.ret)))
def laws_markExportS_r : List RS := [.t 4]
def laws_markExportS_s0 (t0 t1 t5 : AV) (loc : List (List AV)) (h : AH) : St := ⟨[t0, t1, .any, .any, .any, t5, .any, .any, .any, .any, .any, .any, .any, .any, .any, .any, .any, .any, .any, .any, .any, .any, .any, .any, .any, .any, .any, .any, .any, .any, .any, .any, .any, .any], loc, h⟩
theorem laws_markExportS_e {a0 a1 : AV} {h : AH} {K : AV → AH → Prop} (hw : TC Try.prog Θ Γ laws_markExportS_c (retQ laws_markExportS_r K) ⟨[a0, a1, u, u, u, u, u, u, u, u, u, u, u, u, u, u, u, u, u, u, u, u, u, u, u, u, u, u, u, u, u, u, u, u], [], h⟩) : T Try.prog Γ Fn.laws_markExportS [a0, a1] h K :=
  T_of_body tabOK Try.func160 (code := bodyOf Try.f160) (by kernel_rfl) (by kernel_rfl) (by kernel_rfl) (by kernel_rfl) hw
def laws_markQuestionS_c : C := .seq (.reg [⟨(some 4), none, .mov (.c (.int .i64 0))⟩]) (.seq (.seq (.reg [⟨(some 5), none, .mov (.c (.int .i64 0))⟩]) (.block 0 (.loop (.seq (.seq (.reg [⟨(some 6), none, .mov (.t 5)⟩,
  ⟨(some 7), none, .mov (.t 0)⟩,
  ⟨(some 8), none, .len false (.t 7)⟩,
  ⟨(some 9), none, .bin .lss (.num) (.t 6) (.t 8)⟩]) (.cond (.t 9) (.skip) (.exit 0))) (.seq (.block 1 (.seq (.reg [⟨(some 12), none, .mov (.t 0)⟩,
  ⟨(some 13), none, .mov (.t 5)⟩,
  ⟨(some 14), none, .mov (.t 1)⟩,
  ⟨(some 15), none, .idxs 2 (.t 12) (.t 13)⟩,
  ⟨(some 16), none, .fld 0 (.t 15)⟩,
  ⟨none, none, .store 1 (.t 16) (.t 14)⟩]) (.seq (.reg [⟨(some 17), none, .mov (.t 1)⟩,
  ⟨(some 18), none, .bin .add (.num) (.t 17) (.c (.int .i64 1))⟩,
  ⟨(some 1), none, .mov (.t 18)⟩]) (.seq (.reg [⟨(some 19), none, .mov (.t 0)⟩,
  ⟨(some 20), none, .mov (.t 5)⟩,
  ⟨(some 21), none, .mov (.t 1)⟩,
  ⟨(some 22), none, .idxs 2 (.t 19) (.t 20)⟩,
  ⟨(some 23), none, .fld 1 (.t 22)⟩,
  ⟨none, none, .store 1 (.t 23) (.t 21)⟩]) (.reg [⟨(some 24), none, .mov (.t 1)⟩,
  ⟨(some 25), none, .bin .add (.num) (.t 24) (.c (.int .i64 1))⟩,
  ⟨(some 1), none, .mov (.t 25)⟩]))))) (.reg [⟨(some 10), none, .mov (.t 5)⟩,
  ⟨(some 11), none, .bin .add (.num) (.t 10) (.c (.int .i64 1))⟩,
  ⟨(some 5), none, .mov (.t 11)⟩])))))) (.seq (.reg [⟨(some 26), none, .mov (.t 1)⟩,
  ⟨(some 4), none, .mov (.t 26)⟩]) (.ret)))
def laws_markQuestionS_r : List RS := [.t 4]
def laws_markQuestionS_s0 (t0 t1 t5 : AV) (loc : List (List AV)) (h : AH) : St := ⟨[t0, t1, .any, .any, .any, t5, .any, .any, .any, .any, .any, .any, .any, .any, .any, .any, .any, .any, .any, .any, .any, .any, .any, .any, .any, .any, .any], loc, h⟩
theorem laws_markQuestionS_e {a0 a1 : AV} {h : AH} {K : AV → AH → Prop} (hw : TC Try.prog Θ Γ laws_markQuestionS_c (retQ laws_markQuestionS_r K) ⟨[a0, a1, u, u, u, u, u, u, u, u, u, u, u, u, u, u, u, u, u, u, u, u, u, u, u, u, u], [], h⟩) : T Try.prog Γ Fn.laws_markQuestionS [a0, a1] h K :=
  T_of_body tabOK Try.func161 (code := bodyOf Try.f161) (by kernel_rfl) (by kernel_rfl) (by kernel_rfl) (by kernel_rfl) hw
def laws_markWireS_c : C := .seq (.reg [⟨(some 4), none, .mov (.c (.int .i64 0))⟩]) (.seq (.seq (.reg [⟨(some 5), none, .mov (.c (.int .i64 0))⟩]) (.block 0 (.loop (.seq (.seq (.reg [⟨(some 6), none, .mov (.t 5)⟩,
  ⟨(some 7), none, .mov (.t 0)⟩,
  ⟨(some 8), none, .len false (.t 7)⟩,
  ⟨(some 9), none, .bin .lss (.num) (.t 6) (.t 8)⟩]) (.cond (.t 9) (.skip) (.exit 0))) (.seq (.block 1 (.seq (.reg [⟨(some 12), none, .mov (.t 0)⟩,
  ⟨(some 13), none, .mov (.t 5)⟩,
  ⟨(some 14), none, .mov (.t 1)⟩,
  ⟨(some 15), none, .idxs 2 (.t 12) (.t 13)⟩,
  ⟨(some 16), none, .fld 0 (.t 15)⟩,
  ⟨none, none, .store 1 (.t 16) (.t 14)⟩]) (.seq (.reg [⟨(some 17), none, .mov (.t 1)⟩,
  ⟨(some 18), none, .bin .add (.num) (.t 17) (.c (.int .i64 1))⟩,
  ⟨(some 1), none, .mov (.t 18)⟩]) (.seq (.reg [⟨(some 19), none, .mov (.t 0)⟩,
  ⟨(some 20), none, .mov (.t 5)⟩,
  ⟨(some 21), none, .mov (.t 1)⟩,
  ⟨(some 22), none, .idxs 2 (.t 19) (.t 20)⟩,
  ⟨(some 23), none, .fld 1 (.t 22)⟩,
  ⟨none, none, .store 1 (.t 23) (.t 21)⟩]) (.reg [⟨(some 24), none, .mov (.t 1)⟩,
  ⟨(some 25), none, .bin .add (.num) (.t 24) (.c (.int .i64 1))⟩,
  ⟨(some 1), none, .mov (.t 25)⟩]))))) (.reg [⟨(some 10), none, .mov (.t 5)⟩,
  ⟨(some 11), none, .bin .add (.num) (.t 10) (.c (.int .i64 1))⟩,
  ⟨(some 5), none, .mov (.t 11)⟩])))))) (.seq (.reg [⟨(some 26), none, .mov (.t 1)⟩,
  ⟨(some 4), none, .mov (.t 26)⟩]) (.ret)))
def laws_markWireS_r : List RS := [.t 4]
def laws_markWireS_s0 (t0 t1 t5 : AV) (loc : List (List AV)) (h : AH) : St := ⟨[t0, t1, .any, .any, .any, t5, .any, .any, .any, .any, .any, .any, .any, .any, .any, .any, .any, .any, .any, .any, .any, .any, .any, .any, .any, .any, .any], loc, h⟩
theorem laws_markWireS_e {a0 a1 : AV} {h : AH} {K : AV → AH → Prop} (hw : TC Try.prog Θ Γ laws_markWireS_c (retQ laws_markWireS_r K) ⟨[a0, a1, u, u, u, u, u, u, u, u, u, u, u, u, u, u, u, u, u, u, u, u, u, u, u, u, u], [], h⟩) : T Try.prog Γ Fn.laws_markWireS [a0, a1] h K :=
  T_of_body tabOK Try.func162 (code := bodyOf Try.f162) (by kernel_rfl) (by kernel_rfl) (by kernel_rfl) (by kernel_rfl) hw
def laws_toValue_c : C := .seq (.reg [⟨(some 1), none, .box (.t 0)⟩,
  ⟨(some 2), none, .alloc [.int .i64 0, .int .i64 0]⟩]) (.seq (.reg [⟨(some 3), none, .alloc [.int .i64 0, .int .i64 0]⟩]) (.seq (.reg [⟨(some 4), none, .fld 0 (.t 1)⟩,
  ⟨(some 5), none, .load 1 false (.t 4)⟩,
  ⟨(some 6), none, .fld 0 (.t 3)⟩,
  ⟨none, none, .store 1 (.t 6) (.t 5)⟩]) (.seq (.reg [⟨(some 7), none, .fld 1 (.t 1)⟩,
  ⟨(some 8), none, .load 1 false (.t 7)⟩,
  ⟨(some 9), none, .fld 1 (.t 3)⟩,
  ⟨none, none, .store 1 (.t 9) (.t 8)⟩]) (.seq (.reg [⟨(some 10), none, .load 2 true (.t 3)⟩,
  ⟨none, none, .store 2 (.t 2) (.t 10)⟩]) (.ret)))))
def laws_toValue_r : List RS := [.cell 2 2 true]
theorem laws_toValue_e {a0 : AV} {h : AH} {K : AV → AH → Prop} (hw : TC Try.prog Θ Γ laws_toValue_c (retQ laws_toValue_r K) ⟨[a0, u, u, u, u, u, u, u, u, u, u], [], h⟩) : T Try.prog Γ Fn.laws_toValue [a0] h K :=
  T_of_body tabOK Try.func163 (code := bodyOf Try.f163) (by kernel_rfl) (by kernel_rfl) (by kernel_rfl) (by kernel_rfl) hw
def laws_szAskerS_c : C := .seq (.reg [⟨(some 4), none, .mov (.c (.int .i64 0))⟩]) (.seq (.reg [⟨(some 5), none, .mov (.t 1)⟩,
  ⟨(some 6), none, .mov (.t 0)⟩,
  ⟨(some 7), none, .len false (.t 6)⟩,
  ⟨(some 8), none, .bin .sub (.num) (.t 5) (.t 7)⟩,
  ⟨(some 1), none, .mov (.t 8)⟩]) (.seq (.seq (.reg [⟨(some 9), none, .mov (.t 1)⟩,
  ⟨(some 10), none, .bin .lss (.num) (.t 9) (.c (.int .i64 0))⟩]) (.cond (.t 10) (.seq (.reg [⟨(some 4), none, .mov (.c (.int .i64 (-1)))⟩]) (.ret)) (.skip))) (.seq (.reg [⟨(some 11), none, .mov (.t 1)⟩,
  ⟨(some 4), none, .mov (.t 11)⟩]) (.ret))))
def laws_szAskerS_r : List RS := [.t 4]
theorem laws_szAskerS_e {a0 a1 : AV} {h : AH} {K : AV → AH → Prop} (hw : TC Try.prog Θ Γ laws_szAskerS_c (retQ laws_szAskerS_r K) ⟨[a0, a1, u, u, u, u, u, u, u, u, u, u], [], h⟩) : T Try.prog Γ Fn.laws_szAskerS [a0, a1] h K :=
  T_of_body tabOK Try.func171 (code := bodyOf Try.f171) (by kernel_rfl) (by kernel_rfl) (by kernel_rfl) (by kernel_rfl) hw
def laws_szExportS_c : C := .seq (.reg [⟨(some 4), none, .mov (.c (.int .i64 0))⟩]) (.seq (.reg [⟨(some 5), none, .mov (.t 1)⟩,
  ⟨(some 6), none, .mov (.t 0)⟩,
  ⟨(some 7), none, .len false (.t 6)⟩,
  ⟨(some 8), none, .bin .sub (.num) (.t 5) (.t 7)⟩,
  ⟨(some 1), none, .mov (.t 8)⟩]) (.seq (.seq (.reg [⟨(some 9), none, .mov (.t 1)⟩,
  ⟨(some 10), none, .bin .lss (.num) (.t 9) (.c (.int .i64 0))⟩]) (.cond (.t 10) (.seq (.reg [⟨(some 4), none, .mov (.c (.int .i64 (-1)))⟩]) (.ret)) (.skip))) (.seq (.reg [⟨(some 11), none, .mov (.t 1)⟩,
  ⟨(some 4), none, .mov (.t 11)⟩]) (.ret))))
def laws_szExportS_r : List RS := [.t 4]
theorem laws_szExportS_e {a0 a1 : AV} {h : AH} {K : AV → AH → Prop} (hw : TC Try.prog Θ Γ laws_szExportS_c (retQ laws_szExportS_r K) ⟨[a0, a1, u, u, u, u, u, u, u, u, u, u], [], h⟩) : T Try.prog Γ Fn.laws_szExportS [a0, a1] h K :=
  T_of_body tabOK Try.func172 (code := bodyOf Try.f172) (by kernel_rfl) (by kernel_rfl) (by kernel_rfl) (by kernel_rfl) hw
def laws_szQuestionS_c : C := .seq (.reg [⟨(some 4), none, .mov (.c (.int .i64 0))⟩]) (.seq (.reg [⟨(some 5), none, .mov (.t 1)⟩,
  ⟨(some 6), none, .mov (.t 0)⟩,
  ⟨(some 7), none, .len false (.t 6)⟩,
  ⟨(some 8), none, .bin .sub (.num) (.t 5) (.t 7)⟩,
  ⟨(some 1), none, .mov (.t 8)⟩]) (.seq (.seq (.reg [⟨(some 9), none, .mov (.t 1)⟩,
  ⟨(some 10), none, .bin .lss (.num) (.t 9) (.c (.int .i64 0))⟩]) (.cond (.t 10) (.seq (.reg [⟨(some 4), none, .mov (.c (.int .i64 (-1)))⟩]) (.ret)) (.skip))) (.seq (.reg [⟨(some 11), none, .mov (.t 1)⟩,
  ⟨(some 4), none, .mov (.t 11)⟩]) (.ret))))
def laws_szQuestionS_r : List RS := [.t 4]
theorem laws_szQuestionS_e {a0 a1 : AV} {h : AH} {K : AV → AH → Prop} (hw : TC Try.prog Θ Γ laws_szQuestionS_c (retQ laws_szQuestionS_r K) ⟨[a0, a1, u, u, u, u, u, u, u, u, u, u], [], h⟩) : T Try.prog Γ Fn.laws_szQuestionS [a0, a1] h K :=
  T_of_body tabOK Try.func173 (code := bodyOf Try.f173) (by kernel_rfl) (by kernel_rfl) (by kernel_rfl) (by kernel_rfl) hw
def laws_toAskerS_c : C := .seq (.reg [⟨(some 2), none, .mov (.c (.nils))⟩]) (.seq (.reg [⟨(some 5), none, .mov (.t 0)⟩,
  ⟨(some 6), none, .len false (.t 5)⟩,
  ⟨(some 7), none, .mks 2 16 [.int .i64 0, .int .i64 0] (.t 6) (.t 6)⟩,
  ⟨(some 3), none, .mov (.t 7)⟩]) (.seq (.seq (.reg [⟨(some 4), none, .mov (.c (.int .i64 0))⟩]) (.block 0 (.loop (.seq (.seq (.reg [⟨(some 8), none, .mov (.t 4)⟩,
  ⟨(some 9), none, .mov (.t 0)⟩,
  ⟨(some 10), none, .len false (.t 9)⟩,
  ⟨(some 11), none, .bin .lss (.num) (.t 8) (.t 10)⟩]) (.cond (.t 11) (.skip) (.exit 0))) (.seq (.block 1 (.reg [⟨(some 14), none, .mov (.t 3)⟩,
  ⟨(some 15), none, .mov (.t 4)⟩,
  ⟨(some 16), none, .mov (.t 0)⟩,
  ⟨(some 17), none, .mov (.t 4)⟩,
  ⟨(some 18), none, .idxs 2 (.t 16) (.t 17)⟩,
  ⟨(some 19), none, .load 2 true (.t 18)⟩,
  ⟨(some 20), none, .call (.c (.fn Fn.laws_toAsker [] [])) [.t 19]⟩,
  ⟨(some 21), none, .idxs 2 (.t 14) (.t 15)⟩,
  ⟨none, none, .store 2 (.t 21) (.t 20)⟩])) (.reg [⟨(some 12), none, .mov (.t 4)⟩,
  ⟨(some 13), none, .bin .add (.num) (.t 12) (.c (.int .i64 1))⟩,
  ⟨(some 4), none, .mov (.t 13)⟩])))))) (.seq (.reg [⟨(some 22), none, .mov (.t 3)⟩,
  ⟨(some 2), none, .mov (.t 22)⟩]) (.ret))))
def laws_toAskerS_r : List RS := [.t 2]
def laws_toAskerS_s0 (t0 t3 t4 : AV) (loc : List (List AV)) (h : AH) : St := ⟨[t0, .any, .any, t3, t4, .any, .any, .any, .any, .any, .any, .any, .any, .any, .any, .any, .any, .any, .any, .any, .any, .any, .any], loc, h⟩
theorem laws_toAskerS_e {a0 : AV} {h : AH} {K : AV → AH → Prop} (hw : TC Try.prog Θ Γ laws_toAskerS_c (retQ laws_toAskerS_r K) ⟨[a0, u, u, u, u, u, u, u, u, u, u, u, u, u, u, u, u, u, u, u, u, u, u], [], h⟩) : T Try.prog Γ Fn.laws_toAskerS [a0] h K :=
  T_of_body tabOK Try.func174 (code := bodyOf Try.f174) (by kernel_rfl) (by kernel_rfl) (by kernel_rfl) (by kernel_rfl) hw
def laws_toExportS_c : C := .seq (.reg [⟨(some 2), none, .mov (.c (.nils))⟩]) (.seq (.reg [⟨(some 5), none, .mov (.t 0)⟩,
  ⟨(some 6), none, .len false (.t 5)⟩,
  ⟨(some 7), none, .mks 3 24 [.int .i64 0, .int .i64 0, .int .i64 0] (.t 6) (.t 6)⟩,
  ⟨(some 3), none, .mov (.t 7)⟩]) (.seq (.seq (.reg [⟨(some 4), none, .mov (.c (.int .i64 0))⟩]) (.block 0 (.loop (.seq (.seq (.reg [⟨(some 8), none, .mov (.t 4)⟩,
  ⟨(some 9), none, .mov (.t 0)⟩,
  ⟨(some 10), none, .len false (.t 9)⟩,
  ⟨(some 11), none, .bin .lss (.num) (.t 8) (.t 10)⟩]) (.cond (.t 11) (.skip) (.exit 0))) (.seq (.block 1 (.reg [⟨(some 14), none, .mov (.t 3)⟩,
  ⟨(some 15), none, .mov (.t 4)⟩,
  ⟨(some 16), none, .mov (.t 0)⟩,
  ⟨(some 17), none, .mov (.t 4)⟩,
  ⟨(some 18), none, .idxs 3 (.t 16) (.t 17)⟩,
  ⟨(some 19), none, .load 3 true (.t 18)⟩,
  ⟨(some 20), none, .call (.c (.fn Fn.laws_toExport [] [])) [.t 19]⟩,
  ⟨(some 21), none, .idxs 3 (.t 14) (.t 15)⟩,
  ⟨none, none, .store 3 (.t 21) (.t 20)⟩])) (.reg [⟨(some 12), none, .mov (.t 4)⟩,
  ⟨(some 13), none, .bin .add (.num) (.t 12) (.c (.int .i64 1))⟩,
  ⟨(some 4), none, .mov (.t 13)⟩])))))) (.seq (.reg [⟨(some 22), none, .mov (.t 3)⟩,
  ⟨(some 2), none, .mov (.t 22)⟩]) (.ret))))
def laws_toExportS_r : List RS := [.t 2]
def laws_toExportS_s0 (t0 t3 t4 : AV) (loc : List (List AV)) (h : AH) : St := ⟨[t0, .any, .any, t3, t4, .any, .any, .any, .any, .any, .any, .any, .any, .any, .any, .any, .any, .any, .any, .any, .any, .any, .any], loc, h⟩
theorem laws_toExportS_e {a0 : AV} {h : AH} {K : AV → AH → Prop} (hw : TC Try.prog Θ Γ laws_toExportS_c (retQ laws_toExportS_r K) ⟨[a0, u, u, u, u, u, u, u, u, u, u, u, u, u, u, u, u, u, u, u, u, u, u], [], h⟩) : T Try.prog Γ Fn.laws_toExportS [a0] h K :=
  T_of_body tabOK Try.func175 (code := bodyOf Try.f175) (by kernel_rfl) (by kernel_rfl) (by kernel_rfl) (by kernel_rfl) hw
def laws_toQuestionS_c : C := .seq (.reg [⟨(some 2), none, .mov (.c (.nils))⟩]) (.seq (.reg [⟨(some 5), none, .mov (.t 0)⟩,
  ⟨(some 6), none, .len false (.t 5)⟩,
  ⟨(some 7), none, .mks 2 16 [.int .i64 0, .int .i64 0] (.t 6) (.t 6)⟩,
  ⟨(some 3), none, .mov (.t 7)⟩]) (.seq (.seq (.reg [⟨(some 4), none, .mov (.c (.int .i64 0))⟩]) (.block 0 (.loop (.seq (.seq (.reg [⟨(some 8), none, .mov (.t 4)⟩,
  ⟨(some 9), none, .mov (.t 0)⟩,
  ⟨(some 10), none, .len false (.t 9)⟩,
  ⟨(some 11), none, .bin .lss (.num) (.t 8) (.t 10)⟩]) (.cond (.t 11) (.skip) (.exit 0))) (.seq (.block 1 (.reg [⟨(some 14), none, .mov (.t 3)⟩,
  ⟨(some 15), none, .mov (.t 4)⟩,
  ⟨(some 16), none, .mov (.t 0)⟩,
  ⟨(some 17), none, .mov (.t 4)⟩,
  ⟨(some 18), none, .idxs 2 (.t 16) (.t 17)⟩,
  ⟨(some 19), none, .load 2 true (.t 18)⟩,
  ⟨(some 20), none, .call (.c (.fn Fn.laws_toQuestion [] [])) [.t 19]⟩,
  ⟨(some 21), none, .idxs 2 (.t 14) (.t 15)⟩,
  ⟨none, none, .store 2 (.t 21) (.t 20)⟩])) (.reg [⟨(some 12), none, .mov (.t 4)⟩,
  ⟨(some 13), none, .bin .add (.num) (.t 12) (.c (.int .i64 1))⟩,
  ⟨(some 4), none, .mov (.t 13)⟩])))))) (.seq (.reg [⟨(some 22), none, .mov (.t 3)⟩,
  ⟨(some 2), none, .mov (.t 22)⟩]) (.ret))))
def laws_toQuestionS_r : List RS := [.t 2]
def laws_toQuestionS_s0 (t0 t3 t4 : AV) (loc : List (List AV)) (h : AH) : St := ⟨[t0, .any, .any, t3, t4, .any, .any, .any, .any, .any, .any, .any, .any, .any, .any, .any, .any, .any, .any, .any, .any, .any, .any], loc, h⟩
theorem laws_toQuestionS_e {a0 : AV} {h : AH} {K : AV → AH → Prop} (hw : TC Try.prog Θ Γ laws_toQuestionS_c (retQ laws_toQuestionS_r K) ⟨[a0, u, u, u, u, u, u, u, u, u, u, u, u, u, u, u, u, u, u, u, u, u, u], [], h⟩) : T Try.prog Γ Fn.laws_toQuestionS [a0] h K :=
  T_of_body tabOK Try.func176 (code := bodyOf Try.f176) (by kernel_rfl) (by kernel_rfl) (by kernel_rfl) (by kernel_rfl) hw
def laws_eqAskerS_d0_os : List O := [⟨(some 17), none, .mov (.t 0)⟩,
  ⟨(some 18), none, .mov (.t 5)⟩,
  ⟨(some 19), none, .idxs 2 (.t 17) (.t 18)⟩,
  ⟨(some 20), none, .load 2 true (.t 19)⟩,
  ⟨(some 21), none, .mov (.t 1)⟩,
  ⟨(some 22), none, .mov (.t 5)⟩,
  ⟨(some 23), none, .idxs 2 (.t 21) (.t 22)⟩,
  ⟨(some 24), none, .load 2 true (.t 23)⟩,
  ⟨(some 25), none, .call (.c (.fn Fn.laws_eqAsker [] [])) [.t 20, .t 24]⟩,
  ⟨(some 26), none, .un .not (.t 25)⟩]
def laws_eqAskerS_d0_af : List (List Nat) := [[], [], [0, 1], [2], [], [], [4, 5], [6], [3, 7], [8]]
theorem laws_eqAskerS_d0_q (gl : Gl) (Q : AE → St → Prop) (s : St) : aw Try.prog Θ Γ gl (.regD laws_eqAskerS_d0_os laws_eqAskerS_d0_af) Q s = awpT Try.prog Γ gl [⟨(some 17), none, .mov (.t 0)⟩,
  ⟨(some 18), none, .mov (.t 5)⟩,
  ⟨(some 19), none, .idxs 2 (.t 17) (.t 18)⟩,
  ⟨(some 20), none, .load 2 true (.t 19)⟩,
  ⟨(some 21), none, .mov (.t 1)⟩,
  ⟨(some 22), none, .mov (.t 5)⟩,
  ⟨(some 23), none, .idxs 2 (.t 21) (.t 22)⟩,
  ⟨(some 24), none, .load 2 true (.t 23)⟩,
  ⟨(some 25), none, .call (.c (.fn Fn.laws_eqAsker [] [])) [.t 20, .t 24]⟩,
  ⟨(some 26), none, .un .not (.t 25)⟩] (Q .normal) 10 (.q 0 (.q 1 (.q 2 (.q 3 (.q 4 (.q 5 (.q 6 (.q 7 (.all [(8, .q 9 (.done))]))))))))) s := a_dd rfl (by kernel_rfl) gl Q s
def laws_eqAskerS_c : C := .seq (.reg [⟨(some 4), none, .mov (.c (.bool false))⟩]) (.seq (.seq (.reg [⟨(some 6), none, .mov (.t 0)⟩,
  ⟨(some 7), none, .len false (.t 6)⟩,
  ⟨(some 8), none, .mov (.t 1)⟩,
  ⟨(some 9), none, .len false (.t 8)⟩,
  ⟨(some 10), none, .bin .neq (.num) (.t 7) (.t 9)⟩]) (.cond (.t 10) (.seq (.reg [⟨(some 4), none, .mov (.c (.bool false))⟩]) (.ret)) (.skip))) (.seq (.seq (.reg [⟨(some 5), none, .mov (.c (.int .i64 0))⟩]) (.block 0 (.loop (.seq (.seq (.reg [⟨(some 11), none, .mov (.t 5)⟩,
  ⟨(some 12), none, .mov (.t 0)⟩,
  ⟨(some 13), none, .len false (.t 12)⟩,
  ⟨(some 14), none, .bin .lss (.num) (.t 11) (.t 13)⟩]) (.cond (.t 14) (.skip) (.exit 0))) (.seq (.block 1 (.seq (.regD laws_eqAskerS_d0_os laws_eqAskerS_d0_af) (.cond (.t 26) (.seq (.reg [⟨(some 4), none, .mov (.c (.bool false))⟩]) (.ret)) (.skip)))) (.reg [⟨(some 15), none, .mov (.t 5)⟩,
  ⟨(some 16), none, .bin .add (.num) (.t 15) (.c (.int .i64 1))⟩,
  ⟨(some 5), none, .mov (.t 16)⟩])))))) (.seq (.reg [⟨(some 4), none, .mov (.c (.bool true))⟩]) (.ret))))
def laws_eqAskerS_r : List RS := [.t 4]
def laws_eqAskerS_s0 (t0 t1 t5 : AV) (loc : List (List AV)) (h : AH) : St := ⟨[t0, t1, .any, .any, .any, t5, .any, .any, .any, .any, .any, .any, .any, .any, .any, .any, .any, .any, .any, .any, .any, .any, .any, .any, .any, .any, .any], loc, h⟩
theorem laws_eqAskerS_e {a0 a1 : AV} {h : AH} {K : AV → AH → Prop} (hw : TC Try.prog Θ Γ laws_eqAskerS_c (retQ laws_eqAskerS_r K) ⟨[a0, a1, u, u, u, u, u, u, u, u, u, u, u, u, u, u, u, u, u, u, u, u, u, u, u, u, u], [], h⟩) : T Try.prog Γ Fn.laws_eqAskerS [a0, a1] h K :=
  T_of_body tabOK Try.func178 (code := bodyOf Try.f178) (by kernel_rfl) (by kernel_rfl) (by kernel_rfl) (by kernel_rfl) hw
def laws_eqExportS_d0_os : List O := [⟨(some 17), none, .mov (.t 0)⟩,
  ⟨(some 18), none, .mov (.t 5)⟩,
  ⟨(some 19), none, .idxs 3 (.t 17) (.t 18)⟩,
  ⟨(some 20), none, .load 3 true (.t 19)⟩,
  ⟨(some 21), none, .mov (.t 1)⟩,
  ⟨(some 22), none, .mov (.t 5)⟩,
  ⟨(some 23), none, .idxs 3 (.t 21) (.t 22)⟩,
  ⟨(some 24), none, .load 3 true (.t 23)⟩,
  ⟨(some 25), none, .call (.c (.fn Fn.laws_eqExport [] [])) [.t 20, .t 24]⟩,
  ⟨(some 26), none, .un .not (.t 25)⟩]
def laws_eqExportS_d0_af : List (List Nat) := [[], [], [0, 1], [2], [], [], [4, 5], [6], [3, 7], [8]]
theorem laws_eqExportS_d0_q (gl : Gl) (Q : AE → St → Prop) (s : St) : aw Try.prog Θ Γ gl (.regD laws_eqExportS_d0_os laws_eqExportS_d0_af) Q s = awpT Try.prog Γ gl [⟨(some 17), none, .mov (.t 0)⟩,
  ⟨(some 18), none, .mov (.t 5)⟩,
  ⟨(some 19), none, .idxs 3 (.t 17) (.t 18)⟩,
  ⟨(some 20), none, .load 3 true (.t 19)⟩,
  ⟨(some 21), none, .mov (.t 1)⟩,
  ⟨(some 22), none, .mov (.t 5)⟩,
  ⟨(some 23), none, .idxs 3 (.t 21) (.t 22)⟩,
  ⟨(some 24), none, .load 3 true (.t 23)⟩,
  ⟨(some 25), none, .call (.c (.fn Fn.laws_eqExport [] [])) [.t 20, .t 24]⟩,
  ⟨(some 26), none, .un .not (.t 25)⟩] (Q .normal) 10 (.q 0 (.q 1 (.q 2 (.q 3 (.q 4 (.q 5 (.q 6 (.q 7 (.all [(8, .q 9 (.done))]))))))))) s := a_dd rfl (by kernel_rfl) gl Q s
def laws_eqExportS_c : C := .seq (.reg [⟨(some 4), none, .mov (.c (.bool false))⟩]) (.seq (.seq (.reg [⟨(some 6), none, .mov (.t 0)⟩,
  ⟨(some 7), none, .len false (.t 6)⟩,
  ⟨(some 8), none, .mov (.t 1)⟩,
  ⟨(some 9), none, .len false (.t 8)⟩,
  ⟨(some 10), none, .bin .neq (.num) (.t 7) (.t 9)⟩]) (.cond (.t 10) (.seq (.reg [⟨(some 4), none, .mov (.c (.bool false))⟩]) (.ret)) (.skip))) (.seq (.seq (.reg [⟨(some 5), none, .mov (.c (.int .i64 0))⟩]) (.block 0 (.loop (.seq (.seq (.reg [⟨(some 11), none, .mov (.t 5)⟩,
  ⟨(some 12), none, .mov (.t 0)⟩,
  ⟨(some 13), none, .len false (.t 12)⟩,
  ⟨(some 14), none, .bin .lss (.num) (.t 11) (.t 13)⟩]) (.cond (.t 14) (.skip) (.exit 0))) (.seq (.block 1 (.seq (.regD laws_eqExportS_d0_os laws_eqExportS_d0_af) (.cond (.t 26) (.seq (.reg [⟨(some 4), none, .mov (.c (.bool false))⟩]) (.ret)) (.skip)))) (.reg [⟨(some 15), none, .mov (.t 5)⟩,
  ⟨(some 16), none, .bin .add (.num) (.t 15) (.c (.int .i64 1))⟩,
  ⟨(some 5), none, .mov (.t 16)⟩])))))) (.seq (.reg [⟨(some 4), none, .mov (.c (.bool true))⟩]) (.ret))))
def laws_eqExportS_r : List RS := [.t 4]
def laws_eqExportS_s0 (t0 t1 t5 : AV) (loc : List (List AV)) (h : AH) : St := ⟨[t0, t1, .any, .any, .any, t5, .any, .any, .any, .any, .any, .any, .any, .any, .any, .any, .any, .any, .any, .any, .any, .any, .any, .any, .any, .any, .any], loc, h⟩
theorem laws_eqExportS_e {a0 a1 : AV} {h : AH} {K : AV → AH → Prop} (hw : TC Try.prog Θ Γ laws_eqExportS_c (retQ laws_eqExportS_r K) ⟨[a0, a1, u, u, u, u, u, u, u, u, u, u, u, u, u, u, u, u, u, u, u, u, u, u, u, u, u], [], h⟩) : T Try.prog Γ Fn.laws_eqExportS [a0, a1] h K :=
  T_of_body tabOK Try.func179 (code := bodyOf Try.f179) (by kernel_rfl) (by kernel_rfl) (by kernel_rfl) (by kernel_rfl) hw
def laws_eqQuestionS_d0_os : List O := [⟨(some 17), none, .mov (.t 0)⟩,
  ⟨(some 18), none, .mov (.t 5)⟩,
  ⟨(some 19), none, .idxs 2 (.t 17) (.t 18)⟩,
  ⟨(some 20), none, .load 2 true (.t 19)⟩,
  ⟨(some 21), none, .mov (.t 1)⟩,
  ⟨(some 22), none, .mov (.t 5)⟩,
  ⟨(some 23), none, .idxs 2 (.t 21) (.t 22)⟩,
  ⟨(some 24), none, .load 2 true (.t 23)⟩,
  ⟨(some 25), none, .call (.c (.fn Fn.laws_eqQuestion [] [])) [.t 20, .t 24]⟩,
  ⟨(some 26), none, .un .not (.t 25)⟩]
def laws_eqQuestionS_d0_af : List (List Nat) := [[], [], [0, 1], [2], [], [], [4, 5], [6], [3, 7], [8]]
theorem laws_eqQuestionS_d0_q (gl : Gl) (Q : AE → St → Prop) (s : St) : aw Try.prog Θ Γ gl (.regD laws_eqQuestionS_d0_os laws_eqQuestionS_d0_af) Q s = awpT Try.prog Γ gl [⟨(some 17), none, .mov (.t 0)⟩,
  ⟨(some 18), none, .mov (.t 5)⟩,
  ⟨(some 19), none, .idxs 2 (.t 17) (.t 18)⟩,
  ⟨(some 20), none, .load 2 true (.t 19)⟩,
  ⟨(some 21), none, .mov (.t 1)⟩,
  ⟨(some 22), none, .mov (.t 5)⟩,
  ⟨(some 23), none, .idxs 2 (.t 21) (.t 22)⟩,
  ⟨(some 24), none, .load 2 true (.t 23)⟩,
  ⟨(some 25), none, .call (.c (.fn Fn.laws_eqQuestion [] [])) [.t 20, .t 24]⟩,
  ⟨(some 26), none, .un .not (.t 25)⟩] (Q .normal) 10 (.q 0 (.q 1 (.q 2 (.q 3 (.q 4 (.q 5 (.q 6 (.q 7 (.all [(8, .q 9 (.done))]))))))))) s := a_dd rfl (by kernel_rfl) gl Q s
def laws_eqQuestionS_c : C := .seq (.reg [⟨(some 4), none, .mov (.c (.bool false))⟩]) (.seq (.seq (.reg [⟨(some 6), none, .mov (.t 0)⟩,
  ⟨(some 7), none, .len false (.t 6)⟩,
  ⟨(some 8), none, .mov (.t 1)⟩,
  ⟨(some 9), none, .len false (.t 8)⟩,
  ⟨(some 10), none, .bin .neq (.num) (.t 7) (.t 9)⟩]) (.cond (.t 10) (.seq (.reg [⟨(some 4), none, .mov (.c (.bool false))⟩]) (.ret)) (.skip))) (.seq (.seq (.reg [⟨(some 5), none, .mov (.c (.int .i64 0))⟩]) (.block 0 (.loop (.seq (.seq (.reg [⟨(some 11), none, .mov (.t 5)⟩,
  ⟨(some 12), none, .mov (.t 0)⟩,
  ⟨(some 13), none, .len false (.t 12)⟩,
  ⟨(some 14), none, .bin .lss (.num) (.t 11) (.t 13)⟩]) (.cond (.t 14) (.skip) (.exit 0))) (.seq (.block 1 (.seq (.regD laws_eqQuestionS_d0_os laws_eqQuestionS_d0_af) (.cond (.t 26) (.seq (.reg [⟨(some 4), none, .mov (.c (.bool false))⟩]) (.ret)) (.skip)))) (.reg [⟨(some 15), none, .mov (.t 5)⟩,
  ⟨(some 16), none, .bin .add (.num) (.t 15) (.c (.int .i64 1))⟩,
  ⟨(some 5), none, .mov (.t 16)⟩])))))) (.seq (.reg [⟨(some 4), none, .mov (.c (.bool true))⟩]) (.ret))))
def laws_eqQuestionS_r : List RS := [.t 4]
def laws_eqQuestionS_s0 (t0 t1 t5 : AV) (loc : List (List AV)) (h : AH) : St := ⟨[t0, t1, .any, .any, .any, t5, .any, .any, .any, .any, .any, .any, .any, .any, .any, .any, .any, .any, .any, .any, .any, .any, .any, .any, .any, .any, .any], loc, h⟩
theorem laws_eqQuestionS_e {a0 a1 : AV} {h : AH} {K : AV → AH → Prop} (hw : TC Try.prog Θ Γ laws_eqQuestionS_c (retQ laws_eqQuestionS_r K) ⟨[a0, a1, u, u, u, u, u, u, u, u, u, u, u, u, u, u, u, u, u, u, u, u, u, u, u, u, u], [], h⟩) : T Try.prog Γ Fn.laws_eqQuestionS [a0, a1] h K :=
  T_of_body tabOK Try.func180 (code := bodyOf Try.f180) (by kernel_rfl) (by kernel_rfl) (by kernel_rfl) (by kernel_rfl) hw
def slices_Clone_iimpl_Value_impl_Value_c : C := .seq (.reg [⟨(some 2), none, .mov (.c (.nils))⟩]) (.seq (.seq (.reg [⟨(some 3), none, .mov (.t 0)⟩,
  ⟨(some 4), none, .bin .eql (.nils) (.t 3) (.c (.nils))⟩]) (.cond (.t 4) (.seq (.reg [⟨(some 2), none, .mov (.c (.nils))⟩]) (.ret)) (.skip))) (.seq (.reg [⟨(some 5), none, .bsl 2 0 [.int .i64 0, .int .i64 0] []⟩,
  ⟨(some 6), none, .mov (.t 0)⟩,
  ⟨(some 7), none, .app 2 16 [.int .i64 0, .int .i64 0] false (.t 5) (.t 6)⟩,
  ⟨(some 2), none, .mov (.t 7)⟩]) (.ret)))
def slices_Clone_iimpl_Value_impl_Value_r : List RS := [.t 2]
theorem slices_Clone_iimpl_Value_impl_Value_e {a0 : AV} {h : AH} {K : AV → AH → Prop} (hw : TC Try.prog Θ Γ slices_Clone_iimpl_Value_impl_Value_c (retQ slices_Clone_iimpl_Value_impl_Value_r K) ⟨[a0, u, u, u, u, u, u, u], [], h⟩) : T Try.prog Γ Fn.slices_Clone_iimpl_Value_impl_Value [a0] h K :=
  T_of_body tabOK Try.func189 (code := bodyOf Try.f189) (by kernel_rfl) (by kernel_rfl) (by kernel_rfl) (by kernel_rfl) hw
def laws_toAsker_c : C := .seq (.reg [⟨(some 1), none, .box (.t 0)⟩,
  ⟨(some 2), none, .alloc [.int .i64 0, .int .i64 0]⟩]) (.seq (.reg [⟨(some 3), none, .alloc [.int .i64 0, .int .i64 0]⟩]) (.seq (.reg [⟨(some 4), none, .fld 0 (.t 1)⟩,
  ⟨(some 5), none, .load 1 false (.t 4)⟩,
  ⟨(some 6), none, .fld 0 (.t 3)⟩,
  ⟨none, none, .store 1 (.t 6) (.t 5)⟩]) (.seq (.reg [⟨(some 7), none, .fld 1 (.t 1)⟩,
  ⟨(some 8), none, .load 1 false (.t 7)⟩,
  ⟨(some 9), none, .fld 1 (.t 3)⟩,
  ⟨none, none, .store 1 (.t 9) (.t 8)⟩]) (.seq (.reg [⟨(some 10), none, .load 2 true (.t 3)⟩,
  ⟨none, none, .store 2 (.t 2) (.t 10)⟩]) (.ret)))))
def laws_toAsker_r : List RS := [.cell 2 2 true]
theorem laws_toAsker_e {a0 : AV} {h : AH} {K : AV → AH → Prop} (hw : TC Try.prog Θ Γ laws_toAsker_c (retQ laws_toAsker_r K) ⟨[a0, u, u, u, u, u, u, u, u, u, u], [], h⟩) : T Try.prog Γ Fn.laws_toAsker [a0] h K :=
  T_of_body tabOK Try.func191 (code := bodyOf Try.f191) (by kernel_rfl) (by kernel_rfl) (by kernel_rfl) (by kernel_rfl) hw
def laws_toExport_c : C := .seq (.reg [⟨(some 1), none, .box (.t 0)⟩,
  ⟨(some 2), none, .alloc [.int .i64 0, .int .i64 0, .int .i64 0]⟩]) (.seq (.reg [⟨(some 3), none, .alloc [.int .i64 0, .int .i64 0, .int .i64 0]⟩]) (.seq (.reg [⟨(some 4), none, .fld 0 (.t 1)⟩,
  ⟨(some 5), none, .load 1 false (.t 4)⟩,
  ⟨(some 6), none, .fld 0 (.t 3)⟩,
  ⟨none, none, .store 1 (.t 6) (.t 5)⟩]) (.seq (.reg [⟨(some 7), none, .fld 1 (.t 1)⟩,
  ⟨(some 8), none, .load 1 false (.t 7)⟩,
  ⟨(some 9), none, .fld 1 (.t 3)⟩,
  ⟨none, none, .store 1 (.t 9) (.t 8)⟩]) (.seq (.reg [⟨(some 10), none, .fld 2 (.t 1)⟩,
  ⟨(some 11), none, .load 1 false (.t 10)⟩,
  ⟨(some 12), none, .fld 2 (.t 3)⟩,
  ⟨none, none, .store 1 (.t 12) (.t 11)⟩]) (.seq (.reg [⟨(some 13), none, .load 3 true (.t 3)⟩,
  ⟨none, none, .store 3 (.t 2) (.t 13)⟩]) (.ret))))))
def laws_toExport_r : List RS := [.cell 2 3 true]
theorem laws_toExport_e {a0 : AV} {h : AH} {K : AV → AH → Prop} (hw : TC Try.prog Θ Γ laws_toExport_c (retQ laws_toExport_r K) ⟨[a0, u, u, u, u, u, u, u, u, u, u, u, u, u], [], h⟩) : T Try.prog Γ Fn.laws_toExport [a0] h K :=
  T_of_body tabOK Try.func192 (code := bodyOf Try.f192) (by kernel_rfl) (by kernel_rfl) (by kernel_rfl) (by kernel_rfl) hw
def laws_toQuestion_c : C := .seq (.reg [⟨(some 1), none, .box (.t 0)⟩,
  ⟨(some 2), none, .alloc [.int .i64 0, .int .i64 0]⟩]) (.seq (.reg [⟨(some 3), none, .alloc [.int .i64 0, .int .i64 0]⟩]) (.seq (.reg [⟨(some 4), none, .fld 0 (.t 1)⟩,
  ⟨(some 5), none, .load 1 false (.t 4)⟩,
  ⟨(some 6), none, .fld 0 (.t 3)⟩,
  ⟨none, none, .store 1 (.t 6) (.t 5)⟩]) (.seq (.reg [⟨(some 7), none, .fld 1 (.t 1)⟩,
  ⟨(some 8), none, .load 1 false (.t 7)⟩,
  ⟨(some 9), none, .fld 1 (.t 3)⟩,
  ⟨none, none, .store 1 (.t 9) (.t 8)⟩]) (.seq (.reg [⟨(some 10), none, .load 2 true (.t 3)⟩,
  ⟨none, none, .store 2 (.t 2) (.t 10)⟩]) (.ret)))))
def laws_toQuestion_r : List RS := [.cell 2 2 true]
theorem laws_toQuestion_e {a0 : AV} {h : AH} {K : AV → AH → Prop} (hw : TC Try.prog Θ Γ laws_toQuestion_c (retQ laws_toQuestion_r K) ⟨[a0, u, u, u, u, u, u, u, u, u, u], [], h⟩) : T Try.prog Γ Fn.laws_toQuestion [a0] h K :=
  T_of_body tabOK Try.func193 (code := bodyOf Try.f193) (by kernel_rfl) (by kernel_rfl) (by kernel_rfl) (by kernel_rfl) hw
def laws_eqAsker_c : C := .seq (.reg [⟨(some 2), none, .box (.t 0)⟩,
  ⟨(some 3), none, .box (.t 1)⟩,
  ⟨(some 4), none, .mov (.c (.bool false))⟩]) (.seq (.seq (.reg [⟨(some 5), none, .fld 0 (.t 2)⟩,
  ⟨(some 6), none, .load 1 false (.t 5)⟩,
  ⟨(some 7), none, .fld 0 (.t 3)⟩,
  ⟨(some 8), none, .load 1 false (.t 7)⟩,
  ⟨(some 9), none, .bin .neq (.num) (.t 6) (.t 8)⟩]) (.cond (.t 9) (.seq (.reg [⟨(some 4), none, .mov (.c (.bool false))⟩]) (.ret)) (.skip))) (.seq (.seq (.reg [⟨(some 10), none, .fld 1 (.t 2)⟩,
  ⟨(some 11), none, .load 1 false (.t 10)⟩,
  ⟨(some 12), none, .fld 1 (.t 3)⟩,
  ⟨(some 13), none, .load 1 false (.t 12)⟩,
  ⟨(some 14), none, .bin .neq (.num) (.t 11) (.t 13)⟩]) (.cond (.t 14) (.seq (.reg [⟨(some 4), none, .mov (.c (.bool false))⟩]) (.ret)) (.skip))) (.seq (.reg [⟨(some 4), none, .mov (.c (.bool true))⟩]) (.ret))))
def laws_eqAsker_r : List RS := [.t 4]
theorem laws_eqAsker_e {a0 a1 : AV} {h : AH} {K : AV → AH → Prop} (hw : TC Try.prog Θ Γ laws_eqAsker_c (retQ laws_eqAsker_r K) ⟨[a0, a1, u, u, u, u, u, u, u, u, u, u, u, u, u], [], h⟩) : T Try.prog Γ Fn.laws_eqAsker [a0, a1] h K :=
  T_of_body tabOK Try.func194 (code := bodyOf Try.f194) (by kernel_rfl) (by kernel_rfl) (by kernel_rfl) (by kernel_rfl) hw
def laws_eqExport_c : C := .seq (.reg [⟨(some 2), none, .box (.t 0)⟩,
  ⟨(some 3), none, .box (.t 1)⟩,
  ⟨(some 4), none, .mov (.c (.bool false))⟩]) (.seq (.seq (.reg [⟨(some 5), none, .fld 0 (.t 2)⟩,
  ⟨(some 6), none, .load 1 false (.t 5)⟩,
  ⟨(some 7), none, .fld 0 (.t 3)⟩,
  ⟨(some 8), none, .load 1 false (.t 7)⟩,
  ⟨(some 9), none, .bin .neq (.num) (.t 6) (.t 8)⟩]) (.cond (.t 9) (.seq (.reg [⟨(some 4), none, .mov (.c (.bool false))⟩]) (.ret)) (.skip))) (.seq (.seq (.reg [⟨(some 10), none, .fld 1 (.t 2)⟩,
  ⟨(some 11), none, .load 1 false (.t 10)⟩,
  ⟨(some 12), none, .fld 1 (.t 3)⟩,
  ⟨(some 13), none, .load 1 false (.t 12)⟩,
  ⟨(some 14), none, .bin .neq (.num) (.t 11) (.t 13)⟩]) (.cond (.t 14) (.seq (.reg [⟨(some 4), none, .mov (.c (.bool false))⟩]) (.ret)) (.skip))) (.seq (.seq (.reg [⟨(some 15), none, .fld 2 (.t 2)⟩,
  ⟨(some 16), none, .load 1 false (.t 15)⟩,
  ⟨(some 17), none, .fld 2 (.t 3)⟩,
  ⟨(some 18), none, .load 1 false (.t 17)⟩,
  ⟨(some 19), none, .bin .neq (.num) (.t 16) (.t 18)⟩]) (.cond (.t 19) (.seq (.reg [⟨(some 4), none, .mov (.c (.bool false))⟩]) (.ret)) (.skip))) (.seq (.reg [⟨(some 4), none, .mov (.c (.bool true))⟩]) (.ret)))))
def laws_eqExport_r : List RS := [.t 4]
theorem laws_eqExport_e {a0 a1 : AV} {h : AH} {K : AV → AH → Prop} (hw : TC Try.prog Θ Γ laws_eqExport_c (retQ laws_eqExport_r K) ⟨[a0, a1, u, u, u, u, u, u, u, u, u, u, u, u, u, u, u, u, u, u], [], h⟩) : T Try.prog Γ Fn.laws_eqExport [a0, a1] h K :=
  T_of_body tabOK Try.func195 (code := bodyOf Try.f195) (by kernel_rfl) (by kernel_rfl) (by kernel_rfl) (by kernel_rfl) hw
def laws_eqQuestion_c : C := .seq (.reg [⟨(some 2), none, .box (.t 0)⟩,
  ⟨(some 3), none, .box (.t 1)⟩,
  ⟨(some 4), none, .mov (.c (.bool false))⟩]) (.seq (.seq (.reg [⟨(some 5), none, .fld 0 (.t 2)⟩,
  ⟨(some 6), none, .load 1 false (.t 5)⟩,
  ⟨(some 7), none, .fld 0 (.t 3)⟩,
  ⟨(some 8), none, .load 1 false (.t 7)⟩,
  ⟨(some 9), none, .bin .neq (.num) (.t 6) (.t 8)⟩]) (.cond (.t 9) (.seq (.reg [⟨(some 4), none, .mov (.c (.bool false))⟩]) (.ret)) (.skip))) (.seq (.seq (.reg [⟨(some 10), none, .fld 1 (.t 2)⟩,
  ⟨(some 11), none, .load 1 false (.t 10)⟩,
  ⟨(some 12), none, .fld 1 (.t 3)⟩,
  ⟨(some 13), none, .load 1 false (.t 12)⟩,
  ⟨(some 14), none, .bin .neq (.num) (.t 11) (.t 13)⟩]) (.cond (.t 14) (.seq (.reg [⟨(some 4), none, .mov (.c (.bool false))⟩]) (.ret)) (.skip))) (.seq (.reg [⟨(some 4), none, .mov (.c (.bool true))⟩]) (.ret))))
def laws_eqQuestion_r : List RS := [.t 4]
theorem laws_eqQuestion_e {a0 a1 : AV} {h : AH} {K : AV → AH → Prop} (hw : TC Try.prog Θ Γ laws_eqQuestion_c (retQ laws_eqQuestion_r K) ⟨[a0, a1, u, u, u, u, u, u, u, u, u, u, u, u, u], [], h⟩) : T Try.prog Γ Fn.laws_eqQuestion [a0, a1] h K :=
  T_of_body tabOK Try.func196 (code := bodyOf Try.f196) (by kernel_rfl) (by kernel_rfl) (by kernel_rfl) (by kernel_rfl) hw
end Go.Proofs.Ytjmcfdhklogpkaa
