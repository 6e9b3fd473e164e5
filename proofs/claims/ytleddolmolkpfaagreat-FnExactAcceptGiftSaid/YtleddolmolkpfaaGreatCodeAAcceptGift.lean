import Derived.Test.YtleddolmolkpfaaGreatProg
import Derived.Test.YtleddolmolkpfaaGreatAmLib
set_option linter.unusedVariables false
set_option linter.unusedSimpArgs false
namespace Go.Proofs.YtleddolmolkpfaaGreat
open Go.AM
namespace Fn
abbrev main_main : FuncId := 0
abbrev gosem_cut : FuncId := 1
abbrev gosem_cut_init : FuncId := 2
abbrev laws_FnExactDepositGift : FuncId := 3
abbrev laws_FnExactUpgradeObjects : FuncId := 4
abbrev laws_FnExactAcceptGift : FuncId := 5
abbrev laws_FnExactForgeIn : FuncId := 6
abbrev laws_szVat : FuncId := 7
abbrev laws_szGiftS : FuncId := 8
abbrev spec_DepositGift : FuncId := 9
abbrev laws_toVat : FuncId := 10
abbrev laws_toGiftS : FuncId := 11
abbrev impl_DepositGift : FuncId := 12
abbrev laws_eqGiftS : FuncId := 13
abbrev laws_eqVat : FuncId := 14
abbrev laws_markVat : FuncId := 15
abbrev laws_markGiftS : FuncId := 16
abbrev laws_heldGiftS : FuncId := 17
abbrev spec_UpgradeObjects : FuncId := 18
abbrev impl_UpgradeObjects : FuncId := 19
abbrev laws_heldVat : FuncId := 20
abbrev spec_AcceptGift : FuncId := 21
abbrev impl_AcceptGift : FuncId := 22
abbrev laws_szWorld : FuncId := 23
abbrev laws_szMessage : FuncId := 24
abbrev spec_ForgeIn : FuncId := 25
abbrev laws_toWorld : FuncId := 26
abbrev laws_toMessage : FuncId := 27
abbrev impl_ForgeIn : FuncId := 28
abbrev laws_eqWorld : FuncId := 29
abbrev laws_eqMessage : FuncId := 30
abbrev laws_markWorld : FuncId := 31
abbrev laws_markMessage : FuncId := 32
abbrev laws_heldWorld : FuncId := 33
abbrev laws_szEntityS : FuncId := 34
abbrev laws_szSentS : FuncId := 35
abbrev laws_szLinkS : FuncId := 36
abbrev laws_szOutgoingS : FuncId := 37
abbrev spec_IsUp : FuncId := 38
abbrev spec_l31Copy : FuncId := 39
abbrev spec_FindExport : FuncId := 40
abbrev spec_LinkTo : FuncId := 41
abbrev spec_PutGift : FuncId := 42
abbrev laws_toEntityS : FuncId := 43
abbrev laws_toSentS : FuncId := 44
abbrev laws_toLinkS : FuncId := 45
abbrev laws_toOutgoingS : FuncId := 46
abbrev laws_toGift : FuncId := 47
abbrev impl_Vat_link : FuncId := 48
abbrev impl_Link_at : FuncId := 49
abbrev slices_Clone_iimpl_Gift_impl_Gift : FuncId := 50
abbrev impl_PutGift : FuncId := 51
abbrev impl_FindExport : FuncId := 52
abbrev laws_eqGift : FuncId := 53
abbrev laws_eqEntityS : FuncId := 54
abbrev laws_eqSentS : FuncId := 55
abbrev laws_eqLinkS : FuncId := 56
abbrev laws_eqOutgoingS : FuncId := 57
abbrev laws_markEntityS : FuncId := 58
abbrev laws_markSentS : FuncId := 59
abbrev laws_markLinkS : FuncId := 60
abbrev laws_markOutgoingS : FuncId := 61
abbrev spec_l12Copy : FuncId := 62
abbrev spec_l1In : FuncId := 63
abbrev spec_SlotOf : FuncId := 64
abbrev impl_Vat_copied : FuncId := 65
abbrev impl_Vat_upgrade : FuncId := 66
abbrev laws_heldEntityS : FuncId := 67
abbrev laws_heldSentS : FuncId := 68
abbrev laws_heldLinkS : FuncId := 69
abbrev laws_heldOutgoingS : FuncId := 70
abbrev spec_ClaimGift : FuncId := 71
abbrev spec_PutExport : FuncId := 72
abbrev impl_ClaimGift : FuncId := 73
abbrev impl_Link_put : FuncId := 74
abbrev laws_szScriptS : FuncId := 75
abbrev laws_szVatS : FuncId := 76
abbrev laws_szChannelS : FuncId := 77
abbrev laws_szNoteS : FuncId := 78
abbrev laws_szWireS : FuncId := 79
abbrev spec_l21Copy : FuncId := 80
abbrev spec_PutMessage : FuncId := 81
abbrev laws_toScriptS : FuncId := 82
abbrev laws_toVatS : FuncId := 83
abbrev laws_toChannelS : FuncId := 84
abbrev laws_toNoteS : FuncId := 85
abbrev laws_toWireS : FuncId := 86
abbrev laws_toWire : FuncId := 87
abbrev laws_toTag : FuncId := 88
abbrev impl_World_copied : FuncId := 89
abbrev impl_putMessage : FuncId := 90
abbrev impl_Message_copied : FuncId := 91
abbrev laws_eqScriptS : FuncId := 92
abbrev laws_eqVatS : FuncId := 93
abbrev laws_eqChannelS : FuncId := 94
abbrev laws_eqNoteS : FuncId := 95
abbrev laws_eqWireS : FuncId := 96
abbrev laws_eqWire : FuncId := 97
abbrev laws_eqTag : FuncId := 98
abbrev laws_markScriptS : FuncId := 99
abbrev laws_markVatS : FuncId := 100
abbrev laws_markChannelS : FuncId := 101
abbrev laws_markNoteS : FuncId := 102
abbrev laws_markWireS : FuncId := 103
abbrev laws_heldScriptS : FuncId := 104
abbrev laws_heldVatS : FuncId := 105
abbrev laws_heldChannelS : FuncId := 106
abbrev laws_heldNoteS : FuncId := 107
abbrev laws_szEntity : FuncId := 108
abbrev laws_szSent : FuncId := 109
abbrev laws_szLink : FuncId := 110
abbrev laws_szOutgoing : FuncId := 111
abbrev spec_AreGifts : FuncId := 112
abbrev laws_toEntity : FuncId := 113
abbrev laws_toSent : FuncId := 114
abbrev laws_toLink : FuncId := 115
abbrev laws_toOutgoing : FuncId := 116
abbrev slices_ContainsFunc_iimpl_Link_impl_Link : FuncId := 117
abbrev impl_Vat_link_1 : FuncId := 118
abbrev impl_LinkTo : FuncId := 119
abbrev slices_IndexFunc_iimpl_Export_impl_Export : FuncId := 120
abbrev impl_Link_at_1 : FuncId := 121
abbrev impl_areGifts : FuncId := 122
abbrev laws_eqEntity : FuncId := 123
abbrev laws_eqSent : FuncId := 124
abbrev laws_eqLink : FuncId := 125
abbrev laws_eqOutgoing : FuncId := 126
abbrev laws_markValueS : FuncId := 127
abbrev laws_markAskerS : FuncId := 128
abbrev laws_markText : FuncId := 129
abbrev laws_markExportS : FuncId := 130
abbrev laws_markQuestionS : FuncId := 131
abbrev spec_l9CopySents : FuncId := 132
abbrev spec_l9Copy : FuncId := 133
abbrev spec_l10Copy : FuncId := 134
abbrev spec_l11Copy : FuncId := 135
abbrev impl_copiedSents : FuncId := 136
abbrev impl_Entity_copied : FuncId := 137
abbrev impl_Link_copied : FuncId := 138
abbrev impl_in : FuncId := 139
abbrev impl_SlotOf : FuncId := 140
abbrev laws_heldValueS : FuncId := 141
abbrev laws_heldAskerS : FuncId := 142
abbrev laws_heldExportS : FuncId := 143
abbrev laws_heldQuestionS : FuncId := 144
abbrev laws_heldWireS : FuncId := 145
abbrev slices_IndexFunc_iimpl_Gift_impl_Gift : FuncId := 146
abbrev impl_ClaimGift_1 : FuncId := 147
abbrev slices_Delete_iimpl_Gift_impl_Gift : FuncId := 148
abbrev impl_Link_of : FuncId := 149
abbrev laws_szScript : FuncId := 150
abbrev laws_szChannel : FuncId := 151
abbrev spec_l6CopyAll : FuncId := 152
abbrev spec_l20Copy : FuncId := 153
abbrev spec_l20Find : FuncId := 154
abbrev laws_toScript : FuncId := 155
abbrev laws_toChannel : FuncId := 156
abbrev laws_toNote : FuncId := 157
abbrev impl_copiedScripts : FuncId := 158
abbrev impl_copiedChannels : FuncId := 159
abbrev slices_Clone_iimpl_Note_impl_Note : FuncId := 160
abbrev impl_channel : FuncId := 161
abbrev slices_Clone_iimpl_Wire_impl_Wire : FuncId := 162
abbrev laws_eqScript : FuncId := 163
abbrev laws_eqChannel : FuncId := 164
abbrev laws_eqNote : FuncId := 165
abbrev laws_markMethodS : FuncId := 166
abbrev laws_markMessageS : FuncId := 167
abbrev laws_heldMethodS : FuncId := 168
abbrev laws_heldMessageS : FuncId := 169
abbrev laws_szValueS : FuncId := 170
abbrev laws_szAskerS : FuncId := 171
abbrev laws_szExportS : FuncId := 172
abbrev laws_szQuestionS : FuncId := 173
abbrev laws_toValueS : FuncId := 174
abbrev laws_toValue : FuncId := 175
abbrev laws_toAskerS : FuncId := 176
abbrev laws_toExportS : FuncId := 177
abbrev laws_toQuestionS : FuncId := 178
abbrev slices_IndexFunc_iimpl_Link_impl_Link : FuncId := 179
abbrev impl_LinkTo_1 : FuncId := 180
abbrev impl_named : FuncId := 181
abbrev slices_ContainsFunc_iimpl_Gift_impl_Gift : FuncId := 182
abbrev impl_areGifts_1 : FuncId := 183
abbrev laws_eqValueS : FuncId := 184
abbrev laws_eqValue : FuncId := 185
abbrev laws_eqAskerS : FuncId := 186
abbrev laws_eqExportS : FuncId := 187
abbrev laws_eqQuestionS : FuncId := 188
abbrev impl_Sent_copied : FuncId := 189
abbrev slices_Clone_iimpl_Value_impl_Value : FuncId := 190
abbrev slices_Clone_iimpl_Asker_impl_Asker : FuncId := 191
abbrev slices_Clone_iimpl_Export_impl_Export : FuncId := 192
abbrev slices_Clone_iimpl_Question_impl_Question : FuncId := 193
abbrev impl_IntValue : FuncId := 194
abbrev impl_Link_of_1 : FuncId := 195
abbrev laws_szMethodS : FuncId := 196
abbrev laws_szMessageS : FuncId := 197
abbrev spec_l6Copy : FuncId := 198
abbrev spec_l20CopyList : FuncId := 199
abbrev laws_toMethodS : FuncId := 200
abbrev laws_toMessageS : FuncId := 201
abbrev impl_Method_copied : FuncId := 202
abbrev impl_Channel_copied : FuncId := 203
abbrev slices_IndexFunc_iimpl_Channel_impl_Channel : FuncId := 204
abbrev impl_channel_1 : FuncId := 205
abbrev laws_eqMethodS : FuncId := 206
abbrev laws_eqMessageS : FuncId := 207
abbrev laws_markInstrS : FuncId := 208
abbrev laws_heldInstrS : FuncId := 209
abbrev laws_toAsker : FuncId := 210
abbrev laws_toExport : FuncId := 211
abbrev laws_toQuestion : FuncId := 212
abbrev laws_eqAsker : FuncId := 213
abbrev laws_eqExport : FuncId := 214
abbrev laws_eqQuestion : FuncId := 215
abbrev impl_Mod : FuncId := 216
abbrev laws_szMethod : FuncId := 217
abbrev spec_l6CopyMethod : FuncId := 218
abbrev laws_toMethod : FuncId := 219
abbrev slices_Clone_iimpl_Instr_impl_Instr : FuncId := 220
abbrev laws_eqMethod : FuncId := 221
abbrev laws_szInstrS : FuncId := 222
abbrev laws_toInstrS : FuncId := 223
abbrev laws_eqInstrS : FuncId := 224
abbrev laws_szInstr : FuncId := 225
abbrev laws_toInstr : FuncId := 226
abbrev laws_eqInstr : FuncId := 227
abbrev runtime_boundsError_Error : FuncId := 228
abbrev runtime_boundsError_RuntimeError : FuncId := 229
abbrev runtime_errorString_Error : FuncId := 230
abbrev runtime_errorString_RuntimeError : FuncId := 231
abbrev runtime_plainError_Error : FuncId := 232
abbrev runtime_plainError_RuntimeError : FuncId := 233
abbrev runtime_errorAddressString_Error : FuncId := 234
abbrev runtime_errorAddressString_RuntimeError : FuncId := 235
abbrev runtime_TypeAssertionError_Error : FuncId := 236
abbrev runtime_TypeAssertionError_RuntimeError : FuncId := 237
abbrev runtime_PanicNilError_Error : FuncId := 238
abbrev runtime_PanicNilError_RuntimeError : FuncId := 239
abbrev internal_abi_Type_Align : FuncId := 240
abbrev internal_runtime_maps_unhashableTypeError_Error : FuncId := 241
abbrev internal_runtime_maps_unhashableTypeError_RuntimeError : FuncId := 242
abbrev impl_Link_ask : FuncId := 243
abbrev impl_Vat_cut : FuncId := 244
abbrev impl_Entity_isSwept : FuncId := 245
abbrev internal_abi_Kind_String : FuncId := 246
end Fn
namespace Gn
end Gn
def tabL : List (Nat × TI) := [
  (3, ⟨.int .i64, 1, 8, [.int .i64 0], none⟩),
  (4, ⟨.bool, 1, 1, [.bool false], none⟩),
  (5, ⟨.int .u8, 1, 1, [.int .u8 0], none⟩),
  (9, ⟨.str, 1, 16, [.str ⟨#[]⟩], none⟩),
  (22, ⟨.slice 169, 1, 24, [.nils], none⟩),
  (23, ⟨.slice 172, 1, 24, [.nils], none⟩),
  (24, ⟨.slice 177, 1, 24, [.nils], none⟩),
  (25, ⟨.slice 180, 1, 24, [.nils], none⟩),
  (27, ⟨.strct [(0, 3), (1, 22), (2, 23), (3, 24), (4, 25)], 5, 104, [.int .i64 0, .nils, .nils, .nils, .nils], none⟩),
  (28, ⟨.slice 107, 1, 24, [.nils], none⟩),
  (31, ⟨.slice 101, 1, 24, [.nils], none⟩),
  (34, ⟨.slice 126, 1, 24, [.nils], none⟩),
  (35, ⟨.slice 186, 1, 24, [.nils], none⟩),
  (36, ⟨.slice 98, 1, 24, [.nils], none⟩),
  (37, ⟨.slice 190, 1, 24, [.nils], none⟩),
  (39, ⟨.strct [(0, 3), (1, 34), (2, 35), (3, 36), (4, 37)], 5, 104, [.int .i64 0, .nils, .nils, .nils, .nils], none⟩),
  (53, ⟨.slice 219, 1, 24, [.nils], none⟩),
  (54, ⟨.slice 27, 1, 24, [.nils], none⟩),
  (55, ⟨.slice 223, 1, 24, [.nils], none⟩),
  (56, ⟨.slice 239, 1, 24, [.nils], none⟩),
  (58, ⟨.strct [(0, 53), (1, 54), (2, 55), (3, 56), (4, 3)], 5, 104, [.nils, .nils, .nils, .nils, .int .i64 0], none⟩),
  (59, ⟨.slice 61, 1, 24, [.nils], none⟩),
  (61, ⟨.strct [(0, 3), (1, 3)], 2, 16, [.int .i64 0, .int .i64 0], none⟩),
  (63, ⟨.strct [(0, 3), (1, 3), (2, 3)], 3, 24, [.int .i64 0, .int .i64 0, .int .i64 0], none⟩),
  (65, ⟨.strct [(0, 3), (1, 3), (2, 3), (3, 3), (4, 9), (5, 59), (6, 61), (8, 3), (9, 63)], 12, 120, [.int .i64 0, .int .i64 0, .int .i64 0, .int .i64 0, .str ⟨#[]⟩, .nils, .int .i64 0, .int .i64 0, .int .i64 0, .int .i64 0, .int .i64 0, .int .i64 0], none⟩),
  (68, ⟨.slice 232, 1, 24, [.nils], none⟩),
  (69, ⟨.slice 39, 1, 24, [.nils], none⟩),
  (70, ⟨.slice 229, 1, 24, [.nils], none⟩),
  (71, ⟨.slice 236, 1, 24, [.nils], none⟩),
  (73, ⟨.strct [(0, 68), (1, 69), (2, 70), (3, 71), (4, 3)], 5, 104, [.nils, .nils, .nils, .nils, .int .i64 0], none⟩),
  (77, ⟨.slice 78, 1, 24, [.nils], none⟩),
  (78, ⟨.strct [(0, 3), (1, 3)], 2, 16, [.int .i64 0, .int .i64 0], none⟩),
  (79, ⟨.strct [(0, 3), (1, 3), (2, 3)], 3, 24, [.int .i64 0, .int .i64 0, .int .i64 0], none⟩),
  (81, ⟨.strct [(0, 3), (1, 3), (2, 3), (3, 3), (4, 9), (5, 77), (6, 78), (8, 3), (9, 79)], 12, 120, [.int .i64 0, .int .i64 0, .int .i64 0, .int .i64 0, .str ⟨#[]⟩, .nils, .int .i64 0, .int .i64 0, .int .i64 0, .int .i64 0, .int .i64 0, .int .i64 0], none⟩),
  (95, ⟨.slice 182, 1, 24, [.nils], none⟩),
  (96, ⟨.slice 268, 1, 24, [.nils], none⟩),
  (98, ⟨.strct [(0, 3), (1, 4), (2, 95), (3, 3), (4, 96), (5, 3), (6, 96)], 7, 104, [.int .i64 0, .bool false, .nils, .int .i64 0, .nils, .int .i64 0, .nils], none⟩),
  (101, ⟨.strct [(0, 3), (1, 3), (2, 3), (3, 3)], 4, 32, [.int .i64 0, .int .i64 0, .int .i64 0, .int .i64 0], none⟩),
  (107, ⟨.strct [(0, 3), (1, 3), (2, 3), (3, 3)], 4, 32, [.int .i64 0, .int .i64 0, .int .i64 0, .int .i64 0], none⟩),
  (108, ⟨.ptr 98, 1, 8, [.nilp], none⟩),
  (122, ⟨.slice 123, 1, 24, [.nils], none⟩),
  (123, ⟨.strct [(0, 3), (1, 3)], 2, 16, [.int .i64 0, .int .i64 0], none⟩),
  (124, ⟨.slice 265, 1, 24, [.nils], none⟩),
  (126, ⟨.strct [(0, 3), (1, 3), (2, 122), (3, 3), (4, 123), (6, 35), (7, 124), (8, 3), (9, 3), (10, 3), (11, 3)], 12, 144, [.int .i64 0, .int .i64 0, .nils, .int .i64 0, .int .i64 0, .int .i64 0, .nils, .nils, .int .i64 0, .int .i64 0, .int .i64 0, .int .i64 0], none⟩),
  (165, ⟨.slice 166, 1, 24, [.nils], none⟩),
  (166, ⟨.strct [(0, 3), (1, 3)], 2, 16, [.int .i64 0, .int .i64 0], none⟩),
  (167, ⟨.slice 292, 1, 24, [.nils], none⟩),
  (169, ⟨.strct [(0, 3), (1, 3), (2, 165), (3, 3), (4, 166), (6, 23), (7, 167), (8, 3), (9, 3), (10, 3), (11, 3)], 12, 144, [.int .i64 0, .int .i64 0, .nils, .int .i64 0, .int .i64 0, .int .i64 0, .nils, .nils, .int .i64 0, .int .i64 0, .int .i64 0, .int .i64 0], none⟩),
  (172, ⟨.strct [(0, 3), (1, 9), (2, 165), (3, 3), (4, 63)], 7, 80, [.int .i64 0, .str ⟨#[]⟩, .nils, .int .i64 0, .int .i64 0, .int .i64 0, .int .i64 0], none⟩),
  (174, ⟨.slice 294, 1, 24, [.nils], none⟩),
  (175, ⟨.slice 296, 1, 24, [.nils], none⟩),
  (177, ⟨.strct [(0, 3), (1, 4), (2, 174), (3, 3), (4, 175), (5, 3), (6, 175)], 7, 104, [.int .i64 0, .bool false, .nils, .int .i64 0, .nils, .int .i64 0, .nils], none⟩),
  (180, ⟨.strct [(0, 3), (1, 65)], 13, 128, [.int .i64 0, .int .i64 0, .int .i64 0, .int .i64 0, .int .i64 0, .str ⟨#[]⟩, .nils, .int .i64 0, .int .i64 0, .int .i64 0, .int .i64 0, .int .i64 0, .int .i64 0], none⟩),
  (182, ⟨.strct [(0, 3), (1, 3), (2, 3)], 3, 24, [.int .i64 0, .int .i64 0, .int .i64 0], none⟩),
  (186, ⟨.strct [(0, 3), (1, 9), (2, 122), (3, 3), (4, 79)], 7, 80, [.int .i64 0, .str ⟨#[]⟩, .nils, .int .i64 0, .int .i64 0, .int .i64 0, .int .i64 0], none⟩),
  (190, ⟨.strct [(0, 3), (1, 81)], 13, 128, [.int .i64 0, .int .i64 0, .int .i64 0, .int .i64 0, .int .i64 0, .str ⟨#[]⟩, .nils, .int .i64 0, .int .i64 0, .int .i64 0, .int .i64 0, .int .i64 0, .int .i64 0], none⟩),
  (217, ⟨.slice 304, 1, 24, [.nils], none⟩),
  (219, ⟨.strct [(0, 9), (1, 217)], 2, 40, [.str ⟨#[]⟩, .nils], none⟩),
  (221, ⟨.slice 65, 1, 24, [.nils], none⟩),
  (223, ⟨.strct [(0, 3), (1, 3), (2, 221)], 3, 40, [.int .i64 0, .int .i64 0, .nils], none⟩),
  (227, ⟨.slice 81, 1, 24, [.nils], none⟩),
  (229, ⟨.strct [(0, 3), (1, 3), (2, 227)], 3, 40, [.int .i64 0, .int .i64 0, .nils], none⟩),
  (230, ⟨.slice 283, 1, 24, [.nils], none⟩),
  (232, ⟨.strct [(0, 9), (1, 230)], 2, 40, [.str ⟨#[]⟩, .nils], none⟩),
  (236, ⟨.strct [(0, 3), (1, 3), (2, 3), (3, 79)], 6, 48, [.int .i64 0, .int .i64 0, .int .i64 0, .int .i64 0, .int .i64 0, .int .i64 0], none⟩),
  (239, ⟨.strct [(0, 3), (1, 3), (2, 3), (3, 63)], 6, 48, [.int .i64 0, .int .i64 0, .int .i64 0, .int .i64 0, .int .i64 0, .int .i64 0], none⟩),
  (265, ⟨.strct [(0, 3), (1, 3)], 2, 16, [.int .i64 0, .int .i64 0], none⟩),
  (266, ⟨.slice 5, 1, 24, [.nils], none⟩),
  (268, ⟨.strct [(0, 3), (1, 3)], 2, 16, [.int .i64 0, .int .i64 0], none⟩),
  (281, ⟨.slice 309, 1, 24, [.nils], none⟩),
  (283, ⟨.strct [(0, 9), (1, 281)], 2, 40, [.str ⟨#[]⟩, .nils], none⟩),
  (292, ⟨.strct [(0, 3), (1, 3)], 2, 16, [.int .i64 0, .int .i64 0], none⟩),
  (294, ⟨.strct [(0, 3), (1, 3), (2, 3)], 3, 24, [.int .i64 0, .int .i64 0, .int .i64 0], none⟩),
  (296, ⟨.strct [(0, 3), (1, 3)], 2, 16, [.int .i64 0, .int .i64 0], none⟩),
  (302, ⟨.slice 315, 1, 24, [.nils], none⟩),
  (304, ⟨.strct [(0, 9), (1, 302)], 2, 40, [.str ⟨#[]⟩, .nils], none⟩),
  (309, ⟨.strct [(0, 3), (1, 3), (2, 3), (3, 3), (4, 3), (5, 9)], 6, 56, [.int .i64 0, .int .i64 0, .int .i64 0, .int .i64 0, .int .i64 0, .str ⟨#[]⟩], none⟩),
  (315, ⟨.strct [(0, 3), (1, 3), (2, 3), (3, 3), (4, 3), (5, 9)], 6, 56, [.int .i64 0, .int .i64 0, .int .i64 0, .int .i64 0, .int .i64 0, .str ⟨#[]⟩], none⟩)]
def Θ : Tab := tabOf tabL
theorem tabOK : TabOK Tryz.prog Θ := tabOK_of (by kernel_rfl) (by kernel_rfl)
theorem mixed : Tryz.prog.follows .mixedOrders = true := by kernel_rfl
variable {Γ : Glob}

def laws_FnExactAcceptGift_d0_os : List O := [⟨(some 77), none, .load 5 true (.t 15)⟩,
  ⟨(some 78), none, .load 5 true (.t 5)⟩,
  ⟨(some 79), none, .call (.c (.fn Fn.laws_toVat [] [])) [.t 78]⟩,
  ⟨(some 80), none, .call (.c (.fn Fn.laws_eqVat [] [])) [.t 77, .t 79]⟩,
  ⟨(some 81), none, .un .not (.t 80)⟩]
def laws_FnExactAcceptGift_d0_af : List (List Nat) := [[], [], [1], [0, 2, 2], [3]]
theorem laws_FnExactAcceptGift_d0_q (gl : Gl) (Q : AE → St → Prop) (s : St) : aw Tryz.prog Θ Γ gl (.regD laws_FnExactAcceptGift_d0_os laws_FnExactAcceptGift_d0_af) Q s = awpT Tryz.prog Γ gl [⟨(some 77), none, .load 5 true (.t 15)⟩,
  ⟨(some 78), none, .load 5 true (.t 5)⟩,
  ⟨(some 79), none, .call (.c (.fn Fn.laws_toVat [] [])) [.t 78]⟩,
  ⟨(some 80), none, .call (.c (.fn Fn.laws_eqVat [] [])) [.t 77, .t 79]⟩,
  ⟨(some 81), none, .un .not (.t 80)⟩] (Q .normal) 5 (.q 0 (.q 1 (.all [(2, .q 3 (.q 4 (.done)))]))) s := a_dd rfl (by kernel_rfl) gl Q s
def laws_FnExactAcceptGift_c : C := .seq (.reg [⟨(some 5), none, .box (.t 0)⟩,
  ⟨(some 10), none, .mov (.c (.bool false))⟩]) (.seq (.reg [⟨(some 11), none, .mov (.c (.int .i64 1048576))⟩]) (.seq (.reg [⟨(some 26), none, .load 5 true (.t 5)⟩,
  ⟨(some 27), none, .mov (.t 11)⟩,
  ⟨(some 28), none, .call (.c (.fn Fn.laws_szVat [] [])) [.t 26, .t 27]⟩,
  ⟨(some 11), none, .mov (.t 28)⟩]) (.seq (.seq (.reg [⟨(some 29), none, .mov (.t 11)⟩,
  ⟨(some 30), none, .bin .lss (.num) (.t 29) (.c (.int .i64 0))⟩]) (.cond (.t 30) (.seq (.reg [⟨(some 10), none, .mov (.c (.bool true))⟩]) (.ret)) (.skip))) (.seq (.reg [⟨(some 31), none, .mov (.t 1)⟩,
  ⟨(some 32), none, .mov (.t 11)⟩,
  ⟨(some 33), none, .call (.c (.fn Fn.laws_szGiftS [] [])) [.t 31, .t 32]⟩,
  ⟨(some 11), none, .mov (.t 33)⟩]) (.seq (.seq (.reg [⟨(some 34), none, .mov (.t 11)⟩,
  ⟨(some 35), none, .bin .lss (.num) (.t 34) (.c (.int .i64 0))⟩]) (.cond (.t 35) (.seq (.reg [⟨(some 10), none, .mov (.c (.bool true))⟩]) (.ret)) (.skip))) (.seq (.reg [⟨(some 37), none, .load 5 true (.t 5)⟩,
  ⟨(some 38), none, .call (.c (.fn Fn.laws_toVat [] [])) [.t 37]⟩,
  ⟨(some 39), none, .mov (.t 1)⟩,
  ⟨(some 40), none, .call (.c (.fn Fn.laws_toGiftS [] [])) [.t 39]⟩,
  ⟨(some 41), none, .mov (.t 2)⟩,
  ⟨(some 42), none, .mov (.t 3)⟩,
  ⟨(some 43), none, .mov (.t 4)⟩,
  ⟨(some 44), none, .call (.c (.fn Fn.spec_AcceptGift [] [])) [.t 38, .t 40, .t 41, .t 42, .t 43]⟩,
  ⟨(some 36), none, .mov (.t 44)⟩,
  ⟨(some 45), none, .extr (.t 36) 0⟩,
  ⟨(some 46), none, .extr (.t 36) 1⟩,
  ⟨(some 47), none, .extr (.t 36) 2⟩,
  ⟨(some 12), none, .alloc [.int .i64 0, .nils, .nils, .nils, .nils]⟩,
  ⟨none, none, .store 5 (.t 12) (.t 45)⟩,
  ⟨(some 13), none, .mov (.t 46)⟩,
  ⟨(some 14), none, .mov (.t 47)⟩]) (.seq (.reg [⟨(some 48), none, .load 5 true (.t 5)⟩,
  ⟨(some 49), none, .call (.c (.fn Fn.laws_toVat [] [])) [.t 48]⟩,
  ⟨(some 15), none, .alloc [.int .i64 0, .nils, .nils, .nils, .nils]⟩,
  ⟨none, none, .store 5 (.t 15) (.t 49)⟩]) (.seq (.reg [⟨(some 50), none, .mov (.t 1)⟩,
  ⟨(some 51), none, .call (.c (.fn Fn.laws_toGiftS [] [])) [.t 50]⟩,
  ⟨(some 16), none, .mov (.t 51)⟩]) (.seq (.reg [⟨(some 53), none, .load 5 true (.t 15)⟩,
  ⟨(some 54), none, .mov (.t 16)⟩,
  ⟨(some 55), none, .mov (.t 2)⟩,
  ⟨(some 56), none, .mov (.t 3)⟩,
  ⟨(some 57), none, .mov (.t 4)⟩,
  ⟨(some 58), none, .call (.c (.fn Fn.impl_AcceptGift [] [])) [.t 53, .t 54, .t 55, .t 56, .t 57]⟩,
  ⟨(some 52), none, .mov (.t 58)⟩,
  ⟨(some 59), none, .extr (.t 52) 0⟩,
  ⟨(some 60), none, .extr (.t 52) 1⟩,
  ⟨(some 61), none, .extr (.t 52) 2⟩,
  ⟨(some 17), none, .alloc [.int .i64 0, .nils, .nils, .nils, .nils]⟩,
  ⟨none, none, .store 5 (.t 17) (.t 59)⟩,
  ⟨(some 18), none, .mov (.t 60)⟩,
  ⟨(some 19), none, .mov (.t 61)⟩]) (.seq (.seq (.reg [⟨(some 62), none, .load 5 true (.t 17)⟩,
  ⟨(some 63), none, .load 5 true (.t 12)⟩,
  ⟨(some 64), none, .call (.c (.fn Fn.laws_eqVat [] [])) [.t 62, .t 63]⟩,
  ⟨(some 65), none, .un .not (.t 64)⟩,
  ⟨(some 66), none, .mov (.t 65)⟩,
  ⟨(some 67), (some (4, false)), .mov (.t 18)⟩,
  ⟨(some 68), (some (4, false)), .mov (.t 13)⟩,
  ⟨(some 69), (some (4, false)), .call (.c (.fn Fn.laws_eqGiftS [] [])) [.t 67, .t 68]⟩,
  ⟨(some 70), (some (4, false)), .un .not (.t 69)⟩,
  ⟨(some 71), none, .pick (.t 66) (.c (.bool true)) (.t 70)⟩,
  ⟨(some 72), none, .mov (.t 71)⟩,
  ⟨(some 73), (some (10, false)), .mov (.t 19)⟩,
  ⟨(some 74), (some (10, false)), .mov (.t 14)⟩,
  ⟨(some 75), (some (10, false)), .bin .neq (.num) (.t 73) (.t 74)⟩,
  ⟨(some 76), none, .pick (.t 72) (.c (.bool true)) (.t 75)⟩]) (.cond (.t 76) (.seq (.reg [⟨(some 10), none, .mov (.c (.bool false))⟩]) (.ret)) (.skip))) (.seq (.seq (.regD laws_FnExactAcceptGift_d0_os laws_FnExactAcceptGift_d0_af) (.cond (.t 81) (.seq (.reg [⟨(some 10), none, .mov (.c (.bool false))⟩]) (.ret)) (.skip))) (.seq (.seq (.reg [⟨(some 82), none, .mov (.t 16)⟩,
  ⟨(some 83), none, .mov (.t 1)⟩,
  ⟨(some 84), none, .call (.c (.fn Fn.laws_toGiftS [] [])) [.t 83]⟩,
  ⟨(some 85), none, .call (.c (.fn Fn.laws_eqGiftS [] [])) [.t 82, .t 84]⟩,
  ⟨(some 86), none, .un .not (.t 85)⟩]) (.cond (.t 86) (.seq (.reg [⟨(some 10), none, .mov (.c (.bool false))⟩]) (.ret)) (.skip))) (.seq (.reg [⟨(some 20), none, .mov (.c (.int .i64 1))⟩]) (.seq (.reg [⟨(some 87), none, .load 5 true (.t 15)⟩,
  ⟨(some 88), none, .mov (.t 20)⟩,
  ⟨(some 89), none, .call (.c (.fn Fn.laws_markVat [] [])) [.t 87, .t 88]⟩,
  ⟨(some 20), none, .mov (.t 89)⟩]) (.seq (.reg [⟨(some 90), none, .mov (.t 16)⟩,
  ⟨(some 91), none, .mov (.t 20)⟩,
  ⟨(some 92), none, .call (.c (.fn Fn.laws_markGiftS [] [])) [.t 90, .t 91]⟩,
  ⟨(some 20), none, .mov (.t 92)⟩]) (.seq (.seq (.reg [⟨(some 93), none, .mov (.t 20)⟩,
  ⟨(some 94), none, .bin .lss (.num) (.t 93) (.c (.int .i64 0))⟩,
  ⟨(some 95), none, .mov (.t 94)⟩,
  ⟨(some 96), (some (2, false)), .load 5 true (.t 17)⟩,
  ⟨(some 97), (some (2, false)), .load 5 true (.t 12)⟩,
  ⟨(some 98), (some (2, false)), .call (.c (.fn Fn.laws_eqVat [] [])) [.t 96, .t 97]⟩,
  ⟨(some 99), (some (2, false)), .un .not (.t 98)⟩,
  ⟨(some 100), none, .pick (.t 95) (.c (.bool true)) (.t 99)⟩,
  ⟨(some 101), none, .mov (.t 100)⟩,
  ⟨(some 102), (some (8, false)), .mov (.t 18)⟩,
  ⟨(some 103), (some (8, false)), .mov (.t 13)⟩,
  ⟨(some 104), (some (8, false)), .call (.c (.fn Fn.laws_eqGiftS [] [])) [.t 102, .t 103]⟩,
  ⟨(some 105), (some (8, false)), .un .not (.t 104)⟩,
  ⟨(some 106), none, .pick (.t 101) (.c (.bool true)) (.t 105)⟩,
  ⟨(some 107), none, .mov (.t 106)⟩,
  ⟨(some 108), (some (14, false)), .mov (.t 19)⟩,
  ⟨(some 109), (some (14, false)), .mov (.t 14)⟩,
  ⟨(some 110), (some (14, false)), .bin .neq (.num) (.t 108) (.t 109)⟩,
  ⟨(some 111), none, .pick (.t 107) (.c (.bool true)) (.t 110)⟩]) (.cond (.t 111) (.seq (.reg [⟨(some 10), none, .mov (.c (.bool false))⟩]) (.ret)) (.skip))) (.seq (.reg [⟨(some 21), none, .mov (.c (.int .i64 1))⟩]) (.seq (.reg [⟨(some 112), none, .load 5 true (.t 17)⟩,
  ⟨(some 113), none, .mov (.t 21)⟩,
  ⟨(some 114), none, .call (.c (.fn Fn.laws_markVat [] [])) [.t 112, .t 113]⟩,
  ⟨(some 21), none, .mov (.t 114)⟩]) (.seq (.reg [⟨(some 115), none, .mov (.t 18)⟩,
  ⟨(some 116), none, .mov (.t 21)⟩,
  ⟨(some 117), none, .call (.c (.fn Fn.laws_markGiftS [] [])) [.t 115, .t 116]⟩,
  ⟨(some 21), none, .mov (.t 117)⟩]) (.seq (.reg [⟨(some 22), none, .mov (.c (.int .i64 1))⟩]) (.seq (.reg [⟨(some 118), none, .load 5 true (.t 17)⟩,
  ⟨(some 119), none, .mov (.t 22)⟩,
  ⟨(some 120), none, .call (.c (.fn Fn.laws_heldVat [] [])) [.t 118, .t 119]⟩,
  ⟨(some 22), none, .mov (.t 120)⟩]) (.seq (.seq (.reg [⟨(some 121), none, .mov (.t 22)⟩,
  ⟨(some 122), none, .bin .lss (.num) (.t 121) (.c (.int .i64 0))⟩]) (.cond (.t 122) (.seq (.reg [⟨(some 10), none, .mov (.c (.bool false))⟩]) (.ret)) (.skip))) (.seq (.reg [⟨(some 123), none, .mov (.t 18)⟩,
  ⟨(some 124), none, .mov (.t 22)⟩,
  ⟨(some 125), none, .call (.c (.fn Fn.laws_heldGiftS [] [])) [.t 123, .t 124]⟩,
  ⟨(some 22), none, .mov (.t 125)⟩]) (.seq (.seq (.reg [⟨(some 126), none, .mov (.t 22)⟩,
  ⟨(some 127), none, .bin .lss (.num) (.t 126) (.c (.int .i64 0))⟩]) (.cond (.t 127) (.seq (.reg [⟨(some 10), none, .mov (.c (.bool false))⟩]) (.ret)) (.skip))) (.seq (.seq (.reg [⟨(some 128), none, .mov (.t 22)⟩,
  ⟨(some 129), none, .mov (.t 21)⟩,
  ⟨(some 130), none, .bin .neq (.num) (.t 128) (.t 129)⟩]) (.cond (.t 130) (.seq (.reg [⟨(some 10), none, .mov (.c (.bool false))⟩]) (.ret)) (.skip))) (.seq (.reg [⟨(some 132), none, .load 5 true (.t 5)⟩,
  ⟨(some 133), none, .call (.c (.fn Fn.laws_toVat [] [])) [.t 132]⟩,
  ⟨(some 134), none, .mov (.t 1)⟩,
  ⟨(some 135), none, .call (.c (.fn Fn.laws_toGiftS [] [])) [.t 134]⟩,
  ⟨(some 136), none, .mov (.t 2)⟩,
  ⟨(some 137), none, .mov (.t 3)⟩,
  ⟨(some 138), none, .mov (.t 4)⟩,
  ⟨(some 139), none, .call (.c (.fn Fn.impl_AcceptGift [] [])) [.t 133, .t 135, .t 136, .t 137, .t 138]⟩,
  ⟨(some 131), none, .mov (.t 139)⟩,
  ⟨(some 140), none, .extr (.t 131) 0⟩,
  ⟨(some 141), none, .extr (.t 131) 1⟩,
  ⟨(some 142), none, .extr (.t 131) 2⟩,
  ⟨(some 23), none, .alloc [.int .i64 0, .nils, .nils, .nils, .nils]⟩,
  ⟨none, none, .store 5 (.t 23) (.t 140)⟩,
  ⟨(some 24), none, .mov (.t 141)⟩,
  ⟨(some 25), none, .mov (.t 142)⟩]) (.seq (.seq (.reg [⟨(some 143), none, .load 5 true (.t 23)⟩,
  ⟨(some 144), none, .load 5 true (.t 12)⟩,
  ⟨(some 145), none, .call (.c (.fn Fn.laws_eqVat [] [])) [.t 143, .t 144]⟩,
  ⟨(some 146), none, .un .not (.t 145)⟩,
  ⟨(some 147), none, .mov (.t 146)⟩,
  ⟨(some 148), (some (4, false)), .mov (.t 24)⟩,
  ⟨(some 149), (some (4, false)), .mov (.t 13)⟩,
  ⟨(some 150), (some (4, false)), .call (.c (.fn Fn.laws_eqGiftS [] [])) [.t 148, .t 149]⟩,
  ⟨(some 151), (some (4, false)), .un .not (.t 150)⟩,
  ⟨(some 152), none, .pick (.t 147) (.c (.bool true)) (.t 151)⟩,
  ⟨(some 153), none, .mov (.t 152)⟩,
  ⟨(some 154), (some (10, false)), .mov (.t 25)⟩,
  ⟨(some 155), (some (10, false)), .mov (.t 14)⟩,
  ⟨(some 156), (some (10, false)), .bin .neq (.num) (.t 154) (.t 155)⟩,
  ⟨(some 157), none, .pick (.t 153) (.c (.bool true)) (.t 156)⟩]) (.cond (.t 157) (.seq (.reg [⟨(some 10), none, .mov (.c (.bool false))⟩]) (.ret)) (.skip))) (.seq (.reg [⟨(some 22), none, .mov (.c (.int .i64 1))⟩]) (.seq (.reg [⟨(some 158), none, .load 5 true (.t 17)⟩,
  ⟨(some 159), none, .mov (.t 22)⟩,
  ⟨(some 160), none, .call (.c (.fn Fn.laws_heldVat [] [])) [.t 158, .t 159]⟩,
  ⟨(some 22), none, .mov (.t 160)⟩]) (.seq (.seq (.reg [⟨(some 161), none, .mov (.t 22)⟩,
  ⟨(some 162), none, .bin .lss (.num) (.t 161) (.c (.int .i64 0))⟩]) (.cond (.t 162) (.seq (.reg [⟨(some 10), none, .mov (.c (.bool false))⟩]) (.ret)) (.skip))) (.seq (.reg [⟨(some 163), none, .mov (.t 18)⟩,
  ⟨(some 164), none, .mov (.t 22)⟩,
  ⟨(some 165), none, .call (.c (.fn Fn.laws_heldGiftS [] [])) [.t 163, .t 164]⟩,
  ⟨(some 22), none, .mov (.t 165)⟩]) (.seq (.seq (.reg [⟨(some 166), none, .mov (.t 22)⟩,
  ⟨(some 167), none, .bin .lss (.num) (.t 166) (.c (.int .i64 0))⟩]) (.cond (.t 167) (.seq (.reg [⟨(some 10), none, .mov (.c (.bool false))⟩]) (.ret)) (.skip))) (.seq (.seq (.reg [⟨(some 168), none, .mov (.t 22)⟩,
  ⟨(some 169), none, .mov (.t 21)⟩,
  ⟨(some 170), none, .bin .neq (.num) (.t 168) (.t 169)⟩]) (.cond (.t 170) (.seq (.reg [⟨(some 10), none, .mov (.c (.bool false))⟩]) (.ret)) (.skip))) (.seq (.reg [⟨(some 10), none, .mov (.c (.bool true))⟩]) (.ret)))))))))))))))))))))))))))))))))))
def laws_FnExactAcceptGift_r : List RS := [.t 10]
theorem laws_FnExactAcceptGift_e {a0 a1 a2 a3 a4 : AV} {h : AH} {K : AV → AH → Prop} (hw : TC Tryz.prog Θ Γ laws_FnExactAcceptGift_c (retQ laws_FnExactAcceptGift_r K) ⟨[a0, a1, a2, a3, a4, u, u, u, u, u, u, u, u, u, u, u, u, u, u, u, u, u, u, u, u, u, u, u, u, u, u, u, u, u, u, u, u, u, u, u, u, u, u, u, u, u, u, u, u, u, u, u, u, u, u, u, u, u, u, u, u, u, u, u, u, u, u, u, u, u, u, u, u, u, u, u, u, u, u, u, u, u, u, u, u, u, u, u, u, u, u, u, u, u, u, u, u, u, u, u, u, u, u, u, u, u, u, u, u, u, u, u, u, u, u, u, u, u, u, u, u, u, u, u, u, u, u, u, u, u, u, u, u, u, u, u, u, u, u, u, u, u, u, u, u, u, u, u, u, u, u, u, u, u, u, u, u, u, u, u, u, u, u, u, u, u, u, u, u, u, u], [], h⟩) : T Tryz.prog Γ Fn.laws_FnExactAcceptGift [a0, a1, a2, a3, a4] h K :=
  T_of_body tabOK Tryz.func5 (code := bodyOf Tryz.f5) (by kernel_rfl) (by kernel_rfl) (by kernel_rfl) (by kernel_rfl) hw
def laws_szVat_c : C := .seq (.reg [⟨(some 2), none, .box (.t 0)⟩,
  ⟨(some 4), none, .mov (.c (.int .i64 0))⟩]) (.seq (.reg [⟨(some 5), none, .fld 1 (.t 2)⟩,
  ⟨(some 6), none, .load 1 false (.t 5)⟩,
  ⟨(some 7), none, .mov (.t 1)⟩,
  ⟨(some 8), none, .call (.c (.fn Fn.laws_szEntityS [] [])) [.t 6, .t 7]⟩,
  ⟨(some 1), none, .mov (.t 8)⟩]) (.seq (.seq (.reg [⟨(some 9), none, .mov (.t 1)⟩,
  ⟨(some 10), none, .bin .lss (.num) (.t 9) (.c (.int .i64 0))⟩]) (.cond (.t 10) (.seq (.reg [⟨(some 4), none, .mov (.c (.int .i64 (-1)))⟩]) (.ret)) (.skip))) (.seq (.reg [⟨(some 11), none, .fld 2 (.t 2)⟩,
  ⟨(some 12), none, .load 1 false (.t 11)⟩,
  ⟨(some 13), none, .mov (.t 1)⟩,
  ⟨(some 14), none, .call (.c (.fn Fn.laws_szSentS [] [])) [.t 12, .t 13]⟩,
  ⟨(some 1), none, .mov (.t 14)⟩]) (.seq (.seq (.reg [⟨(some 15), none, .mov (.t 1)⟩,
  ⟨(some 16), none, .bin .lss (.num) (.t 15) (.c (.int .i64 0))⟩]) (.cond (.t 16) (.seq (.reg [⟨(some 4), none, .mov (.c (.int .i64 (-1)))⟩]) (.ret)) (.skip))) (.seq (.reg [⟨(some 17), none, .fld 3 (.t 2)⟩,
  ⟨(some 18), none, .load 1 false (.t 17)⟩,
  ⟨(some 19), none, .mov (.t 1)⟩,
  ⟨(some 20), none, .call (.c (.fn Fn.laws_szLinkS [] [])) [.t 18, .t 19]⟩,
  ⟨(some 1), none, .mov (.t 20)⟩]) (.seq (.seq (.reg [⟨(some 21), none, .mov (.t 1)⟩,
  ⟨(some 22), none, .bin .lss (.num) (.t 21) (.c (.int .i64 0))⟩]) (.cond (.t 22) (.seq (.reg [⟨(some 4), none, .mov (.c (.int .i64 (-1)))⟩]) (.ret)) (.skip))) (.seq (.reg [⟨(some 23), none, .fld 4 (.t 2)⟩,
  ⟨(some 24), none, .load 1 false (.t 23)⟩,
  ⟨(some 25), none, .mov (.t 1)⟩,
  ⟨(some 26), none, .call (.c (.fn Fn.laws_szOutgoingS [] [])) [.t 24, .t 25]⟩,
  ⟨(some 1), none, .mov (.t 26)⟩]) (.seq (.seq (.reg [⟨(some 27), none, .mov (.t 1)⟩,
  ⟨(some 28), none, .bin .lss (.num) (.t 27) (.c (.int .i64 0))⟩]) (.cond (.t 28) (.seq (.reg [⟨(some 4), none, .mov (.c (.int .i64 (-1)))⟩]) (.ret)) (.skip))) (.seq (.reg [⟨(some 29), none, .mov (.t 1)⟩,
  ⟨(some 4), none, .mov (.t 29)⟩]) (.ret))))))))))
def laws_szVat_r : List RS := [.t 4]
theorem laws_szVat_e {a0 a1 : AV} {h : AH} {K : AV → AH → Prop} (hw : TC Tryz.prog Θ Γ laws_szVat_c (retQ laws_szVat_r K) ⟨[a0, a1, u, u, u, u, u, u, u, u, u, u, u, u, u, u, u, u, u, u, u, u, u, u, u, u, u, u, u, u], [], h⟩) : T Tryz.prog Γ Fn.laws_szVat [a0, a1] h K :=
  T_of_body tabOK Tryz.func7 (code := bodyOf Tryz.f7) (by kernel_rfl) (by kernel_rfl) (by kernel_rfl) (by kernel_rfl) hw
def laws_szGiftS_c : C := .seq (.reg [⟨(some 4), none, .mov (.c (.int .i64 0))⟩]) (.seq (.reg [⟨(some 5), none, .mov (.t 1)⟩,
  ⟨(some 6), none, .mov (.t 0)⟩,
  ⟨(some 7), none, .len false (.t 6)⟩,
  ⟨(some 8), none, .bin .sub (.num) (.t 5) (.t 7)⟩,
  ⟨(some 1), none, .mov (.t 8)⟩]) (.seq (.seq (.reg [⟨(some 9), none, .mov (.t 1)⟩,
  ⟨(some 10), none, .bin .lss (.num) (.t 9) (.c (.int .i64 0))⟩]) (.cond (.t 10) (.seq (.reg [⟨(some 4), none, .mov (.c (.int .i64 (-1)))⟩]) (.ret)) (.skip))) (.seq (.reg [⟨(some 11), none, .mov (.t 1)⟩,
  ⟨(some 4), none, .mov (.t 11)⟩]) (.ret))))
def laws_szGiftS_r : List RS := [.t 4]
theorem laws_szGiftS_e {a0 a1 : AV} {h : AH} {K : AV → AH → Prop} (hw : TC Tryz.prog Θ Γ laws_szGiftS_c (retQ laws_szGiftS_r K) ⟨[a0, a1, u, u, u, u, u, u, u, u, u, u], [], h⟩) : T Tryz.prog Γ Fn.laws_szGiftS [a0, a1] h K :=
  T_of_body tabOK Tryz.func8 (code := bodyOf Tryz.f8) (by kernel_rfl) (by kernel_rfl) (by kernel_rfl) (by kernel_rfl) hw
def laws_toVat_c : C := .seq (.reg [⟨(some 1), none, .box (.t 0)⟩,
  ⟨(some 2), none, .alloc [.int .i64 0, .nils, .nils, .nils, .nils]⟩]) (.seq (.reg [⟨(some 3), none, .alloc [.int .i64 0, .nils, .nils, .nils, .nils]⟩]) (.seq (.reg [⟨(some 4), none, .fld 0 (.t 1)⟩,
  ⟨(some 5), none, .load 1 false (.t 4)⟩,
  ⟨(some 6), none, .fld 0 (.t 3)⟩,
  ⟨none, none, .store 1 (.t 6) (.t 5)⟩]) (.seq (.reg [⟨(some 7), none, .fld 1 (.t 1)⟩,
  ⟨(some 8), none, .load 1 false (.t 7)⟩,
  ⟨(some 9), none, .call (.c (.fn Fn.laws_toEntityS [] [])) [.t 8]⟩,
  ⟨(some 10), none, .fld 1 (.t 3)⟩,
  ⟨none, none, .store 1 (.t 10) (.t 9)⟩]) (.seq (.reg [⟨(some 11), none, .fld 2 (.t 1)⟩,
  ⟨(some 12), none, .load 1 false (.t 11)⟩,
  ⟨(some 13), none, .call (.c (.fn Fn.laws_toSentS [] [])) [.t 12]⟩,
  ⟨(some 14), none, .fld 2 (.t 3)⟩,
  ⟨none, none, .store 1 (.t 14) (.t 13)⟩]) (.seq (.reg [⟨(some 15), none, .fld 3 (.t 1)⟩,
  ⟨(some 16), none, .load 1 false (.t 15)⟩,
  ⟨(some 17), none, .call (.c (.fn Fn.laws_toLinkS [] [])) [.t 16]⟩,
  ⟨(some 18), none, .fld 3 (.t 3)⟩,
  ⟨none, none, .store 1 (.t 18) (.t 17)⟩]) (.seq (.reg [⟨(some 19), none, .fld 4 (.t 1)⟩,
  ⟨(some 20), none, .load 1 false (.t 19)⟩,
  ⟨(some 21), none, .call (.c (.fn Fn.laws_toOutgoingS [] [])) [.t 20]⟩,
  ⟨(some 22), none, .fld 4 (.t 3)⟩,
  ⟨none, none, .store 1 (.t 22) (.t 21)⟩]) (.seq (.reg [⟨(some 23), none, .load 5 true (.t 3)⟩,
  ⟨none, none, .store 5 (.t 2) (.t 23)⟩]) (.ret))))))))
def laws_toVat_r : List RS := [.cell 2 5 true]
theorem laws_toVat_e {a0 : AV} {h : AH} {K : AV → AH → Prop} (hw : TC Tryz.prog Θ Γ laws_toVat_c (retQ laws_toVat_r K) ⟨[a0, u, u, u, u, u, u, u, u, u, u, u, u, u, u, u, u, u, u, u, u, u, u, u], [], h⟩) : T Tryz.prog Γ Fn.laws_toVat [a0] h K :=
  T_of_body tabOK Tryz.func10 (code := bodyOf Tryz.f10) (by kernel_rfl) (by kernel_rfl) (by kernel_rfl) (by kernel_rfl) hw
def laws_toGiftS_c : C := .seq (.reg [⟨(some 2), none, .mov (.c (.nils))⟩]) (.seq (.reg [⟨(some 5), none, .mov (.t 0)⟩,
  ⟨(some 6), none, .len false (.t 5)⟩,
  ⟨(some 7), none, .mks 4 32 [.int .i64 0, .int .i64 0, .int .i64 0, .int .i64 0] (.t 6) (.t 6)⟩,
  ⟨(some 3), none, .mov (.t 7)⟩]) (.seq (.seq (.reg [⟨(some 4), none, .mov (.c (.int .i64 0))⟩]) (.block 0 (.loop (.seq (.seq (.reg [⟨(some 8), none, .mov (.t 4)⟩,
  ⟨(some 9), none, .mov (.t 0)⟩,
  ⟨(some 10), none, .len false (.t 9)⟩,
  ⟨(some 11), none, .bin .lss (.num) (.t 8) (.t 10)⟩]) (.cond (.t 11) (.skip) (.exit 0))) (.seq (.block 1 (.reg [⟨(some 14), none, .mov (.t 3)⟩,
  ⟨(some 15), none, .mov (.t 4)⟩,
  ⟨(some 16), none, .mov (.t 0)⟩,
  ⟨(some 17), none, .mov (.t 4)⟩,
  ⟨(some 18), none, .idxs 4 (.t 16) (.t 17)⟩,
  ⟨(some 19), none, .load 4 true (.t 18)⟩,
  ⟨(some 20), none, .call (.c (.fn Fn.laws_toGift [] [])) [.t 19]⟩,
  ⟨(some 21), none, .idxs 4 (.t 14) (.t 15)⟩,
  ⟨none, none, .store 4 (.t 21) (.t 20)⟩])) (.reg [⟨(some 12), none, .mov (.t 4)⟩,
  ⟨(some 13), none, .bin .add (.num) (.t 12) (.c (.int .i64 1))⟩,
  ⟨(some 4), none, .mov (.t 13)⟩])))))) (.seq (.reg [⟨(some 22), none, .mov (.t 3)⟩,
  ⟨(some 2), none, .mov (.t 22)⟩]) (.ret))))
def laws_toGiftS_r : List RS := [.t 2]
def laws_toGiftS_s0 (t0 t3 t4 : AV) (loc : List (List AV)) (h : AH) : St := ⟨[t0, .any, .any, t3, t4, .any, .any, .any, .any, .any, .any, .any, .any, .any, .any, .any, .any, .any, .any, .any, .any, .any, .any], loc, h⟩
theorem laws_toGiftS_e {a0 : AV} {h : AH} {K : AV → AH → Prop} (hw : TC Tryz.prog Θ Γ laws_toGiftS_c (retQ laws_toGiftS_r K) ⟨[a0, u, u, u, u, u, u, u, u, u, u, u, u, u, u, u, u, u, u, u, u, u, u], [], h⟩) : T Tryz.prog Γ Fn.laws_toGiftS [a0] h K :=
  T_of_body tabOK Tryz.func11 (code := bodyOf Tryz.f11) (by kernel_rfl) (by kernel_rfl) (by kernel_rfl) (by kernel_rfl) hw
def laws_eqGiftS_d0_os : List O := [⟨(some 17), none, .mov (.t 0)⟩,
  ⟨(some 18), none, .mov (.t 5)⟩,
  ⟨(some 19), none, .idxs 4 (.t 17) (.t 18)⟩,
  ⟨(some 20), none, .load 4 true (.t 19)⟩,
  ⟨(some 21), none, .mov (.t 1)⟩,
  ⟨(some 22), none, .mov (.t 5)⟩,
  ⟨(some 23), none, .idxs 4 (.t 21) (.t 22)⟩,
  ⟨(some 24), none, .load 4 true (.t 23)⟩,
  ⟨(some 25), none, .call (.c (.fn Fn.laws_eqGift [] [])) [.t 20, .t 24]⟩,
  ⟨(some 26), none, .un .not (.t 25)⟩]
def laws_eqGiftS_d0_af : List (List Nat) := [[], [], [0, 1], [2], [], [], [4, 5], [6], [3, 7], [8]]
theorem laws_eqGiftS_d0_q (gl : Gl) (Q : AE → St → Prop) (s : St) : aw Tryz.prog Θ Γ gl (.regD laws_eqGiftS_d0_os laws_eqGiftS_d0_af) Q s = awpT Tryz.prog Γ gl [⟨(some 17), none, .mov (.t 0)⟩,
  ⟨(some 18), none, .mov (.t 5)⟩,
  ⟨(some 19), none, .idxs 4 (.t 17) (.t 18)⟩,
  ⟨(some 20), none, .load 4 true (.t 19)⟩,
  ⟨(some 21), none, .mov (.t 1)⟩,
  ⟨(some 22), none, .mov (.t 5)⟩,
  ⟨(some 23), none, .idxs 4 (.t 21) (.t 22)⟩,
  ⟨(some 24), none, .load 4 true (.t 23)⟩,
  ⟨(some 25), none, .call (.c (.fn Fn.laws_eqGift [] [])) [.t 20, .t 24]⟩,
  ⟨(some 26), none, .un .not (.t 25)⟩] (Q .normal) 10 (.q 0 (.q 1 (.q 2 (.q 3 (.q 4 (.q 5 (.q 6 (.q 7 (.q 8 (.q 9 (.done))))))))))) s := a_dd rfl (by kernel_rfl) gl Q s
def laws_eqGiftS_c : C := .seq (.reg [⟨(some 4), none, .mov (.c (.bool false))⟩]) (.seq (.seq (.reg [⟨(some 6), none, .mov (.t 0)⟩,
  ⟨(some 7), none, .len false (.t 6)⟩,
  ⟨(some 8), none, .mov (.t 1)⟩,
  ⟨(some 9), none, .len false (.t 8)⟩,
  ⟨(some 10), none, .bin .neq (.num) (.t 7) (.t 9)⟩]) (.cond (.t 10) (.seq (.reg [⟨(some 4), none, .mov (.c (.bool false))⟩]) (.ret)) (.skip))) (.seq (.seq (.reg [⟨(some 5), none, .mov (.c (.int .i64 0))⟩]) (.block 0 (.loop (.seq (.seq (.reg [⟨(some 11), none, .mov (.t 5)⟩,
  ⟨(some 12), none, .mov (.t 0)⟩,
  ⟨(some 13), none, .len false (.t 12)⟩,
  ⟨(some 14), none, .bin .lss (.num) (.t 11) (.t 13)⟩]) (.cond (.t 14) (.skip) (.exit 0))) (.seq (.block 1 (.seq (.regD laws_eqGiftS_d0_os laws_eqGiftS_d0_af) (.cond (.t 26) (.seq (.reg [⟨(some 4), none, .mov (.c (.bool false))⟩]) (.ret)) (.skip)))) (.reg [⟨(some 15), none, .mov (.t 5)⟩,
  ⟨(some 16), none, .bin .add (.num) (.t 15) (.c (.int .i64 1))⟩,
  ⟨(some 5), none, .mov (.t 16)⟩])))))) (.seq (.reg [⟨(some 4), none, .mov (.c (.bool true))⟩]) (.ret))))
def laws_eqGiftS_r : List RS := [.t 4]
def laws_eqGiftS_s0 (t0 t1 t5 : AV) (loc : List (List AV)) (h : AH) : St := ⟨[t0, t1, .any, .any, .any, t5, .any, .any, .any, .any, .any, .any, .any, .any, .any, .any, .any, .any, .any, .any, .any, .any, .any, .any, .any, .any, .any], loc, h⟩
theorem laws_eqGiftS_e {a0 a1 : AV} {h : AH} {K : AV → AH → Prop} (hw : TC Tryz.prog Θ Γ laws_eqGiftS_c (retQ laws_eqGiftS_r K) ⟨[a0, a1, u, u, u, u, u, u, u, u, u, u, u, u, u, u, u, u, u, u, u, u, u, u, u, u, u], [], h⟩) : T Tryz.prog Γ Fn.laws_eqGiftS [a0, a1] h K :=
  T_of_body tabOK Tryz.func13 (code := bodyOf Tryz.f13) (by kernel_rfl) (by kernel_rfl) (by kernel_rfl) (by kernel_rfl) hw
def laws_eqVat_c : C := .seq (.reg [⟨(some 2), none, .box (.t 0)⟩,
  ⟨(some 3), none, .box (.t 1)⟩,
  ⟨(some 4), none, .mov (.c (.bool false))⟩]) (.seq (.seq (.reg [⟨(some 5), none, .fld 0 (.t 2)⟩,
  ⟨(some 6), none, .load 1 false (.t 5)⟩,
  ⟨(some 7), none, .fld 0 (.t 3)⟩,
  ⟨(some 8), none, .load 1 false (.t 7)⟩,
  ⟨(some 9), none, .bin .neq (.num) (.t 6) (.t 8)⟩]) (.cond (.t 9) (.seq (.reg [⟨(some 4), none, .mov (.c (.bool false))⟩]) (.ret)) (.skip))) (.seq (.seq (.reg [⟨(some 10), none, .fld 1 (.t 2)⟩,
  ⟨(some 11), none, .load 1 false (.t 10)⟩,
  ⟨(some 12), none, .fld 1 (.t 3)⟩,
  ⟨(some 13), none, .load 1 false (.t 12)⟩,
  ⟨(some 14), none, .call (.c (.fn Fn.laws_eqEntityS [] [])) [.t 11, .t 13]⟩,
  ⟨(some 15), none, .un .not (.t 14)⟩]) (.cond (.t 15) (.seq (.reg [⟨(some 4), none, .mov (.c (.bool false))⟩]) (.ret)) (.skip))) (.seq (.seq (.reg [⟨(some 16), none, .fld 2 (.t 2)⟩,
  ⟨(some 17), none, .load 1 false (.t 16)⟩,
  ⟨(some 18), none, .fld 2 (.t 3)⟩,
  ⟨(some 19), none, .load 1 false (.t 18)⟩,
  ⟨(some 20), none, .call (.c (.fn Fn.laws_eqSentS [] [])) [.t 17, .t 19]⟩,
  ⟨(some 21), none, .un .not (.t 20)⟩]) (.cond (.t 21) (.seq (.reg [⟨(some 4), none, .mov (.c (.bool false))⟩]) (.ret)) (.skip))) (.seq (.seq (.reg [⟨(some 22), none, .fld 3 (.t 2)⟩,
  ⟨(some 23), none, .load 1 false (.t 22)⟩,
  ⟨(some 24), none, .fld 3 (.t 3)⟩,
  ⟨(some 25), none, .load 1 false (.t 24)⟩,
  ⟨(some 26), none, .call (.c (.fn Fn.laws_eqLinkS [] [])) [.t 23, .t 25]⟩,
  ⟨(some 27), none, .un .not (.t 26)⟩]) (.cond (.t 27) (.seq (.reg [⟨(some 4), none, .mov (.c (.bool false))⟩]) (.ret)) (.skip))) (.seq (.seq (.reg [⟨(some 28), none, .fld 4 (.t 2)⟩,
  ⟨(some 29), none, .load 1 false (.t 28)⟩,
  ⟨(some 30), none, .fld 4 (.t 3)⟩,
  ⟨(some 31), none, .load 1 false (.t 30)⟩,
  ⟨(some 32), none, .call (.c (.fn Fn.laws_eqOutgoingS [] [])) [.t 29, .t 31]⟩,
  ⟨(some 33), none, .un .not (.t 32)⟩]) (.cond (.t 33) (.seq (.reg [⟨(some 4), none, .mov (.c (.bool false))⟩]) (.ret)) (.skip))) (.seq (.reg [⟨(some 4), none, .mov (.c (.bool true))⟩]) (.ret)))))))
def laws_eqVat_r : List RS := [.t 4]
theorem laws_eqVat_e {a0 a1 : AV} {h : AH} {K : AV → AH → Prop} (hw : TC Tryz.prog Θ Γ laws_eqVat_c (retQ laws_eqVat_r K) ⟨[a0, a1, u, u, u, u, u, u, u, u, u, u, u, u, u, u, u, u, u, u, u, u, u, u, u, u, u, u, u, u, u, u, u, u], [], h⟩) : T Tryz.prog Γ Fn.laws_eqVat [a0, a1] h K :=
  T_of_body tabOK Tryz.func14 (code := bodyOf Tryz.f14) (by kernel_rfl) (by kernel_rfl) (by kernel_rfl) (by kernel_rfl) hw
def laws_markVat_c : C := .seq (.reg [⟨(some 2), none, .box (.t 0)⟩,
  ⟨(some 4), none, .mov (.c (.int .i64 0))⟩]) (.seq (.reg [⟨(some 5), none, .fld 1 (.t 2)⟩,
  ⟨(some 6), none, .load 1 false (.t 5)⟩,
  ⟨(some 7), none, .mov (.t 1)⟩,
  ⟨(some 8), none, .call (.c (.fn Fn.laws_markEntityS [] [])) [.t 6, .t 7]⟩,
  ⟨(some 1), none, .mov (.t 8)⟩]) (.seq (.reg [⟨(some 9), none, .fld 2 (.t 2)⟩,
  ⟨(some 10), none, .load 1 false (.t 9)⟩,
  ⟨(some 11), none, .mov (.t 1)⟩,
  ⟨(some 12), none, .call (.c (.fn Fn.laws_markSentS [] [])) [.t 10, .t 11]⟩,
  ⟨(some 1), none, .mov (.t 12)⟩]) (.seq (.reg [⟨(some 13), none, .fld 3 (.t 2)⟩,
  ⟨(some 14), none, .load 1 false (.t 13)⟩,
  ⟨(some 15), none, .mov (.t 1)⟩,
  ⟨(some 16), none, .call (.c (.fn Fn.laws_markLinkS [] [])) [.t 14, .t 15]⟩,
  ⟨(some 1), none, .mov (.t 16)⟩]) (.seq (.reg [⟨(some 17), none, .fld 4 (.t 2)⟩,
  ⟨(some 18), none, .load 1 false (.t 17)⟩,
  ⟨(some 19), none, .mov (.t 1)⟩,
  ⟨(some 20), none, .call (.c (.fn Fn.laws_markOutgoingS [] [])) [.t 18, .t 19]⟩,
  ⟨(some 1), none, .mov (.t 20)⟩]) (.seq (.reg [⟨(some 21), none, .mov (.t 1)⟩,
  ⟨(some 4), none, .mov (.t 21)⟩]) (.ret))))))
def laws_markVat_r : List RS := [.t 4]
theorem laws_markVat_e {a0 a1 : AV} {h : AH} {K : AV → AH → Prop} (hw : TC Tryz.prog Θ Γ laws_markVat_c (retQ laws_markVat_r K) ⟨[a0, a1, u, u, u, u, u, u, u, u, u, u, u, u, u, u, u, u, u, u, u, u], [], h⟩) : T Tryz.prog Γ Fn.laws_markVat [a0, a1] h K :=
  T_of_body tabOK Tryz.func15 (code := bodyOf Tryz.f15) (by kernel_rfl) (by kernel_rfl) (by kernel_rfl) (by kernel_rfl) hw
def laws_markGiftS_c : C := .seq (.reg [⟨(some 4), none, .mov (.c (.int .i64 0))⟩]) (.seq (.seq (.reg [⟨(some 5), none, .mov (.c (.int .i64 0))⟩]) (.block 0 (.loop (.seq (.seq (.reg [⟨(some 6), none, .mov (.t 5)⟩,
  ⟨(some 7), none, .mov (.t 0)⟩,
  ⟨(some 8), none, .len false (.t 7)⟩,
  ⟨(some 9), none, .bin .lss (.num) (.t 6) (.t 8)⟩]) (.cond (.t 9) (.skip) (.exit 0))) (.seq (.block 1 (.seq (.reg [⟨(some 12), none, .mov (.t 0)⟩,
  ⟨(some 13), none, .mov (.t 5)⟩,
  ⟨(some 14), none, .mov (.t 1)⟩,
  ⟨(some 15), none, .idxs 4 (.t 12) (.t 13)⟩,
  ⟨(some 16), none, .fld 0 (.t 15)⟩,
  ⟨none, none, .store 1 (.t 16) (.t 14)⟩]) (.seq (.reg [⟨(some 17), none, .mov (.t 1)⟩,
  ⟨(some 18), none, .bin .add (.num) (.t 17) (.c (.int .i64 1))⟩,
  ⟨(some 1), none, .mov (.t 18)⟩]) (.seq (.reg [⟨(some 19), none, .mov (.t 0)⟩,
  ⟨(some 20), none, .mov (.t 5)⟩,
  ⟨(some 21), none, .mov (.t 1)⟩,
  ⟨(some 22), none, .idxs 4 (.t 19) (.t 20)⟩,
  ⟨(some 23), none, .fld 1 (.t 22)⟩,
  ⟨none, none, .store 1 (.t 23) (.t 21)⟩]) (.seq (.reg [⟨(some 24), none, .mov (.t 1)⟩,
  ⟨(some 25), none, .bin .add (.num) (.t 24) (.c (.int .i64 1))⟩,
  ⟨(some 1), none, .mov (.t 25)⟩]) (.seq (.reg [⟨(some 26), none, .mov (.t 0)⟩,
  ⟨(some 27), none, .mov (.t 5)⟩,
  ⟨(some 28), none, .mov (.t 1)⟩,
  ⟨(some 29), none, .idxs 4 (.t 26) (.t 27)⟩,
  ⟨(some 30), none, .fld 2 (.t 29)⟩,
  ⟨none, none, .store 1 (.t 30) (.t 28)⟩]) (.seq (.reg [⟨(some 31), none, .mov (.t 1)⟩,
  ⟨(some 32), none, .bin .add (.num) (.t 31) (.c (.int .i64 1))⟩,
  ⟨(some 1), none, .mov (.t 32)⟩]) (.seq (.reg [⟨(some 33), none, .mov (.t 0)⟩,
  ⟨(some 34), none, .mov (.t 5)⟩,
  ⟨(some 35), none, .mov (.t 1)⟩,
  ⟨(some 36), none, .idxs 4 (.t 33) (.t 34)⟩,
  ⟨(some 37), none, .fld 3 (.t 36)⟩,
  ⟨none, none, .store 1 (.t 37) (.t 35)⟩]) (.reg [⟨(some 38), none, .mov (.t 1)⟩,
  ⟨(some 39), none, .bin .add (.num) (.t 38) (.c (.int .i64 1))⟩,
  ⟨(some 1), none, .mov (.t 39)⟩]))))))))) (.reg [⟨(some 10), none, .mov (.t 5)⟩,
  ⟨(some 11), none, .bin .add (.num) (.t 10) (.c (.int .i64 1))⟩,
  ⟨(some 5), none, .mov (.t 11)⟩])))))) (.seq (.reg [⟨(some 40), none, .mov (.t 1)⟩,
  ⟨(some 4), none, .mov (.t 40)⟩]) (.ret)))
def laws_markGiftS_r : List RS := [.t 4]
def laws_markGiftS_s0 (t0 t1 t5 : AV) (loc : List (List AV)) (h : AH) : St := ⟨[t0, t1, .any, .any, .any, t5, .any, .any, .any, .any, .any, .any, .any, .any, .any, .any, .any, .any, .any, .any, .any, .any, .any, .any, .any, .any, .any, .any, .any, .any, .any, .any, .any, .any, .any, .any, .any, .any, .any, .any, .any], loc, h⟩
theorem laws_markGiftS_e {a0 a1 : AV} {h : AH} {K : AV → AH → Prop} (hw : TC Tryz.prog Θ Γ laws_markGiftS_c (retQ laws_markGiftS_r K) ⟨[a0, a1, u, u, u, u, u, u, u, u, u, u, u, u, u, u, u, u, u, u, u, u, u, u, u, u, u, u, u, u, u, u, u, u, u, u, u, u, u, u, u], [], h⟩) : T Tryz.prog Γ Fn.laws_markGiftS [a0, a1] h K :=
  T_of_body tabOK Tryz.func16 (code := bodyOf Tryz.f16) (by kernel_rfl) (by kernel_rfl) (by kernel_rfl) (by kernel_rfl) hw
def laws_heldGiftS_c : C := .seq (.reg [⟨(some 4), none, .mov (.c (.int .i64 0))⟩]) (.seq (.seq (.reg [⟨(some 5), none, .mov (.c (.int .i64 0))⟩]) (.block 0 (.loop (.seq (.seq (.reg [⟨(some 6), none, .mov (.t 5)⟩,
  ⟨(some 7), none, .mov (.t 0)⟩,
  ⟨(some 8), none, .len false (.t 7)⟩,
  ⟨(some 9), none, .bin .lss (.num) (.t 6) (.t 8)⟩]) (.cond (.t 9) (.skip) (.exit 0))) (.seq (.block 1 (.seq (.seq (.reg [⟨(some 12), none, .mov (.t 0)⟩,
  ⟨(some 13), none, .mov (.t 5)⟩,
  ⟨(some 14), none, .idxs 4 (.t 12) (.t 13)⟩,
  ⟨(some 15), none, .fld 0 (.t 14)⟩,
  ⟨(some 16), none, .load 1 false (.t 15)⟩,
  ⟨(some 17), none, .mov (.t 1)⟩,
  ⟨(some 18), none, .bin .neq (.num) (.t 16) (.t 17)⟩]) (.cond (.t 18) (.seq (.reg [⟨(some 4), none, .mov (.c (.int .i64 (-1)))⟩]) (.ret)) (.skip))) (.seq (.reg [⟨(some 19), none, .mov (.t 1)⟩,
  ⟨(some 20), none, .bin .add (.num) (.t 19) (.c (.int .i64 1))⟩,
  ⟨(some 1), none, .mov (.t 20)⟩]) (.seq (.seq (.reg [⟨(some 21), none, .mov (.t 0)⟩,
  ⟨(some 22), none, .mov (.t 5)⟩,
  ⟨(some 23), none, .idxs 4 (.t 21) (.t 22)⟩,
  ⟨(some 24), none, .fld 1 (.t 23)⟩,
  ⟨(some 25), none, .load 1 false (.t 24)⟩,
  ⟨(some 26), none, .mov (.t 1)⟩,
  ⟨(some 27), none, .bin .neq (.num) (.t 25) (.t 26)⟩]) (.cond (.t 27) (.seq (.reg [⟨(some 4), none, .mov (.c (.int .i64 (-1)))⟩]) (.ret)) (.skip))) (.seq (.reg [⟨(some 28), none, .mov (.t 1)⟩,
  ⟨(some 29), none, .bin .add (.num) (.t 28) (.c (.int .i64 1))⟩,
  ⟨(some 1), none, .mov (.t 29)⟩]) (.seq (.seq (.reg [⟨(some 30), none, .mov (.t 0)⟩,
  ⟨(some 31), none, .mov (.t 5)⟩,
  ⟨(some 32), none, .idxs 4 (.t 30) (.t 31)⟩,
  ⟨(some 33), none, .fld 2 (.t 32)⟩,
  ⟨(some 34), none, .load 1 false (.t 33)⟩,
  ⟨(some 35), none, .mov (.t 1)⟩,
  ⟨(some 36), none, .bin .neq (.num) (.t 34) (.t 35)⟩]) (.cond (.t 36) (.seq (.reg [⟨(some 4), none, .mov (.c (.int .i64 (-1)))⟩]) (.ret)) (.skip))) (.seq (.reg [⟨(some 37), none, .mov (.t 1)⟩,
  ⟨(some 38), none, .bin .add (.num) (.t 37) (.c (.int .i64 1))⟩,
  ⟨(some 1), none, .mov (.t 38)⟩]) (.seq (.seq (.reg [⟨(some 39), none, .mov (.t 0)⟩,
  ⟨(some 40), none, .mov (.t 5)⟩,
  ⟨(some 41), none, .idxs 4 (.t 39) (.t 40)⟩,
  ⟨(some 42), none, .fld 3 (.t 41)⟩,
  ⟨(some 43), none, .load 1 false (.t 42)⟩,
  ⟨(some 44), none, .mov (.t 1)⟩,
  ⟨(some 45), none, .bin .neq (.num) (.t 43) (.t 44)⟩]) (.cond (.t 45) (.seq (.reg [⟨(some 4), none, .mov (.c (.int .i64 (-1)))⟩]) (.ret)) (.skip))) (.reg [⟨(some 46), none, .mov (.t 1)⟩,
  ⟨(some 47), none, .bin .add (.num) (.t 46) (.c (.int .i64 1))⟩,
  ⟨(some 1), none, .mov (.t 47)⟩]))))))))) (.reg [⟨(some 10), none, .mov (.t 5)⟩,
  ⟨(some 11), none, .bin .add (.num) (.t 10) (.c (.int .i64 1))⟩,
  ⟨(some 5), none, .mov (.t 11)⟩])))))) (.seq (.reg [⟨(some 48), none, .mov (.t 1)⟩,
  ⟨(some 4), none, .mov (.t 48)⟩]) (.ret)))
def laws_heldGiftS_r : List RS := [.t 4]
def laws_heldGiftS_s0 (t0 t1 t5 : AV) (loc : List (List AV)) (h : AH) : St := ⟨[t0, t1, .any, .any, .any, t5, .any, .any, .any, .any, .any, .any, .any, .any, .any, .any, .any, .any, .any, .any, .any, .any, .any, .any, .any, .any, .any, .any, .any, .any, .any, .any, .any, .any, .any, .any, .any, .any, .any, .any, .any, .any, .any, .any, .any, .any, .any, .any, .any], loc, h⟩
theorem laws_heldGiftS_e {a0 a1 : AV} {h : AH} {K : AV → AH → Prop} (hw : TC Tryz.prog Θ Γ laws_heldGiftS_c (retQ laws_heldGiftS_r K) ⟨[a0, a1, u, u, u, u, u, u, u, u, u, u, u, u, u, u, u, u, u, u, u, u, u, u, u, u, u, u, u, u, u, u, u, u, u, u, u, u, u, u, u, u, u, u, u, u, u, u, u], [], h⟩) : T Tryz.prog Γ Fn.laws_heldGiftS [a0, a1] h K :=
  T_of_body tabOK Tryz.func17 (code := bodyOf Tryz.f17) (by kernel_rfl) (by kernel_rfl) (by kernel_rfl) (by kernel_rfl) hw
def laws_heldVat_c : C := .seq (.reg [⟨(some 2), none, .box (.t 0)⟩,
  ⟨(some 4), none, .mov (.c (.int .i64 0))⟩]) (.seq (.reg [⟨(some 5), none, .fld 1 (.t 2)⟩,
  ⟨(some 6), none, .load 1 false (.t 5)⟩,
  ⟨(some 7), none, .mov (.t 1)⟩,
  ⟨(some 8), none, .call (.c (.fn Fn.laws_heldEntityS [] [])) [.t 6, .t 7]⟩,
  ⟨(some 1), none, .mov (.t 8)⟩]) (.seq (.seq (.reg [⟨(some 9), none, .mov (.t 1)⟩,
  ⟨(some 10), none, .bin .lss (.num) (.t 9) (.c (.int .i64 0))⟩]) (.cond (.t 10) (.seq (.reg [⟨(some 4), none, .mov (.c (.int .i64 (-1)))⟩]) (.ret)) (.skip))) (.seq (.reg [⟨(some 11), none, .fld 2 (.t 2)⟩,
  ⟨(some 12), none, .load 1 false (.t 11)⟩,
  ⟨(some 13), none, .mov (.t 1)⟩,
  ⟨(some 14), none, .call (.c (.fn Fn.laws_heldSentS [] [])) [.t 12, .t 13]⟩,
  ⟨(some 1), none, .mov (.t 14)⟩]) (.seq (.seq (.reg [⟨(some 15), none, .mov (.t 1)⟩,
  ⟨(some 16), none, .bin .lss (.num) (.t 15) (.c (.int .i64 0))⟩]) (.cond (.t 16) (.seq (.reg [⟨(some 4), none, .mov (.c (.int .i64 (-1)))⟩]) (.ret)) (.skip))) (.seq (.reg [⟨(some 17), none, .fld 3 (.t 2)⟩,
  ⟨(some 18), none, .load 1 false (.t 17)⟩,
  ⟨(some 19), none, .mov (.t 1)⟩,
  ⟨(some 20), none, .call (.c (.fn Fn.laws_heldLinkS [] [])) [.t 18, .t 19]⟩,
  ⟨(some 1), none, .mov (.t 20)⟩]) (.seq (.seq (.reg [⟨(some 21), none, .mov (.t 1)⟩,
  ⟨(some 22), none, .bin .lss (.num) (.t 21) (.c (.int .i64 0))⟩]) (.cond (.t 22) (.seq (.reg [⟨(some 4), none, .mov (.c (.int .i64 (-1)))⟩]) (.ret)) (.skip))) (.seq (.reg [⟨(some 23), none, .fld 4 (.t 2)⟩,
  ⟨(some 24), none, .load 1 false (.t 23)⟩,
  ⟨(some 25), none, .mov (.t 1)⟩,
  ⟨(some 26), none, .call (.c (.fn Fn.laws_heldOutgoingS [] [])) [.t 24, .t 25]⟩,
  ⟨(some 1), none, .mov (.t 26)⟩]) (.seq (.seq (.reg [⟨(some 27), none, .mov (.t 1)⟩,
  ⟨(some 28), none, .bin .lss (.num) (.t 27) (.c (.int .i64 0))⟩]) (.cond (.t 28) (.seq (.reg [⟨(some 4), none, .mov (.c (.int .i64 (-1)))⟩]) (.ret)) (.skip))) (.seq (.reg [⟨(some 29), none, .mov (.t 1)⟩,
  ⟨(some 4), none, .mov (.t 29)⟩]) (.ret))))))))))
def laws_heldVat_r : List RS := [.t 4]
theorem laws_heldVat_e {a0 a1 : AV} {h : AH} {K : AV → AH → Prop} (hw : TC Tryz.prog Θ Γ laws_heldVat_c (retQ laws_heldVat_r K) ⟨[a0, a1, u, u, u, u, u, u, u, u, u, u, u, u, u, u, u, u, u, u, u, u, u, u, u, u, u, u, u, u], [], h⟩) : T Tryz.prog Γ Fn.laws_heldVat [a0, a1] h K :=
  T_of_body tabOK Tryz.func20 (code := bodyOf Tryz.f20) (by kernel_rfl) (by kernel_rfl) (by kernel_rfl) (by kernel_rfl) hw
def spec_AcceptGift_d0_os : List O := [⟨(some 26), none, .load 5 true (.t 13)⟩,
  ⟨(some 27), none, .mov (.t 1)⟩,
  ⟨(some 28), none, .call (.c (.fn Fn.spec_l31Copy [] [])) [.t 27]⟩,
  ⟨none, none, .store 5 (.t 10) (.t 26)⟩,
  ⟨(some 11), none, .mov (.t 28)⟩,
  ⟨(some 12), none, .mov (.c (.int .i64 (-1)))⟩]
def spec_AcceptGift_d0_af : List (List Nat) := [[], [], [1], [0, 2, 0], [2, 3, 0, 1, 2, 3], [4, 0, 1, 2, 3, 4]]
theorem spec_AcceptGift_d0_q (gl : Gl) (Q : AE → St → Prop) (s : St) : aw Tryz.prog Θ Γ gl (.regD spec_AcceptGift_d0_os spec_AcceptGift_d0_af) Q s = awpT Tryz.prog Γ gl [⟨(some 26), none, .load 5 true (.t 13)⟩,
  ⟨(some 27), none, .mov (.t 1)⟩,
  ⟨(some 28), none, .call (.c (.fn Fn.spec_l31Copy [] [])) [.t 27]⟩,
  ⟨none, none, .store 5 (.t 10) (.t 26)⟩,
  ⟨(some 11), none, .mov (.t 28)⟩,
  ⟨(some 12), none, .mov (.c (.int .i64 (-1)))⟩] (Q .normal) 6 (.q 0 (.q 1 (.all [(2, .q 3 (.q 4 (.q 5 (.done))))]))) s := a_dd rfl (by kernel_rfl) gl Q s
def spec_AcceptGift_d1_os : List O := [⟨(some 40), none, .load 5 true (.t 13)⟩,
  ⟨(some 41), none, .mov (.t 1)⟩,
  ⟨(some 42), none, .call (.c (.fn Fn.spec_l31Copy [] [])) [.t 41]⟩,
  ⟨none, none, .store 5 (.t 10) (.t 40)⟩,
  ⟨(some 11), none, .mov (.t 42)⟩,
  ⟨(some 12), none, .mov (.c (.int .i64 (-1)))⟩]
def spec_AcceptGift_d1_af : List (List Nat) := [[], [], [1], [0, 2, 0], [2, 3, 0, 1, 2, 3], [4, 0, 1, 2, 3, 4]]
theorem spec_AcceptGift_d1_q (gl : Gl) (Q : AE → St → Prop) (s : St) : aw Tryz.prog Θ Γ gl (.regD spec_AcceptGift_d1_os spec_AcceptGift_d1_af) Q s = awpT Tryz.prog Γ gl [⟨(some 40), none, .load 5 true (.t 13)⟩,
  ⟨(some 41), none, .mov (.t 1)⟩,
  ⟨(some 42), none, .call (.c (.fn Fn.spec_l31Copy [] [])) [.t 41]⟩,
  ⟨none, none, .store 5 (.t 10) (.t 40)⟩,
  ⟨(some 11), none, .mov (.t 42)⟩,
  ⟨(some 12), none, .mov (.c (.int .i64 (-1)))⟩] (Q .normal) 6 (.q 0 (.q 1 (.all [(2, .q 3 (.q 4 (.q 5 (.done))))]))) s := a_dd rfl (by kernel_rfl) gl Q s
def spec_AcceptGift_c : C := .seq (.reg [⟨(some 5), none, .box (.t 0)⟩,
  ⟨(some 10), none, .alloc [.int .i64 0, .nils, .nils, .nils, .nils]⟩,
  ⟨(some 11), none, .mov (.c (.nils))⟩,
  ⟨(some 12), none, .mov (.c (.int .i64 0))⟩]) (.seq (.reg [⟨(some 20), none, .load 5 true (.t 5)⟩,
  ⟨(some 21), none, .call (.c (.fn Fn.spec_l12Copy [] [])) [.t 20]⟩,
  ⟨(some 13), none, .alloc [.int .i64 0, .nils, .nils, .nils, .nils]⟩,
  ⟨none, none, .store 5 (.t 13) (.t 21)⟩]) (.seq (.seq (.reg [⟨(some 22), none, .load 5 true (.t 5)⟩,
  ⟨(some 23), none, .mov (.t 2)⟩,
  ⟨(some 24), none, .call (.c (.fn Fn.spec_IsUp [] [])) [.t 22, .t 23]⟩,
  ⟨(some 25), none, .un .not (.t 24)⟩]) (.cond (.t 25) (.seq (.regD spec_AcceptGift_d0_os spec_AcceptGift_d0_af) (.ret)) (.skip))) (.seq (.reg [⟨(some 30), none, .mov (.t 1)⟩,
  ⟨(some 31), none, .mov (.t 2)⟩,
  ⟨(some 32), none, .mov (.t 3)⟩,
  ⟨(some 33), none, .mov (.t 4)⟩,
  ⟨(some 34), none, .call (.c (.fn Fn.spec_ClaimGift [] [])) [.t 30, .t 31, .t 32, .t 33]⟩,
  ⟨(some 29), none, .mov (.t 34)⟩,
  ⟨(some 35), none, .extr (.t 29) 0⟩,
  ⟨(some 36), none, .extr (.t 29) 1⟩,
  ⟨(some 37), none, .extr (.t 29) 2⟩,
  ⟨(some 14), none, .mov (.t 35)⟩,
  ⟨(some 15), none, .mov (.t 36)⟩,
  ⟨(some 16), none, .mov (.t 37)⟩]) (.seq (.seq (.reg [⟨(some 38), none, .mov (.t 16)⟩,
  ⟨(some 39), none, .un .not (.t 38)⟩]) (.cond (.t 39) (.seq (.regD spec_AcceptGift_d1_os spec_AcceptGift_d1_af) (.ret)) (.skip))) (.seq (.reg [⟨(some 43), none, .load 5 true (.t 5)⟩,
  ⟨(some 44), none, .mov (.t 2)⟩,
  ⟨(some 45), none, .call (.c (.fn Fn.spec_LinkTo [] [])) [.t 43, .t 44]⟩,
  ⟨(some 17), none, .mov (.t 45)⟩]) (.seq (.reg [⟨(some 47), none, .fld 3 (.t 5)⟩,
  ⟨(some 48), none, .load 1 false (.t 47)⟩,
  ⟨(some 49), none, .mov (.t 17)⟩,
  ⟨(some 50), none, .idxs 7 (.t 48) (.t 49)⟩,
  ⟨(some 51), none, .load 7 true (.t 50)⟩,
  ⟨(some 52), none, .mov (.t 15)⟩,
  ⟨(some 53), none, .call (.c (.fn Fn.spec_PutExport [] [])) [.t 51, .t 52]⟩,
  ⟨(some 46), none, .mov (.t 53)⟩,
  ⟨(some 54), none, .extr (.t 46) 0⟩,
  ⟨(some 55), none, .extr (.t 46) 1⟩,
  ⟨(some 18), none, .alloc [.int .i64 0, .bool false, .nils, .int .i64 0, .nils, .int .i64 0, .nils]⟩,
  ⟨none, none, .store 7 (.t 18) (.t 54)⟩,
  ⟨(some 19), none, .mov (.t 55)⟩]) (.seq (.reg [⟨(some 56), none, .fld 3 (.t 13)⟩,
  ⟨(some 57), none, .load 1 false (.t 56)⟩,
  ⟨(some 58), none, .mov (.t 17)⟩,
  ⟨(some 59), none, .load 7 true (.t 18)⟩,
  ⟨(some 60), none, .idxs 7 (.t 57) (.t 58)⟩,
  ⟨none, none, .store 7 (.t 60) (.t 59)⟩]) (.seq (.reg [⟨(some 61), none, .load 5 true (.t 13)⟩,
  ⟨(some 62), none, .mov (.t 14)⟩,
  ⟨(some 63), none, .mov (.t 19)⟩,
  ⟨none, none, .store 5 (.t 10) (.t 61)⟩,
  ⟨(some 11), none, .mov (.t 62)⟩,
  ⟨(some 12), none, .mov (.t 63)⟩]) (.ret)))))))))
def spec_AcceptGift_r : List RS := [.cell 10 5 true, .t 11, .t 12]
theorem spec_AcceptGift_e {a0 a1 a2 a3 a4 : AV} {h : AH} {K : AV → AH → Prop} (hw : TC Tryz.prog Θ Γ spec_AcceptGift_c (retQ spec_AcceptGift_r K) ⟨[a0, a1, a2, a3, a4, u, u, u, u, u, u, u, u, u, u, u, u, u, u, u, u, u, u, u, u, u, u, u, u, u, u, u, u, u, u, u, u, u, u, u, u, u, u, u, u, u, u, u, u, u, u, u, u, u, u, u, u, u, u, u, u, u, u, u], [], h⟩) : T Tryz.prog Γ Fn.spec_AcceptGift [a0, a1, a2, a3, a4] h K :=
  T_of_body tabOK Tryz.func21 (code := bodyOf Tryz.f21) (by kernel_rfl) (by kernel_rfl) (by kernel_rfl) (by kernel_rfl) hw
def impl_AcceptGift_d0_os : List O := [⟨(some 25), none, .load 5 true (.t 13)⟩,
  ⟨(some 26), none, .mov (.t 1)⟩,
  ⟨(some 27), none, .call (.c (.fn Fn.slices_Clone_iimpl_Gift_impl_Gift [] [])) [.t 26]⟩,
  ⟨none, none, .store 5 (.t 10) (.t 25)⟩,
  ⟨(some 11), none, .mov (.t 27)⟩,
  ⟨(some 12), none, .mov (.c (.int .i64 (-1)))⟩]
def impl_AcceptGift_d0_af : List (List Nat) := [[], [], [1], [0, 2, 0], [2, 3, 0, 1, 2, 3], [4, 0, 1, 2, 3, 4]]
theorem impl_AcceptGift_d0_q (gl : Gl) (Q : AE → St → Prop) (s : St) : aw Tryz.prog Θ Γ gl (.regD impl_AcceptGift_d0_os impl_AcceptGift_d0_af) Q s = awpT Tryz.prog Γ gl [⟨(some 25), none, .load 5 true (.t 13)⟩,
  ⟨(some 26), none, .mov (.t 1)⟩,
  ⟨(some 27), none, .call (.c (.fn Fn.slices_Clone_iimpl_Gift_impl_Gift [] [])) [.t 26]⟩,
  ⟨none, none, .store 5 (.t 10) (.t 25)⟩,
  ⟨(some 11), none, .mov (.t 27)⟩,
  ⟨(some 12), none, .mov (.c (.int .i64 (-1)))⟩] (Q .normal) 6 (.q 0 (.q 1 (.all [(2, .q 3 (.q 4 (.q 5 (.done))))]))) s := a_dd rfl (by kernel_rfl) gl Q s
def impl_AcceptGift_c : C := .seq (.reg [⟨(some 5), none, .box (.t 0)⟩,
  ⟨(some 10), none, .alloc [.int .i64 0, .nils, .nils, .nils, .nils]⟩,
  ⟨(some 11), none, .mov (.c (.nils))⟩,
  ⟨(some 12), none, .mov (.c (.int .i64 0))⟩]) (.seq (.reg [⟨(some 19), none, .load 5 true (.t 5)⟩,
  ⟨(some 20), none, .call (.c (.fn Fn.impl_Vat_copied [] [])) [.t 19]⟩,
  ⟨(some 13), none, .alloc [.int .i64 0, .nils, .nils, .nils, .nils]⟩,
  ⟨none, none, .store 5 (.t 13) (.t 20)⟩]) (.seq (.reg [⟨(some 21), none, .mov (.t 2)⟩,
  ⟨(some 22), none, .call (.c (.fn Fn.impl_Vat_link [] [])) [.t 13, .t 21]⟩,
  ⟨(some 14), none, .mov (.t 22)⟩]) (.seq (.seq (.reg [⟨(some 23), none, .mov (.t 14)⟩,
  ⟨(some 24), none, .bin .eql (.nilp) (.t 23) (.c (.nilp))⟩]) (.cond (.t 24) (.seq (.regD impl_AcceptGift_d0_os impl_AcceptGift_d0_af) (.ret)) (.skip))) (.seq (.reg [⟨(some 29), none, .mov (.t 1)⟩,
  ⟨(some 30), none, .mov (.t 2)⟩,
  ⟨(some 31), none, .mov (.t 3)⟩,
  ⟨(some 32), none, .mov (.t 4)⟩,
  ⟨(some 33), none, .call (.c (.fn Fn.impl_ClaimGift [] [])) [.t 29, .t 30, .t 31, .t 32]⟩,
  ⟨(some 28), none, .mov (.t 33)⟩,
  ⟨(some 34), none, .extr (.t 28) 0⟩,
  ⟨(some 35), none, .extr (.t 28) 1⟩,
  ⟨(some 36), none, .extr (.t 28) 2⟩,
  ⟨(some 15), none, .mov (.t 34)⟩,
  ⟨(some 16), none, .mov (.t 35)⟩,
  ⟨(some 17), none, .mov (.t 36)⟩]) (.seq (.seq (.reg [⟨(some 37), none, .mov (.t 17)⟩,
  ⟨(some 38), none, .un .not (.t 37)⟩]) (.cond (.t 38) (.seq (.reg [⟨(some 39), none, .load 5 true (.t 13)⟩,
  ⟨(some 40), none, .mov (.t 15)⟩,
  ⟨none, none, .store 5 (.t 10) (.t 39)⟩,
  ⟨(some 11), none, .mov (.t 40)⟩,
  ⟨(some 12), none, .mov (.c (.int .i64 (-1)))⟩]) (.ret)) (.skip))) (.seq (.reg [⟨(some 41), none, .mov (.t 14)⟩,
  ⟨(some 42), none, .mov (.t 16)⟩,
  ⟨(some 43), none, .call (.c (.fn Fn.impl_Link_put [] [])) [.t 41, .t 42]⟩,
  ⟨(some 18), none, .mov (.t 43)⟩]) (.seq (.reg [⟨(some 44), none, .load 5 true (.t 13)⟩,
  ⟨(some 45), none, .mov (.t 15)⟩,
  ⟨(some 46), none, .mov (.t 18)⟩,
  ⟨none, none, .store 5 (.t 10) (.t 44)⟩,
  ⟨(some 11), none, .mov (.t 45)⟩,
  ⟨(some 12), none, .mov (.t 46)⟩]) (.ret))))))))
def impl_AcceptGift_r : List RS := [.cell 10 5 true, .t 11, .t 12]
theorem impl_AcceptGift_e {a0 a1 a2 a3 a4 : AV} {h : AH} {K : AV → AH → Prop} (hw : TC Tryz.prog Θ Γ impl_AcceptGift_c (retQ impl_AcceptGift_r K) ⟨[a0, a1, a2, a3, a4, u, u, u, u, u, u, u, u, u, u, u, u, u, u, u, u, u, u, u, u, u, u, u, u, u, u, u, u, u, u, u, u, u, u, u, u, u, u, u, u, u, u], [], h⟩) : T Tryz.prog Γ Fn.impl_AcceptGift [a0, a1, a2, a3, a4] h K :=
  T_of_body tabOK Tryz.func22 (code := bodyOf Tryz.f22) (by kernel_rfl) (by kernel_rfl) (by kernel_rfl) (by kernel_rfl) hw
def laws_szMessage_c : C := .seq (.reg [⟨(some 2), none, .box (.t 0)⟩,
  ⟨(some 4), none, .mov (.c (.int .i64 0))⟩]) (.seq (.reg [⟨(some 5), none, .mov (.t 1)⟩,
  ⟨(some 6), none, .fld 4 (.t 2)⟩,
  ⟨(some 7), none, .load 1 false (.t 6)⟩,
  ⟨(some 8), none, .len true (.t 7)⟩,
  ⟨(some 9), none, .bin .sub (.num) (.t 5) (.t 8)⟩,
  ⟨(some 1), none, .mov (.t 9)⟩]) (.seq (.seq (.reg [⟨(some 10), none, .mov (.t 1)⟩,
  ⟨(some 11), none, .bin .lss (.num) (.t 10) (.c (.int .i64 0))⟩]) (.cond (.t 11) (.seq (.reg [⟨(some 4), none, .mov (.c (.int .i64 (-1)))⟩]) (.ret)) (.skip))) (.seq (.reg [⟨(some 12), none, .fld 5 (.t 2)⟩,
  ⟨(some 13), none, .load 1 false (.t 12)⟩,
  ⟨(some 14), none, .mov (.t 1)⟩,
  ⟨(some 15), none, .call (.c (.fn Fn.laws_szWireS [] [])) [.t 13, .t 14]⟩,
  ⟨(some 1), none, .mov (.t 15)⟩]) (.seq (.seq (.reg [⟨(some 16), none, .mov (.t 1)⟩,
  ⟨(some 17), none, .bin .lss (.num) (.t 16) (.c (.int .i64 0))⟩]) (.cond (.t 17) (.seq (.reg [⟨(some 4), none, .mov (.c (.int .i64 (-1)))⟩]) (.ret)) (.skip))) (.seq (.reg [⟨(some 18), none, .mov (.t 1)⟩,
  ⟨(some 4), none, .mov (.t 18)⟩]) (.ret))))))
def laws_szMessage_r : List RS := [.t 4]
theorem laws_szMessage_e {a0 a1 : AV} {h : AH} {K : AV → AH → Prop} (hw : TC Tryz.prog Θ Γ laws_szMessage_c (retQ laws_szMessage_r K) ⟨[a0, a1, u, u, u, u, u, u, u, u, u, u, u, u, u, u, u, u, u], [], h⟩) : T Tryz.prog Γ Fn.laws_szMessage [a0, a1] h K :=
  T_of_body tabOK Tryz.func24 (code := bodyOf Tryz.f24) (by kernel_rfl) (by kernel_rfl) (by kernel_rfl) (by kernel_rfl) hw
def laws_toMessage_c : C := .seq (.reg [⟨(some 1), none, .box (.t 0)⟩,
  ⟨(some 2), none, .alloc [.int .i64 0, .int .i64 0, .int .i64 0, .int .i64 0, .str ⟨#[]⟩, .nils, .int .i64 0, .int .i64 0, .int .i64 0, .int .i64 0, .int .i64 0, .int .i64 0]⟩]) (.seq (.reg [⟨(some 3), none, .alloc [.int .i64 0, .int .i64 0, .int .i64 0, .int .i64 0, .str ⟨#[]⟩, .nils, .int .i64 0, .int .i64 0, .int .i64 0, .int .i64 0, .int .i64 0, .int .i64 0]⟩]) (.seq (.reg [⟨(some 4), none, .fld 0 (.t 1)⟩,
  ⟨(some 5), none, .load 1 false (.t 4)⟩,
  ⟨(some 6), none, .fld 0 (.t 3)⟩,
  ⟨none, none, .store 1 (.t 6) (.t 5)⟩]) (.seq (.reg [⟨(some 7), none, .fld 1 (.t 1)⟩,
  ⟨(some 8), none, .load 1 false (.t 7)⟩,
  ⟨(some 9), none, .fld 1 (.t 3)⟩,
  ⟨none, none, .store 1 (.t 9) (.t 8)⟩]) (.seq (.reg [⟨(some 10), none, .fld 2 (.t 1)⟩,
  ⟨(some 11), none, .load 1 false (.t 10)⟩,
  ⟨(some 12), none, .fld 2 (.t 3)⟩,
  ⟨none, none, .store 1 (.t 12) (.t 11)⟩]) (.seq (.reg [⟨(some 13), none, .fld 3 (.t 1)⟩,
  ⟨(some 14), none, .load 1 false (.t 13)⟩,
  ⟨(some 15), none, .fld 3 (.t 3)⟩,
  ⟨none, none, .store 1 (.t 15) (.t 14)⟩]) (.seq (.reg [⟨(some 16), none, .fld 4 (.t 1)⟩,
  ⟨(some 17), none, .load 1 false (.t 16)⟩,
  ⟨(some 18), none, .fld 4 (.t 3)⟩,
  ⟨none, none, .store 1 (.t 18) (.t 17)⟩]) (.seq (.reg [⟨(some 19), none, .fld 5 (.t 1)⟩,
  ⟨(some 20), none, .load 1 false (.t 19)⟩,
  ⟨(some 21), none, .call (.c (.fn Fn.laws_toWireS [] [])) [.t 20]⟩,
  ⟨(some 22), none, .fld 5 (.t 3)⟩,
  ⟨none, none, .store 1 (.t 22) (.t 21)⟩]) (.seq (.reg [⟨(some 23), none, .fld 6 (.t 1)⟩,
  ⟨(some 24), none, .load 2 true (.t 23)⟩,
  ⟨(some 25), none, .call (.c (.fn Fn.laws_toWire [] [])) [.t 24]⟩,
  ⟨(some 26), none, .fld 6 (.t 3)⟩,
  ⟨none, none, .store 2 (.t 26) (.t 25)⟩]) (.seq (.reg [⟨(some 27), none, .fld 8 (.t 1)⟩,
  ⟨(some 28), none, .load 1 false (.t 27)⟩,
  ⟨(some 29), none, .fld 8 (.t 3)⟩,
  ⟨none, none, .store 1 (.t 29) (.t 28)⟩]) (.seq (.reg [⟨(some 30), none, .fld 9 (.t 1)⟩,
  ⟨(some 31), none, .load 3 true (.t 30)⟩,
  ⟨(some 32), none, .call (.c (.fn Fn.laws_toTag [] [])) [.t 31]⟩,
  ⟨(some 33), none, .fld 9 (.t 3)⟩,
  ⟨none, none, .store 3 (.t 33) (.t 32)⟩]) (.seq (.reg [⟨(some 34), none, .load 12 true (.t 3)⟩,
  ⟨none, none, .store 12 (.t 2) (.t 34)⟩]) (.ret))))))))))))
def laws_toMessage_r : List RS := [.cell 2 12 true]
theorem laws_toMessage_e {a0 : AV} {h : AH} {K : AV → AH → Prop} (hw : TC Tryz.prog Θ Γ laws_toMessage_c (retQ laws_toMessage_r K) ⟨[a0, u, u, u, u, u, u, u, u, u, u, u, u, u, u, u, u, u, u, u, u, u, u, u, u, u, u, u, u, u, u, u, u, u, u], [], h⟩) : T Tryz.prog Γ Fn.laws_toMessage [a0] h K :=
  T_of_body tabOK Tryz.func27 (code := bodyOf Tryz.f27) (by kernel_rfl) (by kernel_rfl) (by kernel_rfl) (by kernel_rfl) hw
def laws_eqMessage_c : C := .seq (.reg [⟨(some 2), none, .box (.t 0)⟩,
  ⟨(some 3), none, .box (.t 1)⟩,
  ⟨(some 4), none, .mov (.c (.bool false))⟩]) (.seq (.seq (.reg [⟨(some 5), none, .fld 0 (.t 2)⟩,
  ⟨(some 6), none, .load 1 false (.t 5)⟩,
  ⟨(some 7), none, .fld 0 (.t 3)⟩,
  ⟨(some 8), none, .load 1 false (.t 7)⟩,
  ⟨(some 9), none, .bin .neq (.num) (.t 6) (.t 8)⟩]) (.cond (.t 9) (.seq (.reg [⟨(some 4), none, .mov (.c (.bool false))⟩]) (.ret)) (.skip))) (.seq (.seq (.reg [⟨(some 10), none, .fld 1 (.t 2)⟩,
  ⟨(some 11), none, .load 1 false (.t 10)⟩,
  ⟨(some 12), none, .fld 1 (.t 3)⟩,
  ⟨(some 13), none, .load 1 false (.t 12)⟩,
  ⟨(some 14), none, .bin .neq (.num) (.t 11) (.t 13)⟩]) (.cond (.t 14) (.seq (.reg [⟨(some 4), none, .mov (.c (.bool false))⟩]) (.ret)) (.skip))) (.seq (.seq (.reg [⟨(some 15), none, .fld 2 (.t 2)⟩,
  ⟨(some 16), none, .load 1 false (.t 15)⟩,
  ⟨(some 17), none, .fld 2 (.t 3)⟩,
  ⟨(some 18), none, .load 1 false (.t 17)⟩,
  ⟨(some 19), none, .bin .neq (.num) (.t 16) (.t 18)⟩]) (.cond (.t 19) (.seq (.reg [⟨(some 4), none, .mov (.c (.bool false))⟩]) (.ret)) (.skip))) (.seq (.seq (.reg [⟨(some 20), none, .fld 3 (.t 2)⟩,
  ⟨(some 21), none, .load 1 false (.t 20)⟩,
  ⟨(some 22), none, .fld 3 (.t 3)⟩,
  ⟨(some 23), none, .load 1 false (.t 22)⟩,
  ⟨(some 24), none, .bin .neq (.num) (.t 21) (.t 23)⟩]) (.cond (.t 24) (.seq (.reg [⟨(some 4), none, .mov (.c (.bool false))⟩]) (.ret)) (.skip))) (.seq (.seq (.reg [⟨(some 25), none, .fld 4 (.t 2)⟩,
  ⟨(some 26), none, .load 1 false (.t 25)⟩,
  ⟨(some 27), none, .fld 4 (.t 3)⟩,
  ⟨(some 28), none, .load 1 false (.t 27)⟩,
  ⟨(some 29), none, .bin .neq (.num) (.t 26) (.t 28)⟩]) (.cond (.t 29) (.seq (.reg [⟨(some 4), none, .mov (.c (.bool false))⟩]) (.ret)) (.skip))) (.seq (.seq (.reg [⟨(some 30), none, .fld 5 (.t 2)⟩,
  ⟨(some 31), none, .load 1 false (.t 30)⟩,
  ⟨(some 32), none, .fld 5 (.t 3)⟩,
  ⟨(some 33), none, .load 1 false (.t 32)⟩,
  ⟨(some 34), none, .call (.c (.fn Fn.laws_eqWireS [] [])) [.t 31, .t 33]⟩,
  ⟨(some 35), none, .un .not (.t 34)⟩]) (.cond (.t 35) (.seq (.reg [⟨(some 4), none, .mov (.c (.bool false))⟩]) (.ret)) (.skip))) (.seq (.seq (.reg [⟨(some 36), none, .fld 6 (.t 2)⟩,
  ⟨(some 37), none, .load 2 true (.t 36)⟩,
  ⟨(some 38), none, .fld 6 (.t 3)⟩,
  ⟨(some 39), none, .load 2 true (.t 38)⟩,
  ⟨(some 40), none, .call (.c (.fn Fn.laws_eqWire [] [])) [.t 37, .t 39]⟩,
  ⟨(some 41), none, .un .not (.t 40)⟩]) (.cond (.t 41) (.seq (.reg [⟨(some 4), none, .mov (.c (.bool false))⟩]) (.ret)) (.skip))) (.seq (.seq (.reg [⟨(some 42), none, .fld 8 (.t 2)⟩,
  ⟨(some 43), none, .load 1 false (.t 42)⟩,
  ⟨(some 44), none, .fld 8 (.t 3)⟩,
  ⟨(some 45), none, .load 1 false (.t 44)⟩,
  ⟨(some 46), none, .bin .neq (.num) (.t 43) (.t 45)⟩]) (.cond (.t 46) (.seq (.reg [⟨(some 4), none, .mov (.c (.bool false))⟩]) (.ret)) (.skip))) (.seq (.seq (.reg [⟨(some 47), none, .fld 9 (.t 2)⟩,
  ⟨(some 48), none, .load 3 true (.t 47)⟩,
  ⟨(some 49), none, .fld 9 (.t 3)⟩,
  ⟨(some 50), none, .load 3 true (.t 49)⟩,
  ⟨(some 51), none, .call (.c (.fn Fn.laws_eqTag [] [])) [.t 48, .t 50]⟩,
  ⟨(some 52), none, .un .not (.t 51)⟩]) (.cond (.t 52) (.seq (.reg [⟨(some 4), none, .mov (.c (.bool false))⟩]) (.ret)) (.skip))) (.seq (.reg [⟨(some 4), none, .mov (.c (.bool true))⟩]) (.ret)))))))))))
def laws_eqMessage_r : List RS := [.t 4]
theorem laws_eqMessage_e {a0 a1 : AV} {h : AH} {K : AV → AH → Prop} (hw : TC Tryz.prog Θ Γ laws_eqMessage_c (retQ laws_eqMessage_r K) ⟨[a0, a1, u, u, u, u, u, u, u, u, u, u, u, u, u, u, u, u, u, u, u, u, u, u, u, u, u, u, u, u, u, u, u, u, u, u, u, u, u, u, u, u, u, u, u, u, u, u, u, u, u, u, u], [], h⟩) : T Tryz.prog Γ Fn.laws_eqMessage [a0, a1] h K :=
  T_of_body tabOK Tryz.func30 (code := bodyOf Tryz.f30) (by kernel_rfl) (by kernel_rfl) (by kernel_rfl) (by kernel_rfl) hw
def laws_szEntityS_c : C := .seq (.reg [⟨(some 4), none, .mov (.c (.int .i64 0))⟩]) (.seq (.reg [⟨(some 6), none, .mov (.t 1)⟩,
  ⟨(some 7), none, .mov (.t 0)⟩,
  ⟨(some 8), none, .len false (.t 7)⟩,
  ⟨(some 9), none, .bin .sub (.num) (.t 6) (.t 8)⟩,
  ⟨(some 1), none, .mov (.t 9)⟩]) (.seq (.seq (.reg [⟨(some 10), none, .mov (.t 1)⟩,
  ⟨(some 11), none, .bin .lss (.num) (.t 10) (.c (.int .i64 0))⟩]) (.cond (.t 11) (.seq (.reg [⟨(some 4), none, .mov (.c (.int .i64 (-1)))⟩]) (.ret)) (.skip))) (.seq (.seq (.reg [⟨(some 5), none, .mov (.c (.int .i64 0))⟩]) (.block 0 (.loop (.seq (.seq (.reg [⟨(some 12), none, .mov (.t 5)⟩,
  ⟨(some 13), none, .mov (.t 0)⟩,
  ⟨(some 14), none, .len false (.t 13)⟩,
  ⟨(some 15), none, .bin .lss (.num) (.t 12) (.t 14)⟩]) (.cond (.t 15) (.skip) (.exit 0))) (.seq (.block 1 (.seq (.reg [⟨(some 18), none, .mov (.t 0)⟩,
  ⟨(some 19), none, .mov (.t 5)⟩,
  ⟨(some 20), none, .idxs 12 (.t 18) (.t 19)⟩,
  ⟨(some 21), none, .load 12 true (.t 20)⟩,
  ⟨(some 22), none, .mov (.t 1)⟩,
  ⟨(some 23), none, .call (.c (.fn Fn.laws_szEntity [] [])) [.t 21, .t 22]⟩,
  ⟨(some 1), none, .mov (.t 23)⟩]) (.seq (.reg [⟨(some 24), none, .mov (.t 1)⟩,
  ⟨(some 25), none, .bin .lss (.num) (.t 24) (.c (.int .i64 0))⟩]) (.cond (.t 25) (.seq (.reg [⟨(some 4), none, .mov (.c (.int .i64 (-1)))⟩]) (.ret)) (.skip))))) (.reg [⟨(some 16), none, .mov (.t 5)⟩,
  ⟨(some 17), none, .bin .add (.num) (.t 16) (.c (.int .i64 1))⟩,
  ⟨(some 5), none, .mov (.t 17)⟩])))))) (.seq (.reg [⟨(some 26), none, .mov (.t 1)⟩,
  ⟨(some 4), none, .mov (.t 26)⟩]) (.ret)))))
def laws_szEntityS_r : List RS := [.t 4]
def laws_szEntityS_s0 (t0 t1 t5 : AV) (loc : List (List AV)) (h : AH) : St := ⟨[t0, t1, .any, .any, .any, t5, .any, .any, .any, .any, .any, .any, .any, .any, .any, .any, .any, .any, .any, .any, .any, .any, .any, .any, .any, .any, .any], loc, h⟩
theorem laws_szEntityS_e {a0 a1 : AV} {h : AH} {K : AV → AH → Prop} (hw : TC Tryz.prog Θ Γ laws_szEntityS_c (retQ laws_szEntityS_r K) ⟨[a0, a1, u, u, u, u, u, u, u, u, u, u, u, u, u, u, u, u, u, u, u, u, u, u, u, u, u], [], h⟩) : T Tryz.prog Γ Fn.laws_szEntityS [a0, a1] h K :=
  T_of_body tabOK Tryz.func34 (code := bodyOf Tryz.f34) (by kernel_rfl) (by kernel_rfl) (by kernel_rfl) (by kernel_rfl) hw
def laws_szSentS_c : C := .seq (.reg [⟨(some 4), none, .mov (.c (.int .i64 0))⟩]) (.seq (.reg [⟨(some 6), none, .mov (.t 1)⟩,
  ⟨(some 7), none, .mov (.t 0)⟩,
  ⟨(some 8), none, .len false (.t 7)⟩,
  ⟨(some 9), none, .bin .sub (.num) (.t 6) (.t 8)⟩,
  ⟨(some 1), none, .mov (.t 9)⟩]) (.seq (.seq (.reg [⟨(some 10), none, .mov (.t 1)⟩,
  ⟨(some 11), none, .bin .lss (.num) (.t 10) (.c (.int .i64 0))⟩]) (.cond (.t 11) (.seq (.reg [⟨(some 4), none, .mov (.c (.int .i64 (-1)))⟩]) (.ret)) (.skip))) (.seq (.seq (.reg [⟨(some 5), none, .mov (.c (.int .i64 0))⟩]) (.block 0 (.loop (.seq (.seq (.reg [⟨(some 12), none, .mov (.t 5)⟩,
  ⟨(some 13), none, .mov (.t 0)⟩,
  ⟨(some 14), none, .len false (.t 13)⟩,
  ⟨(some 15), none, .bin .lss (.num) (.t 12) (.t 14)⟩]) (.cond (.t 15) (.skip) (.exit 0))) (.seq (.block 1 (.seq (.reg [⟨(some 18), none, .mov (.t 0)⟩,
  ⟨(some 19), none, .mov (.t 5)⟩,
  ⟨(some 20), none, .idxs 7 (.t 18) (.t 19)⟩,
  ⟨(some 21), none, .load 7 true (.t 20)⟩,
  ⟨(some 22), none, .mov (.t 1)⟩,
  ⟨(some 23), none, .call (.c (.fn Fn.laws_szSent [] [])) [.t 21, .t 22]⟩,
  ⟨(some 1), none, .mov (.t 23)⟩]) (.seq (.reg [⟨(some 24), none, .mov (.t 1)⟩,
  ⟨(some 25), none, .bin .lss (.num) (.t 24) (.c (.int .i64 0))⟩]) (.cond (.t 25) (.seq (.reg [⟨(some 4), none, .mov (.c (.int .i64 (-1)))⟩]) (.ret)) (.skip))))) (.reg [⟨(some 16), none, .mov (.t 5)⟩,
  ⟨(some 17), none, .bin .add (.num) (.t 16) (.c (.int .i64 1))⟩,
  ⟨(some 5), none, .mov (.t 17)⟩])))))) (.seq (.reg [⟨(some 26), none, .mov (.t 1)⟩,
  ⟨(some 4), none, .mov (.t 26)⟩]) (.ret)))))
def laws_szSentS_r : List RS := [.t 4]
def laws_szSentS_s0 (t0 t1 t5 : AV) (loc : List (List AV)) (h : AH) : St := ⟨[t0, t1, .any, .any, .any, t5, .any, .any, .any, .any, .any, .any, .any, .any, .any, .any, .any, .any, .any, .any, .any, .any, .any, .any, .any, .any, .any], loc, h⟩
theorem laws_szSentS_e {a0 a1 : AV} {h : AH} {K : AV → AH → Prop} (hw : TC Tryz.prog Θ Γ laws_szSentS_c (retQ laws_szSentS_r K) ⟨[a0, a1, u, u, u, u, u, u, u, u, u, u, u, u, u, u, u, u, u, u, u, u, u, u, u, u, u], [], h⟩) : T Tryz.prog Γ Fn.laws_szSentS [a0, a1] h K :=
  T_of_body tabOK Tryz.func35 (code := bodyOf Tryz.f35) (by kernel_rfl) (by kernel_rfl) (by kernel_rfl) (by kernel_rfl) hw
def laws_szLinkS_c : C := .seq (.reg [⟨(some 4), none, .mov (.c (.int .i64 0))⟩]) (.seq (.reg [⟨(some 6), none, .mov (.t 1)⟩,
  ⟨(some 7), none, .mov (.t 0)⟩,
  ⟨(some 8), none, .len false (.t 7)⟩,
  ⟨(some 9), none, .bin .sub (.num) (.t 6) (.t 8)⟩,
  ⟨(some 1), none, .mov (.t 9)⟩]) (.seq (.seq (.reg [⟨(some 10), none, .mov (.t 1)⟩,
  ⟨(some 11), none, .bin .lss (.num) (.t 10) (.c (.int .i64 0))⟩]) (.cond (.t 11) (.seq (.reg [⟨(some 4), none, .mov (.c (.int .i64 (-1)))⟩]) (.ret)) (.skip))) (.seq (.seq (.reg [⟨(some 5), none, .mov (.c (.int .i64 0))⟩]) (.block 0 (.loop (.seq (.seq (.reg [⟨(some 12), none, .mov (.t 5)⟩,
  ⟨(some 13), none, .mov (.t 0)⟩,
  ⟨(some 14), none, .len false (.t 13)⟩,
  ⟨(some 15), none, .bin .lss (.num) (.t 12) (.t 14)⟩]) (.cond (.t 15) (.skip) (.exit 0))) (.seq (.block 1 (.seq (.reg [⟨(some 18), none, .mov (.t 0)⟩,
  ⟨(some 19), none, .mov (.t 5)⟩,
  ⟨(some 20), none, .idxs 7 (.t 18) (.t 19)⟩,
  ⟨(some 21), none, .load 7 true (.t 20)⟩,
  ⟨(some 22), none, .mov (.t 1)⟩,
  ⟨(some 23), none, .call (.c (.fn Fn.laws_szLink [] [])) [.t 21, .t 22]⟩,
  ⟨(some 1), none, .mov (.t 23)⟩]) (.seq (.reg [⟨(some 24), none, .mov (.t 1)⟩,
  ⟨(some 25), none, .bin .lss (.num) (.t 24) (.c (.int .i64 0))⟩]) (.cond (.t 25) (.seq (.reg [⟨(some 4), none, .mov (.c (.int .i64 (-1)))⟩]) (.ret)) (.skip))))) (.reg [⟨(some 16), none, .mov (.t 5)⟩,
  ⟨(some 17), none, .bin .add (.num) (.t 16) (.c (.int .i64 1))⟩,
  ⟨(some 5), none, .mov (.t 17)⟩])))))) (.seq (.reg [⟨(some 26), none, .mov (.t 1)⟩,
  ⟨(some 4), none, .mov (.t 26)⟩]) (.ret)))))
def laws_szLinkS_r : List RS := [.t 4]
def laws_szLinkS_s0 (t0 t1 t5 : AV) (loc : List (List AV)) (h : AH) : St := ⟨[t0, t1, .any, .any, .any, t5, .any, .any, .any, .any, .any, .any, .any, .any, .any, .any, .any, .any, .any, .any, .any, .any, .any, .any, .any, .any, .any], loc, h⟩
theorem laws_szLinkS_e {a0 a1 : AV} {h : AH} {K : AV → AH → Prop} (hw : TC Tryz.prog Θ Γ laws_szLinkS_c (retQ laws_szLinkS_r K) ⟨[a0, a1, u, u, u, u, u, u, u, u, u, u, u, u, u, u, u, u, u, u, u, u, u, u, u, u, u], [], h⟩) : T Tryz.prog Γ Fn.laws_szLinkS [a0, a1] h K :=
  T_of_body tabOK Tryz.func36 (code := bodyOf Tryz.f36) (by kernel_rfl) (by kernel_rfl) (by kernel_rfl) (by kernel_rfl) hw
def laws_szOutgoingS_c : C := .seq (.reg [⟨(some 4), none, .mov (.c (.int .i64 0))⟩]) (.seq (.reg [⟨(some 6), none, .mov (.t 1)⟩,
  ⟨(some 7), none, .mov (.t 0)⟩,
  ⟨(some 8), none, .len false (.t 7)⟩,
  ⟨(some 9), none, .bin .sub (.num) (.t 6) (.t 8)⟩,
  ⟨(some 1), none, .mov (.t 9)⟩]) (.seq (.seq (.reg [⟨(some 10), none, .mov (.t 1)⟩,
  ⟨(some 11), none, .bin .lss (.num) (.t 10) (.c (.int .i64 0))⟩]) (.cond (.t 11) (.seq (.reg [⟨(some 4), none, .mov (.c (.int .i64 (-1)))⟩]) (.ret)) (.skip))) (.seq (.seq (.reg [⟨(some 5), none, .mov (.c (.int .i64 0))⟩]) (.block 0 (.loop (.seq (.seq (.reg [⟨(some 12), none, .mov (.t 5)⟩,
  ⟨(some 13), none, .mov (.t 0)⟩,
  ⟨(some 14), none, .len false (.t 13)⟩,
  ⟨(some 15), none, .bin .lss (.num) (.t 12) (.t 14)⟩]) (.cond (.t 15) (.skip) (.exit 0))) (.seq (.block 1 (.seq (.reg [⟨(some 18), none, .mov (.t 0)⟩,
  ⟨(some 19), none, .mov (.t 5)⟩,
  ⟨(some 20), none, .idxs 13 (.t 18) (.t 19)⟩,
  ⟨(some 21), none, .load 13 true (.t 20)⟩,
  ⟨(some 22), none, .mov (.t 1)⟩,
  ⟨(some 23), none, .call (.c (.fn Fn.laws_szOutgoing [] [])) [.t 21, .t 22]⟩,
  ⟨(some 1), none, .mov (.t 23)⟩]) (.seq (.reg [⟨(some 24), none, .mov (.t 1)⟩,
  ⟨(some 25), none, .bin .lss (.num) (.t 24) (.c (.int .i64 0))⟩]) (.cond (.t 25) (.seq (.reg [⟨(some 4), none, .mov (.c (.int .i64 (-1)))⟩]) (.ret)) (.skip))))) (.reg [⟨(some 16), none, .mov (.t 5)⟩,
  ⟨(some 17), none, .bin .add (.num) (.t 16) (.c (.int .i64 1))⟩,
  ⟨(some 5), none, .mov (.t 17)⟩])))))) (.seq (.reg [⟨(some 26), none, .mov (.t 1)⟩,
  ⟨(some 4), none, .mov (.t 26)⟩]) (.ret)))))
def laws_szOutgoingS_r : List RS := [.t 4]
def laws_szOutgoingS_s0 (t0 t1 t5 : AV) (loc : List (List AV)) (h : AH) : St := ⟨[t0, t1, .any, .any, .any, t5, .any, .any, .any, .any, .any, .any, .any, .any, .any, .any, .any, .any, .any, .any, .any, .any, .any, .any, .any, .any, .any], loc, h⟩
theorem laws_szOutgoingS_e {a0 a1 : AV} {h : AH} {K : AV → AH → Prop} (hw : TC Tryz.prog Θ Γ laws_szOutgoingS_c (retQ laws_szOutgoingS_r K) ⟨[a0, a1, u, u, u, u, u, u, u, u, u, u, u, u, u, u, u, u, u, u, u, u, u, u, u, u, u], [], h⟩) : T Tryz.prog Γ Fn.laws_szOutgoingS [a0, a1] h K :=
  T_of_body tabOK Tryz.func37 (code := bodyOf Tryz.f37) (by kernel_rfl) (by kernel_rfl) (by kernel_rfl) (by kernel_rfl) hw
def spec_IsUp_c : C := .seq (.reg [⟨(some 2), none, .box (.t 0)⟩,
  ⟨(some 4), none, .mov (.c (.bool false))⟩]) (.seq (.seq (.reg [⟨(some 5), none, .mov (.c (.int .i64 0))⟩]) (.block 0 (.loop (.seq (.seq (.reg [⟨(some 6), none, .mov (.t 5)⟩,
  ⟨(some 7), none, .fld 3 (.t 2)⟩,
  ⟨(some 8), none, .load 1 false (.t 7)⟩,
  ⟨(some 9), none, .len false (.t 8)⟩,
  ⟨(some 10), none, .bin .lss (.num) (.t 6) (.t 9)⟩]) (.cond (.t 10) (.skip) (.exit 0))) (.seq (.block 1 (.seq (.reg [⟨(some 13), none, .fld 3 (.t 2)⟩,
  ⟨(some 14), none, .load 1 false (.t 13)⟩,
  ⟨(some 15), none, .mov (.t 5)⟩,
  ⟨(some 16), none, .idxs 7 (.t 14) (.t 15)⟩,
  ⟨(some 17), none, .fld 0 (.t 16)⟩,
  ⟨(some 18), none, .load 1 false (.t 17)⟩,
  ⟨(some 19), none, .mov (.t 1)⟩,
  ⟨(some 20), none, .bin .eql (.num) (.t 18) (.t 19)⟩,
  ⟨(some 21), none, .mov (.t 20)⟩,
  ⟨(some 22), (some (8, true)), .fld 3 (.t 2)⟩,
  ⟨(some 23), (some (8, true)), .load 1 false (.t 22)⟩,
  ⟨(some 24), (some (8, true)), .mov (.t 5)⟩,
  ⟨(some 25), (some (8, true)), .idxs 7 (.t 23) (.t 24)⟩,
  ⟨(some 26), (some (8, true)), .fld 1 (.t 25)⟩,
  ⟨(some 27), (some (8, true)), .load 1 false (.t 26)⟩,
  ⟨(some 28), none, .pick (.t 21) (.t 27) (.c (.bool false))⟩]) (.cond (.t 28) (.seq (.reg [⟨(some 4), none, .mov (.c (.bool true))⟩]) (.ret)) (.skip)))) (.reg [⟨(some 11), none, .mov (.t 5)⟩,
  ⟨(some 12), none, .bin .add (.num) (.t 11) (.c (.int .i64 1))⟩,
  ⟨(some 5), none, .mov (.t 12)⟩])))))) (.seq (.reg [⟨(some 4), none, .mov (.c (.bool false))⟩]) (.ret)))
def spec_IsUp_r : List RS := [.t 4]
def spec_IsUp_s0 (t1 t2 t5 : AV) (loc : List (List AV)) (h : AH) : St := ⟨[.any, t1, t2, .any, .any, t5, .any, .any, .any, .any, .any, .any, .any, .any, .any, .any, .any, .any, .any, .any, .any, .any, .any, .any, .any, .any, .any, .any, .any], loc, h⟩
theorem spec_IsUp_e {a0 a1 : AV} {h : AH} {K : AV → AH → Prop} (hw : TC Tryz.prog Θ Γ spec_IsUp_c (retQ spec_IsUp_r K) ⟨[a0, a1, u, u, u, u, u, u, u, u, u, u, u, u, u, u, u, u, u, u, u, u, u, u, u, u, u, u, u], [], h⟩) : T Tryz.prog Γ Fn.spec_IsUp [a0, a1] h K :=
  T_of_body tabOK Tryz.func38 (code := bodyOf Tryz.f38) (by kernel_rfl) (by kernel_rfl) (by kernel_rfl) (by kernel_rfl) hw
def spec_l31Copy_c : C := .seq (.reg [⟨(some 2), none, .mov (.c (.nils))⟩]) (.seq (.reg [⟨(some 3), none, .bsl 4 0 [.int .i64 0, .int .i64 0, .int .i64 0, .int .i64 0] []⟩,
  ⟨(some 4), none, .mov (.t 0)⟩,
  ⟨(some 5), none, .app 4 32 [.int .i64 0, .int .i64 0, .int .i64 0, .int .i64 0] false (.t 3) (.t 4)⟩,
  ⟨(some 2), none, .mov (.t 5)⟩]) (.ret))
def spec_l31Copy_r : List RS := [.t 2]
theorem spec_l31Copy_e {a0 : AV} {h : AH} {K : AV → AH → Prop} (hw : TC Tryz.prog Θ Γ spec_l31Copy_c (retQ spec_l31Copy_r K) ⟨[a0, u, u, u, u, u], [], h⟩) : T Tryz.prog Γ Fn.spec_l31Copy [a0] h K :=
  T_of_body tabOK Tryz.func39 (code := bodyOf Tryz.f39) (by kernel_rfl) (by kernel_rfl) (by kernel_rfl) (by kernel_rfl) hw
def spec_LinkTo_c : C := .seq (.reg [⟨(some 2), none, .box (.t 0)⟩,
  ⟨(some 4), none, .mov (.c (.int .i64 0))⟩]) (.seq (.seq (.reg [⟨(some 5), none, .mov (.c (.int .i64 0))⟩]) (.block 0 (.loop (.seq (.seq (.reg [⟨(some 6), none, .mov (.t 5)⟩,
  ⟨(some 7), none, .fld 3 (.t 2)⟩,
  ⟨(some 8), none, .load 1 false (.t 7)⟩,
  ⟨(some 9), none, .len false (.t 8)⟩,
  ⟨(some 10), none, .bin .lss (.num) (.t 6) (.t 9)⟩]) (.cond (.t 10) (.skip) (.exit 0))) (.seq (.block 1 (.seq (.reg [⟨(some 13), none, .fld 3 (.t 2)⟩,
  ⟨(some 14), none, .load 1 false (.t 13)⟩,
  ⟨(some 15), none, .mov (.t 5)⟩,
  ⟨(some 16), none, .idxs 7 (.t 14) (.t 15)⟩,
  ⟨(some 17), none, .fld 0 (.t 16)⟩,
  ⟨(some 18), none, .load 1 false (.t 17)⟩,
  ⟨(some 19), none, .mov (.t 1)⟩,
  ⟨(some 20), none, .bin .eql (.num) (.t 18) (.t 19)⟩]) (.cond (.t 20) (.seq (.reg [⟨(some 21), none, .mov (.t 5)⟩,
  ⟨(some 4), none, .mov (.t 21)⟩]) (.ret)) (.skip)))) (.reg [⟨(some 11), none, .mov (.t 5)⟩,
  ⟨(some 12), none, .bin .add (.num) (.t 11) (.c (.int .i64 1))⟩,
  ⟨(some 5), none, .mov (.t 12)⟩])))))) (.seq (.reg [⟨(some 4), none, .mov (.c (.int .i64 (-1)))⟩]) (.ret)))
def spec_LinkTo_r : List RS := [.t 4]
def spec_LinkTo_s0 (t1 t2 t5 : AV) (loc : List (List AV)) (h : AH) : St := ⟨[.any, t1, t2, .any, .any, t5, .any, .any, .any, .any, .any, .any, .any, .any, .any, .any, .any, .any, .any, .any, .any, .any], loc, h⟩
theorem spec_LinkTo_e {a0 a1 : AV} {h : AH} {K : AV → AH → Prop} (hw : TC Tryz.prog Θ Γ spec_LinkTo_c (retQ spec_LinkTo_r K) ⟨[a0, a1, u, u, u, u, u, u, u, u, u, u, u, u, u, u, u, u, u, u, u, u], [], h⟩) : T Tryz.prog Γ Fn.spec_LinkTo [a0, a1] h K :=
  T_of_body tabOK Tryz.func41 (code := bodyOf Tryz.f41) (by kernel_rfl) (by kernel_rfl) (by kernel_rfl) (by kernel_rfl) hw
def laws_toEntityS_c : C := .seq (.reg [⟨(some 2), none, .mov (.c (.nils))⟩]) (.seq (.reg [⟨(some 5), none, .mov (.t 0)⟩,
  ⟨(some 6), none, .len false (.t 5)⟩,
  ⟨(some 7), none, .mks 12 144 [.int .i64 0, .int .i64 0, .nils, .int .i64 0, .int .i64 0, .int .i64 0, .nils, .nils, .int .i64 0, .int .i64 0, .int .i64 0, .int .i64 0] (.t 6) (.t 6)⟩,
  ⟨(some 3), none, .mov (.t 7)⟩]) (.seq (.seq (.reg [⟨(some 4), none, .mov (.c (.int .i64 0))⟩]) (.block 0 (.loop (.seq (.seq (.reg [⟨(some 8), none, .mov (.t 4)⟩,
  ⟨(some 9), none, .mov (.t 0)⟩,
  ⟨(some 10), none, .len false (.t 9)⟩,
  ⟨(some 11), none, .bin .lss (.num) (.t 8) (.t 10)⟩]) (.cond (.t 11) (.skip) (.exit 0))) (.seq (.block 1 (.reg [⟨(some 14), none, .mov (.t 3)⟩,
  ⟨(some 15), none, .mov (.t 4)⟩,
  ⟨(some 16), none, .mov (.t 0)⟩,
  ⟨(some 17), none, .mov (.t 4)⟩,
  ⟨(some 18), none, .idxs 12 (.t 16) (.t 17)⟩,
  ⟨(some 19), none, .load 12 true (.t 18)⟩,
  ⟨(some 20), none, .call (.c (.fn Fn.laws_toEntity [] [])) [.t 19]⟩,
  ⟨(some 21), none, .idxs 12 (.t 14) (.t 15)⟩,
  ⟨none, none, .store 12 (.t 21) (.t 20)⟩])) (.reg [⟨(some 12), none, .mov (.t 4)⟩,
  ⟨(some 13), none, .bin .add (.num) (.t 12) (.c (.int .i64 1))⟩,
  ⟨(some 4), none, .mov (.t 13)⟩])))))) (.seq (.reg [⟨(some 22), none, .mov (.t 3)⟩,
  ⟨(some 2), none, .mov (.t 22)⟩]) (.ret))))
def laws_toEntityS_r : List RS := [.t 2]
def laws_toEntityS_s0 (t0 t3 t4 : AV) (loc : List (List AV)) (h : AH) : St := ⟨[t0, .any, .any, t3, t4, .any, .any, .any, .any, .any, .any, .any, .any, .any, .any, .any, .any, .any, .any, .any, .any, .any, .any], loc, h⟩
theorem laws_toEntityS_e {a0 : AV} {h : AH} {K : AV → AH → Prop} (hw : TC Tryz.prog Θ Γ laws_toEntityS_c (retQ laws_toEntityS_r K) ⟨[a0, u, u, u, u, u, u, u, u, u, u, u, u, u, u, u, u, u, u, u, u, u, u], [], h⟩) : T Tryz.prog Γ Fn.laws_toEntityS [a0] h K :=
  T_of_body tabOK Tryz.func43 (code := bodyOf Tryz.f43) (by kernel_rfl) (by kernel_rfl) (by kernel_rfl) (by kernel_rfl) hw
def laws_toSentS_c : C := .seq (.reg [⟨(some 2), none, .mov (.c (.nils))⟩]) (.seq (.reg [⟨(some 5), none, .mov (.t 0)⟩,
  ⟨(some 6), none, .len false (.t 5)⟩,
  ⟨(some 7), none, .mks 7 80 [.int .i64 0, .str ⟨#[]⟩, .nils, .int .i64 0, .int .i64 0, .int .i64 0, .int .i64 0] (.t 6) (.t 6)⟩,
  ⟨(some 3), none, .mov (.t 7)⟩]) (.seq (.seq (.reg [⟨(some 4), none, .mov (.c (.int .i64 0))⟩]) (.block 0 (.loop (.seq (.seq (.reg [⟨(some 8), none, .mov (.t 4)⟩,
  ⟨(some 9), none, .mov (.t 0)⟩,
  ⟨(some 10), none, .len false (.t 9)⟩,
  ⟨(some 11), none, .bin .lss (.num) (.t 8) (.t 10)⟩]) (.cond (.t 11) (.skip) (.exit 0))) (.seq (.block 1 (.reg [⟨(some 14), none, .mov (.t 3)⟩,
  ⟨(some 15), none, .mov (.t 4)⟩,
  ⟨(some 16), none, .mov (.t 0)⟩,
  ⟨(some 17), none, .mov (.t 4)⟩,
  ⟨(some 18), none, .idxs 7 (.t 16) (.t 17)⟩,
  ⟨(some 19), none, .load 7 true (.t 18)⟩,
  ⟨(some 20), none, .call (.c (.fn Fn.laws_toSent [] [])) [.t 19]⟩,
  ⟨(some 21), none, .idxs 7 (.t 14) (.t 15)⟩,
  ⟨none, none, .store 7 (.t 21) (.t 20)⟩])) (.reg [⟨(some 12), none, .mov (.t 4)⟩,
  ⟨(some 13), none, .bin .add (.num) (.t 12) (.c (.int .i64 1))⟩,
  ⟨(some 4), none, .mov (.t 13)⟩])))))) (.seq (.reg [⟨(some 22), none, .mov (.t 3)⟩,
  ⟨(some 2), none, .mov (.t 22)⟩]) (.ret))))
def laws_toSentS_r : List RS := [.t 2]
def laws_toSentS_s0 (t0 t3 t4 : AV) (loc : List (List AV)) (h : AH) : St := ⟨[t0, .any, .any, t3, t4, .any, .any, .any, .any, .any, .any, .any, .any, .any, .any, .any, .any, .any, .any, .any, .any, .any, .any], loc, h⟩
theorem laws_toSentS_e {a0 : AV} {h : AH} {K : AV → AH → Prop} (hw : TC Tryz.prog Θ Γ laws_toSentS_c (retQ laws_toSentS_r K) ⟨[a0, u, u, u, u, u, u, u, u, u, u, u, u, u, u, u, u, u, u, u, u, u, u], [], h⟩) : T Tryz.prog Γ Fn.laws_toSentS [a0] h K :=
  T_of_body tabOK Tryz.func44 (code := bodyOf Tryz.f44) (by kernel_rfl) (by kernel_rfl) (by kernel_rfl) (by kernel_rfl) hw
def laws_toLinkS_c : C := .seq (.reg [⟨(some 2), none, .mov (.c (.nils))⟩]) (.seq (.reg [⟨(some 5), none, .mov (.t 0)⟩,
  ⟨(some 6), none, .len false (.t 5)⟩,
  ⟨(some 7), none, .mks 7 104 [.int .i64 0, .bool false, .nils, .int .i64 0, .nils, .int .i64 0, .nils] (.t 6) (.t 6)⟩,
  ⟨(some 3), none, .mov (.t 7)⟩]) (.seq (.seq (.reg [⟨(some 4), none, .mov (.c (.int .i64 0))⟩]) (.block 0 (.loop (.seq (.seq (.reg [⟨(some 8), none, .mov (.t 4)⟩,
  ⟨(some 9), none, .mov (.t 0)⟩,
  ⟨(some 10), none, .len false (.t 9)⟩,
  ⟨(some 11), none, .bin .lss (.num) (.t 8) (.t 10)⟩]) (.cond (.t 11) (.skip) (.exit 0))) (.seq (.block 1 (.reg [⟨(some 14), none, .mov (.t 3)⟩,
  ⟨(some 15), none, .mov (.t 4)⟩,
  ⟨(some 16), none, .mov (.t 0)⟩,
  ⟨(some 17), none, .mov (.t 4)⟩,
  ⟨(some 18), none, .idxs 7 (.t 16) (.t 17)⟩,
  ⟨(some 19), none, .load 7 true (.t 18)⟩,
  ⟨(some 20), none, .call (.c (.fn Fn.laws_toLink [] [])) [.t 19]⟩,
  ⟨(some 21), none, .idxs 7 (.t 14) (.t 15)⟩,
  ⟨none, none, .store 7 (.t 21) (.t 20)⟩])) (.reg [⟨(some 12), none, .mov (.t 4)⟩,
  ⟨(some 13), none, .bin .add (.num) (.t 12) (.c (.int .i64 1))⟩,
  ⟨(some 4), none, .mov (.t 13)⟩])))))) (.seq (.reg [⟨(some 22), none, .mov (.t 3)⟩,
  ⟨(some 2), none, .mov (.t 22)⟩]) (.ret))))
def laws_toLinkS_r : List RS := [.t 2]
def laws_toLinkS_s0 (t0 t3 t4 : AV) (loc : List (List AV)) (h : AH) : St := ⟨[t0, .any, .any, t3, t4, .any, .any, .any, .any, .any, .any, .any, .any, .any, .any, .any, .any, .any, .any, .any, .any, .any, .any], loc, h⟩
theorem laws_toLinkS_e {a0 : AV} {h : AH} {K : AV → AH → Prop} (hw : TC Tryz.prog Θ Γ laws_toLinkS_c (retQ laws_toLinkS_r K) ⟨[a0, u, u, u, u, u, u, u, u, u, u, u, u, u, u, u, u, u, u, u, u, u, u], [], h⟩) : T Tryz.prog Γ Fn.laws_toLinkS [a0] h K :=
  T_of_body tabOK Tryz.func45 (code := bodyOf Tryz.f45) (by kernel_rfl) (by kernel_rfl) (by kernel_rfl) (by kernel_rfl) hw
def laws_toOutgoingS_c : C := .seq (.reg [⟨(some 2), none, .mov (.c (.nils))⟩]) (.seq (.reg [⟨(some 5), none, .mov (.t 0)⟩,
  ⟨(some 6), none, .len false (.t 5)⟩,
  ⟨(some 7), none, .mks 13 128 [.int .i64 0, .int .i64 0, .int .i64 0, .int .i64 0, .int .i64 0, .str ⟨#[]⟩, .nils, .int .i64 0, .int .i64 0, .int .i64 0, .int .i64 0, .int .i64 0, .int .i64 0] (.t 6) (.t 6)⟩,
  ⟨(some 3), none, .mov (.t 7)⟩]) (.seq (.seq (.reg [⟨(some 4), none, .mov (.c (.int .i64 0))⟩]) (.block 0 (.loop (.seq (.seq (.reg [⟨(some 8), none, .mov (.t 4)⟩,
  ⟨(some 9), none, .mov (.t 0)⟩,
  ⟨(some 10), none, .len false (.t 9)⟩,
  ⟨(some 11), none, .bin .lss (.num) (.t 8) (.t 10)⟩]) (.cond (.t 11) (.skip) (.exit 0))) (.seq (.block 1 (.reg [⟨(some 14), none, .mov (.t 3)⟩,
  ⟨(some 15), none, .mov (.t 4)⟩,
  ⟨(some 16), none, .mov (.t 0)⟩,
  ⟨(some 17), none, .mov (.t 4)⟩,
  ⟨(some 18), none, .idxs 13 (.t 16) (.t 17)⟩,
  ⟨(some 19), none, .load 13 true (.t 18)⟩,
  ⟨(some 20), none, .call (.c (.fn Fn.laws_toOutgoing [] [])) [.t 19]⟩,
  ⟨(some 21), none, .idxs 13 (.t 14) (.t 15)⟩,
  ⟨none, none, .store 13 (.t 21) (.t 20)⟩])) (.reg [⟨(some 12), none, .mov (.t 4)⟩,
  ⟨(some 13), none, .bin .add (.num) (.t 12) (.c (.int .i64 1))⟩,
  ⟨(some 4), none, .mov (.t 13)⟩])))))) (.seq (.reg [⟨(some 22), none, .mov (.t 3)⟩,
  ⟨(some 2), none, .mov (.t 22)⟩]) (.ret))))
def laws_toOutgoingS_r : List RS := [.t 2]
def laws_toOutgoingS_s0 (t0 t3 t4 : AV) (loc : List (List AV)) (h : AH) : St := ⟨[t0, .any, .any, t3, t4, .any, .any, .any, .any, .any, .any, .any, .any, .any, .any, .any, .any, .any, .any, .any, .any, .any, .any], loc, h⟩
theorem laws_toOutgoingS_e {a0 : AV} {h : AH} {K : AV → AH → Prop} (hw : TC Tryz.prog Θ Γ laws_toOutgoingS_c (retQ laws_toOutgoingS_r K) ⟨[a0, u, u, u, u, u, u, u, u, u, u, u, u, u, u, u, u, u, u, u, u, u, u], [], h⟩) : T Tryz.prog Γ Fn.laws_toOutgoingS [a0] h K :=
  T_of_body tabOK Tryz.func46 (code := bodyOf Tryz.f46) (by kernel_rfl) (by kernel_rfl) (by kernel_rfl) (by kernel_rfl) hw
def laws_toGift_c : C := .seq (.reg [⟨(some 1), none, .box (.t 0)⟩,
  ⟨(some 2), none, .alloc [.int .i64 0, .int .i64 0, .int .i64 0, .int .i64 0]⟩]) (.seq (.reg [⟨(some 3), none, .alloc [.int .i64 0, .int .i64 0, .int .i64 0, .int .i64 0]⟩]) (.seq (.reg [⟨(some 4), none, .fld 0 (.t 1)⟩,
  ⟨(some 5), none, .load 1 false (.t 4)⟩,
  ⟨(some 6), none, .fld 0 (.t 3)⟩,
  ⟨none, none, .store 1 (.t 6) (.t 5)⟩]) (.seq (.reg [⟨(some 7), none, .fld 1 (.t 1)⟩,
  ⟨(some 8), none, .load 1 false (.t 7)⟩,
  ⟨(some 9), none, .fld 1 (.t 3)⟩,
  ⟨none, none, .store 1 (.t 9) (.t 8)⟩]) (.seq (.reg [⟨(some 10), none, .fld 2 (.t 1)⟩,
  ⟨(some 11), none, .load 1 false (.t 10)⟩,
  ⟨(some 12), none, .fld 2 (.t 3)⟩,
  ⟨none, none, .store 1 (.t 12) (.t 11)⟩]) (.seq (.reg [⟨(some 13), none, .fld 3 (.t 1)⟩,
  ⟨(some 14), none, .load 1 false (.t 13)⟩,
  ⟨(some 15), none, .fld 3 (.t 3)⟩,
  ⟨none, none, .store 1 (.t 15) (.t 14)⟩]) (.seq (.reg [⟨(some 16), none, .load 4 true (.t 3)⟩,
  ⟨none, none, .store 4 (.t 2) (.t 16)⟩]) (.ret)))))))
def laws_toGift_r : List RS := [.cell 2 4 true]
theorem laws_toGift_e {a0 : AV} {h : AH} {K : AV → AH → Prop} (hw : TC Tryz.prog Θ Γ laws_toGift_c (retQ laws_toGift_r K) ⟨[a0, u, u, u, u, u, u, u, u, u, u, u, u, u, u, u, u], [], h⟩) : T Tryz.prog Γ Fn.laws_toGift [a0] h K :=
  T_of_body tabOK Tryz.func47 (code := bodyOf Tryz.f47) (by kernel_rfl) (by kernel_rfl) (by kernel_rfl) (by kernel_rfl) hw
def impl_Vat_link_d0_os : List O := [⟨(some 13), none, .mov (.t 0)⟩,
  ⟨(some 14), none, .nilchk (.t 13)⟩,
  ⟨(some 15), none, .load 5 true (.t 14)⟩,
  ⟨(some 16), none, .load 1 false (.t 3)⟩,
  ⟨(some 17), none, .call (.c (.fn Fn.impl_LinkTo [] [])) [.t 15, .t 16]⟩,
  ⟨(some 6), none, .mov (.t 17)⟩]
def impl_Vat_link_d0_af : List (List Nat) := [[], [0], [1], [], [2, 3], [4, 4, 0, 1, 2, 3, 4]]
theorem impl_Vat_link_d0_q (gl : Gl) (Q : AE → St → Prop) (s : St) : aw Tryz.prog Θ Γ gl (.regD impl_Vat_link_d0_os impl_Vat_link_d0_af) Q s = awpT Tryz.prog Γ gl [⟨(some 13), none, .mov (.t 0)⟩,
  ⟨(some 14), none, .nilchk (.t 13)⟩,
  ⟨(some 15), none, .load 5 true (.t 14)⟩,
  ⟨(some 16), none, .load 1 false (.t 3)⟩,
  ⟨(some 17), none, .call (.c (.fn Fn.impl_LinkTo [] [])) [.t 15, .t 16]⟩,
  ⟨(some 6), none, .mov (.t 17)⟩] (Q .normal) 6 (.q 0 (.q 1 (.q 2 (.q 3 (.q 4 (.q 5 (.done))))))) s := a_dd rfl (by kernel_rfl) gl Q s
def impl_Vat_link_c : C := .seq (.reg [⟨(some 3), none, .box (.t 1)⟩,
  ⟨(some 4), none, .mov (.c (.nilp))⟩]) (.seq (.reg [⟨(some 7), none, .mov (.t 0)⟩,
  ⟨(some 8), none, .nilchk (.t 7)⟩,
  ⟨(some 9), none, .fld 3 (.t 8)⟩,
  ⟨(some 10), none, .load 1 false (.t 9)⟩,
  ⟨(some 11), none, .mkf Fn.impl_Vat_link_1 [] [.t 3]⟩,
  ⟨(some 12), none, .call (.c (.fn Fn.slices_ContainsFunc_iimpl_Link_impl_Link [] [])) [.t 10, .t 11]⟩,
  ⟨(some 5), none, .mov (.t 12)⟩]) (.seq (.seq (.regD impl_Vat_link_d0_os impl_Vat_link_d0_af) (.seq (.reg [⟨(some 18), none, .mov (.t 6)⟩,
  ⟨(some 19), none, .bin .geq (.num) (.t 18) (.c (.int .i64 0))⟩,
  ⟨(some 20), none, .mov (.t 19)⟩,
  ⟨(some 21), (some (2, true)), .mov (.t 5)⟩,
  ⟨(some 22), none, .pick (.t 20) (.t 21) (.c (.bool false))⟩]) (.cond (.t 22) (.seq (.reg [⟨(some 23), none, .mov (.t 0)⟩,
  ⟨(some 24), none, .nilchk (.t 23)⟩,
  ⟨(some 25), none, .fld 3 (.t 24)⟩,
  ⟨(some 26), none, .load 1 false (.t 25)⟩,
  ⟨(some 27), none, .mov (.t 6)⟩,
  ⟨(some 28), none, .idxs 7 (.t 26) (.t 27)⟩,
  ⟨(some 4), none, .mov (.t 28)⟩]) (.ret)) (.skip)))) (.seq (.reg [⟨(some 4), none, .mov (.c (.nilp))⟩]) (.ret))))
def impl_Vat_link_r : List RS := [.t 4]
theorem impl_Vat_link_e {a0 a1 : AV} {h : AH} {K : AV → AH → Prop} (hw : TC Tryz.prog Θ Γ impl_Vat_link_c (retQ impl_Vat_link_r K) ⟨[a0, a1, u, u, u, u, u, u, u, u, u, u, u, u, u, u, u, u, u, u, u, u, u, u, u, u, u, u, u], [], h⟩) : T Tryz.prog Γ Fn.impl_Vat_link [a0, a1] h K :=
  T_of_body tabOK Tryz.func48 (code := bodyOf Tryz.f48) (by kernel_rfl) (by kernel_rfl) (by kernel_rfl) (by kernel_rfl) hw
def slices_Clone_iimpl_Gift_impl_Gift_c : C := .seq (.reg [⟨(some 2), none, .mov (.c (.nils))⟩]) (.seq (.seq (.reg [⟨(some 3), none, .mov (.t 0)⟩,
  ⟨(some 4), none, .bin .eql (.nils) (.t 3) (.c (.nils))⟩]) (.cond (.t 4) (.seq (.reg [⟨(some 2), none, .mov (.c (.nils))⟩]) (.ret)) (.skip))) (.seq (.reg [⟨(some 5), none, .bsl 4 0 [.int .i64 0, .int .i64 0, .int .i64 0, .int .i64 0] []⟩,
  ⟨(some 6), none, .mov (.t 0)⟩,
  ⟨(some 7), none, .app 4 32 [.int .i64 0, .int .i64 0, .int .i64 0, .int .i64 0] false (.t 5) (.t 6)⟩,
  ⟨(some 2), none, .mov (.t 7)⟩]) (.ret)))
def slices_Clone_iimpl_Gift_impl_Gift_r : List RS := [.t 2]
theorem slices_Clone_iimpl_Gift_impl_Gift_e {a0 : AV} {h : AH} {K : AV → AH → Prop} (hw : TC Tryz.prog Θ Γ slices_Clone_iimpl_Gift_impl_Gift_c (retQ slices_Clone_iimpl_Gift_impl_Gift_r K) ⟨[a0, u, u, u, u, u, u, u], [], h⟩) : T Tryz.prog Γ Fn.slices_Clone_iimpl_Gift_impl_Gift [a0] h K :=
  T_of_body tabOK Tryz.func50 (code := bodyOf Tryz.f50) (by kernel_rfl) (by kernel_rfl) (by kernel_rfl) (by kernel_rfl) hw
def laws_eqGift_c : C := .seq (.reg [⟨(some 2), none, .box (.t 0)⟩,
  ⟨(some 3), none, .box (.t 1)⟩,
  ⟨(some 4), none, .mov (.c (.bool false))⟩]) (.seq (.seq (.reg [⟨(some 5), none, .fld 0 (.t 2)⟩,
  ⟨(some 6), none, .load 1 false (.t 5)⟩,
  ⟨(some 7), none, .fld 0 (.t 3)⟩,
  ⟨(some 8), none, .load 1 false (.t 7)⟩,
  ⟨(some 9), none, .bin .neq (.num) (.t 6) (.t 8)⟩]) (.cond (.t 9) (.seq (.reg [⟨(some 4), none, .mov (.c (.bool false))⟩]) (.ret)) (.skip))) (.seq (.seq (.reg [⟨(some 10), none, .fld 1 (.t 2)⟩,
  ⟨(some 11), none, .load 1 false (.t 10)⟩,
  ⟨(some 12), none, .fld 1 (.t 3)⟩,
  ⟨(some 13), none, .load 1 false (.t 12)⟩,
  ⟨(some 14), none, .bin .neq (.num) (.t 11) (.t 13)⟩]) (.cond (.t 14) (.seq (.reg [⟨(some 4), none, .mov (.c (.bool false))⟩]) (.ret)) (.skip))) (.seq (.seq (.reg [⟨(some 15), none, .fld 2 (.t 2)⟩,
  ⟨(some 16), none, .load 1 false (.t 15)⟩,
  ⟨(some 17), none, .fld 2 (.t 3)⟩,
  ⟨(some 18), none, .load 1 false (.t 17)⟩,
  ⟨(some 19), none, .bin .neq (.num) (.t 16) (.t 18)⟩]) (.cond (.t 19) (.seq (.reg [⟨(some 4), none, .mov (.c (.bool false))⟩]) (.ret)) (.skip))) (.seq (.seq (.reg [⟨(some 20), none, .fld 3 (.t 2)⟩,
  ⟨(some 21), none, .load 1 false (.t 20)⟩,
  ⟨(some 22), none, .fld 3 (.t 3)⟩,
  ⟨(some 23), none, .load 1 false (.t 22)⟩,
  ⟨(some 24), none, .bin .neq (.num) (.t 21) (.t 23)⟩]) (.cond (.t 24) (.seq (.reg [⟨(some 4), none, .mov (.c (.bool false))⟩]) (.ret)) (.skip))) (.seq (.reg [⟨(some 4), none, .mov (.c (.bool true))⟩]) (.ret))))))
def laws_eqGift_r : List RS := [.t 4]
theorem laws_eqGift_e {a0 a1 : AV} {h : AH} {K : AV → AH → Prop} (hw : TC Tryz.prog Θ Γ laws_eqGift_c (retQ laws_eqGift_r K) ⟨[a0, a1, u, u, u, u, u, u, u, u, u, u, u, u, u, u, u, u, u, u, u, u, u, u, u], [], h⟩) : T Tryz.prog Γ Fn.laws_eqGift [a0, a1] h K :=
  T_of_body tabOK Tryz.func53 (code := bodyOf Tryz.f53) (by kernel_rfl) (by kernel_rfl) (by kernel_rfl) (by kernel_rfl) hw
def laws_eqEntityS_d0_os : List O := [⟨(some 17), none, .mov (.t 0)⟩,
  ⟨(some 18), none, .mov (.t 5)⟩,
  ⟨(some 19), none, .idxs 12 (.t 17) (.t 18)⟩,
  ⟨(some 20), none, .load 12 true (.t 19)⟩,
  ⟨(some 21), none, .mov (.t 1)⟩,
  ⟨(some 22), none, .mov (.t 5)⟩,
  ⟨(some 23), none, .idxs 12 (.t 21) (.t 22)⟩,
  ⟨(some 24), none, .load 12 true (.t 23)⟩,
  ⟨(some 25), none, .call (.c (.fn Fn.laws_eqEntity [] [])) [.t 20, .t 24]⟩,
  ⟨(some 26), none, .un .not (.t 25)⟩]
def laws_eqEntityS_d0_af : List (List Nat) := [[], [], [0, 1], [2], [], [], [4, 5], [6], [3, 7], [8]]
theorem laws_eqEntityS_d0_q (gl : Gl) (Q : AE → St → Prop) (s : St) : aw Tryz.prog Θ Γ gl (.regD laws_eqEntityS_d0_os laws_eqEntityS_d0_af) Q s = awpT Tryz.prog Γ gl [⟨(some 17), none, .mov (.t 0)⟩,
  ⟨(some 18), none, .mov (.t 5)⟩,
  ⟨(some 19), none, .idxs 12 (.t 17) (.t 18)⟩,
  ⟨(some 20), none, .load 12 true (.t 19)⟩,
  ⟨(some 21), none, .mov (.t 1)⟩,
  ⟨(some 22), none, .mov (.t 5)⟩,
  ⟨(some 23), none, .idxs 12 (.t 21) (.t 22)⟩,
  ⟨(some 24), none, .load 12 true (.t 23)⟩,
  ⟨(some 25), none, .call (.c (.fn Fn.laws_eqEntity [] [])) [.t 20, .t 24]⟩,
  ⟨(some 26), none, .un .not (.t 25)⟩] (Q .normal) 10 (.q 0 (.q 1 (.q 2 (.q 3 (.q 4 (.q 5 (.q 6 (.q 7 (.q 8 (.q 9 (.done))))))))))) s := a_dd rfl (by kernel_rfl) gl Q s
def laws_eqEntityS_c : C := .seq (.reg [⟨(some 4), none, .mov (.c (.bool false))⟩]) (.seq (.seq (.reg [⟨(some 6), none, .mov (.t 0)⟩,
  ⟨(some 7), none, .len false (.t 6)⟩,
  ⟨(some 8), none, .mov (.t 1)⟩,
  ⟨(some 9), none, .len false (.t 8)⟩,
  ⟨(some 10), none, .bin .neq (.num) (.t 7) (.t 9)⟩]) (.cond (.t 10) (.seq (.reg [⟨(some 4), none, .mov (.c (.bool false))⟩]) (.ret)) (.skip))) (.seq (.seq (.reg [⟨(some 5), none, .mov (.c (.int .i64 0))⟩]) (.block 0 (.loop (.seq (.seq (.reg [⟨(some 11), none, .mov (.t 5)⟩,
  ⟨(some 12), none, .mov (.t 0)⟩,
  ⟨(some 13), none, .len false (.t 12)⟩,
  ⟨(some 14), none, .bin .lss (.num) (.t 11) (.t 13)⟩]) (.cond (.t 14) (.skip) (.exit 0))) (.seq (.block 1 (.seq (.regD laws_eqEntityS_d0_os laws_eqEntityS_d0_af) (.cond (.t 26) (.seq (.reg [⟨(some 4), none, .mov (.c (.bool false))⟩]) (.ret)) (.skip)))) (.reg [⟨(some 15), none, .mov (.t 5)⟩,
  ⟨(some 16), none, .bin .add (.num) (.t 15) (.c (.int .i64 1))⟩,
  ⟨(some 5), none, .mov (.t 16)⟩])))))) (.seq (.reg [⟨(some 4), none, .mov (.c (.bool true))⟩]) (.ret))))
def laws_eqEntityS_r : List RS := [.t 4]
def laws_eqEntityS_s0 (t0 t1 t5 : AV) (loc : List (List AV)) (h : AH) : St := ⟨[t0, t1, .any, .any, .any, t5, .any, .any, .any, .any, .any, .any, .any, .any, .any, .any, .any, .any, .any, .any, .any, .any, .any, .any, .any, .any, .any], loc, h⟩
theorem laws_eqEntityS_e {a0 a1 : AV} {h : AH} {K : AV → AH → Prop} (hw : TC Tryz.prog Θ Γ laws_eqEntityS_c (retQ laws_eqEntityS_r K) ⟨[a0, a1, u, u, u, u, u, u, u, u, u, u, u, u, u, u, u, u, u, u, u, u, u, u, u, u, u], [], h⟩) : T Tryz.prog Γ Fn.laws_eqEntityS [a0, a1] h K :=
  T_of_body tabOK Tryz.func54 (code := bodyOf Tryz.f54) (by kernel_rfl) (by kernel_rfl) (by kernel_rfl) (by kernel_rfl) hw
def laws_eqSentS_d0_os : List O := [⟨(some 17), none, .mov (.t 0)⟩,
  ⟨(some 18), none, .mov (.t 5)⟩,
  ⟨(some 19), none, .idxs 7 (.t 17) (.t 18)⟩,
  ⟨(some 20), none, .load 7 true (.t 19)⟩,
  ⟨(some 21), none, .mov (.t 1)⟩,
  ⟨(some 22), none, .mov (.t 5)⟩,
  ⟨(some 23), none, .idxs 7 (.t 21) (.t 22)⟩,
  ⟨(some 24), none, .load 7 true (.t 23)⟩,
  ⟨(some 25), none, .call (.c (.fn Fn.laws_eqSent [] [])) [.t 20, .t 24]⟩,
  ⟨(some 26), none, .un .not (.t 25)⟩]
def laws_eqSentS_d0_af : List (List Nat) := [[], [], [0, 1], [2], [], [], [4, 5], [6], [3, 7], [8]]
theorem laws_eqSentS_d0_q (gl : Gl) (Q : AE → St → Prop) (s : St) : aw Tryz.prog Θ Γ gl (.regD laws_eqSentS_d0_os laws_eqSentS_d0_af) Q s = awpT Tryz.prog Γ gl [⟨(some 17), none, .mov (.t 0)⟩,
  ⟨(some 18), none, .mov (.t 5)⟩,
  ⟨(some 19), none, .idxs 7 (.t 17) (.t 18)⟩,
  ⟨(some 20), none, .load 7 true (.t 19)⟩,
  ⟨(some 21), none, .mov (.t 1)⟩,
  ⟨(some 22), none, .mov (.t 5)⟩,
  ⟨(some 23), none, .idxs 7 (.t 21) (.t 22)⟩,
  ⟨(some 24), none, .load 7 true (.t 23)⟩,
  ⟨(some 25), none, .call (.c (.fn Fn.laws_eqSent [] [])) [.t 20, .t 24]⟩,
  ⟨(some 26), none, .un .not (.t 25)⟩] (Q .normal) 10 (.q 0 (.q 1 (.q 2 (.q 3 (.q 4 (.q 5 (.q 6 (.q 7 (.q 8 (.q 9 (.done))))))))))) s := a_dd rfl (by kernel_rfl) gl Q s
def laws_eqSentS_c : C := .seq (.reg [⟨(some 4), none, .mov (.c (.bool false))⟩]) (.seq (.seq (.reg [⟨(some 6), none, .mov (.t 0)⟩,
  ⟨(some 7), none, .len false (.t 6)⟩,
  ⟨(some 8), none, .mov (.t 1)⟩,
  ⟨(some 9), none, .len false (.t 8)⟩,
  ⟨(some 10), none, .bin .neq (.num) (.t 7) (.t 9)⟩]) (.cond (.t 10) (.seq (.reg [⟨(some 4), none, .mov (.c (.bool false))⟩]) (.ret)) (.skip))) (.seq (.seq (.reg [⟨(some 5), none, .mov (.c (.int .i64 0))⟩]) (.block 0 (.loop (.seq (.seq (.reg [⟨(some 11), none, .mov (.t 5)⟩,
  ⟨(some 12), none, .mov (.t 0)⟩,
  ⟨(some 13), none, .len false (.t 12)⟩,
  ⟨(some 14), none, .bin .lss (.num) (.t 11) (.t 13)⟩]) (.cond (.t 14) (.skip) (.exit 0))) (.seq (.block 1 (.seq (.regD laws_eqSentS_d0_os laws_eqSentS_d0_af) (.cond (.t 26) (.seq (.reg [⟨(some 4), none, .mov (.c (.bool false))⟩]) (.ret)) (.skip)))) (.reg [⟨(some 15), none, .mov (.t 5)⟩,
  ⟨(some 16), none, .bin .add (.num) (.t 15) (.c (.int .i64 1))⟩,
  ⟨(some 5), none, .mov (.t 16)⟩])))))) (.seq (.reg [⟨(some 4), none, .mov (.c (.bool true))⟩]) (.ret))))
def laws_eqSentS_r : List RS := [.t 4]
def laws_eqSentS_s0 (t0 t1 t5 : AV) (loc : List (List AV)) (h : AH) : St := ⟨[t0, t1, .any, .any, .any, t5, .any, .any, .any, .any, .any, .any, .any, .any, .any, .any, .any, .any, .any, .any, .any, .any, .any, .any, .any, .any, .any], loc, h⟩
theorem laws_eqSentS_e {a0 a1 : AV} {h : AH} {K : AV → AH → Prop} (hw : TC Tryz.prog Θ Γ laws_eqSentS_c (retQ laws_eqSentS_r K) ⟨[a0, a1, u, u, u, u, u, u, u, u, u, u, u, u, u, u, u, u, u, u, u, u, u, u, u, u, u], [], h⟩) : T Tryz.prog Γ Fn.laws_eqSentS [a0, a1] h K :=
  T_of_body tabOK Tryz.func55 (code := bodyOf Tryz.f55) (by kernel_rfl) (by kernel_rfl) (by kernel_rfl) (by kernel_rfl) hw
def laws_eqLinkS_d0_os : List O := [⟨(some 17), none, .mov (.t 0)⟩,
  ⟨(some 18), none, .mov (.t 5)⟩,
  ⟨(some 19), none, .idxs 7 (.t 17) (.t 18)⟩,
  ⟨(some 20), none, .load 7 true (.t 19)⟩,
  ⟨(some 21), none, .mov (.t 1)⟩,
  ⟨(some 22), none, .mov (.t 5)⟩,
  ⟨(some 23), none, .idxs 7 (.t 21) (.t 22)⟩,
  ⟨(some 24), none, .load 7 true (.t 23)⟩,
  ⟨(some 25), none, .call (.c (.fn Fn.laws_eqLink [] [])) [.t 20, .t 24]⟩,
  ⟨(some 26), none, .un .not (.t 25)⟩]
def laws_eqLinkS_d0_af : List (List Nat) := [[], [], [0, 1], [2], [], [], [4, 5], [6], [3, 7], [8]]
theorem laws_eqLinkS_d0_q (gl : Gl) (Q : AE → St → Prop) (s : St) : aw Tryz.prog Θ Γ gl (.regD laws_eqLinkS_d0_os laws_eqLinkS_d0_af) Q s = awpT Tryz.prog Γ gl [⟨(some 17), none, .mov (.t 0)⟩,
  ⟨(some 18), none, .mov (.t 5)⟩,
  ⟨(some 19), none, .idxs 7 (.t 17) (.t 18)⟩,
  ⟨(some 20), none, .load 7 true (.t 19)⟩,
  ⟨(some 21), none, .mov (.t 1)⟩,
  ⟨(some 22), none, .mov (.t 5)⟩,
  ⟨(some 23), none, .idxs 7 (.t 21) (.t 22)⟩,
  ⟨(some 24), none, .load 7 true (.t 23)⟩,
  ⟨(some 25), none, .call (.c (.fn Fn.laws_eqLink [] [])) [.t 20, .t 24]⟩,
  ⟨(some 26), none, .un .not (.t 25)⟩] (Q .normal) 10 (.q 0 (.q 1 (.q 2 (.q 3 (.q 4 (.q 5 (.q 6 (.q 7 (.q 8 (.q 9 (.done))))))))))) s := a_dd rfl (by kernel_rfl) gl Q s
def laws_eqLinkS_c : C := .seq (.reg [⟨(some 4), none, .mov (.c (.bool false))⟩]) (.seq (.seq (.reg [⟨(some 6), none, .mov (.t 0)⟩,
  ⟨(some 7), none, .len false (.t 6)⟩,
  ⟨(some 8), none, .mov (.t 1)⟩,
  ⟨(some 9), none, .len false (.t 8)⟩,
  ⟨(some 10), none, .bin .neq (.num) (.t 7) (.t 9)⟩]) (.cond (.t 10) (.seq (.reg [⟨(some 4), none, .mov (.c (.bool false))⟩]) (.ret)) (.skip))) (.seq (.seq (.reg [⟨(some 5), none, .mov (.c (.int .i64 0))⟩]) (.block 0 (.loop (.seq (.seq (.reg [⟨(some 11), none, .mov (.t 5)⟩,
  ⟨(some 12), none, .mov (.t 0)⟩,
  ⟨(some 13), none, .len false (.t 12)⟩,
  ⟨(some 14), none, .bin .lss (.num) (.t 11) (.t 13)⟩]) (.cond (.t 14) (.skip) (.exit 0))) (.seq (.block 1 (.seq (.regD laws_eqLinkS_d0_os laws_eqLinkS_d0_af) (.cond (.t 26) (.seq (.reg [⟨(some 4), none, .mov (.c (.bool false))⟩]) (.ret)) (.skip)))) (.reg [⟨(some 15), none, .mov (.t 5)⟩,
  ⟨(some 16), none, .bin .add (.num) (.t 15) (.c (.int .i64 1))⟩,
  ⟨(some 5), none, .mov (.t 16)⟩])))))) (.seq (.reg [⟨(some 4), none, .mov (.c (.bool true))⟩]) (.ret))))
def laws_eqLinkS_r : List RS := [.t 4]
def laws_eqLinkS_s0 (t0 t1 t5 : AV) (loc : List (List AV)) (h : AH) : St := ⟨[t0, t1, .any, .any, .any, t5, .any, .any, .any, .any, .any, .any, .any, .any, .any, .any, .any, .any, .any, .any, .any, .any, .any, .any, .any, .any, .any], loc, h⟩
theorem laws_eqLinkS_e {a0 a1 : AV} {h : AH} {K : AV → AH → Prop} (hw : TC Tryz.prog Θ Γ laws_eqLinkS_c (retQ laws_eqLinkS_r K) ⟨[a0, a1, u, u, u, u, u, u, u, u, u, u, u, u, u, u, u, u, u, u, u, u, u, u, u, u, u], [], h⟩) : T Tryz.prog Γ Fn.laws_eqLinkS [a0, a1] h K :=
  T_of_body tabOK Tryz.func56 (code := bodyOf Tryz.f56) (by kernel_rfl) (by kernel_rfl) (by kernel_rfl) (by kernel_rfl) hw
def laws_eqOutgoingS_d0_os : List O := [⟨(some 17), none, .mov (.t 0)⟩,
  ⟨(some 18), none, .mov (.t 5)⟩,
  ⟨(some 19), none, .idxs 13 (.t 17) (.t 18)⟩,
  ⟨(some 20), none, .load 13 true (.t 19)⟩,
  ⟨(some 21), none, .mov (.t 1)⟩,
  ⟨(some 22), none, .mov (.t 5)⟩,
  ⟨(some 23), none, .idxs 13 (.t 21) (.t 22)⟩,
  ⟨(some 24), none, .load 13 true (.t 23)⟩,
  ⟨(some 25), none, .call (.c (.fn Fn.laws_eqOutgoing [] [])) [.t 20, .t 24]⟩,
  ⟨(some 26), none, .un .not (.t 25)⟩]
def laws_eqOutgoingS_d0_af : List (List Nat) := [[], [], [0, 1], [2], [], [], [4, 5], [6], [3, 7], [8]]
theorem laws_eqOutgoingS_d0_q (gl : Gl) (Q : AE → St → Prop) (s : St) : aw Tryz.prog Θ Γ gl (.regD laws_eqOutgoingS_d0_os laws_eqOutgoingS_d0_af) Q s = awpT Tryz.prog Γ gl [⟨(some 17), none, .mov (.t 0)⟩,
  ⟨(some 18), none, .mov (.t 5)⟩,
  ⟨(some 19), none, .idxs 13 (.t 17) (.t 18)⟩,
  ⟨(some 20), none, .load 13 true (.t 19)⟩,
  ⟨(some 21), none, .mov (.t 1)⟩,
  ⟨(some 22), none, .mov (.t 5)⟩,
  ⟨(some 23), none, .idxs 13 (.t 21) (.t 22)⟩,
  ⟨(some 24), none, .load 13 true (.t 23)⟩,
  ⟨(some 25), none, .call (.c (.fn Fn.laws_eqOutgoing [] [])) [.t 20, .t 24]⟩,
  ⟨(some 26), none, .un .not (.t 25)⟩] (Q .normal) 10 (.q 0 (.q 1 (.q 2 (.q 3 (.q 4 (.q 5 (.q 6 (.q 7 (.q 8 (.q 9 (.done))))))))))) s := a_dd rfl (by kernel_rfl) gl Q s
def laws_eqOutgoingS_c : C := .seq (.reg [⟨(some 4), none, .mov (.c (.bool false))⟩]) (.seq (.seq (.reg [⟨(some 6), none, .mov (.t 0)⟩,
  ⟨(some 7), none, .len false (.t 6)⟩,
  ⟨(some 8), none, .mov (.t 1)⟩,
  ⟨(some 9), none, .len false (.t 8)⟩,
  ⟨(some 10), none, .bin .neq (.num) (.t 7) (.t 9)⟩]) (.cond (.t 10) (.seq (.reg [⟨(some 4), none, .mov (.c (.bool false))⟩]) (.ret)) (.skip))) (.seq (.seq (.reg [⟨(some 5), none, .mov (.c (.int .i64 0))⟩]) (.block 0 (.loop (.seq (.seq (.reg [⟨(some 11), none, .mov (.t 5)⟩,
  ⟨(some 12), none, .mov (.t 0)⟩,
  ⟨(some 13), none, .len false (.t 12)⟩,
  ⟨(some 14), none, .bin .lss (.num) (.t 11) (.t 13)⟩]) (.cond (.t 14) (.skip) (.exit 0))) (.seq (.block 1 (.seq (.regD laws_eqOutgoingS_d0_os laws_eqOutgoingS_d0_af) (.cond (.t 26) (.seq (.reg [⟨(some 4), none, .mov (.c (.bool false))⟩]) (.ret)) (.skip)))) (.reg [⟨(some 15), none, .mov (.t 5)⟩,
  ⟨(some 16), none, .bin .add (.num) (.t 15) (.c (.int .i64 1))⟩,
  ⟨(some 5), none, .mov (.t 16)⟩])))))) (.seq (.reg [⟨(some 4), none, .mov (.c (.bool true))⟩]) (.ret))))
def laws_eqOutgoingS_r : List RS := [.t 4]
def laws_eqOutgoingS_s0 (t0 t1 t5 : AV) (loc : List (List AV)) (h : AH) : St := ⟨[t0, t1, .any, .any, .any, t5, .any, .any, .any, .any, .any, .any, .any, .any, .any, .any, .any, .any, .any, .any, .any, .any, .any, .any, .any, .any, .any], loc, h⟩
theorem laws_eqOutgoingS_e {a0 a1 : AV} {h : AH} {K : AV → AH → Prop} (hw : TC Tryz.prog Θ Γ laws_eqOutgoingS_c (retQ laws_eqOutgoingS_r K) ⟨[a0, a1, u, u, u, u, u, u, u, u, u, u, u, u, u, u, u, u, u, u, u, u, u, u, u, u, u], [], h⟩) : T Tryz.prog Γ Fn.laws_eqOutgoingS [a0, a1] h K :=
  T_of_body tabOK Tryz.func57 (code := bodyOf Tryz.f57) (by kernel_rfl) (by kernel_rfl) (by kernel_rfl) (by kernel_rfl) hw
def laws_markEntityS_c : C := .seq (.reg [⟨(some 4), none, .mov (.c (.int .i64 0))⟩]) (.seq (.seq (.reg [⟨(some 5), none, .mov (.c (.int .i64 0))⟩]) (.block 0 (.loop (.seq (.seq (.reg [⟨(some 6), none, .mov (.t 5)⟩,
  ⟨(some 7), none, .mov (.t 0)⟩,
  ⟨(some 8), none, .len false (.t 7)⟩,
  ⟨(some 9), none, .bin .lss (.num) (.t 6) (.t 8)⟩]) (.cond (.t 9) (.skip) (.exit 0))) (.seq (.block 1 (.seq (.reg [⟨(some 12), none, .mov (.t 0)⟩,
  ⟨(some 13), none, .mov (.t 5)⟩,
  ⟨(some 14), none, .mov (.t 1)⟩,
  ⟨(some 15), none, .idxs 12 (.t 12) (.t 13)⟩,
  ⟨(some 16), none, .fld 0 (.t 15)⟩,
  ⟨none, none, .store 1 (.t 16) (.t 14)⟩]) (.seq (.reg [⟨(some 17), none, .mov (.t 1)⟩,
  ⟨(some 18), none, .bin .add (.num) (.t 17) (.c (.int .i64 1))⟩,
  ⟨(some 1), none, .mov (.t 18)⟩]) (.seq (.reg [⟨(some 19), none, .mov (.t 0)⟩,
  ⟨(some 20), none, .mov (.t 5)⟩,
  ⟨(some 21), none, .mov (.t 1)⟩,
  ⟨(some 22), none, .idxs 12 (.t 19) (.t 20)⟩,
  ⟨(some 23), none, .fld 1 (.t 22)⟩,
  ⟨none, none, .store 1 (.t 23) (.t 21)⟩]) (.seq (.reg [⟨(some 24), none, .mov (.t 1)⟩,
  ⟨(some 25), none, .bin .add (.num) (.t 24) (.c (.int .i64 1))⟩,
  ⟨(some 1), none, .mov (.t 25)⟩]) (.seq (.reg [⟨(some 26), none, .mov (.t 0)⟩,
  ⟨(some 27), none, .mov (.t 5)⟩,
  ⟨(some 28), none, .idxs 12 (.t 26) (.t 27)⟩,
  ⟨(some 29), none, .fld 2 (.t 28)⟩,
  ⟨(some 30), none, .load 1 false (.t 29)⟩,
  ⟨(some 31), none, .mov (.t 1)⟩,
  ⟨(some 32), none, .call (.c (.fn Fn.laws_markValueS [] [])) [.t 30, .t 31]⟩,
  ⟨(some 1), none, .mov (.t 32)⟩]) (.seq (.reg [⟨(some 33), none, .mov (.t 0)⟩,
  ⟨(some 34), none, .mov (.t 5)⟩,
  ⟨(some 35), none, .mov (.t 1)⟩,
  ⟨(some 36), none, .idxs 12 (.t 33) (.t 34)⟩,
  ⟨(some 37), none, .fld 3 (.t 36)⟩,
  ⟨none, none, .store 1 (.t 37) (.t 35)⟩]) (.seq (.reg [⟨(some 38), none, .mov (.t 1)⟩,
  ⟨(some 39), none, .bin .add (.num) (.t 38) (.c (.int .i64 1))⟩,
  ⟨(some 1), none, .mov (.t 39)⟩]) (.seq (.reg [⟨(some 40), none, .mov (.t 0)⟩,
  ⟨(some 41), none, .mov (.t 5)⟩,
  ⟨(some 42), none, .mov (.t 1)⟩,
  ⟨(some 43), none, .idxs 12 (.t 40) (.t 41)⟩,
  ⟨(some 44), none, .fld 4 (.t 43)⟩,
  ⟨(some 45), none, .fld 0 (.t 44)⟩,
  ⟨none, none, .store 1 (.t 45) (.t 42)⟩]) (.seq (.reg [⟨(some 46), none, .mov (.t 1)⟩,
  ⟨(some 47), none, .bin .add (.num) (.t 46) (.c (.int .i64 1))⟩,
  ⟨(some 1), none, .mov (.t 47)⟩]) (.seq (.reg [⟨(some 48), none, .mov (.t 0)⟩,
  ⟨(some 49), none, .mov (.t 5)⟩,
  ⟨(some 50), none, .mov (.t 1)⟩,
  ⟨(some 51), none, .idxs 12 (.t 48) (.t 49)⟩,
  ⟨(some 52), none, .fld 4 (.t 51)⟩,
  ⟨(some 53), none, .fld 1 (.t 52)⟩,
  ⟨none, none, .store 1 (.t 53) (.t 50)⟩]) (.seq (.reg [⟨(some 54), none, .mov (.t 1)⟩,
  ⟨(some 55), none, .bin .add (.num) (.t 54) (.c (.int .i64 1))⟩,
  ⟨(some 1), none, .mov (.t 55)⟩]) (.seq (.reg [⟨(some 56), none, .mov (.t 0)⟩,
  ⟨(some 57), none, .mov (.t 5)⟩,
  ⟨(some 58), none, .idxs 12 (.t 56) (.t 57)⟩,
  ⟨(some 59), none, .fld 6 (.t 58)⟩,
  ⟨(some 60), none, .load 1 false (.t 59)⟩,
  ⟨(some 61), none, .mov (.t 1)⟩,
  ⟨(some 62), none, .call (.c (.fn Fn.laws_markSentS [] [])) [.t 60, .t 61]⟩,
  ⟨(some 1), none, .mov (.t 62)⟩]) (.seq (.reg [⟨(some 63), none, .mov (.t 0)⟩,
  ⟨(some 64), none, .mov (.t 5)⟩,
  ⟨(some 65), none, .idxs 12 (.t 63) (.t 64)⟩,
  ⟨(some 66), none, .fld 7 (.t 65)⟩,
  ⟨(some 67), none, .load 1 false (.t 66)⟩,
  ⟨(some 68), none, .mov (.t 1)⟩,
  ⟨(some 69), none, .call (.c (.fn Fn.laws_markAskerS [] [])) [.t 67, .t 68]⟩,
  ⟨(some 1), none, .mov (.t 69)⟩]) (.seq (.reg [⟨(some 70), none, .mov (.t 0)⟩,
  ⟨(some 71), none, .mov (.t 5)⟩,
  ⟨(some 72), none, .mov (.t 1)⟩,
  ⟨(some 73), none, .idxs 12 (.t 70) (.t 71)⟩,
  ⟨(some 74), none, .fld 8 (.t 73)⟩,
  ⟨none, none, .store 1 (.t 74) (.t 72)⟩]) (.seq (.reg [⟨(some 75), none, .mov (.t 1)⟩,
  ⟨(some 76), none, .bin .add (.num) (.t 75) (.c (.int .i64 1))⟩,
  ⟨(some 1), none, .mov (.t 76)⟩]) (.seq (.reg [⟨(some 77), none, .mov (.t 0)⟩,
  ⟨(some 78), none, .mov (.t 5)⟩,
  ⟨(some 79), none, .mov (.t 1)⟩,
  ⟨(some 80), none, .idxs 12 (.t 77) (.t 78)⟩,
  ⟨(some 81), none, .fld 9 (.t 80)⟩,
  ⟨none, none, .store 1 (.t 81) (.t 79)⟩]) (.seq (.reg [⟨(some 82), none, .mov (.t 1)⟩,
  ⟨(some 83), none, .bin .add (.num) (.t 82) (.c (.int .i64 1))⟩,
  ⟨(some 1), none, .mov (.t 83)⟩]) (.seq (.reg [⟨(some 84), none, .mov (.t 0)⟩,
  ⟨(some 85), none, .mov (.t 5)⟩,
  ⟨(some 86), none, .mov (.t 1)⟩,
  ⟨(some 87), none, .idxs 12 (.t 84) (.t 85)⟩,
  ⟨(some 88), none, .fld 10 (.t 87)⟩,
  ⟨none, none, .store 1 (.t 88) (.t 86)⟩]) (.seq (.reg [⟨(some 89), none, .mov (.t 1)⟩,
  ⟨(some 90), none, .bin .add (.num) (.t 89) (.c (.int .i64 1))⟩,
  ⟨(some 1), none, .mov (.t 90)⟩]) (.seq (.reg [⟨(some 91), none, .mov (.t 0)⟩,
  ⟨(some 92), none, .mov (.t 5)⟩,
  ⟨(some 93), none, .mov (.t 1)⟩,
  ⟨(some 94), none, .idxs 12 (.t 91) (.t 92)⟩,
  ⟨(some 95), none, .fld 11 (.t 94)⟩,
  ⟨none, none, .store 1 (.t 95) (.t 93)⟩]) (.reg [⟨(some 96), none, .mov (.t 1)⟩,
  ⟨(some 97), none, .bin .add (.num) (.t 96) (.c (.int .i64 1))⟩,
  ⟨(some 1), none, .mov (.t 97)⟩])))))))))))))))))))))) (.reg [⟨(some 10), none, .mov (.t 5)⟩,
  ⟨(some 11), none, .bin .add (.num) (.t 10) (.c (.int .i64 1))⟩,
  ⟨(some 5), none, .mov (.t 11)⟩])))))) (.seq (.reg [⟨(some 98), none, .mov (.t 1)⟩,
  ⟨(some 4), none, .mov (.t 98)⟩]) (.ret)))
def laws_markEntityS_r : List RS := [.t 4]
def laws_markEntityS_s0 (t0 t1 t5 : AV) (loc : List (List AV)) (h : AH) : St := ⟨[t0, t1, .any, .any, .any, t5, .any, .any, .any, .any, .any, .any, .any, .any, .any, .any, .any, .any, .any, .any, .any, .any, .any, .any, .any, .any, .any, .any, .any, .any, .any, .any, .any, .any, .any, .any, .any, .any, .any, .any, .any, .any, .any, .any, .any, .any, .any, .any, .any, .any, .any, .any, .any, .any, .any, .any, .any, .any, .any, .any, .any, .any, .any, .any, .any, .any, .any, .any, .any, .any, .any, .any, .any, .any, .any, .any, .any, .any, .any, .any, .any, .any, .any, .any, .any, .any, .any, .any, .any, .any, .any, .any, .any, .any, .any, .any, .any, .any, .any], loc, h⟩
theorem laws_markEntityS_e {a0 a1 : AV} {h : AH} {K : AV → AH → Prop} (hw : TC Tryz.prog Θ Γ laws_markEntityS_c (retQ laws_markEntityS_r K) ⟨[a0, a1, u, u, u, u, u, u, u, u, u, u, u, u, u, u, u, u, u, u, u, u, u, u, u, u, u, u, u, u, u, u, u, u, u, u, u, u, u, u, u, u, u, u, u, u, u, u, u, u, u, u, u, u, u, u, u, u, u, u, u, u, u, u, u, u, u, u, u, u, u, u, u, u, u, u, u, u, u, u, u, u, u, u, u, u, u, u, u, u, u, u, u, u, u, u, u, u, u], [], h⟩) : T Tryz.prog Γ Fn.laws_markEntityS [a0, a1] h K :=
  T_of_body tabOK Tryz.func58 (code := bodyOf Tryz.f58) (by kernel_rfl) (by kernel_rfl) (by kernel_rfl) (by kernel_rfl) hw
def laws_markSentS_c : C := .seq (.reg [⟨(some 4), none, .mov (.c (.int .i64 0))⟩]) (.seq (.seq (.reg [⟨(some 5), none, .mov (.c (.int .i64 0))⟩]) (.block 0 (.loop (.seq (.seq (.reg [⟨(some 6), none, .mov (.t 5)⟩,
  ⟨(some 7), none, .mov (.t 0)⟩,
  ⟨(some 8), none, .len false (.t 7)⟩,
  ⟨(some 9), none, .bin .lss (.num) (.t 6) (.t 8)⟩]) (.cond (.t 9) (.skip) (.exit 0))) (.seq (.block 1 (.seq (.reg [⟨(some 12), none, .mov (.t 0)⟩,
  ⟨(some 13), none, .mov (.t 5)⟩,
  ⟨(some 14), none, .mov (.t 1)⟩,
  ⟨(some 15), none, .idxs 7 (.t 12) (.t 13)⟩,
  ⟨(some 16), none, .fld 0 (.t 15)⟩,
  ⟨none, none, .store 1 (.t 16) (.t 14)⟩]) (.seq (.reg [⟨(some 17), none, .mov (.t 1)⟩,
  ⟨(some 18), none, .bin .add (.num) (.t 17) (.c (.int .i64 1))⟩,
  ⟨(some 1), none, .mov (.t 18)⟩]) (.seq (.reg [⟨(some 19), none, .mov (.t 0)⟩,
  ⟨(some 20), none, .mov (.t 5)⟩,
  ⟨(some 21), none, .mov (.t 1)⟩,
  ⟨(some 22), none, .call (.c (.fn Fn.laws_markText [] [])) [.t 21]⟩,
  ⟨(some 23), none, .idxs 7 (.t 19) (.t 20)⟩,
  ⟨(some 24), none, .fld 1 (.t 23)⟩,
  ⟨none, none, .store 1 (.t 24) (.t 22)⟩]) (.seq (.reg [⟨(some 25), none, .mov (.t 1)⟩,
  ⟨(some 26), none, .bin .add (.num) (.t 25) (.c (.int .i64 1))⟩,
  ⟨(some 1), none, .mov (.t 26)⟩]) (.seq (.reg [⟨(some 27), none, .mov (.t 0)⟩,
  ⟨(some 28), none, .mov (.t 5)⟩,
  ⟨(some 29), none, .idxs 7 (.t 27) (.t 28)⟩,
  ⟨(some 30), none, .fld 2 (.t 29)⟩,
  ⟨(some 31), none, .load 1 false (.t 30)⟩,
  ⟨(some 32), none, .mov (.t 1)⟩,
  ⟨(some 33), none, .call (.c (.fn Fn.laws_markValueS [] [])) [.t 31, .t 32]⟩,
  ⟨(some 1), none, .mov (.t 33)⟩]) (.seq (.reg [⟨(some 34), none, .mov (.t 0)⟩,
  ⟨(some 35), none, .mov (.t 5)⟩,
  ⟨(some 36), none, .mov (.t 1)⟩,
  ⟨(some 37), none, .idxs 7 (.t 34) (.t 35)⟩,
  ⟨(some 38), none, .fld 3 (.t 37)⟩,
  ⟨none, none, .store 1 (.t 38) (.t 36)⟩]) (.seq (.reg [⟨(some 39), none, .mov (.t 1)⟩,
  ⟨(some 40), none, .bin .add (.num) (.t 39) (.c (.int .i64 1))⟩,
  ⟨(some 1), none, .mov (.t 40)⟩]) (.seq (.reg [⟨(some 41), none, .mov (.t 0)⟩,
  ⟨(some 42), none, .mov (.t 5)⟩,
  ⟨(some 43), none, .mov (.t 1)⟩,
  ⟨(some 44), none, .idxs 7 (.t 41) (.t 42)⟩,
  ⟨(some 45), none, .fld 4 (.t 44)⟩,
  ⟨(some 46), none, .fld 0 (.t 45)⟩,
  ⟨none, none, .store 1 (.t 46) (.t 43)⟩]) (.seq (.reg [⟨(some 47), none, .mov (.t 1)⟩,
  ⟨(some 48), none, .bin .add (.num) (.t 47) (.c (.int .i64 1))⟩,
  ⟨(some 1), none, .mov (.t 48)⟩]) (.seq (.reg [⟨(some 49), none, .mov (.t 0)⟩,
  ⟨(some 50), none, .mov (.t 5)⟩,
  ⟨(some 51), none, .mov (.t 1)⟩,
  ⟨(some 52), none, .idxs 7 (.t 49) (.t 50)⟩,
  ⟨(some 53), none, .fld 4 (.t 52)⟩,
  ⟨(some 54), none, .fld 1 (.t 53)⟩,
  ⟨none, none, .store 1 (.t 54) (.t 51)⟩]) (.seq (.reg [⟨(some 55), none, .mov (.t 1)⟩,
  ⟨(some 56), none, .bin .add (.num) (.t 55) (.c (.int .i64 1))⟩,
  ⟨(some 1), none, .mov (.t 56)⟩]) (.seq (.reg [⟨(some 57), none, .mov (.t 0)⟩,
  ⟨(some 58), none, .mov (.t 5)⟩,
  ⟨(some 59), none, .mov (.t 1)⟩,
  ⟨(some 60), none, .idxs 7 (.t 57) (.t 58)⟩,
  ⟨(some 61), none, .fld 4 (.t 60)⟩,
  ⟨(some 62), none, .fld 2 (.t 61)⟩,
  ⟨none, none, .store 1 (.t 62) (.t 59)⟩]) (.reg [⟨(some 63), none, .mov (.t 1)⟩,
  ⟨(some 64), none, .bin .add (.num) (.t 63) (.c (.int .i64 1))⟩,
  ⟨(some 1), none, .mov (.t 64)⟩])))))))))))))) (.reg [⟨(some 10), none, .mov (.t 5)⟩,
  ⟨(some 11), none, .bin .add (.num) (.t 10) (.c (.int .i64 1))⟩,
  ⟨(some 5), none, .mov (.t 11)⟩])))))) (.seq (.reg [⟨(some 65), none, .mov (.t 1)⟩,
  ⟨(some 4), none, .mov (.t 65)⟩]) (.ret)))
def laws_markSentS_r : List RS := [.t 4]
def laws_markSentS_s0 (t0 t1 t5 : AV) (loc : List (List AV)) (h : AH) : St := ⟨[t0, t1, .any, .any, .any, t5, .any, .any, .any, .any, .any, .any, .any, .any, .any, .any, .any, .any, .any, .any, .any, .any, .any, .any, .any, .any, .any, .any, .any, .any, .any, .any, .any, .any, .any, .any, .any, .any, .any, .any, .any, .any, .any, .any, .any, .any, .any, .any, .any, .any, .any, .any, .any, .any, .any, .any, .any, .any, .any, .any, .any, .any, .any, .any, .any, .any], loc, h⟩
theorem laws_markSentS_e {a0 a1 : AV} {h : AH} {K : AV → AH → Prop} (hw : TC Tryz.prog Θ Γ laws_markSentS_c (retQ laws_markSentS_r K) ⟨[a0, a1, u, u, u, u, u, u, u, u, u, u, u, u, u, u, u, u, u, u, u, u, u, u, u, u, u, u, u, u, u, u, u, u, u, u, u, u, u, u, u, u, u, u, u, u, u, u, u, u, u, u, u, u, u, u, u, u, u, u, u, u, u, u, u, u], [], h⟩) : T Tryz.prog Γ Fn.laws_markSentS [a0, a1] h K :=
  T_of_body tabOK Tryz.func59 (code := bodyOf Tryz.f59) (by kernel_rfl) (by kernel_rfl) (by kernel_rfl) (by kernel_rfl) hw
def laws_markLinkS_c : C := .seq (.reg [⟨(some 4), none, .mov (.c (.int .i64 0))⟩]) (.seq (.seq (.reg [⟨(some 5), none, .mov (.c (.int .i64 0))⟩]) (.block 0 (.loop (.seq (.seq (.reg [⟨(some 6), none, .mov (.t 5)⟩,
  ⟨(some 7), none, .mov (.t 0)⟩,
  ⟨(some 8), none, .len false (.t 7)⟩,
  ⟨(some 9), none, .bin .lss (.num) (.t 6) (.t 8)⟩]) (.cond (.t 9) (.skip) (.exit 0))) (.seq (.block 1 (.seq (.reg [⟨(some 12), none, .mov (.t 0)⟩,
  ⟨(some 13), none, .mov (.t 5)⟩,
  ⟨(some 14), none, .mov (.t 1)⟩,
  ⟨(some 15), none, .idxs 7 (.t 12) (.t 13)⟩,
  ⟨(some 16), none, .fld 0 (.t 15)⟩,
  ⟨none, none, .store 1 (.t 16) (.t 14)⟩]) (.seq (.reg [⟨(some 17), none, .mov (.t 1)⟩,
  ⟨(some 18), none, .bin .add (.num) (.t 17) (.c (.int .i64 1))⟩,
  ⟨(some 1), none, .mov (.t 18)⟩]) (.seq (.reg [⟨(some 19), none, .mov (.t 0)⟩,
  ⟨(some 20), none, .mov (.t 5)⟩,
  ⟨(some 21), none, .mov (.t 1)⟩,
  ⟨(some 22), none, .bin .rem (.num) (.t 21) (.c (.int .i64 3))⟩,
  ⟨(some 23), none, .bin .eql (.num) (.t 22) (.c (.int .i64 0))⟩,
  ⟨(some 24), none, .idxs 7 (.t 19) (.t 20)⟩,
  ⟨(some 25), none, .fld 1 (.t 24)⟩,
  ⟨none, none, .store 1 (.t 25) (.t 23)⟩]) (.seq (.reg [⟨(some 26), none, .mov (.t 1)⟩,
  ⟨(some 27), none, .bin .add (.num) (.t 26) (.c (.int .i64 1))⟩,
  ⟨(some 1), none, .mov (.t 27)⟩]) (.seq (.reg [⟨(some 28), none, .mov (.t 0)⟩,
  ⟨(some 29), none, .mov (.t 5)⟩,
  ⟨(some 30), none, .idxs 7 (.t 28) (.t 29)⟩,
  ⟨(some 31), none, .fld 2 (.t 30)⟩,
  ⟨(some 32), none, .load 1 false (.t 31)⟩,
  ⟨(some 33), none, .mov (.t 1)⟩,
  ⟨(some 34), none, .call (.c (.fn Fn.laws_markExportS [] [])) [.t 32, .t 33]⟩,
  ⟨(some 1), none, .mov (.t 34)⟩]) (.seq (.reg [⟨(some 35), none, .mov (.t 0)⟩,
  ⟨(some 36), none, .mov (.t 5)⟩,
  ⟨(some 37), none, .mov (.t 1)⟩,
  ⟨(some 38), none, .idxs 7 (.t 35) (.t 36)⟩,
  ⟨(some 39), none, .fld 3 (.t 38)⟩,
  ⟨none, none, .store 1 (.t 39) (.t 37)⟩]) (.seq (.reg [⟨(some 40), none, .mov (.t 1)⟩,
  ⟨(some 41), none, .bin .add (.num) (.t 40) (.c (.int .i64 1))⟩,
  ⟨(some 1), none, .mov (.t 41)⟩]) (.seq (.reg [⟨(some 42), none, .mov (.t 0)⟩,
  ⟨(some 43), none, .mov (.t 5)⟩,
  ⟨(some 44), none, .idxs 7 (.t 42) (.t 43)⟩,
  ⟨(some 45), none, .fld 4 (.t 44)⟩,
  ⟨(some 46), none, .load 1 false (.t 45)⟩,
  ⟨(some 47), none, .mov (.t 1)⟩,
  ⟨(some 48), none, .call (.c (.fn Fn.laws_markQuestionS [] [])) [.t 46, .t 47]⟩,
  ⟨(some 1), none, .mov (.t 48)⟩]) (.seq (.reg [⟨(some 49), none, .mov (.t 0)⟩,
  ⟨(some 50), none, .mov (.t 5)⟩,
  ⟨(some 51), none, .mov (.t 1)⟩,
  ⟨(some 52), none, .idxs 7 (.t 49) (.t 50)⟩,
  ⟨(some 53), none, .fld 5 (.t 52)⟩,
  ⟨none, none, .store 1 (.t 53) (.t 51)⟩]) (.seq (.reg [⟨(some 54), none, .mov (.t 1)⟩,
  ⟨(some 55), none, .bin .add (.num) (.t 54) (.c (.int .i64 1))⟩,
  ⟨(some 1), none, .mov (.t 55)⟩]) (.reg [⟨(some 56), none, .mov (.t 0)⟩,
  ⟨(some 57), none, .mov (.t 5)⟩,
  ⟨(some 58), none, .idxs 7 (.t 56) (.t 57)⟩,
  ⟨(some 59), none, .fld 6 (.t 58)⟩,
  ⟨(some 60), none, .load 1 false (.t 59)⟩,
  ⟨(some 61), none, .mov (.t 1)⟩,
  ⟨(some 62), none, .call (.c (.fn Fn.laws_markQuestionS [] [])) [.t 60, .t 61]⟩,
  ⟨(some 1), none, .mov (.t 62)⟩])))))))))))) (.reg [⟨(some 10), none, .mov (.t 5)⟩,
  ⟨(some 11), none, .bin .add (.num) (.t 10) (.c (.int .i64 1))⟩,
  ⟨(some 5), none, .mov (.t 11)⟩])))))) (.seq (.reg [⟨(some 63), none, .mov (.t 1)⟩,
  ⟨(some 4), none, .mov (.t 63)⟩]) (.ret)))
def laws_markLinkS_r : List RS := [.t 4]
def laws_markLinkS_s0 (t0 t1 t5 : AV) (loc : List (List AV)) (h : AH) : St := ⟨[t0, t1, .any, .any, .any, t5, .any, .any, .any, .any, .any, .any, .any, .any, .any, .any, .any, .any, .any, .any, .any, .any, .any, .any, .any, .any, .any, .any, .any, .any, .any, .any, .any, .any, .any, .any, .any, .any, .any, .any, .any, .any, .any, .any, .any, .any, .any, .any, .any, .any, .any, .any, .any, .any, .any, .any, .any, .any, .any, .any, .any, .any, .any, .any], loc, h⟩
theorem laws_markLinkS_e {a0 a1 : AV} {h : AH} {K : AV → AH → Prop} (hw : TC Tryz.prog Θ Γ laws_markLinkS_c (retQ laws_markLinkS_r K) ⟨[a0, a1, u, u, u, u, u, u, u, u, u, u, u, u, u, u, u, u, u, u, u, u, u, u, u, u, u, u, u, u, u, u, u, u, u, u, u, u, u, u, u, u, u, u, u, u, u, u, u, u, u, u, u, u, u, u, u, u, u, u, u, u, u, u], [], h⟩) : T Tryz.prog Γ Fn.laws_markLinkS [a0, a1] h K :=
  T_of_body tabOK Tryz.func60 (code := bodyOf Tryz.f60) (by kernel_rfl) (by kernel_rfl) (by kernel_rfl) (by kernel_rfl) hw
def laws_markOutgoingS_c : C := .seq (.reg [⟨(some 4), none, .mov (.c (.int .i64 0))⟩]) (.seq (.seq (.reg [⟨(some 5), none, .mov (.c (.int .i64 0))⟩]) (.block 0 (.loop (.seq (.seq (.reg [⟨(some 6), none, .mov (.t 5)⟩,
  ⟨(some 7), none, .mov (.t 0)⟩,
  ⟨(some 8), none, .len false (.t 7)⟩,
  ⟨(some 9), none, .bin .lss (.num) (.t 6) (.t 8)⟩]) (.cond (.t 9) (.skip) (.exit 0))) (.seq (.block 1 (.seq (.reg [⟨(some 12), none, .mov (.t 0)⟩,
  ⟨(some 13), none, .mov (.t 5)⟩,
  ⟨(some 14), none, .mov (.t 1)⟩,
  ⟨(some 15), none, .idxs 13 (.t 12) (.t 13)⟩,
  ⟨(some 16), none, .fld 0 (.t 15)⟩,
  ⟨none, none, .store 1 (.t 16) (.t 14)⟩]) (.seq (.reg [⟨(some 17), none, .mov (.t 1)⟩,
  ⟨(some 18), none, .bin .add (.num) (.t 17) (.c (.int .i64 1))⟩,
  ⟨(some 1), none, .mov (.t 18)⟩]) (.seq (.reg [⟨(some 19), none, .mov (.t 0)⟩,
  ⟨(some 20), none, .mov (.t 5)⟩,
  ⟨(some 21), none, .mov (.t 1)⟩,
  ⟨(some 22), none, .idxs 13 (.t 19) (.t 20)⟩,
  ⟨(some 23), none, .fld 1 (.t 22)⟩,
  ⟨(some 24), none, .fld 0 (.t 23)⟩,
  ⟨none, none, .store 1 (.t 24) (.t 21)⟩]) (.seq (.reg [⟨(some 25), none, .mov (.t 1)⟩,
  ⟨(some 26), none, .bin .add (.num) (.t 25) (.c (.int .i64 1))⟩,
  ⟨(some 1), none, .mov (.t 26)⟩]) (.seq (.reg [⟨(some 27), none, .mov (.t 0)⟩,
  ⟨(some 28), none, .mov (.t 5)⟩,
  ⟨(some 29), none, .mov (.t 1)⟩,
  ⟨(some 30), none, .idxs 13 (.t 27) (.t 28)⟩,
  ⟨(some 31), none, .fld 1 (.t 30)⟩,
  ⟨(some 32), none, .fld 1 (.t 31)⟩,
  ⟨none, none, .store 1 (.t 32) (.t 29)⟩]) (.seq (.reg [⟨(some 33), none, .mov (.t 1)⟩,
  ⟨(some 34), none, .bin .add (.num) (.t 33) (.c (.int .i64 1))⟩,
  ⟨(some 1), none, .mov (.t 34)⟩]) (.seq (.reg [⟨(some 35), none, .mov (.t 0)⟩,
  ⟨(some 36), none, .mov (.t 5)⟩,
  ⟨(some 37), none, .mov (.t 1)⟩,
  ⟨(some 38), none, .idxs 13 (.t 35) (.t 36)⟩,
  ⟨(some 39), none, .fld 1 (.t 38)⟩,
  ⟨(some 40), none, .fld 2 (.t 39)⟩,
  ⟨none, none, .store 1 (.t 40) (.t 37)⟩]) (.seq (.reg [⟨(some 41), none, .mov (.t 1)⟩,
  ⟨(some 42), none, .bin .add (.num) (.t 41) (.c (.int .i64 1))⟩,
  ⟨(some 1), none, .mov (.t 42)⟩]) (.seq (.reg [⟨(some 43), none, .mov (.t 0)⟩,
  ⟨(some 44), none, .mov (.t 5)⟩,
  ⟨(some 45), none, .mov (.t 1)⟩,
  ⟨(some 46), none, .idxs 13 (.t 43) (.t 44)⟩,
  ⟨(some 47), none, .fld 1 (.t 46)⟩,
  ⟨(some 48), none, .fld 3 (.t 47)⟩,
  ⟨none, none, .store 1 (.t 48) (.t 45)⟩]) (.seq (.reg [⟨(some 49), none, .mov (.t 1)⟩,
  ⟨(some 50), none, .bin .add (.num) (.t 49) (.c (.int .i64 1))⟩,
  ⟨(some 1), none, .mov (.t 50)⟩]) (.seq (.reg [⟨(some 51), none, .mov (.t 0)⟩,
  ⟨(some 52), none, .mov (.t 5)⟩,
  ⟨(some 53), none, .mov (.t 1)⟩,
  ⟨(some 54), none, .call (.c (.fn Fn.laws_markText [] [])) [.t 53]⟩,
  ⟨(some 55), none, .idxs 13 (.t 51) (.t 52)⟩,
  ⟨(some 56), none, .fld 1 (.t 55)⟩,
  ⟨(some 57), none, .fld 4 (.t 56)⟩,
  ⟨none, none, .store 1 (.t 57) (.t 54)⟩]) (.seq (.reg [⟨(some 58), none, .mov (.t 1)⟩,
  ⟨(some 59), none, .bin .add (.num) (.t 58) (.c (.int .i64 1))⟩,
  ⟨(some 1), none, .mov (.t 59)⟩]) (.seq (.reg [⟨(some 60), none, .mov (.t 0)⟩,
  ⟨(some 61), none, .mov (.t 5)⟩,
  ⟨(some 62), none, .idxs 13 (.t 60) (.t 61)⟩,
  ⟨(some 63), none, .fld 1 (.t 62)⟩,
  ⟨(some 64), none, .fld 5 (.t 63)⟩,
  ⟨(some 65), none, .load 1 false (.t 64)⟩,
  ⟨(some 66), none, .mov (.t 1)⟩,
  ⟨(some 67), none, .call (.c (.fn Fn.laws_markWireS [] [])) [.t 65, .t 66]⟩,
  ⟨(some 1), none, .mov (.t 67)⟩]) (.seq (.reg [⟨(some 68), none, .mov (.t 0)⟩,
  ⟨(some 69), none, .mov (.t 5)⟩,
  ⟨(some 70), none, .mov (.t 1)⟩,
  ⟨(some 71), none, .idxs 13 (.t 68) (.t 69)⟩,
  ⟨(some 72), none, .fld 1 (.t 71)⟩,
  ⟨(some 73), none, .fld 6 (.t 72)⟩,
  ⟨(some 74), none, .fld 0 (.t 73)⟩,
  ⟨none, none, .store 1 (.t 74) (.t 70)⟩]) (.seq (.reg [⟨(some 75), none, .mov (.t 1)⟩,
  ⟨(some 76), none, .bin .add (.num) (.t 75) (.c (.int .i64 1))⟩,
  ⟨(some 1), none, .mov (.t 76)⟩]) (.seq (.reg [⟨(some 77), none, .mov (.t 0)⟩,
  ⟨(some 78), none, .mov (.t 5)⟩,
  ⟨(some 79), none, .mov (.t 1)⟩,
  ⟨(some 80), none, .idxs 13 (.t 77) (.t 78)⟩,
  ⟨(some 81), none, .fld 1 (.t 80)⟩,
  ⟨(some 82), none, .fld 6 (.t 81)⟩,
  ⟨(some 83), none, .fld 1 (.t 82)⟩,
  ⟨none, none, .store 1 (.t 83) (.t 79)⟩]) (.seq (.reg [⟨(some 84), none, .mov (.t 1)⟩,
  ⟨(some 85), none, .bin .add (.num) (.t 84) (.c (.int .i64 1))⟩,
  ⟨(some 1), none, .mov (.t 85)⟩]) (.seq (.reg [⟨(some 86), none, .mov (.t 0)⟩,
  ⟨(some 87), none, .mov (.t 5)⟩,
  ⟨(some 88), none, .mov (.t 1)⟩,
  ⟨(some 89), none, .idxs 13 (.t 86) (.t 87)⟩,
  ⟨(some 90), none, .fld 1 (.t 89)⟩,
  ⟨(some 91), none, .fld 8 (.t 90)⟩,
  ⟨none, none, .store 1 (.t 91) (.t 88)⟩]) (.seq (.reg [⟨(some 92), none, .mov (.t 1)⟩,
  ⟨(some 93), none, .bin .add (.num) (.t 92) (.c (.int .i64 1))⟩,
  ⟨(some 1), none, .mov (.t 93)⟩]) (.seq (.reg [⟨(some 94), none, .mov (.t 0)⟩,
  ⟨(some 95), none, .mov (.t 5)⟩,
  ⟨(some 96), none, .mov (.t 1)⟩,
  ⟨(some 97), none, .idxs 13 (.t 94) (.t 95)⟩,
  ⟨(some 98), none, .fld 1 (.t 97)⟩,
  ⟨(some 99), none, .fld 9 (.t 98)⟩,
  ⟨(some 100), none, .fld 0 (.t 99)⟩,
  ⟨none, none, .store 1 (.t 100) (.t 96)⟩]) (.seq (.reg [⟨(some 101), none, .mov (.t 1)⟩,
  ⟨(some 102), none, .bin .add (.num) (.t 101) (.c (.int .i64 1))⟩,
  ⟨(some 1), none, .mov (.t 102)⟩]) (.seq (.reg [⟨(some 103), none, .mov (.t 0)⟩,
  ⟨(some 104), none, .mov (.t 5)⟩,
  ⟨(some 105), none, .mov (.t 1)⟩,
  ⟨(some 106), none, .idxs 13 (.t 103) (.t 104)⟩,
  ⟨(some 107), none, .fld 1 (.t 106)⟩,
  ⟨(some 108), none, .fld 9 (.t 107)⟩,
  ⟨(some 109), none, .fld 1 (.t 108)⟩,
  ⟨none, none, .store 1 (.t 109) (.t 105)⟩]) (.seq (.reg [⟨(some 110), none, .mov (.t 1)⟩,
  ⟨(some 111), none, .bin .add (.num) (.t 110) (.c (.int .i64 1))⟩,
  ⟨(some 1), none, .mov (.t 111)⟩]) (.seq (.reg [⟨(some 112), none, .mov (.t 0)⟩,
  ⟨(some 113), none, .mov (.t 5)⟩,
  ⟨(some 114), none, .mov (.t 1)⟩,
  ⟨(some 115), none, .idxs 13 (.t 112) (.t 113)⟩,
  ⟨(some 116), none, .fld 1 (.t 115)⟩,
  ⟨(some 117), none, .fld 9 (.t 116)⟩,
  ⟨(some 118), none, .fld 2 (.t 117)⟩,
  ⟨none, none, .store 1 (.t 118) (.t 114)⟩]) (.reg [⟨(some 119), none, .mov (.t 1)⟩,
  ⟨(some 120), none, .bin .add (.num) (.t 119) (.c (.int .i64 1))⟩,
  ⟨(some 1), none, .mov (.t 120)⟩])))))))))))))))))))))))))) (.reg [⟨(some 10), none, .mov (.t 5)⟩,
  ⟨(some 11), none, .bin .add (.num) (.t 10) (.c (.int .i64 1))⟩,
  ⟨(some 5), none, .mov (.t 11)⟩])))))) (.seq (.reg [⟨(some 121), none, .mov (.t 1)⟩,
  ⟨(some 4), none, .mov (.t 121)⟩]) (.ret)))
def laws_markOutgoingS_r : List RS := [.t 4]
def laws_markOutgoingS_s0 (t0 t1 t5 : AV) (loc : List (List AV)) (h : AH) : St := ⟨[t0, t1, .any, .any, .any, t5, .any, .any, .any, .any, .any, .any, .any, .any, .any, .any, .any, .any, .any, .any, .any, .any, .any, .any, .any, .any, .any, .any, .any, .any, .any, .any, .any, .any, .any, .any, .any, .any, .any, .any, .any, .any, .any, .any, .any, .any, .any, .any, .any, .any, .any, .any, .any, .any, .any, .any, .any, .any, .any, .any, .any, .any, .any, .any, .any, .any, .any, .any, .any, .any, .any, .any, .any, .any, .any, .any, .any, .any, .any, .any, .any, .any, .any, .any, .any, .any, .any, .any, .any, .any, .any, .any, .any, .any, .any, .any, .any, .any, .any, .any, .any, .any, .any, .any, .any, .any, .any, .any, .any, .any, .any, .any, .any, .any, .any, .any, .any, .any, .any, .any, .any, .any], loc, h⟩
theorem laws_markOutgoingS_e {a0 a1 : AV} {h : AH} {K : AV → AH → Prop} (hw : TC Tryz.prog Θ Γ laws_markOutgoingS_c (retQ laws_markOutgoingS_r K) ⟨[a0, a1, u, u, u, u, u, u, u, u, u, u, u, u, u, u, u, u, u, u, u, u, u, u, u, u, u, u, u, u, u, u, u, u, u, u, u, u, u, u, u, u, u, u, u, u, u, u, u, u, u, u, u, u, u, u, u, u, u, u, u, u, u, u, u, u, u, u, u, u, u, u, u, u, u, u, u, u, u, u, u, u, u, u, u, u, u, u, u, u, u, u, u, u, u, u, u, u, u, u, u, u, u, u, u, u, u, u, u, u, u, u, u, u, u, u, u, u, u, u, u, u], [], h⟩) : T Tryz.prog Γ Fn.laws_markOutgoingS [a0, a1] h K :=
  T_of_body tabOK Tryz.func61 (code := bodyOf Tryz.f61) (by kernel_rfl) (by kernel_rfl) (by kernel_rfl) (by kernel_rfl) hw
def spec_l12Copy_d0_os : List O := [⟨(some 7), none, .fld 0 (.t 1)⟩,
  ⟨(some 8), none, .load 1 false (.t 7)⟩,
  ⟨(some 9), none, .fld 2 (.t 1)⟩,
  ⟨(some 10), none, .load 1 false (.t 9)⟩,
  ⟨(some 11), none, .call (.c (.fn Fn.spec_l9CopySents [] [])) [.t 10]⟩,
  ⟨(some 12), none, .build [.int .i64 0, .nils, .nils, .nils, .nils] [(0, 1, .t 8), (2, 1, .t 11)]⟩,
  ⟨(some 3), none, .alloc [.int .i64 0, .nils, .nils, .nils, .nils]⟩,
  ⟨none, none, .store 5 (.t 3) (.t 12)⟩]
def spec_l12Copy_d0_af : List (List Nat) := [[], [0], [], [2], [3], [1, 4], [], [6, 5, 4, 0, 1, 2, 3, 4, 5, 6]]
theorem spec_l12Copy_d0_q (gl : Gl) (Q : AE → St → Prop) (s : St) : aw Tryz.prog Θ Γ gl (.regD spec_l12Copy_d0_os spec_l12Copy_d0_af) Q s = awpT Tryz.prog Γ gl [⟨(some 7), none, .fld 0 (.t 1)⟩,
  ⟨(some 8), none, .load 1 false (.t 7)⟩,
  ⟨(some 9), none, .fld 2 (.t 1)⟩,
  ⟨(some 10), none, .load 1 false (.t 9)⟩,
  ⟨(some 11), none, .call (.c (.fn Fn.spec_l9CopySents [] [])) [.t 10]⟩,
  ⟨(some 12), none, .build [.int .i64 0, .nils, .nils, .nils, .nils] [(0, 1, .t 8), (2, 1, .t 11)]⟩,
  ⟨(some 3), none, .alloc [.int .i64 0, .nils, .nils, .nils, .nils]⟩,
  ⟨none, none, .store 5 (.t 3) (.t 12)⟩] (Q .normal) 8 (.q 0 (.q 1 (.q 2 (.q 3 (.all [(4, .q 5 (.all [(6, .q 7 (.done))])), (6, .all [(4, .q 5 (.q 7 (.done)))])]))))) s := a_dd rfl (by kernel_rfl) gl Q s
def spec_l12Copy_d1_os : List O := [⟨(some 20), none, .fld 1 (.t 3)⟩,
  ⟨(some 21), none, .load 1 false (.t 20)⟩,
  ⟨(some 22), none, .fld 1 (.t 1)⟩,
  ⟨(some 23), none, .load 1 false (.t 22)⟩,
  ⟨(some 24), none, .mov (.t 4)⟩,
  ⟨(some 25), none, .idxs 12 (.t 23) (.t 24)⟩,
  ⟨(some 26), none, .load 12 true (.t 25)⟩,
  ⟨(some 27), none, .call (.c (.fn Fn.spec_l9Copy [] [])) [.t 26]⟩,
  ⟨(some 28), none, .bsl 12 1 [.int .i64 0, .int .i64 0, .nils, .int .i64 0, .int .i64 0, .int .i64 0, .nils, .nils, .int .i64 0, .int .i64 0, .int .i64 0, .int .i64 0] [(0, .t 27)]⟩,
  ⟨(some 29), none, .app 12 144 [.int .i64 0, .int .i64 0, .nils, .int .i64 0, .int .i64 0, .int .i64 0, .nils, .nils, .int .i64 0, .int .i64 0, .int .i64 0, .int .i64 0] false (.t 21) (.t 28)⟩,
  ⟨(some 30), none, .fld 1 (.t 3)⟩,
  ⟨none, none, .store 1 (.t 30) (.t 29)⟩]
def spec_l12Copy_d1_af : List (List Nat) := [[], [0], [], [2], [], [3, 4], [5], [6], [7], [1, 8, 7], [0, 1, 2, 3, 4, 5, 6, 7, 8, 9], [10, 9, 9, 0, 1, 2, 3, 4, 5, 6, 7, 8, 9]]
theorem spec_l12Copy_d1_q (gl : Gl) (Q : AE → St → Prop) (s : St) : aw Tryz.prog Θ Γ gl (.regD spec_l12Copy_d1_os spec_l12Copy_d1_af) Q s = awpT Tryz.prog Γ gl [⟨(some 20), none, .fld 1 (.t 3)⟩,
  ⟨(some 21), none, .load 1 false (.t 20)⟩,
  ⟨(some 22), none, .fld 1 (.t 1)⟩,
  ⟨(some 23), none, .load 1 false (.t 22)⟩,
  ⟨(some 24), none, .mov (.t 4)⟩,
  ⟨(some 25), none, .idxs 12 (.t 23) (.t 24)⟩,
  ⟨(some 26), none, .load 12 true (.t 25)⟩,
  ⟨(some 27), none, .call (.c (.fn Fn.spec_l9Copy [] [])) [.t 26]⟩,
  ⟨(some 28), none, .bsl 12 1 [.int .i64 0, .int .i64 0, .nils, .int .i64 0, .int .i64 0, .int .i64 0, .nils, .nils, .int .i64 0, .int .i64 0, .int .i64 0, .int .i64 0] [(0, .t 27)]⟩,
  ⟨(some 29), none, .app 12 144 [.int .i64 0, .int .i64 0, .nils, .int .i64 0, .int .i64 0, .int .i64 0, .nils, .nils, .int .i64 0, .int .i64 0, .int .i64 0, .int .i64 0] false (.t 21) (.t 28)⟩,
  ⟨(some 30), none, .fld 1 (.t 3)⟩,
  ⟨none, none, .store 1 (.t 30) (.t 29)⟩] (Q .normal) 12 (.q 0 (.q 1 (.q 2 (.q 3 (.q 4 (.q 5 (.q 6 (.all [(7, .all [(8, .q 9 (.q 10 (.q 11 (.done))))])])))))))) s := a_dd rfl (by kernel_rfl) gl Q s
def spec_l12Copy_d2_os : List O := [⟨(some 38), none, .fld 3 (.t 3)⟩,
  ⟨(some 39), none, .load 1 false (.t 38)⟩,
  ⟨(some 40), none, .fld 3 (.t 1)⟩,
  ⟨(some 41), none, .load 1 false (.t 40)⟩,
  ⟨(some 42), none, .mov (.t 5)⟩,
  ⟨(some 43), none, .idxs 7 (.t 41) (.t 42)⟩,
  ⟨(some 44), none, .load 7 true (.t 43)⟩,
  ⟨(some 45), none, .call (.c (.fn Fn.spec_l10Copy [] [])) [.t 44]⟩,
  ⟨(some 46), none, .bsl 7 1 [.int .i64 0, .bool false, .nils, .int .i64 0, .nils, .int .i64 0, .nils] [(0, .t 45)]⟩,
  ⟨(some 47), none, .app 7 104 [.int .i64 0, .bool false, .nils, .int .i64 0, .nils, .int .i64 0, .nils] false (.t 39) (.t 46)⟩,
  ⟨(some 48), none, .fld 3 (.t 3)⟩,
  ⟨none, none, .store 1 (.t 48) (.t 47)⟩]
def spec_l12Copy_d2_af : List (List Nat) := [[], [0], [], [2], [], [3, 4], [5], [6], [7], [1, 8, 7], [0, 1, 2, 3, 4, 5, 6, 7, 8, 9], [10, 9, 9, 0, 1, 2, 3, 4, 5, 6, 7, 8, 9]]
theorem spec_l12Copy_d2_q (gl : Gl) (Q : AE → St → Prop) (s : St) : aw Tryz.prog Θ Γ gl (.regD spec_l12Copy_d2_os spec_l12Copy_d2_af) Q s = awpT Tryz.prog Γ gl [⟨(some 38), none, .fld 3 (.t 3)⟩,
  ⟨(some 39), none, .load 1 false (.t 38)⟩,
  ⟨(some 40), none, .fld 3 (.t 1)⟩,
  ⟨(some 41), none, .load 1 false (.t 40)⟩,
  ⟨(some 42), none, .mov (.t 5)⟩,
  ⟨(some 43), none, .idxs 7 (.t 41) (.t 42)⟩,
  ⟨(some 44), none, .load 7 true (.t 43)⟩,
  ⟨(some 45), none, .call (.c (.fn Fn.spec_l10Copy [] [])) [.t 44]⟩,
  ⟨(some 46), none, .bsl 7 1 [.int .i64 0, .bool false, .nils, .int .i64 0, .nils, .int .i64 0, .nils] [(0, .t 45)]⟩,
  ⟨(some 47), none, .app 7 104 [.int .i64 0, .bool false, .nils, .int .i64 0, .nils, .int .i64 0, .nils] false (.t 39) (.t 46)⟩,
  ⟨(some 48), none, .fld 3 (.t 3)⟩,
  ⟨none, none, .store 1 (.t 48) (.t 47)⟩] (Q .normal) 12 (.q 0 (.q 1 (.q 2 (.q 3 (.q 4 (.q 5 (.q 6 (.all [(7, .all [(8, .q 9 (.q 10 (.q 11 (.done))))])])))))))) s := a_dd rfl (by kernel_rfl) gl Q s
def spec_l12Copy_d3_os : List O := [⟨(some 56), none, .fld 4 (.t 3)⟩,
  ⟨(some 57), none, .load 1 false (.t 56)⟩,
  ⟨(some 58), none, .fld 4 (.t 1)⟩,
  ⟨(some 59), none, .load 1 false (.t 58)⟩,
  ⟨(some 60), none, .mov (.t 6)⟩,
  ⟨(some 61), none, .idxs 13 (.t 59) (.t 60)⟩,
  ⟨(some 62), none, .fld 0 (.t 61)⟩,
  ⟨(some 63), none, .load 1 false (.t 62)⟩,
  ⟨(some 64), none, .fld 4 (.t 1)⟩,
  ⟨(some 65), none, .load 1 false (.t 64)⟩,
  ⟨(some 66), none, .mov (.t 6)⟩,
  ⟨(some 67), none, .idxs 13 (.t 65) (.t 66)⟩,
  ⟨(some 68), none, .fld 1 (.t 67)⟩,
  ⟨(some 69), none, .load 12 true (.t 68)⟩,
  ⟨(some 70), none, .call (.c (.fn Fn.spec_l11Copy [] [])) [.t 69]⟩,
  ⟨(some 71), none, .build [.int .i64 0, .int .i64 0, .int .i64 0, .int .i64 0, .int .i64 0, .str ⟨#[]⟩, .nils, .int .i64 0, .int .i64 0, .int .i64 0, .int .i64 0, .int .i64 0, .int .i64 0] [(0, 1, .t 63), (1, 12, .t 70)]⟩,
  ⟨(some 72), none, .bsl 13 1 [.int .i64 0, .int .i64 0, .int .i64 0, .int .i64 0, .int .i64 0, .str ⟨#[]⟩, .nils, .int .i64 0, .int .i64 0, .int .i64 0, .int .i64 0, .int .i64 0, .int .i64 0] [(0, .t 71)]⟩,
  ⟨(some 73), none, .app 13 128 [.int .i64 0, .int .i64 0, .int .i64 0, .int .i64 0, .int .i64 0, .str ⟨#[]⟩, .nils, .int .i64 0, .int .i64 0, .int .i64 0, .int .i64 0, .int .i64 0, .int .i64 0] false (.t 57) (.t 72)⟩,
  ⟨(some 74), none, .fld 4 (.t 3)⟩,
  ⟨none, none, .store 1 (.t 74) (.t 73)⟩]
def spec_l12Copy_d3_af : List (List Nat) := [[], [0], [], [2], [], [3, 4], [5], [6], [], [8], [], [9, 10], [11], [12], [13], [7, 14], [15], [1, 16, 14], [0, 1, 2, 3, 4, 5, 6, 7, 8, 9, 10, 11, 12, 13, 14, 15, 16, 17], [18, 17, 17, 0, 1, 2, 3, 4, 5, 6, 7, 8, 9, 10, 11, 12, 13, 14, 15, 16, 17]]
theorem spec_l12Copy_d3_q (gl : Gl) (Q : AE → St → Prop) (s : St) : aw Tryz.prog Θ Γ gl (.regD spec_l12Copy_d3_os spec_l12Copy_d3_af) Q s = awpT Tryz.prog Γ gl [⟨(some 56), none, .fld 4 (.t 3)⟩,
  ⟨(some 57), none, .load 1 false (.t 56)⟩,
  ⟨(some 58), none, .fld 4 (.t 1)⟩,
  ⟨(some 59), none, .load 1 false (.t 58)⟩,
  ⟨(some 60), none, .mov (.t 6)⟩,
  ⟨(some 61), none, .idxs 13 (.t 59) (.t 60)⟩,
  ⟨(some 62), none, .fld 0 (.t 61)⟩,
  ⟨(some 63), none, .load 1 false (.t 62)⟩,
  ⟨(some 64), none, .fld 4 (.t 1)⟩,
  ⟨(some 65), none, .load 1 false (.t 64)⟩,
  ⟨(some 66), none, .mov (.t 6)⟩,
  ⟨(some 67), none, .idxs 13 (.t 65) (.t 66)⟩,
  ⟨(some 68), none, .fld 1 (.t 67)⟩,
  ⟨(some 69), none, .load 12 true (.t 68)⟩,
  ⟨(some 70), none, .call (.c (.fn Fn.spec_l11Copy [] [])) [.t 69]⟩,
  ⟨(some 71), none, .build [.int .i64 0, .int .i64 0, .int .i64 0, .int .i64 0, .int .i64 0, .str ⟨#[]⟩, .nils, .int .i64 0, .int .i64 0, .int .i64 0, .int .i64 0, .int .i64 0, .int .i64 0] [(0, 1, .t 63), (1, 12, .t 70)]⟩,
  ⟨(some 72), none, .bsl 13 1 [.int .i64 0, .int .i64 0, .int .i64 0, .int .i64 0, .int .i64 0, .str ⟨#[]⟩, .nils, .int .i64 0, .int .i64 0, .int .i64 0, .int .i64 0, .int .i64 0, .int .i64 0] [(0, .t 71)]⟩,
  ⟨(some 73), none, .app 13 128 [.int .i64 0, .int .i64 0, .int .i64 0, .int .i64 0, .int .i64 0, .str ⟨#[]⟩, .nils, .int .i64 0, .int .i64 0, .int .i64 0, .int .i64 0, .int .i64 0, .int .i64 0] false (.t 57) (.t 72)⟩,
  ⟨(some 74), none, .fld 4 (.t 3)⟩,
  ⟨none, none, .store 1 (.t 74) (.t 73)⟩] (Q .normal) 20 (.q 0 (.q 1 (.q 2 (.q 3 (.q 4 (.q 5 (.q 6 (.q 7 (.q 8 (.q 9 (.q 10 (.q 11 (.q 12 (.q 13 (.all [(14, .q 15 (.all [(16, .q 17 (.q 18 (.q 19 (.done))))]))]))))))))))))))) s := a_dd rfl (by kernel_rfl) gl Q s
def spec_l12Copy_c : C := .seq (.reg [⟨(some 1), none, .box (.t 0)⟩,
  ⟨(some 2), none, .alloc [.int .i64 0, .nils, .nils, .nils, .nils]⟩]) (.seq (.regD spec_l12Copy_d0_os spec_l12Copy_d0_af) (.seq (.seq (.reg [⟨(some 4), none, .mov (.c (.int .i64 0))⟩]) (.block 0 (.loop (.seq (.seq (.reg [⟨(some 13), none, .mov (.t 4)⟩,
  ⟨(some 14), none, .fld 1 (.t 1)⟩,
  ⟨(some 15), none, .load 1 false (.t 14)⟩,
  ⟨(some 16), none, .len false (.t 15)⟩,
  ⟨(some 17), none, .bin .lss (.num) (.t 13) (.t 16)⟩]) (.cond (.t 17) (.skip) (.exit 0))) (.seq (.block 1 (.regD spec_l12Copy_d1_os spec_l12Copy_d1_af)) (.reg [⟨(some 18), none, .mov (.t 4)⟩,
  ⟨(some 19), none, .bin .add (.num) (.t 18) (.c (.int .i64 1))⟩,
  ⟨(some 4), none, .mov (.t 19)⟩])))))) (.seq (.seq (.reg [⟨(some 5), none, .mov (.c (.int .i64 0))⟩]) (.block 2 (.loop (.seq (.seq (.reg [⟨(some 31), none, .mov (.t 5)⟩,
  ⟨(some 32), none, .fld 3 (.t 1)⟩,
  ⟨(some 33), none, .load 1 false (.t 32)⟩,
  ⟨(some 34), none, .len false (.t 33)⟩,
  ⟨(some 35), none, .bin .lss (.num) (.t 31) (.t 34)⟩]) (.cond (.t 35) (.skip) (.exit 2))) (.seq (.block 3 (.regD spec_l12Copy_d2_os spec_l12Copy_d2_af)) (.reg [⟨(some 36), none, .mov (.t 5)⟩,
  ⟨(some 37), none, .bin .add (.num) (.t 36) (.c (.int .i64 1))⟩,
  ⟨(some 5), none, .mov (.t 37)⟩])))))) (.seq (.seq (.reg [⟨(some 6), none, .mov (.c (.int .i64 0))⟩]) (.block 4 (.loop (.seq (.seq (.reg [⟨(some 49), none, .mov (.t 6)⟩,
  ⟨(some 50), none, .fld 4 (.t 1)⟩,
  ⟨(some 51), none, .load 1 false (.t 50)⟩,
  ⟨(some 52), none, .len false (.t 51)⟩,
  ⟨(some 53), none, .bin .lss (.num) (.t 49) (.t 52)⟩]) (.cond (.t 53) (.skip) (.exit 4))) (.seq (.block 5 (.regD spec_l12Copy_d3_os spec_l12Copy_d3_af)) (.reg [⟨(some 54), none, .mov (.t 6)⟩,
  ⟨(some 55), none, .bin .add (.num) (.t 54) (.c (.int .i64 1))⟩,
  ⟨(some 6), none, .mov (.t 55)⟩])))))) (.seq (.reg [⟨(some 75), none, .load 5 true (.t 3)⟩,
  ⟨none, none, .store 5 (.t 2) (.t 75)⟩]) (.ret))))))
def spec_l12Copy_r : List RS := [.cell 2 5 true]
def spec_l12Copy_s0 (t1 t2 t3 t4 : AV) (loc : List (List AV)) (h : AH) : St := ⟨[.any, t1, t2, t3, t4, .any, .any, .any, .any, .any, .any, .any, .any, .any, .any, .any, .any, .any, .any, .any, .any, .any, .any, .any, .any, .any, .any, .any, .any, .any, .any, .any, .any, .any, .any, .any, .any, .any, .any, .any, .any, .any, .any, .any, .any, .any, .any, .any, .any, .any, .any, .any, .any, .any, .any, .any, .any, .any, .any, .any, .any, .any, .any, .any, .any, .any, .any, .any, .any, .any, .any, .any, .any, .any, .any, .any], loc, h⟩
def spec_l12Copy_s1 (t1 t2 t3 t5 : AV) (loc : List (List AV)) (h : AH) : St := ⟨[.any, t1, t2, t3, .any, t5, .any, .any, .any, .any, .any, .any, .any, .any, .any, .any, .any, .any, .any, .any, .any, .any, .any, .any, .any, .any, .any, .any, .any, .any, .any, .any, .any, .any, .any, .any, .any, .any, .any, .any, .any, .any, .any, .any, .any, .any, .any, .any, .any, .any, .any, .any, .any, .any, .any, .any, .any, .any, .any, .any, .any, .any, .any, .any, .any, .any, .any, .any, .any, .any, .any, .any, .any, .any, .any, .any], loc, h⟩
def spec_l12Copy_s2 (t1 t2 t3 t6 : AV) (loc : List (List AV)) (h : AH) : St := ⟨[.any, t1, t2, t3, .any, .any, t6, .any, .any, .any, .any, .any, .any, .any, .any, .any, .any, .any, .any, .any, .any, .any, .any, .any, .any, .any, .any, .any, .any, .any, .any, .any, .any, .any, .any, .any, .any, .any, .any, .any, .any, .any, .any, .any, .any, .any, .any, .any, .any, .any, .any, .any, .any, .any, .any, .any, .any, .any, .any, .any, .any, .any, .any, .any, .any, .any, .any, .any, .any, .any, .any, .any, .any, .any, .any, .any], loc, h⟩
theorem spec_l12Copy_e {a0 : AV} {h : AH} {K : AV → AH → Prop} (hw : TC Tryz.prog Θ Γ spec_l12Copy_c (retQ spec_l12Copy_r K) ⟨[a0, u, u, u, u, u, u, u, u, u, u, u, u, u, u, u, u, u, u, u, u, u, u, u, u, u, u, u, u, u, u, u, u, u, u, u, u, u, u, u, u, u, u, u, u, u, u, u, u, u, u, u, u, u, u, u, u, u, u, u, u, u, u, u, u, u, u, u, u, u, u, u, u, u, u, u], [], h⟩) : T Tryz.prog Γ Fn.spec_l12Copy [a0] h K :=
  T_of_body tabOK Tryz.func62 (code := bodyOf Tryz.f62) (by kernel_rfl) (by kernel_rfl) (by kernel_rfl) (by kernel_rfl) hw
def impl_Vat_copied_d0_os : List O := [⟨(some 10), none, .fld 0 (.t 1)⟩,
  ⟨(some 11), none, .load 1 false (.t 10)⟩,
  ⟨(some 12), none, .fld 2 (.t 1)⟩,
  ⟨(some 13), none, .load 1 false (.t 12)⟩,
  ⟨(some 14), none, .call (.c (.fn Fn.impl_copiedSents [] [])) [.t 13]⟩,
  ⟨(some 15), none, .build [.int .i64 0, .nils, .nils, .nils, .nils] [(0, 1, .t 11), (2, 1, .t 14)]⟩,
  ⟨(some 3), none, .alloc [.int .i64 0, .nils, .nils, .nils, .nils]⟩,
  ⟨none, none, .store 5 (.t 3) (.t 15)⟩]
def impl_Vat_copied_d0_af : List (List Nat) := [[], [0], [], [2], [3], [1, 4], [], [6, 5, 4, 0, 1, 2, 3, 4, 5, 6]]
theorem impl_Vat_copied_d0_q (gl : Gl) (Q : AE → St → Prop) (s : St) : aw Tryz.prog Θ Γ gl (.regD impl_Vat_copied_d0_os impl_Vat_copied_d0_af) Q s = awpT Tryz.prog Γ gl [⟨(some 10), none, .fld 0 (.t 1)⟩,
  ⟨(some 11), none, .load 1 false (.t 10)⟩,
  ⟨(some 12), none, .fld 2 (.t 1)⟩,
  ⟨(some 13), none, .load 1 false (.t 12)⟩,
  ⟨(some 14), none, .call (.c (.fn Fn.impl_copiedSents [] [])) [.t 13]⟩,
  ⟨(some 15), none, .build [.int .i64 0, .nils, .nils, .nils, .nils] [(0, 1, .t 11), (2, 1, .t 14)]⟩,
  ⟨(some 3), none, .alloc [.int .i64 0, .nils, .nils, .nils, .nils]⟩,
  ⟨none, none, .store 5 (.t 3) (.t 15)⟩] (Q .normal) 8 (.q 0 (.q 1 (.q 2 (.q 3 (.all [(4, .q 5 (.all [(6, .q 7 (.done))])), (6, .all [(4, .q 5 (.q 7 (.done)))])]))))) s := a_dd rfl (by kernel_rfl) gl Q s
def impl_Vat_copied_d1_os : List O := [⟨(some 23), none, .fld 1 (.t 3)⟩,
  ⟨(some 24), none, .load 1 false (.t 23)⟩,
  ⟨(some 25), none, .load 12 true (.t 5)⟩,
  ⟨(some 26), none, .call (.c (.fn Fn.impl_Entity_copied [] [])) [.t 25]⟩,
  ⟨(some 27), none, .bsl 12 1 [.int .i64 0, .int .i64 0, .nils, .int .i64 0, .int .i64 0, .int .i64 0, .nils, .nils, .int .i64 0, .int .i64 0, .int .i64 0, .int .i64 0] [(0, .t 26)]⟩,
  ⟨(some 28), none, .app 12 144 [.int .i64 0, .int .i64 0, .nils, .int .i64 0, .int .i64 0, .int .i64 0, .nils, .nils, .int .i64 0, .int .i64 0, .int .i64 0, .int .i64 0] false (.t 24) (.t 27)⟩,
  ⟨(some 29), none, .fld 1 (.t 3)⟩,
  ⟨none, none, .store 1 (.t 29) (.t 28)⟩]
def impl_Vat_copied_d1_af : List (List Nat) := [[], [0], [], [2], [3], [1, 4, 3], [0, 1, 2, 3, 4, 5], [6, 5, 5, 0, 1, 2, 3, 4, 5]]
theorem impl_Vat_copied_d1_q (gl : Gl) (Q : AE → St → Prop) (s : St) : aw Tryz.prog Θ Γ gl (.regD impl_Vat_copied_d1_os impl_Vat_copied_d1_af) Q s = awpT Tryz.prog Γ gl [⟨(some 23), none, .fld 1 (.t 3)⟩,
  ⟨(some 24), none, .load 1 false (.t 23)⟩,
  ⟨(some 25), none, .load 12 true (.t 5)⟩,
  ⟨(some 26), none, .call (.c (.fn Fn.impl_Entity_copied [] [])) [.t 25]⟩,
  ⟨(some 27), none, .bsl 12 1 [.int .i64 0, .int .i64 0, .nils, .int .i64 0, .int .i64 0, .int .i64 0, .nils, .nils, .int .i64 0, .int .i64 0, .int .i64 0, .int .i64 0] [(0, .t 26)]⟩,
  ⟨(some 28), none, .app 12 144 [.int .i64 0, .int .i64 0, .nils, .int .i64 0, .int .i64 0, .int .i64 0, .nils, .nils, .int .i64 0, .int .i64 0, .int .i64 0, .int .i64 0] false (.t 24) (.t 27)⟩,
  ⟨(some 29), none, .fld 1 (.t 3)⟩,
  ⟨none, none, .store 1 (.t 29) (.t 28)⟩] (Q .normal) 8 (.q 0 (.q 1 (.q 2 (.all [(3, .all [(4, .q 5 (.q 6 (.q 7 (.done))))])])))) s := a_dd rfl (by kernel_rfl) gl Q s
def impl_Vat_copied_d2_os : List O := [⟨(some 38), none, .fld 3 (.t 3)⟩,
  ⟨(some 39), none, .load 1 false (.t 38)⟩,
  ⟨(some 40), none, .load 7 true (.t 7)⟩,
  ⟨(some 41), none, .call (.c (.fn Fn.impl_Link_copied [] [])) [.t 40]⟩,
  ⟨(some 42), none, .bsl 7 1 [.int .i64 0, .bool false, .nils, .int .i64 0, .nils, .int .i64 0, .nils] [(0, .t 41)]⟩,
  ⟨(some 43), none, .app 7 104 [.int .i64 0, .bool false, .nils, .int .i64 0, .nils, .int .i64 0, .nils] false (.t 39) (.t 42)⟩,
  ⟨(some 44), none, .fld 3 (.t 3)⟩,
  ⟨none, none, .store 1 (.t 44) (.t 43)⟩]
def impl_Vat_copied_d2_af : List (List Nat) := [[], [0], [], [2], [3], [1, 4, 3], [0, 1, 2, 3, 4, 5], [6, 5, 5, 0, 1, 2, 3, 4, 5]]
theorem impl_Vat_copied_d2_q (gl : Gl) (Q : AE → St → Prop) (s : St) : aw Tryz.prog Θ Γ gl (.regD impl_Vat_copied_d2_os impl_Vat_copied_d2_af) Q s = awpT Tryz.prog Γ gl [⟨(some 38), none, .fld 3 (.t 3)⟩,
  ⟨(some 39), none, .load 1 false (.t 38)⟩,
  ⟨(some 40), none, .load 7 true (.t 7)⟩,
  ⟨(some 41), none, .call (.c (.fn Fn.impl_Link_copied [] [])) [.t 40]⟩,
  ⟨(some 42), none, .bsl 7 1 [.int .i64 0, .bool false, .nils, .int .i64 0, .nils, .int .i64 0, .nils] [(0, .t 41)]⟩,
  ⟨(some 43), none, .app 7 104 [.int .i64 0, .bool false, .nils, .int .i64 0, .nils, .int .i64 0, .nils] false (.t 39) (.t 42)⟩,
  ⟨(some 44), none, .fld 3 (.t 3)⟩,
  ⟨none, none, .store 1 (.t 44) (.t 43)⟩] (Q .normal) 8 (.q 0 (.q 1 (.q 2 (.all [(3, .all [(4, .q 5 (.q 6 (.q 7 (.done))))])])))) s := a_dd rfl (by kernel_rfl) gl Q s
def impl_Vat_copied_d3_os : List O := [⟨(some 53), none, .fld 4 (.t 3)⟩,
  ⟨(some 54), none, .load 1 false (.t 53)⟩,
  ⟨(some 55), none, .fld 0 (.t 9)⟩,
  ⟨(some 56), none, .load 1 false (.t 55)⟩,
  ⟨(some 57), none, .fld 1 (.t 9)⟩,
  ⟨(some 58), none, .load 12 true (.t 57)⟩,
  ⟨(some 59), none, .call (.c (.fn Fn.impl_Message_copied [] [])) [.t 58]⟩,
  ⟨(some 60), none, .build [.int .i64 0, .int .i64 0, .int .i64 0, .int .i64 0, .int .i64 0, .str ⟨#[]⟩, .nils, .int .i64 0, .int .i64 0, .int .i64 0, .int .i64 0, .int .i64 0, .int .i64 0] [(0, 1, .t 56), (1, 12, .t 59)]⟩,
  ⟨(some 61), none, .bsl 13 1 [.int .i64 0, .int .i64 0, .int .i64 0, .int .i64 0, .int .i64 0, .str ⟨#[]⟩, .nils, .int .i64 0, .int .i64 0, .int .i64 0, .int .i64 0, .int .i64 0, .int .i64 0] [(0, .t 60)]⟩,
  ⟨(some 62), none, .app 13 128 [.int .i64 0, .int .i64 0, .int .i64 0, .int .i64 0, .int .i64 0, .str ⟨#[]⟩, .nils, .int .i64 0, .int .i64 0, .int .i64 0, .int .i64 0, .int .i64 0, .int .i64 0] false (.t 54) (.t 61)⟩,
  ⟨(some 63), none, .fld 4 (.t 3)⟩,
  ⟨none, none, .store 1 (.t 63) (.t 62)⟩]
def impl_Vat_copied_d3_af : List (List Nat) := [[], [0], [], [2], [], [4], [5], [3, 6], [7], [1, 8, 6], [0, 1, 2, 3, 4, 5, 6, 7, 8, 9], [10, 9, 9, 0, 1, 2, 3, 4, 5, 6, 7, 8, 9]]
theorem impl_Vat_copied_d3_q (gl : Gl) (Q : AE → St → Prop) (s : St) : aw Tryz.prog Θ Γ gl (.regD impl_Vat_copied_d3_os impl_Vat_copied_d3_af) Q s = awpT Tryz.prog Γ gl [⟨(some 53), none, .fld 4 (.t 3)⟩,
  ⟨(some 54), none, .load 1 false (.t 53)⟩,
  ⟨(some 55), none, .fld 0 (.t 9)⟩,
  ⟨(some 56), none, .load 1 false (.t 55)⟩,
  ⟨(some 57), none, .fld 1 (.t 9)⟩,
  ⟨(some 58), none, .load 12 true (.t 57)⟩,
  ⟨(some 59), none, .call (.c (.fn Fn.impl_Message_copied [] [])) [.t 58]⟩,
  ⟨(some 60), none, .build [.int .i64 0, .int .i64 0, .int .i64 0, .int .i64 0, .int .i64 0, .str ⟨#[]⟩, .nils, .int .i64 0, .int .i64 0, .int .i64 0, .int .i64 0, .int .i64 0, .int .i64 0] [(0, 1, .t 56), (1, 12, .t 59)]⟩,
  ⟨(some 61), none, .bsl 13 1 [.int .i64 0, .int .i64 0, .int .i64 0, .int .i64 0, .int .i64 0, .str ⟨#[]⟩, .nils, .int .i64 0, .int .i64 0, .int .i64 0, .int .i64 0, .int .i64 0, .int .i64 0] [(0, .t 60)]⟩,
  ⟨(some 62), none, .app 13 128 [.int .i64 0, .int .i64 0, .int .i64 0, .int .i64 0, .int .i64 0, .str ⟨#[]⟩, .nils, .int .i64 0, .int .i64 0, .int .i64 0, .int .i64 0, .int .i64 0, .int .i64 0] false (.t 54) (.t 61)⟩,
  ⟨(some 63), none, .fld 4 (.t 3)⟩,
  ⟨none, none, .store 1 (.t 63) (.t 62)⟩] (Q .normal) 12 (.q 0 (.q 1 (.q 2 (.q 3 (.q 4 (.q 5 (.all [(6, .q 7 (.all [(8, .q 9 (.q 10 (.q 11 (.done))))]))]))))))) s := a_dd rfl (by kernel_rfl) gl Q s
def impl_Vat_copied_c : C := .seq (.reg [⟨(some 1), none, .box (.t 0)⟩,
  ⟨(some 2), none, .alloc [.int .i64 0, .nils, .nils, .nils, .nils]⟩]) (.seq (.regD impl_Vat_copied_d0_os impl_Vat_copied_d0_af) (.seq (.seq (.reg [⟨(some 16), none, .fld 1 (.t 1)⟩,
  ⟨(some 17), none, .load 1 false (.t 16)⟩,
  ⟨(some 18), none, .len false (.t 17)⟩,
  ⟨(some 19), none, .mov (.c (.int .i64 0))⟩]) (.block 0 (.loop (.seq (.reg [⟨(some 20), none, .bin .lss (.num) (.t 19) (.t 18)⟩]) (.seq (.cond (.t 20) (.skip) (.exit 0)) (.seq (.block 1 (.seq (.reg [⟨(some 21), none, .idxs 12 (.t 17) (.t 19)⟩,
  ⟨(some 22), none, .load 12 true (.t 21)⟩,
  ⟨(some 5), none, .alloc [.int .i64 0, .int .i64 0, .nils, .int .i64 0, .int .i64 0, .int .i64 0, .nils, .nils, .int .i64 0, .int .i64 0, .int .i64 0, .int .i64 0]⟩,
  ⟨none, none, .store 12 (.t 5) (.t 22)⟩]) (.regD impl_Vat_copied_d1_os impl_Vat_copied_d1_af))) (.reg [⟨(some 30), none, .bin .add (.num) (.t 19) (.c (.int .i64 1))⟩,
  ⟨(some 19), none, .mov (.t 30)⟩]))))))) (.seq (.seq (.reg [⟨(some 31), none, .fld 3 (.t 1)⟩,
  ⟨(some 32), none, .load 1 false (.t 31)⟩,
  ⟨(some 33), none, .len false (.t 32)⟩,
  ⟨(some 34), none, .mov (.c (.int .i64 0))⟩]) (.block 2 (.loop (.seq (.reg [⟨(some 35), none, .bin .lss (.num) (.t 34) (.t 33)⟩]) (.seq (.cond (.t 35) (.skip) (.exit 2)) (.seq (.block 3 (.seq (.reg [⟨(some 36), none, .idxs 7 (.t 32) (.t 34)⟩,
  ⟨(some 37), none, .load 7 true (.t 36)⟩,
  ⟨(some 7), none, .alloc [.int .i64 0, .bool false, .nils, .int .i64 0, .nils, .int .i64 0, .nils]⟩,
  ⟨none, none, .store 7 (.t 7) (.t 37)⟩]) (.regD impl_Vat_copied_d2_os impl_Vat_copied_d2_af))) (.reg [⟨(some 45), none, .bin .add (.num) (.t 34) (.c (.int .i64 1))⟩,
  ⟨(some 34), none, .mov (.t 45)⟩]))))))) (.seq (.seq (.reg [⟨(some 46), none, .fld 4 (.t 1)⟩,
  ⟨(some 47), none, .load 1 false (.t 46)⟩,
  ⟨(some 48), none, .len false (.t 47)⟩,
  ⟨(some 49), none, .mov (.c (.int .i64 0))⟩]) (.block 4 (.loop (.seq (.reg [⟨(some 50), none, .bin .lss (.num) (.t 49) (.t 48)⟩]) (.seq (.cond (.t 50) (.skip) (.exit 4)) (.seq (.block 5 (.seq (.reg [⟨(some 51), none, .idxs 13 (.t 47) (.t 49)⟩,
  ⟨(some 52), none, .load 13 true (.t 51)⟩,
  ⟨(some 9), none, .alloc [.int .i64 0, .int .i64 0, .int .i64 0, .int .i64 0, .int .i64 0, .str ⟨#[]⟩, .nils, .int .i64 0, .int .i64 0, .int .i64 0, .int .i64 0, .int .i64 0, .int .i64 0]⟩,
  ⟨none, none, .store 13 (.t 9) (.t 52)⟩]) (.regD impl_Vat_copied_d3_os impl_Vat_copied_d3_af))) (.reg [⟨(some 64), none, .bin .add (.num) (.t 49) (.c (.int .i64 1))⟩,
  ⟨(some 49), none, .mov (.t 64)⟩]))))))) (.seq (.reg [⟨(some 65), none, .load 5 true (.t 3)⟩,
  ⟨none, none, .store 5 (.t 2) (.t 65)⟩]) (.ret))))))
def impl_Vat_copied_r : List RS := [.cell 2 5 true]
def impl_Vat_copied_s0 (t1 t2 t3 t17 t18 t19 : AV) (loc : List (List AV)) (h : AH) : St := ⟨[.any, t1, t2, t3, .any, .any, .any, .any, .any, .any, .any, .any, .any, .any, .any, .any, .any, t17, t18, t19, .any, .any, .any, .any, .any, .any, .any, .any, .any, .any, .any, .any, .any, .any, .any, .any, .any, .any, .any, .any, .any, .any, .any, .any, .any, .any, .any, .any, .any, .any, .any, .any, .any, .any, .any, .any, .any, .any, .any, .any, .any, .any, .any, .any, .any, .any], loc, h⟩
def impl_Vat_copied_s1 (t1 t2 t3 t32 t33 t34 : AV) (loc : List (List AV)) (h : AH) : St := ⟨[.any, t1, t2, t3, .any, .any, .any, .any, .any, .any, .any, .any, .any, .any, .any, .any, .any, .any, .any, .any, .any, .any, .any, .any, .any, .any, .any, .any, .any, .any, .any, .any, t32, t33, t34, .any, .any, .any, .any, .any, .any, .any, .any, .any, .any, .any, .any, .any, .any, .any, .any, .any, .any, .any, .any, .any, .any, .any, .any, .any, .any, .any, .any, .any, .any, .any], loc, h⟩
def impl_Vat_copied_s2 (t2 t3 t47 t48 t49 : AV) (loc : List (List AV)) (h : AH) : St := ⟨[.any, .any, t2, t3, .any, .any, .any, .any, .any, .any, .any, .any, .any, .any, .any, .any, .any, .any, .any, .any, .any, .any, .any, .any, .any, .any, .any, .any, .any, .any, .any, .any, .any, .any, .any, .any, .any, .any, .any, .any, .any, .any, .any, .any, .any, .any, .any, t47, t48, t49, .any, .any, .any, .any, .any, .any, .any, .any, .any, .any, .any, .any, .any, .any, .any, .any], loc, h⟩
theorem impl_Vat_copied_e {a0 : AV} {h : AH} {K : AV → AH → Prop} (hw : TC Tryz.prog Θ Γ impl_Vat_copied_c (retQ impl_Vat_copied_r K) ⟨[a0, u, u, u, u, u, u, u, u, u, u, u, u, u, u, u, u, u, u, u, u, u, u, u, u, u, u, u, u, u, u, u, u, u, u, u, u, u, u, u, u, u, u, u, u, u, u, u, u, u, u, u, u, u, u, u, u, u, u, u, u, u, u, u, u, u], [], h⟩) : T Tryz.prog Γ Fn.impl_Vat_copied [a0] h K :=
  T_of_body tabOK Tryz.func65 (code := bodyOf Tryz.f65) (by kernel_rfl) (by kernel_rfl) (by kernel_rfl) (by kernel_rfl) hw
def laws_heldEntityS_c : C := .seq (.reg [⟨(some 4), none, .mov (.c (.int .i64 0))⟩]) (.seq (.seq (.reg [⟨(some 5), none, .mov (.c (.int .i64 0))⟩]) (.block 0 (.loop (.seq (.seq (.reg [⟨(some 6), none, .mov (.t 5)⟩,
  ⟨(some 7), none, .mov (.t 0)⟩,
  ⟨(some 8), none, .len false (.t 7)⟩,
  ⟨(some 9), none, .bin .lss (.num) (.t 6) (.t 8)⟩]) (.cond (.t 9) (.skip) (.exit 0))) (.seq (.block 1 (.seq (.seq (.reg [⟨(some 12), none, .mov (.t 0)⟩,
  ⟨(some 13), none, .mov (.t 5)⟩,
  ⟨(some 14), none, .idxs 12 (.t 12) (.t 13)⟩,
  ⟨(some 15), none, .fld 0 (.t 14)⟩,
  ⟨(some 16), none, .load 1 false (.t 15)⟩,
  ⟨(some 17), none, .mov (.t 1)⟩,
  ⟨(some 18), none, .bin .neq (.num) (.t 16) (.t 17)⟩]) (.cond (.t 18) (.seq (.reg [⟨(some 4), none, .mov (.c (.int .i64 (-1)))⟩]) (.ret)) (.skip))) (.seq (.reg [⟨(some 19), none, .mov (.t 1)⟩,
  ⟨(some 20), none, .bin .add (.num) (.t 19) (.c (.int .i64 1))⟩,
  ⟨(some 1), none, .mov (.t 20)⟩]) (.seq (.seq (.reg [⟨(some 21), none, .mov (.t 0)⟩,
  ⟨(some 22), none, .mov (.t 5)⟩,
  ⟨(some 23), none, .idxs 12 (.t 21) (.t 22)⟩,
  ⟨(some 24), none, .fld 1 (.t 23)⟩,
  ⟨(some 25), none, .load 1 false (.t 24)⟩,
  ⟨(some 26), none, .mov (.t 1)⟩,
  ⟨(some 27), none, .bin .neq (.num) (.t 25) (.t 26)⟩]) (.cond (.t 27) (.seq (.reg [⟨(some 4), none, .mov (.c (.int .i64 (-1)))⟩]) (.ret)) (.skip))) (.seq (.reg [⟨(some 28), none, .mov (.t 1)⟩,
  ⟨(some 29), none, .bin .add (.num) (.t 28) (.c (.int .i64 1))⟩,
  ⟨(some 1), none, .mov (.t 29)⟩]) (.seq (.reg [⟨(some 30), none, .mov (.t 0)⟩,
  ⟨(some 31), none, .mov (.t 5)⟩,
  ⟨(some 32), none, .idxs 12 (.t 30) (.t 31)⟩,
  ⟨(some 33), none, .fld 2 (.t 32)⟩,
  ⟨(some 34), none, .load 1 false (.t 33)⟩,
  ⟨(some 35), none, .mov (.t 1)⟩,
  ⟨(some 36), none, .call (.c (.fn Fn.laws_heldValueS [] [])) [.t 34, .t 35]⟩,
  ⟨(some 1), none, .mov (.t 36)⟩]) (.seq (.seq (.reg [⟨(some 37), none, .mov (.t 1)⟩,
  ⟨(some 38), none, .bin .lss (.num) (.t 37) (.c (.int .i64 0))⟩]) (.cond (.t 38) (.seq (.reg [⟨(some 4), none, .mov (.c (.int .i64 (-1)))⟩]) (.ret)) (.skip))) (.seq (.seq (.reg [⟨(some 39), none, .mov (.t 0)⟩,
  ⟨(some 40), none, .mov (.t 5)⟩,
  ⟨(some 41), none, .idxs 12 (.t 39) (.t 40)⟩,
  ⟨(some 42), none, .fld 3 (.t 41)⟩,
  ⟨(some 43), none, .load 1 false (.t 42)⟩,
  ⟨(some 44), none, .mov (.t 1)⟩,
  ⟨(some 45), none, .bin .neq (.num) (.t 43) (.t 44)⟩]) (.cond (.t 45) (.seq (.reg [⟨(some 4), none, .mov (.c (.int .i64 (-1)))⟩]) (.ret)) (.skip))) (.seq (.reg [⟨(some 46), none, .mov (.t 1)⟩,
  ⟨(some 47), none, .bin .add (.num) (.t 46) (.c (.int .i64 1))⟩,
  ⟨(some 1), none, .mov (.t 47)⟩]) (.seq (.seq (.reg [⟨(some 48), none, .mov (.t 0)⟩,
  ⟨(some 49), none, .mov (.t 5)⟩,
  ⟨(some 50), none, .idxs 12 (.t 48) (.t 49)⟩,
  ⟨(some 51), none, .fld 4 (.t 50)⟩,
  ⟨(some 52), none, .fld 0 (.t 51)⟩,
  ⟨(some 53), none, .load 1 false (.t 52)⟩,
  ⟨(some 54), none, .mov (.t 1)⟩,
  ⟨(some 55), none, .bin .neq (.num) (.t 53) (.t 54)⟩]) (.cond (.t 55) (.seq (.reg [⟨(some 4), none, .mov (.c (.int .i64 (-1)))⟩]) (.ret)) (.skip))) (.seq (.reg [⟨(some 56), none, .mov (.t 1)⟩,
  ⟨(some 57), none, .bin .add (.num) (.t 56) (.c (.int .i64 1))⟩,
  ⟨(some 1), none, .mov (.t 57)⟩]) (.seq (.seq (.reg [⟨(some 58), none, .mov (.t 0)⟩,
  ⟨(some 59), none, .mov (.t 5)⟩,
  ⟨(some 60), none, .idxs 12 (.t 58) (.t 59)⟩,
  ⟨(some 61), none, .fld 4 (.t 60)⟩,
  ⟨(some 62), none, .fld 1 (.t 61)⟩,
  ⟨(some 63), none, .load 1 false (.t 62)⟩,
  ⟨(some 64), none, .mov (.t 1)⟩,
  ⟨(some 65), none, .bin .neq (.num) (.t 63) (.t 64)⟩]) (.cond (.t 65) (.seq (.reg [⟨(some 4), none, .mov (.c (.int .i64 (-1)))⟩]) (.ret)) (.skip))) (.seq (.reg [⟨(some 66), none, .mov (.t 1)⟩,
  ⟨(some 67), none, .bin .add (.num) (.t 66) (.c (.int .i64 1))⟩,
  ⟨(some 1), none, .mov (.t 67)⟩]) (.seq (.reg [⟨(some 68), none, .mov (.t 0)⟩,
  ⟨(some 69), none, .mov (.t 5)⟩,
  ⟨(some 70), none, .idxs 12 (.t 68) (.t 69)⟩,
  ⟨(some 71), none, .fld 6 (.t 70)⟩,
  ⟨(some 72), none, .load 1 false (.t 71)⟩,
  ⟨(some 73), none, .mov (.t 1)⟩,
  ⟨(some 74), none, .call (.c (.fn Fn.laws_heldSentS [] [])) [.t 72, .t 73]⟩,
  ⟨(some 1), none, .mov (.t 74)⟩]) (.seq (.seq (.reg [⟨(some 75), none, .mov (.t 1)⟩,
  ⟨(some 76), none, .bin .lss (.num) (.t 75) (.c (.int .i64 0))⟩]) (.cond (.t 76) (.seq (.reg [⟨(some 4), none, .mov (.c (.int .i64 (-1)))⟩]) (.ret)) (.skip))) (.seq (.reg [⟨(some 77), none, .mov (.t 0)⟩,
  ⟨(some 78), none, .mov (.t 5)⟩,
  ⟨(some 79), none, .idxs 12 (.t 77) (.t 78)⟩,
  ⟨(some 80), none, .fld 7 (.t 79)⟩,
  ⟨(some 81), none, .load 1 false (.t 80)⟩,
  ⟨(some 82), none, .mov (.t 1)⟩,
  ⟨(some 83), none, .call (.c (.fn Fn.laws_heldAskerS [] [])) [.t 81, .t 82]⟩,
  ⟨(some 1), none, .mov (.t 83)⟩]) (.seq (.seq (.reg [⟨(some 84), none, .mov (.t 1)⟩,
  ⟨(some 85), none, .bin .lss (.num) (.t 84) (.c (.int .i64 0))⟩]) (.cond (.t 85) (.seq (.reg [⟨(some 4), none, .mov (.c (.int .i64 (-1)))⟩]) (.ret)) (.skip))) (.seq (.seq (.reg [⟨(some 86), none, .mov (.t 0)⟩,
  ⟨(some 87), none, .mov (.t 5)⟩,
  ⟨(some 88), none, .idxs 12 (.t 86) (.t 87)⟩,
  ⟨(some 89), none, .fld 8 (.t 88)⟩,
  ⟨(some 90), none, .load 1 false (.t 89)⟩,
  ⟨(some 91), none, .mov (.t 1)⟩,
  ⟨(some 92), none, .bin .neq (.num) (.t 90) (.t 91)⟩]) (.cond (.t 92) (.seq (.reg [⟨(some 4), none, .mov (.c (.int .i64 (-1)))⟩]) (.ret)) (.skip))) (.seq (.reg [⟨(some 93), none, .mov (.t 1)⟩,
  ⟨(some 94), none, .bin .add (.num) (.t 93) (.c (.int .i64 1))⟩,
  ⟨(some 1), none, .mov (.t 94)⟩]) (.seq (.seq (.reg [⟨(some 95), none, .mov (.t 0)⟩,
  ⟨(some 96), none, .mov (.t 5)⟩,
  ⟨(some 97), none, .idxs 12 (.t 95) (.t 96)⟩,
  ⟨(some 98), none, .fld 9 (.t 97)⟩,
  ⟨(some 99), none, .load 1 false (.t 98)⟩,
  ⟨(some 100), none, .mov (.t 1)⟩,
  ⟨(some 101), none, .bin .neq (.num) (.t 99) (.t 100)⟩]) (.cond (.t 101) (.seq (.reg [⟨(some 4), none, .mov (.c (.int .i64 (-1)))⟩]) (.ret)) (.skip))) (.seq (.reg [⟨(some 102), none, .mov (.t 1)⟩,
  ⟨(some 103), none, .bin .add (.num) (.t 102) (.c (.int .i64 1))⟩,
  ⟨(some 1), none, .mov (.t 103)⟩]) (.seq (.seq (.reg [⟨(some 104), none, .mov (.t 0)⟩,
  ⟨(some 105), none, .mov (.t 5)⟩,
  ⟨(some 106), none, .idxs 12 (.t 104) (.t 105)⟩,
  ⟨(some 107), none, .fld 10 (.t 106)⟩,
  ⟨(some 108), none, .load 1 false (.t 107)⟩,
  ⟨(some 109), none, .mov (.t 1)⟩,
  ⟨(some 110), none, .bin .neq (.num) (.t 108) (.t 109)⟩]) (.cond (.t 110) (.seq (.reg [⟨(some 4), none, .mov (.c (.int .i64 (-1)))⟩]) (.ret)) (.skip))) (.seq (.reg [⟨(some 111), none, .mov (.t 1)⟩,
  ⟨(some 112), none, .bin .add (.num) (.t 111) (.c (.int .i64 1))⟩,
  ⟨(some 1), none, .mov (.t 112)⟩]) (.seq (.seq (.reg [⟨(some 113), none, .mov (.t 0)⟩,
  ⟨(some 114), none, .mov (.t 5)⟩,
  ⟨(some 115), none, .idxs 12 (.t 113) (.t 114)⟩,
  ⟨(some 116), none, .fld 11 (.t 115)⟩,
  ⟨(some 117), none, .load 1 false (.t 116)⟩,
  ⟨(some 118), none, .mov (.t 1)⟩,
  ⟨(some 119), none, .bin .neq (.num) (.t 117) (.t 118)⟩]) (.cond (.t 119) (.seq (.reg [⟨(some 4), none, .mov (.c (.int .i64 (-1)))⟩]) (.ret)) (.skip))) (.reg [⟨(some 120), none, .mov (.t 1)⟩,
  ⟨(some 121), none, .bin .add (.num) (.t 120) (.c (.int .i64 1))⟩,
  ⟨(some 1), none, .mov (.t 121)⟩]))))))))))))))))))))))))) (.reg [⟨(some 10), none, .mov (.t 5)⟩,
  ⟨(some 11), none, .bin .add (.num) (.t 10) (.c (.int .i64 1))⟩,
  ⟨(some 5), none, .mov (.t 11)⟩])))))) (.seq (.reg [⟨(some 122), none, .mov (.t 1)⟩,
  ⟨(some 4), none, .mov (.t 122)⟩]) (.ret)))
def laws_heldEntityS_r : List RS := [.t 4]
def laws_heldEntityS_s0 (t0 t1 t5 : AV) (loc : List (List AV)) (h : AH) : St := ⟨[t0, t1, .any, .any, .any, t5, .any, .any, .any, .any, .any, .any, .any, .any, .any, .any, .any, .any, .any, .any, .any, .any, .any, .any, .any, .any, .any, .any, .any, .any, .any, .any, .any, .any, .any, .any, .any, .any, .any, .any, .any, .any, .any, .any, .any, .any, .any, .any, .any, .any, .any, .any, .any, .any, .any, .any, .any, .any, .any, .any, .any, .any, .any, .any, .any, .any, .any, .any, .any, .any, .any, .any, .any, .any, .any, .any, .any, .any, .any, .any, .any, .any, .any, .any, .any, .any, .any, .any, .any, .any, .any, .any, .any, .any, .any, .any, .any, .any, .any, .any, .any, .any, .any, .any, .any, .any, .any, .any, .any, .any, .any, .any, .any, .any, .any, .any, .any, .any, .any, .any, .any, .any, .any], loc, h⟩
theorem laws_heldEntityS_e {a0 a1 : AV} {h : AH} {K : AV → AH → Prop} (hw : TC Tryz.prog Θ Γ laws_heldEntityS_c (retQ laws_heldEntityS_r K) ⟨[a0, a1, u, u, u, u, u, u, u, u, u, u, u, u, u, u, u, u, u, u, u, u, u, u, u, u, u, u, u, u, u, u, u, u, u, u, u, u, u, u, u, u, u, u, u, u, u, u, u, u, u, u, u, u, u, u, u, u, u, u, u, u, u, u, u, u, u, u, u, u, u, u, u, u, u, u, u, u, u, u, u, u, u, u, u, u, u, u, u, u, u, u, u, u, u, u, u, u, u, u, u, u, u, u, u, u, u, u, u, u, u, u, u, u, u, u, u, u, u, u, u, u, u], [], h⟩) : T Tryz.prog Γ Fn.laws_heldEntityS [a0, a1] h K :=
  T_of_body tabOK Tryz.func67 (code := bodyOf Tryz.f67) (by kernel_rfl) (by kernel_rfl) (by kernel_rfl) (by kernel_rfl) hw
def laws_heldSentS_d0_os : List O := [⟨(some 21), none, .mov (.t 0)⟩,
  ⟨(some 22), none, .mov (.t 5)⟩,
  ⟨(some 23), none, .idxs 7 (.t 21) (.t 22)⟩,
  ⟨(some 24), none, .fld 1 (.t 23)⟩,
  ⟨(some 25), none, .load 1 false (.t 24)⟩,
  ⟨(some 26), none, .mov (.t 1)⟩,
  ⟨(some 27), none, .call (.c (.fn Fn.laws_markText [] [])) [.t 26]⟩,
  ⟨(some 28), none, .bin .neq (.num) (.t 25) (.t 27)⟩]
def laws_heldSentS_d0_af : List (List Nat) := [[], [], [0, 1], [2], [3], [], [5], [4, 6]]
theorem laws_heldSentS_d0_q (gl : Gl) (Q : AE → St → Prop) (s : St) : aw Tryz.prog Θ Γ gl (.regD laws_heldSentS_d0_os laws_heldSentS_d0_af) Q s = awpT Tryz.prog Γ gl [⟨(some 21), none, .mov (.t 0)⟩,
  ⟨(some 22), none, .mov (.t 5)⟩,
  ⟨(some 23), none, .idxs 7 (.t 21) (.t 22)⟩,
  ⟨(some 24), none, .fld 1 (.t 23)⟩,
  ⟨(some 25), none, .load 1 false (.t 24)⟩,
  ⟨(some 26), none, .mov (.t 1)⟩,
  ⟨(some 27), none, .call (.c (.fn Fn.laws_markText [] [])) [.t 26]⟩,
  ⟨(some 28), none, .bin .neq (.num) (.t 25) (.t 27)⟩] (Q .normal) 8 (.q 0 (.q 1 (.q 2 (.q 3 (.q 4 (.q 5 (.all [(6, .q 7 (.done))]))))))) s := a_dd rfl (by kernel_rfl) gl Q s
def laws_heldSentS_c : C := .seq (.reg [⟨(some 4), none, .mov (.c (.int .i64 0))⟩]) (.seq (.seq (.reg [⟨(some 5), none, .mov (.c (.int .i64 0))⟩]) (.block 0 (.loop (.seq (.seq (.reg [⟨(some 6), none, .mov (.t 5)⟩,
  ⟨(some 7), none, .mov (.t 0)⟩,
  ⟨(some 8), none, .len false (.t 7)⟩,
  ⟨(some 9), none, .bin .lss (.num) (.t 6) (.t 8)⟩]) (.cond (.t 9) (.skip) (.exit 0))) (.seq (.block 1 (.seq (.seq (.reg [⟨(some 12), none, .mov (.t 0)⟩,
  ⟨(some 13), none, .mov (.t 5)⟩,
  ⟨(some 14), none, .idxs 7 (.t 12) (.t 13)⟩,
  ⟨(some 15), none, .fld 0 (.t 14)⟩,
  ⟨(some 16), none, .load 1 false (.t 15)⟩,
  ⟨(some 17), none, .mov (.t 1)⟩,
  ⟨(some 18), none, .bin .neq (.num) (.t 16) (.t 17)⟩]) (.cond (.t 18) (.seq (.reg [⟨(some 4), none, .mov (.c (.int .i64 (-1)))⟩]) (.ret)) (.skip))) (.seq (.reg [⟨(some 19), none, .mov (.t 1)⟩,
  ⟨(some 20), none, .bin .add (.num) (.t 19) (.c (.int .i64 1))⟩,
  ⟨(some 1), none, .mov (.t 20)⟩]) (.seq (.seq (.regD laws_heldSentS_d0_os laws_heldSentS_d0_af) (.cond (.t 28) (.seq (.reg [⟨(some 4), none, .mov (.c (.int .i64 (-1)))⟩]) (.ret)) (.skip))) (.seq (.reg [⟨(some 29), none, .mov (.t 1)⟩,
  ⟨(some 30), none, .bin .add (.num) (.t 29) (.c (.int .i64 1))⟩,
  ⟨(some 1), none, .mov (.t 30)⟩]) (.seq (.reg [⟨(some 31), none, .mov (.t 0)⟩,
  ⟨(some 32), none, .mov (.t 5)⟩,
  ⟨(some 33), none, .idxs 7 (.t 31) (.t 32)⟩,
  ⟨(some 34), none, .fld 2 (.t 33)⟩,
  ⟨(some 35), none, .load 1 false (.t 34)⟩,
  ⟨(some 36), none, .mov (.t 1)⟩,
  ⟨(some 37), none, .call (.c (.fn Fn.laws_heldValueS [] [])) [.t 35, .t 36]⟩,
  ⟨(some 1), none, .mov (.t 37)⟩]) (.seq (.seq (.reg [⟨(some 38), none, .mov (.t 1)⟩,
  ⟨(some 39), none, .bin .lss (.num) (.t 38) (.c (.int .i64 0))⟩]) (.cond (.t 39) (.seq (.reg [⟨(some 4), none, .mov (.c (.int .i64 (-1)))⟩]) (.ret)) (.skip))) (.seq (.seq (.reg [⟨(some 40), none, .mov (.t 0)⟩,
  ⟨(some 41), none, .mov (.t 5)⟩,
  ⟨(some 42), none, .idxs 7 (.t 40) (.t 41)⟩,
  ⟨(some 43), none, .fld 3 (.t 42)⟩,
  ⟨(some 44), none, .load 1 false (.t 43)⟩,
  ⟨(some 45), none, .mov (.t 1)⟩,
  ⟨(some 46), none, .bin .neq (.num) (.t 44) (.t 45)⟩]) (.cond (.t 46) (.seq (.reg [⟨(some 4), none, .mov (.c (.int .i64 (-1)))⟩]) (.ret)) (.skip))) (.seq (.reg [⟨(some 47), none, .mov (.t 1)⟩,
  ⟨(some 48), none, .bin .add (.num) (.t 47) (.c (.int .i64 1))⟩,
  ⟨(some 1), none, .mov (.t 48)⟩]) (.seq (.seq (.reg [⟨(some 49), none, .mov (.t 0)⟩,
  ⟨(some 50), none, .mov (.t 5)⟩,
  ⟨(some 51), none, .idxs 7 (.t 49) (.t 50)⟩,
  ⟨(some 52), none, .fld 4 (.t 51)⟩,
  ⟨(some 53), none, .fld 0 (.t 52)⟩,
  ⟨(some 54), none, .load 1 false (.t 53)⟩,
  ⟨(some 55), none, .mov (.t 1)⟩,
  ⟨(some 56), none, .bin .neq (.num) (.t 54) (.t 55)⟩]) (.cond (.t 56) (.seq (.reg [⟨(some 4), none, .mov (.c (.int .i64 (-1)))⟩]) (.ret)) (.skip))) (.seq (.reg [⟨(some 57), none, .mov (.t 1)⟩,
  ⟨(some 58), none, .bin .add (.num) (.t 57) (.c (.int .i64 1))⟩,
  ⟨(some 1), none, .mov (.t 58)⟩]) (.seq (.seq (.reg [⟨(some 59), none, .mov (.t 0)⟩,
  ⟨(some 60), none, .mov (.t 5)⟩,
  ⟨(some 61), none, .idxs 7 (.t 59) (.t 60)⟩,
  ⟨(some 62), none, .fld 4 (.t 61)⟩,
  ⟨(some 63), none, .fld 1 (.t 62)⟩,
  ⟨(some 64), none, .load 1 false (.t 63)⟩,
  ⟨(some 65), none, .mov (.t 1)⟩,
  ⟨(some 66), none, .bin .neq (.num) (.t 64) (.t 65)⟩]) (.cond (.t 66) (.seq (.reg [⟨(some 4), none, .mov (.c (.int .i64 (-1)))⟩]) (.ret)) (.skip))) (.seq (.reg [⟨(some 67), none, .mov (.t 1)⟩,
  ⟨(some 68), none, .bin .add (.num) (.t 67) (.c (.int .i64 1))⟩,
  ⟨(some 1), none, .mov (.t 68)⟩]) (.seq (.seq (.reg [⟨(some 69), none, .mov (.t 0)⟩,
  ⟨(some 70), none, .mov (.t 5)⟩,
  ⟨(some 71), none, .idxs 7 (.t 69) (.t 70)⟩,
  ⟨(some 72), none, .fld 4 (.t 71)⟩,
  ⟨(some 73), none, .fld 2 (.t 72)⟩,
  ⟨(some 74), none, .load 1 false (.t 73)⟩,
  ⟨(some 75), none, .mov (.t 1)⟩,
  ⟨(some 76), none, .bin .neq (.num) (.t 74) (.t 75)⟩]) (.cond (.t 76) (.seq (.reg [⟨(some 4), none, .mov (.c (.int .i64 (-1)))⟩]) (.ret)) (.skip))) (.reg [⟨(some 77), none, .mov (.t 1)⟩,
  ⟨(some 78), none, .bin .add (.num) (.t 77) (.c (.int .i64 1))⟩,
  ⟨(some 1), none, .mov (.t 78)⟩]))))))))))))))) (.reg [⟨(some 10), none, .mov (.t 5)⟩,
  ⟨(some 11), none, .bin .add (.num) (.t 10) (.c (.int .i64 1))⟩,
  ⟨(some 5), none, .mov (.t 11)⟩])))))) (.seq (.reg [⟨(some 79), none, .mov (.t 1)⟩,
  ⟨(some 4), none, .mov (.t 79)⟩]) (.ret)))
def laws_heldSentS_r : List RS := [.t 4]
def laws_heldSentS_s0 (t0 t1 t5 : AV) (loc : List (List AV)) (h : AH) : St := ⟨[t0, t1, .any, .any, .any, t5, .any, .any, .any, .any, .any, .any, .any, .any, .any, .any, .any, .any, .any, .any, .any, .any, .any, .any, .any, .any, .any, .any, .any, .any, .any, .any, .any, .any, .any, .any, .any, .any, .any, .any, .any, .any, .any, .any, .any, .any, .any, .any, .any, .any, .any, .any, .any, .any, .any, .any, .any, .any, .any, .any, .any, .any, .any, .any, .any, .any, .any, .any, .any, .any, .any, .any, .any, .any, .any, .any, .any, .any, .any, .any], loc, h⟩
theorem laws_heldSentS_e {a0 a1 : AV} {h : AH} {K : AV → AH → Prop} (hw : TC Tryz.prog Θ Γ laws_heldSentS_c (retQ laws_heldSentS_r K) ⟨[a0, a1, u, u, u, u, u, u, u, u, u, u, u, u, u, u, u, u, u, u, u, u, u, u, u, u, u, u, u, u, u, u, u, u, u, u, u, u, u, u, u, u, u, u, u, u, u, u, u, u, u, u, u, u, u, u, u, u, u, u, u, u, u, u, u, u, u, u, u, u, u, u, u, u, u, u, u, u, u, u], [], h⟩) : T Tryz.prog Γ Fn.laws_heldSentS [a0, a1] h K :=
  T_of_body tabOK Tryz.func68 (code := bodyOf Tryz.f68) (by kernel_rfl) (by kernel_rfl) (by kernel_rfl) (by kernel_rfl) hw
def laws_heldLinkS_c : C := .seq (.reg [⟨(some 4), none, .mov (.c (.int .i64 0))⟩]) (.seq (.seq (.reg [⟨(some 5), none, .mov (.c (.int .i64 0))⟩]) (.block 0 (.loop (.seq (.seq (.reg [⟨(some 6), none, .mov (.t 5)⟩,
  ⟨(some 7), none, .mov (.t 0)⟩,
  ⟨(some 8), none, .len false (.t 7)⟩,
  ⟨(some 9), none, .bin .lss (.num) (.t 6) (.t 8)⟩]) (.cond (.t 9) (.skip) (.exit 0))) (.seq (.block 1 (.seq (.seq (.reg [⟨(some 12), none, .mov (.t 0)⟩,
  ⟨(some 13), none, .mov (.t 5)⟩,
  ⟨(some 14), none, .idxs 7 (.t 12) (.t 13)⟩,
  ⟨(some 15), none, .fld 0 (.t 14)⟩,
  ⟨(some 16), none, .load 1 false (.t 15)⟩,
  ⟨(some 17), none, .mov (.t 1)⟩,
  ⟨(some 18), none, .bin .neq (.num) (.t 16) (.t 17)⟩]) (.cond (.t 18) (.seq (.reg [⟨(some 4), none, .mov (.c (.int .i64 (-1)))⟩]) (.ret)) (.skip))) (.seq (.reg [⟨(some 19), none, .mov (.t 1)⟩,
  ⟨(some 20), none, .bin .add (.num) (.t 19) (.c (.int .i64 1))⟩,
  ⟨(some 1), none, .mov (.t 20)⟩]) (.seq (.seq (.reg [⟨(some 21), none, .mov (.t 0)⟩,
  ⟨(some 22), none, .mov (.t 5)⟩,
  ⟨(some 23), none, .idxs 7 (.t 21) (.t 22)⟩,
  ⟨(some 24), none, .fld 1 (.t 23)⟩,
  ⟨(some 25), none, .load 1 false (.t 24)⟩,
  ⟨(some 26), none, .mov (.t 1)⟩,
  ⟨(some 27), none, .bin .rem (.num) (.t 26) (.c (.int .i64 3))⟩,
  ⟨(some 28), none, .bin .eql (.num) (.t 27) (.c (.int .i64 0))⟩,
  ⟨(some 29), none, .bin .neq (.bool) (.t 25) (.t 28)⟩]) (.cond (.t 29) (.seq (.reg [⟨(some 4), none, .mov (.c (.int .i64 (-1)))⟩]) (.ret)) (.skip))) (.seq (.reg [⟨(some 30), none, .mov (.t 1)⟩,
  ⟨(some 31), none, .bin .add (.num) (.t 30) (.c (.int .i64 1))⟩,
  ⟨(some 1), none, .mov (.t 31)⟩]) (.seq (.reg [⟨(some 32), none, .mov (.t 0)⟩,
  ⟨(some 33), none, .mov (.t 5)⟩,
  ⟨(some 34), none, .idxs 7 (.t 32) (.t 33)⟩,
  ⟨(some 35), none, .fld 2 (.t 34)⟩,
  ⟨(some 36), none, .load 1 false (.t 35)⟩,
  ⟨(some 37), none, .mov (.t 1)⟩,
  ⟨(some 38), none, .call (.c (.fn Fn.laws_heldExportS [] [])) [.t 36, .t 37]⟩,
  ⟨(some 1), none, .mov (.t 38)⟩]) (.seq (.seq (.reg [⟨(some 39), none, .mov (.t 1)⟩,
  ⟨(some 40), none, .bin .lss (.num) (.t 39) (.c (.int .i64 0))⟩]) (.cond (.t 40) (.seq (.reg [⟨(some 4), none, .mov (.c (.int .i64 (-1)))⟩]) (.ret)) (.skip))) (.seq (.seq (.reg [⟨(some 41), none, .mov (.t 0)⟩,
  ⟨(some 42), none, .mov (.t 5)⟩,
  ⟨(some 43), none, .idxs 7 (.t 41) (.t 42)⟩,
  ⟨(some 44), none, .fld 3 (.t 43)⟩,
  ⟨(some 45), none, .load 1 false (.t 44)⟩,
  ⟨(some 46), none, .mov (.t 1)⟩,
  ⟨(some 47), none, .bin .neq (.num) (.t 45) (.t 46)⟩]) (.cond (.t 47) (.seq (.reg [⟨(some 4), none, .mov (.c (.int .i64 (-1)))⟩]) (.ret)) (.skip))) (.seq (.reg [⟨(some 48), none, .mov (.t 1)⟩,
  ⟨(some 49), none, .bin .add (.num) (.t 48) (.c (.int .i64 1))⟩,
  ⟨(some 1), none, .mov (.t 49)⟩]) (.seq (.reg [⟨(some 50), none, .mov (.t 0)⟩,
  ⟨(some 51), none, .mov (.t 5)⟩,
  ⟨(some 52), none, .idxs 7 (.t 50) (.t 51)⟩,
  ⟨(some 53), none, .fld 4 (.t 52)⟩,
  ⟨(some 54), none, .load 1 false (.t 53)⟩,
  ⟨(some 55), none, .mov (.t 1)⟩,
  ⟨(some 56), none, .call (.c (.fn Fn.laws_heldQuestionS [] [])) [.t 54, .t 55]⟩,
  ⟨(some 1), none, .mov (.t 56)⟩]) (.seq (.seq (.reg [⟨(some 57), none, .mov (.t 1)⟩,
  ⟨(some 58), none, .bin .lss (.num) (.t 57) (.c (.int .i64 0))⟩]) (.cond (.t 58) (.seq (.reg [⟨(some 4), none, .mov (.c (.int .i64 (-1)))⟩]) (.ret)) (.skip))) (.seq (.seq (.reg [⟨(some 59), none, .mov (.t 0)⟩,
  ⟨(some 60), none, .mov (.t 5)⟩,
  ⟨(some 61), none, .idxs 7 (.t 59) (.t 60)⟩,
  ⟨(some 62), none, .fld 5 (.t 61)⟩,
  ⟨(some 63), none, .load 1 false (.t 62)⟩,
  ⟨(some 64), none, .mov (.t 1)⟩,
  ⟨(some 65), none, .bin .neq (.num) (.t 63) (.t 64)⟩]) (.cond (.t 65) (.seq (.reg [⟨(some 4), none, .mov (.c (.int .i64 (-1)))⟩]) (.ret)) (.skip))) (.seq (.reg [⟨(some 66), none, .mov (.t 1)⟩,
  ⟨(some 67), none, .bin .add (.num) (.t 66) (.c (.int .i64 1))⟩,
  ⟨(some 1), none, .mov (.t 67)⟩]) (.seq (.reg [⟨(some 68), none, .mov (.t 0)⟩,
  ⟨(some 69), none, .mov (.t 5)⟩,
  ⟨(some 70), none, .idxs 7 (.t 68) (.t 69)⟩,
  ⟨(some 71), none, .fld 6 (.t 70)⟩,
  ⟨(some 72), none, .load 1 false (.t 71)⟩,
  ⟨(some 73), none, .mov (.t 1)⟩,
  ⟨(some 74), none, .call (.c (.fn Fn.laws_heldQuestionS [] [])) [.t 72, .t 73]⟩,
  ⟨(some 1), none, .mov (.t 74)⟩]) (.seq (.reg [⟨(some 75), none, .mov (.t 1)⟩,
  ⟨(some 76), none, .bin .lss (.num) (.t 75) (.c (.int .i64 0))⟩]) (.cond (.t 76) (.seq (.reg [⟨(some 4), none, .mov (.c (.int .i64 (-1)))⟩]) (.ret)) (.skip))))))))))))))))) (.reg [⟨(some 10), none, .mov (.t 5)⟩,
  ⟨(some 11), none, .bin .add (.num) (.t 10) (.c (.int .i64 1))⟩,
  ⟨(some 5), none, .mov (.t 11)⟩])))))) (.seq (.reg [⟨(some 77), none, .mov (.t 1)⟩,
  ⟨(some 4), none, .mov (.t 77)⟩]) (.ret)))
def laws_heldLinkS_r : List RS := [.t 4]
def laws_heldLinkS_s0 (t0 t1 t5 : AV) (loc : List (List AV)) (h : AH) : St := ⟨[t0, t1, .any, .any, .any, t5, .any, .any, .any, .any, .any, .any, .any, .any, .any, .any, .any, .any, .any, .any, .any, .any, .any, .any, .any, .any, .any, .any, .any, .any, .any, .any, .any, .any, .any, .any, .any, .any, .any, .any, .any, .any, .any, .any, .any, .any, .any, .any, .any, .any, .any, .any, .any, .any, .any, .any, .any, .any, .any, .any, .any, .any, .any, .any, .any, .any, .any, .any, .any, .any, .any, .any, .any, .any, .any, .any, .any, .any], loc, h⟩
theorem laws_heldLinkS_e {a0 a1 : AV} {h : AH} {K : AV → AH → Prop} (hw : TC Tryz.prog Θ Γ laws_heldLinkS_c (retQ laws_heldLinkS_r K) ⟨[a0, a1, u, u, u, u, u, u, u, u, u, u, u, u, u, u, u, u, u, u, u, u, u, u, u, u, u, u, u, u, u, u, u, u, u, u, u, u, u, u, u, u, u, u, u, u, u, u, u, u, u, u, u, u, u, u, u, u, u, u, u, u, u, u, u, u, u, u, u, u, u, u, u, u, u, u, u, u], [], h⟩) : T Tryz.prog Γ Fn.laws_heldLinkS [a0, a1] h K :=
  T_of_body tabOK Tryz.func69 (code := bodyOf Tryz.f69) (by kernel_rfl) (by kernel_rfl) (by kernel_rfl) (by kernel_rfl) hw
def laws_heldOutgoingS_d0_os : List O := [⟨(some 61), none, .mov (.t 0)⟩,
  ⟨(some 62), none, .mov (.t 5)⟩,
  ⟨(some 63), none, .idxs 13 (.t 61) (.t 62)⟩,
  ⟨(some 64), none, .fld 1 (.t 63)⟩,
  ⟨(some 65), none, .fld 4 (.t 64)⟩,
  ⟨(some 66), none, .load 1 false (.t 65)⟩,
  ⟨(some 67), none, .mov (.t 1)⟩,
  ⟨(some 68), none, .call (.c (.fn Fn.laws_markText [] [])) [.t 67]⟩,
  ⟨(some 69), none, .bin .neq (.num) (.t 66) (.t 68)⟩]
def laws_heldOutgoingS_d0_af : List (List Nat) := [[], [], [0, 1], [2], [3], [4], [], [6], [5, 7]]
theorem laws_heldOutgoingS_d0_q (gl : Gl) (Q : AE → St → Prop) (s : St) : aw Tryz.prog Θ Γ gl (.regD laws_heldOutgoingS_d0_os laws_heldOutgoingS_d0_af) Q s = awpT Tryz.prog Γ gl [⟨(some 61), none, .mov (.t 0)⟩,
  ⟨(some 62), none, .mov (.t 5)⟩,
  ⟨(some 63), none, .idxs 13 (.t 61) (.t 62)⟩,
  ⟨(some 64), none, .fld 1 (.t 63)⟩,
  ⟨(some 65), none, .fld 4 (.t 64)⟩,
  ⟨(some 66), none, .load 1 false (.t 65)⟩,
  ⟨(some 67), none, .mov (.t 1)⟩,
  ⟨(some 68), none, .call (.c (.fn Fn.laws_markText [] [])) [.t 67]⟩,
  ⟨(some 69), none, .bin .neq (.num) (.t 66) (.t 68)⟩] (Q .normal) 9 (.q 0 (.q 1 (.q 2 (.q 3 (.q 4 (.q 5 (.q 6 (.all [(7, .q 8 (.done))])))))))) s := a_dd rfl (by kernel_rfl) gl Q s
def laws_heldOutgoingS_c : C := .seq (.reg [⟨(some 4), none, .mov (.c (.int .i64 0))⟩]) (.seq (.seq (.reg [⟨(some 5), none, .mov (.c (.int .i64 0))⟩]) (.block 0 (.loop (.seq (.seq (.reg [⟨(some 6), none, .mov (.t 5)⟩,
  ⟨(some 7), none, .mov (.t 0)⟩,
  ⟨(some 8), none, .len false (.t 7)⟩,
  ⟨(some 9), none, .bin .lss (.num) (.t 6) (.t 8)⟩]) (.cond (.t 9) (.skip) (.exit 0))) (.seq (.block 1 (.seq (.seq (.reg [⟨(some 12), none, .mov (.t 0)⟩,
  ⟨(some 13), none, .mov (.t 5)⟩,
  ⟨(some 14), none, .idxs 13 (.t 12) (.t 13)⟩,
  ⟨(some 15), none, .fld 0 (.t 14)⟩,
  ⟨(some 16), none, .load 1 false (.t 15)⟩,
  ⟨(some 17), none, .mov (.t 1)⟩,
  ⟨(some 18), none, .bin .neq (.num) (.t 16) (.t 17)⟩]) (.cond (.t 18) (.seq (.reg [⟨(some 4), none, .mov (.c (.int .i64 (-1)))⟩]) (.ret)) (.skip))) (.seq (.reg [⟨(some 19), none, .mov (.t 1)⟩,
  ⟨(some 20), none, .bin .add (.num) (.t 19) (.c (.int .i64 1))⟩,
  ⟨(some 1), none, .mov (.t 20)⟩]) (.seq (.seq (.reg [⟨(some 21), none, .mov (.t 0)⟩,
  ⟨(some 22), none, .mov (.t 5)⟩,
  ⟨(some 23), none, .idxs 13 (.t 21) (.t 22)⟩,
  ⟨(some 24), none, .fld 1 (.t 23)⟩,
  ⟨(some 25), none, .fld 0 (.t 24)⟩,
  ⟨(some 26), none, .load 1 false (.t 25)⟩,
  ⟨(some 27), none, .mov (.t 1)⟩,
  ⟨(some 28), none, .bin .neq (.num) (.t 26) (.t 27)⟩]) (.cond (.t 28) (.seq (.reg [⟨(some 4), none, .mov (.c (.int .i64 (-1)))⟩]) (.ret)) (.skip))) (.seq (.reg [⟨(some 29), none, .mov (.t 1)⟩,
  ⟨(some 30), none, .bin .add (.num) (.t 29) (.c (.int .i64 1))⟩,
  ⟨(some 1), none, .mov (.t 30)⟩]) (.seq (.seq (.reg [⟨(some 31), none, .mov (.t 0)⟩,
  ⟨(some 32), none, .mov (.t 5)⟩,
  ⟨(some 33), none, .idxs 13 (.t 31) (.t 32)⟩,
  ⟨(some 34), none, .fld 1 (.t 33)⟩,
  ⟨(some 35), none, .fld 1 (.t 34)⟩,
  ⟨(some 36), none, .load 1 false (.t 35)⟩,
  ⟨(some 37), none, .mov (.t 1)⟩,
  ⟨(some 38), none, .bin .neq (.num) (.t 36) (.t 37)⟩]) (.cond (.t 38) (.seq (.reg [⟨(some 4), none, .mov (.c (.int .i64 (-1)))⟩]) (.ret)) (.skip))) (.seq (.reg [⟨(some 39), none, .mov (.t 1)⟩,
  ⟨(some 40), none, .bin .add (.num) (.t 39) (.c (.int .i64 1))⟩,
  ⟨(some 1), none, .mov (.t 40)⟩]) (.seq (.seq (.reg [⟨(some 41), none, .mov (.t 0)⟩,
  ⟨(some 42), none, .mov (.t 5)⟩,
  ⟨(some 43), none, .idxs 13 (.t 41) (.t 42)⟩,
  ⟨(some 44), none, .fld 1 (.t 43)⟩,
  ⟨(some 45), none, .fld 2 (.t 44)⟩,
  ⟨(some 46), none, .load 1 false (.t 45)⟩,
  ⟨(some 47), none, .mov (.t 1)⟩,
  ⟨(some 48), none, .bin .neq (.num) (.t 46) (.t 47)⟩]) (.cond (.t 48) (.seq (.reg [⟨(some 4), none, .mov (.c (.int .i64 (-1)))⟩]) (.ret)) (.skip))) (.seq (.reg [⟨(some 49), none, .mov (.t 1)⟩,
  ⟨(some 50), none, .bin .add (.num) (.t 49) (.c (.int .i64 1))⟩,
  ⟨(some 1), none, .mov (.t 50)⟩]) (.seq (.seq (.reg [⟨(some 51), none, .mov (.t 0)⟩,
  ⟨(some 52), none, .mov (.t 5)⟩,
  ⟨(some 53), none, .idxs 13 (.t 51) (.t 52)⟩,
  ⟨(some 54), none, .fld 1 (.t 53)⟩,
  ⟨(some 55), none, .fld 3 (.t 54)⟩,
  ⟨(some 56), none, .load 1 false (.t 55)⟩,
  ⟨(some 57), none, .mov (.t 1)⟩,
  ⟨(some 58), none, .bin .neq (.num) (.t 56) (.t 57)⟩]) (.cond (.t 58) (.seq (.reg [⟨(some 4), none, .mov (.c (.int .i64 (-1)))⟩]) (.ret)) (.skip))) (.seq (.reg [⟨(some 59), none, .mov (.t 1)⟩,
  ⟨(some 60), none, .bin .add (.num) (.t 59) (.c (.int .i64 1))⟩,
  ⟨(some 1), none, .mov (.t 60)⟩]) (.seq (.seq (.regD laws_heldOutgoingS_d0_os laws_heldOutgoingS_d0_af) (.cond (.t 69) (.seq (.reg [⟨(some 4), none, .mov (.c (.int .i64 (-1)))⟩]) (.ret)) (.skip))) (.seq (.reg [⟨(some 70), none, .mov (.t 1)⟩,
  ⟨(some 71), none, .bin .add (.num) (.t 70) (.c (.int .i64 1))⟩,
  ⟨(some 1), none, .mov (.t 71)⟩]) (.seq (.reg [⟨(some 72), none, .mov (.t 0)⟩,
  ⟨(some 73), none, .mov (.t 5)⟩,
  ⟨(some 74), none, .idxs 13 (.t 72) (.t 73)⟩,
  ⟨(some 75), none, .fld 1 (.t 74)⟩,
  ⟨(some 76), none, .fld 5 (.t 75)⟩,
  ⟨(some 77), none, .load 1 false (.t 76)⟩,
  ⟨(some 78), none, .mov (.t 1)⟩,
  ⟨(some 79), none, .call (.c (.fn Fn.laws_heldWireS [] [])) [.t 77, .t 78]⟩,
  ⟨(some 1), none, .mov (.t 79)⟩]) (.seq (.seq (.reg [⟨(some 80), none, .mov (.t 1)⟩,
  ⟨(some 81), none, .bin .lss (.num) (.t 80) (.c (.int .i64 0))⟩]) (.cond (.t 81) (.seq (.reg [⟨(some 4), none, .mov (.c (.int .i64 (-1)))⟩]) (.ret)) (.skip))) (.seq (.seq (.reg [⟨(some 82), none, .mov (.t 0)⟩,
  ⟨(some 83), none, .mov (.t 5)⟩,
  ⟨(some 84), none, .idxs 13 (.t 82) (.t 83)⟩,
  ⟨(some 85), none, .fld 1 (.t 84)⟩,
  ⟨(some 86), none, .fld 6 (.t 85)⟩,
  ⟨(some 87), none, .fld 0 (.t 86)⟩,
  ⟨(some 88), none, .load 1 false (.t 87)⟩,
  ⟨(some 89), none, .mov (.t 1)⟩,
  ⟨(some 90), none, .bin .neq (.num) (.t 88) (.t 89)⟩]) (.cond (.t 90) (.seq (.reg [⟨(some 4), none, .mov (.c (.int .i64 (-1)))⟩]) (.ret)) (.skip))) (.seq (.reg [⟨(some 91), none, .mov (.t 1)⟩,
  ⟨(some 92), none, .bin .add (.num) (.t 91) (.c (.int .i64 1))⟩,
  ⟨(some 1), none, .mov (.t 92)⟩]) (.seq (.seq (.reg [⟨(some 93), none, .mov (.t 0)⟩,
  ⟨(some 94), none, .mov (.t 5)⟩,
  ⟨(some 95), none, .idxs 13 (.t 93) (.t 94)⟩,
  ⟨(some 96), none, .fld 1 (.t 95)⟩,
  ⟨(some 97), none, .fld 6 (.t 96)⟩,
  ⟨(some 98), none, .fld 1 (.t 97)⟩,
  ⟨(some 99), none, .load 1 false (.t 98)⟩,
  ⟨(some 100), none, .mov (.t 1)⟩,
  ⟨(some 101), none, .bin .neq (.num) (.t 99) (.t 100)⟩]) (.cond (.t 101) (.seq (.reg [⟨(some 4), none, .mov (.c (.int .i64 (-1)))⟩]) (.ret)) (.skip))) (.seq (.reg [⟨(some 102), none, .mov (.t 1)⟩,
  ⟨(some 103), none, .bin .add (.num) (.t 102) (.c (.int .i64 1))⟩,
  ⟨(some 1), none, .mov (.t 103)⟩]) (.seq (.seq (.reg [⟨(some 104), none, .mov (.t 0)⟩,
  ⟨(some 105), none, .mov (.t 5)⟩,
  ⟨(some 106), none, .idxs 13 (.t 104) (.t 105)⟩,
  ⟨(some 107), none, .fld 1 (.t 106)⟩,
  ⟨(some 108), none, .fld 8 (.t 107)⟩,
  ⟨(some 109), none, .load 1 false (.t 108)⟩,
  ⟨(some 110), none, .mov (.t 1)⟩,
  ⟨(some 111), none, .bin .neq (.num) (.t 109) (.t 110)⟩]) (.cond (.t 111) (.seq (.reg [⟨(some 4), none, .mov (.c (.int .i64 (-1)))⟩]) (.ret)) (.skip))) (.seq (.reg [⟨(some 112), none, .mov (.t 1)⟩,
  ⟨(some 113), none, .bin .add (.num) (.t 112) (.c (.int .i64 1))⟩,
  ⟨(some 1), none, .mov (.t 113)⟩]) (.seq (.seq (.reg [⟨(some 114), none, .mov (.t 0)⟩,
  ⟨(some 115), none, .mov (.t 5)⟩,
  ⟨(some 116), none, .idxs 13 (.t 114) (.t 115)⟩,
  ⟨(some 117), none, .fld 1 (.t 116)⟩,
  ⟨(some 118), none, .fld 9 (.t 117)⟩,
  ⟨(some 119), none, .fld 0 (.t 118)⟩,
  ⟨(some 120), none, .load 1 false (.t 119)⟩,
  ⟨(some 121), none, .mov (.t 1)⟩,
  ⟨(some 122), none, .bin .neq (.num) (.t 120) (.t 121)⟩]) (.cond (.t 122) (.seq (.reg [⟨(some 4), none, .mov (.c (.int .i64 (-1)))⟩]) (.ret)) (.skip))) (.seq (.reg [⟨(some 123), none, .mov (.t 1)⟩,
  ⟨(some 124), none, .bin .add (.num) (.t 123) (.c (.int .i64 1))⟩,
  ⟨(some 1), none, .mov (.t 124)⟩]) (.seq (.seq (.reg [⟨(some 125), none, .mov (.t 0)⟩,
  ⟨(some 126), none, .mov (.t 5)⟩,
  ⟨(some 127), none, .idxs 13 (.t 125) (.t 126)⟩,
  ⟨(some 128), none, .fld 1 (.t 127)⟩,
  ⟨(some 129), none, .fld 9 (.t 128)⟩,
  ⟨(some 130), none, .fld 1 (.t 129)⟩,
  ⟨(some 131), none, .load 1 false (.t 130)⟩,
  ⟨(some 132), none, .mov (.t 1)⟩,
  ⟨(some 133), none, .bin .neq (.num) (.t 131) (.t 132)⟩]) (.cond (.t 133) (.seq (.reg [⟨(some 4), none, .mov (.c (.int .i64 (-1)))⟩]) (.ret)) (.skip))) (.seq (.reg [⟨(some 134), none, .mov (.t 1)⟩,
  ⟨(some 135), none, .bin .add (.num) (.t 134) (.c (.int .i64 1))⟩,
  ⟨(some 1), none, .mov (.t 135)⟩]) (.seq (.seq (.reg [⟨(some 136), none, .mov (.t 0)⟩,
  ⟨(some 137), none, .mov (.t 5)⟩,
  ⟨(some 138), none, .idxs 13 (.t 136) (.t 137)⟩,
  ⟨(some 139), none, .fld 1 (.t 138)⟩,
  ⟨(some 140), none, .fld 9 (.t 139)⟩,
  ⟨(some 141), none, .fld 2 (.t 140)⟩,
  ⟨(some 142), none, .load 1 false (.t 141)⟩,
  ⟨(some 143), none, .mov (.t 1)⟩,
  ⟨(some 144), none, .bin .neq (.num) (.t 142) (.t 143)⟩]) (.cond (.t 144) (.seq (.reg [⟨(some 4), none, .mov (.c (.int .i64 (-1)))⟩]) (.ret)) (.skip))) (.reg [⟨(some 145), none, .mov (.t 1)⟩,
  ⟨(some 146), none, .bin .add (.num) (.t 145) (.c (.int .i64 1))⟩,
  ⟨(some 1), none, .mov (.t 146)⟩]))))))))))))))))))))))))))) (.reg [⟨(some 10), none, .mov (.t 5)⟩,
  ⟨(some 11), none, .bin .add (.num) (.t 10) (.c (.int .i64 1))⟩,
  ⟨(some 5), none, .mov (.t 11)⟩])))))) (.seq (.reg [⟨(some 147), none, .mov (.t 1)⟩,
  ⟨(some 4), none, .mov (.t 147)⟩]) (.ret)))
def laws_heldOutgoingS_r : List RS := [.t 4]
def laws_heldOutgoingS_s0 (t0 t1 t5 : AV) (loc : List (List AV)) (h : AH) : St := ⟨[t0, t1, .any, .any, .any, t5, .any, .any, .any, .any, .any, .any, .any, .any, .any, .any, .any, .any, .any, .any, .any, .any, .any, .any, .any, .any, .any, .any, .any, .any, .any, .any, .any, .any, .any, .any, .any, .any, .any, .any, .any, .any, .any, .any, .any, .any, .any, .any, .any, .any, .any, .any, .any, .any, .any, .any, .any, .any, .any, .any, .any, .any, .any, .any, .any, .any, .any, .any, .any, .any, .any, .any, .any, .any, .any, .any, .any, .any, .any, .any, .any, .any, .any, .any, .any, .any, .any, .any, .any, .any, .any, .any, .any, .any, .any, .any, .any, .any, .any, .any, .any, .any, .any, .any, .any, .any, .any, .any, .any, .any, .any, .any, .any, .any, .any, .any, .any, .any, .any, .any, .any, .any, .any, .any, .any, .any, .any, .any, .any, .any, .any, .any, .any, .any, .any, .any, .any, .any, .any, .any, .any, .any, .any, .any, .any, .any, .any, .any], loc, h⟩
theorem laws_heldOutgoingS_e {a0 a1 : AV} {h : AH} {K : AV → AH → Prop} (hw : TC Tryz.prog Θ Γ laws_heldOutgoingS_c (retQ laws_heldOutgoingS_r K) ⟨[a0, a1, u, u, u, u, u, u, u, u, u, u, u, u, u, u, u, u, u, u, u, u, u, u, u, u, u, u, u, u, u, u, u, u, u, u, u, u, u, u, u, u, u, u, u, u, u, u, u, u, u, u, u, u, u, u, u, u, u, u, u, u, u, u, u, u, u, u, u, u, u, u, u, u, u, u, u, u, u, u, u, u, u, u, u, u, u, u, u, u, u, u, u, u, u, u, u, u, u, u, u, u, u, u, u, u, u, u, u, u, u, u, u, u, u, u, u, u, u, u, u, u, u, u, u, u, u, u, u, u, u, u, u, u, u, u, u, u, u, u, u, u, u, u, u, u, u, u], [], h⟩) : T Tryz.prog Γ Fn.laws_heldOutgoingS [a0, a1] h K :=
  T_of_body tabOK Tryz.func70 (code := bodyOf Tryz.f70) (by kernel_rfl) (by kernel_rfl) (by kernel_rfl) (by kernel_rfl) hw
def spec_ClaimGift_d0_os : List O := [⟨(some 39), none, .mov (.t 0)⟩,
  ⟨(some 40), none, .mov (.t 11)⟩,
  ⟨(some 41), none, .slice (.sl 4) (.t 39) none (some (.t 40)) none⟩,
  ⟨(some 42), none, .call (.c (.fn Fn.spec_l31Copy [] [])) [.t 41]⟩,
  ⟨(some 43), none, .mov (.t 0)⟩,
  ⟨(some 44), none, .mov (.t 11)⟩,
  ⟨(some 45), none, .bin .add (.num) (.t 44) (.c (.int .i64 1))⟩,
  ⟨(some 46), none, .slice (.sl 4) (.t 43) (some (.t 45)) none none⟩,
  ⟨(some 47), none, .app 4 32 [.int .i64 0, .int .i64 0, .int .i64 0, .int .i64 0] false (.t 42) (.t 46)⟩,
  ⟨(some 48), none, .fld 3 (.t 12)⟩,
  ⟨(some 49), none, .load 1 false (.t 48)⟩,
  ⟨(some 8), none, .mov (.t 47)⟩,
  ⟨(some 9), none, .mov (.t 49)⟩,
  ⟨(some 10), none, .mov (.c (.bool true))⟩]
def spec_ClaimGift_d0_af : List (List Nat) := [[], [], [0, 1], [2], [], [], [5], [4, 6], [3, 7, 3], [], [9], [8, 8, 0, 1, 2, 3, 4, 5, 6, 7, 8], [10, 11, 0, 1, 2, 3, 4, 5, 6, 7, 8, 9, 10, 11], [12, 0, 1, 2, 3, 4, 5, 6, 7, 8, 9, 10, 11, 12]]
theorem spec_ClaimGift_d0_q (gl : Gl) (Q : AE → St → Prop) (s : St) : aw Tryz.prog Θ Γ gl (.regD spec_ClaimGift_d0_os spec_ClaimGift_d0_af) Q s = awpT Tryz.prog Γ gl [⟨(some 39), none, .mov (.t 0)⟩,
  ⟨(some 40), none, .mov (.t 11)⟩,
  ⟨(some 41), none, .slice (.sl 4) (.t 39) none (some (.t 40)) none⟩,
  ⟨(some 42), none, .call (.c (.fn Fn.spec_l31Copy [] [])) [.t 41]⟩,
  ⟨(some 43), none, .mov (.t 0)⟩,
  ⟨(some 44), none, .mov (.t 11)⟩,
  ⟨(some 45), none, .bin .add (.num) (.t 44) (.c (.int .i64 1))⟩,
  ⟨(some 46), none, .slice (.sl 4) (.t 43) (some (.t 45)) none none⟩,
  ⟨(some 47), none, .app 4 32 [.int .i64 0, .int .i64 0, .int .i64 0, .int .i64 0] false (.t 42) (.t 46)⟩,
  ⟨(some 48), none, .fld 3 (.t 12)⟩,
  ⟨(some 49), none, .load 1 false (.t 48)⟩,
  ⟨(some 8), none, .mov (.t 47)⟩,
  ⟨(some 9), none, .mov (.t 49)⟩,
  ⟨(some 10), none, .mov (.c (.bool true))⟩] (Q .normal) 14 (.q 0 (.q 1 (.q 2 (.q 4 (.q 5 (.q 6 (.q 7 (.q 9 (.q 10 (.all [(3, .st 8 [48] (.q 11 (.q 12 (.q 13 (.done)))))])))))))))) s := a_dd rfl (by kernel_rfl) gl Q s
def spec_ClaimGift_c : C := .seq (.reg [⟨(some 8), none, .mov (.c (.nils))⟩,
  ⟨(some 9), none, .mov (.c (.int .i64 0))⟩,
  ⟨(some 10), none, .mov (.c (.bool false))⟩]) (.seq (.seq (.reg [⟨(some 11), none, .mov (.c (.int .i64 0))⟩]) (.block 0 (.loop (.seq (.seq (.reg [⟨(some 13), none, .mov (.t 11)⟩,
  ⟨(some 14), none, .mov (.t 0)⟩,
  ⟨(some 15), none, .len false (.t 14)⟩,
  ⟨(some 16), none, .bin .lss (.num) (.t 13) (.t 15)⟩]) (.cond (.t 16) (.skip) (.exit 0))) (.seq (.block 1 (.seq (.reg [⟨(some 19), none, .mov (.t 0)⟩,
  ⟨(some 20), none, .mov (.t 11)⟩,
  ⟨(some 21), none, .idxs 4 (.t 19) (.t 20)⟩,
  ⟨(some 22), none, .load 4 true (.t 21)⟩,
  ⟨(some 12), none, .alloc [.int .i64 0, .int .i64 0, .int .i64 0, .int .i64 0]⟩,
  ⟨none, none, .store 4 (.t 12) (.t 22)⟩]) (.seq (.reg [⟨(some 23), none, .fld 1 (.t 12)⟩,
  ⟨(some 24), none, .load 1 false (.t 23)⟩,
  ⟨(some 25), none, .mov (.t 2)⟩,
  ⟨(some 26), none, .bin .eql (.num) (.t 24) (.t 25)⟩,
  ⟨(some 27), none, .mov (.t 26)⟩,
  ⟨(some 28), (some (4, true)), .fld 0 (.t 12)⟩,
  ⟨(some 29), (some (4, true)), .load 1 false (.t 28)⟩,
  ⟨(some 30), (some (4, true)), .mov (.t 3)⟩,
  ⟨(some 31), (some (4, true)), .bin .eql (.num) (.t 29) (.t 30)⟩,
  ⟨(some 32), none, .pick (.t 27) (.t 31) (.c (.bool false))⟩,
  ⟨(some 33), none, .mov (.t 32)⟩,
  ⟨(some 34), (some (10, true)), .fld 2 (.t 12)⟩,
  ⟨(some 35), (some (10, true)), .load 1 false (.t 34)⟩,
  ⟨(some 36), (some (10, true)), .mov (.t 1)⟩,
  ⟨(some 37), (some (10, true)), .bin .eql (.num) (.t 35) (.t 36)⟩,
  ⟨(some 38), none, .pick (.t 33) (.t 37) (.c (.bool false))⟩]) (.cond (.t 38) (.seq (.regD spec_ClaimGift_d0_os spec_ClaimGift_d0_af) (.ret)) (.skip))))) (.reg [⟨(some 17), none, .mov (.t 11)⟩,
  ⟨(some 18), none, .bin .add (.num) (.t 17) (.c (.int .i64 1))⟩,
  ⟨(some 11), none, .mov (.t 18)⟩])))))) (.seq (.reg [⟨(some 50), none, .mov (.t 0)⟩,
  ⟨(some 51), none, .call (.c (.fn Fn.spec_l31Copy [] [])) [.t 50]⟩,
  ⟨(some 8), none, .mov (.t 51)⟩,
  ⟨(some 9), none, .mov (.c (.int .i64 (-1)))⟩,
  ⟨(some 10), none, .mov (.c (.bool false))⟩]) (.ret)))
def spec_ClaimGift_r : List RS := [.t 8, .t 9, .t 10]
def spec_ClaimGift_s0 (t0 t1 t2 t3 t11 : AV) (loc : List (List AV)) (h : AH) : St := ⟨[t0, t1, t2, t3, .any, .any, .any, .any, .any, .any, .any, t11, .any, .any, .any, .any, .any, .any, .any, .any, .any, .any, .any, .any, .any, .any, .any, .any, .any, .any, .any, .any, .any, .any, .any, .any, .any, .any, .any, .any, .any, .any, .any, .any, .any, .any, .any, .any, .any, .any, .any, .any], loc, h⟩
theorem spec_ClaimGift_e {a0 a1 a2 a3 : AV} {h : AH} {K : AV → AH → Prop} (hw : TC Tryz.prog Θ Γ spec_ClaimGift_c (retQ spec_ClaimGift_r K) ⟨[a0, a1, a2, a3, u, u, u, u, u, u, u, u, u, u, u, u, u, u, u, u, u, u, u, u, u, u, u, u, u, u, u, u, u, u, u, u, u, u, u, u, u, u, u, u, u, u, u, u, u, u, u, u], [], h⟩) : T Tryz.prog Γ Fn.spec_ClaimGift [a0, a1, a2, a3] h K :=
  T_of_body tabOK Tryz.func71 (code := bodyOf Tryz.f71) (by kernel_rfl) (by kernel_rfl) (by kernel_rfl) (by kernel_rfl) hw
def spec_PutExport_d0_os : List O := [⟨(some 25), none, .fld 2 (.t 6)⟩,
  ⟨(some 26), none, .load 1 false (.t 25)⟩,
  ⟨(some 27), none, .mov (.t 7)⟩,
  ⟨(some 28), none, .fld 2 (.t 2)⟩,
  ⟨(some 29), none, .load 1 false (.t 28)⟩,
  ⟨(some 30), none, .mov (.t 7)⟩,
  ⟨(some 31), none, .idxs 3 (.t 29) (.t 30)⟩,
  ⟨(some 32), none, .fld 2 (.t 31)⟩,
  ⟨(some 33), none, .load 1 false (.t 32)⟩,
  ⟨(some 34), none, .bin .add (.num) (.t 33) (.c (.int .i64 1))⟩,
  ⟨(some 35), none, .idxs 3 (.t 26) (.t 27)⟩,
  ⟨(some 36), none, .fld 2 (.t 35)⟩,
  ⟨none, none, .store 1 (.t 36) (.t 34)⟩]
def spec_PutExport_d0_af : List (List Nat) := [[], [0], [], [], [3], [], [4, 5], [6], [7], [8], [1, 2, 0, 1, 2, 3, 4, 5, 6, 7, 8, 9], [10, 0, 1, 2, 3, 4, 5, 6, 7, 8, 9], [11, 9, 0, 1, 2, 3, 4, 5, 6, 7, 8, 9]]
theorem spec_PutExport_d0_q (gl : Gl) (Q : AE → St → Prop) (s : St) : aw Tryz.prog Θ Γ gl (.regD spec_PutExport_d0_os spec_PutExport_d0_af) Q s = awpT Tryz.prog Γ gl [⟨(some 25), none, .fld 2 (.t 6)⟩,
  ⟨(some 26), none, .load 1 false (.t 25)⟩,
  ⟨(some 27), none, .mov (.t 7)⟩,
  ⟨(some 28), none, .fld 2 (.t 2)⟩,
  ⟨(some 29), none, .load 1 false (.t 28)⟩,
  ⟨(some 30), none, .mov (.t 7)⟩,
  ⟨(some 31), none, .idxs 3 (.t 29) (.t 30)⟩,
  ⟨(some 32), none, .fld 2 (.t 31)⟩,
  ⟨(some 33), none, .load 1 false (.t 32)⟩,
  ⟨(some 34), none, .bin .add (.num) (.t 33) (.c (.int .i64 1))⟩,
  ⟨(some 35), none, .idxs 3 (.t 26) (.t 27)⟩,
  ⟨(some 36), none, .fld 2 (.t 35)⟩,
  ⟨none, none, .store 1 (.t 36) (.t 34)⟩] (Q .normal) 13 (.q 0 (.q 1 (.q 2 (.q 3 (.q 4 (.q 5 (.q 6 (.q 7 (.q 8 (.q 9 (.q 10 (.q 11 (.q 12 (.done)))))))))))))) s := a_dd rfl (by kernel_rfl) gl Q s
def spec_PutExport_d1_os : List O := [⟨(some 37), none, .load 7 true (.t 6)⟩,
  ⟨(some 38), none, .fld 2 (.t 2)⟩,
  ⟨(some 39), none, .load 1 false (.t 38)⟩,
  ⟨(some 40), none, .mov (.t 7)⟩,
  ⟨(some 41), none, .idxs 3 (.t 39) (.t 40)⟩,
  ⟨(some 42), none, .fld 0 (.t 41)⟩,
  ⟨(some 43), none, .load 1 false (.t 42)⟩,
  ⟨none, none, .store 7 (.t 4) (.t 37)⟩,
  ⟨(some 5), none, .mov (.t 43)⟩]
def spec_PutExport_d1_af : List (List Nat) := [[], [], [1], [], [2, 3], [4], [5], [0, 0], [6, 7, 0, 1, 2, 3, 4, 5, 6, 7]]
theorem spec_PutExport_d1_q (gl : Gl) (Q : AE → St → Prop) (s : St) : aw Tryz.prog Θ Γ gl (.regD spec_PutExport_d1_os spec_PutExport_d1_af) Q s = awpT Tryz.prog Γ gl [⟨(some 37), none, .load 7 true (.t 6)⟩,
  ⟨(some 38), none, .fld 2 (.t 2)⟩,
  ⟨(some 39), none, .load 1 false (.t 38)⟩,
  ⟨(some 40), none, .mov (.t 7)⟩,
  ⟨(some 41), none, .idxs 3 (.t 39) (.t 40)⟩,
  ⟨(some 42), none, .fld 0 (.t 41)⟩,
  ⟨(some 43), none, .load 1 false (.t 42)⟩,
  ⟨none, none, .store 7 (.t 4) (.t 37)⟩,
  ⟨(some 5), none, .mov (.t 43)⟩] (Q .normal) 9 (.q 0 (.q 1 (.q 2 (.q 3 (.q 4 (.q 5 (.q 6 (.st 7 [38, 42] (.q 8 (.done)))))))))) s := a_dd rfl (by kernel_rfl) gl Q s
def spec_PutExport_d2_os : List O := [⟨(some 57), none, .load 7 true (.t 6)⟩,
  ⟨(some 58), none, .fld 3 (.t 6)⟩,
  ⟨(some 59), none, .load 1 false (.t 58)⟩,
  ⟨none, none, .store 7 (.t 4) (.t 57)⟩,
  ⟨(some 5), none, .mov (.t 59)⟩]
def spec_PutExport_d2_af : List (List Nat) := [[], [], [1], [0, 0], [2, 3, 0, 1, 2, 3]]
theorem spec_PutExport_d2_q (gl : Gl) (Q : AE → St → Prop) (s : St) : aw Tryz.prog Θ Γ gl (.regD spec_PutExport_d2_os spec_PutExport_d2_af) Q s = awpT Tryz.prog Γ gl [⟨(some 57), none, .load 7 true (.t 6)⟩,
  ⟨(some 58), none, .fld 3 (.t 6)⟩,
  ⟨(some 59), none, .load 1 false (.t 58)⟩,
  ⟨none, none, .store 7 (.t 4) (.t 57)⟩,
  ⟨(some 5), none, .mov (.t 59)⟩] (Q .normal) 5 (.q 0 (.q 1 (.q 2 (.st 3 [58] (.q 4 (.done)))))) s := a_dd rfl (by kernel_rfl) gl Q s
def spec_PutExport_c : C := .seq (.reg [⟨(some 2), none, .box (.t 0)⟩,
  ⟨(some 4), none, .alloc [.int .i64 0, .bool false, .nils, .int .i64 0, .nils, .int .i64 0, .nils]⟩,
  ⟨(some 5), none, .mov (.c (.int .i64 0))⟩]) (.seq (.reg [⟨(some 8), none, .load 7 true (.t 2)⟩,
  ⟨(some 9), none, .call (.c (.fn Fn.spec_l10Copy [] [])) [.t 8]⟩,
  ⟨(some 6), none, .alloc [.int .i64 0, .bool false, .nils, .int .i64 0, .nils, .int .i64 0, .nils]⟩,
  ⟨none, none, .store 7 (.t 6) (.t 9)⟩]) (.seq (.seq (.reg [⟨(some 7), none, .mov (.c (.int .i64 0))⟩]) (.block 0 (.loop (.seq (.seq (.reg [⟨(some 10), none, .mov (.t 7)⟩,
  ⟨(some 11), none, .fld 2 (.t 2)⟩,
  ⟨(some 12), none, .load 1 false (.t 11)⟩,
  ⟨(some 13), none, .len false (.t 12)⟩,
  ⟨(some 14), none, .bin .lss (.num) (.t 10) (.t 13)⟩]) (.cond (.t 14) (.skip) (.exit 0))) (.seq (.block 1 (.seq (.reg [⟨(some 17), none, .fld 2 (.t 2)⟩,
  ⟨(some 18), none, .load 1 false (.t 17)⟩,
  ⟨(some 19), none, .mov (.t 7)⟩,
  ⟨(some 20), none, .idxs 3 (.t 18) (.t 19)⟩,
  ⟨(some 21), none, .fld 1 (.t 20)⟩,
  ⟨(some 22), none, .load 1 false (.t 21)⟩,
  ⟨(some 23), none, .mov (.t 1)⟩,
  ⟨(some 24), none, .bin .eql (.num) (.t 22) (.t 23)⟩]) (.cond (.t 24) (.seq (.regD spec_PutExport_d0_os spec_PutExport_d0_af) (.seq (.regD spec_PutExport_d1_os spec_PutExport_d1_af) (.ret))) (.skip)))) (.reg [⟨(some 15), none, .mov (.t 7)⟩,
  ⟨(some 16), none, .bin .add (.num) (.t 15) (.c (.int .i64 1))⟩,
  ⟨(some 7), none, .mov (.t 16)⟩])))))) (.seq (.reg [⟨(some 44), none, .fld 3 (.t 2)⟩,
  ⟨(some 45), none, .load 1 false (.t 44)⟩,
  ⟨(some 46), none, .bin .add (.num) (.t 45) (.c (.int .i64 1))⟩,
  ⟨(some 47), none, .fld 3 (.t 6)⟩,
  ⟨none, none, .store 1 (.t 47) (.t 46)⟩]) (.seq (.reg [⟨(some 48), none, .fld 2 (.t 6)⟩,
  ⟨(some 49), none, .load 1 false (.t 48)⟩,
  ⟨(some 50), none, .fld 3 (.t 6)⟩,
  ⟨(some 51), none, .load 1 false (.t 50)⟩,
  ⟨(some 52), none, .mov (.t 1)⟩,
  ⟨(some 53), none, .build [.int .i64 0, .int .i64 0, .int .i64 0] [(0, 1, .t 51), (1, 1, .t 52), (2, 1, .c (.int .i64 1))]⟩,
  ⟨(some 54), none, .bsl 3 1 [.int .i64 0, .int .i64 0, .int .i64 0] [(0, .t 53)]⟩,
  ⟨(some 55), none, .app 3 24 [.int .i64 0, .int .i64 0, .int .i64 0] false (.t 49) (.t 54)⟩,
  ⟨(some 56), none, .fld 2 (.t 6)⟩,
  ⟨none, none, .store 1 (.t 56) (.t 55)⟩]) (.seq (.regD spec_PutExport_d2_os spec_PutExport_d2_af) (.ret))))))
def spec_PutExport_r : List RS := [.cell 4 7 true, .t 5]
def spec_PutExport_s0 (t1 t2 t4 t6 t7 : AV) (loc : List (List AV)) (h : AH) : St := ⟨[.any, t1, t2, .any, t4, .any, t6, t7, .any, .any, .any, .any, .any, .any, .any, .any, .any, .any, .any, .any, .any, .any, .any, .any, .any, .any, .any, .any, .any, .any, .any, .any, .any, .any, .any, .any, .any, .any, .any, .any, .any, .any, .any, .any, .any, .any, .any, .any, .any, .any, .any, .any, .any, .any, .any, .any, .any, .any, .any, .any], loc, h⟩
theorem spec_PutExport_e {a0 a1 : AV} {h : AH} {K : AV → AH → Prop} (hw : TC Tryz.prog Θ Γ spec_PutExport_c (retQ spec_PutExport_r K) ⟨[a0, a1, u, u, u, u, u, u, u, u, u, u, u, u, u, u, u, u, u, u, u, u, u, u, u, u, u, u, u, u, u, u, u, u, u, u, u, u, u, u, u, u, u, u, u, u, u, u, u, u, u, u, u, u, u, u, u, u, u, u], [], h⟩) : T Tryz.prog Γ Fn.spec_PutExport [a0, a1] h K :=
  T_of_body tabOK Tryz.func72 (code := bodyOf Tryz.f72) (by kernel_rfl) (by kernel_rfl) (by kernel_rfl) (by kernel_rfl) hw
def impl_ClaimGift_c : C := .seq (.reg [⟨(some 5), none, .box (.t 1)⟩,
  ⟨(some 6), none, .box (.t 2)⟩,
  ⟨(some 7), none, .box (.t 3)⟩,
  ⟨(some 8), none, .mov (.c (.nils))⟩,
  ⟨(some 9), none, .mov (.c (.int .i64 0))⟩,
  ⟨(some 10), none, .mov (.c (.bool false))⟩]) (.seq (.reg [⟨(some 14), none, .mov (.t 0)⟩,
  ⟨(some 15), none, .call (.c (.fn Fn.slices_Clone_iimpl_Gift_impl_Gift [] [])) [.t 14]⟩,
  ⟨(some 11), none, .mov (.t 15)⟩]) (.seq (.reg [⟨(some 16), none, .mov (.t 11)⟩,
  ⟨(some 17), none, .mkf Fn.impl_ClaimGift_1 [] [.t 6, .t 7, .t 5]⟩,
  ⟨(some 18), none, .call (.c (.fn Fn.slices_IndexFunc_iimpl_Gift_impl_Gift [] [])) [.t 16, .t 17]⟩,
  ⟨(some 12), none, .mov (.t 18)⟩]) (.seq (.seq (.reg [⟨(some 19), none, .mov (.t 12)⟩,
  ⟨(some 20), none, .bin .lss (.num) (.t 19) (.c (.int .i64 0))⟩]) (.cond (.t 20) (.seq (.reg [⟨(some 21), none, .mov (.t 11)⟩,
  ⟨(some 8), none, .mov (.t 21)⟩,
  ⟨(some 9), none, .mov (.c (.int .i64 (-1)))⟩,
  ⟨(some 10), none, .mov (.c (.bool false))⟩]) (.ret)) (.skip))) (.seq (.reg [⟨(some 22), none, .mov (.t 11)⟩,
  ⟨(some 23), none, .mov (.t 12)⟩,
  ⟨(some 24), none, .idxs 4 (.t 22) (.t 23)⟩,
  ⟨(some 25), none, .fld 3 (.t 24)⟩,
  ⟨(some 26), none, .load 1 false (.t 25)⟩,
  ⟨(some 13), none, .mov (.t 26)⟩]) (.seq (.reg [⟨(some 27), none, .mov (.t 11)⟩,
  ⟨(some 28), none, .mov (.t 12)⟩,
  ⟨(some 29), none, .mov (.t 12)⟩,
  ⟨(some 30), none, .bin .add (.num) (.t 29) (.c (.int .i64 1))⟩,
  ⟨(some 31), none, .call (.c (.fn Fn.slices_Delete_iimpl_Gift_impl_Gift [] [])) [.t 27, .t 28, .t 30]⟩,
  ⟨(some 32), none, .mov (.t 13)⟩,
  ⟨(some 8), none, .mov (.t 31)⟩,
  ⟨(some 9), none, .mov (.t 32)⟩,
  ⟨(some 10), none, .mov (.c (.bool true))⟩]) (.ret))))))
def impl_ClaimGift_r : List RS := [.t 8, .t 9, .t 10]
theorem impl_ClaimGift_e {a0 a1 a2 a3 : AV} {h : AH} {K : AV → AH → Prop} (hw : TC Tryz.prog Θ Γ impl_ClaimGift_c (retQ impl_ClaimGift_r K) ⟨[a0, a1, a2, a3, u, u, u, u, u, u, u, u, u, u, u, u, u, u, u, u, u, u, u, u, u, u, u, u, u, u, u, u, u], [], h⟩) : T Tryz.prog Γ Fn.impl_ClaimGift [a0, a1, a2, a3] h K :=
  T_of_body tabOK Tryz.func73 (code := bodyOf Tryz.f73) (by kernel_rfl) (by kernel_rfl) (by kernel_rfl) (by kernel_rfl) hw
def impl_Link_put_d0_os : List O := [⟨(some 37), none, .mov (.t 0)⟩,
  ⟨(some 38), none, .mov (.t 0)⟩,
  ⟨(some 39), none, .nilchk (.t 38)⟩,
  ⟨(some 40), none, .fld 2 (.t 39)⟩,
  ⟨(some 41), none, .load 1 false (.t 40)⟩,
  ⟨(some 42), none, .mov (.t 0)⟩,
  ⟨(some 43), none, .nilchk (.t 42)⟩,
  ⟨(some 44), none, .fld 3 (.t 43)⟩,
  ⟨(some 45), none, .load 1 false (.t 44)⟩,
  ⟨(some 46), none, .mov (.t 1)⟩,
  ⟨(some 47), none, .build [.int .i64 0, .int .i64 0, .int .i64 0] [(0, 1, .t 45), (1, 1, .t 46), (2, 1, .c (.int .i64 1))]⟩,
  ⟨(some 48), none, .bsl 3 1 [.int .i64 0, .int .i64 0, .int .i64 0] [(0, .t 47)]⟩,
  ⟨(some 49), none, .app 3 24 [.int .i64 0, .int .i64 0, .int .i64 0] false (.t 41) (.t 48)⟩,
  ⟨(some 50), none, .nilchk (.t 37)⟩,
  ⟨(some 51), none, .fld 2 (.t 50)⟩,
  ⟨none, none, .store 1 (.t 51) (.t 49)⟩]
def impl_Link_put_d0_af : List (List Nat) := [[], [], [1], [2], [3], [], [5], [6], [7], [], [8, 9], [10], [4, 11], [0, 0, 1, 2, 3, 4, 5, 6, 7, 8, 9, 10, 11, 12], [13, 0, 1, 2, 3, 4, 5, 6, 7, 8, 9, 10, 11, 12], [14, 12, 12, 0, 1, 2, 3, 4, 5, 6, 7, 8, 9, 10, 11, 12]]
theorem impl_Link_put_d0_q (gl : Gl) (Q : AE → St → Prop) (s : St) : aw Tryz.prog Θ Γ gl (.regD impl_Link_put_d0_os impl_Link_put_d0_af) Q s = awpT Tryz.prog Γ gl [⟨(some 37), none, .mov (.t 0)⟩,
  ⟨(some 38), none, .mov (.t 0)⟩,
  ⟨(some 39), none, .nilchk (.t 38)⟩,
  ⟨(some 40), none, .fld 2 (.t 39)⟩,
  ⟨(some 41), none, .load 1 false (.t 40)⟩,
  ⟨(some 42), none, .mov (.t 0)⟩,
  ⟨(some 43), none, .nilchk (.t 42)⟩,
  ⟨(some 44), none, .fld 3 (.t 43)⟩,
  ⟨(some 45), none, .load 1 false (.t 44)⟩,
  ⟨(some 46), none, .mov (.t 1)⟩,
  ⟨(some 47), none, .build [.int .i64 0, .int .i64 0, .int .i64 0] [(0, 1, .t 45), (1, 1, .t 46), (2, 1, .c (.int .i64 1))]⟩,
  ⟨(some 48), none, .bsl 3 1 [.int .i64 0, .int .i64 0, .int .i64 0] [(0, .t 47)]⟩,
  ⟨(some 49), none, .app 3 24 [.int .i64 0, .int .i64 0, .int .i64 0] false (.t 41) (.t 48)⟩,
  ⟨(some 50), none, .nilchk (.t 37)⟩,
  ⟨(some 51), none, .fld 2 (.t 50)⟩,
  ⟨none, none, .store 1 (.t 51) (.t 49)⟩] (Q .normal) 16 (.q 0 (.q 1 (.q 2 (.q 3 (.q 4 (.q 5 (.q 6 (.q 7 (.q 8 (.q 9 (.q 10 (.all [(11, .q 12 (.q 13 (.q 14 (.q 15 (.done)))))])))))))))))) s := a_dd rfl (by kernel_rfl) gl Q s
def impl_Link_put_c : C := .seq (.reg [⟨(some 4), none, .mov (.c (.int .i64 0))⟩]) (.seq (.seq (.reg [⟨(some 6), none, .mov (.t 0)⟩,
  ⟨(some 7), none, .mov (.t 1)⟩,
  ⟨(some 8), none, .call (.c (.fn Fn.impl_Link_of [] [])) [.t 6, .t 7]⟩,
  ⟨(some 5), none, .mov (.t 8)⟩]) (.seq (.reg [⟨(some 9), none, .mov (.t 5)⟩,
  ⟨(some 10), none, .bin .geq (.num) (.t 9) (.c (.int .i64 0))⟩]) (.cond (.t 10) (.seq (.reg [⟨(some 11), none, .mov (.t 0)⟩,
  ⟨(some 12), none, .nilchk (.t 11)⟩,
  ⟨(some 13), none, .fld 2 (.t 12)⟩,
  ⟨(some 14), none, .load 1 false (.t 13)⟩,
  ⟨(some 15), none, .mov (.t 5)⟩,
  ⟨(some 16), none, .idxs 3 (.t 14) (.t 15)⟩,
  ⟨(some 17), none, .fld 2 (.t 16)⟩,
  ⟨(some 18), none, .load 1 false (.t 17)⟩,
  ⟨(some 19), none, .bin .add (.num) (.t 18) (.c (.int .i64 1))⟩,
  ⟨(some 20), none, .idxs 3 (.t 14) (.t 15)⟩,
  ⟨(some 21), none, .fld 2 (.t 20)⟩,
  ⟨none, none, .store 1 (.t 21) (.t 19)⟩]) (.seq (.reg [⟨(some 22), none, .mov (.t 0)⟩,
  ⟨(some 23), none, .nilchk (.t 22)⟩,
  ⟨(some 24), none, .fld 2 (.t 23)⟩,
  ⟨(some 25), none, .load 1 false (.t 24)⟩,
  ⟨(some 26), none, .mov (.t 5)⟩,
  ⟨(some 27), none, .idxs 3 (.t 25) (.t 26)⟩,
  ⟨(some 28), none, .fld 0 (.t 27)⟩,
  ⟨(some 29), none, .load 1 false (.t 28)⟩,
  ⟨(some 4), none, .mov (.t 29)⟩]) (.ret))) (.skip)))) (.seq (.reg [⟨(some 30), none, .mov (.t 0)⟩,
  ⟨(some 31), none, .nilchk (.t 30)⟩,
  ⟨(some 32), none, .fld 3 (.t 31)⟩,
  ⟨(some 33), none, .load 1 false (.t 32)⟩,
  ⟨(some 34), none, .bin .add (.num) (.t 33) (.c (.int .i64 1))⟩,
  ⟨(some 35), none, .nilchk (.t 30)⟩,
  ⟨(some 36), none, .fld 3 (.t 35)⟩,
  ⟨none, none, .store 1 (.t 36) (.t 34)⟩]) (.seq (.regD impl_Link_put_d0_os impl_Link_put_d0_af) (.seq (.reg [⟨(some 52), none, .mov (.t 0)⟩,
  ⟨(some 53), none, .nilchk (.t 52)⟩,
  ⟨(some 54), none, .fld 3 (.t 53)⟩,
  ⟨(some 55), none, .load 1 false (.t 54)⟩,
  ⟨(some 4), none, .mov (.t 55)⟩]) (.ret)))))
def impl_Link_put_r : List RS := [.t 4]
theorem impl_Link_put_e {a0 a1 : AV} {h : AH} {K : AV → AH → Prop} (hw : TC Tryz.prog Θ Γ impl_Link_put_c (retQ impl_Link_put_r K) ⟨[a0, a1, u, u, u, u, u, u, u, u, u, u, u, u, u, u, u, u, u, u, u, u, u, u, u, u, u, u, u, u, u, u, u, u, u, u, u, u, u, u, u, u, u, u, u, u, u, u, u, u, u, u, u, u, u, u], [], h⟩) : T Tryz.prog Γ Fn.impl_Link_put [a0, a1] h K :=
  T_of_body tabOK Tryz.func74 (code := bodyOf Tryz.f74) (by kernel_rfl) (by kernel_rfl) (by kernel_rfl) (by kernel_rfl) hw
def laws_szWireS_c : C := .seq (.reg [⟨(some 4), none, .mov (.c (.int .i64 0))⟩]) (.seq (.reg [⟨(some 5), none, .mov (.t 1)⟩,
  ⟨(some 6), none, .mov (.t 0)⟩,
  ⟨(some 7), none, .len false (.t 6)⟩,
  ⟨(some 8), none, .bin .sub (.num) (.t 5) (.t 7)⟩,
  ⟨(some 1), none, .mov (.t 8)⟩]) (.seq (.seq (.reg [⟨(some 9), none, .mov (.t 1)⟩,
  ⟨(some 10), none, .bin .lss (.num) (.t 9) (.c (.int .i64 0))⟩]) (.cond (.t 10) (.seq (.reg [⟨(some 4), none, .mov (.c (.int .i64 (-1)))⟩]) (.ret)) (.skip))) (.seq (.reg [⟨(some 11), none, .mov (.t 1)⟩,
  ⟨(some 4), none, .mov (.t 11)⟩]) (.ret))))
def laws_szWireS_r : List RS := [.t 4]
theorem laws_szWireS_e {a0 a1 : AV} {h : AH} {K : AV → AH → Prop} (hw : TC Tryz.prog Θ Γ laws_szWireS_c (retQ laws_szWireS_r K) ⟨[a0, a1, u, u, u, u, u, u, u, u, u, u], [], h⟩) : T Tryz.prog Γ Fn.laws_szWireS [a0, a1] h K :=
  T_of_body tabOK Tryz.func79 (code := bodyOf Tryz.f79) (by kernel_rfl) (by kernel_rfl) (by kernel_rfl) (by kernel_rfl) hw
def laws_toWireS_c : C := .seq (.reg [⟨(some 2), none, .mov (.c (.nils))⟩]) (.seq (.reg [⟨(some 5), none, .mov (.t 0)⟩,
  ⟨(some 6), none, .len false (.t 5)⟩,
  ⟨(some 7), none, .mks 2 16 [.int .i64 0, .int .i64 0] (.t 6) (.t 6)⟩,
  ⟨(some 3), none, .mov (.t 7)⟩]) (.seq (.seq (.reg [⟨(some 4), none, .mov (.c (.int .i64 0))⟩]) (.block 0 (.loop (.seq (.seq (.reg [⟨(some 8), none, .mov (.t 4)⟩,
  ⟨(some 9), none, .mov (.t 0)⟩,
  ⟨(some 10), none, .len false (.t 9)⟩,
  ⟨(some 11), none, .bin .lss (.num) (.t 8) (.t 10)⟩]) (.cond (.t 11) (.skip) (.exit 0))) (.seq (.block 1 (.reg [⟨(some 14), none, .mov (.t 3)⟩,
  ⟨(some 15), none, .mov (.t 4)⟩,
  ⟨(some 16), none, .mov (.t 0)⟩,
  ⟨(some 17), none, .mov (.t 4)⟩,
  ⟨(some 18), none, .idxs 2 (.t 16) (.t 17)⟩,
  ⟨(some 19), none, .load 2 true (.t 18)⟩,
  ⟨(some 20), none, .call (.c (.fn Fn.laws_toWire [] [])) [.t 19]⟩,
  ⟨(some 21), none, .idxs 2 (.t 14) (.t 15)⟩,
  ⟨none, none, .store 2 (.t 21) (.t 20)⟩])) (.reg [⟨(some 12), none, .mov (.t 4)⟩,
  ⟨(some 13), none, .bin .add (.num) (.t 12) (.c (.int .i64 1))⟩,
  ⟨(some 4), none, .mov (.t 13)⟩])))))) (.seq (.reg [⟨(some 22), none, .mov (.t 3)⟩,
  ⟨(some 2), none, .mov (.t 22)⟩]) (.ret))))
def laws_toWireS_r : List RS := [.t 2]
def laws_toWireS_s0 (t0 t3 t4 : AV) (loc : List (List AV)) (h : AH) : St := ⟨[t0, .any, .any, t3, t4, .any, .any, .any, .any, .any, .any, .any, .any, .any, .any, .any, .any, .any, .any, .any, .any, .any, .any], loc, h⟩
theorem laws_toWireS_e {a0 : AV} {h : AH} {K : AV → AH → Prop} (hw : TC Tryz.prog Θ Γ laws_toWireS_c (retQ laws_toWireS_r K) ⟨[a0, u, u, u, u, u, u, u, u, u, u, u, u, u, u, u, u, u, u, u, u, u, u], [], h⟩) : T Tryz.prog Γ Fn.laws_toWireS [a0] h K :=
  T_of_body tabOK Tryz.func86 (code := bodyOf Tryz.f86) (by kernel_rfl) (by kernel_rfl) (by kernel_rfl) (by kernel_rfl) hw
def laws_toWire_c : C := .seq (.reg [⟨(some 1), none, .box (.t 0)⟩,
  ⟨(some 2), none, .alloc [.int .i64 0, .int .i64 0]⟩]) (.seq (.reg [⟨(some 3), none, .alloc [.int .i64 0, .int .i64 0]⟩]) (.seq (.reg [⟨(some 4), none, .fld 0 (.t 1)⟩,
  ⟨(some 5), none, .load 1 false (.t 4)⟩,
  ⟨(some 6), none, .fld 0 (.t 3)⟩,
  ⟨none, none, .store 1 (.t 6) (.t 5)⟩]) (.seq (.reg [⟨(some 7), none, .fld 1 (.t 1)⟩,
  ⟨(some 8), none, .load 1 false (.t 7)⟩,
  ⟨(some 9), none, .fld 1 (.t 3)⟩,
  ⟨none, none, .store 1 (.t 9) (.t 8)⟩]) (.seq (.reg [⟨(some 10), none, .load 2 true (.t 3)⟩,
  ⟨none, none, .store 2 (.t 2) (.t 10)⟩]) (.ret)))))
def laws_toWire_r : List RS := [.cell 2 2 true]
theorem laws_toWire_e {a0 : AV} {h : AH} {K : AV → AH → Prop} (hw : TC Tryz.prog Θ Γ laws_toWire_c (retQ laws_toWire_r K) ⟨[a0, u, u, u, u, u, u, u, u, u, u], [], h⟩) : T Tryz.prog Γ Fn.laws_toWire [a0] h K :=
  T_of_body tabOK Tryz.func87 (code := bodyOf Tryz.f87) (by kernel_rfl) (by kernel_rfl) (by kernel_rfl) (by kernel_rfl) hw
def laws_toTag_c : C := .seq (.reg [⟨(some 1), none, .box (.t 0)⟩,
  ⟨(some 2), none, .alloc [.int .i64 0, .int .i64 0, .int .i64 0]⟩]) (.seq (.reg [⟨(some 3), none, .alloc [.int .i64 0, .int .i64 0, .int .i64 0]⟩]) (.seq (.reg [⟨(some 4), none, .fld 0 (.t 1)⟩,
  ⟨(some 5), none, .load 1 false (.t 4)⟩,
  ⟨(some 6), none, .fld 0 (.t 3)⟩,
  ⟨none, none, .store 1 (.t 6) (.t 5)⟩]) (.seq (.reg [⟨(some 7), none, .fld 1 (.t 1)⟩,
  ⟨(some 8), none, .load 1 false (.t 7)⟩,
  ⟨(some 9), none, .fld 1 (.t 3)⟩,
  ⟨none, none, .store 1 (.t 9) (.t 8)⟩]) (.seq (.reg [⟨(some 10), none, .fld 2 (.t 1)⟩,
  ⟨(some 11), none, .load 1 false (.t 10)⟩,
  ⟨(some 12), none, .fld 2 (.t 3)⟩,
  ⟨none, none, .store 1 (.t 12) (.t 11)⟩]) (.seq (.reg [⟨(some 13), none, .load 3 true (.t 3)⟩,
  ⟨none, none, .store 3 (.t 2) (.t 13)⟩]) (.ret))))))
def laws_toTag_r : List RS := [.cell 2 3 true]
theorem laws_toTag_e {a0 : AV} {h : AH} {K : AV → AH → Prop} (hw : TC Tryz.prog Θ Γ laws_toTag_c (retQ laws_toTag_r K) ⟨[a0, u, u, u, u, u, u, u, u, u, u, u, u, u], [], h⟩) : T Tryz.prog Γ Fn.laws_toTag [a0] h K :=
  T_of_body tabOK Tryz.func88 (code := bodyOf Tryz.f88) (by kernel_rfl) (by kernel_rfl) (by kernel_rfl) (by kernel_rfl) hw
def impl_Message_copied_c : C := .seq (.reg [⟨(some 1), none, .box (.t 0)⟩,
  ⟨(some 2), none, .alloc [.int .i64 0, .int .i64 0, .int .i64 0, .int .i64 0, .str ⟨#[]⟩, .nils, .int .i64 0, .int .i64 0, .int .i64 0, .int .i64 0, .int .i64 0, .int .i64 0]⟩]) (.seq (.reg [⟨(some 3), none, .fld 5 (.t 1)⟩,
  ⟨(some 4), none, .load 1 false (.t 3)⟩,
  ⟨(some 5), none, .call (.c (.fn Fn.slices_Clone_iimpl_Wire_impl_Wire [] [])) [.t 4]⟩,
  ⟨(some 6), none, .fld 5 (.t 1)⟩,
  ⟨none, none, .store 1 (.t 6) (.t 5)⟩]) (.seq (.reg [⟨(some 7), none, .load 12 true (.t 1)⟩,
  ⟨none, none, .store 12 (.t 2) (.t 7)⟩]) (.ret)))
def impl_Message_copied_r : List RS := [.cell 2 12 true]
theorem impl_Message_copied_e {a0 : AV} {h : AH} {K : AV → AH → Prop} (hw : TC Tryz.prog Θ Γ impl_Message_copied_c (retQ impl_Message_copied_r K) ⟨[a0, u, u, u, u, u, u, u], [], h⟩) : T Tryz.prog Γ Fn.impl_Message_copied [a0] h K :=
  T_of_body tabOK Tryz.func91 (code := bodyOf Tryz.f91) (by kernel_rfl) (by kernel_rfl) (by kernel_rfl) (by kernel_rfl) hw
def laws_eqWireS_d0_os : List O := [⟨(some 17), none, .mov (.t 0)⟩,
  ⟨(some 18), none, .mov (.t 5)⟩,
  ⟨(some 19), none, .idxs 2 (.t 17) (.t 18)⟩,
  ⟨(some 20), none, .load 2 true (.t 19)⟩,
  ⟨(some 21), none, .mov (.t 1)⟩,
  ⟨(some 22), none, .mov (.t 5)⟩,
  ⟨(some 23), none, .idxs 2 (.t 21) (.t 22)⟩,
  ⟨(some 24), none, .load 2 true (.t 23)⟩,
  ⟨(some 25), none, .call (.c (.fn Fn.laws_eqWire [] [])) [.t 20, .t 24]⟩,
  ⟨(some 26), none, .un .not (.t 25)⟩]
def laws_eqWireS_d0_af : List (List Nat) := [[], [], [0, 1], [2], [], [], [4, 5], [6], [3, 7], [8]]
theorem laws_eqWireS_d0_q (gl : Gl) (Q : AE → St → Prop) (s : St) : aw Tryz.prog Θ Γ gl (.regD laws_eqWireS_d0_os laws_eqWireS_d0_af) Q s = awpT Tryz.prog Γ gl [⟨(some 17), none, .mov (.t 0)⟩,
  ⟨(some 18), none, .mov (.t 5)⟩,
  ⟨(some 19), none, .idxs 2 (.t 17) (.t 18)⟩,
  ⟨(some 20), none, .load 2 true (.t 19)⟩,
  ⟨(some 21), none, .mov (.t 1)⟩,
  ⟨(some 22), none, .mov (.t 5)⟩,
  ⟨(some 23), none, .idxs 2 (.t 21) (.t 22)⟩,
  ⟨(some 24), none, .load 2 true (.t 23)⟩,
  ⟨(some 25), none, .call (.c (.fn Fn.laws_eqWire [] [])) [.t 20, .t 24]⟩,
  ⟨(some 26), none, .un .not (.t 25)⟩] (Q .normal) 10 (.q 0 (.q 1 (.q 2 (.q 3 (.q 4 (.q 5 (.q 6 (.q 7 (.q 8 (.q 9 (.done))))))))))) s := a_dd rfl (by kernel_rfl) gl Q s
def laws_eqWireS_c : C := .seq (.reg [⟨(some 4), none, .mov (.c (.bool false))⟩]) (.seq (.seq (.reg [⟨(some 6), none, .mov (.t 0)⟩,
  ⟨(some 7), none, .len false (.t 6)⟩,
  ⟨(some 8), none, .mov (.t 1)⟩,
  ⟨(some 9), none, .len false (.t 8)⟩,
  ⟨(some 10), none, .bin .neq (.num) (.t 7) (.t 9)⟩]) (.cond (.t 10) (.seq (.reg [⟨(some 4), none, .mov (.c (.bool false))⟩]) (.ret)) (.skip))) (.seq (.seq (.reg [⟨(some 5), none, .mov (.c (.int .i64 0))⟩]) (.block 0 (.loop (.seq (.seq (.reg [⟨(some 11), none, .mov (.t 5)⟩,
  ⟨(some 12), none, .mov (.t 0)⟩,
  ⟨(some 13), none, .len false (.t 12)⟩,
  ⟨(some 14), none, .bin .lss (.num) (.t 11) (.t 13)⟩]) (.cond (.t 14) (.skip) (.exit 0))) (.seq (.block 1 (.seq (.regD laws_eqWireS_d0_os laws_eqWireS_d0_af) (.cond (.t 26) (.seq (.reg [⟨(some 4), none, .mov (.c (.bool false))⟩]) (.ret)) (.skip)))) (.reg [⟨(some 15), none, .mov (.t 5)⟩,
  ⟨(some 16), none, .bin .add (.num) (.t 15) (.c (.int .i64 1))⟩,
  ⟨(some 5), none, .mov (.t 16)⟩])))))) (.seq (.reg [⟨(some 4), none, .mov (.c (.bool true))⟩]) (.ret))))
def laws_eqWireS_r : List RS := [.t 4]
def laws_eqWireS_s0 (t0 t1 t5 : AV) (loc : List (List AV)) (h : AH) : St := ⟨[t0, t1, .any, .any, .any, t5, .any, .any, .any, .any, .any, .any, .any, .any, .any, .any, .any, .any, .any, .any, .any, .any, .any, .any, .any, .any, .any], loc, h⟩
theorem laws_eqWireS_e {a0 a1 : AV} {h : AH} {K : AV → AH → Prop} (hw : TC Tryz.prog Θ Γ laws_eqWireS_c (retQ laws_eqWireS_r K) ⟨[a0, a1, u, u, u, u, u, u, u, u, u, u, u, u, u, u, u, u, u, u, u, u, u, u, u, u, u], [], h⟩) : T Tryz.prog Γ Fn.laws_eqWireS [a0, a1] h K :=
  T_of_body tabOK Tryz.func96 (code := bodyOf Tryz.f96) (by kernel_rfl) (by kernel_rfl) (by kernel_rfl) (by kernel_rfl) hw
end Go.Proofs.YtleddolmolkpfaaGreat
