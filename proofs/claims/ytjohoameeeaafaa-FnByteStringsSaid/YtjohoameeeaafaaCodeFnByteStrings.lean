import Derived.Test.YtjohoameeeaafaaProg
import Derived.Test.YtjohoameeeaafaaAmLib
set_option linter.unusedVariables false
set_option linter.unusedSimpArgs false
namespace Go.Proofs.Ytjohoameeeaafaa
open Go.AM
namespace Fn
abbrev main_main : FuncId := 0
abbrev gosem_cut : FuncId := 1
abbrev gosem_cut_init : FuncId := 2
abbrev laws_FnExactAllWithin : FuncId := 3
abbrev laws_FnExactAreGifts : FuncId := 4
abbrev laws_FnExactUnseal : FuncId := 5
abbrev laws_FnExactGuessCall : FuncId := 6
abbrev laws_FnExactBoxesOf : FuncId := 7
abbrev laws_FnExactDropGifts : FuncId := 8
abbrev laws_FnKeyedHash : FuncId := 9
abbrev laws_FnByteStrings : FuncId := 10
abbrev laws_FnExactPutGift : FuncId := 11
abbrev laws_FnExactSealIn : FuncId := 12
abbrev laws_FnExactFindExport : FuncId := 13
abbrev laws_FnSeals : FuncId := 14
abbrev spec_AllWithin : FuncId := 15
abbrev laws_toIntS : FuncId := 16
abbrev impl_AllWithin : FuncId := 17
abbrev laws_eqIntS : FuncId := 18
abbrev laws_szGiftS : FuncId := 19
abbrev spec_AreGifts : FuncId := 20
abbrev laws_toGiftS : FuncId := 21
abbrev impl_AreGifts : FuncId := 22
abbrev laws_eqGiftS : FuncId := 23
abbrev laws_szBoxS : FuncId := 24
abbrev spec_Unseal : FuncId := 25
abbrev laws_toBoxS : FuncId := 26
abbrev impl_Unseal : FuncId := 27
abbrev laws_eqValue : FuncId := 28
abbrev laws_eqBoxS : FuncId := 29
abbrev spec_GuessCall : FuncId := 30
abbrev impl_GuessCall : FuncId := 31
abbrev laws_eqMessage : FuncId := 32
abbrev laws_markMessage : FuncId := 33
abbrev laws_heldMessage : FuncId := 34
abbrev spec_BoxesOf : FuncId := 35
abbrev impl_BoxesOf : FuncId := 36
abbrev laws_markBoxS : FuncId := 37
abbrev laws_markIntS : FuncId := 38
abbrev laws_heldIntS : FuncId := 39
abbrev spec_DropGifts : FuncId := 40
abbrev impl_DropGifts : FuncId := 41
abbrev laws_markGiftS : FuncId := 42
abbrev laws_heldGiftS : FuncId := 43
abbrev laws_big : FuncId := 44
abbrev spec_DrawKeyedHash : FuncId := 45
abbrev impl_KeyedHash : FuncId := 46
abbrev impl_Hash : FuncId := 47
abbrev laws_at : FuncId := 48
abbrev spec_Mod : FuncId := 49
abbrev spec_DrawDeriveFromString : FuncId := 50
abbrev impl_IsValidKey : FuncId := 51
abbrev impl_DeriveFromString : FuncId := 52
abbrev spec_DrawAppendBytes : FuncId := 53
abbrev impl_AppendBytes : FuncId := 54
abbrev impl_ReadBytes : FuncId := 55
abbrev laws_sameBytes : FuncId := 56
abbrev impl_EncodeInts : FuncId := 57
abbrev impl_DecodeInts : FuncId := 58
abbrev laws_sameInts : FuncId := 59
abbrev spec_PutGift : FuncId := 60
abbrev laws_toGift : FuncId := 61
abbrev impl_PutGift : FuncId := 62
abbrev spec_SealIn : FuncId := 63
abbrev laws_toValue : FuncId := 64
abbrev impl_SealIn : FuncId := 65
abbrev laws_heldBoxS : FuncId := 66
abbrev laws_szLink : FuncId := 67
abbrev spec_FindExport : FuncId := 68
abbrev laws_toLink : FuncId := 69
abbrev impl_FindExport : FuncId := 70
abbrev laws_eqLink : FuncId := 71
abbrev spec_DrawSealIn : FuncId := 72
abbrev spec_DrawRebrand : FuncId := 73
abbrev impl_Rebrand : FuncId := 74
abbrev spec_Rebrand : FuncId := 75
abbrev impl_AreBoxes : FuncId := 76
abbrev spec_AreBoxes : FuncId := 77
abbrev slices_ContainsFunc_iint_int : FuncId := 78
abbrev impl_AllWithin_1 : FuncId := 79
abbrev slices_Contains_iint_int : FuncId := 80
abbrev spec_l1In : FuncId := 81
abbrev impl_areGifts : FuncId := 82
abbrev laws_eqGift : FuncId := 83
abbrev spec_l32Find : FuncId := 84
abbrev spec_BrokenValue : FuncId := 85
abbrev laws_toBox : FuncId := 86
abbrev impl_boxAt : FuncId := 87
abbrev impl_BrokenValue : FuncId := 88
abbrev laws_eqBox : FuncId := 89
abbrev laws_eqWireS : FuncId := 90
abbrev laws_eqWire : FuncId := 91
abbrev laws_eqTag : FuncId := 92
abbrev laws_markWireS : FuncId := 93
abbrev laws_heldWireS : FuncId := 94
abbrev slices_DeleteFunc_iimpl_Gift_impl_Gift : FuncId := 95
abbrev slices_Clone_iimpl_Gift_impl_Gift : FuncId := 96
abbrev impl_DropGifts_1 : FuncId := 97
abbrev spec_l1New : FuncId := 98
abbrev spec_l3Word : FuncId := 99
abbrev spec_l3Words : FuncId := 100
abbrev slices_Concat_iint_int : FuncId := 101
abbrev impl_Mod : FuncId := 102
abbrev spec_l1Str : FuncId := 103
abbrev impl_in : FuncId := 104
abbrev impl_BytesToInts : FuncId := 105
abbrev spec_l1Bytes : FuncId := 106
abbrev spec_l1Below : FuncId := 107
abbrev impl_AppendUvarint : FuncId := 108
abbrev impl_ReadUvarint : FuncId := 109
abbrev slices_Clone_ibyte_byte : FuncId := 110
abbrev spec_l31Copy : FuncId := 111
abbrev spec_l32Copy : FuncId := 112
abbrev slices_Clone_iimpl_Box_impl_Box : FuncId := 113
abbrev impl_areBoxes : FuncId := 114
abbrev laws_szExportS : FuncId := 115
abbrev laws_szQuestionS : FuncId := 116
abbrev laws_toExportS : FuncId := 117
abbrev laws_toQuestionS : FuncId := 118
abbrev impl_Link_at : FuncId := 119
abbrev laws_eqExportS : FuncId := 120
abbrev laws_eqQuestionS : FuncId := 121
abbrev spec_l32Any : FuncId := 122
abbrev spec_l4Any : FuncId := 123
abbrev slices_IndexFunc_iint_int : FuncId := 124
abbrev slices_Index_iint_int : FuncId := 125
abbrev impl_named : FuncId := 126
abbrev slices_ContainsFunc_iimpl_Gift_impl_Gift : FuncId := 127
abbrev impl_areGifts_1 : FuncId := 128
abbrev slices_IndexFunc_iimpl_Box_impl_Box : FuncId := 129
abbrev impl_boxAt_1 : FuncId := 130
abbrev slices_IndexFunc_iimpl_Gift_impl_Gift : FuncId := 131
abbrev spec_l1Once : FuncId := 132
abbrev spec_l1Int : FuncId := 133
abbrev slices_Grow_iint_int : FuncId := 134
abbrev spec_l1Byte : FuncId := 135
abbrev laws_toExport : FuncId := 136
abbrev laws_toQuestion : FuncId := 137
abbrev slices_IndexFunc_iimpl_Export_impl_Export : FuncId := 138
abbrev impl_Link_at_1 : FuncId := 139
abbrev laws_eqExport : FuncId := 140
abbrev laws_eqQuestion : FuncId := 141
abbrev spec_l32List : FuncId := 142
abbrev spec_IntValue : FuncId := 143
abbrev spec_RefValue : FuncId := 144
abbrev runtime_boundsError_Error : FuncId := 145
abbrev runtime_boundsError_RuntimeError : FuncId := 146
abbrev runtime_errorString_Error : FuncId := 147
abbrev runtime_errorString_RuntimeError : FuncId := 148
abbrev runtime_plainError_Error : FuncId := 149
abbrev runtime_plainError_RuntimeError : FuncId := 150
abbrev runtime_errorAddressString_Error : FuncId := 151
abbrev runtime_errorAddressString_RuntimeError : FuncId := 152
abbrev runtime_TypeAssertionError_Error : FuncId := 153
abbrev runtime_TypeAssertionError_RuntimeError : FuncId := 154
abbrev runtime_PanicNilError_Error : FuncId := 155
abbrev runtime_PanicNilError_RuntimeError : FuncId := 156
abbrev internal_abi_Type_Align : FuncId := 157
abbrev internal_runtime_maps_unhashableTypeError_Error : FuncId := 158
abbrev internal_runtime_maps_unhashableTypeError_RuntimeError : FuncId := 159
abbrev impl_Message_copied : FuncId := 160
abbrev impl_Link_copied : FuncId := 161
abbrev impl_Link_ask : FuncId := 162
abbrev internal_abi_Kind_String : FuncId := 163
end Fn
namespace Gn
end Gn
def tabL : List (Nat × TI) := [
  (3, ⟨.int .i64, 1, 8, [.int .i64 0], none⟩),
  (4, ⟨.bool, 1, 1, [.bool false], none⟩),
  (5, ⟨.int .u8, 1, 1, [.int .u8 0], none⟩),
  (9, ⟨.str, 1, 16, [.str ⟨#[]⟩], none⟩),
  (22, ⟨.slice 3, 1, 24, [.nils], none⟩),
  (25, ⟨.slice 82, 1, 24, [.nils], none⟩),
  (28, ⟨.slice 85, 1, 24, [.nils], none⟩),
  (32, ⟨.slice 122, 1, 24, [.nils], none⟩),
  (35, ⟨.strct [(0, 3), (1, 3)], 2, 16, [.int .i64 0, .int .i64 0], (some [.int .i64, .int .i64])⟩),
  (38, ⟨.slice 109, 1, 24, [.nils], none⟩),
  (43, ⟨.slice 44, 1, 24, [.nils], none⟩),
  (44, ⟨.strct [(0, 3), (1, 3)], 2, 16, [.int .i64 0, .int .i64 0], none⟩),
  (46, ⟨.strct [(0, 3), (1, 3), (2, 3)], 3, 24, [.int .i64 0, .int .i64 0, .int .i64 0], none⟩),
  (48, ⟨.strct [(0, 3), (1, 3), (2, 3), (3, 3), (4, 9), (5, 43), (6, 44), (8, 3), (9, 46)], 12, 120, [.int .i64 0, .int .i64 0, .int .i64 0, .int .i64 0, .str ⟨#[]⟩, .nils, .int .i64 0, .int .i64 0, .int .i64 0, .int .i64 0, .int .i64 0, .int .i64 0], none⟩),
  (60, ⟨.slice 5, 1, 24, [.nils], none⟩),
  (82, ⟨.strct [(0, 3), (1, 3), (2, 3), (3, 3)], 4, 32, [.int .i64 0, .int .i64 0, .int .i64 0, .int .i64 0], none⟩),
  (85, ⟨.strct [(0, 3), (1, 3), (2, 3), (3, 3)], 4, 32, [.int .i64 0, .int .i64 0, .int .i64 0, .int .i64 0], none⟩),
  (88, ⟨.strct [(0, 3), (1, 3)], 2, 16, [.int .i64 0, .int .i64 0], none⟩),
  (93, ⟨.slice 171, 1, 24, [.nils], none⟩),
  (94, ⟨.slice 175, 1, 24, [.nils], none⟩),
  (96, ⟨.strct [(0, 3), (1, 4), (2, 93), (3, 3), (4, 94), (5, 3), (6, 94)], 7, 104, [.int .i64 0, .bool false, .nils, .int .i64 0, .nils, .int .i64 0, .nils], none⟩),
  (99, ⟨.slice 150, 1, 24, [.nils], none⟩),
  (100, ⟨.slice 173, 1, 24, [.nils], none⟩),
  (102, ⟨.strct [(0, 3), (1, 4), (2, 99), (3, 3), (4, 100), (5, 3), (6, 100)], 7, 104, [.int .i64 0, .bool false, .nils, .int .i64 0, .nils, .int .i64 0, .nils], none⟩),
  (109, ⟨.strct [(0, 3), (1, 3), (2, 35)], 4, 32, [.int .i64 0, .int .i64 0, .int .i64 0, .int .i64 0], none⟩),
  (122, ⟨.strct [(0, 3), (1, 3), (2, 88)], 4, 32, [.int .i64 0, .int .i64 0, .int .i64 0, .int .i64 0], none⟩),
  (138, ⟨.slice 9, 1, 24, [.nils], none⟩),
  (150, ⟨.strct [(0, 3), (1, 3), (2, 3)], 3, 24, [.int .i64 0, .int .i64 0, .int .i64 0], none⟩),
  (164, ⟨.strct [(0, 60), (1, 3), (2, 3)], 3, 40, [.nils, .int .i64 0, .int .i64 0], none⟩),
  (167, ⟨.slice 22, 1, 24, [.nils], none⟩),
  (171, ⟨.strct [(0, 3), (1, 3), (2, 3)], 3, 24, [.int .i64 0, .int .i64 0, .int .i64 0], none⟩),
  (173, ⟨.strct [(0, 3), (1, 3)], 2, 16, [.int .i64 0, .int .i64 0], none⟩),
  (175, ⟨.strct [(0, 3), (1, 3)], 2, 16, [.int .i64 0, .int .i64 0], none⟩)]
def Θ : Tab := tabOf tabL
theorem tabOK : TabOK Try.prog Θ := tabOK_of (by kernel_rfl) (by kernel_rfl)
theorem mixed : Try.prog.follows .mixedOrders = true := by kernel_rfl
variable {Γ : Glob}

def laws_FnByteStrings_c : C := .seq (.reg [⟨(some 2), none, .mov (.c (.bool false))⟩]) (.seq (.seq (.reg [⟨(some 21), none, .mov (.t 0)⟩,
  ⟨(some 22), none, .call (.c (.fn Fn.laws_big [] [])) [.t 21]⟩]) (.cond (.t 22) (.seq (.reg [⟨(some 2), none, .mov (.c (.bool true))⟩]) (.ret)) (.skip))) (.seq (.reg [⟨(some 24), none, .mov (.t 0)⟩,
  ⟨(some 25), none, .call (.c (.fn Fn.spec_DrawAppendBytes [] [])) [.t 24]⟩,
  ⟨(some 23), none, .mov (.t 25)⟩,
  ⟨(some 26), none, .extr (.t 23) 0⟩,
  ⟨(some 27), none, .extr (.t 23) 1⟩,
  ⟨(some 3), none, .mov (.t 26)⟩,
  ⟨(some 4), none, .mov (.t 27)⟩]) (.seq (.reg [⟨(some 28), none, .mov (.t 3)⟩,
  ⟨(some 29), none, .mov (.t 4)⟩,
  ⟨(some 30), none, .call (.c (.fn Fn.impl_AppendBytes [] [])) [.t 28, .t 29]⟩,
  ⟨(some 5), none, .mov (.t 30)⟩]) (.seq (.reg [⟨(some 32), none, .mov (.t 5)⟩,
  ⟨(some 33), none, .mov (.t 3)⟩,
  ⟨(some 34), none, .len false (.t 33)⟩,
  ⟨(some 35), none, .mov (.t 4)⟩,
  ⟨(some 36), none, .len false (.t 35)⟩,
  ⟨(some 37), none, .call (.c (.fn Fn.impl_ReadBytes [] [])) [.t 32, .t 34, .t 36]⟩,
  ⟨(some 31), none, .mov (.t 37)⟩,
  ⟨(some 38), none, .extr (.t 31) 0⟩,
  ⟨(some 39), none, .extr (.t 31) 1⟩,
  ⟨(some 40), none, .extr (.t 31) 2⟩,
  ⟨(some 6), none, .mov (.t 38)⟩,
  ⟨(some 7), none, .mov (.t 39)⟩,
  ⟨(some 8), none, .mov (.t 40)⟩]) (.seq (.reg [⟨(some 42), none, .mov (.t 5)⟩,
  ⟨(some 43), none, .mov (.t 3)⟩,
  ⟨(some 44), none, .len false (.t 43)⟩,
  ⟨(some 45), none, .mov (.t 4)⟩,
  ⟨(some 46), none, .len false (.t 45)⟩,
  ⟨(some 47), none, .bin .sub (.num) (.t 46) (.c (.int .i64 1))⟩,
  ⟨(some 48), none, .call (.c (.fn Fn.impl_ReadBytes [] [])) [.t 42, .t 44, .t 47]⟩,
  ⟨(some 41), none, .mov (.t 48)⟩,
  ⟨(some 49), none, .extr (.t 41) 0⟩,
  ⟨(some 50), none, .extr (.t 41) 1⟩,
  ⟨(some 51), none, .extr (.t 41) 2⟩,
  ⟨(some 9), none, .mov (.t 49)⟩,
  ⟨(some 10), none, .mov (.t 50)⟩,
  ⟨(some 11), none, .mov (.t 51)⟩]) (.seq (.seq (.reg [⟨(some 52), none, .mov (.t 8)⟩,
  ⟨(some 53), none, .un .not (.t 52)⟩,
  ⟨(some 54), none, .mov (.t 53)⟩,
  ⟨(some 55), (some (2, false)), .mov (.t 6)⟩,
  ⟨(some 56), (some (2, false)), .mov (.t 4)⟩,
  ⟨(some 57), (some (2, false)), .call (.c (.fn Fn.laws_sameBytes [] [])) [.t 55, .t 56]⟩,
  ⟨(some 58), (some (2, false)), .un .not (.t 57)⟩,
  ⟨(some 59), none, .pick (.t 54) (.c (.bool true)) (.t 58)⟩,
  ⟨(some 60), none, .mov (.t 59)⟩,
  ⟨(some 61), (some (8, false)), .mov (.t 7)⟩,
  ⟨(some 62), (some (8, false)), .mov (.t 5)⟩,
  ⟨(some 63), (some (8, false)), .len false (.t 62)⟩,
  ⟨(some 64), (some (8, false)), .bin .neq (.num) (.t 61) (.t 63)⟩,
  ⟨(some 65), none, .pick (.t 60) (.c (.bool true)) (.t 64)⟩,
  ⟨(some 66), none, .mov (.t 65)⟩,
  ⟨(some 67), (some (14, false)), .mov (.t 11)⟩,
  ⟨(some 68), none, .pick (.t 66) (.c (.bool true)) (.t 67)⟩]) (.cond (.t 68) (.seq (.reg [⟨(some 2), none, .mov (.c (.bool false))⟩]) (.ret)) (.skip))) (.seq (.reg [⟨(some 69), none, .bsl 1 0 [.int .i64 0] []⟩,
  ⟨(some 12), none, .mov (.t 69)⟩]) (.seq (.seq (.reg [⟨(some 13), none, .mov (.c (.int .i64 0))⟩]) (.block 0 (.loop (.seq (.seq (.reg [⟨(some 70), none, .mov (.t 13)⟩,
  ⟨(some 71), none, .mov (.t 0)⟩,
  ⟨(some 72), none, .call (.c (.fn Fn.laws_at [] [])) [.t 71, .c (.int .i64 0)]⟩,
  ⟨(some 73), none, .bin .rem (.num) (.t 72) (.c (.int .i64 6))⟩,
  ⟨(some 74), none, .bin .lss (.num) (.t 70) (.t 73)⟩]) (.cond (.t 74) (.skip) (.exit 0))) (.seq (.block 1 (.reg [⟨(some 77), none, .mov (.t 12)⟩,
  ⟨(some 78), none, .mov (.t 0)⟩,
  ⟨(some 79), none, .mov (.t 13)⟩,
  ⟨(some 80), none, .bin .add (.num) (.t 79) (.c (.int .i64 1))⟩,
  ⟨(some 81), none, .call (.c (.fn Fn.laws_at [] [])) [.t 78, .t 80]⟩,
  ⟨(some 82), none, .mov (.t 0)⟩,
  ⟨(some 83), none, .mov (.t 13)⟩,
  ⟨(some 84), none, .bin .add (.num) (.t 83) (.c (.int .i64 2))⟩,
  ⟨(some 85), none, .call (.c (.fn Fn.laws_at [] [])) [.t 82, .t 84]⟩,
  ⟨(some 86), none, .bin .mul (.num) (.t 81) (.t 85)⟩,
  ⟨(some 87), none, .mov (.t 0)⟩,
  ⟨(some 88), none, .mov (.t 13)⟩,
  ⟨(some 89), none, .bin .add (.num) (.t 88) (.c (.int .i64 3))⟩,
  ⟨(some 90), none, .call (.c (.fn Fn.laws_at [] [])) [.t 87, .t 89]⟩,
  ⟨(some 91), none, .bin .mul (.num) (.t 86) (.t 90)⟩,
  ⟨(some 92), none, .bsl 1 1 [.int .i64 0] [(0, .t 91)]⟩,
  ⟨(some 93), none, .app 1 8 [.int .i64 0] false (.t 77) (.t 92)⟩,
  ⟨(some 12), none, .mov (.t 93)⟩])) (.reg [⟨(some 75), none, .mov (.t 13)⟩,
  ⟨(some 76), none, .bin .add (.num) (.t 75) (.c (.int .i64 1))⟩,
  ⟨(some 13), none, .mov (.t 76)⟩])))))) (.seq (.reg [⟨(some 94), none, .mov (.t 12)⟩,
  ⟨(some 95), none, .call (.c (.fn Fn.impl_EncodeInts [] [])) [.t 94]⟩,
  ⟨(some 14), none, .mov (.t 95)⟩]) (.seq (.reg [⟨(some 97), none, .mov (.t 14)⟩,
  ⟨(some 98), none, .mov (.t 12)⟩,
  ⟨(some 99), none, .len false (.t 98)⟩,
  ⟨(some 100), none, .call (.c (.fn Fn.impl_DecodeInts [] [])) [.t 97, .c (.int .i64 0), .t 99]⟩,
  ⟨(some 96), none, .mov (.t 100)⟩,
  ⟨(some 101), none, .extr (.t 96) 0⟩,
  ⟨(some 102), none, .extr (.t 96) 1⟩,
  ⟨(some 103), none, .extr (.t 96) 2⟩,
  ⟨(some 15), none, .mov (.t 101)⟩,
  ⟨(some 16), none, .mov (.t 102)⟩,
  ⟨(some 17), none, .mov (.t 103)⟩]) (.seq (.reg [⟨(some 105), none, .mov (.t 14)⟩,
  ⟨(some 106), none, .mov (.t 12)⟩,
  ⟨(some 107), none, .len false (.t 106)⟩,
  ⟨(some 108), none, .bin .add (.num) (.t 107) (.c (.int .i64 1))⟩,
  ⟨(some 109), none, .call (.c (.fn Fn.impl_DecodeInts [] [])) [.t 105, .c (.int .i64 0), .t 108]⟩,
  ⟨(some 104), none, .mov (.t 109)⟩,
  ⟨(some 110), none, .extr (.t 104) 0⟩,
  ⟨(some 111), none, .extr (.t 104) 1⟩,
  ⟨(some 112), none, .extr (.t 104) 2⟩,
  ⟨(some 18), none, .mov (.t 110)⟩,
  ⟨(some 19), none, .mov (.t 111)⟩,
  ⟨(some 20), none, .mov (.t 112)⟩]) (.seq (.reg [⟨(some 113), none, .mov (.t 17)⟩,
  ⟨(some 114), none, .mov (.t 113)⟩,
  ⟨(some 115), (some (1, true)), .mov (.t 15)⟩,
  ⟨(some 116), (some (1, true)), .mov (.t 12)⟩,
  ⟨(some 117), (some (1, true)), .call (.c (.fn Fn.laws_sameInts [] [])) [.t 115, .t 116]⟩,
  ⟨(some 118), none, .pick (.t 114) (.t 117) (.c (.bool false))⟩,
  ⟨(some 119), none, .mov (.t 118)⟩,
  ⟨(some 120), (some (6, true)), .mov (.t 16)⟩,
  ⟨(some 121), (some (6, true)), .mov (.t 14)⟩,
  ⟨(some 122), (some (6, true)), .len false (.t 121)⟩,
  ⟨(some 123), (some (6, true)), .bin .eql (.num) (.t 120) (.t 122)⟩,
  ⟨(some 124), none, .pick (.t 119) (.t 123) (.c (.bool false))⟩,
  ⟨(some 125), none, .mov (.t 124)⟩,
  ⟨(some 126), (some (12, true)), .mov (.t 20)⟩,
  ⟨(some 127), (some (12, true)), .un .not (.t 126)⟩,
  ⟨(some 128), none, .pick (.t 125) (.t 127) (.c (.bool false))⟩,
  ⟨(some 2), none, .mov (.t 128)⟩]) (.ret)))))))))))))
def laws_FnByteStrings_r : List RS := [.t 2]
def laws_FnByteStrings_s0 (t0 t12 t13 : AV) (loc : List (List AV)) (h : AH) : St := ⟨[t0, .any, .any, .any, .any, .any, .any, .any, .any, .any, .any, .any, t12, t13, .any, .any, .any, .any, .any, .any, .any, .any, .any, .any, .any, .any, .any, .any, .any, .any, .any, .any, .any, .any, .any, .any, .any, .any, .any, .any, .any, .any, .any, .any, .any, .any, .any, .any, .any, .any, .any, .any, .any, .any, .any, .any, .any, .any, .any, .any, .any, .any, .any, .any, .any, .any, .any, .any, .any, .any, .any, .any, .any, .any, .any, .any, .any, .any, .any, .any, .any, .any, .any, .any, .any, .any, .any, .any, .any, .any, .any, .any, .any, .any, .any, .any, .any, .any, .any, .any, .any, .any, .any, .any, .any, .any, .any, .any, .any, .any, .any, .any, .any, .any, .any, .any, .any, .any, .any, .any, .any, .any, .any, .any, .any, .any, .any, .any, .any], loc, h⟩
theorem laws_FnByteStrings_e {a0 : AV} {h : AH} {K : AV → AH → Prop} (hw : TC Try.prog Θ Γ laws_FnByteStrings_c (retQ laws_FnByteStrings_r K) ⟨[a0, u, u, u, u, u, u, u, u, u, u, u, u, u, u, u, u, u, u, u, u, u, u, u, u, u, u, u, u, u, u, u, u, u, u, u, u, u, u, u, u, u, u, u, u, u, u, u, u, u, u, u, u, u, u, u, u, u, u, u, u, u, u, u, u, u, u, u, u, u, u, u, u, u, u, u, u, u, u, u, u, u, u, u, u, u, u, u, u, u, u, u, u, u, u, u, u, u, u, u, u, u, u, u, u, u, u, u, u, u, u, u, u, u, u, u, u, u, u, u, u, u, u, u, u, u, u, u, u], [], h⟩) : T Try.prog Γ Fn.laws_FnByteStrings [a0] h K :=
  T_of_body tabOK Try.func10 (code := bodyOf Try.f10) (by kernel_rfl) (by kernel_rfl) (by kernel_rfl) (by kernel_rfl) hw
def laws_eqIntS_d0_os : List O := [⟨(some 17), none, .mov (.t 0)⟩,
  ⟨(some 18), none, .mov (.t 5)⟩,
  ⟨(some 19), none, .idxs 1 (.t 17) (.t 18)⟩,
  ⟨(some 20), none, .load 1 false (.t 19)⟩,
  ⟨(some 21), none, .mov (.t 1)⟩,
  ⟨(some 22), none, .mov (.t 5)⟩,
  ⟨(some 23), none, .idxs 1 (.t 21) (.t 22)⟩,
  ⟨(some 24), none, .load 1 false (.t 23)⟩,
  ⟨(some 25), none, .bin .neq (.num) (.t 20) (.t 24)⟩]
def laws_eqIntS_d0_af : List (List Nat) := [[], [], [0, 1], [2], [], [], [4, 5], [6], [3, 7]]
theorem laws_eqIntS_d0_q (gl : Gl) (Q : AE → St → Prop) (s : St) : aw Try.prog Θ Γ gl (.regD laws_eqIntS_d0_os laws_eqIntS_d0_af) Q s = awpOps Try.prog Γ gl [⟨(some 17), none, .mov (.t 0)⟩,
  ⟨(some 18), none, .mov (.t 5)⟩,
  ⟨(some 19), none, .idxs 1 (.t 17) (.t 18)⟩,
  ⟨(some 20), none, .load 1 false (.t 19)⟩,
  ⟨(some 21), none, .mov (.t 1)⟩,
  ⟨(some 22), none, .mov (.t 5)⟩,
  ⟨(some 23), none, .idxs 1 (.t 21) (.t 22)⟩,
  ⟨(some 24), none, .load 1 false (.t 23)⟩,
  ⟨(some 25), none, .bin .neq (.num) (.t 20) (.t 24)⟩] [⟨(some 17), none, .mov (.t 0)⟩,
  ⟨(some 18), none, .mov (.t 5)⟩,
  ⟨(some 19), none, .idxs 1 (.t 17) (.t 18)⟩,
  ⟨(some 20), none, .load 1 false (.t 19)⟩,
  ⟨(some 21), none, .mov (.t 1)⟩,
  ⟨(some 22), none, .mov (.t 5)⟩,
  ⟨(some 23), none, .idxs 1 (.t 21) (.t 22)⟩,
  ⟨(some 24), none, .load 1 false (.t 23)⟩,
  ⟨(some 25), none, .bin .neq (.num) (.t 20) (.t 24)⟩] (Q .normal) s := a_dq (by kernel_rfl) gl Q s
def laws_eqIntS_c : C := .seq (.reg [⟨(some 4), none, .mov (.c (.bool false))⟩]) (.seq (.seq (.reg [⟨(some 6), none, .mov (.t 0)⟩,
  ⟨(some 7), none, .len false (.t 6)⟩,
  ⟨(some 8), none, .mov (.t 1)⟩,
  ⟨(some 9), none, .len false (.t 8)⟩,
  ⟨(some 10), none, .bin .neq (.num) (.t 7) (.t 9)⟩]) (.cond (.t 10) (.seq (.reg [⟨(some 4), none, .mov (.c (.bool false))⟩]) (.ret)) (.skip))) (.seq (.seq (.reg [⟨(some 5), none, .mov (.c (.int .i64 0))⟩]) (.block 0 (.loop (.seq (.seq (.reg [⟨(some 11), none, .mov (.t 5)⟩,
  ⟨(some 12), none, .mov (.t 0)⟩,
  ⟨(some 13), none, .len false (.t 12)⟩,
  ⟨(some 14), none, .bin .lss (.num) (.t 11) (.t 13)⟩]) (.cond (.t 14) (.skip) (.exit 0))) (.seq (.block 1 (.seq (.regD laws_eqIntS_d0_os laws_eqIntS_d0_af) (.cond (.t 25) (.seq (.reg [⟨(some 4), none, .mov (.c (.bool false))⟩]) (.ret)) (.skip)))) (.reg [⟨(some 15), none, .mov (.t 5)⟩,
  ⟨(some 16), none, .bin .add (.num) (.t 15) (.c (.int .i64 1))⟩,
  ⟨(some 5), none, .mov (.t 16)⟩])))))) (.seq (.reg [⟨(some 4), none, .mov (.c (.bool true))⟩]) (.ret))))
def laws_eqIntS_r : List RS := [.t 4]
def laws_eqIntS_s0 (t0 t1 t5 : AV) (loc : List (List AV)) (h : AH) : St := ⟨[t0, t1, .any, .any, .any, t5, .any, .any, .any, .any, .any, .any, .any, .any, .any, .any, .any, .any, .any, .any, .any, .any, .any, .any, .any, .any], loc, h⟩
theorem laws_eqIntS_e {a0 a1 : AV} {h : AH} {K : AV → AH → Prop} (hw : TC Try.prog Θ Γ laws_eqIntS_c (retQ laws_eqIntS_r K) ⟨[a0, a1, u, u, u, u, u, u, u, u, u, u, u, u, u, u, u, u, u, u, u, u, u, u, u, u], [], h⟩) : T Try.prog Γ Fn.laws_eqIntS [a0, a1] h K :=
  T_of_body tabOK Try.func18 (code := bodyOf Try.f18) (by kernel_rfl) (by kernel_rfl) (by kernel_rfl) (by kernel_rfl) hw
def laws_szGiftS_c : C := .seq (.reg [⟨(some 4), none, .mov (.c (.int .i64 0))⟩]) (.seq (.reg [⟨(some 5), none, .mov (.t 1)⟩,
  ⟨(some 6), none, .mov (.t 0)⟩,
  ⟨(some 7), none, .len false (.t 6)⟩,
  ⟨(some 8), none, .bin .sub (.num) (.t 5) (.t 7)⟩,
  ⟨(some 1), none, .mov (.t 8)⟩]) (.seq (.seq (.reg [⟨(some 9), none, .mov (.t 1)⟩,
  ⟨(some 10), none, .bin .lss (.num) (.t 9) (.c (.int .i64 0))⟩]) (.cond (.t 10) (.seq (.reg [⟨(some 4), none, .mov (.c (.int .i64 (-1)))⟩]) (.ret)) (.skip))) (.seq (.reg [⟨(some 11), none, .mov (.t 1)⟩,
  ⟨(some 4), none, .mov (.t 11)⟩]) (.ret))))
def laws_szGiftS_r : List RS := [.t 4]
theorem laws_szGiftS_e {a0 a1 : AV} {h : AH} {K : AV → AH → Prop} (hw : TC Try.prog Θ Γ laws_szGiftS_c (retQ laws_szGiftS_r K) ⟨[a0, a1, u, u, u, u, u, u, u, u, u, u], [], h⟩) : T Try.prog Γ Fn.laws_szGiftS [a0, a1] h K :=
  T_of_body tabOK Try.func19 (code := bodyOf Try.f19) (by kernel_rfl) (by kernel_rfl) (by kernel_rfl) (by kernel_rfl) hw
def laws_toGiftS_c : C := .seq (.reg [⟨(some 2), none, .mov (.c (.nils))⟩]) (.seq (.reg [⟨(some 5), none, .mov (.t 0)⟩,
  ⟨(some 6), none, .len false (.t 5)⟩,
  ⟨(some 7), none, .mks 4 32 [.int .i64 0, .int .i64 0, .int .i64 0, .int .i64 0] (.t 6) (.t 6)⟩,
  ⟨(some 3), none, .mov (.t 7)⟩]) (.seq (.seq (.reg [⟨(some 4), none, .mov (.c (.int .i64 0))⟩]) (.block 0 (.loop (.seq (.seq (.reg [⟨(some 8), none, .mov (.t 4)⟩,
  ⟨(some 9), none, .mov (.t 0)⟩,
  ⟨(some 10), none, .len false (.t 9)⟩,
  ⟨(some 11), none, .bin .lss (.num) (.t 8) (.t 10)⟩]) (.cond (.t 11) (.skip) (.exit 0))) (.seq (.block 1 (.reg [⟨(some 14), none, .mov (.t 3)⟩,
  ⟨(some 15), none, .mov (.t 4)⟩,
  ⟨(some 16), none, .mov (.t 0)⟩,
  ⟨(some 17), none, .mov (.t 4)⟩,
  ⟨(some 18), none, .idxs 4 (.t 16) (.t 17)⟩,
  ⟨(some 19), none, .load 4 true (.t 18)⟩,
  ⟨(some 20), none, .call (.c (.fn Fn.laws_toGift [] [])) [.t 19]⟩,
  ⟨(some 21), none, .idxs 4 (.t 14) (.t 15)⟩,
  ⟨none, none, .store 4 (.t 21) (.t 20)⟩])) (.reg [⟨(some 12), none, .mov (.t 4)⟩,
  ⟨(some 13), none, .bin .add (.num) (.t 12) (.c (.int .i64 1))⟩,
  ⟨(some 4), none, .mov (.t 13)⟩])))))) (.seq (.reg [⟨(some 22), none, .mov (.t 3)⟩,
  ⟨(some 2), none, .mov (.t 22)⟩]) (.ret))))
def laws_toGiftS_r : List RS := [.t 2]
def laws_toGiftS_s0 (t0 t3 t4 : AV) (loc : List (List AV)) (h : AH) : St := ⟨[t0, .any, .any, t3, t4, .any, .any, .any, .any, .any, .any, .any, .any, .any, .any, .any, .any, .any, .any, .any, .any, .any, .any], loc, h⟩
theorem laws_toGiftS_e {a0 : AV} {h : AH} {K : AV → AH → Prop} (hw : TC Try.prog Θ Γ laws_toGiftS_c (retQ laws_toGiftS_r K) ⟨[a0, u, u, u, u, u, u, u, u, u, u, u, u, u, u, u, u, u, u, u, u, u, u], [], h⟩) : T Try.prog Γ Fn.laws_toGiftS [a0] h K :=
  T_of_body tabOK Try.func21 (code := bodyOf Try.f21) (by kernel_rfl) (by kernel_rfl) (by kernel_rfl) (by kernel_rfl) hw
def laws_eqGiftS_d0_os : List O := [⟨(some 17), none, .mov (.t 0)⟩,
  ⟨(some 18), none, .mov (.t 5)⟩,
  ⟨(some 19), none, .idxs 4 (.t 17) (.t 18)⟩,
  ⟨(some 20), none, .load 4 true (.t 19)⟩,
  ⟨(some 21), none, .mov (.t 1)⟩,
  ⟨(some 22), none, .mov (.t 5)⟩,
  ⟨(some 23), none, .idxs 4 (.t 21) (.t 22)⟩,
  ⟨(some 24), none, .load 4 true (.t 23)⟩,
  ⟨(some 25), none, .call (.c (.fn Fn.laws_eqGift [] [])) [.t 20, .t 24]⟩,
  ⟨(some 26), none, .un .not (.t 25)⟩]
def laws_eqGiftS_d0_af : List (List Nat) := [[], [], [0, 1], [2], [], [], [4, 5], [6], [3, 7], [8]]
theorem laws_eqGiftS_d0_q (gl : Gl) (Q : AE → St → Prop) (s : St) : aw Try.prog Θ Γ gl (.regD laws_eqGiftS_d0_os laws_eqGiftS_d0_af) Q s = awpT Try.prog Γ gl [⟨(some 17), none, .mov (.t 0)⟩,
  ⟨(some 18), none, .mov (.t 5)⟩,
  ⟨(some 19), none, .idxs 4 (.t 17) (.t 18)⟩,
  ⟨(some 20), none, .load 4 true (.t 19)⟩,
  ⟨(some 21), none, .mov (.t 1)⟩,
  ⟨(some 22), none, .mov (.t 5)⟩,
  ⟨(some 23), none, .idxs 4 (.t 21) (.t 22)⟩,
  ⟨(some 24), none, .load 4 true (.t 23)⟩,
  ⟨(some 25), none, .call (.c (.fn Fn.laws_eqGift [] [])) [.t 20, .t 24]⟩,
  ⟨(some 26), none, .un .not (.t 25)⟩] (Q .normal) 10 (.q 0 (.q 1 (.q 2 (.q 3 (.q 4 (.q 5 (.q 6 (.q 7 (.q 8 (.q 9 (.done))))))))))) s := a_dd rfl (by kernel_rfl) gl Q s
def laws_eqGiftS_c : C := .seq (.reg [⟨(some 4), none, .mov (.c (.bool false))⟩]) (.seq (.seq (.reg [⟨(some 6), none, .mov (.t 0)⟩,
  ⟨(some 7), none, .len false (.t 6)⟩,
  ⟨(some 8), none, .mov (.t 1)⟩,
  ⟨(some 9), none, .len false (.t 8)⟩,
  ⟨(some 10), none, .bin .neq (.num) (.t 7) (.t 9)⟩]) (.cond (.t 10) (.seq (.reg [⟨(some 4), none, .mov (.c (.bool false))⟩]) (.ret)) (.skip))) (.seq (.seq (.reg [⟨(some 5), none, .mov (.c (.int .i64 0))⟩]) (.block 0 (.loop (.seq (.seq (.reg [⟨(some 11), none, .mov (.t 5)⟩,
  ⟨(some 12), none, .mov (.t 0)⟩,
  ⟨(some 13), none, .len false (.t 12)⟩,
  ⟨(some 14), none, .bin .lss (.num) (.t 11) (.t 13)⟩]) (.cond (.t 14) (.skip) (.exit 0))) (.seq (.block 1 (.seq (.regD laws_eqGiftS_d0_os laws_eqGiftS_d0_af) (.cond (.t 26) (.seq (.reg [⟨(some 4), none, .mov (.c (.bool false))⟩]) (.ret)) (.skip)))) (.reg [⟨(some 15), none, .mov (.t 5)⟩,
  ⟨(some 16), none, .bin .add (.num) (.t 15) (.c (.int .i64 1))⟩,
  ⟨(some 5), none, .mov (.t 16)⟩])))))) (.seq (.reg [⟨(some 4), none, .mov (.c (.bool true))⟩]) (.ret))))
def laws_eqGiftS_r : List RS := [.t 4]
def laws_eqGiftS_s0 (t0 t1 t5 : AV) (loc : List (List AV)) (h : AH) : St := ⟨[t0, t1, .any, .any, .any, t5, .any, .any, .any, .any, .any, .any, .any, .any, .any, .any, .any, .any, .any, .any, .any, .any, .any, .any, .any, .any, .any], loc, h⟩
theorem laws_eqGiftS_e {a0 a1 : AV} {h : AH} {K : AV → AH → Prop} (hw : TC Try.prog Θ Γ laws_eqGiftS_c (retQ laws_eqGiftS_r K) ⟨[a0, a1, u, u, u, u, u, u, u, u, u, u, u, u, u, u, u, u, u, u, u, u, u, u, u, u, u], [], h⟩) : T Try.prog Γ Fn.laws_eqGiftS [a0, a1] h K :=
  T_of_body tabOK Try.func23 (code := bodyOf Try.f23) (by kernel_rfl) (by kernel_rfl) (by kernel_rfl) (by kernel_rfl) hw
def laws_szBoxS_c : C := .seq (.reg [⟨(some 4), none, .mov (.c (.int .i64 0))⟩]) (.seq (.reg [⟨(some 5), none, .mov (.t 1)⟩,
  ⟨(some 6), none, .mov (.t 0)⟩,
  ⟨(some 7), none, .len false (.t 6)⟩,
  ⟨(some 8), none, .bin .sub (.num) (.t 5) (.t 7)⟩,
  ⟨(some 1), none, .mov (.t 8)⟩]) (.seq (.seq (.reg [⟨(some 9), none, .mov (.t 1)⟩,
  ⟨(some 10), none, .bin .lss (.num) (.t 9) (.c (.int .i64 0))⟩]) (.cond (.t 10) (.seq (.reg [⟨(some 4), none, .mov (.c (.int .i64 (-1)))⟩]) (.ret)) (.skip))) (.seq (.reg [⟨(some 11), none, .mov (.t 1)⟩,
  ⟨(some 4), none, .mov (.t 11)⟩]) (.ret))))
def laws_szBoxS_r : List RS := [.t 4]
theorem laws_szBoxS_e {a0 a1 : AV} {h : AH} {K : AV → AH → Prop} (hw : TC Try.prog Θ Γ laws_szBoxS_c (retQ laws_szBoxS_r K) ⟨[a0, a1, u, u, u, u, u, u, u, u, u, u], [], h⟩) : T Try.prog Γ Fn.laws_szBoxS [a0, a1] h K :=
  T_of_body tabOK Try.func24 (code := bodyOf Try.f24) (by kernel_rfl) (by kernel_rfl) (by kernel_rfl) (by kernel_rfl) hw
def laws_toBoxS_c : C := .seq (.reg [⟨(some 2), none, .mov (.c (.nils))⟩]) (.seq (.reg [⟨(some 5), none, .mov (.t 0)⟩,
  ⟨(some 6), none, .len false (.t 5)⟩,
  ⟨(some 7), none, .mks 4 32 [.int .i64 0, .int .i64 0, .int .i64 0, .int .i64 0] (.t 6) (.t 6)⟩,
  ⟨(some 3), none, .mov (.t 7)⟩]) (.seq (.seq (.reg [⟨(some 4), none, .mov (.c (.int .i64 0))⟩]) (.block 0 (.loop (.seq (.seq (.reg [⟨(some 8), none, .mov (.t 4)⟩,
  ⟨(some 9), none, .mov (.t 0)⟩,
  ⟨(some 10), none, .len false (.t 9)⟩,
  ⟨(some 11), none, .bin .lss (.num) (.t 8) (.t 10)⟩]) (.cond (.t 11) (.skip) (.exit 0))) (.seq (.block 1 (.reg [⟨(some 14), none, .mov (.t 3)⟩,
  ⟨(some 15), none, .mov (.t 4)⟩,
  ⟨(some 16), none, .mov (.t 0)⟩,
  ⟨(some 17), none, .mov (.t 4)⟩,
  ⟨(some 18), none, .idxs 4 (.t 16) (.t 17)⟩,
  ⟨(some 19), none, .load 4 true (.t 18)⟩,
  ⟨(some 20), none, .call (.c (.fn Fn.laws_toBox [] [])) [.t 19]⟩,
  ⟨(some 21), none, .idxs 4 (.t 14) (.t 15)⟩,
  ⟨none, none, .store 4 (.t 21) (.t 20)⟩])) (.reg [⟨(some 12), none, .mov (.t 4)⟩,
  ⟨(some 13), none, .bin .add (.num) (.t 12) (.c (.int .i64 1))⟩,
  ⟨(some 4), none, .mov (.t 13)⟩])))))) (.seq (.reg [⟨(some 22), none, .mov (.t 3)⟩,
  ⟨(some 2), none, .mov (.t 22)⟩]) (.ret))))
def laws_toBoxS_r : List RS := [.t 2]
def laws_toBoxS_s0 (t0 t3 t4 : AV) (loc : List (List AV)) (h : AH) : St := ⟨[t0, .any, .any, t3, t4, .any, .any, .any, .any, .any, .any, .any, .any, .any, .any, .any, .any, .any, .any, .any, .any, .any, .any], loc, h⟩
theorem laws_toBoxS_e {a0 : AV} {h : AH} {K : AV → AH → Prop} (hw : TC Try.prog Θ Γ laws_toBoxS_c (retQ laws_toBoxS_r K) ⟨[a0, u, u, u, u, u, u, u, u, u, u, u, u, u, u, u, u, u, u, u, u, u, u], [], h⟩) : T Try.prog Γ Fn.laws_toBoxS [a0] h K :=
  T_of_body tabOK Try.func26 (code := bodyOf Try.f26) (by kernel_rfl) (by kernel_rfl) (by kernel_rfl) (by kernel_rfl) hw
def laws_eqValue_c : C := .seq (.reg [⟨(some 2), none, .box (.t 0)⟩,
  ⟨(some 3), none, .box (.t 1)⟩,
  ⟨(some 4), none, .mov (.c (.bool false))⟩]) (.seq (.seq (.reg [⟨(some 5), none, .fld 0 (.t 2)⟩,
  ⟨(some 6), none, .load 1 false (.t 5)⟩,
  ⟨(some 7), none, .fld 0 (.t 3)⟩,
  ⟨(some 8), none, .load 1 false (.t 7)⟩,
  ⟨(some 9), none, .bin .neq (.num) (.t 6) (.t 8)⟩]) (.cond (.t 9) (.seq (.reg [⟨(some 4), none, .mov (.c (.bool false))⟩]) (.ret)) (.skip))) (.seq (.seq (.reg [⟨(some 10), none, .fld 1 (.t 2)⟩,
  ⟨(some 11), none, .load 1 false (.t 10)⟩,
  ⟨(some 12), none, .fld 1 (.t 3)⟩,
  ⟨(some 13), none, .load 1 false (.t 12)⟩,
  ⟨(some 14), none, .bin .neq (.num) (.t 11) (.t 13)⟩]) (.cond (.t 14) (.seq (.reg [⟨(some 4), none, .mov (.c (.bool false))⟩]) (.ret)) (.skip))) (.seq (.reg [⟨(some 4), none, .mov (.c (.bool true))⟩]) (.ret))))
def laws_eqValue_r : List RS := [.t 4]
theorem laws_eqValue_e {a0 a1 : AV} {h : AH} {K : AV → AH → Prop} (hw : TC Try.prog Θ Γ laws_eqValue_c (retQ laws_eqValue_r K) ⟨[a0, a1, u, u, u, u, u, u, u, u, u, u, u, u, u], [], h⟩) : T Try.prog Γ Fn.laws_eqValue [a0, a1] h K :=
  T_of_body tabOK Try.func28 (code := bodyOf Try.f28) (by kernel_rfl) (by kernel_rfl) (by kernel_rfl) (by kernel_rfl) hw
def laws_eqBoxS_d0_os : List O := [⟨(some 17), none, .mov (.t 0)⟩,
  ⟨(some 18), none, .mov (.t 5)⟩,
  ⟨(some 19), none, .idxs 4 (.t 17) (.t 18)⟩,
  ⟨(some 20), none, .load 4 true (.t 19)⟩,
  ⟨(some 21), none, .mov (.t 1)⟩,
  ⟨(some 22), none, .mov (.t 5)⟩,
  ⟨(some 23), none, .idxs 4 (.t 21) (.t 22)⟩,
  ⟨(some 24), none, .load 4 true (.t 23)⟩,
  ⟨(some 25), none, .call (.c (.fn Fn.laws_eqBox [] [])) [.t 20, .t 24]⟩,
  ⟨(some 26), none, .un .not (.t 25)⟩]
def laws_eqBoxS_d0_af : List (List Nat) := [[], [], [0, 1], [2], [], [], [4, 5], [6], [3, 7], [8]]
theorem laws_eqBoxS_d0_q (gl : Gl) (Q : AE → St → Prop) (s : St) : aw Try.prog Θ Γ gl (.regD laws_eqBoxS_d0_os laws_eqBoxS_d0_af) Q s = awpT Try.prog Γ gl [⟨(some 17), none, .mov (.t 0)⟩,
  ⟨(some 18), none, .mov (.t 5)⟩,
  ⟨(some 19), none, .idxs 4 (.t 17) (.t 18)⟩,
  ⟨(some 20), none, .load 4 true (.t 19)⟩,
  ⟨(some 21), none, .mov (.t 1)⟩,
  ⟨(some 22), none, .mov (.t 5)⟩,
  ⟨(some 23), none, .idxs 4 (.t 21) (.t 22)⟩,
  ⟨(some 24), none, .load 4 true (.t 23)⟩,
  ⟨(some 25), none, .call (.c (.fn Fn.laws_eqBox [] [])) [.t 20, .t 24]⟩,
  ⟨(some 26), none, .un .not (.t 25)⟩] (Q .normal) 10 (.q 0 (.q 1 (.q 2 (.q 3 (.q 4 (.q 5 (.q 6 (.q 7 (.q 8 (.q 9 (.done))))))))))) s := a_dd rfl (by kernel_rfl) gl Q s
def laws_eqBoxS_c : C := .seq (.reg [⟨(some 4), none, .mov (.c (.bool false))⟩]) (.seq (.seq (.reg [⟨(some 6), none, .mov (.t 0)⟩,
  ⟨(some 7), none, .len false (.t 6)⟩,
  ⟨(some 8), none, .mov (.t 1)⟩,
  ⟨(some 9), none, .len false (.t 8)⟩,
  ⟨(some 10), none, .bin .neq (.num) (.t 7) (.t 9)⟩]) (.cond (.t 10) (.seq (.reg [⟨(some 4), none, .mov (.c (.bool false))⟩]) (.ret)) (.skip))) (.seq (.seq (.reg [⟨(some 5), none, .mov (.c (.int .i64 0))⟩]) (.block 0 (.loop (.seq (.seq (.reg [⟨(some 11), none, .mov (.t 5)⟩,
  ⟨(some 12), none, .mov (.t 0)⟩,
  ⟨(some 13), none, .len false (.t 12)⟩,
  ⟨(some 14), none, .bin .lss (.num) (.t 11) (.t 13)⟩]) (.cond (.t 14) (.skip) (.exit 0))) (.seq (.block 1 (.seq (.regD laws_eqBoxS_d0_os laws_eqBoxS_d0_af) (.cond (.t 26) (.seq (.reg [⟨(some 4), none, .mov (.c (.bool false))⟩]) (.ret)) (.skip)))) (.reg [⟨(some 15), none, .mov (.t 5)⟩,
  ⟨(some 16), none, .bin .add (.num) (.t 15) (.c (.int .i64 1))⟩,
  ⟨(some 5), none, .mov (.t 16)⟩])))))) (.seq (.reg [⟨(some 4), none, .mov (.c (.bool true))⟩]) (.ret))))
def laws_eqBoxS_r : List RS := [.t 4]
def laws_eqBoxS_s0 (t0 t1 t5 : AV) (loc : List (List AV)) (h : AH) : St := ⟨[t0, t1, .any, .any, .any, t5, .any, .any, .any, .any, .any, .any, .any, .any, .any, .any, .any, .any, .any, .any, .any, .any, .any, .any, .any, .any, .any], loc, h⟩
theorem laws_eqBoxS_e {a0 a1 : AV} {h : AH} {K : AV → AH → Prop} (hw : TC Try.prog Θ Γ laws_eqBoxS_c (retQ laws_eqBoxS_r K) ⟨[a0, a1, u, u, u, u, u, u, u, u, u, u, u, u, u, u, u, u, u, u, u, u, u, u, u, u, u], [], h⟩) : T Try.prog Γ Fn.laws_eqBoxS [a0, a1] h K :=
  T_of_body tabOK Try.func29 (code := bodyOf Try.f29) (by kernel_rfl) (by kernel_rfl) (by kernel_rfl) (by kernel_rfl) hw
def laws_eqMessage_c : C := .seq (.reg [⟨(some 2), none, .box (.t 0)⟩,
  ⟨(some 3), none, .box (.t 1)⟩,
  ⟨(some 4), none, .mov (.c (.bool false))⟩]) (.seq (.seq (.reg [⟨(some 5), none, .fld 0 (.t 2)⟩,
  ⟨(some 6), none, .load 1 false (.t 5)⟩,
  ⟨(some 7), none, .fld 0 (.t 3)⟩,
  ⟨(some 8), none, .load 1 false (.t 7)⟩,
  ⟨(some 9), none, .bin .neq (.num) (.t 6) (.t 8)⟩]) (.cond (.t 9) (.seq (.reg [⟨(some 4), none, .mov (.c (.bool false))⟩]) (.ret)) (.skip))) (.seq (.seq (.reg [⟨(some 10), none, .fld 1 (.t 2)⟩,
  ⟨(some 11), none, .load 1 false (.t 10)⟩,
  ⟨(some 12), none, .fld 1 (.t 3)⟩,
  ⟨(some 13), none, .load 1 false (.t 12)⟩,
  ⟨(some 14), none, .bin .neq (.num) (.t 11) (.t 13)⟩]) (.cond (.t 14) (.seq (.reg [⟨(some 4), none, .mov (.c (.bool false))⟩]) (.ret)) (.skip))) (.seq (.seq (.reg [⟨(some 15), none, .fld 2 (.t 2)⟩,
  ⟨(some 16), none, .load 1 false (.t 15)⟩,
  ⟨(some 17), none, .fld 2 (.t 3)⟩,
  ⟨(some 18), none, .load 1 false (.t 17)⟩,
  ⟨(some 19), none, .bin .neq (.num) (.t 16) (.t 18)⟩]) (.cond (.t 19) (.seq (.reg [⟨(some 4), none, .mov (.c (.bool false))⟩]) (.ret)) (.skip))) (.seq (.seq (.reg [⟨(some 20), none, .fld 3 (.t 2)⟩,
  ⟨(some 21), none, .load 1 false (.t 20)⟩,
  ⟨(some 22), none, .fld 3 (.t 3)⟩,
  ⟨(some 23), none, .load 1 false (.t 22)⟩,
  ⟨(some 24), none, .bin .neq (.num) (.t 21) (.t 23)⟩]) (.cond (.t 24) (.seq (.reg [⟨(some 4), none, .mov (.c (.bool false))⟩]) (.ret)) (.skip))) (.seq (.seq (.reg [⟨(some 25), none, .fld 4 (.t 2)⟩,
  ⟨(some 26), none, .load 1 false (.t 25)⟩,
  ⟨(some 27), none, .fld 4 (.t 3)⟩,
  ⟨(some 28), none, .load 1 false (.t 27)⟩,
  ⟨(some 29), none, .bin .neq (.num) (.t 26) (.t 28)⟩]) (.cond (.t 29) (.seq (.reg [⟨(some 4), none, .mov (.c (.bool false))⟩]) (.ret)) (.skip))) (.seq (.seq (.reg [⟨(some 30), none, .fld 5 (.t 2)⟩,
  ⟨(some 31), none, .load 1 false (.t 30)⟩,
  ⟨(some 32), none, .fld 5 (.t 3)⟩,
  ⟨(some 33), none, .load 1 false (.t 32)⟩,
  ⟨(some 34), none, .call (.c (.fn Fn.laws_eqWireS [] [])) [.t 31, .t 33]⟩,
  ⟨(some 35), none, .un .not (.t 34)⟩]) (.cond (.t 35) (.seq (.reg [⟨(some 4), none, .mov (.c (.bool false))⟩]) (.ret)) (.skip))) (.seq (.seq (.reg [⟨(some 36), none, .fld 6 (.t 2)⟩,
  ⟨(some 37), none, .load 2 true (.t 36)⟩,
  ⟨(some 38), none, .fld 6 (.t 3)⟩,
  ⟨(some 39), none, .load 2 true (.t 38)⟩,
  ⟨(some 40), none, .call (.c (.fn Fn.laws_eqWire [] [])) [.t 37, .t 39]⟩,
  ⟨(some 41), none, .un .not (.t 40)⟩]) (.cond (.t 41) (.seq (.reg [⟨(some 4), none, .mov (.c (.bool false))⟩]) (.ret)) (.skip))) (.seq (.seq (.reg [⟨(some 42), none, .fld 8 (.t 2)⟩,
  ⟨(some 43), none, .load 1 false (.t 42)⟩,
  ⟨(some 44), none, .fld 8 (.t 3)⟩,
  ⟨(some 45), none, .load 1 false (.t 44)⟩,
  ⟨(some 46), none, .bin .neq (.num) (.t 43) (.t 45)⟩]) (.cond (.t 46) (.seq (.reg [⟨(some 4), none, .mov (.c (.bool false))⟩]) (.ret)) (.skip))) (.seq (.seq (.reg [⟨(some 47), none, .fld 9 (.t 2)⟩,
  ⟨(some 48), none, .load 3 true (.t 47)⟩,
  ⟨(some 49), none, .fld 9 (.t 3)⟩,
  ⟨(some 50), none, .load 3 true (.t 49)⟩,
  ⟨(some 51), none, .call (.c (.fn Fn.laws_eqTag [] [])) [.t 48, .t 50]⟩,
  ⟨(some 52), none, .un .not (.t 51)⟩]) (.cond (.t 52) (.seq (.reg [⟨(some 4), none, .mov (.c (.bool false))⟩]) (.ret)) (.skip))) (.seq (.reg [⟨(some 4), none, .mov (.c (.bool true))⟩]) (.ret)))))))))))
def laws_eqMessage_r : List RS := [.t 4]
theorem laws_eqMessage_e {a0 a1 : AV} {h : AH} {K : AV → AH → Prop} (hw : TC Try.prog Θ Γ laws_eqMessage_c (retQ laws_eqMessage_r K) ⟨[a0, a1, u, u, u, u, u, u, u, u, u, u, u, u, u, u, u, u, u, u, u, u, u, u, u, u, u, u, u, u, u, u, u, u, u, u, u, u, u, u, u, u, u, u, u, u, u, u, u, u, u, u, u], [], h⟩) : T Try.prog Γ Fn.laws_eqMessage [a0, a1] h K :=
  T_of_body tabOK Try.func32 (code := bodyOf Try.f32) (by kernel_rfl) (by kernel_rfl) (by kernel_rfl) (by kernel_rfl) hw
def laws_markMessage_c : C := .seq (.reg [⟨(some 2), none, .box (.t 0)⟩,
  ⟨(some 4), none, .mov (.c (.int .i64 0))⟩]) (.seq (.reg [⟨(some 5), none, .fld 5 (.t 2)⟩,
  ⟨(some 6), none, .load 1 false (.t 5)⟩,
  ⟨(some 7), none, .mov (.t 1)⟩,
  ⟨(some 8), none, .call (.c (.fn Fn.laws_markWireS [] [])) [.t 6, .t 7]⟩,
  ⟨(some 1), none, .mov (.t 8)⟩]) (.seq (.reg [⟨(some 9), none, .mov (.t 1)⟩,
  ⟨(some 4), none, .mov (.t 9)⟩]) (.ret)))
def laws_markMessage_r : List RS := [.t 4]
theorem laws_markMessage_e {a0 a1 : AV} {h : AH} {K : AV → AH → Prop} (hw : TC Try.prog Θ Γ laws_markMessage_c (retQ laws_markMessage_r K) ⟨[a0, a1, u, u, u, u, u, u, u, u], [], h⟩) : T Try.prog Γ Fn.laws_markMessage [a0, a1] h K :=
  T_of_body tabOK Try.func33 (code := bodyOf Try.f33) (by kernel_rfl) (by kernel_rfl) (by kernel_rfl) (by kernel_rfl) hw
def laws_heldMessage_c : C := .seq (.reg [⟨(some 2), none, .box (.t 0)⟩,
  ⟨(some 4), none, .mov (.c (.int .i64 0))⟩]) (.seq (.reg [⟨(some 5), none, .fld 5 (.t 2)⟩,
  ⟨(some 6), none, .load 1 false (.t 5)⟩,
  ⟨(some 7), none, .mov (.t 1)⟩,
  ⟨(some 8), none, .call (.c (.fn Fn.laws_heldWireS [] [])) [.t 6, .t 7]⟩,
  ⟨(some 1), none, .mov (.t 8)⟩]) (.seq (.seq (.reg [⟨(some 9), none, .mov (.t 1)⟩,
  ⟨(some 10), none, .bin .lss (.num) (.t 9) (.c (.int .i64 0))⟩]) (.cond (.t 10) (.seq (.reg [⟨(some 4), none, .mov (.c (.int .i64 (-1)))⟩]) (.ret)) (.skip))) (.seq (.reg [⟨(some 11), none, .mov (.t 1)⟩,
  ⟨(some 4), none, .mov (.t 11)⟩]) (.ret))))
def laws_heldMessage_r : List RS := [.t 4]
theorem laws_heldMessage_e {a0 a1 : AV} {h : AH} {K : AV → AH → Prop} (hw : TC Try.prog Θ Γ laws_heldMessage_c (retQ laws_heldMessage_r K) ⟨[a0, a1, u, u, u, u, u, u, u, u, u, u], [], h⟩) : T Try.prog Γ Fn.laws_heldMessage [a0, a1] h K :=
  T_of_body tabOK Try.func34 (code := bodyOf Try.f34) (by kernel_rfl) (by kernel_rfl) (by kernel_rfl) (by kernel_rfl) hw
def laws_markBoxS_c : C := .seq (.reg [⟨(some 4), none, .mov (.c (.int .i64 0))⟩]) (.seq (.seq (.reg [⟨(some 5), none, .mov (.c (.int .i64 0))⟩]) (.block 0 (.loop (.seq (.seq (.reg [⟨(some 6), none, .mov (.t 5)⟩,
  ⟨(some 7), none, .mov (.t 0)⟩,
  ⟨(some 8), none, .len false (.t 7)⟩,
  ⟨(some 9), none, .bin .lss (.num) (.t 6) (.t 8)⟩]) (.cond (.t 9) (.skip) (.exit 0))) (.seq (.block 1 (.seq (.reg [⟨(some 12), none, .mov (.t 0)⟩,
  ⟨(some 13), none, .mov (.t 5)⟩,
  ⟨(some 14), none, .mov (.t 1)⟩,
  ⟨(some 15), none, .idxs 4 (.t 12) (.t 13)⟩,
  ⟨(some 16), none, .fld 0 (.t 15)⟩,
  ⟨none, none, .store 1 (.t 16) (.t 14)⟩]) (.seq (.reg [⟨(some 17), none, .mov (.t 1)⟩,
  ⟨(some 18), none, .bin .add (.num) (.t 17) (.c (.int .i64 1))⟩,
  ⟨(some 1), none, .mov (.t 18)⟩]) (.seq (.reg [⟨(some 19), none, .mov (.t 0)⟩,
  ⟨(some 20), none, .mov (.t 5)⟩,
  ⟨(some 21), none, .mov (.t 1)⟩,
  ⟨(some 22), none, .idxs 4 (.t 19) (.t 20)⟩,
  ⟨(some 23), none, .fld 1 (.t 22)⟩,
  ⟨none, none, .store 1 (.t 23) (.t 21)⟩]) (.seq (.reg [⟨(some 24), none, .mov (.t 1)⟩,
  ⟨(some 25), none, .bin .add (.num) (.t 24) (.c (.int .i64 1))⟩,
  ⟨(some 1), none, .mov (.t 25)⟩]) (.seq (.reg [⟨(some 26), none, .mov (.t 0)⟩,
  ⟨(some 27), none, .mov (.t 5)⟩,
  ⟨(some 28), none, .mov (.t 1)⟩,
  ⟨(some 29), none, .idxs 4 (.t 26) (.t 27)⟩,
  ⟨(some 30), none, .fld 2 (.t 29)⟩,
  ⟨(some 31), none, .fld 0 (.t 30)⟩,
  ⟨none, none, .store 1 (.t 31) (.t 28)⟩]) (.seq (.reg [⟨(some 32), none, .mov (.t 1)⟩,
  ⟨(some 33), none, .bin .add (.num) (.t 32) (.c (.int .i64 1))⟩,
  ⟨(some 1), none, .mov (.t 33)⟩]) (.seq (.reg [⟨(some 34), none, .mov (.t 0)⟩,
  ⟨(some 35), none, .mov (.t 5)⟩,
  ⟨(some 36), none, .mov (.t 1)⟩,
  ⟨(some 37), none, .idxs 4 (.t 34) (.t 35)⟩,
  ⟨(some 38), none, .fld 2 (.t 37)⟩,
  ⟨(some 39), none, .fld 1 (.t 38)⟩,
  ⟨none, none, .store 1 (.t 39) (.t 36)⟩]) (.reg [⟨(some 40), none, .mov (.t 1)⟩,
  ⟨(some 41), none, .bin .add (.num) (.t 40) (.c (.int .i64 1))⟩,
  ⟨(some 1), none, .mov (.t 41)⟩]))))))))) (.reg [⟨(some 10), none, .mov (.t 5)⟩,
  ⟨(some 11), none, .bin .add (.num) (.t 10) (.c (.int .i64 1))⟩,
  ⟨(some 5), none, .mov (.t 11)⟩])))))) (.seq (.reg [⟨(some 42), none, .mov (.t 1)⟩,
  ⟨(some 4), none, .mov (.t 42)⟩]) (.ret)))
def laws_markBoxS_r : List RS := [.t 4]
def laws_markBoxS_s0 (t0 t1 t5 : AV) (loc : List (List AV)) (h : AH) : St := ⟨[t0, t1, .any, .any, .any, t5, .any, .any, .any, .any, .any, .any, .any, .any, .any, .any, .any, .any, .any, .any, .any, .any, .any, .any, .any, .any, .any, .any, .any, .any, .any, .any, .any, .any, .any, .any, .any, .any, .any, .any, .any, .any, .any], loc, h⟩
theorem laws_markBoxS_e {a0 a1 : AV} {h : AH} {K : AV → AH → Prop} (hw : TC Try.prog Θ Γ laws_markBoxS_c (retQ laws_markBoxS_r K) ⟨[a0, a1, u, u, u, u, u, u, u, u, u, u, u, u, u, u, u, u, u, u, u, u, u, u, u, u, u, u, u, u, u, u, u, u, u, u, u, u, u, u, u, u, u], [], h⟩) : T Try.prog Γ Fn.laws_markBoxS [a0, a1] h K :=
  T_of_body tabOK Try.func37 (code := bodyOf Try.f37) (by kernel_rfl) (by kernel_rfl) (by kernel_rfl) (by kernel_rfl) hw
def laws_markIntS_c : C := .seq (.reg [⟨(some 4), none, .mov (.c (.int .i64 0))⟩]) (.seq (.seq (.reg [⟨(some 5), none, .mov (.c (.int .i64 0))⟩]) (.block 0 (.loop (.seq (.seq (.reg [⟨(some 6), none, .mov (.t 5)⟩,
  ⟨(some 7), none, .mov (.t 0)⟩,
  ⟨(some 8), none, .len false (.t 7)⟩,
  ⟨(some 9), none, .bin .lss (.num) (.t 6) (.t 8)⟩]) (.cond (.t 9) (.skip) (.exit 0))) (.seq (.block 1 (.seq (.reg [⟨(some 12), none, .mov (.t 0)⟩,
  ⟨(some 13), none, .mov (.t 5)⟩,
  ⟨(some 14), none, .mov (.t 1)⟩,
  ⟨(some 15), none, .idxs 1 (.t 12) (.t 13)⟩,
  ⟨none, none, .store 1 (.t 15) (.t 14)⟩]) (.reg [⟨(some 16), none, .mov (.t 1)⟩,
  ⟨(some 17), none, .bin .add (.num) (.t 16) (.c (.int .i64 1))⟩,
  ⟨(some 1), none, .mov (.t 17)⟩]))) (.reg [⟨(some 10), none, .mov (.t 5)⟩,
  ⟨(some 11), none, .bin .add (.num) (.t 10) (.c (.int .i64 1))⟩,
  ⟨(some 5), none, .mov (.t 11)⟩])))))) (.seq (.reg [⟨(some 18), none, .mov (.t 1)⟩,
  ⟨(some 4), none, .mov (.t 18)⟩]) (.ret)))
def laws_markIntS_r : List RS := [.t 4]
def laws_markIntS_s0 (t0 t1 t5 : AV) (loc : List (List AV)) (h : AH) : St := ⟨[t0, t1, .any, .any, .any, t5, .any, .any, .any, .any, .any, .any, .any, .any, .any, .any, .any, .any, .any], loc, h⟩
theorem laws_markIntS_e {a0 a1 : AV} {h : AH} {K : AV → AH → Prop} (hw : TC Try.prog Θ Γ laws_markIntS_c (retQ laws_markIntS_r K) ⟨[a0, a1, u, u, u, u, u, u, u, u, u, u, u, u, u, u, u, u, u], [], h⟩) : T Try.prog Γ Fn.laws_markIntS [a0, a1] h K :=
  T_of_body tabOK Try.func38 (code := bodyOf Try.f38) (by kernel_rfl) (by kernel_rfl) (by kernel_rfl) (by kernel_rfl) hw
def laws_heldIntS_c : C := .seq (.reg [⟨(some 4), none, .mov (.c (.int .i64 0))⟩]) (.seq (.seq (.reg [⟨(some 5), none, .mov (.c (.int .i64 0))⟩]) (.block 0 (.loop (.seq (.seq (.reg [⟨(some 6), none, .mov (.t 5)⟩,
  ⟨(some 7), none, .mov (.t 0)⟩,
  ⟨(some 8), none, .len false (.t 7)⟩,
  ⟨(some 9), none, .bin .lss (.num) (.t 6) (.t 8)⟩]) (.cond (.t 9) (.skip) (.exit 0))) (.seq (.block 1 (.seq (.seq (.reg [⟨(some 12), none, .mov (.t 0)⟩,
  ⟨(some 13), none, .mov (.t 5)⟩,
  ⟨(some 14), none, .idxs 1 (.t 12) (.t 13)⟩,
  ⟨(some 15), none, .load 1 false (.t 14)⟩,
  ⟨(some 16), none, .mov (.t 1)⟩,
  ⟨(some 17), none, .bin .neq (.num) (.t 15) (.t 16)⟩]) (.cond (.t 17) (.seq (.reg [⟨(some 4), none, .mov (.c (.int .i64 (-1)))⟩]) (.ret)) (.skip))) (.reg [⟨(some 18), none, .mov (.t 1)⟩,
  ⟨(some 19), none, .bin .add (.num) (.t 18) (.c (.int .i64 1))⟩,
  ⟨(some 1), none, .mov (.t 19)⟩]))) (.reg [⟨(some 10), none, .mov (.t 5)⟩,
  ⟨(some 11), none, .bin .add (.num) (.t 10) (.c (.int .i64 1))⟩,
  ⟨(some 5), none, .mov (.t 11)⟩])))))) (.seq (.reg [⟨(some 20), none, .mov (.t 1)⟩,
  ⟨(some 4), none, .mov (.t 20)⟩]) (.ret)))
def laws_heldIntS_r : List RS := [.t 4]
def laws_heldIntS_s0 (t0 t1 t5 : AV) (loc : List (List AV)) (h : AH) : St := ⟨[t0, t1, .any, .any, .any, t5, .any, .any, .any, .any, .any, .any, .any, .any, .any, .any, .any, .any, .any, .any, .any], loc, h⟩
theorem laws_heldIntS_e {a0 a1 : AV} {h : AH} {K : AV → AH → Prop} (hw : TC Try.prog Θ Γ laws_heldIntS_c (retQ laws_heldIntS_r K) ⟨[a0, a1, u, u, u, u, u, u, u, u, u, u, u, u, u, u, u, u, u, u, u], [], h⟩) : T Try.prog Γ Fn.laws_heldIntS [a0, a1] h K :=
  T_of_body tabOK Try.func39 (code := bodyOf Try.f39) (by kernel_rfl) (by kernel_rfl) (by kernel_rfl) (by kernel_rfl) hw
def laws_markGiftS_c : C := .seq (.reg [⟨(some 4), none, .mov (.c (.int .i64 0))⟩]) (.seq (.seq (.reg [⟨(some 5), none, .mov (.c (.int .i64 0))⟩]) (.block 0 (.loop (.seq (.seq (.reg [⟨(some 6), none, .mov (.t 5)⟩,
  ⟨(some 7), none, .mov (.t 0)⟩,
  ⟨(some 8), none, .len false (.t 7)⟩,
  ⟨(some 9), none, .bin .lss (.num) (.t 6) (.t 8)⟩]) (.cond (.t 9) (.skip) (.exit 0))) (.seq (.block 1 (.seq (.reg [⟨(some 12), none, .mov (.t 0)⟩,
  ⟨(some 13), none, .mov (.t 5)⟩,
  ⟨(some 14), none, .mov (.t 1)⟩,
  ⟨(some 15), none, .idxs 4 (.t 12) (.t 13)⟩,
  ⟨(some 16), none, .fld 0 (.t 15)⟩,
  ⟨none, none, .store 1 (.t 16) (.t 14)⟩]) (.seq (.reg [⟨(some 17), none, .mov (.t 1)⟩,
  ⟨(some 18), none, .bin .add (.num) (.t 17) (.c (.int .i64 1))⟩,
  ⟨(some 1), none, .mov (.t 18)⟩]) (.seq (.reg [⟨(some 19), none, .mov (.t 0)⟩,
  ⟨(some 20), none, .mov (.t 5)⟩,
  ⟨(some 21), none, .mov (.t 1)⟩,
  ⟨(some 22), none, .idxs 4 (.t 19) (.t 20)⟩,
  ⟨(some 23), none, .fld 1 (.t 22)⟩,
  ⟨none, none, .store 1 (.t 23) (.t 21)⟩]) (.seq (.reg [⟨(some 24), none, .mov (.t 1)⟩,
  ⟨(some 25), none, .bin .add (.num) (.t 24) (.c (.int .i64 1))⟩,
  ⟨(some 1), none, .mov (.t 25)⟩]) (.seq (.reg [⟨(some 26), none, .mov (.t 0)⟩,
  ⟨(some 27), none, .mov (.t 5)⟩,
  ⟨(some 28), none, .mov (.t 1)⟩,
  ⟨(some 29), none, .idxs 4 (.t 26) (.t 27)⟩,
  ⟨(some 30), none, .fld 2 (.t 29)⟩,
  ⟨none, none, .store 1 (.t 30) (.t 28)⟩]) (.seq (.reg [⟨(some 31), none, .mov (.t 1)⟩,
  ⟨(some 32), none, .bin .add (.num) (.t 31) (.c (.int .i64 1))⟩,
  ⟨(some 1), none, .mov (.t 32)⟩]) (.seq (.reg [⟨(some 33), none, .mov (.t 0)⟩,
  ⟨(some 34), none, .mov (.t 5)⟩,
  ⟨(some 35), none, .mov (.t 1)⟩,
  ⟨(some 36), none, .idxs 4 (.t 33) (.t 34)⟩,
  ⟨(some 37), none, .fld 3 (.t 36)⟩,
  ⟨none, none, .store 1 (.t 37) (.t 35)⟩]) (.reg [⟨(some 38), none, .mov (.t 1)⟩,
  ⟨(some 39), none, .bin .add (.num) (.t 38) (.c (.int .i64 1))⟩,
  ⟨(some 1), none, .mov (.t 39)⟩]))))))))) (.reg [⟨(some 10), none, .mov (.t 5)⟩,
  ⟨(some 11), none, .bin .add (.num) (.t 10) (.c (.int .i64 1))⟩,
  ⟨(some 5), none, .mov (.t 11)⟩])))))) (.seq (.reg [⟨(some 40), none, .mov (.t 1)⟩,
  ⟨(some 4), none, .mov (.t 40)⟩]) (.ret)))
def laws_markGiftS_r : List RS := [.t 4]
def laws_markGiftS_s0 (t0 t1 t5 : AV) (loc : List (List AV)) (h : AH) : St := ⟨[t0, t1, .any, .any, .any, t5, .any, .any, .any, .any, .any, .any, .any, .any, .any, .any, .any, .any, .any, .any, .any, .any, .any, .any, .any, .any, .any, .any, .any, .any, .any, .any, .any, .any, .any, .any, .any, .any, .any, .any, .any], loc, h⟩
theorem laws_markGiftS_e {a0 a1 : AV} {h : AH} {K : AV → AH → Prop} (hw : TC Try.prog Θ Γ laws_markGiftS_c (retQ laws_markGiftS_r K) ⟨[a0, a1, u, u, u, u, u, u, u, u, u, u, u, u, u, u, u, u, u, u, u, u, u, u, u, u, u, u, u, u, u, u, u, u, u, u, u, u, u, u, u], [], h⟩) : T Try.prog Γ Fn.laws_markGiftS [a0, a1] h K :=
  T_of_body tabOK Try.func42 (code := bodyOf Try.f42) (by kernel_rfl) (by kernel_rfl) (by kernel_rfl) (by kernel_rfl) hw
def laws_heldGiftS_c : C := .seq (.reg [⟨(some 4), none, .mov (.c (.int .i64 0))⟩]) (.seq (.seq (.reg [⟨(some 5), none, .mov (.c (.int .i64 0))⟩]) (.block 0 (.loop (.seq (.seq (.reg [⟨(some 6), none, .mov (.t 5)⟩,
  ⟨(some 7), none, .mov (.t 0)⟩,
  ⟨(some 8), none, .len false (.t 7)⟩,
  ⟨(some 9), none, .bin .lss (.num) (.t 6) (.t 8)⟩]) (.cond (.t 9) (.skip) (.exit 0))) (.seq (.block 1 (.seq (.seq (.reg [⟨(some 12), none, .mov (.t 0)⟩,
  ⟨(some 13), none, .mov (.t 5)⟩,
  ⟨(some 14), none, .idxs 4 (.t 12) (.t 13)⟩,
  ⟨(some 15), none, .fld 0 (.t 14)⟩,
  ⟨(some 16), none, .load 1 false (.t 15)⟩,
  ⟨(some 17), none, .mov (.t 1)⟩,
  ⟨(some 18), none, .bin .neq (.num) (.t 16) (.t 17)⟩]) (.cond (.t 18) (.seq (.reg [⟨(some 4), none, .mov (.c (.int .i64 (-1)))⟩]) (.ret)) (.skip))) (.seq (.reg [⟨(some 19), none, .mov (.t 1)⟩,
  ⟨(some 20), none, .bin .add (.num) (.t 19) (.c (.int .i64 1))⟩,
  ⟨(some 1), none, .mov (.t 20)⟩]) (.seq (.seq (.reg [⟨(some 21), none, .mov (.t 0)⟩,
  ⟨(some 22), none, .mov (.t 5)⟩,
  ⟨(some 23), none, .idxs 4 (.t 21) (.t 22)⟩,
  ⟨(some 24), none, .fld 1 (.t 23)⟩,
  ⟨(some 25), none, .load 1 false (.t 24)⟩,
  ⟨(some 26), none, .mov (.t 1)⟩,
  ⟨(some 27), none, .bin .neq (.num) (.t 25) (.t 26)⟩]) (.cond (.t 27) (.seq (.reg [⟨(some 4), none, .mov (.c (.int .i64 (-1)))⟩]) (.ret)) (.skip))) (.seq (.reg [⟨(some 28), none, .mov (.t 1)⟩,
  ⟨(some 29), none, .bin .add (.num) (.t 28) (.c (.int .i64 1))⟩,
  ⟨(some 1), none, .mov (.t 29)⟩]) (.seq (.seq (.reg [⟨(some 30), none, .mov (.t 0)⟩,
  ⟨(some 31), none, .mov (.t 5)⟩,
  ⟨(some 32), none, .idxs 4 (.t 30) (.t 31)⟩,
  ⟨(some 33), none, .fld 2 (.t 32)⟩,
  ⟨(some 34), none, .load 1 false (.t 33)⟩,
  ⟨(some 35), none, .mov (.t 1)⟩,
  ⟨(some 36), none, .bin .neq (.num) (.t 34) (.t 35)⟩]) (.cond (.t 36) (.seq (.reg [⟨(some 4), none, .mov (.c (.int .i64 (-1)))⟩]) (.ret)) (.skip))) (.seq (.reg [⟨(some 37), none, .mov (.t 1)⟩,
  ⟨(some 38), none, .bin .add (.num) (.t 37) (.c (.int .i64 1))⟩,
  ⟨(some 1), none, .mov (.t 38)⟩]) (.seq (.seq (.reg [⟨(some 39), none, .mov (.t 0)⟩,
  ⟨(some 40), none, .mov (.t 5)⟩,
  ⟨(some 41), none, .idxs 4 (.t 39) (.t 40)⟩,
  ⟨(some 42), none, .fld 3 (.t 41)⟩,
  ⟨(some 43), none, .load 1 false (.t 42)⟩,
  ⟨(some 44), none, .mov (.t 1)⟩,
  ⟨(some 45), none, .bin .neq (.num) (.t 43) (.t 44)⟩]) (.cond (.t 45) (.seq (.reg [⟨(some 4), none, .mov (.c (.int .i64 (-1)))⟩]) (.ret)) (.skip))) (.reg [⟨(some 46), none, .mov (.t 1)⟩,
  ⟨(some 47), none, .bin .add (.num) (.t 46) (.c (.int .i64 1))⟩,
  ⟨(some 1), none, .mov (.t 47)⟩]))))))))) (.reg [⟨(some 10), none, .mov (.t 5)⟩,
  ⟨(some 11), none, .bin .add (.num) (.t 10) (.c (.int .i64 1))⟩,
  ⟨(some 5), none, .mov (.t 11)⟩])))))) (.seq (.reg [⟨(some 48), none, .mov (.t 1)⟩,
  ⟨(some 4), none, .mov (.t 48)⟩]) (.ret)))
def laws_heldGiftS_r : List RS := [.t 4]
def laws_heldGiftS_s0 (t0 t1 t5 : AV) (loc : List (List AV)) (h : AH) : St := ⟨[t0, t1, .any, .any, .any, t5, .any, .any, .any, .any, .any, .any, .any, .any, .any, .any, .any, .any, .any, .any, .any, .any, .any, .any, .any, .any, .any, .any, .any, .any, .any, .any, .any, .any, .any, .any, .any, .any, .any, .any, .any, .any, .any, .any, .any, .any, .any, .any, .any], loc, h⟩
theorem laws_heldGiftS_e {a0 a1 : AV} {h : AH} {K : AV → AH → Prop} (hw : TC Try.prog Θ Γ laws_heldGiftS_c (retQ laws_heldGiftS_r K) ⟨[a0, a1, u, u, u, u, u, u, u, u, u, u, u, u, u, u, u, u, u, u, u, u, u, u, u, u, u, u, u, u, u, u, u, u, u, u, u, u, u, u, u, u, u, u, u, u, u, u, u], [], h⟩) : T Try.prog Γ Fn.laws_heldGiftS [a0, a1] h K :=
  T_of_body tabOK Try.func43 (code := bodyOf Try.f43) (by kernel_rfl) (by kernel_rfl) (by kernel_rfl) (by kernel_rfl) hw
def laws_big_c : C := .seq (.reg [⟨(some 2), none, .mov (.c (.bool false))⟩]) (.seq (.reg [⟨(some 3), none, .mov (.t 0)⟩,
  ⟨(some 4), none, .len false (.t 3)⟩,
  ⟨(some 5), none, .bin .gtr (.num) (.t 4) (.c (.int .i64 1048576))⟩,
  ⟨(some 2), none, .mov (.t 5)⟩]) (.ret))
def laws_big_r : List RS := [.t 2]
theorem laws_big_e {a0 : AV} {h : AH} {K : AV → AH → Prop} (hw : TC Try.prog Θ Γ laws_big_c (retQ laws_big_r K) ⟨[a0, u, u, u, u, u], [], h⟩) : T Try.prog Γ Fn.laws_big [a0] h K :=
  T_of_body tabOK Try.func44 (code := bodyOf Try.f44) (by kernel_rfl) (by kernel_rfl) (by kernel_rfl) (by kernel_rfl) hw
def spec_DrawKeyedHash_c : C := .seq (.reg [⟨(some 2), none, .mov (.c (.int .i64 0))⟩,
  ⟨(some 3), none, .mov (.c (.nils))⟩]) (.seq (.reg [⟨(some 6), none, .mov (.t 0)⟩,
  ⟨(some 7), none, .call (.c (.fn Fn.spec_l1New [] [])) [.t 6]⟩,
  ⟨(some 4), none, .mov (.t 7)⟩]) (.seq (.reg [⟨(some 8), none, .mov (.t 4)⟩,
  ⟨(some 9), none, .call (.c (.fn Fn.spec_l3Word [] [])) [.t 8]⟩,
  ⟨(some 5), none, .mov (.t 9)⟩]) (.seq (.reg [⟨(some 10), none, .mov (.t 5)⟩,
  ⟨(some 11), none, .mov (.t 4)⟩,
  ⟨(some 12), none, .call (.c (.fn Fn.spec_l3Words [] [])) [.t 11]⟩,
  ⟨(some 2), none, .mov (.t 10)⟩,
  ⟨(some 3), none, .mov (.t 12)⟩]) (.ret))))
def spec_DrawKeyedHash_r : List RS := [.t 2, .t 3]
theorem spec_DrawKeyedHash_e {a0 : AV} {h : AH} {K : AV → AH → Prop} (hw : TC Try.prog Θ Γ spec_DrawKeyedHash_c (retQ spec_DrawKeyedHash_r K) ⟨[a0, u, u, u, u, u, u, u, u, u, u, u, u], [], h⟩) : T Try.prog Γ Fn.spec_DrawKeyedHash [a0] h K :=
  T_of_body tabOK Try.func45 (code := bodyOf Try.f45) (by kernel_rfl) (by kernel_rfl) (by kernel_rfl) (by kernel_rfl) hw
def impl_KeyedHash_c : C := .seq (.reg [⟨(some 4), none, .mov (.c (.int .i64 0))⟩]) (.seq (.reg [⟨(some 5), none, .mov (.t 0)⟩,
  ⟨(some 6), none, .bsl 1 1 [.int .i64 0] [(0, .t 5)]⟩,
  ⟨(some 7), none, .mov (.t 1)⟩,
  ⟨(some 8), none, .mov (.t 0)⟩,
  ⟨(some 9), none, .bsl 1 1 [.int .i64 0] [(0, .t 8)]⟩,
  ⟨(some 10), none, .bsl 1 3 [.nils] [(0, .t 6), (1, .t 7), (2, .t 9)]⟩,
  ⟨(some 11), none, .call (.c (.fn Fn.slices_Concat_iint_int [] [])) [.t 10]⟩,
  ⟨(some 12), none, .call (.c (.fn Fn.impl_Hash [] [])) [.t 11]⟩,
  ⟨(some 4), none, .mov (.t 12)⟩]) (.ret))
def impl_KeyedHash_r : List RS := [.t 4]
theorem impl_KeyedHash_e {a0 a1 : AV} {h : AH} {K : AV → AH → Prop} (hw : TC Try.prog Θ Γ impl_KeyedHash_c (retQ impl_KeyedHash_r K) ⟨[a0, a1, u, u, u, u, u, u, u, u, u, u, u], [], h⟩) : T Try.prog Γ Fn.impl_KeyedHash [a0, a1] h K :=
  T_of_body tabOK Try.func46 (code := bodyOf Try.f46) (by kernel_rfl) (by kernel_rfl) (by kernel_rfl) (by kernel_rfl) hw
def impl_Hash_c : C := .seq (.reg [⟨(some 2), none, .mov (.c (.int .i64 0))⟩]) (.seq (.reg [⟨(some 3), none, .mov (.c (.int .i64 11))⟩]) (.seq (.seq (.reg [⟨(some 6), none, .mov (.t 0)⟩,
  ⟨(some 7), none, .len false (.t 6)⟩,
  ⟨(some 8), none, .mov (.c (.int .i64 0))⟩]) (.block 0 (.loop (.seq (.reg [⟨(some 9), none, .bin .lss (.num) (.t 8) (.t 7)⟩]) (.seq (.cond (.t 9) (.skip) (.exit 0)) (.seq (.block 1 (.seq (.reg [⟨(some 10), none, .idxs 1 (.t 6) (.t 8)⟩,
  ⟨(some 11), none, .load 1 false (.t 10)⟩,
  ⟨(some 5), none, .mov (.t 11)⟩]) (.reg [⟨(some 12), none, .mov (.t 3)⟩,
  ⟨(some 13), none, .bin .mul (.num) (.t 12) (.c (.int .i64 1000003))⟩,
  ⟨(some 14), none, .mov (.t 5)⟩,
  ⟨(some 15), none, .call (.c (.fn Fn.impl_Mod [] [])) [.t 14, .c (.int .i64 2147483647)]⟩,
  ⟨(some 16), none, .bin .add (.num) (.t 13) (.t 15)⟩,
  ⟨(some 17), none, .bin .add (.num) (.t 16) (.c (.int .i64 13))⟩,
  ⟨(some 18), none, .bin .rem (.num) (.t 17) (.c (.int .i64 2147483647))⟩,
  ⟨(some 3), none, .mov (.t 18)⟩]))) (.reg [⟨(some 19), none, .bin .add (.num) (.t 8) (.c (.int .i64 1))⟩,
  ⟨(some 8), none, .mov (.t 19)⟩]))))))) (.seq (.reg [⟨(some 20), none, .mov (.t 3)⟩,
  ⟨(some 2), none, .mov (.t 20)⟩]) (.ret))))
def impl_Hash_r : List RS := [.t 2]
def impl_Hash_s0 (t3 t6 t7 t8 : AV) (loc : List (List AV)) (h : AH) : St := ⟨[.any, .any, .any, t3, .any, .any, t6, t7, t8, .any, .any, .any, .any, .any, .any, .any, .any, .any, .any, .any, .any], loc, h⟩
theorem impl_Hash_e {a0 : AV} {h : AH} {K : AV → AH → Prop} (hw : TC Try.prog Θ Γ impl_Hash_c (retQ impl_Hash_r K) ⟨[a0, u, u, u, u, u, u, u, u, u, u, u, u, u, u, u, u, u, u, u, u], [], h⟩) : T Try.prog Γ Fn.impl_Hash [a0] h K :=
  T_of_body tabOK Try.func47 (code := bodyOf Try.f47) (by kernel_rfl) (by kernel_rfl) (by kernel_rfl) (by kernel_rfl) hw
def laws_at_c : C := .seq (.reg [⟨(some 4), none, .mov (.c (.int .i64 0))⟩]) (.seq (.seq (.reg [⟨(some 5), none, .mov (.t 1)⟩,
  ⟨(some 6), none, .mov (.t 0)⟩,
  ⟨(some 7), none, .len false (.t 6)⟩,
  ⟨(some 8), none, .bin .lss (.num) (.t 5) (.t 7)⟩]) (.cond (.t 8) (.seq (.reg [⟨(some 9), none, .mov (.t 0)⟩,
  ⟨(some 10), none, .mov (.t 1)⟩,
  ⟨(some 11), none, .idxs 1 (.t 9) (.t 10)⟩,
  ⟨(some 12), none, .load 1 false (.t 11)⟩,
  ⟨(some 13), none, .cvi .i64 (.t 12)⟩,
  ⟨(some 4), none, .mov (.t 13)⟩]) (.ret)) (.skip))) (.seq (.reg [⟨(some 14), none, .mov (.t 1)⟩,
  ⟨(some 15), none, .bin .mul (.num) (.t 14) (.c (.int .i64 31))⟩,
  ⟨(some 16), none, .mov (.t 0)⟩,
  ⟨(some 17), none, .len false (.t 16)⟩,
  ⟨(some 18), none, .bin .mul (.num) (.t 17) (.c (.int .i64 7))⟩,
  ⟨(some 19), none, .bin .add (.num) (.t 15) (.t 18)⟩,
  ⟨(some 20), none, .bin .rem (.num) (.t 19) (.c (.int .i64 256))⟩,
  ⟨(some 4), none, .mov (.t 20)⟩]) (.ret)))
def laws_at_r : List RS := [.t 4]
theorem laws_at_e {a0 a1 : AV} {h : AH} {K : AV → AH → Prop} (hw : TC Try.prog Θ Γ laws_at_c (retQ laws_at_r K) ⟨[a0, a1, u, u, u, u, u, u, u, u, u, u, u, u, u, u, u, u, u, u, u], [], h⟩) : T Try.prog Γ Fn.laws_at [a0, a1] h K :=
  T_of_body tabOK Try.func48 (code := bodyOf Try.f48) (by kernel_rfl) (by kernel_rfl) (by kernel_rfl) (by kernel_rfl) hw
def spec_Mod_c : C := .seq (.reg [⟨(some 4), none, .mov (.c (.int .i64 0))⟩]) (.seq (.seq (.reg [⟨(some 5), none, .mov (.t 1)⟩,
  ⟨(some 6), none, .call (.c (.fn Fn.spec_l1In [] [])) [.t 5, .c (.int .i64 1), .c (.int .i64 1000000000000)]⟩,
  ⟨(some 7), none, .un .not (.t 6)⟩]) (.cond (.t 7) (.seq (.reg [⟨(some 4), none, .mov (.c (.int .i64 0))⟩]) (.ret)) (.skip))) (.seq (.reg [⟨(some 8), none, .mov (.t 0)⟩,
  ⟨(some 9), none, .mov (.t 1)⟩,
  ⟨(some 10), none, .bin .rem (.num) (.t 8) (.t 9)⟩,
  ⟨(some 11), none, .mov (.t 1)⟩,
  ⟨(some 12), none, .bin .add (.num) (.t 10) (.t 11)⟩,
  ⟨(some 13), none, .mov (.t 1)⟩,
  ⟨(some 14), none, .bin .rem (.num) (.t 12) (.t 13)⟩,
  ⟨(some 4), none, .mov (.t 14)⟩]) (.ret)))
def spec_Mod_r : List RS := [.t 4]
theorem spec_Mod_e {a0 a1 : AV} {h : AH} {K : AV → AH → Prop} (hw : TC Try.prog Θ Γ spec_Mod_c (retQ spec_Mod_r K) ⟨[a0, a1, u, u, u, u, u, u, u, u, u, u, u, u, u], [], h⟩) : T Try.prog Γ Fn.spec_Mod [a0, a1] h K :=
  T_of_body tabOK Try.func49 (code := bodyOf Try.f49) (by kernel_rfl) (by kernel_rfl) (by kernel_rfl) (by kernel_rfl) hw
def spec_DrawDeriveFromString_c : C := .seq (.reg [⟨(some 2), none, .mov (.c (.int .i64 0))⟩,
  ⟨(some 3), none, .mov (.c (.str ⟨#[]⟩))⟩]) (.seq (.reg [⟨(some 6), none, .mov (.t 0)⟩,
  ⟨(some 7), none, .call (.c (.fn Fn.spec_l1New [] [])) [.t 6]⟩,
  ⟨(some 4), none, .mov (.t 7)⟩]) (.seq (.reg [⟨(some 8), none, .mov (.t 4)⟩,
  ⟨(some 9), none, .call (.c (.fn Fn.spec_l3Word [] [])) [.t 8]⟩,
  ⟨(some 5), none, .mov (.t 9)⟩]) (.seq (.reg [⟨(some 10), none, .mov (.t 5)⟩,
  ⟨(some 11), none, .mov (.t 4)⟩,
  ⟨(some 12), none, .bsl 1 6 [.str ⟨#[]⟩] [(0, .c (.str ⟨#[]⟩)), (1, .c (.str ⟨#[97]⟩)), (2, .c (.str ⟨#[98]⟩)), (3, .c (.str ⟨#[97, 98]⟩)), (4, .c (.str ⟨#[110, 101, 119, 115]⟩)), (5, .c (.str ⟨#[120]⟩))]⟩,
  ⟨(some 13), none, .call (.c (.fn Fn.spec_l1Str [] [])) [.t 11, .t 12]⟩,
  ⟨(some 2), none, .mov (.t 10)⟩,
  ⟨(some 3), none, .mov (.t 13)⟩]) (.ret))))
def spec_DrawDeriveFromString_r : List RS := [.t 2, .t 3]
theorem spec_DrawDeriveFromString_e {a0 : AV} {h : AH} {K : AV → AH → Prop} (hw : TC Try.prog Θ Γ spec_DrawDeriveFromString_c (retQ spec_DrawDeriveFromString_r K) ⟨[a0, u, u, u, u, u, u, u, u, u, u, u, u, u], [], h⟩) : T Try.prog Γ Fn.spec_DrawDeriveFromString [a0] h K :=
  T_of_body tabOK Try.func50 (code := bodyOf Try.f50) (by kernel_rfl) (by kernel_rfl) (by kernel_rfl) (by kernel_rfl) hw
def spec_DrawAppendBytes_c : C := .seq (.reg [⟨(some 2), none, .mov (.c (.nils))⟩,
  ⟨(some 3), none, .mov (.c (.nils))⟩]) (.seq (.reg [⟨(some 5), none, .mov (.t 0)⟩,
  ⟨(some 6), none, .call (.c (.fn Fn.spec_l1New [] [])) [.t 5]⟩,
  ⟨(some 4), none, .mov (.t 6)⟩]) (.seq (.reg [⟨(some 7), none, .mov (.t 4)⟩,
  ⟨(some 8), none, .mov (.t 4)⟩,
  ⟨(some 9), none, .call (.c (.fn Fn.spec_l1Below [] [])) [.t 8, .c (.int .i64 3)]⟩,
  ⟨(some 10), none, .call (.c (.fn Fn.spec_l1Bytes [] [])) [.t 7, .t 9]⟩,
  ⟨(some 11), none, .mov (.t 4)⟩,
  ⟨(some 12), none, .mov (.t 4)⟩,
  ⟨(some 13), none, .call (.c (.fn Fn.spec_l1Below [] [])) [.t 12, .c (.int .i64 6)]⟩,
  ⟨(some 14), none, .call (.c (.fn Fn.spec_l1Bytes [] [])) [.t 11, .t 13]⟩,
  ⟨(some 2), none, .mov (.t 10)⟩,
  ⟨(some 3), none, .mov (.t 14)⟩]) (.ret)))
def spec_DrawAppendBytes_r : List RS := [.t 2, .t 3]
theorem spec_DrawAppendBytes_e {a0 : AV} {h : AH} {K : AV → AH → Prop} (hw : TC Try.prog Θ Γ spec_DrawAppendBytes_c (retQ spec_DrawAppendBytes_r K) ⟨[a0, u, u, u, u, u, u, u, u, u, u, u, u, u, u], [], h⟩) : T Try.prog Γ Fn.spec_DrawAppendBytes [a0] h K :=
  T_of_body tabOK Try.func53 (code := bodyOf Try.f53) (by kernel_rfl) (by kernel_rfl) (by kernel_rfl) (by kernel_rfl) hw
def impl_AppendBytes_c : C := .seq (.reg [⟨(some 4), none, .mov (.c (.nils))⟩]) (.seq (.reg [⟨(some 5), none, .mov (.t 0)⟩,
  ⟨(some 6), none, .mov (.t 1)⟩,
  ⟨(some 7), none, .len false (.t 6)⟩,
  ⟨(some 8), none, .call (.c (.fn Fn.impl_AppendUvarint [] [])) [.t 5, .t 7]⟩,
  ⟨(some 9), none, .mov (.t 1)⟩,
  ⟨(some 10), none, .app 1 1 [.int .u8 0] false (.t 8) (.t 9)⟩,
  ⟨(some 4), none, .mov (.t 10)⟩]) (.ret))
def impl_AppendBytes_r : List RS := [.t 4]
theorem impl_AppendBytes_e {a0 a1 : AV} {h : AH} {K : AV → AH → Prop} (hw : TC Try.prog Θ Γ impl_AppendBytes_c (retQ impl_AppendBytes_r K) ⟨[a0, a1, u, u, u, u, u, u, u, u, u], [], h⟩) : T Try.prog Γ Fn.impl_AppendBytes [a0, a1] h K :=
  T_of_body tabOK Try.func54 (code := bodyOf Try.f54) (by kernel_rfl) (by kernel_rfl) (by kernel_rfl) (by kernel_rfl) hw
def impl_ReadBytes_c : C := .seq (.reg [⟨(some 6), none, .mov (.c (.nils))⟩,
  ⟨(some 7), none, .mov (.c (.int .i64 0))⟩,
  ⟨(some 8), none, .mov (.c (.bool false))⟩]) (.seq (.reg [⟨(some 13), none, .mov (.t 0)⟩,
  ⟨(some 14), none, .mov (.t 1)⟩,
  ⟨(some 15), none, .call (.c (.fn Fn.impl_ReadUvarint [] [])) [.t 13, .t 14]⟩,
  ⟨(some 12), none, .mov (.t 15)⟩,
  ⟨(some 16), none, .extr (.t 12) 0⟩,
  ⟨(some 17), none, .extr (.t 12) 1⟩,
  ⟨(some 18), none, .extr (.t 12) 2⟩,
  ⟨(some 9), none, .mov (.t 16)⟩,
  ⟨(some 10), none, .mov (.t 17)⟩,
  ⟨(some 11), none, .mov (.t 18)⟩]) (.seq (.seq (.reg [⟨(some 19), none, .mov (.t 11)⟩,
  ⟨(some 20), none, .un .not (.t 19)⟩,
  ⟨(some 21), none, .mov (.t 20)⟩,
  ⟨(some 22), (some (2, false)), .mov (.t 9)⟩,
  ⟨(some 23), (some (2, false)), .mov (.t 2)⟩,
  ⟨(some 24), (some (2, false)), .bin .gtr (.num) (.t 22) (.t 23)⟩,
  ⟨(some 25), none, .pick (.t 21) (.c (.bool true)) (.t 24)⟩,
  ⟨(some 26), none, .mov (.t 25)⟩,
  ⟨(some 27), (some (7, false)), .mov (.t 9)⟩,
  ⟨(some 28), (some (7, false)), .mov (.t 0)⟩,
  ⟨(some 29), (some (7, false)), .len false (.t 28)⟩,
  ⟨(some 30), (some (7, false)), .mov (.t 10)⟩,
  ⟨(some 31), (some (7, false)), .bin .sub (.num) (.t 29) (.t 30)⟩,
  ⟨(some 32), (some (7, false)), .bin .gtr (.num) (.t 27) (.t 31)⟩,
  ⟨(some 33), none, .pick (.t 26) (.c (.bool true)) (.t 32)⟩]) (.cond (.t 33) (.seq (.reg [⟨(some 6), none, .mov (.c (.nils))⟩,
  ⟨(some 7), none, .mov (.c (.int .i64 0))⟩,
  ⟨(some 8), none, .mov (.c (.bool false))⟩]) (.ret)) (.skip))) (.seq (.reg [⟨(some 34), none, .mov (.t 0)⟩,
  ⟨(some 35), none, .mov (.t 10)⟩,
  ⟨(some 36), none, .mov (.t 10)⟩,
  ⟨(some 37), none, .mov (.t 9)⟩,
  ⟨(some 38), none, .bin .add (.num) (.t 36) (.t 37)⟩,
  ⟨(some 39), none, .slice (.sl 1) (.t 34) (some (.t 35)) (some (.t 38)) none⟩,
  ⟨(some 40), none, .call (.c (.fn Fn.slices_Clone_ibyte_byte [] [])) [.t 39]⟩,
  ⟨(some 41), none, .mov (.t 10)⟩,
  ⟨(some 42), none, .mov (.t 9)⟩,
  ⟨(some 43), none, .bin .add (.num) (.t 41) (.t 42)⟩,
  ⟨(some 6), none, .mov (.t 40)⟩,
  ⟨(some 7), none, .mov (.t 43)⟩,
  ⟨(some 8), none, .mov (.c (.bool true))⟩]) (.ret))))
def impl_ReadBytes_r : List RS := [.t 6, .t 7, .t 8]
theorem impl_ReadBytes_e {a0 a1 a2 : AV} {h : AH} {K : AV → AH → Prop} (hw : TC Try.prog Θ Γ impl_ReadBytes_c (retQ impl_ReadBytes_r K) ⟨[a0, a1, a2, u, u, u, u, u, u, u, u, u, u, u, u, u, u, u, u, u, u, u, u, u, u, u, u, u, u, u, u, u, u, u, u, u, u, u, u, u, u, u, u, u], [], h⟩) : T Try.prog Γ Fn.impl_ReadBytes [a0, a1, a2] h K :=
  T_of_body tabOK Try.func55 (code := bodyOf Try.f55) (by kernel_rfl) (by kernel_rfl) (by kernel_rfl) (by kernel_rfl) hw
def laws_sameBytes_d0_os : List O := [⟨(some 17), none, .mov (.t 0)⟩,
  ⟨(some 18), none, .mov (.t 5)⟩,
  ⟨(some 19), none, .idxs 1 (.t 17) (.t 18)⟩,
  ⟨(some 20), none, .load 1 false (.t 19)⟩,
  ⟨(some 21), none, .mov (.t 1)⟩,
  ⟨(some 22), none, .mov (.t 5)⟩,
  ⟨(some 23), none, .idxs 1 (.t 21) (.t 22)⟩,
  ⟨(some 24), none, .load 1 false (.t 23)⟩,
  ⟨(some 25), none, .bin .neq (.num) (.t 20) (.t 24)⟩]
def laws_sameBytes_d0_af : List (List Nat) := [[], [], [0, 1], [2], [], [], [4, 5], [6], [3, 7]]
theorem laws_sameBytes_d0_q (gl : Gl) (Q : AE → St → Prop) (s : St) : aw Try.prog Θ Γ gl (.regD laws_sameBytes_d0_os laws_sameBytes_d0_af) Q s = awpOps Try.prog Γ gl [⟨(some 17), none, .mov (.t 0)⟩,
  ⟨(some 18), none, .mov (.t 5)⟩,
  ⟨(some 19), none, .idxs 1 (.t 17) (.t 18)⟩,
  ⟨(some 20), none, .load 1 false (.t 19)⟩,
  ⟨(some 21), none, .mov (.t 1)⟩,
  ⟨(some 22), none, .mov (.t 5)⟩,
  ⟨(some 23), none, .idxs 1 (.t 21) (.t 22)⟩,
  ⟨(some 24), none, .load 1 false (.t 23)⟩,
  ⟨(some 25), none, .bin .neq (.num) (.t 20) (.t 24)⟩] [⟨(some 17), none, .mov (.t 0)⟩,
  ⟨(some 18), none, .mov (.t 5)⟩,
  ⟨(some 19), none, .idxs 1 (.t 17) (.t 18)⟩,
  ⟨(some 20), none, .load 1 false (.t 19)⟩,
  ⟨(some 21), none, .mov (.t 1)⟩,
  ⟨(some 22), none, .mov (.t 5)⟩,
  ⟨(some 23), none, .idxs 1 (.t 21) (.t 22)⟩,
  ⟨(some 24), none, .load 1 false (.t 23)⟩,
  ⟨(some 25), none, .bin .neq (.num) (.t 20) (.t 24)⟩] (Q .normal) s := a_dq (by kernel_rfl) gl Q s
def laws_sameBytes_c : C := .seq (.reg [⟨(some 4), none, .mov (.c (.bool false))⟩]) (.seq (.seq (.reg [⟨(some 6), none, .mov (.t 0)⟩,
  ⟨(some 7), none, .len false (.t 6)⟩,
  ⟨(some 8), none, .mov (.t 1)⟩,
  ⟨(some 9), none, .len false (.t 8)⟩,
  ⟨(some 10), none, .bin .neq (.num) (.t 7) (.t 9)⟩]) (.cond (.t 10) (.seq (.reg [⟨(some 4), none, .mov (.c (.bool false))⟩]) (.ret)) (.skip))) (.seq (.seq (.reg [⟨(some 5), none, .mov (.c (.int .i64 0))⟩]) (.block 0 (.loop (.seq (.seq (.reg [⟨(some 11), none, .mov (.t 5)⟩,
  ⟨(some 12), none, .mov (.t 0)⟩,
  ⟨(some 13), none, .len false (.t 12)⟩,
  ⟨(some 14), none, .bin .lss (.num) (.t 11) (.t 13)⟩]) (.cond (.t 14) (.skip) (.exit 0))) (.seq (.block 1 (.seq (.regD laws_sameBytes_d0_os laws_sameBytes_d0_af) (.cond (.t 25) (.seq (.reg [⟨(some 4), none, .mov (.c (.bool false))⟩]) (.ret)) (.skip)))) (.reg [⟨(some 15), none, .mov (.t 5)⟩,
  ⟨(some 16), none, .bin .add (.num) (.t 15) (.c (.int .i64 1))⟩,
  ⟨(some 5), none, .mov (.t 16)⟩])))))) (.seq (.reg [⟨(some 4), none, .mov (.c (.bool true))⟩]) (.ret))))
def laws_sameBytes_r : List RS := [.t 4]
def laws_sameBytes_s0 (t0 t1 t5 : AV) (loc : List (List AV)) (h : AH) : St := ⟨[t0, t1, .any, .any, .any, t5, .any, .any, .any, .any, .any, .any, .any, .any, .any, .any, .any, .any, .any, .any, .any, .any, .any, .any, .any, .any], loc, h⟩
theorem laws_sameBytes_e {a0 a1 : AV} {h : AH} {K : AV → AH → Prop} (hw : TC Try.prog Θ Γ laws_sameBytes_c (retQ laws_sameBytes_r K) ⟨[a0, a1, u, u, u, u, u, u, u, u, u, u, u, u, u, u, u, u, u, u, u, u, u, u, u, u], [], h⟩) : T Try.prog Γ Fn.laws_sameBytes [a0, a1] h K :=
  T_of_body tabOK Try.func56 (code := bodyOf Try.f56) (by kernel_rfl) (by kernel_rfl) (by kernel_rfl) (by kernel_rfl) hw
def impl_EncodeInts_c : C := .seq (.reg [⟨(some 2), none, .mov (.c (.nils))⟩]) (.seq (.reg [⟨(some 6), none, .bsl 1 0 [.int .u8 0] []⟩,
  ⟨(some 3), none, .mov (.t 6)⟩]) (.seq (.seq (.reg [⟨(some 7), none, .mov (.t 0)⟩,
  ⟨(some 8), none, .len false (.t 7)⟩,
  ⟨(some 9), none, .mov (.c (.int .i64 0))⟩]) (.block 0 (.loop (.seq (.reg [⟨(some 10), none, .bin .lss (.num) (.t 9) (.t 8)⟩]) (.seq (.cond (.t 10) (.skip) (.exit 0)) (.seq (.block 1 (.seq (.reg [⟨(some 11), none, .idxs 1 (.t 7) (.t 9)⟩,
  ⟨(some 12), none, .load 1 false (.t 11)⟩,
  ⟨(some 5), none, .mov (.t 12)⟩]) (.reg [⟨(some 13), none, .mov (.t 3)⟩,
  ⟨(some 14), none, .mov (.t 5)⟩,
  ⟨(some 15), none, .call (.c (.fn Fn.impl_AppendUvarint [] [])) [.t 13, .t 14]⟩,
  ⟨(some 3), none, .mov (.t 15)⟩]))) (.reg [⟨(some 16), none, .bin .add (.num) (.t 9) (.c (.int .i64 1))⟩,
  ⟨(some 9), none, .mov (.t 16)⟩]))))))) (.seq (.reg [⟨(some 17), none, .mov (.t 3)⟩,
  ⟨(some 2), none, .mov (.t 17)⟩]) (.ret))))
def impl_EncodeInts_r : List RS := [.t 2]
def impl_EncodeInts_s0 (t3 t7 t8 t9 : AV) (loc : List (List AV)) (h : AH) : St := ⟨[.any, .any, .any, t3, .any, .any, .any, t7, t8, t9, .any, .any, .any, .any, .any, .any, .any, .any], loc, h⟩
theorem impl_EncodeInts_e {a0 : AV} {h : AH} {K : AV → AH → Prop} (hw : TC Try.prog Θ Γ impl_EncodeInts_c (retQ impl_EncodeInts_r K) ⟨[a0, u, u, u, u, u, u, u, u, u, u, u, u, u, u, u, u, u], [], h⟩) : T Try.prog Γ Fn.impl_EncodeInts [a0] h K :=
  T_of_body tabOK Try.func57 (code := bodyOf Try.f57) (by kernel_rfl) (by kernel_rfl) (by kernel_rfl) (by kernel_rfl) hw
def impl_DecodeInts_c : C := .seq (.reg [⟨(some 6), none, .mov (.c (.nils))⟩,
  ⟨(some 7), none, .mov (.c (.int .i64 0))⟩,
  ⟨(some 8), none, .mov (.c (.bool false))⟩]) (.seq (.seq (.reg [⟨(some 13), none, .mov (.t 2)⟩,
  ⟨(some 14), none, .call (.c (.fn Fn.impl_in [] [])) [.t 13, .c (.int .i64 0), .c (.int .i64 100)]⟩,
  ⟨(some 15), none, .un .not (.t 14)⟩,
  ⟨(some 16), none, .mov (.t 15)⟩,
  ⟨(some 17), (some (3, false)), .mov (.t 1)⟩,
  ⟨(some 18), (some (3, false)), .mov (.t 0)⟩,
  ⟨(some 19), (some (3, false)), .len false (.t 18)⟩,
  ⟨(some 20), (some (3, false)), .call (.c (.fn Fn.impl_in [] [])) [.t 17, .c (.int .i64 0), .t 19]⟩,
  ⟨(some 21), (some (3, false)), .un .not (.t 20)⟩,
  ⟨(some 22), none, .pick (.t 16) (.c (.bool true)) (.t 21)⟩]) (.cond (.t 22) (.seq (.reg [⟨(some 6), none, .mov (.c (.nils))⟩,
  ⟨(some 7), none, .mov (.c (.int .i64 0))⟩,
  ⟨(some 8), none, .mov (.c (.bool false))⟩]) (.ret)) (.skip))) (.seq (.reg [⟨(some 23), none, .bsl 1 0 [.int .i64 0] []⟩,
  ⟨(some 9), none, .mov (.t 23)⟩]) (.seq (.seq (.reg [⟨(some 24), none, .mov (.t 2)⟩,
  ⟨(some 25), none, .mov (.c (.int .i64 0))⟩]) (.block 0 (.loop (.seq (.reg [⟨(some 26), none, .bin .lss (.num) (.t 25) (.t 24)⟩]) (.seq (.cond (.t 26) (.skip) (.exit 0)) (.seq (.block 1 (.seq (.reg [⟨(some 28), none, .mov (.t 0)⟩,
  ⟨(some 29), none, .mov (.t 1)⟩,
  ⟨(some 30), none, .call (.c (.fn Fn.impl_ReadUvarint [] [])) [.t 28, .t 29]⟩,
  ⟨(some 27), none, .mov (.t 30)⟩,
  ⟨(some 31), none, .extr (.t 27) 0⟩,
  ⟨(some 32), none, .extr (.t 27) 1⟩,
  ⟨(some 33), none, .extr (.t 27) 2⟩,
  ⟨(some 10), none, .mov (.t 31)⟩,
  ⟨(some 11), none, .mov (.t 32)⟩,
  ⟨(some 12), none, .mov (.t 33)⟩]) (.seq (.seq (.reg [⟨(some 34), none, .mov (.t 12)⟩,
  ⟨(some 35), none, .un .not (.t 34)⟩]) (.cond (.t 35) (.seq (.reg [⟨(some 6), none, .mov (.c (.nils))⟩,
  ⟨(some 7), none, .mov (.c (.int .i64 0))⟩,
  ⟨(some 8), none, .mov (.c (.bool false))⟩]) (.ret)) (.skip))) (.reg [⟨(some 36), none, .mov (.t 9)⟩,
  ⟨(some 37), none, .mov (.t 10)⟩,
  ⟨(some 38), none, .bsl 1 1 [.int .i64 0] [(0, .t 37)]⟩,
  ⟨(some 39), none, .app 1 8 [.int .i64 0] false (.t 36) (.t 38)⟩,
  ⟨(some 40), none, .mov (.t 11)⟩,
  ⟨(some 9), none, .mov (.t 39)⟩,
  ⟨(some 1), none, .mov (.t 40)⟩])))) (.reg [⟨(some 41), none, .bin .add (.num) (.t 25) (.c (.int .i64 1))⟩,
  ⟨(some 25), none, .mov (.t 41)⟩]))))))) (.seq (.reg [⟨(some 42), none, .mov (.t 9)⟩,
  ⟨(some 43), none, .mov (.t 1)⟩,
  ⟨(some 6), none, .mov (.t 42)⟩,
  ⟨(some 7), none, .mov (.t 43)⟩,
  ⟨(some 8), none, .mov (.c (.bool true))⟩]) (.ret)))))
def impl_DecodeInts_r : List RS := [.t 6, .t 7, .t 8]
def impl_DecodeInts_s0 (t0 t1 t9 t24 t25 : AV) (loc : List (List AV)) (h : AH) : St := ⟨[t0, t1, .any, .any, .any, .any, .any, .any, .any, t9, .any, .any, .any, .any, .any, .any, .any, .any, .any, .any, .any, .any, .any, .any, t24, t25, .any, .any, .any, .any, .any, .any, .any, .any, .any, .any, .any, .any, .any, .any, .any, .any, .any, .any], loc, h⟩
theorem impl_DecodeInts_e {a0 a1 a2 : AV} {h : AH} {K : AV → AH → Prop} (hw : TC Try.prog Θ Γ impl_DecodeInts_c (retQ impl_DecodeInts_r K) ⟨[a0, a1, a2, u, u, u, u, u, u, u, u, u, u, u, u, u, u, u, u, u, u, u, u, u, u, u, u, u, u, u, u, u, u, u, u, u, u, u, u, u, u, u, u, u], [], h⟩) : T Try.prog Γ Fn.impl_DecodeInts [a0, a1, a2] h K :=
  T_of_body tabOK Try.func58 (code := bodyOf Try.f58) (by kernel_rfl) (by kernel_rfl) (by kernel_rfl) (by kernel_rfl) hw
def laws_sameInts_d0_os : List O := [⟨(some 17), none, .mov (.t 0)⟩,
  ⟨(some 18), none, .mov (.t 5)⟩,
  ⟨(some 19), none, .idxs 1 (.t 17) (.t 18)⟩,
  ⟨(some 20), none, .load 1 false (.t 19)⟩,
  ⟨(some 21), none, .mov (.t 1)⟩,
  ⟨(some 22), none, .mov (.t 5)⟩,
  ⟨(some 23), none, .idxs 1 (.t 21) (.t 22)⟩,
  ⟨(some 24), none, .load 1 false (.t 23)⟩,
  ⟨(some 25), none, .bin .neq (.num) (.t 20) (.t 24)⟩]
def laws_sameInts_d0_af : List (List Nat) := [[], [], [0, 1], [2], [], [], [4, 5], [6], [3, 7]]
theorem laws_sameInts_d0_q (gl : Gl) (Q : AE → St → Prop) (s : St) : aw Try.prog Θ Γ gl (.regD laws_sameInts_d0_os laws_sameInts_d0_af) Q s = awpOps Try.prog Γ gl [⟨(some 17), none, .mov (.t 0)⟩,
  ⟨(some 18), none, .mov (.t 5)⟩,
  ⟨(some 19), none, .idxs 1 (.t 17) (.t 18)⟩,
  ⟨(some 20), none, .load 1 false (.t 19)⟩,
  ⟨(some 21), none, .mov (.t 1)⟩,
  ⟨(some 22), none, .mov (.t 5)⟩,
  ⟨(some 23), none, .idxs 1 (.t 21) (.t 22)⟩,
  ⟨(some 24), none, .load 1 false (.t 23)⟩,
  ⟨(some 25), none, .bin .neq (.num) (.t 20) (.t 24)⟩] [⟨(some 17), none, .mov (.t 0)⟩,
  ⟨(some 18), none, .mov (.t 5)⟩,
  ⟨(some 19), none, .idxs 1 (.t 17) (.t 18)⟩,
  ⟨(some 20), none, .load 1 false (.t 19)⟩,
  ⟨(some 21), none, .mov (.t 1)⟩,
  ⟨(some 22), none, .mov (.t 5)⟩,
  ⟨(some 23), none, .idxs 1 (.t 21) (.t 22)⟩,
  ⟨(some 24), none, .load 1 false (.t 23)⟩,
  ⟨(some 25), none, .bin .neq (.num) (.t 20) (.t 24)⟩] (Q .normal) s := a_dq (by kernel_rfl) gl Q s
def laws_sameInts_c : C := .seq (.reg [⟨(some 4), none, .mov (.c (.bool false))⟩]) (.seq (.seq (.reg [⟨(some 6), none, .mov (.t 0)⟩,
  ⟨(some 7), none, .len false (.t 6)⟩,
  ⟨(some 8), none, .mov (.t 1)⟩,
  ⟨(some 9), none, .len false (.t 8)⟩,
  ⟨(some 10), none, .bin .neq (.num) (.t 7) (.t 9)⟩]) (.cond (.t 10) (.seq (.reg [⟨(some 4), none, .mov (.c (.bool false))⟩]) (.ret)) (.skip))) (.seq (.seq (.reg [⟨(some 5), none, .mov (.c (.int .i64 0))⟩]) (.block 0 (.loop (.seq (.seq (.reg [⟨(some 11), none, .mov (.t 5)⟩,
  ⟨(some 12), none, .mov (.t 0)⟩,
  ⟨(some 13), none, .len false (.t 12)⟩,
  ⟨(some 14), none, .bin .lss (.num) (.t 11) (.t 13)⟩]) (.cond (.t 14) (.skip) (.exit 0))) (.seq (.block 1 (.seq (.regD laws_sameInts_d0_os laws_sameInts_d0_af) (.cond (.t 25) (.seq (.reg [⟨(some 4), none, .mov (.c (.bool false))⟩]) (.ret)) (.skip)))) (.reg [⟨(some 15), none, .mov (.t 5)⟩,
  ⟨(some 16), none, .bin .add (.num) (.t 15) (.c (.int .i64 1))⟩,
  ⟨(some 5), none, .mov (.t 16)⟩])))))) (.seq (.reg [⟨(some 4), none, .mov (.c (.bool true))⟩]) (.ret))))
def laws_sameInts_r : List RS := [.t 4]
def laws_sameInts_s0 (t0 t1 t5 : AV) (loc : List (List AV)) (h : AH) : St := ⟨[t0, t1, .any, .any, .any, t5, .any, .any, .any, .any, .any, .any, .any, .any, .any, .any, .any, .any, .any, .any, .any, .any, .any, .any, .any, .any], loc, h⟩
theorem laws_sameInts_e {a0 a1 : AV} {h : AH} {K : AV → AH → Prop} (hw : TC Try.prog Θ Γ laws_sameInts_c (retQ laws_sameInts_r K) ⟨[a0, a1, u, u, u, u, u, u, u, u, u, u, u, u, u, u, u, u, u, u, u, u, u, u, u, u], [], h⟩) : T Try.prog Γ Fn.laws_sameInts [a0, a1] h K :=
  T_of_body tabOK Try.func59 (code := bodyOf Try.f59) (by kernel_rfl) (by kernel_rfl) (by kernel_rfl) (by kernel_rfl) hw
def laws_toGift_c : C := .seq (.reg [⟨(some 1), none, .box (.t 0)⟩,
  ⟨(some 2), none, .alloc [.int .i64 0, .int .i64 0, .int .i64 0, .int .i64 0]⟩]) (.seq (.reg [⟨(some 3), none, .alloc [.int .i64 0, .int .i64 0, .int .i64 0, .int .i64 0]⟩]) (.seq (.reg [⟨(some 4), none, .fld 0 (.t 1)⟩,
  ⟨(some 5), none, .load 1 false (.t 4)⟩,
  ⟨(some 6), none, .fld 0 (.t 3)⟩,
  ⟨none, none, .store 1 (.t 6) (.t 5)⟩]) (.seq (.reg [⟨(some 7), none, .fld 1 (.t 1)⟩,
  ⟨(some 8), none, .load 1 false (.t 7)⟩,
  ⟨(some 9), none, .fld 1 (.t 3)⟩,
  ⟨none, none, .store 1 (.t 9) (.t 8)⟩]) (.seq (.reg [⟨(some 10), none, .fld 2 (.t 1)⟩,
  ⟨(some 11), none, .load 1 false (.t 10)⟩,
  ⟨(some 12), none, .fld 2 (.t 3)⟩,
  ⟨none, none, .store 1 (.t 12) (.t 11)⟩]) (.seq (.reg [⟨(some 13), none, .fld 3 (.t 1)⟩,
  ⟨(some 14), none, .load 1 false (.t 13)⟩,
  ⟨(some 15), none, .fld 3 (.t 3)⟩,
  ⟨none, none, .store 1 (.t 15) (.t 14)⟩]) (.seq (.reg [⟨(some 16), none, .load 4 true (.t 3)⟩,
  ⟨none, none, .store 4 (.t 2) (.t 16)⟩]) (.ret)))))))
def laws_toGift_r : List RS := [.cell 2 4 true]
theorem laws_toGift_e {a0 : AV} {h : AH} {K : AV → AH → Prop} (hw : TC Try.prog Θ Γ laws_toGift_c (retQ laws_toGift_r K) ⟨[a0, u, u, u, u, u, u, u, u, u, u, u, u, u, u, u, u], [], h⟩) : T Try.prog Γ Fn.laws_toGift [a0] h K :=
  T_of_body tabOK Try.func61 (code := bodyOf Try.f61) (by kernel_rfl) (by kernel_rfl) (by kernel_rfl) (by kernel_rfl) hw
def spec_SealIn_d0_os : List O := [⟨(some 21), none, .mov (.t 0)⟩,
  ⟨(some 22), none, .call (.c (.fn Fn.spec_l32Copy [] [])) [.t 21]⟩,
  ⟨(some 23), none, .mov (.t 8)⟩,
  ⟨(some 24), none, .mov (.t 1)⟩,
  ⟨(some 25), none, .load 2 true (.t 5)⟩,
  ⟨(some 26), none, .build [.int .i64 0, .int .i64 0, .int .i64 0, .int .i64 0] [(0, 1, .t 23), (1, 1, .t 24), (2, 2, .t 25)]⟩,
  ⟨(some 27), none, .bsl 4 1 [.int .i64 0, .int .i64 0, .int .i64 0, .int .i64 0] [(0, .t 26)]⟩,
  ⟨(some 28), none, .app 4 32 [.int .i64 0, .int .i64 0, .int .i64 0, .int .i64 0] false (.t 22) (.t 27)⟩,
  ⟨(some 9), none, .mov (.t 28)⟩]
def spec_SealIn_d0_af : List (List Nat) := [[], [0], [], [], [], [2, 3, 4], [5], [1, 6, 1], [7, 7, 0, 1, 2, 3, 4, 5, 6, 7]]
theorem spec_SealIn_d0_q (gl : Gl) (Q : AE → St → Prop) (s : St) : aw Try.prog Θ Γ gl (.regD spec_SealIn_d0_os spec_SealIn_d0_af) Q s = awpT Try.prog Γ gl [⟨(some 21), none, .mov (.t 0)⟩,
  ⟨(some 22), none, .call (.c (.fn Fn.spec_l32Copy [] [])) [.t 21]⟩,
  ⟨(some 23), none, .mov (.t 8)⟩,
  ⟨(some 24), none, .mov (.t 1)⟩,
  ⟨(some 25), none, .load 2 true (.t 5)⟩,
  ⟨(some 26), none, .build [.int .i64 0, .int .i64 0, .int .i64 0, .int .i64 0] [(0, 1, .t 23), (1, 1, .t 24), (2, 2, .t 25)]⟩,
  ⟨(some 27), none, .bsl 4 1 [.int .i64 0, .int .i64 0, .int .i64 0, .int .i64 0] [(0, .t 26)]⟩,
  ⟨(some 28), none, .app 4 32 [.int .i64 0, .int .i64 0, .int .i64 0, .int .i64 0] false (.t 22) (.t 27)⟩,
  ⟨(some 9), none, .mov (.t 28)⟩] (Q .normal) 9 (.q 0 (.q 2 (.q 3 (.q 4 (.q 5 (.all [(1, .all [(6, .q 7 (.q 8 (.done)))]), (6, .all [(1, .q 7 (.q 8 (.done)))])])))))) s := a_dd rfl (by kernel_rfl) gl Q s
def spec_SealIn_c : C := .seq (.reg [⟨(some 5), none, .box (.t 2)⟩,
  ⟨(some 6), none, .mov (.c (.nils))⟩,
  ⟨(some 7), none, .mov (.c (.int .i64 0))⟩]) (.seq (.reg [⟨(some 8), none, .mov (.c (.int .i64 1))⟩]) (.seq (.seq (.reg [⟨(some 10), none, .mov (.t 0)⟩,
  ⟨(some 11), none, .len false (.t 10)⟩,
  ⟨(some 12), none, .bin .gtr (.num) (.t 11) (.c (.int .i64 0))⟩]) (.cond (.t 12) (.reg [⟨(some 13), none, .mov (.t 0)⟩,
  ⟨(some 14), none, .mov (.t 0)⟩,
  ⟨(some 15), none, .len false (.t 14)⟩,
  ⟨(some 16), none, .bin .sub (.num) (.t 15) (.c (.int .i64 1))⟩,
  ⟨(some 17), none, .idxs 4 (.t 13) (.t 16)⟩,
  ⟨(some 18), none, .fld 0 (.t 17)⟩,
  ⟨(some 19), none, .load 1 false (.t 18)⟩,
  ⟨(some 20), none, .bin .add (.num) (.t 19) (.c (.int .i64 1))⟩,
  ⟨(some 8), none, .mov (.t 20)⟩]) (.skip))) (.seq (.regD spec_SealIn_d0_os spec_SealIn_d0_af) (.seq (.seq (.reg [⟨(some 29), none, .mov (.t 0)⟩,
  ⟨(some 30), none, .call (.c (.fn Fn.spec_AreBoxes [] [])) [.t 29]⟩,
  ⟨(some 31), none, .un .not (.t 30)⟩,
  ⟨(some 32), none, .mov (.t 31)⟩,
  ⟨(some 33), (some (3, false)), .mov (.t 9)⟩,
  ⟨(some 34), (some (3, false)), .call (.c (.fn Fn.spec_AreBoxes [] [])) [.t 33]⟩,
  ⟨(some 35), (some (3, false)), .un .not (.t 34)⟩,
  ⟨(some 36), none, .pick (.t 32) (.c (.bool true)) (.t 35)⟩]) (.cond (.t 36) (.seq (.reg [⟨(some 37), none, .mov (.t 0)⟩,
  ⟨(some 38), none, .call (.c (.fn Fn.spec_l32Copy [] [])) [.t 37]⟩,
  ⟨(some 6), none, .mov (.t 38)⟩,
  ⟨(some 7), none, .mov (.c (.int .i64 (-1)))⟩]) (.ret)) (.skip))) (.seq (.reg [⟨(some 39), none, .mov (.t 9)⟩,
  ⟨(some 40), none, .mov (.t 8)⟩,
  ⟨(some 6), none, .mov (.t 39)⟩,
  ⟨(some 7), none, .mov (.t 40)⟩]) (.ret))))))
def spec_SealIn_r : List RS := [.t 6, .t 7]
theorem spec_SealIn_e {a0 a1 a2 : AV} {h : AH} {K : AV → AH → Prop} (hw : TC Try.prog Θ Γ spec_SealIn_c (retQ spec_SealIn_r K) ⟨[a0, a1, a2, u, u, u, u, u, u, u, u, u, u, u, u, u, u, u, u, u, u, u, u, u, u, u, u, u, u, u, u, u, u, u, u, u, u, u, u, u, u], [], h⟩) : T Try.prog Γ Fn.spec_SealIn [a0, a1, a2] h K :=
  T_of_body tabOK Try.func63 (code := bodyOf Try.f63) (by kernel_rfl) (by kernel_rfl) (by kernel_rfl) (by kernel_rfl) hw
def laws_toValue_c : C := .seq (.reg [⟨(some 1), none, .box (.t 0)⟩,
  ⟨(some 2), none, .alloc [.int .i64 0, .int .i64 0]⟩]) (.seq (.reg [⟨(some 3), none, .alloc [.int .i64 0, .int .i64 0]⟩]) (.seq (.reg [⟨(some 4), none, .fld 0 (.t 1)⟩,
  ⟨(some 5), none, .load 1 false (.t 4)⟩,
  ⟨(some 6), none, .fld 0 (.t 3)⟩,
  ⟨none, none, .store 1 (.t 6) (.t 5)⟩]) (.seq (.reg [⟨(some 7), none, .fld 1 (.t 1)⟩,
  ⟨(some 8), none, .load 1 false (.t 7)⟩,
  ⟨(some 9), none, .fld 1 (.t 3)⟩,
  ⟨none, none, .store 1 (.t 9) (.t 8)⟩]) (.seq (.reg [⟨(some 10), none, .load 2 true (.t 3)⟩,
  ⟨none, none, .store 2 (.t 2) (.t 10)⟩]) (.ret)))))
def laws_toValue_r : List RS := [.cell 2 2 true]
theorem laws_toValue_e {a0 : AV} {h : AH} {K : AV → AH → Prop} (hw : TC Try.prog Θ Γ laws_toValue_c (retQ laws_toValue_r K) ⟨[a0, u, u, u, u, u, u, u, u, u, u], [], h⟩) : T Try.prog Γ Fn.laws_toValue [a0] h K :=
  T_of_body tabOK Try.func64 (code := bodyOf Try.f64) (by kernel_rfl) (by kernel_rfl) (by kernel_rfl) (by kernel_rfl) hw
def impl_SealIn_d0_os : List O := [⟨(some 22), none, .mov (.t 0)⟩,
  ⟨(some 23), none, .call (.c (.fn Fn.slices_Clone_iimpl_Box_impl_Box [] [])) [.t 22]⟩,
  ⟨(some 24), none, .mov (.t 8)⟩,
  ⟨(some 25), none, .mov (.t 1)⟩,
  ⟨(some 26), none, .load 2 true (.t 5)⟩,
  ⟨(some 27), none, .build [.int .i64 0, .int .i64 0, .int .i64 0, .int .i64 0] [(0, 1, .t 24), (1, 1, .t 25), (2, 2, .t 26)]⟩,
  ⟨(some 28), none, .bsl 4 1 [.int .i64 0, .int .i64 0, .int .i64 0, .int .i64 0] [(0, .t 27)]⟩,
  ⟨(some 29), none, .app 4 32 [.int .i64 0, .int .i64 0, .int .i64 0, .int .i64 0] false (.t 23) (.t 28)⟩,
  ⟨(some 10), none, .mov (.t 29)⟩]
def impl_SealIn_d0_af : List (List Nat) := [[], [0], [], [], [], [2, 3, 4], [5], [1, 6, 1], [7, 7, 0, 1, 2, 3, 4, 5, 6, 7]]
theorem impl_SealIn_d0_q (gl : Gl) (Q : AE → St → Prop) (s : St) : aw Try.prog Θ Γ gl (.regD impl_SealIn_d0_os impl_SealIn_d0_af) Q s = awpT Try.prog Γ gl [⟨(some 22), none, .mov (.t 0)⟩,
  ⟨(some 23), none, .call (.c (.fn Fn.slices_Clone_iimpl_Box_impl_Box [] [])) [.t 22]⟩,
  ⟨(some 24), none, .mov (.t 8)⟩,
  ⟨(some 25), none, .mov (.t 1)⟩,
  ⟨(some 26), none, .load 2 true (.t 5)⟩,
  ⟨(some 27), none, .build [.int .i64 0, .int .i64 0, .int .i64 0, .int .i64 0] [(0, 1, .t 24), (1, 1, .t 25), (2, 2, .t 26)]⟩,
  ⟨(some 28), none, .bsl 4 1 [.int .i64 0, .int .i64 0, .int .i64 0, .int .i64 0] [(0, .t 27)]⟩,
  ⟨(some 29), none, .app 4 32 [.int .i64 0, .int .i64 0, .int .i64 0, .int .i64 0] false (.t 23) (.t 28)⟩,
  ⟨(some 10), none, .mov (.t 29)⟩] (Q .normal) 9 (.q 0 (.q 2 (.q 3 (.q 4 (.q 5 (.all [(1, .all [(6, .q 7 (.q 8 (.done)))]), (6, .all [(1, .q 7 (.q 8 (.done)))])])))))) s := a_dd rfl (by kernel_rfl) gl Q s
def impl_SealIn_c : C := .seq (.reg [⟨(some 5), none, .box (.t 2)⟩,
  ⟨(some 6), none, .mov (.c (.nils))⟩,
  ⟨(some 7), none, .mov (.c (.int .i64 0))⟩]) (.seq (.reg [⟨(some 8), none, .mov (.c (.int .i64 1))⟩]) (.seq (.seq (.reg [⟨(some 11), none, .mov (.t 0)⟩,
  ⟨(some 12), none, .len false (.t 11)⟩,
  ⟨(some 9), none, .mov (.t 12)⟩]) (.seq (.reg [⟨(some 13), none, .mov (.t 9)⟩,
  ⟨(some 14), none, .bin .gtr (.num) (.t 13) (.c (.int .i64 0))⟩]) (.cond (.t 14) (.reg [⟨(some 15), none, .mov (.t 0)⟩,
  ⟨(some 16), none, .mov (.t 9)⟩,
  ⟨(some 17), none, .bin .sub (.num) (.t 16) (.c (.int .i64 1))⟩,
  ⟨(some 18), none, .idxs 4 (.t 15) (.t 17)⟩,
  ⟨(some 19), none, .fld 0 (.t 18)⟩,
  ⟨(some 20), none, .load 1 false (.t 19)⟩,
  ⟨(some 21), none, .bin .add (.num) (.t 20) (.c (.int .i64 1))⟩,
  ⟨(some 8), none, .mov (.t 21)⟩]) (.skip)))) (.seq (.regD impl_SealIn_d0_os impl_SealIn_d0_af) (.seq (.seq (.reg [⟨(some 30), none, .mov (.t 10)⟩,
  ⟨(some 31), none, .call (.c (.fn Fn.impl_areBoxes [] [])) [.t 30]⟩,
  ⟨(some 32), none, .un .not (.t 31)⟩]) (.cond (.t 32) (.seq (.reg [⟨(some 33), none, .mov (.t 0)⟩,
  ⟨(some 34), none, .call (.c (.fn Fn.slices_Clone_iimpl_Box_impl_Box [] [])) [.t 33]⟩,
  ⟨(some 6), none, .mov (.t 34)⟩,
  ⟨(some 7), none, .mov (.c (.int .i64 (-1)))⟩]) (.ret)) (.skip))) (.seq (.reg [⟨(some 35), none, .mov (.t 10)⟩,
  ⟨(some 36), none, .mov (.t 8)⟩,
  ⟨(some 6), none, .mov (.t 35)⟩,
  ⟨(some 7), none, .mov (.t 36)⟩]) (.ret))))))
def impl_SealIn_r : List RS := [.t 6, .t 7]
theorem impl_SealIn_e {a0 a1 a2 : AV} {h : AH} {K : AV → AH → Prop} (hw : TC Try.prog Θ Γ impl_SealIn_c (retQ impl_SealIn_r K) ⟨[a0, a1, a2, u, u, u, u, u, u, u, u, u, u, u, u, u, u, u, u, u, u, u, u, u, u, u, u, u, u, u, u, u, u, u, u, u, u], [], h⟩) : T Try.prog Γ Fn.impl_SealIn [a0, a1, a2] h K :=
  T_of_body tabOK Try.func65 (code := bodyOf Try.f65) (by kernel_rfl) (by kernel_rfl) (by kernel_rfl) (by kernel_rfl) hw
def laws_heldBoxS_c : C := .seq (.reg [⟨(some 4), none, .mov (.c (.int .i64 0))⟩]) (.seq (.seq (.reg [⟨(some 5), none, .mov (.c (.int .i64 0))⟩]) (.block 0 (.loop (.seq (.seq (.reg [⟨(some 6), none, .mov (.t 5)⟩,
  ⟨(some 7), none, .mov (.t 0)⟩,
  ⟨(some 8), none, .len false (.t 7)⟩,
  ⟨(some 9), none, .bin .lss (.num) (.t 6) (.t 8)⟩]) (.cond (.t 9) (.skip) (.exit 0))) (.seq (.block 1 (.seq (.seq (.reg [⟨(some 12), none, .mov (.t 0)⟩,
  ⟨(some 13), none, .mov (.t 5)⟩,
  ⟨(some 14), none, .idxs 4 (.t 12) (.t 13)⟩,
  ⟨(some 15), none, .fld 0 (.t 14)⟩,
  ⟨(some 16), none, .load 1 false (.t 15)⟩,
  ⟨(some 17), none, .mov (.t 1)⟩,
  ⟨(some 18), none, .bin .neq (.num) (.t 16) (.t 17)⟩]) (.cond (.t 18) (.seq (.reg [⟨(some 4), none, .mov (.c (.int .i64 (-1)))⟩]) (.ret)) (.skip))) (.seq (.reg [⟨(some 19), none, .mov (.t 1)⟩,
  ⟨(some 20), none, .bin .add (.num) (.t 19) (.c (.int .i64 1))⟩,
  ⟨(some 1), none, .mov (.t 20)⟩]) (.seq (.seq (.reg [⟨(some 21), none, .mov (.t 0)⟩,
  ⟨(some 22), none, .mov (.t 5)⟩,
  ⟨(some 23), none, .idxs 4 (.t 21) (.t 22)⟩,
  ⟨(some 24), none, .fld 1 (.t 23)⟩,
  ⟨(some 25), none, .load 1 false (.t 24)⟩,
  ⟨(some 26), none, .mov (.t 1)⟩,
  ⟨(some 27), none, .bin .neq (.num) (.t 25) (.t 26)⟩]) (.cond (.t 27) (.seq (.reg [⟨(some 4), none, .mov (.c (.int .i64 (-1)))⟩]) (.ret)) (.skip))) (.seq (.reg [⟨(some 28), none, .mov (.t 1)⟩,
  ⟨(some 29), none, .bin .add (.num) (.t 28) (.c (.int .i64 1))⟩,
  ⟨(some 1), none, .mov (.t 29)⟩]) (.seq (.seq (.reg [⟨(some 30), none, .mov (.t 0)⟩,
  ⟨(some 31), none, .mov (.t 5)⟩,
  ⟨(some 32), none, .idxs 4 (.t 30) (.t 31)⟩,
  ⟨(some 33), none, .fld 2 (.t 32)⟩,
  ⟨(some 34), none, .fld 0 (.t 33)⟩,
  ⟨(some 35), none, .load 1 false (.t 34)⟩,
  ⟨(some 36), none, .mov (.t 1)⟩,
  ⟨(some 37), none, .bin .neq (.num) (.t 35) (.t 36)⟩]) (.cond (.t 37) (.seq (.reg [⟨(some 4), none, .mov (.c (.int .i64 (-1)))⟩]) (.ret)) (.skip))) (.seq (.reg [⟨(some 38), none, .mov (.t 1)⟩,
  ⟨(some 39), none, .bin .add (.num) (.t 38) (.c (.int .i64 1))⟩,
  ⟨(some 1), none, .mov (.t 39)⟩]) (.seq (.seq (.reg [⟨(some 40), none, .mov (.t 0)⟩,
  ⟨(some 41), none, .mov (.t 5)⟩,
  ⟨(some 42), none, .idxs 4 (.t 40) (.t 41)⟩,
  ⟨(some 43), none, .fld 2 (.t 42)⟩,
  ⟨(some 44), none, .fld 1 (.t 43)⟩,
  ⟨(some 45), none, .load 1 false (.t 44)⟩,
  ⟨(some 46), none, .mov (.t 1)⟩,
  ⟨(some 47), none, .bin .neq (.num) (.t 45) (.t 46)⟩]) (.cond (.t 47) (.seq (.reg [⟨(some 4), none, .mov (.c (.int .i64 (-1)))⟩]) (.ret)) (.skip))) (.reg [⟨(some 48), none, .mov (.t 1)⟩,
  ⟨(some 49), none, .bin .add (.num) (.t 48) (.c (.int .i64 1))⟩,
  ⟨(some 1), none, .mov (.t 49)⟩]))))))))) (.reg [⟨(some 10), none, .mov (.t 5)⟩,
  ⟨(some 11), none, .bin .add (.num) (.t 10) (.c (.int .i64 1))⟩,
  ⟨(some 5), none, .mov (.t 11)⟩])))))) (.seq (.reg [⟨(some 50), none, .mov (.t 1)⟩,
  ⟨(some 4), none, .mov (.t 50)⟩]) (.ret)))
def laws_heldBoxS_r : List RS := [.t 4]
def laws_heldBoxS_s0 (t0 t1 t5 : AV) (loc : List (List AV)) (h : AH) : St := ⟨[t0, t1, .any, .any, .any, t5, .any, .any, .any, .any, .any, .any, .any, .any, .any, .any, .any, .any, .any, .any, .any, .any, .any, .any, .any, .any, .any, .any, .any, .any, .any, .any, .any, .any, .any, .any, .any, .any, .any, .any, .any, .any, .any, .any, .any, .any, .any, .any, .any, .any, .any], loc, h⟩
theorem laws_heldBoxS_e {a0 a1 : AV} {h : AH} {K : AV → AH → Prop} (hw : TC Try.prog Θ Γ laws_heldBoxS_c (retQ laws_heldBoxS_r K) ⟨[a0, a1, u, u, u, u, u, u, u, u, u, u, u, u, u, u, u, u, u, u, u, u, u, u, u, u, u, u, u, u, u, u, u, u, u, u, u, u, u, u, u, u, u, u, u, u, u, u, u, u, u], [], h⟩) : T Try.prog Γ Fn.laws_heldBoxS [a0, a1] h K :=
  T_of_body tabOK Try.func66 (code := bodyOf Try.f66) (by kernel_rfl) (by kernel_rfl) (by kernel_rfl) (by kernel_rfl) hw
def laws_szLink_c : C := .seq (.reg [⟨(some 2), none, .box (.t 0)⟩,
  ⟨(some 4), none, .mov (.c (.int .i64 0))⟩]) (.seq (.reg [⟨(some 5), none, .fld 2 (.t 2)⟩,
  ⟨(some 6), none, .load 1 false (.t 5)⟩,
  ⟨(some 7), none, .mov (.t 1)⟩,
  ⟨(some 8), none, .call (.c (.fn Fn.laws_szExportS [] [])) [.t 6, .t 7]⟩,
  ⟨(some 1), none, .mov (.t 8)⟩]) (.seq (.seq (.reg [⟨(some 9), none, .mov (.t 1)⟩,
  ⟨(some 10), none, .bin .lss (.num) (.t 9) (.c (.int .i64 0))⟩]) (.cond (.t 10) (.seq (.reg [⟨(some 4), none, .mov (.c (.int .i64 (-1)))⟩]) (.ret)) (.skip))) (.seq (.reg [⟨(some 11), none, .fld 4 (.t 2)⟩,
  ⟨(some 12), none, .load 1 false (.t 11)⟩,
  ⟨(some 13), none, .mov (.t 1)⟩,
  ⟨(some 14), none, .call (.c (.fn Fn.laws_szQuestionS [] [])) [.t 12, .t 13]⟩,
  ⟨(some 1), none, .mov (.t 14)⟩]) (.seq (.seq (.reg [⟨(some 15), none, .mov (.t 1)⟩,
  ⟨(some 16), none, .bin .lss (.num) (.t 15) (.c (.int .i64 0))⟩]) (.cond (.t 16) (.seq (.reg [⟨(some 4), none, .mov (.c (.int .i64 (-1)))⟩]) (.ret)) (.skip))) (.seq (.reg [⟨(some 17), none, .fld 6 (.t 2)⟩,
  ⟨(some 18), none, .load 1 false (.t 17)⟩,
  ⟨(some 19), none, .mov (.t 1)⟩,
  ⟨(some 20), none, .call (.c (.fn Fn.laws_szQuestionS [] [])) [.t 18, .t 19]⟩,
  ⟨(some 1), none, .mov (.t 20)⟩]) (.seq (.seq (.reg [⟨(some 21), none, .mov (.t 1)⟩,
  ⟨(some 22), none, .bin .lss (.num) (.t 21) (.c (.int .i64 0))⟩]) (.cond (.t 22) (.seq (.reg [⟨(some 4), none, .mov (.c (.int .i64 (-1)))⟩]) (.ret)) (.skip))) (.seq (.reg [⟨(some 23), none, .mov (.t 1)⟩,
  ⟨(some 4), none, .mov (.t 23)⟩]) (.ret))))))))
def laws_szLink_r : List RS := [.t 4]
theorem laws_szLink_e {a0 a1 : AV} {h : AH} {K : AV → AH → Prop} (hw : TC Try.prog Θ Γ laws_szLink_c (retQ laws_szLink_r K) ⟨[a0, a1, u, u, u, u, u, u, u, u, u, u, u, u, u, u, u, u, u, u, u, u, u, u], [], h⟩) : T Try.prog Γ Fn.laws_szLink [a0, a1] h K :=
  T_of_body tabOK Try.func67 (code := bodyOf Try.f67) (by kernel_rfl) (by kernel_rfl) (by kernel_rfl) (by kernel_rfl) hw
def laws_toLink_c : C := .seq (.reg [⟨(some 1), none, .box (.t 0)⟩,
  ⟨(some 2), none, .alloc [.int .i64 0, .bool false, .nils, .int .i64 0, .nils, .int .i64 0, .nils]⟩]) (.seq (.reg [⟨(some 3), none, .alloc [.int .i64 0, .bool false, .nils, .int .i64 0, .nils, .int .i64 0, .nils]⟩]) (.seq (.reg [⟨(some 4), none, .fld 0 (.t 1)⟩,
  ⟨(some 5), none, .load 1 false (.t 4)⟩,
  ⟨(some 6), none, .fld 0 (.t 3)⟩,
  ⟨none, none, .store 1 (.t 6) (.t 5)⟩]) (.seq (.reg [⟨(some 7), none, .fld 1 (.t 1)⟩,
  ⟨(some 8), none, .load 1 false (.t 7)⟩,
  ⟨(some 9), none, .fld 1 (.t 3)⟩,
  ⟨none, none, .store 1 (.t 9) (.t 8)⟩]) (.seq (.reg [⟨(some 10), none, .fld 2 (.t 1)⟩,
  ⟨(some 11), none, .load 1 false (.t 10)⟩,
  ⟨(some 12), none, .call (.c (.fn Fn.laws_toExportS [] [])) [.t 11]⟩,
  ⟨(some 13), none, .fld 2 (.t 3)⟩,
  ⟨none, none, .store 1 (.t 13) (.t 12)⟩]) (.seq (.reg [⟨(some 14), none, .fld 3 (.t 1)⟩,
  ⟨(some 15), none, .load 1 false (.t 14)⟩,
  ⟨(some 16), none, .fld 3 (.t 3)⟩,
  ⟨none, none, .store 1 (.t 16) (.t 15)⟩]) (.seq (.reg [⟨(some 17), none, .fld 4 (.t 1)⟩,
  ⟨(some 18), none, .load 1 false (.t 17)⟩,
  ⟨(some 19), none, .call (.c (.fn Fn.laws_toQuestionS [] [])) [.t 18]⟩,
  ⟨(some 20), none, .fld 4 (.t 3)⟩,
  ⟨none, none, .store 1 (.t 20) (.t 19)⟩]) (.seq (.reg [⟨(some 21), none, .fld 5 (.t 1)⟩,
  ⟨(some 22), none, .load 1 false (.t 21)⟩,
  ⟨(some 23), none, .fld 5 (.t 3)⟩,
  ⟨none, none, .store 1 (.t 23) (.t 22)⟩]) (.seq (.reg [⟨(some 24), none, .fld 6 (.t 1)⟩,
  ⟨(some 25), none, .load 1 false (.t 24)⟩,
  ⟨(some 26), none, .call (.c (.fn Fn.laws_toQuestionS [] [])) [.t 25]⟩,
  ⟨(some 27), none, .fld 6 (.t 3)⟩,
  ⟨none, none, .store 1 (.t 27) (.t 26)⟩]) (.seq (.reg [⟨(some 28), none, .load 7 true (.t 3)⟩,
  ⟨none, none, .store 7 (.t 2) (.t 28)⟩]) (.ret))))))))))
def laws_toLink_r : List RS := [.cell 2 7 true]
theorem laws_toLink_e {a0 : AV} {h : AH} {K : AV → AH → Prop} (hw : TC Try.prog Θ Γ laws_toLink_c (retQ laws_toLink_r K) ⟨[a0, u, u, u, u, u, u, u, u, u, u, u, u, u, u, u, u, u, u, u, u, u, u, u, u, u, u, u, u], [], h⟩) : T Try.prog Γ Fn.laws_toLink [a0] h K :=
  T_of_body tabOK Try.func69 (code := bodyOf Try.f69) (by kernel_rfl) (by kernel_rfl) (by kernel_rfl) (by kernel_rfl) hw
def laws_eqLink_c : C := .seq (.reg [⟨(some 2), none, .box (.t 0)⟩,
  ⟨(some 3), none, .box (.t 1)⟩,
  ⟨(some 4), none, .mov (.c (.bool false))⟩]) (.seq (.seq (.reg [⟨(some 5), none, .fld 0 (.t 2)⟩,
  ⟨(some 6), none, .load 1 false (.t 5)⟩,
  ⟨(some 7), none, .fld 0 (.t 3)⟩,
  ⟨(some 8), none, .load 1 false (.t 7)⟩,
  ⟨(some 9), none, .bin .neq (.num) (.t 6) (.t 8)⟩]) (.cond (.t 9) (.seq (.reg [⟨(some 4), none, .mov (.c (.bool false))⟩]) (.ret)) (.skip))) (.seq (.seq (.reg [⟨(some 10), none, .fld 1 (.t 2)⟩,
  ⟨(some 11), none, .load 1 false (.t 10)⟩,
  ⟨(some 12), none, .fld 1 (.t 3)⟩,
  ⟨(some 13), none, .load 1 false (.t 12)⟩,
  ⟨(some 14), none, .bin .neq (.bool) (.t 11) (.t 13)⟩]) (.cond (.t 14) (.seq (.reg [⟨(some 4), none, .mov (.c (.bool false))⟩]) (.ret)) (.skip))) (.seq (.seq (.reg [⟨(some 15), none, .fld 2 (.t 2)⟩,
  ⟨(some 16), none, .load 1 false (.t 15)⟩,
  ⟨(some 17), none, .fld 2 (.t 3)⟩,
  ⟨(some 18), none, .load 1 false (.t 17)⟩,
  ⟨(some 19), none, .call (.c (.fn Fn.laws_eqExportS [] [])) [.t 16, .t 18]⟩,
  ⟨(some 20), none, .un .not (.t 19)⟩]) (.cond (.t 20) (.seq (.reg [⟨(some 4), none, .mov (.c (.bool false))⟩]) (.ret)) (.skip))) (.seq (.seq (.reg [⟨(some 21), none, .fld 3 (.t 2)⟩,
  ⟨(some 22), none, .load 1 false (.t 21)⟩,
  ⟨(some 23), none, .fld 3 (.t 3)⟩,
  ⟨(some 24), none, .load 1 false (.t 23)⟩,
  ⟨(some 25), none, .bin .neq (.num) (.t 22) (.t 24)⟩]) (.cond (.t 25) (.seq (.reg [⟨(some 4), none, .mov (.c (.bool false))⟩]) (.ret)) (.skip))) (.seq (.seq (.reg [⟨(some 26), none, .fld 4 (.t 2)⟩,
  ⟨(some 27), none, .load 1 false (.t 26)⟩,
  ⟨(some 28), none, .fld 4 (.t 3)⟩,
  ⟨(some 29), none, .load 1 false (.t 28)⟩,
  ⟨(some 30), none, .call (.c (.fn Fn.laws_eqQuestionS [] [])) [.t 27, .t 29]⟩,
  ⟨(some 31), none, .un .not (.t 30)⟩]) (.cond (.t 31) (.seq (.reg [⟨(some 4), none, .mov (.c (.bool false))⟩]) (.ret)) (.skip))) (.seq (.seq (.reg [⟨(some 32), none, .fld 5 (.t 2)⟩,
  ⟨(some 33), none, .load 1 false (.t 32)⟩,
  ⟨(some 34), none, .fld 5 (.t 3)⟩,
  ⟨(some 35), none, .load 1 false (.t 34)⟩,
  ⟨(some 36), none, .bin .neq (.num) (.t 33) (.t 35)⟩]) (.cond (.t 36) (.seq (.reg [⟨(some 4), none, .mov (.c (.bool false))⟩]) (.ret)) (.skip))) (.seq (.seq (.reg [⟨(some 37), none, .fld 6 (.t 2)⟩,
  ⟨(some 38), none, .load 1 false (.t 37)⟩,
  ⟨(some 39), none, .fld 6 (.t 3)⟩,
  ⟨(some 40), none, .load 1 false (.t 39)⟩,
  ⟨(some 41), none, .call (.c (.fn Fn.laws_eqQuestionS [] [])) [.t 38, .t 40]⟩,
  ⟨(some 42), none, .un .not (.t 41)⟩]) (.cond (.t 42) (.seq (.reg [⟨(some 4), none, .mov (.c (.bool false))⟩]) (.ret)) (.skip))) (.seq (.reg [⟨(some 4), none, .mov (.c (.bool true))⟩]) (.ret)))))))))
def laws_eqLink_r : List RS := [.t 4]
theorem laws_eqLink_e {a0 a1 : AV} {h : AH} {K : AV → AH → Prop} (hw : TC Try.prog Θ Γ laws_eqLink_c (retQ laws_eqLink_r K) ⟨[a0, a1, u, u, u, u, u, u, u, u, u, u, u, u, u, u, u, u, u, u, u, u, u, u, u, u, u, u, u, u, u, u, u, u, u, u, u, u, u, u, u, u, u], [], h⟩) : T Try.prog Γ Fn.laws_eqLink [a0, a1] h K :=
  T_of_body tabOK Try.func71 (code := bodyOf Try.f71) (by kernel_rfl) (by kernel_rfl) (by kernel_rfl) (by kernel_rfl) hw
def spec_AreBoxes_d0_os : List O := [⟨(some 15), none, .fld 0 (.t 4)⟩,
  ⟨(some 16), none, .load 1 false (.t 15)⟩,
  ⟨(some 17), none, .bin .lss (.num) (.t 16) (.c (.int .i64 1))⟩,
  ⟨(some 18), none, .mov (.t 17)⟩,
  ⟨(some 19), (some (3, false)), .mov (.t 3)⟩,
  ⟨(some 20), (some (3, false)), .bin .gtr (.num) (.t 19) (.c (.int .i64 0))⟩,
  ⟨(some 21), (some (3, false)), .mov (.t 20)⟩,
  ⟨(some 22), (some (6, true)), .mov (.t 0)⟩,
  ⟨(some 23), (some (6, true)), .mov (.t 3)⟩,
  ⟨(some 24), (some (6, true)), .bin .sub (.num) (.t 23) (.c (.int .i64 1))⟩,
  ⟨(some 25), (some (6, true)), .idxs 4 (.t 22) (.t 24)⟩,
  ⟨(some 26), (some (6, true)), .fld 0 (.t 25)⟩,
  ⟨(some 27), (some (6, true)), .load 1 false (.t 26)⟩,
  ⟨(some 28), (some (6, true)), .fld 0 (.t 4)⟩,
  ⟨(some 29), (some (6, true)), .load 1 false (.t 28)⟩,
  ⟨(some 30), (some (6, true)), .bin .geq (.num) (.t 27) (.t 29)⟩,
  ⟨(some 31), (some (3, false)), .pick (.t 21) (.t 30) (.c (.bool false))⟩,
  ⟨(some 32), none, .pick (.t 18) (.c (.bool true)) (.t 31)⟩,
  ⟨(some 33), none, .mov (.t 32)⟩,
  ⟨(some 34), (some (18, false)), .fld 1 (.t 4)⟩,
  ⟨(some 35), (some (18, false)), .load 1 false (.t 34)⟩,
  ⟨(some 36), (some (18, false)), .call (.c (.fn Fn.spec_l1In [] [])) [.t 35, .c (.int .i64 1), .c (.int .i64 999999)]⟩,
  ⟨(some 37), (some (18, false)), .un .not (.t 36)⟩,
  ⟨(some 38), none, .pick (.t 33) (.c (.bool true)) (.t 37)⟩,
  ⟨(some 39), none, .mov (.t 38)⟩,
  ⟨(some 40), (some (24, false)), .fld 2 (.t 4)⟩,
  ⟨(some 41), (some (24, false)), .fld 0 (.t 40)⟩,
  ⟨(some 42), (some (24, false)), .load 1 false (.t 41)⟩,
  ⟨(some 43), (some (24, false)), .call (.c (.fn Fn.spec_l1In [] [])) [.t 42, .c (.int .i64 0), .c (.int .i64 2)]⟩,
  ⟨(some 44), (some (24, false)), .un .not (.t 43)⟩,
  ⟨(some 45), none, .pick (.t 39) (.c (.bool true)) (.t 44)⟩]
def spec_AreBoxes_d0_af : List (List Nat) := [[], [0], [1], [2], [3], [4, 3], [5, 3, 3], [6], [6], [8, 6], [7, 9, 6], [10, 6], [11, 6], [6], [13, 6], [12, 14, 6], [6, 15, 3], [3, 16], [17, 6], [18], [19, 18], [20, 18, 18], [21, 18], [18, 22], [23, 21], [24], [25, 24], [26, 24], [27, 24, 24], [28, 24], [24, 29]]
theorem spec_AreBoxes_d0_q (gl : Gl) (Q : AE → St → Prop) (s : St) : aw Try.prog Θ Γ gl (.regD spec_AreBoxes_d0_os spec_AreBoxes_d0_af) Q s = awpT Try.prog Γ gl [⟨(some 15), none, .fld 0 (.t 4)⟩,
  ⟨(some 16), none, .load 1 false (.t 15)⟩,
  ⟨(some 17), none, .bin .lss (.num) (.t 16) (.c (.int .i64 1))⟩,
  ⟨(some 18), none, .mov (.t 17)⟩,
  ⟨(some 19), (some (3, false)), .mov (.t 3)⟩,
  ⟨(some 20), (some (3, false)), .bin .gtr (.num) (.t 19) (.c (.int .i64 0))⟩,
  ⟨(some 21), (some (3, false)), .mov (.t 20)⟩,
  ⟨(some 22), (some (6, true)), .mov (.t 0)⟩,
  ⟨(some 23), (some (6, true)), .mov (.t 3)⟩,
  ⟨(some 24), (some (6, true)), .bin .sub (.num) (.t 23) (.c (.int .i64 1))⟩,
  ⟨(some 25), (some (6, true)), .idxs 4 (.t 22) (.t 24)⟩,
  ⟨(some 26), (some (6, true)), .fld 0 (.t 25)⟩,
  ⟨(some 27), (some (6, true)), .load 1 false (.t 26)⟩,
  ⟨(some 28), (some (6, true)), .fld 0 (.t 4)⟩,
  ⟨(some 29), (some (6, true)), .load 1 false (.t 28)⟩,
  ⟨(some 30), (some (6, true)), .bin .geq (.num) (.t 27) (.t 29)⟩,
  ⟨(some 31), (some (3, false)), .pick (.t 21) (.t 30) (.c (.bool false))⟩,
  ⟨(some 32), none, .pick (.t 18) (.c (.bool true)) (.t 31)⟩,
  ⟨(some 33), none, .mov (.t 32)⟩,
  ⟨(some 34), (some (18, false)), .fld 1 (.t 4)⟩,
  ⟨(some 35), (some (18, false)), .load 1 false (.t 34)⟩,
  ⟨(some 36), (some (18, false)), .call (.c (.fn Fn.spec_l1In [] [])) [.t 35, .c (.int .i64 1), .c (.int .i64 999999)]⟩,
  ⟨(some 37), (some (18, false)), .un .not (.t 36)⟩,
  ⟨(some 38), none, .pick (.t 33) (.c (.bool true)) (.t 37)⟩,
  ⟨(some 39), none, .mov (.t 38)⟩,
  ⟨(some 40), (some (24, false)), .fld 2 (.t 4)⟩,
  ⟨(some 41), (some (24, false)), .fld 0 (.t 40)⟩,
  ⟨(some 42), (some (24, false)), .load 1 false (.t 41)⟩,
  ⟨(some 43), (some (24, false)), .call (.c (.fn Fn.spec_l1In [] [])) [.t 42, .c (.int .i64 0), .c (.int .i64 2)]⟩,
  ⟨(some 44), (some (24, false)), .un .not (.t 43)⟩,
  ⟨(some 45), none, .pick (.t 39) (.c (.bool true)) (.t 44)⟩] (Q .normal) 31 (.q 0 (.q 1 (.q 2 (.q 3 (.q 4 (.q 5 (.q 6 (.q 7 (.q 8 (.q 9 (.q 10 (.q 11 (.q 12 (.q 13 (.q 14 (.q 15 (.q 16 (.q 17 (.q 18 (.q 19 (.q 20 (.q 21 (.q 22 (.q 23 (.q 24 (.q 25 (.q 26 (.q 27 (.q 28 (.q 29 (.q 30 (.done)))))))))))))))))))))))))))))))) s := a_dd rfl (by kernel_rfl) gl Q s
def spec_AreBoxes_c : C := .seq (.reg [⟨(some 2), none, .mov (.c (.bool false))⟩]) (.seq (.seq (.reg [⟨(some 3), none, .mov (.c (.int .i64 0))⟩]) (.block 0 (.loop (.seq (.seq (.reg [⟨(some 5), none, .mov (.t 3)⟩,
  ⟨(some 6), none, .mov (.t 0)⟩,
  ⟨(some 7), none, .len false (.t 6)⟩,
  ⟨(some 8), none, .bin .lss (.num) (.t 5) (.t 7)⟩]) (.cond (.t 8) (.skip) (.exit 0))) (.seq (.block 1 (.seq (.reg [⟨(some 11), none, .mov (.t 0)⟩,
  ⟨(some 12), none, .mov (.t 3)⟩,
  ⟨(some 13), none, .idxs 4 (.t 11) (.t 12)⟩,
  ⟨(some 14), none, .load 4 true (.t 13)⟩,
  ⟨(some 4), none, .alloc [.int .i64 0, .int .i64 0, .int .i64 0, .int .i64 0]⟩,
  ⟨none, none, .store 4 (.t 4) (.t 14)⟩]) (.seq (.regD spec_AreBoxes_d0_os spec_AreBoxes_d0_af) (.cond (.t 45) (.seq (.reg [⟨(some 2), none, .mov (.c (.bool false))⟩]) (.ret)) (.skip))))) (.reg [⟨(some 9), none, .mov (.t 3)⟩,
  ⟨(some 10), none, .bin .add (.num) (.t 9) (.c (.int .i64 1))⟩,
  ⟨(some 3), none, .mov (.t 10)⟩])))))) (.seq (.reg [⟨(some 46), none, .mov (.t 0)⟩,
  ⟨(some 47), none, .len false (.t 46)⟩,
  ⟨(some 48), none, .bin .leq (.num) (.t 47) (.c (.int .i64 12))⟩,
  ⟨(some 2), none, .mov (.t 48)⟩]) (.ret)))
def spec_AreBoxes_r : List RS := [.t 2]
def spec_AreBoxes_s0 (t0 t3 : AV) (loc : List (List AV)) (h : AH) : St := ⟨[t0, .any, .any, t3, .any, .any, .any, .any, .any, .any, .any, .any, .any, .any, .any, .any, .any, .any, .any, .any, .any, .any, .any, .any, .any, .any, .any, .any, .any, .any, .any, .any, .any, .any, .any, .any, .any, .any, .any, .any, .any, .any, .any, .any, .any, .any, .any, .any, .any], loc, h⟩
theorem spec_AreBoxes_e {a0 : AV} {h : AH} {K : AV → AH → Prop} (hw : TC Try.prog Θ Γ spec_AreBoxes_c (retQ spec_AreBoxes_r K) ⟨[a0, u, u, u, u, u, u, u, u, u, u, u, u, u, u, u, u, u, u, u, u, u, u, u, u, u, u, u, u, u, u, u, u, u, u, u, u, u, u, u, u, u, u, u, u, u, u, u, u], [], h⟩) : T Try.prog Γ Fn.spec_AreBoxes [a0] h K :=
  T_of_body tabOK Try.func77 (code := bodyOf Try.f77) (by kernel_rfl) (by kernel_rfl) (by kernel_rfl) (by kernel_rfl) hw
def spec_l1In_c : C := .seq (.reg [⟨(some 6), none, .mov (.c (.bool false))⟩]) (.seq (.reg [⟨(some 7), none, .mov (.t 0)⟩,
  ⟨(some 8), none, .mov (.t 1)⟩,
  ⟨(some 9), none, .bin .geq (.num) (.t 7) (.t 8)⟩,
  ⟨(some 10), none, .mov (.t 9)⟩,
  ⟨(some 11), (some (3, true)), .mov (.t 0)⟩,
  ⟨(some 12), (some (3, true)), .mov (.t 2)⟩,
  ⟨(some 13), (some (3, true)), .bin .leq (.num) (.t 11) (.t 12)⟩,
  ⟨(some 14), none, .pick (.t 10) (.t 13) (.c (.bool false))⟩,
  ⟨(some 6), none, .mov (.t 14)⟩]) (.ret))
def spec_l1In_r : List RS := [.t 6]
theorem spec_l1In_e {a0 a1 a2 : AV} {h : AH} {K : AV → AH → Prop} (hw : TC Try.prog Θ Γ spec_l1In_c (retQ spec_l1In_r K) ⟨[a0, a1, a2, u, u, u, u, u, u, u, u, u, u, u, u], [], h⟩) : T Try.prog Γ Fn.spec_l1In [a0, a1, a2] h K :=
  T_of_body tabOK Try.func81 (code := bodyOf Try.f81) (by kernel_rfl) (by kernel_rfl) (by kernel_rfl) (by kernel_rfl) hw
def laws_eqGift_c : C := .seq (.reg [⟨(some 2), none, .box (.t 0)⟩,
  ⟨(some 3), none, .box (.t 1)⟩,
  ⟨(some 4), none, .mov (.c (.bool false))⟩]) (.seq (.seq (.reg [⟨(some 5), none, .fld 0 (.t 2)⟩,
  ⟨(some 6), none, .load 1 false (.t 5)⟩,
  ⟨(some 7), none, .fld 0 (.t 3)⟩,
  ⟨(some 8), none, .load 1 false (.t 7)⟩,
  ⟨(some 9), none, .bin .neq (.num) (.t 6) (.t 8)⟩]) (.cond (.t 9) (.seq (.reg [⟨(some 4), none, .mov (.c (.bool false))⟩]) (.ret)) (.skip))) (.seq (.seq (.reg [⟨(some 10), none, .fld 1 (.t 2)⟩,
  ⟨(some 11), none, .load 1 false (.t 10)⟩,
  ⟨(some 12), none, .fld 1 (.t 3)⟩,
  ⟨(some 13), none, .load 1 false (.t 12)⟩,
  ⟨(some 14), none, .bin .neq (.num) (.t 11) (.t 13)⟩]) (.cond (.t 14) (.seq (.reg [⟨(some 4), none, .mov (.c (.bool false))⟩]) (.ret)) (.skip))) (.seq (.seq (.reg [⟨(some 15), none, .fld 2 (.t 2)⟩,
  ⟨(some 16), none, .load 1 false (.t 15)⟩,
  ⟨(some 17), none, .fld 2 (.t 3)⟩,
  ⟨(some 18), none, .load 1 false (.t 17)⟩,
  ⟨(some 19), none, .bin .neq (.num) (.t 16) (.t 18)⟩]) (.cond (.t 19) (.seq (.reg [⟨(some 4), none, .mov (.c (.bool false))⟩]) (.ret)) (.skip))) (.seq (.seq (.reg [⟨(some 20), none, .fld 3 (.t 2)⟩,
  ⟨(some 21), none, .load 1 false (.t 20)⟩,
  ⟨(some 22), none, .fld 3 (.t 3)⟩,
  ⟨(some 23), none, .load 1 false (.t 22)⟩,
  ⟨(some 24), none, .bin .neq (.num) (.t 21) (.t 23)⟩]) (.cond (.t 24) (.seq (.reg [⟨(some 4), none, .mov (.c (.bool false))⟩]) (.ret)) (.skip))) (.seq (.reg [⟨(some 4), none, .mov (.c (.bool true))⟩]) (.ret))))))
def laws_eqGift_r : List RS := [.t 4]
theorem laws_eqGift_e {a0 a1 : AV} {h : AH} {K : AV → AH → Prop} (hw : TC Try.prog Θ Γ laws_eqGift_c (retQ laws_eqGift_r K) ⟨[a0, a1, u, u, u, u, u, u, u, u, u, u, u, u, u, u, u, u, u, u, u, u, u, u, u], [], h⟩) : T Try.prog Γ Fn.laws_eqGift [a0, a1] h K :=
  T_of_body tabOK Try.func83 (code := bodyOf Try.f83) (by kernel_rfl) (by kernel_rfl) (by kernel_rfl) (by kernel_rfl) hw
def spec_BrokenValue_c : C := .seq (.reg [⟨(some 0), none, .alloc [.int .i64 0, .int .i64 0]⟩]) (.seq (.reg [⟨(some 1), none, .build [.int .i64 0, .int .i64 0] [(0, 1, .c (.int .i64 2))]⟩,
  ⟨none, none, .store 2 (.t 0) (.t 1)⟩]) (.ret))
def spec_BrokenValue_r : List RS := [.cell 0 2 true]
theorem spec_BrokenValue_e {h : AH} {K : AV → AH → Prop} (hw : TC Try.prog Θ Γ spec_BrokenValue_c (retQ spec_BrokenValue_r K) ⟨[u, u], [], h⟩) : T Try.prog Γ Fn.spec_BrokenValue [] h K :=
  T_of_body tabOK Try.func85 (code := bodyOf Try.f85) (by kernel_rfl) (by kernel_rfl) (by kernel_rfl) (by kernel_rfl) hw
def laws_toBox_c : C := .seq (.reg [⟨(some 1), none, .box (.t 0)⟩,
  ⟨(some 2), none, .alloc [.int .i64 0, .int .i64 0, .int .i64 0, .int .i64 0]⟩]) (.seq (.reg [⟨(some 3), none, .alloc [.int .i64 0, .int .i64 0, .int .i64 0, .int .i64 0]⟩]) (.seq (.reg [⟨(some 4), none, .fld 0 (.t 1)⟩,
  ⟨(some 5), none, .load 1 false (.t 4)⟩,
  ⟨(some 6), none, .fld 0 (.t 3)⟩,
  ⟨none, none, .store 1 (.t 6) (.t 5)⟩]) (.seq (.reg [⟨(some 7), none, .fld 1 (.t 1)⟩,
  ⟨(some 8), none, .load 1 false (.t 7)⟩,
  ⟨(some 9), none, .fld 1 (.t 3)⟩,
  ⟨none, none, .store 1 (.t 9) (.t 8)⟩]) (.seq (.reg [⟨(some 10), none, .fld 2 (.t 1)⟩,
  ⟨(some 11), none, .load 2 true (.t 10)⟩,
  ⟨(some 12), none, .call (.c (.fn Fn.laws_toValue [] [])) [.t 11]⟩,
  ⟨(some 13), none, .fld 2 (.t 3)⟩,
  ⟨none, none, .store 2 (.t 13) (.t 12)⟩]) (.seq (.reg [⟨(some 14), none, .load 4 true (.t 3)⟩,
  ⟨none, none, .store 4 (.t 2) (.t 14)⟩]) (.ret))))))
def laws_toBox_r : List RS := [.cell 2 4 true]
theorem laws_toBox_e {a0 : AV} {h : AH} {K : AV → AH → Prop} (hw : TC Try.prog Θ Γ laws_toBox_c (retQ laws_toBox_r K) ⟨[a0, u, u, u, u, u, u, u, u, u, u, u, u, u, u], [], h⟩) : T Try.prog Γ Fn.laws_toBox [a0] h K :=
  T_of_body tabOK Try.func86 (code := bodyOf Try.f86) (by kernel_rfl) (by kernel_rfl) (by kernel_rfl) (by kernel_rfl) hw
def laws_eqBox_c : C := .seq (.reg [⟨(some 2), none, .box (.t 0)⟩,
  ⟨(some 3), none, .box (.t 1)⟩,
  ⟨(some 4), none, .mov (.c (.bool false))⟩]) (.seq (.seq (.reg [⟨(some 5), none, .fld 0 (.t 2)⟩,
  ⟨(some 6), none, .load 1 false (.t 5)⟩,
  ⟨(some 7), none, .fld 0 (.t 3)⟩,
  ⟨(some 8), none, .load 1 false (.t 7)⟩,
  ⟨(some 9), none, .bin .neq (.num) (.t 6) (.t 8)⟩]) (.cond (.t 9) (.seq (.reg [⟨(some 4), none, .mov (.c (.bool false))⟩]) (.ret)) (.skip))) (.seq (.seq (.reg [⟨(some 10), none, .fld 1 (.t 2)⟩,
  ⟨(some 11), none, .load 1 false (.t 10)⟩,
  ⟨(some 12), none, .fld 1 (.t 3)⟩,
  ⟨(some 13), none, .load 1 false (.t 12)⟩,
  ⟨(some 14), none, .bin .neq (.num) (.t 11) (.t 13)⟩]) (.cond (.t 14) (.seq (.reg [⟨(some 4), none, .mov (.c (.bool false))⟩]) (.ret)) (.skip))) (.seq (.seq (.reg [⟨(some 15), none, .fld 2 (.t 2)⟩,
  ⟨(some 16), none, .load 2 true (.t 15)⟩,
  ⟨(some 17), none, .fld 2 (.t 3)⟩,
  ⟨(some 18), none, .load 2 true (.t 17)⟩,
  ⟨(some 19), none, .call (.c (.fn Fn.laws_eqValue [] [])) [.t 16, .t 18]⟩,
  ⟨(some 20), none, .un .not (.t 19)⟩]) (.cond (.t 20) (.seq (.reg [⟨(some 4), none, .mov (.c (.bool false))⟩]) (.ret)) (.skip))) (.seq (.reg [⟨(some 4), none, .mov (.c (.bool true))⟩]) (.ret)))))
def laws_eqBox_r : List RS := [.t 4]
theorem laws_eqBox_e {a0 a1 : AV} {h : AH} {K : AV → AH → Prop} (hw : TC Try.prog Θ Γ laws_eqBox_c (retQ laws_eqBox_r K) ⟨[a0, a1, u, u, u, u, u, u, u, u, u, u, u, u, u, u, u, u, u, u, u], [], h⟩) : T Try.prog Γ Fn.laws_eqBox [a0, a1] h K :=
  T_of_body tabOK Try.func89 (code := bodyOf Try.f89) (by kernel_rfl) (by kernel_rfl) (by kernel_rfl) (by kernel_rfl) hw
def laws_eqWireS_d0_os : List O := [⟨(some 17), none, .mov (.t 0)⟩,
  ⟨(some 18), none, .mov (.t 5)⟩,
  ⟨(some 19), none, .idxs 2 (.t 17) (.t 18)⟩,
  ⟨(some 20), none, .load 2 true (.t 19)⟩,
  ⟨(some 21), none, .mov (.t 1)⟩,
  ⟨(some 22), none, .mov (.t 5)⟩,
  ⟨(some 23), none, .idxs 2 (.t 21) (.t 22)⟩,
  ⟨(some 24), none, .load 2 true (.t 23)⟩,
  ⟨(some 25), none, .call (.c (.fn Fn.laws_eqWire [] [])) [.t 20, .t 24]⟩,
  ⟨(some 26), none, .un .not (.t 25)⟩]
def laws_eqWireS_d0_af : List (List Nat) := [[], [], [0, 1], [2], [], [], [4, 5], [6], [3, 7], [8]]
theorem laws_eqWireS_d0_q (gl : Gl) (Q : AE → St → Prop) (s : St) : aw Try.prog Θ Γ gl (.regD laws_eqWireS_d0_os laws_eqWireS_d0_af) Q s = awpT Try.prog Γ gl [⟨(some 17), none, .mov (.t 0)⟩,
  ⟨(some 18), none, .mov (.t 5)⟩,
  ⟨(some 19), none, .idxs 2 (.t 17) (.t 18)⟩,
  ⟨(some 20), none, .load 2 true (.t 19)⟩,
  ⟨(some 21), none, .mov (.t 1)⟩,
  ⟨(some 22), none, .mov (.t 5)⟩,
  ⟨(some 23), none, .idxs 2 (.t 21) (.t 22)⟩,
  ⟨(some 24), none, .load 2 true (.t 23)⟩,
  ⟨(some 25), none, .call (.c (.fn Fn.laws_eqWire [] [])) [.t 20, .t 24]⟩,
  ⟨(some 26), none, .un .not (.t 25)⟩] (Q .normal) 10 (.q 0 (.q 1 (.q 2 (.q 3 (.q 4 (.q 5 (.q 6 (.q 7 (.q 8 (.q 9 (.done))))))))))) s := a_dd rfl (by kernel_rfl) gl Q s
def laws_eqWireS_c : C := .seq (.reg [⟨(some 4), none, .mov (.c (.bool false))⟩]) (.seq (.seq (.reg [⟨(some 6), none, .mov (.t 0)⟩,
  ⟨(some 7), none, .len false (.t 6)⟩,
  ⟨(some 8), none, .mov (.t 1)⟩,
  ⟨(some 9), none, .len false (.t 8)⟩,
  ⟨(some 10), none, .bin .neq (.num) (.t 7) (.t 9)⟩]) (.cond (.t 10) (.seq (.reg [⟨(some 4), none, .mov (.c (.bool false))⟩]) (.ret)) (.skip))) (.seq (.seq (.reg [⟨(some 5), none, .mov (.c (.int .i64 0))⟩]) (.block 0 (.loop (.seq (.seq (.reg [⟨(some 11), none, .mov (.t 5)⟩,
  ⟨(some 12), none, .mov (.t 0)⟩,
  ⟨(some 13), none, .len false (.t 12)⟩,
  ⟨(some 14), none, .bin .lss (.num) (.t 11) (.t 13)⟩]) (.cond (.t 14) (.skip) (.exit 0))) (.seq (.block 1 (.seq (.regD laws_eqWireS_d0_os laws_eqWireS_d0_af) (.cond (.t 26) (.seq (.reg [⟨(some 4), none, .mov (.c (.bool false))⟩]) (.ret)) (.skip)))) (.reg [⟨(some 15), none, .mov (.t 5)⟩,
  ⟨(some 16), none, .bin .add (.num) (.t 15) (.c (.int .i64 1))⟩,
  ⟨(some 5), none, .mov (.t 16)⟩])))))) (.seq (.reg [⟨(some 4), none, .mov (.c (.bool true))⟩]) (.ret))))
def laws_eqWireS_r : List RS := [.t 4]
def laws_eqWireS_s0 (t0 t1 t5 : AV) (loc : List (List AV)) (h : AH) : St := ⟨[t0, t1, .any, .any, .any, t5, .any, .any, .any, .any, .any, .any, .any, .any, .any, .any, .any, .any, .any, .any, .any, .any, .any, .any, .any, .any, .any], loc, h⟩
theorem laws_eqWireS_e {a0 a1 : AV} {h : AH} {K : AV → AH → Prop} (hw : TC Try.prog Θ Γ laws_eqWireS_c (retQ laws_eqWireS_r K) ⟨[a0, a1, u, u, u, u, u, u, u, u, u, u, u, u, u, u, u, u, u, u, u, u, u, u, u, u, u], [], h⟩) : T Try.prog Γ Fn.laws_eqWireS [a0, a1] h K :=
  T_of_body tabOK Try.func90 (code := bodyOf Try.f90) (by kernel_rfl) (by kernel_rfl) (by kernel_rfl) (by kernel_rfl) hw
def laws_eqWire_c : C := .seq (.reg [⟨(some 2), none, .box (.t 0)⟩,
  ⟨(some 3), none, .box (.t 1)⟩,
  ⟨(some 4), none, .mov (.c (.bool false))⟩]) (.seq (.seq (.reg [⟨(some 5), none, .fld 0 (.t 2)⟩,
  ⟨(some 6), none, .load 1 false (.t 5)⟩,
  ⟨(some 7), none, .fld 0 (.t 3)⟩,
  ⟨(some 8), none, .load 1 false (.t 7)⟩,
  ⟨(some 9), none, .bin .neq (.num) (.t 6) (.t 8)⟩]) (.cond (.t 9) (.seq (.reg [⟨(some 4), none, .mov (.c (.bool false))⟩]) (.ret)) (.skip))) (.seq (.seq (.reg [⟨(some 10), none, .fld 1 (.t 2)⟩,
  ⟨(some 11), none, .load 1 false (.t 10)⟩,
  ⟨(some 12), none, .fld 1 (.t 3)⟩,
  ⟨(some 13), none, .load 1 false (.t 12)⟩,
  ⟨(some 14), none, .bin .neq (.num) (.t 11) (.t 13)⟩]) (.cond (.t 14) (.seq (.reg [⟨(some 4), none, .mov (.c (.bool false))⟩]) (.ret)) (.skip))) (.seq (.reg [⟨(some 4), none, .mov (.c (.bool true))⟩]) (.ret))))
def laws_eqWire_r : List RS := [.t 4]
theorem laws_eqWire_e {a0 a1 : AV} {h : AH} {K : AV → AH → Prop} (hw : TC Try.prog Θ Γ laws_eqWire_c (retQ laws_eqWire_r K) ⟨[a0, a1, u, u, u, u, u, u, u, u, u, u, u, u, u], [], h⟩) : T Try.prog Γ Fn.laws_eqWire [a0, a1] h K :=
  T_of_body tabOK Try.func91 (code := bodyOf Try.f91) (by kernel_rfl) (by kernel_rfl) (by kernel_rfl) (by kernel_rfl) hw
def laws_eqTag_c : C := .seq (.reg [⟨(some 2), none, .box (.t 0)⟩,
  ⟨(some 3), none, .box (.t 1)⟩,
  ⟨(some 4), none, .mov (.c (.bool false))⟩]) (.seq (.seq (.reg [⟨(some 5), none, .fld 0 (.t 2)⟩,
  ⟨(some 6), none, .load 1 false (.t 5)⟩,
  ⟨(some 7), none, .fld 0 (.t 3)⟩,
  ⟨(some 8), none, .load 1 false (.t 7)⟩,
  ⟨(some 9), none, .bin .neq (.num) (.t 6) (.t 8)⟩]) (.cond (.t 9) (.seq (.reg [⟨(some 4), none, .mov (.c (.bool false))⟩]) (.ret)) (.skip))) (.seq (.seq (.reg [⟨(some 10), none, .fld 1 (.t 2)⟩,
  ⟨(some 11), none, .load 1 false (.t 10)⟩,
  ⟨(some 12), none, .fld 1 (.t 3)⟩,
  ⟨(some 13), none, .load 1 false (.t 12)⟩,
  ⟨(some 14), none, .bin .neq (.num) (.t 11) (.t 13)⟩]) (.cond (.t 14) (.seq (.reg [⟨(some 4), none, .mov (.c (.bool false))⟩]) (.ret)) (.skip))) (.seq (.seq (.reg [⟨(some 15), none, .fld 2 (.t 2)⟩,
  ⟨(some 16), none, .load 1 false (.t 15)⟩,
  ⟨(some 17), none, .fld 2 (.t 3)⟩,
  ⟨(some 18), none, .load 1 false (.t 17)⟩,
  ⟨(some 19), none, .bin .neq (.num) (.t 16) (.t 18)⟩]) (.cond (.t 19) (.seq (.reg [⟨(some 4), none, .mov (.c (.bool false))⟩]) (.ret)) (.skip))) (.seq (.reg [⟨(some 4), none, .mov (.c (.bool true))⟩]) (.ret)))))
def laws_eqTag_r : List RS := [.t 4]
theorem laws_eqTag_e {a0 a1 : AV} {h : AH} {K : AV → AH → Prop} (hw : TC Try.prog Θ Γ laws_eqTag_c (retQ laws_eqTag_r K) ⟨[a0, a1, u, u, u, u, u, u, u, u, u, u, u, u, u, u, u, u, u, u], [], h⟩) : T Try.prog Γ Fn.laws_eqTag [a0, a1] h K :=
  T_of_body tabOK Try.func92 (code := bodyOf Try.f92) (by kernel_rfl) (by kernel_rfl) (by kernel_rfl) (by kernel_rfl) hw
def laws_markWireS_c : C := .seq (.reg [⟨(some 4), none, .mov (.c (.int .i64 0))⟩]) (.seq (.seq (.reg [⟨(some 5), none, .mov (.c (.int .i64 0))⟩]) (.block 0 (.loop (.seq (.seq (.reg [⟨(some 6), none, .mov (.t 5)⟩,
  ⟨(some 7), none, .mov (.t 0)⟩,
  ⟨(some 8), none, .len false (.t 7)⟩,
  ⟨(some 9), none, .bin .lss (.num) (.t 6) (.t 8)⟩]) (.cond (.t 9) (.skip) (.exit 0))) (.seq (.block 1 (.seq (.reg [⟨(some 12), none, .mov (.t 0)⟩,
  ⟨(some 13), none, .mov (.t 5)⟩,
  ⟨(some 14), none, .mov (.t 1)⟩,
  ⟨(some 15), none, .idxs 2 (.t 12) (.t 13)⟩,
  ⟨(some 16), none, .fld 0 (.t 15)⟩,
  ⟨none, none, .store 1 (.t 16) (.t 14)⟩]) (.seq (.reg [⟨(some 17), none, .mov (.t 1)⟩,
  ⟨(some 18), none, .bin .add (.num) (.t 17) (.c (.int .i64 1))⟩,
  ⟨(some 1), none, .mov (.t 18)⟩]) (.seq (.reg [⟨(some 19), none, .mov (.t 0)⟩,
  ⟨(some 20), none, .mov (.t 5)⟩,
  ⟨(some 21), none, .mov (.t 1)⟩,
  ⟨(some 22), none, .idxs 2 (.t 19) (.t 20)⟩,
  ⟨(some 23), none, .fld 1 (.t 22)⟩,
  ⟨none, none, .store 1 (.t 23) (.t 21)⟩]) (.reg [⟨(some 24), none, .mov (.t 1)⟩,
  ⟨(some 25), none, .bin .add (.num) (.t 24) (.c (.int .i64 1))⟩,
  ⟨(some 1), none, .mov (.t 25)⟩]))))) (.reg [⟨(some 10), none, .mov (.t 5)⟩,
  ⟨(some 11), none, .bin .add (.num) (.t 10) (.c (.int .i64 1))⟩,
  ⟨(some 5), none, .mov (.t 11)⟩])))))) (.seq (.reg [⟨(some 26), none, .mov (.t 1)⟩,
  ⟨(some 4), none, .mov (.t 26)⟩]) (.ret)))
def laws_markWireS_r : List RS := [.t 4]
def laws_markWireS_s0 (t0 t1 t5 : AV) (loc : List (List AV)) (h : AH) : St := ⟨[t0, t1, .any, .any, .any, t5, .any, .any, .any, .any, .any, .any, .any, .any, .any, .any, .any, .any, .any, .any, .any, .any, .any, .any, .any, .any, .any], loc, h⟩
theorem laws_markWireS_e {a0 a1 : AV} {h : AH} {K : AV → AH → Prop} (hw : TC Try.prog Θ Γ laws_markWireS_c (retQ laws_markWireS_r K) ⟨[a0, a1, u, u, u, u, u, u, u, u, u, u, u, u, u, u, u, u, u, u, u, u, u, u, u, u, u], [], h⟩) : T Try.prog Γ Fn.laws_markWireS [a0, a1] h K :=
  T_of_body tabOK Try.func93 (code := bodyOf Try.f93) (by kernel_rfl) (by kernel_rfl) (by kernel_rfl) (by kernel_rfl) hw
def laws_heldWireS_c : C := .seq (.reg [⟨(some 4), none, .mov (.c (.int .i64 0))⟩]) (.seq (.seq (.reg [⟨(some 5), none, .mov (.c (.int .i64 0))⟩]) (.block 0 (.loop (.seq (.seq (.reg [⟨(some 6), none, .mov (.t 5)⟩,
  ⟨(some 7), none, .mov (.t 0)⟩,
  ⟨(some 8), none, .len false (.t 7)⟩,
  ⟨(some 9), none, .bin .lss (.num) (.t 6) (.t 8)⟩]) (.cond (.t 9) (.skip) (.exit 0))) (.seq (.block 1 (.seq (.seq (.reg [⟨(some 12), none, .mov (.t 0)⟩,
  ⟨(some 13), none, .mov (.t 5)⟩,
  ⟨(some 14), none, .idxs 2 (.t 12) (.t 13)⟩,
  ⟨(some 15), none, .fld 0 (.t 14)⟩,
  ⟨(some 16), none, .load 1 false (.t 15)⟩,
  ⟨(some 17), none, .mov (.t 1)⟩,
  ⟨(some 18), none, .bin .neq (.num) (.t 16) (.t 17)⟩]) (.cond (.t 18) (.seq (.reg [⟨(some 4), none, .mov (.c (.int .i64 (-1)))⟩]) (.ret)) (.skip))) (.seq (.reg [⟨(some 19), none, .mov (.t 1)⟩,
  ⟨(some 20), none, .bin .add (.num) (.t 19) (.c (.int .i64 1))⟩,
  ⟨(some 1), none, .mov (.t 20)⟩]) (.seq (.seq (.reg [⟨(some 21), none, .mov (.t 0)⟩,
  ⟨(some 22), none, .mov (.t 5)⟩,
  ⟨(some 23), none, .idxs 2 (.t 21) (.t 22)⟩,
  ⟨(some 24), none, .fld 1 (.t 23)⟩,
  ⟨(some 25), none, .load 1 false (.t 24)⟩,
  ⟨(some 26), none, .mov (.t 1)⟩,
  ⟨(some 27), none, .bin .neq (.num) (.t 25) (.t 26)⟩]) (.cond (.t 27) (.seq (.reg [⟨(some 4), none, .mov (.c (.int .i64 (-1)))⟩]) (.ret)) (.skip))) (.reg [⟨(some 28), none, .mov (.t 1)⟩,
  ⟨(some 29), none, .bin .add (.num) (.t 28) (.c (.int .i64 1))⟩,
  ⟨(some 1), none, .mov (.t 29)⟩]))))) (.reg [⟨(some 10), none, .mov (.t 5)⟩,
  ⟨(some 11), none, .bin .add (.num) (.t 10) (.c (.int .i64 1))⟩,
  ⟨(some 5), none, .mov (.t 11)⟩])))))) (.seq (.reg [⟨(some 30), none, .mov (.t 1)⟩,
  ⟨(some 4), none, .mov (.t 30)⟩]) (.ret)))
def laws_heldWireS_r : List RS := [.t 4]
def laws_heldWireS_s0 (t0 t1 t5 : AV) (loc : List (List AV)) (h : AH) : St := ⟨[t0, t1, .any, .any, .any, t5, .any, .any, .any, .any, .any, .any, .any, .any, .any, .any, .any, .any, .any, .any, .any, .any, .any, .any, .any, .any, .any, .any, .any, .any, .any], loc, h⟩
theorem laws_heldWireS_e {a0 a1 : AV} {h : AH} {K : AV → AH → Prop} (hw : TC Try.prog Θ Γ laws_heldWireS_c (retQ laws_heldWireS_r K) ⟨[a0, a1, u, u, u, u, u, u, u, u, u, u, u, u, u, u, u, u, u, u, u, u, u, u, u, u, u, u, u, u, u], [], h⟩) : T Try.prog Γ Fn.laws_heldWireS [a0, a1] h K :=
  T_of_body tabOK Try.func94 (code := bodyOf Try.f94) (by kernel_rfl) (by kernel_rfl) (by kernel_rfl) (by kernel_rfl) hw
def spec_l1New_c : C := .seq (.reg [⟨(some 2), none, .mov (.c (.nilp))⟩]) (.seq (.reg [⟨(some 5), none, .mov (.t 0)⟩,
  ⟨(some 6), none, .len false (.t 5)⟩,
  ⟨(some 7), none, .bin .add (.num) (.c (.int .i64 193017)) (.t 6)⟩,
  ⟨(some 3), none, .mov (.t 7)⟩]) (.seq (.seq (.reg [⟨(some 4), none, .mov (.c (.int .i64 0))⟩]) (.block 0 (.loop (.seq (.seq (.reg [⟨(some 8), none, .mov (.t 4)⟩,
  ⟨(some 9), none, .mov (.t 0)⟩,
  ⟨(some 10), none, .len false (.t 9)⟩,
  ⟨(some 11), none, .bin .lss (.num) (.t 8) (.t 10)⟩,
  ⟨(some 12), none, .mov (.t 11)⟩,
  ⟨(some 13), (some (4, true)), .mov (.t 4)⟩,
  ⟨(some 14), (some (4, true)), .bin .lss (.num) (.t 13) (.c (.int .i64 4000))⟩,
  ⟨(some 15), none, .pick (.t 12) (.t 14) (.c (.bool false))⟩]) (.cond (.t 15) (.skip) (.exit 0))) (.seq (.block 1 (.reg [⟨(some 18), none, .mov (.t 3)⟩,
  ⟨(some 19), none, .bin .mul (.num) (.t 18) (.c (.int .i64 137))⟩,
  ⟨(some 20), none, .mov (.t 0)⟩,
  ⟨(some 21), none, .mov (.t 4)⟩,
  ⟨(some 22), none, .idxs 1 (.t 20) (.t 21)⟩,
  ⟨(some 23), none, .load 1 false (.t 22)⟩,
  ⟨(some 24), none, .cvi .i64 (.t 23)⟩,
  ⟨(some 25), none, .bin .add (.num) (.t 19) (.t 24)⟩,
  ⟨(some 26), none, .bin .add (.num) (.t 25) (.c (.int .i64 11))⟩,
  ⟨(some 27), none, .bin .and (.num) (.t 26) (.c (.int .i64 1073741823))⟩,
  ⟨(some 3), none, .mov (.t 27)⟩])) (.reg [⟨(some 16), none, .mov (.t 4)⟩,
  ⟨(some 17), none, .bin .add (.num) (.t 16) (.c (.int .i64 1))⟩,
  ⟨(some 4), none, .mov (.t 17)⟩])))))) (.seq (.reg [⟨(some 28), none, .mov (.t 0)⟩,
  ⟨(some 29), none, .mov (.t 3)⟩,
  ⟨(some 30), none, .build [.nils, .int .i64 0, .int .i64 0] [(0, 1, .t 28), (2, 1, .t 29)]⟩,
  ⟨(some 31), none, .box (.t 30)⟩,
  ⟨(some 2), none, .mov (.t 31)⟩]) (.ret))))
def spec_l1New_r : List RS := [.t 2]
def spec_l1New_s0 (t0 t3 t4 : AV) (loc : List (List AV)) (h : AH) : St := ⟨[t0, .any, .any, t3, t4, .any, .any, .any, .any, .any, .any, .any, .any, .any, .any, .any, .any, .any, .any, .any, .any, .any, .any, .any, .any, .any, .any, .any, .any, .any, .any, .any], loc, h⟩
theorem spec_l1New_e {a0 : AV} {h : AH} {K : AV → AH → Prop} (hw : TC Try.prog Θ Γ spec_l1New_c (retQ spec_l1New_r K) ⟨[a0, u, u, u, u, u, u, u, u, u, u, u, u, u, u, u, u, u, u, u, u, u, u, u, u, u, u, u, u, u, u, u], [], h⟩) : T Try.prog Γ Fn.spec_l1New [a0] h K :=
  T_of_body tabOK Try.func98 (code := bodyOf Try.f98) (by kernel_rfl) (by kernel_rfl) (by kernel_rfl) (by kernel_rfl) hw
def spec_l3Word_c : C := .seq (.reg [⟨(some 2), none, .mov (.c (.int .i64 0))⟩]) (.seq (.seq (.reg [⟨(some 3), none, .mov (.t 0)⟩,
  ⟨(some 4), none, .call (.c (.fn Fn.spec_l1Once [] [])) [.t 3, .c (.int .i64 10)]⟩]) (.cond (.t 4) (.seq (.reg [⟨(some 5), none, .mov (.t 0)⟩,
  ⟨(some 6), none, .bsl 1 3 [.int .i64 0] [(0, .c (.int .i64 (-1))), (1, .c (.int .i64 2147483647)), (2, .c (.int .i64 2147483648))]⟩,
  ⟨(some 7), none, .call (.c (.fn Fn.spec_l1Int [] [])) [.t 5, .t 6]⟩,
  ⟨(some 2), none, .mov (.t 7)⟩]) (.ret)) (.skip))) (.seq (.seq (.reg [⟨(some 8), none, .mov (.t 0)⟩,
  ⟨(some 9), none, .call (.c (.fn Fn.spec_l1Once [] [])) [.t 8, .c (.int .i64 4)]⟩]) (.cond (.t 9) (.seq (.reg [⟨(some 10), none, .mov (.t 0)⟩,
  ⟨(some 11), none, .bsl 1 3 [.int .i64 0] [(0, .c (.int .i64 0)), (1, .c (.int .i64 1)), (2, .c (.int .i64 2147483646))]⟩,
  ⟨(some 12), none, .call (.c (.fn Fn.spec_l1Int [] [])) [.t 10, .t 11]⟩,
  ⟨(some 2), none, .mov (.t 12)⟩]) (.ret)) (.skip))) (.seq (.reg [⟨(some 13), none, .mov (.t 0)⟩,
  ⟨(some 14), none, .call (.c (.fn Fn.spec_l1Below [] [])) [.t 13, .c (.int .i64 1000000)]⟩,
  ⟨(some 15), none, .mov (.t 0)⟩,
  ⟨(some 16), none, .call (.c (.fn Fn.spec_l1Below [] [])) [.t 15, .c (.int .i64 2000)]⟩,
  ⟨(some 17), none, .bin .mul (.num) (.t 14) (.t 16)⟩,
  ⟨(some 2), none, .mov (.t 17)⟩]) (.ret))))
def spec_l3Word_r : List RS := [.t 2]
theorem spec_l3Word_e {a0 : AV} {h : AH} {K : AV → AH → Prop} (hw : TC Try.prog Θ Γ spec_l3Word_c (retQ spec_l3Word_r K) ⟨[a0, u, u, u, u, u, u, u, u, u, u, u, u, u, u, u, u, u], [], h⟩) : T Try.prog Γ Fn.spec_l3Word [a0] h K :=
  T_of_body tabOK Try.func99 (code := bodyOf Try.f99) (by kernel_rfl) (by kernel_rfl) (by kernel_rfl) (by kernel_rfl) hw
def spec_l3Words_c : C := .seq (.reg [⟨(some 2), none, .mov (.c (.nils))⟩]) (.seq (.reg [⟨(some 5), none, .bsl 1 0 [.int .i64 0] []⟩,
  ⟨(some 3), none, .mov (.t 5)⟩]) (.seq (.seq (.reg [⟨(some 6), none, .mov (.t 0)⟩,
  ⟨(some 7), none, .call (.c (.fn Fn.spec_l1Below [] [])) [.t 6, .c (.int .i64 5)]⟩,
  ⟨(some 4), none, .mov (.t 7)⟩]) (.block 0 (.loop (.seq (.seq (.reg [⟨(some 8), none, .mov (.t 4)⟩,
  ⟨(some 9), none, .bin .gtr (.num) (.t 8) (.c (.int .i64 0))⟩]) (.cond (.t 9) (.skip) (.exit 0))) (.seq (.block 1 (.reg [⟨(some 12), none, .mov (.t 3)⟩,
  ⟨(some 13), none, .mov (.t 0)⟩,
  ⟨(some 14), none, .call (.c (.fn Fn.spec_l3Word [] [])) [.t 13]⟩,
  ⟨(some 15), none, .bsl 1 1 [.int .i64 0] [(0, .t 14)]⟩,
  ⟨(some 16), none, .app 1 8 [.int .i64 0] false (.t 12) (.t 15)⟩,
  ⟨(some 3), none, .mov (.t 16)⟩])) (.reg [⟨(some 10), none, .mov (.t 4)⟩,
  ⟨(some 11), none, .bin .sub (.num) (.t 10) (.c (.int .i64 1))⟩,
  ⟨(some 4), none, .mov (.t 11)⟩])))))) (.seq (.reg [⟨(some 17), none, .mov (.t 3)⟩,
  ⟨(some 2), none, .mov (.t 17)⟩]) (.ret))))
def spec_l3Words_r : List RS := [.t 2]
def spec_l3Words_s0 (t0 t3 t4 : AV) (loc : List (List AV)) (h : AH) : St := ⟨[t0, .any, .any, t3, t4, .any, .any, .any, .any, .any, .any, .any, .any, .any, .any, .any, .any, .any], loc, h⟩
theorem spec_l3Words_e {a0 : AV} {h : AH} {K : AV → AH → Prop} (hw : TC Try.prog Θ Γ spec_l3Words_c (retQ spec_l3Words_r K) ⟨[a0, u, u, u, u, u, u, u, u, u, u, u, u, u, u, u, u, u], [], h⟩) : T Try.prog Γ Fn.spec_l3Words [a0] h K :=
  T_of_body tabOK Try.func100 (code := bodyOf Try.f100) (by kernel_rfl) (by kernel_rfl) (by kernel_rfl) (by kernel_rfl) hw
def slices_Concat_iint_int_c : C := .seq (.reg [⟨(some 2), none, .mov (.c (.nils))⟩]) (.seq (.reg [⟨(some 3), none, .mov (.c (.int .i64 0))⟩]) (.seq (.seq (.reg [⟨(some 9), none, .mov (.t 0)⟩,
  ⟨(some 10), none, .len false (.t 9)⟩,
  ⟨(some 11), none, .mov (.c (.int .i64 0))⟩]) (.block 0 (.loop (.seq (.reg [⟨(some 12), none, .bin .lss (.num) (.t 11) (.t 10)⟩]) (.seq (.cond (.t 12) (.skip) (.exit 0)) (.seq (.block 1 (.seq (.reg [⟨(some 13), none, .idxs 1 (.t 9) (.t 11)⟩,
  ⟨(some 14), none, .load 1 false (.t 13)⟩,
  ⟨(some 5), none, .mov (.t 14)⟩]) (.seq (.reg [⟨(some 15), none, .mov (.t 3)⟩,
  ⟨(some 16), none, .mov (.t 5)⟩,
  ⟨(some 17), none, .len false (.t 16)⟩,
  ⟨(some 18), none, .bin .add (.num) (.t 15) (.t 17)⟩,
  ⟨(some 3), none, .mov (.t 18)⟩]) (.seq (.reg [⟨(some 19), none, .mov (.t 3)⟩,
  ⟨(some 20), none, .bin .lss (.num) (.t 19) (.c (.int .i64 0))⟩]) (.cond (.t 20) (.reg [⟨(some 21), none, .bad⟩,
  ⟨none, none, .bad⟩]) (.skip)))))) (.reg [⟨(some 22), none, .bin .add (.num) (.t 11) (.c (.int .i64 1))⟩,
  ⟨(some 11), none, .mov (.t 22)⟩]))))))) (.seq (.reg [⟨(some 23), none, .mov (.t 3)⟩,
  ⟨(some 24), none, .call (.c (.fn Fn.slices_Grow_iint_int [] [])) [.c (.nils), .t 23]⟩,
  ⟨(some 6), none, .mov (.t 24)⟩]) (.seq (.seq (.reg [⟨(some 25), none, .mov (.t 0)⟩,
  ⟨(some 26), none, .len false (.t 25)⟩,
  ⟨(some 27), none, .mov (.c (.int .i64 0))⟩]) (.block 2 (.loop (.seq (.reg [⟨(some 28), none, .bin .lss (.num) (.t 27) (.t 26)⟩]) (.seq (.cond (.t 28) (.skip) (.exit 2)) (.seq (.block 3 (.seq (.reg [⟨(some 29), none, .idxs 1 (.t 25) (.t 27)⟩,
  ⟨(some 30), none, .load 1 false (.t 29)⟩,
  ⟨(some 8), none, .mov (.t 30)⟩]) (.reg [⟨(some 31), none, .mov (.t 6)⟩,
  ⟨(some 32), none, .mov (.t 8)⟩,
  ⟨(some 33), none, .app 1 8 [.int .i64 0] false (.t 31) (.t 32)⟩,
  ⟨(some 6), none, .mov (.t 33)⟩]))) (.reg [⟨(some 34), none, .bin .add (.num) (.t 27) (.c (.int .i64 1))⟩,
  ⟨(some 27), none, .mov (.t 34)⟩]))))))) (.seq (.reg [⟨(some 35), none, .mov (.t 6)⟩,
  ⟨(some 2), none, .mov (.t 35)⟩]) (.ret))))))
def slices_Concat_iint_int_r : List RS := [.t 2]
def slices_Concat_iint_int_s0 (t0 t3 t9 t10 t11 : AV) (loc : List (List AV)) (h : AH) : St := ⟨[t0, .any, .any, t3, .any, .any, .any, .any, .any, t9, t10, t11, .any, .any, .any, .any, .any, .any, .any, .any, .any, .any, .any, .any, .any, .any, .any, .any, .any, .any, .any, .any, .any, .any, .any, .any], loc, h⟩
def slices_Concat_iint_int_s1 (t6 t25 t26 t27 : AV) (loc : List (List AV)) (h : AH) : St := ⟨[.any, .any, .any, .any, .any, .any, t6, .any, .any, .any, .any, .any, .any, .any, .any, .any, .any, .any, .any, .any, .any, .any, .any, .any, .any, t25, t26, t27, .any, .any, .any, .any, .any, .any, .any, .any], loc, h⟩
theorem slices_Concat_iint_int_e {a0 : AV} {h : AH} {K : AV → AH → Prop} (hw : TC Try.prog Θ Γ slices_Concat_iint_int_c (retQ slices_Concat_iint_int_r K) ⟨[a0, u, u, u, u, u, u, u, u, u, u, u, u, u, u, u, u, u, u, u, u, u, u, u, u, u, u, u, u, u, u, u, u, u, u, u], [], h⟩) : T Try.prog Γ Fn.slices_Concat_iint_int [a0] h K :=
  T_of_body tabOK Try.func101 (code := bodyOf Try.f101) (by kernel_rfl) (by kernel_rfl) (by kernel_rfl) (by kernel_rfl) hw
def impl_Mod_c : C := .seq (.reg [⟨(some 4), none, .mov (.c (.int .i64 0))⟩]) (.seq (.seq (.reg [⟨(some 5), none, .mov (.t 1)⟩,
  ⟨(some 6), none, .call (.c (.fn Fn.impl_in [] [])) [.t 5, .c (.int .i64 1), .c (.int .i64 1000000000000)]⟩,
  ⟨(some 7), none, .un .not (.t 6)⟩]) (.cond (.t 7) (.seq (.reg [⟨(some 4), none, .mov (.c (.int .i64 0))⟩]) (.ret)) (.skip))) (.seq (.reg [⟨(some 8), none, .mov (.t 0)⟩,
  ⟨(some 9), none, .mov (.t 1)⟩,
  ⟨(some 10), none, .bin .rem (.num) (.t 8) (.t 9)⟩,
  ⟨(some 11), none, .mov (.t 1)⟩,
  ⟨(some 12), none, .bin .add (.num) (.t 10) (.t 11)⟩,
  ⟨(some 13), none, .mov (.t 1)⟩,
  ⟨(some 14), none, .bin .rem (.num) (.t 12) (.t 13)⟩,
  ⟨(some 4), none, .mov (.t 14)⟩]) (.ret)))
def impl_Mod_r : List RS := [.t 4]
theorem impl_Mod_e {a0 a1 : AV} {h : AH} {K : AV → AH → Prop} (hw : TC Try.prog Θ Γ impl_Mod_c (retQ impl_Mod_r K) ⟨[a0, a1, u, u, u, u, u, u, u, u, u, u, u, u, u], [], h⟩) : T Try.prog Γ Fn.impl_Mod [a0, a1] h K :=
  T_of_body tabOK Try.func102 (code := bodyOf Try.f102) (by kernel_rfl) (by kernel_rfl) (by kernel_rfl) (by kernel_rfl) hw
def spec_l1Str_c : C := .seq (.reg [⟨(some 4), none, .mov (.c (.str ⟨#[]⟩))⟩]) (.seq (.reg [⟨(some 5), none, .mov (.t 1)⟩,
  ⟨(some 6), none, .mov (.t 0)⟩,
  ⟨(some 7), none, .mov (.t 1)⟩,
  ⟨(some 8), none, .len false (.t 7)⟩,
  ⟨(some 9), none, .call (.c (.fn Fn.spec_l1Below [] [])) [.t 6, .t 8]⟩,
  ⟨(some 10), none, .idxs 1 (.t 5) (.t 9)⟩,
  ⟨(some 11), none, .load 1 false (.t 10)⟩,
  ⟨(some 4), none, .mov (.t 11)⟩]) (.ret))
def spec_l1Str_r : List RS := [.t 4]
theorem spec_l1Str_e {a0 a1 : AV} {h : AH} {K : AV → AH → Prop} (hw : TC Try.prog Θ Γ spec_l1Str_c (retQ spec_l1Str_r K) ⟨[a0, a1, u, u, u, u, u, u, u, u, u, u], [], h⟩) : T Try.prog Γ Fn.spec_l1Str [a0, a1] h K :=
  T_of_body tabOK Try.func103 (code := bodyOf Try.f103) (by kernel_rfl) (by kernel_rfl) (by kernel_rfl) (by kernel_rfl) hw
def impl_in_c : C := .seq (.reg [⟨(some 6), none, .mov (.c (.bool false))⟩]) (.seq (.reg [⟨(some 7), none, .mov (.t 1)⟩,
  ⟨(some 8), none, .mov (.t 0)⟩,
  ⟨(some 9), none, .bin .leq (.num) (.t 7) (.t 8)⟩,
  ⟨(some 10), none, .mov (.t 9)⟩,
  ⟨(some 11), (some (3, true)), .mov (.t 0)⟩,
  ⟨(some 12), (some (3, true)), .mov (.t 2)⟩,
  ⟨(some 13), (some (3, true)), .bin .leq (.num) (.t 11) (.t 12)⟩,
  ⟨(some 14), none, .pick (.t 10) (.t 13) (.c (.bool false))⟩,
  ⟨(some 6), none, .mov (.t 14)⟩]) (.ret))
def impl_in_r : List RS := [.t 6]
theorem impl_in_e {a0 a1 a2 : AV} {h : AH} {K : AV → AH → Prop} (hw : TC Try.prog Θ Γ impl_in_c (retQ impl_in_r K) ⟨[a0, a1, a2, u, u, u, u, u, u, u, u, u, u, u, u], [], h⟩) : T Try.prog Γ Fn.impl_in [a0, a1, a2] h K :=
  T_of_body tabOK Try.func104 (code := bodyOf Try.f104) (by kernel_rfl) (by kernel_rfl) (by kernel_rfl) (by kernel_rfl) hw
def spec_l1Bytes_c : C := .seq (.reg [⟨(some 4), none, .mov (.c (.nils))⟩]) (.seq (.reg [⟨(some 7), none, .bsl 1 0 [.int .u8 0] []⟩,
  ⟨(some 5), none, .mov (.t 7)⟩]) (.seq (.seq (.reg [⟨(some 6), none, .mov (.c (.int .i64 0))⟩]) (.block 0 (.loop (.seq (.seq (.reg [⟨(some 8), none, .mov (.t 6)⟩,
  ⟨(some 9), none, .mov (.t 1)⟩,
  ⟨(some 10), none, .bin .lss (.num) (.t 8) (.t 9)⟩]) (.cond (.t 10) (.skip) (.exit 0))) (.seq (.block 1 (.reg [⟨(some 13), none, .mov (.t 5)⟩,
  ⟨(some 14), none, .mov (.t 0)⟩,
  ⟨(some 15), none, .call (.c (.fn Fn.spec_l1Byte [] [])) [.t 14]⟩,
  ⟨(some 16), none, .cvi .u8 (.t 15)⟩,
  ⟨(some 17), none, .bsl 1 1 [.int .u8 0] [(0, .t 16)]⟩,
  ⟨(some 18), none, .app 1 1 [.int .u8 0] false (.t 13) (.t 17)⟩,
  ⟨(some 5), none, .mov (.t 18)⟩])) (.reg [⟨(some 11), none, .mov (.t 6)⟩,
  ⟨(some 12), none, .bin .add (.num) (.t 11) (.c (.int .i64 1))⟩,
  ⟨(some 6), none, .mov (.t 12)⟩])))))) (.seq (.reg [⟨(some 19), none, .mov (.t 5)⟩,
  ⟨(some 4), none, .mov (.t 19)⟩]) (.ret))))
def spec_l1Bytes_r : List RS := [.t 4]
def spec_l1Bytes_s0 (t0 t1 t5 t6 : AV) (loc : List (List AV)) (h : AH) : St := ⟨[t0, t1, .any, .any, .any, t5, t6, .any, .any, .any, .any, .any, .any, .any, .any, .any, .any, .any, .any, .any], loc, h⟩
theorem spec_l1Bytes_e {a0 a1 : AV} {h : AH} {K : AV → AH → Prop} (hw : TC Try.prog Θ Γ spec_l1Bytes_c (retQ spec_l1Bytes_r K) ⟨[a0, a1, u, u, u, u, u, u, u, u, u, u, u, u, u, u, u, u, u, u], [], h⟩) : T Try.prog Γ Fn.spec_l1Bytes [a0, a1] h K :=
  T_of_body tabOK Try.func106 (code := bodyOf Try.f106) (by kernel_rfl) (by kernel_rfl) (by kernel_rfl) (by kernel_rfl) hw
def spec_l1Below_c : C := .seq (.reg [⟨(some 4), none, .mov (.c (.int .i64 0))⟩]) (.seq (.seq (.reg [⟨(some 8), none, .mov (.t 1)⟩,
  ⟨(some 9), none, .bin .leq (.num) (.t 8) (.c (.int .i64 0))⟩]) (.cond (.t 9) (.seq (.reg [⟨(some 4), none, .mov (.c (.int .i64 0))⟩]) (.ret)) (.skip))) (.seq (.seq (.reg [⟨(some 10), none, .mov (.t 1)⟩,
  ⟨(some 11), none, .bin .leq (.num) (.t 10) (.c (.int .i64 256))⟩]) (.cond (.t 11) (.seq (.reg [⟨(some 12), none, .mov (.t 0)⟩,
  ⟨(some 13), none, .call (.c (.fn Fn.spec_l1Byte [] [])) [.t 12]⟩,
  ⟨(some 14), none, .mov (.t 1)⟩,
  ⟨(some 15), none, .bin .rem (.num) (.t 13) (.t 14)⟩,
  ⟨(some 4), none, .mov (.t 15)⟩]) (.ret)) (.skip))) (.seq (.reg [⟨(some 16), none, .mov (.t 0)⟩,
  ⟨(some 17), none, .call (.c (.fn Fn.spec_l1Byte [] [])) [.t 16]⟩,
  ⟨(some 5), none, .mov (.t 17)⟩]) (.seq (.reg [⟨(some 18), none, .mov (.t 0)⟩,
  ⟨(some 19), none, .call (.c (.fn Fn.spec_l1Byte [] [])) [.t 18]⟩,
  ⟨(some 6), none, .mov (.t 19)⟩]) (.seq (.reg [⟨(some 20), none, .mov (.t 0)⟩,
  ⟨(some 21), none, .call (.c (.fn Fn.spec_l1Byte [] [])) [.t 20]⟩,
  ⟨(some 7), none, .mov (.t 21)⟩]) (.seq (.reg [⟨(some 22), none, .mov (.t 5)⟩,
  ⟨(some 23), none, .bin .mul (.num) (.t 22) (.c (.int .i64 65536))⟩,
  ⟨(some 24), none, .mov (.t 6)⟩,
  ⟨(some 25), none, .bin .mul (.num) (.t 24) (.c (.int .i64 256))⟩,
  ⟨(some 26), none, .bin .add (.num) (.t 23) (.t 25)⟩,
  ⟨(some 27), none, .mov (.t 7)⟩,
  ⟨(some 28), none, .bin .add (.num) (.t 26) (.t 27)⟩,
  ⟨(some 29), none, .mov (.t 1)⟩,
  ⟨(some 30), none, .bin .rem (.num) (.t 28) (.t 29)⟩,
  ⟨(some 4), none, .mov (.t 30)⟩]) (.ret)))))))
def spec_l1Below_r : List RS := [.t 4]
theorem spec_l1Below_e {a0 a1 : AV} {h : AH} {K : AV → AH → Prop} (hw : TC Try.prog Θ Γ spec_l1Below_c (retQ spec_l1Below_r K) ⟨[a0, a1, u, u, u, u, u, u, u, u, u, u, u, u, u, u, u, u, u, u, u, u, u, u, u, u, u, u, u, u, u], [], h⟩) : T Try.prog Γ Fn.spec_l1Below [a0, a1] h K :=
  T_of_body tabOK Try.func107 (code := bodyOf Try.f107) (by kernel_rfl) (by kernel_rfl) (by kernel_rfl) (by kernel_rfl) hw
def impl_AppendUvarint_c : C := .seq (.reg [⟨(some 4), none, .mov (.c (.nils))⟩]) (.seq (.reg [⟨(some 6), none, .mov (.t 0)⟩,
  ⟨(some 7), none, .call (.c (.fn Fn.slices_Clone_ibyte_byte [] [])) [.t 6]⟩,
  ⟨(some 5), none, .mov (.t 7)⟩]) (.seq (.seq (.reg [⟨(some 8), none, .mov (.t 1)⟩,
  ⟨(some 9), none, .call (.c (.fn Fn.impl_in [] [])) [.t 8, .c (.int .i64 0), .c (.int .i64 1000000000000)]⟩,
  ⟨(some 10), none, .un .not (.t 9)⟩]) (.cond (.t 10) (.seq (.reg [⟨(some 11), none, .mov (.t 5)⟩,
  ⟨(some 4), none, .mov (.t 11)⟩]) (.ret)) (.skip))) (.seq (.block 0 (.loop (.seq (.seq (.reg [⟨(some 12), none, .mov (.t 1)⟩,
  ⟨(some 13), none, .bin .geq (.num) (.t 12) (.c (.int .i64 128))⟩]) (.cond (.t 13) (.skip) (.exit 0))) (.seq (.block 1 (.reg [⟨(some 16), none, .mov (.t 5)⟩,
  ⟨(some 17), none, .mov (.t 1)⟩,
  ⟨(some 18), none, .cvi .u8 (.t 17)⟩,
  ⟨(some 19), none, .bin .or (.num) (.t 18) (.c (.int .u8 128))⟩,
  ⟨(some 20), none, .bsl 1 1 [.int .u8 0] [(0, .t 19)]⟩,
  ⟨(some 21), none, .app 1 1 [.int .u8 0] false (.t 16) (.t 20)⟩,
  ⟨(some 5), none, .mov (.t 21)⟩])) (.reg [⟨(some 14), none, .mov (.t 1)⟩,
  ⟨(some 15), none, .bin .shr (.num) (.t 14) (.c (.int .u64 7))⟩,
  ⟨(some 1), none, .mov (.t 15)⟩]))))) (.seq (.reg [⟨(some 22), none, .mov (.t 5)⟩,
  ⟨(some 23), none, .mov (.t 1)⟩,
  ⟨(some 24), none, .cvi .u8 (.t 23)⟩,
  ⟨(some 25), none, .bsl 1 1 [.int .u8 0] [(0, .t 24)]⟩,
  ⟨(some 26), none, .app 1 1 [.int .u8 0] false (.t 22) (.t 25)⟩,
  ⟨(some 4), none, .mov (.t 26)⟩]) (.ret)))))
def impl_AppendUvarint_r : List RS := [.t 4]
def impl_AppendUvarint_s0 (t1 t5 : AV) (loc : List (List AV)) (h : AH) : St := ⟨[.any, t1, .any, .any, .any, t5, .any, .any, .any, .any, .any, .any, .any, .any, .any, .any, .any, .any, .any, .any, .any, .any, .any, .any, .any, .any, .any], loc, h⟩
theorem impl_AppendUvarint_e {a0 a1 : AV} {h : AH} {K : AV → AH → Prop} (hw : TC Try.prog Θ Γ impl_AppendUvarint_c (retQ impl_AppendUvarint_r K) ⟨[a0, a1, u, u, u, u, u, u, u, u, u, u, u, u, u, u, u, u, u, u, u, u, u, u, u, u, u], [], h⟩) : T Try.prog Γ Fn.impl_AppendUvarint [a0, a1] h K :=
  T_of_body tabOK Try.func108 (code := bodyOf Try.f108) (by kernel_rfl) (by kernel_rfl) (by kernel_rfl) (by kernel_rfl) hw
def impl_ReadUvarint_c : C := .seq (.reg [⟨(some 4), none, .mov (.c (.int .i64 0))⟩,
  ⟨(some 5), none, .mov (.c (.int .i64 0))⟩,
  ⟨(some 6), none, .mov (.c (.bool false))⟩]) (.seq (.seq (.reg [⟨(some 10), none, .mov (.t 1)⟩,
  ⟨(some 11), none, .mov (.t 0)⟩,
  ⟨(some 12), none, .len false (.t 11)⟩,
  ⟨(some 13), none, .bin .sub (.num) (.t 12) (.c (.int .i64 1))⟩,
  ⟨(some 14), none, .call (.c (.fn Fn.impl_in [] [])) [.t 10, .c (.int .i64 0), .t 13]⟩,
  ⟨(some 15), none, .un .not (.t 14)⟩]) (.cond (.t 15) (.seq (.reg [⟨(some 4), none, .mov (.c (.int .i64 0))⟩,
  ⟨(some 5), none, .mov (.c (.int .i64 0))⟩,
  ⟨(some 6), none, .mov (.c (.bool false))⟩]) (.ret)) (.skip))) (.seq (.reg [⟨(some 7), none, .mov (.c (.int .i64 0))⟩]) (.seq (.seq (.reg [⟨(some 16), none, .mov (.t 0)⟩,
  ⟨(some 17), none, .mov (.t 1)⟩,
  ⟨(some 18), none, .slice (.sl 1) (.t 16) (some (.t 17)) none none⟩,
  ⟨(some 19), none, .len false (.t 18)⟩,
  ⟨(some 20), none, .mov (.c (.int .i64 0))⟩]) (.block 0 (.loop (.seq (.reg [⟨(some 21), none, .bin .lss (.num) (.t 20) (.t 19)⟩]) (.seq (.cond (.t 21) (.skip) (.exit 0)) (.seq (.block 1 (.seq (.reg [⟨(some 22), none, .mov (.t 20)⟩,
  ⟨(some 23), none, .idxs 1 (.t 18) (.t 20)⟩,
  ⟨(some 24), none, .load 1 false (.t 23)⟩,
  ⟨(some 8), none, .mov (.t 22)⟩,
  ⟨(some 9), none, .mov (.t 24)⟩]) (.seq (.seq (.reg [⟨(some 25), none, .mov (.t 8)⟩,
  ⟨(some 26), none, .bin .eql (.num) (.t 25) (.c (.int .i64 6))⟩]) (.cond (.t 26) (.exit 0) (.skip))) (.seq (.reg [⟨(some 27), none, .mov (.t 7)⟩,
  ⟨(some 28), none, .mov (.t 9)⟩,
  ⟨(some 29), none, .bin .and (.num) (.t 28) (.c (.int .u8 127))⟩,
  ⟨(some 30), none, .cvi .i64 (.t 29)⟩,
  ⟨(some 31), none, .mov (.t 8)⟩,
  ⟨(some 32), none, .bin .mul (.num) (.c (.int .i64 7)) (.t 31)⟩,
  ⟨(some 33), none, .bin .shl (.num) (.t 30) (.t 32)⟩,
  ⟨(some 34), none, .bin .or (.num) (.t 27) (.t 33)⟩,
  ⟨(some 7), none, .mov (.t 34)⟩]) (.seq (.reg [⟨(some 35), none, .mov (.t 9)⟩,
  ⟨(some 36), none, .bin .lss (.num) (.t 35) (.c (.int .u8 128))⟩]) (.cond (.t 36) (.seq (.seq (.reg [⟨(some 37), none, .mov (.t 9)⟩,
  ⟨(some 38), none, .bin .eql (.num) (.t 37) (.c (.int .u8 0))⟩,
  ⟨(some 39), none, .mov (.t 38)⟩,
  ⟨(some 40), (some (2, true)), .mov (.t 8)⟩,
  ⟨(some 41), (some (2, true)), .bin .gtr (.num) (.t 40) (.c (.int .i64 0))⟩,
  ⟨(some 42), none, .pick (.t 39) (.t 41) (.c (.bool false))⟩,
  ⟨(some 43), none, .mov (.t 42)⟩,
  ⟨(some 44), (some (6, false)), .mov (.t 7)⟩,
  ⟨(some 45), (some (6, false)), .bin .gtr (.num) (.t 44) (.c (.int .i64 1000000000000))⟩,
  ⟨(some 46), none, .pick (.t 43) (.c (.bool true)) (.t 45)⟩]) (.cond (.t 46) (.exit 0) (.skip))) (.seq (.reg [⟨(some 47), none, .mov (.t 7)⟩,
  ⟨(some 48), none, .mov (.t 1)⟩,
  ⟨(some 49), none, .mov (.t 8)⟩,
  ⟨(some 50), none, .bin .add (.num) (.t 48) (.t 49)⟩,
  ⟨(some 51), none, .bin .add (.num) (.t 50) (.c (.int .i64 1))⟩,
  ⟨(some 4), none, .mov (.t 47)⟩,
  ⟨(some 5), none, .mov (.t 51)⟩,
  ⟨(some 6), none, .mov (.c (.bool true))⟩]) (.ret))) (.skip))))))) (.reg [⟨(some 52), none, .bin .add (.num) (.t 20) (.c (.int .i64 1))⟩,
  ⟨(some 20), none, .mov (.t 52)⟩]))))))) (.seq (.reg [⟨(some 4), none, .mov (.c (.int .i64 0))⟩,
  ⟨(some 5), none, .mov (.c (.int .i64 0))⟩,
  ⟨(some 6), none, .mov (.c (.bool false))⟩]) (.ret)))))
def impl_ReadUvarint_r : List RS := [.t 4, .t 5, .t 6]
def impl_ReadUvarint_s0 (t1 t7 t18 t19 t20 : AV) (loc : List (List AV)) (h : AH) : St := ⟨[.any, t1, .any, .any, .any, .any, .any, t7, .any, .any, .any, .any, .any, .any, .any, .any, .any, .any, t18, t19, t20, .any, .any, .any, .any, .any, .any, .any, .any, .any, .any, .any, .any, .any, .any, .any, .any, .any, .any, .any, .any, .any, .any, .any, .any, .any, .any, .any, .any, .any, .any, .any, .any], loc, h⟩
theorem impl_ReadUvarint_e {a0 a1 : AV} {h : AH} {K : AV → AH → Prop} (hw : TC Try.prog Θ Γ impl_ReadUvarint_c (retQ impl_ReadUvarint_r K) ⟨[a0, a1, u, u, u, u, u, u, u, u, u, u, u, u, u, u, u, u, u, u, u, u, u, u, u, u, u, u, u, u, u, u, u, u, u, u, u, u, u, u, u, u, u, u, u, u, u, u, u, u, u, u, u], [], h⟩) : T Try.prog Γ Fn.impl_ReadUvarint [a0, a1] h K :=
  T_of_body tabOK Try.func109 (code := bodyOf Try.f109) (by kernel_rfl) (by kernel_rfl) (by kernel_rfl) (by kernel_rfl) hw
def slices_Clone_ibyte_byte_c : C := .seq (.reg [⟨(some 2), none, .mov (.c (.nils))⟩]) (.seq (.seq (.reg [⟨(some 3), none, .mov (.t 0)⟩,
  ⟨(some 4), none, .bin .eql (.nils) (.t 3) (.c (.nils))⟩]) (.cond (.t 4) (.seq (.reg [⟨(some 2), none, .mov (.c (.nils))⟩]) (.ret)) (.skip))) (.seq (.reg [⟨(some 5), none, .bsl 1 0 [.int .u8 0] []⟩,
  ⟨(some 6), none, .mov (.t 0)⟩,
  ⟨(some 7), none, .app 1 1 [.int .u8 0] false (.t 5) (.t 6)⟩,
  ⟨(some 2), none, .mov (.t 7)⟩]) (.ret)))
def slices_Clone_ibyte_byte_r : List RS := [.t 2]
theorem slices_Clone_ibyte_byte_e {a0 : AV} {h : AH} {K : AV → AH → Prop} (hw : TC Try.prog Θ Γ slices_Clone_ibyte_byte_c (retQ slices_Clone_ibyte_byte_r K) ⟨[a0, u, u, u, u, u, u, u], [], h⟩) : T Try.prog Γ Fn.slices_Clone_ibyte_byte [a0] h K :=
  T_of_body tabOK Try.func110 (code := bodyOf Try.f110) (by kernel_rfl) (by kernel_rfl) (by kernel_rfl) (by kernel_rfl) hw
def spec_l32Copy_c : C := .seq (.reg [⟨(some 2), none, .mov (.c (.nils))⟩]) (.seq (.reg [⟨(some 3), none, .bsl 4 0 [.int .i64 0, .int .i64 0, .int .i64 0, .int .i64 0] []⟩,
  ⟨(some 4), none, .mov (.t 0)⟩,
  ⟨(some 5), none, .app 4 32 [.int .i64 0, .int .i64 0, .int .i64 0, .int .i64 0] false (.t 3) (.t 4)⟩,
  ⟨(some 2), none, .mov (.t 5)⟩]) (.ret))
def spec_l32Copy_r : List RS := [.t 2]
theorem spec_l32Copy_e {a0 : AV} {h : AH} {K : AV → AH → Prop} (hw : TC Try.prog Θ Γ spec_l32Copy_c (retQ spec_l32Copy_r K) ⟨[a0, u, u, u, u, u], [], h⟩) : T Try.prog Γ Fn.spec_l32Copy [a0] h K :=
  T_of_body tabOK Try.func112 (code := bodyOf Try.f112) (by kernel_rfl) (by kernel_rfl) (by kernel_rfl) (by kernel_rfl) hw
def slices_Clone_iimpl_Box_impl_Box_c : C := .seq (.reg [⟨(some 2), none, .mov (.c (.nils))⟩]) (.seq (.seq (.reg [⟨(some 3), none, .mov (.t 0)⟩,
  ⟨(some 4), none, .bin .eql (.nils) (.t 3) (.c (.nils))⟩]) (.cond (.t 4) (.seq (.reg [⟨(some 2), none, .mov (.c (.nils))⟩]) (.ret)) (.skip))) (.seq (.reg [⟨(some 5), none, .bsl 4 0 [.int .i64 0, .int .i64 0, .int .i64 0, .int .i64 0] []⟩,
  ⟨(some 6), none, .mov (.t 0)⟩,
  ⟨(some 7), none, .app 4 32 [.int .i64 0, .int .i64 0, .int .i64 0, .int .i64 0] false (.t 5) (.t 6)⟩,
  ⟨(some 2), none, .mov (.t 7)⟩]) (.ret)))
def slices_Clone_iimpl_Box_impl_Box_r : List RS := [.t 2]
theorem slices_Clone_iimpl_Box_impl_Box_e {a0 : AV} {h : AH} {K : AV → AH → Prop} (hw : TC Try.prog Θ Γ slices_Clone_iimpl_Box_impl_Box_c (retQ slices_Clone_iimpl_Box_impl_Box_r K) ⟨[a0, u, u, u, u, u, u, u], [], h⟩) : T Try.prog Γ Fn.slices_Clone_iimpl_Box_impl_Box [a0] h K :=
  T_of_body tabOK Try.func113 (code := bodyOf Try.f113) (by kernel_rfl) (by kernel_rfl) (by kernel_rfl) (by kernel_rfl) hw
def impl_areBoxes_c : C := .seq (.reg [⟨(some 2), none, .mov (.c (.bool false))⟩]) (.seq (.reg [⟨(some 3), none, .mov (.c (.int .i64 0))⟩]) (.seq (.seq (.reg [⟨(some 6), none, .mov (.t 0)⟩,
  ⟨(some 7), none, .len false (.t 6)⟩,
  ⟨(some 8), none, .mov (.c (.int .i64 0))⟩]) (.block 0 (.loop (.seq (.reg [⟨(some 9), none, .bin .lss (.num) (.t 8) (.t 7)⟩]) (.seq (.cond (.t 9) (.skip) (.exit 0)) (.seq (.block 1 (.seq (.reg [⟨(some 10), none, .idxs 4 (.t 6) (.t 8)⟩,
  ⟨(some 11), none, .load 4 true (.t 10)⟩,
  ⟨(some 5), none, .alloc [.int .i64 0, .int .i64 0, .int .i64 0, .int .i64 0]⟩,
  ⟨none, none, .store 4 (.t 5) (.t 11)⟩]) (.seq (.seq (.reg [⟨(some 12), none, .fld 0 (.t 5)⟩,
  ⟨(some 13), none, .load 1 false (.t 12)⟩,
  ⟨(some 14), none, .mov (.t 3)⟩,
  ⟨(some 15), none, .bin .leq (.num) (.t 13) (.t 14)⟩,
  ⟨(some 16), none, .mov (.t 15)⟩,
  ⟨(some 17), (some (4, false)), .fld 1 (.t 5)⟩,
  ⟨(some 18), (some (4, false)), .load 1 false (.t 17)⟩,
  ⟨(some 19), (some (4, false)), .call (.c (.fn Fn.impl_named [] [])) [.t 18]⟩,
  ⟨(some 20), (some (4, false)), .un .not (.t 19)⟩,
  ⟨(some 21), none, .pick (.t 16) (.c (.bool true)) (.t 20)⟩,
  ⟨(some 22), none, .mov (.t 21)⟩,
  ⟨(some 23), (some (10, false)), .fld 2 (.t 5)⟩,
  ⟨(some 24), (some (10, false)), .fld 0 (.t 23)⟩,
  ⟨(some 25), (some (10, false)), .load 1 false (.t 24)⟩,
  ⟨(some 26), (some (10, false)), .call (.c (.fn Fn.impl_in [] [])) [.t 25, .c (.int .i64 0), .c (.int .i64 2)]⟩,
  ⟨(some 27), (some (10, false)), .un .not (.t 26)⟩,
  ⟨(some 28), none, .pick (.t 22) (.c (.bool true)) (.t 27)⟩]) (.cond (.t 28) (.seq (.reg [⟨(some 2), none, .mov (.c (.bool false))⟩]) (.ret)) (.skip))) (.reg [⟨(some 29), none, .fld 0 (.t 5)⟩,
  ⟨(some 30), none, .load 1 false (.t 29)⟩,
  ⟨(some 3), none, .mov (.t 30)⟩])))) (.reg [⟨(some 31), none, .bin .add (.num) (.t 8) (.c (.int .i64 1))⟩,
  ⟨(some 8), none, .mov (.t 31)⟩]))))))) (.seq (.reg [⟨(some 32), none, .mov (.t 0)⟩,
  ⟨(some 33), none, .len false (.t 32)⟩,
  ⟨(some 34), none, .bin .leq (.num) (.t 33) (.c (.int .i64 12))⟩,
  ⟨(some 2), none, .mov (.t 34)⟩]) (.ret))))
def impl_areBoxes_r : List RS := [.t 2]
def impl_areBoxes_s0 (t0 t3 t6 t7 t8 : AV) (loc : List (List AV)) (h : AH) : St := ⟨[t0, .any, .any, t3, .any, .any, t6, t7, t8, .any, .any, .any, .any, .any, .any, .any, .any, .any, .any, .any, .any, .any, .any, .any, .any, .any, .any, .any, .any, .any, .any, .any, .any, .any, .any], loc, h⟩
theorem impl_areBoxes_e {a0 : AV} {h : AH} {K : AV → AH → Prop} (hw : TC Try.prog Θ Γ impl_areBoxes_c (retQ impl_areBoxes_r K) ⟨[a0, u, u, u, u, u, u, u, u, u, u, u, u, u, u, u, u, u, u, u, u, u, u, u, u, u, u, u, u, u, u, u, u, u, u], [], h⟩) : T Try.prog Γ Fn.impl_areBoxes [a0] h K :=
  T_of_body tabOK Try.func114 (code := bodyOf Try.f114) (by kernel_rfl) (by kernel_rfl) (by kernel_rfl) (by kernel_rfl) hw
def laws_szExportS_c : C := .seq (.reg [⟨(some 4), none, .mov (.c (.int .i64 0))⟩]) (.seq (.reg [⟨(some 5), none, .mov (.t 1)⟩,
  ⟨(some 6), none, .mov (.t 0)⟩,
  ⟨(some 7), none, .len false (.t 6)⟩,
  ⟨(some 8), none, .bin .sub (.num) (.t 5) (.t 7)⟩,
  ⟨(some 1), none, .mov (.t 8)⟩]) (.seq (.seq (.reg [⟨(some 9), none, .mov (.t 1)⟩,
  ⟨(some 10), none, .bin .lss (.num) (.t 9) (.c (.int .i64 0))⟩]) (.cond (.t 10) (.seq (.reg [⟨(some 4), none, .mov (.c (.int .i64 (-1)))⟩]) (.ret)) (.skip))) (.seq (.reg [⟨(some 11), none, .mov (.t 1)⟩,
  ⟨(some 4), none, .mov (.t 11)⟩]) (.ret))))
def laws_szExportS_r : List RS := [.t 4]
theorem laws_szExportS_e {a0 a1 : AV} {h : AH} {K : AV → AH → Prop} (hw : TC Try.prog Θ Γ laws_szExportS_c (retQ laws_szExportS_r K) ⟨[a0, a1, u, u, u, u, u, u, u, u, u, u], [], h⟩) : T Try.prog Γ Fn.laws_szExportS [a0, a1] h K :=
  T_of_body tabOK Try.func115 (code := bodyOf Try.f115) (by kernel_rfl) (by kernel_rfl) (by kernel_rfl) (by kernel_rfl) hw
def laws_szQuestionS_c : C := .seq (.reg [⟨(some 4), none, .mov (.c (.int .i64 0))⟩]) (.seq (.reg [⟨(some 5), none, .mov (.t 1)⟩,
  ⟨(some 6), none, .mov (.t 0)⟩,
  ⟨(some 7), none, .len false (.t 6)⟩,
  ⟨(some 8), none, .bin .sub (.num) (.t 5) (.t 7)⟩,
  ⟨(some 1), none, .mov (.t 8)⟩]) (.seq (.seq (.reg [⟨(some 9), none, .mov (.t 1)⟩,
  ⟨(some 10), none, .bin .lss (.num) (.t 9) (.c (.int .i64 0))⟩]) (.cond (.t 10) (.seq (.reg [⟨(some 4), none, .mov (.c (.int .i64 (-1)))⟩]) (.ret)) (.skip))) (.seq (.reg [⟨(some 11), none, .mov (.t 1)⟩,
  ⟨(some 4), none, .mov (.t 11)⟩]) (.ret))))
def laws_szQuestionS_r : List RS := [.t 4]
theorem laws_szQuestionS_e {a0 a1 : AV} {h : AH} {K : AV → AH → Prop} (hw : TC Try.prog Θ Γ laws_szQuestionS_c (retQ laws_szQuestionS_r K) ⟨[a0, a1, u, u, u, u, u, u, u, u, u, u], [], h⟩) : T Try.prog Γ Fn.laws_szQuestionS [a0, a1] h K :=
  T_of_body tabOK Try.func116 (code := bodyOf Try.f116) (by kernel_rfl) (by kernel_rfl) (by kernel_rfl) (by kernel_rfl) hw
def laws_toExportS_c : C := .seq (.reg [⟨(some 2), none, .mov (.c (.nils))⟩]) (.seq (.reg [⟨(some 5), none, .mov (.t 0)⟩,
  ⟨(some 6), none, .len false (.t 5)⟩,
  ⟨(some 7), none, .mks 3 24 [.int .i64 0, .int .i64 0, .int .i64 0] (.t 6) (.t 6)⟩,
  ⟨(some 3), none, .mov (.t 7)⟩]) (.seq (.seq (.reg [⟨(some 4), none, .mov (.c (.int .i64 0))⟩]) (.block 0 (.loop (.seq (.seq (.reg [⟨(some 8), none, .mov (.t 4)⟩,
  ⟨(some 9), none, .mov (.t 0)⟩,
  ⟨(some 10), none, .len false (.t 9)⟩,
  ⟨(some 11), none, .bin .lss (.num) (.t 8) (.t 10)⟩]) (.cond (.t 11) (.skip) (.exit 0))) (.seq (.block 1 (.reg [⟨(some 14), none, .mov (.t 3)⟩,
  ⟨(some 15), none, .mov (.t 4)⟩,
  ⟨(some 16), none, .mov (.t 0)⟩,
  ⟨(some 17), none, .mov (.t 4)⟩,
  ⟨(some 18), none, .idxs 3 (.t 16) (.t 17)⟩,
  ⟨(some 19), none, .load 3 true (.t 18)⟩,
  ⟨(some 20), none, .call (.c (.fn Fn.laws_toExport [] [])) [.t 19]⟩,
  ⟨(some 21), none, .idxs 3 (.t 14) (.t 15)⟩,
  ⟨none, none, .store 3 (.t 21) (.t 20)⟩])) (.reg [⟨(some 12), none, .mov (.t 4)⟩,
  ⟨(some 13), none, .bin .add (.num) (.t 12) (.c (.int .i64 1))⟩,
  ⟨(some 4), none, .mov (.t 13)⟩])))))) (.seq (.reg [⟨(some 22), none, .mov (.t 3)⟩,
  ⟨(some 2), none, .mov (.t 22)⟩]) (.ret))))
def laws_toExportS_r : List RS := [.t 2]
def laws_toExportS_s0 (t0 t3 t4 : AV) (loc : List (List AV)) (h : AH) : St := ⟨[t0, .any, .any, t3, t4, .any, .any, .any, .any, .any, .any, .any, .any, .any, .any, .any, .any, .any, .any, .any, .any, .any, .any], loc, h⟩
theorem laws_toExportS_e {a0 : AV} {h : AH} {K : AV → AH → Prop} (hw : TC Try.prog Θ Γ laws_toExportS_c (retQ laws_toExportS_r K) ⟨[a0, u, u, u, u, u, u, u, u, u, u, u, u, u, u, u, u, u, u, u, u, u, u], [], h⟩) : T Try.prog Γ Fn.laws_toExportS [a0] h K :=
  T_of_body tabOK Try.func117 (code := bodyOf Try.f117) (by kernel_rfl) (by kernel_rfl) (by kernel_rfl) (by kernel_rfl) hw
def laws_toQuestionS_c : C := .seq (.reg [⟨(some 2), none, .mov (.c (.nils))⟩]) (.seq (.reg [⟨(some 5), none, .mov (.t 0)⟩,
  ⟨(some 6), none, .len false (.t 5)⟩,
  ⟨(some 7), none, .mks 2 16 [.int .i64 0, .int .i64 0] (.t 6) (.t 6)⟩,
  ⟨(some 3), none, .mov (.t 7)⟩]) (.seq (.seq (.reg [⟨(some 4), none, .mov (.c (.int .i64 0))⟩]) (.block 0 (.loop (.seq (.seq (.reg [⟨(some 8), none, .mov (.t 4)⟩,
  ⟨(some 9), none, .mov (.t 0)⟩,
  ⟨(some 10), none, .len false (.t 9)⟩,
  ⟨(some 11), none, .bin .lss (.num) (.t 8) (.t 10)⟩]) (.cond (.t 11) (.skip) (.exit 0))) (.seq (.block 1 (.reg [⟨(some 14), none, .mov (.t 3)⟩,
  ⟨(some 15), none, .mov (.t 4)⟩,
  ⟨(some 16), none, .mov (.t 0)⟩,
  ⟨(some 17), none, .mov (.t 4)⟩,
  ⟨(some 18), none, .idxs 2 (.t 16) (.t 17)⟩,
  ⟨(some 19), none, .load 2 true (.t 18)⟩,
  ⟨(some 20), none, .call (.c (.fn Fn.laws_toQuestion [] [])) [.t 19]⟩,
  ⟨(some 21), none, .idxs 2 (.t 14) (.t 15)⟩,
  ⟨none, none, .store 2 (.t 21) (.t 20)⟩])) (.reg [⟨(some 12), none, .mov (.t 4)⟩,
  ⟨(some 13), none, .bin .add (.num) (.t 12) (.c (.int .i64 1))⟩,
  ⟨(some 4), none, .mov (.t 13)⟩])))))) (.seq (.reg [⟨(some 22), none, .mov (.t 3)⟩,
  ⟨(some 2), none, .mov (.t 22)⟩]) (.ret))))
def laws_toQuestionS_r : List RS := [.t 2]
def laws_toQuestionS_s0 (t0 t3 t4 : AV) (loc : List (List AV)) (h : AH) : St := ⟨[t0, .any, .any, t3, t4, .any, .any, .any, .any, .any, .any, .any, .any, .any, .any, .any, .any, .any, .any, .any, .any, .any, .any], loc, h⟩
theorem laws_toQuestionS_e {a0 : AV} {h : AH} {K : AV → AH → Prop} (hw : TC Try.prog Θ Γ laws_toQuestionS_c (retQ laws_toQuestionS_r K) ⟨[a0, u, u, u, u, u, u, u, u, u, u, u, u, u, u, u, u, u, u, u, u, u, u], [], h⟩) : T Try.prog Γ Fn.laws_toQuestionS [a0] h K :=
  T_of_body tabOK Try.func118 (code := bodyOf Try.f118) (by kernel_rfl) (by kernel_rfl) (by kernel_rfl) (by kernel_rfl) hw
def laws_eqExportS_d0_os : List O := [⟨(some 17), none, .mov (.t 0)⟩,
  ⟨(some 18), none, .mov (.t 5)⟩,
  ⟨(some 19), none, .idxs 3 (.t 17) (.t 18)⟩,
  ⟨(some 20), none, .load 3 true (.t 19)⟩,
  ⟨(some 21), none, .mov (.t 1)⟩,
  ⟨(some 22), none, .mov (.t 5)⟩,
  ⟨(some 23), none, .idxs 3 (.t 21) (.t 22)⟩,
  ⟨(some 24), none, .load 3 true (.t 23)⟩,
  ⟨(some 25), none, .call (.c (.fn Fn.laws_eqExport [] [])) [.t 20, .t 24]⟩,
  ⟨(some 26), none, .un .not (.t 25)⟩]
def laws_eqExportS_d0_af : List (List Nat) := [[], [], [0, 1], [2], [], [], [4, 5], [6], [3, 7], [8]]
theorem laws_eqExportS_d0_q (gl : Gl) (Q : AE → St → Prop) (s : St) : aw Try.prog Θ Γ gl (.regD laws_eqExportS_d0_os laws_eqExportS_d0_af) Q s = awpT Try.prog Γ gl [⟨(some 17), none, .mov (.t 0)⟩,
  ⟨(some 18), none, .mov (.t 5)⟩,
  ⟨(some 19), none, .idxs 3 (.t 17) (.t 18)⟩,
  ⟨(some 20), none, .load 3 true (.t 19)⟩,
  ⟨(some 21), none, .mov (.t 1)⟩,
  ⟨(some 22), none, .mov (.t 5)⟩,
  ⟨(some 23), none, .idxs 3 (.t 21) (.t 22)⟩,
  ⟨(some 24), none, .load 3 true (.t 23)⟩,
  ⟨(some 25), none, .call (.c (.fn Fn.laws_eqExport [] [])) [.t 20, .t 24]⟩,
  ⟨(some 26), none, .un .not (.t 25)⟩] (Q .normal) 10 (.q 0 (.q 1 (.q 2 (.q 3 (.q 4 (.q 5 (.q 6 (.q 7 (.q 8 (.q 9 (.done))))))))))) s := a_dd rfl (by kernel_rfl) gl Q s
def laws_eqExportS_c : C := .seq (.reg [⟨(some 4), none, .mov (.c (.bool false))⟩]) (.seq (.seq (.reg [⟨(some 6), none, .mov (.t 0)⟩,
  ⟨(some 7), none, .len false (.t 6)⟩,
  ⟨(some 8), none, .mov (.t 1)⟩,
  ⟨(some 9), none, .len false (.t 8)⟩,
  ⟨(some 10), none, .bin .neq (.num) (.t 7) (.t 9)⟩]) (.cond (.t 10) (.seq (.reg [⟨(some 4), none, .mov (.c (.bool false))⟩]) (.ret)) (.skip))) (.seq (.seq (.reg [⟨(some 5), none, .mov (.c (.int .i64 0))⟩]) (.block 0 (.loop (.seq (.seq (.reg [⟨(some 11), none, .mov (.t 5)⟩,
  ⟨(some 12), none, .mov (.t 0)⟩,
  ⟨(some 13), none, .len false (.t 12)⟩,
  ⟨(some 14), none, .bin .lss (.num) (.t 11) (.t 13)⟩]) (.cond (.t 14) (.skip) (.exit 0))) (.seq (.block 1 (.seq (.regD laws_eqExportS_d0_os laws_eqExportS_d0_af) (.cond (.t 26) (.seq (.reg [⟨(some 4), none, .mov (.c (.bool false))⟩]) (.ret)) (.skip)))) (.reg [⟨(some 15), none, .mov (.t 5)⟩,
  ⟨(some 16), none, .bin .add (.num) (.t 15) (.c (.int .i64 1))⟩,
  ⟨(some 5), none, .mov (.t 16)⟩])))))) (.seq (.reg [⟨(some 4), none, .mov (.c (.bool true))⟩]) (.ret))))
def laws_eqExportS_r : List RS := [.t 4]
def laws_eqExportS_s0 (t0 t1 t5 : AV) (loc : List (List AV)) (h : AH) : St := ⟨[t0, t1, .any, .any, .any, t5, .any, .any, .any, .any, .any, .any, .any, .any, .any, .any, .any, .any, .any, .any, .any, .any, .any, .any, .any, .any, .any], loc, h⟩
theorem laws_eqExportS_e {a0 a1 : AV} {h : AH} {K : AV → AH → Prop} (hw : TC Try.prog Θ Γ laws_eqExportS_c (retQ laws_eqExportS_r K) ⟨[a0, a1, u, u, u, u, u, u, u, u, u, u, u, u, u, u, u, u, u, u, u, u, u, u, u, u, u], [], h⟩) : T Try.prog Γ Fn.laws_eqExportS [a0, a1] h K :=
  T_of_body tabOK Try.func120 (code := bodyOf Try.f120) (by kernel_rfl) (by kernel_rfl) (by kernel_rfl) (by kernel_rfl) hw
def laws_eqQuestionS_d0_os : List O := [⟨(some 17), none, .mov (.t 0)⟩,
  ⟨(some 18), none, .mov (.t 5)⟩,
  ⟨(some 19), none, .idxs 2 (.t 17) (.t 18)⟩,
  ⟨(some 20), none, .load 2 true (.t 19)⟩,
  ⟨(some 21), none, .mov (.t 1)⟩,
  ⟨(some 22), none, .mov (.t 5)⟩,
  ⟨(some 23), none, .idxs 2 (.t 21) (.t 22)⟩,
  ⟨(some 24), none, .load 2 true (.t 23)⟩,
  ⟨(some 25), none, .call (.c (.fn Fn.laws_eqQuestion [] [])) [.t 20, .t 24]⟩,
  ⟨(some 26), none, .un .not (.t 25)⟩]
def laws_eqQuestionS_d0_af : List (List Nat) := [[], [], [0, 1], [2], [], [], [4, 5], [6], [3, 7], [8]]
theorem laws_eqQuestionS_d0_q (gl : Gl) (Q : AE → St → Prop) (s : St) : aw Try.prog Θ Γ gl (.regD laws_eqQuestionS_d0_os laws_eqQuestionS_d0_af) Q s = awpT Try.prog Γ gl [⟨(some 17), none, .mov (.t 0)⟩,
  ⟨(some 18), none, .mov (.t 5)⟩,
  ⟨(some 19), none, .idxs 2 (.t 17) (.t 18)⟩,
  ⟨(some 20), none, .load 2 true (.t 19)⟩,
  ⟨(some 21), none, .mov (.t 1)⟩,
  ⟨(some 22), none, .mov (.t 5)⟩,
  ⟨(some 23), none, .idxs 2 (.t 21) (.t 22)⟩,
  ⟨(some 24), none, .load 2 true (.t 23)⟩,
  ⟨(some 25), none, .call (.c (.fn Fn.laws_eqQuestion [] [])) [.t 20, .t 24]⟩,
  ⟨(some 26), none, .un .not (.t 25)⟩] (Q .normal) 10 (.q 0 (.q 1 (.q 2 (.q 3 (.q 4 (.q 5 (.q 6 (.q 7 (.q 8 (.q 9 (.done))))))))))) s := a_dd rfl (by kernel_rfl) gl Q s
def laws_eqQuestionS_c : C := .seq (.reg [⟨(some 4), none, .mov (.c (.bool false))⟩]) (.seq (.seq (.reg [⟨(some 6), none, .mov (.t 0)⟩,
  ⟨(some 7), none, .len false (.t 6)⟩,
  ⟨(some 8), none, .mov (.t 1)⟩,
  ⟨(some 9), none, .len false (.t 8)⟩,
  ⟨(some 10), none, .bin .neq (.num) (.t 7) (.t 9)⟩]) (.cond (.t 10) (.seq (.reg [⟨(some 4), none, .mov (.c (.bool false))⟩]) (.ret)) (.skip))) (.seq (.seq (.reg [⟨(some 5), none, .mov (.c (.int .i64 0))⟩]) (.block 0 (.loop (.seq (.seq (.reg [⟨(some 11), none, .mov (.t 5)⟩,
  ⟨(some 12), none, .mov (.t 0)⟩,
  ⟨(some 13), none, .len false (.t 12)⟩,
  ⟨(some 14), none, .bin .lss (.num) (.t 11) (.t 13)⟩]) (.cond (.t 14) (.skip) (.exit 0))) (.seq (.block 1 (.seq (.regD laws_eqQuestionS_d0_os laws_eqQuestionS_d0_af) (.cond (.t 26) (.seq (.reg [⟨(some 4), none, .mov (.c (.bool false))⟩]) (.ret)) (.skip)))) (.reg [⟨(some 15), none, .mov (.t 5)⟩,
  ⟨(some 16), none, .bin .add (.num) (.t 15) (.c (.int .i64 1))⟩,
  ⟨(some 5), none, .mov (.t 16)⟩])))))) (.seq (.reg [⟨(some 4), none, .mov (.c (.bool true))⟩]) (.ret))))
def laws_eqQuestionS_r : List RS := [.t 4]
def laws_eqQuestionS_s0 (t0 t1 t5 : AV) (loc : List (List AV)) (h : AH) : St := ⟨[t0, t1, .any, .any, .any, t5, .any, .any, .any, .any, .any, .any, .any, .any, .any, .any, .any, .any, .any, .any, .any, .any, .any, .any, .any, .any, .any], loc, h⟩
theorem laws_eqQuestionS_e {a0 a1 : AV} {h : AH} {K : AV → AH → Prop} (hw : TC Try.prog Θ Γ laws_eqQuestionS_c (retQ laws_eqQuestionS_r K) ⟨[a0, a1, u, u, u, u, u, u, u, u, u, u, u, u, u, u, u, u, u, u, u, u, u, u, u, u, u], [], h⟩) : T Try.prog Γ Fn.laws_eqQuestionS [a0, a1] h K :=
  T_of_body tabOK Try.func121 (code := bodyOf Try.f121) (by kernel_rfl) (by kernel_rfl) (by kernel_rfl) (by kernel_rfl) hw
def spec_l4Any_c : C := .seq (.reg [⟨(some 2), none, .alloc [.int .i64 0, .int .i64 0]⟩]) (.seq (.seq (.reg [⟨(some 3), none, .mov (.t 0)⟩,
  ⟨(some 4), none, .call (.c (.fn Fn.spec_l1Below [] [])) [.t 3, .c (.int .i64 8)]⟩]) (.block 0 (.seq (.reg [⟨(some 6), none, .bin .eql (.num) (.t 4) (.c (.int .i64 0))⟩,
  ⟨(some 5), none, .mov (.t 6)⟩]) (.cond (.t 5) (.seq (.reg [⟨(some 7), none, .mov (.t 0)⟩,
  ⟨(some 8), none, .bsl 1 5 [.int .i64 0] [(0, .c (.int .i64 0)), (1, .c (.int .i64 1)), (2, .c (.int .i64 2)), (3, .c (.int .i64 5)), (4, .c (.int .i64 (-1)))]⟩,
  ⟨(some 9), none, .call (.c (.fn Fn.spec_l1Int [] [])) [.t 7, .t 8]⟩,
  ⟨(some 10), none, .call (.c (.fn Fn.spec_RefValue [] [])) [.t 9]⟩,
  ⟨none, none, .store 2 (.t 2) (.t 10)⟩]) (.ret)) (.seq (.reg [⟨(some 12), none, .bin .eql (.num) (.t 4) (.c (.int .i64 1))⟩,
  ⟨(some 11), none, .mov (.t 12)⟩]) (.cond (.t 11) (.seq (.reg [⟨(some 13), none, .call (.c (.fn Fn.spec_BrokenValue [] [])) []⟩,
  ⟨none, none, .store 2 (.t 2) (.t 13)⟩]) (.ret)) (.seq (.reg [⟨(some 15), none, .bin .eql (.num) (.t 4) (.c (.int .i64 2))⟩,
  ⟨(some 14), none, .mov (.t 15)⟩]) (.cond (.t 14) (.seq (.reg [⟨(some 16), none, .mov (.t 0)⟩,
  ⟨(some 17), none, .bsl 1 5 [.int .i64 0] [(0, .c (.int .i64 0)), (1, .c (.int .i64 1)), (2, .c (.int .i64 2)), (3, .c (.int .i64 3)), (4, .c (.int .i64 (-1)))]⟩,
  ⟨(some 18), none, .call (.c (.fn Fn.spec_l1Int [] [])) [.t 16, .t 17]⟩,
  ⟨(some 19), none, .mov (.t 0)⟩,
  ⟨(some 20), none, .bsl 1 4 [.int .i64 0] [(0, .c (.int .i64 0)), (1, .c (.int .i64 (-1))), (2, .c (.int .i64 999999)), (3, .c (.int .i64 1000000))]⟩,
  ⟨(some 21), none, .call (.c (.fn Fn.spec_l1Int [] [])) [.t 19, .t 20]⟩,
  ⟨(some 22), none, .build [.int .i64 0, .int .i64 0] [(0, 1, .t 18), (1, 1, .t 21)]⟩,
  ⟨none, none, .store 2 (.t 2) (.t 22)⟩]) (.ret)) (.skip))))))))) (.seq (.reg [⟨(some 23), none, .mov (.t 0)⟩,
  ⟨(some 24), none, .call (.c (.fn Fn.spec_l1Below [] [])) [.t 23, .c (.int .i64 50)]⟩,
  ⟨(some 25), none, .call (.c (.fn Fn.spec_IntValue [] [])) [.t 24]⟩,
  ⟨none, none, .store 2 (.t 2) (.t 25)⟩]) (.ret)))
def spec_l4Any_r : List RS := [.cell 2 2 true]
theorem spec_l4Any_e {a0 : AV} {h : AH} {K : AV → AH → Prop} (hw : TC Try.prog Θ Γ spec_l4Any_c (retQ spec_l4Any_r K) ⟨[a0, u, u, u, u, u, u, u, u, u, u, u, u, u, u, u, u, u, u, u, u, u, u, u, u, u], [], h⟩) : T Try.prog Γ Fn.spec_l4Any [a0] h K :=
  T_of_body tabOK Try.func123 (code := bodyOf Try.f123) (by kernel_rfl) (by kernel_rfl) (by kernel_rfl) (by kernel_rfl) hw
def impl_named_c : C := .seq (.reg [⟨(some 2), none, .mov (.c (.bool false))⟩]) (.seq (.reg [⟨(some 3), none, .mov (.t 0)⟩,
  ⟨(some 4), none, .call (.c (.fn Fn.impl_in [] [])) [.t 3, .c (.int .i64 1), .c (.int .i64 999999)]⟩,
  ⟨(some 2), none, .mov (.t 4)⟩]) (.ret))
def impl_named_r : List RS := [.t 2]
theorem impl_named_e {a0 : AV} {h : AH} {K : AV → AH → Prop} (hw : TC Try.prog Θ Γ impl_named_c (retQ impl_named_r K) ⟨[a0, u, u, u, u], [], h⟩) : T Try.prog Γ Fn.impl_named [a0] h K :=
  T_of_body tabOK Try.func126 (code := bodyOf Try.f126) (by kernel_rfl) (by kernel_rfl) (by kernel_rfl) (by kernel_rfl) hw
def spec_l1Once_c : C := .seq (.reg [⟨(some 4), none, .mov (.c (.bool false))⟩]) (.seq (.reg [⟨(some 5), none, .mov (.t 0)⟩,
  ⟨(some 6), none, .mov (.t 1)⟩,
  ⟨(some 7), none, .call (.c (.fn Fn.spec_l1Below [] [])) [.t 5, .t 6]⟩,
  ⟨(some 8), none, .bin .eql (.num) (.t 7) (.c (.int .i64 0))⟩,
  ⟨(some 4), none, .mov (.t 8)⟩]) (.ret))
def spec_l1Once_r : List RS := [.t 4]
theorem spec_l1Once_e {a0 a1 : AV} {h : AH} {K : AV → AH → Prop} (hw : TC Try.prog Θ Γ spec_l1Once_c (retQ spec_l1Once_r K) ⟨[a0, a1, u, u, u, u, u, u, u], [], h⟩) : T Try.prog Γ Fn.spec_l1Once [a0, a1] h K :=
  T_of_body tabOK Try.func132 (code := bodyOf Try.f132) (by kernel_rfl) (by kernel_rfl) (by kernel_rfl) (by kernel_rfl) hw
def spec_l1Int_c : C := .seq (.reg [⟨(some 4), none, .mov (.c (.int .i64 0))⟩]) (.seq (.reg [⟨(some 5), none, .mov (.t 1)⟩,
  ⟨(some 6), none, .mov (.t 0)⟩,
  ⟨(some 7), none, .mov (.t 1)⟩,
  ⟨(some 8), none, .len false (.t 7)⟩,
  ⟨(some 9), none, .call (.c (.fn Fn.spec_l1Below [] [])) [.t 6, .t 8]⟩,
  ⟨(some 10), none, .idxs 1 (.t 5) (.t 9)⟩,
  ⟨(some 11), none, .load 1 false (.t 10)⟩,
  ⟨(some 4), none, .mov (.t 11)⟩]) (.ret))
def spec_l1Int_r : List RS := [.t 4]
theorem spec_l1Int_e {a0 a1 : AV} {h : AH} {K : AV → AH → Prop} (hw : TC Try.prog Θ Γ spec_l1Int_c (retQ spec_l1Int_r K) ⟨[a0, a1, u, u, u, u, u, u, u, u, u, u], [], h⟩) : T Try.prog Γ Fn.spec_l1Int [a0, a1] h K :=
  T_of_body tabOK Try.func133 (code := bodyOf Try.f133) (by kernel_rfl) (by kernel_rfl) (by kernel_rfl) (by kernel_rfl) hw
def slices_Grow_iint_int_c : C := .seq (.reg [⟨(some 4), none, .mov (.c (.nils))⟩]) (.seq (.seq (.reg [⟨(some 5), none, .mov (.t 1)⟩,
  ⟨(some 6), none, .bin .lss (.num) (.t 5) (.c (.int .i64 0))⟩]) (.cond (.t 6) (.reg [⟨(some 7), none, .bad⟩,
  ⟨none, none, .bad⟩]) (.skip))) (.seq (.seq (.reg [⟨(some 8), none, .mov (.t 1)⟩,
  ⟨(some 9), none, .mov (.t 0)⟩,
  ⟨(some 10), none, .cap (.t 9)⟩,
  ⟨(some 11), none, .mov (.t 0)⟩,
  ⟨(some 12), none, .len false (.t 11)⟩,
  ⟨(some 13), none, .bin .sub (.num) (.t 10) (.t 12)⟩,
  ⟨(some 14), none, .bin .sub (.num) (.t 8) (.t 13)⟩,
  ⟨(some 1), none, .mov (.t 14)⟩]) (.seq (.reg [⟨(some 15), none, .mov (.t 1)⟩,
  ⟨(some 16), none, .bin .gtr (.num) (.t 15) (.c (.int .i64 0))⟩]) (.cond (.t 16) (.reg [⟨(some 17), none, .mov (.t 0)⟩,
  ⟨(some 18), none, .mov (.t 0)⟩,
  ⟨(some 19), none, .cap (.t 18)⟩,
  ⟨(some 20), none, .slice (.sl 1) (.t 17) none (some (.t 19)) none⟩,
  ⟨(some 21), none, .mov (.t 1)⟩,
  ⟨(some 22), none, .appz 1 8 [.int .i64 0] (.t 20) (.t 21)⟩,
  ⟨(some 23), none, .mov (.t 0)⟩,
  ⟨(some 24), none, .len false (.t 23)⟩,
  ⟨(some 25), none, .slice (.sl 1) (.t 22) none (some (.t 24)) none⟩,
  ⟨(some 0), none, .mov (.t 25)⟩]) (.skip)))) (.seq (.reg [⟨(some 26), none, .mov (.t 0)⟩,
  ⟨(some 4), none, .mov (.t 26)⟩]) (.ret))))
def slices_Grow_iint_int_r : List RS := [.t 4]
theorem slices_Grow_iint_int_e {a0 a1 : AV} {h : AH} {K : AV → AH → Prop} (hw : TC Try.prog Θ Γ slices_Grow_iint_int_c (retQ slices_Grow_iint_int_r K) ⟨[a0, a1, u, u, u, u, u, u, u, u, u, u, u, u, u, u, u, u, u, u, u, u, u, u, u, u, u], [], h⟩) : T Try.prog Γ Fn.slices_Grow_iint_int [a0, a1] h K :=
  T_of_body tabOK Try.func134 (code := bodyOf Try.f134) (by kernel_rfl) (by kernel_rfl) (by kernel_rfl) (by kernel_rfl) hw
def spec_l1Byte_d0_os : List O := [⟨(some 13), none, .mov (.t 0)⟩,
  ⟨(some 14), none, .nilchk (.t 13)⟩,
  ⟨(some 15), none, .fld 2 (.t 14)⟩,
  ⟨(some 16), none, .load 1 false (.t 15)⟩,
  ⟨(some 17), none, .bin .shr (.num) (.t 16) (.c (.int .u64 33))⟩,
  ⟨(some 18), none, .mov (.t 0)⟩,
  ⟨(some 19), none, .nilchk (.t 18)⟩,
  ⟨(some 20), none, .fld 2 (.t 19)⟩,
  ⟨(some 21), none, .load 1 false (.t 20)⟩,
  ⟨(some 22), none, .bin .shr (.num) (.t 21) (.c (.int .u64 47))⟩,
  ⟨(some 23), none, .bin .xor (.num) (.t 17) (.t 22)⟩,
  ⟨(some 24), none, .bin .and (.num) (.t 23) (.c (.int .i64 255))⟩,
  ⟨(some 3), none, .mov (.t 24)⟩]
def spec_l1Byte_d0_af : List (List Nat) := [[], [0], [1], [2], [3], [], [5], [6], [7], [8], [4, 9], [10], [11, 0, 1, 2, 3, 4, 5, 6, 7, 8, 9, 10, 11]]
theorem spec_l1Byte_d0_q (gl : Gl) (Q : AE → St → Prop) (s : St) : aw Try.prog Θ Γ gl (.regD spec_l1Byte_d0_os spec_l1Byte_d0_af) Q s = awpOps Try.prog Γ gl [⟨(some 13), none, .mov (.t 0)⟩,
  ⟨(some 14), none, .nilchk (.t 13)⟩,
  ⟨(some 15), none, .fld 2 (.t 14)⟩,
  ⟨(some 16), none, .load 1 false (.t 15)⟩,
  ⟨(some 17), none, .bin .shr (.num) (.t 16) (.c (.int .u64 33))⟩,
  ⟨(some 18), none, .mov (.t 0)⟩,
  ⟨(some 19), none, .nilchk (.t 18)⟩,
  ⟨(some 20), none, .fld 2 (.t 19)⟩,
  ⟨(some 21), none, .load 1 false (.t 20)⟩,
  ⟨(some 22), none, .bin .shr (.num) (.t 21) (.c (.int .u64 47))⟩,
  ⟨(some 23), none, .bin .xor (.num) (.t 17) (.t 22)⟩,
  ⟨(some 24), none, .bin .and (.num) (.t 23) (.c (.int .i64 255))⟩,
  ⟨(some 3), none, .mov (.t 24)⟩] [⟨(some 13), none, .mov (.t 0)⟩,
  ⟨(some 14), none, .nilchk (.t 13)⟩,
  ⟨(some 15), none, .fld 2 (.t 14)⟩,
  ⟨(some 16), none, .load 1 false (.t 15)⟩,
  ⟨(some 17), none, .bin .shr (.num) (.t 16) (.c (.int .u64 33))⟩,
  ⟨(some 18), none, .mov (.t 0)⟩,
  ⟨(some 19), none, .nilchk (.t 18)⟩,
  ⟨(some 20), none, .fld 2 (.t 19)⟩,
  ⟨(some 21), none, .load 1 false (.t 20)⟩,
  ⟨(some 22), none, .bin .shr (.num) (.t 21) (.c (.int .u64 47))⟩,
  ⟨(some 23), none, .bin .xor (.num) (.t 17) (.t 22)⟩,
  ⟨(some 24), none, .bin .and (.num) (.t 23) (.c (.int .i64 255))⟩,
  ⟨(some 3), none, .mov (.t 24)⟩] (Q .normal) s := a_dq (by kernel_rfl) gl Q s
def spec_l1Byte_d1_os : List O := [⟨(some 25), none, .mov (.t 0)⟩,
  ⟨(some 26), none, .nilchk (.t 25)⟩,
  ⟨(some 27), none, .fld 1 (.t 26)⟩,
  ⟨(some 28), none, .load 1 false (.t 27)⟩,
  ⟨(some 29), none, .mov (.t 0)⟩,
  ⟨(some 30), none, .nilchk (.t 29)⟩,
  ⟨(some 31), none, .fld 0 (.t 30)⟩,
  ⟨(some 32), none, .load 1 false (.t 31)⟩,
  ⟨(some 33), none, .len false (.t 32)⟩,
  ⟨(some 34), none, .bin .lss (.num) (.t 28) (.t 33)⟩]
def spec_l1Byte_d1_af : List (List Nat) := [[], [0], [1], [2], [], [4], [5], [6], [7], [3, 8]]
theorem spec_l1Byte_d1_q (gl : Gl) (Q : AE → St → Prop) (s : St) : aw Try.prog Θ Γ gl (.regD spec_l1Byte_d1_os spec_l1Byte_d1_af) Q s = awpOps Try.prog Γ gl [⟨(some 25), none, .mov (.t 0)⟩,
  ⟨(some 26), none, .nilchk (.t 25)⟩,
  ⟨(some 27), none, .fld 1 (.t 26)⟩,
  ⟨(some 28), none, .load 1 false (.t 27)⟩,
  ⟨(some 29), none, .mov (.t 0)⟩,
  ⟨(some 30), none, .nilchk (.t 29)⟩,
  ⟨(some 31), none, .fld 0 (.t 30)⟩,
  ⟨(some 32), none, .load 1 false (.t 31)⟩,
  ⟨(some 33), none, .len false (.t 32)⟩,
  ⟨(some 34), none, .bin .lss (.num) (.t 28) (.t 33)⟩] [⟨(some 25), none, .mov (.t 0)⟩,
  ⟨(some 26), none, .nilchk (.t 25)⟩,
  ⟨(some 27), none, .fld 1 (.t 26)⟩,
  ⟨(some 28), none, .load 1 false (.t 27)⟩,
  ⟨(some 29), none, .mov (.t 0)⟩,
  ⟨(some 30), none, .nilchk (.t 29)⟩,
  ⟨(some 31), none, .fld 0 (.t 30)⟩,
  ⟨(some 32), none, .load 1 false (.t 31)⟩,
  ⟨(some 33), none, .len false (.t 32)⟩,
  ⟨(some 34), none, .bin .lss (.num) (.t 28) (.t 33)⟩] (Q .normal) s := a_dq (by kernel_rfl) gl Q s
def spec_l1Byte_d2_os : List O := [⟨(some 35), none, .mov (.t 3)⟩,
  ⟨(some 36), none, .mov (.t 0)⟩,
  ⟨(some 37), none, .nilchk (.t 36)⟩,
  ⟨(some 38), none, .fld 0 (.t 37)⟩,
  ⟨(some 39), none, .load 1 false (.t 38)⟩,
  ⟨(some 40), none, .mov (.t 0)⟩,
  ⟨(some 41), none, .nilchk (.t 40)⟩,
  ⟨(some 42), none, .fld 1 (.t 41)⟩,
  ⟨(some 43), none, .load 1 false (.t 42)⟩,
  ⟨(some 44), none, .idxs 1 (.t 39) (.t 43)⟩,
  ⟨(some 45), none, .load 1 false (.t 44)⟩,
  ⟨(some 46), none, .cvi .i64 (.t 45)⟩,
  ⟨(some 47), none, .bin .add (.num) (.t 35) (.t 46)⟩,
  ⟨(some 48), none, .bin .and (.num) (.t 47) (.c (.int .i64 255))⟩,
  ⟨(some 3), none, .mov (.t 48)⟩]
def spec_l1Byte_d2_af : List (List Nat) := [[], [], [1], [2], [3], [], [5], [6], [7], [4, 8], [9], [10], [0, 11], [12], [13, 0, 1, 2, 3, 4, 5, 6, 7, 8, 9, 10, 11, 12, 13]]
theorem spec_l1Byte_d2_q (gl : Gl) (Q : AE → St → Prop) (s : St) : aw Try.prog Θ Γ gl (.regD spec_l1Byte_d2_os spec_l1Byte_d2_af) Q s = awpOps Try.prog Γ gl [⟨(some 35), none, .mov (.t 3)⟩,
  ⟨(some 36), none, .mov (.t 0)⟩,
  ⟨(some 37), none, .nilchk (.t 36)⟩,
  ⟨(some 38), none, .fld 0 (.t 37)⟩,
  ⟨(some 39), none, .load 1 false (.t 38)⟩,
  ⟨(some 40), none, .mov (.t 0)⟩,
  ⟨(some 41), none, .nilchk (.t 40)⟩,
  ⟨(some 42), none, .fld 1 (.t 41)⟩,
  ⟨(some 43), none, .load 1 false (.t 42)⟩,
  ⟨(some 44), none, .idxs 1 (.t 39) (.t 43)⟩,
  ⟨(some 45), none, .load 1 false (.t 44)⟩,
  ⟨(some 46), none, .cvi .i64 (.t 45)⟩,
  ⟨(some 47), none, .bin .add (.num) (.t 35) (.t 46)⟩,
  ⟨(some 48), none, .bin .and (.num) (.t 47) (.c (.int .i64 255))⟩,
  ⟨(some 3), none, .mov (.t 48)⟩] [⟨(some 35), none, .mov (.t 3)⟩,
  ⟨(some 36), none, .mov (.t 0)⟩,
  ⟨(some 37), none, .nilchk (.t 36)⟩,
  ⟨(some 38), none, .fld 0 (.t 37)⟩,
  ⟨(some 39), none, .load 1 false (.t 38)⟩,
  ⟨(some 40), none, .mov (.t 0)⟩,
  ⟨(some 41), none, .nilchk (.t 40)⟩,
  ⟨(some 42), none, .fld 1 (.t 41)⟩,
  ⟨(some 43), none, .load 1 false (.t 42)⟩,
  ⟨(some 44), none, .idxs 1 (.t 39) (.t 43)⟩,
  ⟨(some 45), none, .load 1 false (.t 44)⟩,
  ⟨(some 46), none, .cvi .i64 (.t 45)⟩,
  ⟨(some 47), none, .bin .add (.num) (.t 35) (.t 46)⟩,
  ⟨(some 48), none, .bin .and (.num) (.t 47) (.c (.int .i64 255))⟩,
  ⟨(some 3), none, .mov (.t 48)⟩] (Q .normal) s := a_dq (by kernel_rfl) gl Q s
def spec_l1Byte_c : C := .seq (.reg [⟨(some 2), none, .mov (.c (.int .i64 0))⟩]) (.seq (.reg [⟨(some 4), none, .mov (.t 0)⟩,
  ⟨(some 5), none, .mov (.t 0)⟩,
  ⟨(some 6), none, .nilchk (.t 5)⟩,
  ⟨(some 7), none, .fld 2 (.t 6)⟩,
  ⟨(some 8), none, .load 1 false (.t 7)⟩,
  ⟨(some 9), none, .bin .mul (.num) (.t 8) (.c (.int .i64 6364136223846793005))⟩,
  ⟨(some 10), none, .bin .add (.num) (.t 9) (.c (.int .i64 1442695040888963407))⟩,
  ⟨(some 11), none, .nilchk (.t 4)⟩,
  ⟨(some 12), none, .fld 2 (.t 11)⟩,
  ⟨none, none, .store 1 (.t 12) (.t 10)⟩]) (.seq (.regD spec_l1Byte_d0_os spec_l1Byte_d0_af) (.seq (.seq (.regD spec_l1Byte_d1_os spec_l1Byte_d1_af) (.cond (.t 34) (.seq (.regD spec_l1Byte_d2_os spec_l1Byte_d2_af) (.reg [⟨(some 49), none, .mov (.t 0)⟩,
  ⟨(some 50), none, .mov (.t 0)⟩,
  ⟨(some 51), none, .nilchk (.t 50)⟩,
  ⟨(some 52), none, .fld 1 (.t 51)⟩,
  ⟨(some 53), none, .load 1 false (.t 52)⟩,
  ⟨(some 54), none, .bin .add (.num) (.t 53) (.c (.int .i64 1))⟩,
  ⟨(some 55), none, .nilchk (.t 49)⟩,
  ⟨(some 56), none, .fld 1 (.t 55)⟩,
  ⟨none, none, .store 1 (.t 56) (.t 54)⟩])) (.skip))) (.seq (.reg [⟨(some 57), none, .mov (.t 3)⟩,
  ⟨(some 2), none, .mov (.t 57)⟩]) (.ret)))))
def spec_l1Byte_r : List RS := [.t 2]
theorem spec_l1Byte_e {a0 : AV} {h : AH} {K : AV → AH → Prop} (hw : TC Try.prog Θ Γ spec_l1Byte_c (retQ spec_l1Byte_r K) ⟨[a0, u, u, u, u, u, u, u, u, u, u, u, u, u, u, u, u, u, u, u, u, u, u, u, u, u, u, u, u, u, u, u, u, u, u, u, u, u, u, u, u, u, u, u, u, u, u, u, u, u, u, u, u, u, u, u, u, u], [], h⟩) : T Try.prog Γ Fn.spec_l1Byte [a0] h K :=
  T_of_body tabOK Try.func135 (code := bodyOf Try.f135) (by kernel_rfl) (by kernel_rfl) (by kernel_rfl) (by kernel_rfl) hw
def laws_toExport_c : C := .seq (.reg [⟨(some 1), none, .box (.t 0)⟩,
  ⟨(some 2), none, .alloc [.int .i64 0, .int .i64 0, .int .i64 0]⟩]) (.seq (.reg [⟨(some 3), none, .alloc [.int .i64 0, .int .i64 0, .int .i64 0]⟩]) (.seq (.reg [⟨(some 4), none, .fld 0 (.t 1)⟩,
  ⟨(some 5), none, .load 1 false (.t 4)⟩,
  ⟨(some 6), none, .fld 0 (.t 3)⟩,
  ⟨none, none, .store 1 (.t 6) (.t 5)⟩]) (.seq (.reg [⟨(some 7), none, .fld 1 (.t 1)⟩,
  ⟨(some 8), none, .load 1 false (.t 7)⟩,
  ⟨(some 9), none, .fld 1 (.t 3)⟩,
  ⟨none, none, .store 1 (.t 9) (.t 8)⟩]) (.seq (.reg [⟨(some 10), none, .fld 2 (.t 1)⟩,
  ⟨(some 11), none, .load 1 false (.t 10)⟩,
  ⟨(some 12), none, .fld 2 (.t 3)⟩,
  ⟨none, none, .store 1 (.t 12) (.t 11)⟩]) (.seq (.reg [⟨(some 13), none, .load 3 true (.t 3)⟩,
  ⟨none, none, .store 3 (.t 2) (.t 13)⟩]) (.ret))))))
def laws_toExport_r : List RS := [.cell 2 3 true]
theorem laws_toExport_e {a0 : AV} {h : AH} {K : AV → AH → Prop} (hw : TC Try.prog Θ Γ laws_toExport_c (retQ laws_toExport_r K) ⟨[a0, u, u, u, u, u, u, u, u, u, u, u, u, u], [], h⟩) : T Try.prog Γ Fn.laws_toExport [a0] h K :=
  T_of_body tabOK Try.func136 (code := bodyOf Try.f136) (by kernel_rfl) (by kernel_rfl) (by kernel_rfl) (by kernel_rfl) hw
def laws_toQuestion_c : C := .seq (.reg [⟨(some 1), none, .box (.t 0)⟩,
  ⟨(some 2), none, .alloc [.int .i64 0, .int .i64 0]⟩]) (.seq (.reg [⟨(some 3), none, .alloc [.int .i64 0, .int .i64 0]⟩]) (.seq (.reg [⟨(some 4), none, .fld 0 (.t 1)⟩,
  ⟨(some 5), none, .load 1 false (.t 4)⟩,
  ⟨(some 6), none, .fld 0 (.t 3)⟩,
  ⟨none, none, .store 1 (.t 6) (.t 5)⟩]) (.seq (.reg [⟨(some 7), none, .fld 1 (.t 1)⟩,
  ⟨(some 8), none, .load 1 false (.t 7)⟩,
  ⟨(some 9), none, .fld 1 (.t 3)⟩,
  ⟨none, none, .store 1 (.t 9) (.t 8)⟩]) (.seq (.reg [⟨(some 10), none, .load 2 true (.t 3)⟩,
  ⟨none, none, .store 2 (.t 2) (.t 10)⟩]) (.ret)))))
def laws_toQuestion_r : List RS := [.cell 2 2 true]
theorem laws_toQuestion_e {a0 : AV} {h : AH} {K : AV → AH → Prop} (hw : TC Try.prog Θ Γ laws_toQuestion_c (retQ laws_toQuestion_r K) ⟨[a0, u, u, u, u, u, u, u, u, u, u], [], h⟩) : T Try.prog Γ Fn.laws_toQuestion [a0] h K :=
  T_of_body tabOK Try.func137 (code := bodyOf Try.f137) (by kernel_rfl) (by kernel_rfl) (by kernel_rfl) (by kernel_rfl) hw
def laws_eqExport_c : C := .seq (.reg [⟨(some 2), none, .box (.t 0)⟩,
  ⟨(some 3), none, .box (.t 1)⟩,
  ⟨(some 4), none, .mov (.c (.bool false))⟩]) (.seq (.seq (.reg [⟨(some 5), none, .fld 0 (.t 2)⟩,
  ⟨(some 6), none, .load 1 false (.t 5)⟩,
  ⟨(some 7), none, .fld 0 (.t 3)⟩,
  ⟨(some 8), none, .load 1 false (.t 7)⟩,
  ⟨(some 9), none, .bin .neq (.num) (.t 6) (.t 8)⟩]) (.cond (.t 9) (.seq (.reg [⟨(some 4), none, .mov (.c (.bool false))⟩]) (.ret)) (.skip))) (.seq (.seq (.reg [⟨(some 10), none, .fld 1 (.t 2)⟩,
  ⟨(some 11), none, .load 1 false (.t 10)⟩,
  ⟨(some 12), none, .fld 1 (.t 3)⟩,
  ⟨(some 13), none, .load 1 false (.t 12)⟩,
  ⟨(some 14), none, .bin .neq (.num) (.t 11) (.t 13)⟩]) (.cond (.t 14) (.seq (.reg [⟨(some 4), none, .mov (.c (.bool false))⟩]) (.ret)) (.skip))) (.seq (.seq (.reg [⟨(some 15), none, .fld 2 (.t 2)⟩,
  ⟨(some 16), none, .load 1 false (.t 15)⟩,
  ⟨(some 17), none, .fld 2 (.t 3)⟩,
  ⟨(some 18), none, .load 1 false (.t 17)⟩,
  ⟨(some 19), none, .bin .neq (.num) (.t 16) (.t 18)⟩]) (.cond (.t 19) (.seq (.reg [⟨(some 4), none, .mov (.c (.bool false))⟩]) (.ret)) (.skip))) (.seq (.reg [⟨(some 4), none, .mov (.c (.bool true))⟩]) (.ret)))))
def laws_eqExport_r : List RS := [.t 4]
theorem laws_eqExport_e {a0 a1 : AV} {h : AH} {K : AV → AH → Prop} (hw : TC Try.prog Θ Γ laws_eqExport_c (retQ laws_eqExport_r K) ⟨[a0, a1, u, u, u, u, u, u, u, u, u, u, u, u, u, u, u, u, u, u], [], h⟩) : T Try.prog Γ Fn.laws_eqExport [a0, a1] h K :=
  T_of_body tabOK Try.func140 (code := bodyOf Try.f140) (by kernel_rfl) (by kernel_rfl) (by kernel_rfl) (by kernel_rfl) hw
def laws_eqQuestion_c : C := .seq (.reg [⟨(some 2), none, .box (.t 0)⟩,
  ⟨(some 3), none, .box (.t 1)⟩,
  ⟨(some 4), none, .mov (.c (.bool false))⟩]) (.seq (.seq (.reg [⟨(some 5), none, .fld 0 (.t 2)⟩,
  ⟨(some 6), none, .load 1 false (.t 5)⟩,
  ⟨(some 7), none, .fld 0 (.t 3)⟩,
  ⟨(some 8), none, .load 1 false (.t 7)⟩,
  ⟨(some 9), none, .bin .neq (.num) (.t 6) (.t 8)⟩]) (.cond (.t 9) (.seq (.reg [⟨(some 4), none, .mov (.c (.bool false))⟩]) (.ret)) (.skip))) (.seq (.seq (.reg [⟨(some 10), none, .fld 1 (.t 2)⟩,
  ⟨(some 11), none, .load 1 false (.t 10)⟩,
  ⟨(some 12), none, .fld 1 (.t 3)⟩,
  ⟨(some 13), none, .load 1 false (.t 12)⟩,
  ⟨(some 14), none, .bin .neq (.num) (.t 11) (.t 13)⟩]) (.cond (.t 14) (.seq (.reg [⟨(some 4), none, .mov (.c (.bool false))⟩]) (.ret)) (.skip))) (.seq (.reg [⟨(some 4), none, .mov (.c (.bool true))⟩]) (.ret))))
def laws_eqQuestion_r : List RS := [.t 4]
theorem laws_eqQuestion_e {a0 a1 : AV} {h : AH} {K : AV → AH → Prop} (hw : TC Try.prog Θ Γ laws_eqQuestion_c (retQ laws_eqQuestion_r K) ⟨[a0, a1, u, u, u, u, u, u, u, u, u, u, u, u, u], [], h⟩) : T Try.prog Γ Fn.laws_eqQuestion [a0, a1] h K :=
  T_of_body tabOK Try.func141 (code := bodyOf Try.f141) (by kernel_rfl) (by kernel_rfl) (by kernel_rfl) (by kernel_rfl) hw
def spec_IntValue_c : C := .seq (.reg [⟨(some 2), none, .alloc [.int .i64 0, .int .i64 0]⟩]) (.seq (.reg [⟨(some 3), none, .mov (.t 0)⟩,
  ⟨(some 4), none, .call (.c (.fn Fn.spec_Mod [] [])) [.t 3, .c (.int .i64 1000000)]⟩,
  ⟨(some 5), none, .build [.int .i64 0, .int .i64 0] [(0, 1, .c (.int .i64 0)), (1, 1, .t 4)]⟩,
  ⟨none, none, .store 2 (.t 2) (.t 5)⟩]) (.ret))
def spec_IntValue_r : List RS := [.cell 2 2 true]
theorem spec_IntValue_e {a0 : AV} {h : AH} {K : AV → AH → Prop} (hw : TC Try.prog Θ Γ spec_IntValue_c (retQ spec_IntValue_r K) ⟨[a0, u, u, u, u, u], [], h⟩) : T Try.prog Γ Fn.spec_IntValue [a0] h K :=
  T_of_body tabOK Try.func143 (code := bodyOf Try.f143) (by kernel_rfl) (by kernel_rfl) (by kernel_rfl) (by kernel_rfl) hw
def spec_RefValue_c : C := .seq (.reg [⟨(some 2), none, .alloc [.int .i64 0, .int .i64 0]⟩]) (.seq (.reg [⟨(some 3), none, .mov (.t 0)⟩,
  ⟨(some 4), none, .build [.int .i64 0, .int .i64 0] [(0, 1, .c (.int .i64 1)), (1, 1, .t 3)]⟩,
  ⟨none, none, .store 2 (.t 2) (.t 4)⟩]) (.ret))
def spec_RefValue_r : List RS := [.cell 2 2 true]
theorem spec_RefValue_e {a0 : AV} {h : AH} {K : AV → AH → Prop} (hw : TC Try.prog Θ Γ spec_RefValue_c (retQ spec_RefValue_r K) ⟨[a0, u, u, u, u], [], h⟩) : T Try.prog Γ Fn.spec_RefValue [a0] h K :=
  T_of_body tabOK Try.func144 (code := bodyOf Try.f144) (by kernel_rfl) (by kernel_rfl) (by kernel_rfl) (by kernel_rfl) hw
end Go.Proofs.Ytjohoameeeaafaa
