import Derived.Test.YtjohoameeeaafaaProg
import Derived.Test.YtjohoameeeaafaaAmLib
set_option linter.unusedVariables false
set_option linter.unusedSimpArgs false
namespace Go.Proofs.Ytjohoameeeaafaa
open Go.AM
namespace Fn
abbrev main_main : FuncId := 0
abbrev gosem_cut : FuncId := 1
abbrev gosem_cut_init : FuncId := 2
abbrev laws_FnExactAllWithin : FuncId := 3
abbrev laws_FnExactAreGifts : FuncId := 4
abbrev laws_FnExactUnseal : FuncId := 5
abbrev laws_FnExactGuessCall : FuncId := 6
abbrev laws_FnExactBoxesOf : FuncId := 7
abbrev laws_FnExactDropGifts : FuncId := 8
abbrev laws_FnKeyedHash : FuncId := 9
abbrev laws_FnByteStrings : FuncId := 10
abbrev laws_FnExactPutGift : FuncId := 11
abbrev laws_FnExactSealIn : FuncId := 12
abbrev laws_FnExactFindExport : FuncId := 13
abbrev laws_FnSeals : FuncId := 14
abbrev spec_AllWithin : FuncId := 15
abbrev laws_toIntS : FuncId := 16
abbrev impl_AllWithin : FuncId := 17
abbrev laws_eqIntS : FuncId := 18
abbrev laws_szGiftS : FuncId := 19
abbrev spec_AreGifts : FuncId := 20
abbrev laws_toGiftS : FuncId := 21
abbrev impl_AreGifts : FuncId := 22
abbrev laws_eqGiftS : FuncId := 23
abbrev laws_szBoxS : FuncId := 24
abbrev spec_Unseal : FuncId := 25
abbrev laws_toBoxS : FuncId := 26
abbrev impl_Unseal : FuncId := 27
abbrev laws_eqValue : FuncId := 28
abbrev laws_eqBoxS : FuncId := 29
abbrev spec_GuessCall : FuncId := 30
abbrev impl_GuessCall : FuncId := 31
abbrev laws_eqMessage : FuncId := 32
abbrev laws_markMessage : FuncId := 33
abbrev laws_heldMessage : FuncId := 34
abbrev spec_BoxesOf : FuncId := 35
abbrev impl_BoxesOf : FuncId := 36
abbrev laws_markBoxS : FuncId := 37
abbrev laws_markIntS : FuncId := 38
abbrev laws_heldIntS : FuncId := 39
abbrev spec_DropGifts : FuncId := 40
abbrev impl_DropGifts : FuncId := 41
abbrev laws_markGiftS : FuncId := 42
abbrev laws_heldGiftS : FuncId := 43
abbrev laws_big : FuncId := 44
abbrev spec_DrawKeyedHash : FuncId := 45
abbrev impl_KeyedHash : FuncId := 46
abbrev impl_Hash : FuncId := 47
abbrev laws_at : FuncId := 48
abbrev spec_Mod : FuncId := 49
abbrev spec_DrawDeriveFromString : FuncId := 50
abbrev impl_IsValidKey : FuncId := 51
abbrev impl_DeriveFromString : FuncId := 52
abbrev spec_DrawAppendBytes : FuncId := 53
abbrev impl_AppendBytes : FuncId := 54
abbrev impl_ReadBytes : FuncId := 55
abbrev laws_sameBytes : FuncId := 56
abbrev impl_EncodeInts : FuncId := 57
abbrev impl_DecodeInts : FuncId := 58
abbrev laws_sameInts : FuncId := 59
abbrev spec_PutGift : FuncId := 60
abbrev laws_toGift : FuncId := 61
abbrev impl_PutGift : FuncId := 62
abbrev spec_SealIn : FuncId := 63
abbrev laws_toValue : FuncId := 64
abbrev impl_SealIn : FuncId := 65
abbrev laws_heldBoxS : FuncId := 66
abbrev laws_szLink : FuncId := 67
abbrev spec_FindExport : FuncId := 68
abbrev laws_toLink : FuncId := 69
abbrev impl_FindExport : FuncId := 70
abbrev laws_eqLink : FuncId := 71
abbrev spec_DrawSealIn : FuncId := 72
abbrev spec_DrawRebrand : FuncId := 73
abbrev impl_Rebrand : FuncId := 74
abbrev spec_Rebrand : FuncId := 75
abbrev impl_AreBoxes : FuncId := 76
abbrev spec_AreBoxes : FuncId := 77
abbrev slices_ContainsFunc_iint_int : FuncId := 78
abbrev impl_AllWithin_1 : FuncId := 79
abbrev slices_Contains_iint_int : FuncId := 80
abbrev spec_l1In : FuncId := 81
abbrev impl_areGifts : FuncId := 82
abbrev laws_eqGift : FuncId := 83
abbrev spec_l32Find : FuncId := 84
abbrev spec_BrokenValue : FuncId := 85
abbrev laws_toBox : FuncId := 86
abbrev impl_boxAt : FuncId := 87
abbrev impl_BrokenValue : FuncId := 88
abbrev laws_eqBox : FuncId := 89
abbrev laws_eqWireS : FuncId := 90
abbrev laws_eqWire : FuncId := 91
abbrev laws_eqTag : FuncId := 92
abbrev laws_markWireS : FuncId := 93
abbrev laws_heldWireS : FuncId := 94
abbrev slices_DeleteFunc_iimpl_Gift_impl_Gift : FuncId := 95
abbrev slices_Clone_iimpl_Gift_impl_Gift : FuncId := 96
abbrev impl_DropGifts_1 : FuncId := 97
abbrev spec_l1New : FuncId := 98
abbrev spec_l3Word : FuncId := 99
abbrev spec_l3Words : FuncId := 100
abbrev slices_Concat_iint_int : FuncId := 101
abbrev impl_Mod : FuncId := 102
abbrev spec_l1Str : FuncId := 103
abbrev impl_in : FuncId := 104
abbrev impl_BytesToInts : FuncId := 105
abbrev spec_l1Bytes : FuncId := 106
abbrev spec_l1Below : FuncId := 107
abbrev impl_AppendUvarint : FuncId := 108
abbrev impl_ReadUvarint : FuncId := 109
abbrev slices_Clone_ibyte_byte : FuncId := 110
abbrev spec_l31Copy : FuncId := 111
abbrev spec_l32Copy : FuncId := 112
abbrev slices_Clone_iimpl_Box_impl_Box : FuncId := 113
abbrev impl_areBoxes : FuncId := 114
abbrev laws_szExportS : FuncId := 115
abbrev laws_szQuestionS : FuncId := 116
abbrev laws_toExportS : FuncId := 117
abbrev laws_toQuestionS : FuncId := 118
abbrev impl_Link_at : FuncId := 119
abbrev laws_eqExportS : FuncId := 120
abbrev laws_eqQuestionS : FuncId := 121
abbrev spec_l32Any : FuncId := 122
abbrev spec_l4Any : FuncId := 123
abbrev slices_IndexFunc_iint_int : FuncId := 124
abbrev slices_Index_iint_int : FuncId := 125
abbrev impl_named : FuncId := 126
abbrev slices_ContainsFunc_iimpl_Gift_impl_Gift : FuncId := 127
abbrev impl_areGifts_1 : FuncId := 128
abbrev slices_IndexFunc_iimpl_Box_impl_Box : FuncId := 129
abbrev impl_boxAt_1 : FuncId := 130
abbrev slices_IndexFunc_iimpl_Gift_impl_Gift : FuncId := 131
abbrev spec_l1Once : FuncId := 132
abbrev spec_l1Int : FuncId := 133
abbrev slices_Grow_iint_int : FuncId := 134
abbrev spec_l1Byte : FuncId := 135
abbrev laws_toExport : FuncId := 136
abbrev laws_toQuestion : FuncId := 137
abbrev slices_IndexFunc_iimpl_Export_impl_Export : FuncId := 138
abbrev impl_Link_at_1 : FuncId := 139
abbrev laws_eqExport : FuncId := 140
abbrev laws_eqQuestion : FuncId := 141
abbrev spec_l32List : FuncId := 142
abbrev spec_IntValue : FuncId := 143
abbrev spec_RefValue : FuncId := 144
abbrev runtime_boundsError_Error : FuncId := 145
abbrev runtime_boundsError_RuntimeError : FuncId := 146
abbrev runtime_errorString_Error : FuncId := 147
abbrev runtime_errorString_RuntimeError : FuncId := 148
abbrev runtime_plainError_Error : FuncId := 149
abbrev runtime_plainError_RuntimeError : FuncId := 150
abbrev runtime_errorAddressString_Error : FuncId := 151
abbrev runtime_errorAddressString_RuntimeError : FuncId := 152
abbrev runtime_TypeAssertionError_Error : FuncId := 153
abbrev runtime_TypeAssertionError_RuntimeError : FuncId := 154
abbrev runtime_PanicNilError_Error : FuncId := 155
abbrev runtime_PanicNilError_RuntimeError : FuncId := 156
abbrev internal_abi_Type_Align : FuncId := 157
abbrev internal_runtime_maps_unhashableTypeError_Error : FuncId := 158
abbrev internal_runtime_maps_unhashableTypeError_RuntimeError : FuncId := 159
abbrev impl_Message_copied : FuncId := 160
abbrev impl_Link_copied : FuncId := 161
abbrev impl_Link_ask : FuncId := 162
abbrev internal_abi_Kind_String : FuncId := 163
end Fn
namespace Gn
end Gn
def tabL : List (Nat × TI) := [
  (3, ⟨.int .i64, 1, 8, [.int .i64 0], none⟩),
  (4, ⟨.bool, 1, 1, [.bool false], none⟩),
  (5, ⟨.int .u8, 1, 1, [.int .u8 0], none⟩),
  (9, ⟨.str, 1, 16, [.str ⟨#[]⟩], none⟩),
  (22, ⟨.slice 3, 1, 24, [.nils], none⟩),
  (25, ⟨.slice 82, 1, 24, [.nils], none⟩),
  (28, ⟨.slice 85, 1, 24, [.nils], none⟩),
  (32, ⟨.slice 122, 1, 24, [.nils], none⟩),
  (35, ⟨.strct [(0, 3), (1, 3)], 2, 16, [.int .i64 0, .int .i64 0], (some [.int .i64, .int .i64])⟩),
  (38, ⟨.slice 109, 1, 24, [.nils], none⟩),
  (43, ⟨.slice 44, 1, 24, [.nils], none⟩),
  (44, ⟨.strct [(0, 3), (1, 3)], 2, 16, [.int .i64 0, .int .i64 0], none⟩),
  (46, ⟨.strct [(0, 3), (1, 3), (2, 3)], 3, 24, [.int .i64 0, .int .i64 0, .int .i64 0], none⟩),
  (48, ⟨.strct [(0, 3), (1, 3), (2, 3), (3, 3), (4, 9), (5, 43), (6, 44), (8, 3), (9, 46)], 12, 120, [.int .i64 0, .int .i64 0, .int .i64 0, .int .i64 0, .str ⟨#[]⟩, .nils, .int .i64 0, .int .i64 0, .int .i64 0, .int .i64 0, .int .i64 0, .int .i64 0], none⟩),
  (60, ⟨.slice 5, 1, 24, [.nils], none⟩),
  (82, ⟨.strct [(0, 3), (1, 3), (2, 3), (3, 3)], 4, 32, [.int .i64 0, .int .i64 0, .int .i64 0, .int .i64 0], none⟩),
  (85, ⟨.strct [(0, 3), (1, 3), (2, 3), (3, 3)], 4, 32, [.int .i64 0, .int .i64 0, .int .i64 0, .int .i64 0], none⟩),
  (88, ⟨.strct [(0, 3), (1, 3)], 2, 16, [.int .i64 0, .int .i64 0], none⟩),
  (93, ⟨.slice 171, 1, 24, [.nils], none⟩),
  (94, ⟨.slice 175, 1, 24, [.nils], none⟩),
  (96, ⟨.strct [(0, 3), (1, 4), (2, 93), (3, 3), (4, 94), (5, 3), (6, 94)], 7, 104, [.int .i64 0, .bool false, .nils, .int .i64 0, .nils, .int .i64 0, .nils], none⟩),
  (99, ⟨.slice 150, 1, 24, [.nils], none⟩),
  (100, ⟨.slice 173, 1, 24, [.nils], none⟩),
  (102, ⟨.strct [(0, 3), (1, 4), (2, 99), (3, 3), (4, 100), (5, 3), (6, 100)], 7, 104, [.int .i64 0, .bool false, .nils, .int .i64 0, .nils, .int .i64 0, .nils], none⟩),
  (109, ⟨.strct [(0, 3), (1, 3), (2, 35)], 4, 32, [.int .i64 0, .int .i64 0, .int .i64 0, .int .i64 0], none⟩),
  (122, ⟨.strct [(0, 3), (1, 3), (2, 88)], 4, 32, [.int .i64 0, .int .i64 0, .int .i64 0, .int .i64 0], none⟩),
  (138, ⟨.slice 9, 1, 24, [.nils], none⟩),
  (150, ⟨.strct [(0, 3), (1, 3), (2, 3)], 3, 24, [.int .i64 0, .int .i64 0, .int .i64 0], none⟩),
  (164, ⟨.strct [(0, 60), (1, 3), (2, 3)], 3, 40, [.nils, .int .i64 0, .int .i64 0], none⟩),
  (167, ⟨.slice 22, 1, 24, [.nils], none⟩),
  (171, ⟨.strct [(0, 3), (1, 3), (2, 3)], 3, 24, [.int .i64 0, .int .i64 0, .int .i64 0], none⟩),
  (173, ⟨.strct [(0, 3), (1, 3)], 2, 16, [.int .i64 0, .int .i64 0], none⟩),
  (175, ⟨.strct [(0, 3), (1, 3)], 2, 16, [.int .i64 0, .int .i64 0], none⟩)]
def Θ : Tab := tabOf tabL
theorem tabOK : TabOK Try.prog Θ := tabOK_of (by kernel_rfl) (by kernel_rfl)
theorem mixed : Try.prog.follows .mixedOrders = true := by kernel_rfl
variable {Γ : Glob}

def laws_FnExactDropGifts_c : C := .seq (.reg [⟨(some 4), none, .mov (.c (.bool false))⟩]) (.seq (.reg [⟨(some 5), none, .mov (.c (.int .i64 1048576))⟩]) (.seq (.reg [⟨(some 13), none, .mov (.t 0)⟩,
  ⟨(some 14), none, .mov (.t 5)⟩,
  ⟨(some 15), none, .call (.c (.fn Fn.laws_szGiftS [] [])) [.t 13, .t 14]⟩,
  ⟨(some 5), none, .mov (.t 15)⟩]) (.seq (.seq (.reg [⟨(some 16), none, .mov (.t 5)⟩,
  ⟨(some 17), none, .bin .lss (.num) (.t 16) (.c (.int .i64 0))⟩]) (.cond (.t 17) (.seq (.reg [⟨(some 4), none, .mov (.c (.bool true))⟩]) (.ret)) (.skip))) (.seq (.reg [⟨(some 18), none, .mov (.t 0)⟩,
  ⟨(some 19), none, .call (.c (.fn Fn.laws_toGiftS [] [])) [.t 18]⟩,
  ⟨(some 20), none, .mov (.t 1)⟩,
  ⟨(some 21), none, .call (.c (.fn Fn.spec_DropGifts [] [])) [.t 19, .t 20]⟩,
  ⟨(some 6), none, .mov (.t 21)⟩]) (.seq (.reg [⟨(some 22), none, .mov (.t 0)⟩,
  ⟨(some 23), none, .call (.c (.fn Fn.laws_toGiftS [] [])) [.t 22]⟩,
  ⟨(some 7), none, .mov (.t 23)⟩]) (.seq (.reg [⟨(some 24), none, .mov (.t 7)⟩,
  ⟨(some 25), none, .mov (.t 1)⟩,
  ⟨(some 26), none, .call (.c (.fn Fn.impl_DropGifts [] [])) [.t 24, .t 25]⟩,
  ⟨(some 8), none, .mov (.t 26)⟩]) (.seq (.seq (.reg [⟨(some 27), none, .mov (.t 8)⟩,
  ⟨(some 28), none, .mov (.t 6)⟩,
  ⟨(some 29), none, .call (.c (.fn Fn.laws_eqGiftS [] [])) [.t 27, .t 28]⟩,
  ⟨(some 30), none, .un .not (.t 29)⟩]) (.cond (.t 30) (.seq (.reg [⟨(some 4), none, .mov (.c (.bool false))⟩]) (.ret)) (.skip))) (.seq (.seq (.reg [⟨(some 31), none, .mov (.t 7)⟩,
  ⟨(some 32), none, .mov (.t 0)⟩,
  ⟨(some 33), none, .call (.c (.fn Fn.laws_toGiftS [] [])) [.t 32]⟩,
  ⟨(some 34), none, .call (.c (.fn Fn.laws_eqGiftS [] [])) [.t 31, .t 33]⟩,
  ⟨(some 35), none, .un .not (.t 34)⟩]) (.cond (.t 35) (.seq (.reg [⟨(some 4), none, .mov (.c (.bool false))⟩]) (.ret)) (.skip))) (.seq (.reg [⟨(some 9), none, .mov (.c (.int .i64 1))⟩]) (.seq (.reg [⟨(some 36), none, .mov (.t 7)⟩,
  ⟨(some 37), none, .mov (.t 9)⟩,
  ⟨(some 38), none, .call (.c (.fn Fn.laws_markGiftS [] [])) [.t 36, .t 37]⟩,
  ⟨(some 9), none, .mov (.t 38)⟩]) (.seq (.seq (.reg [⟨(some 39), none, .mov (.t 9)⟩,
  ⟨(some 40), none, .bin .lss (.num) (.t 39) (.c (.int .i64 0))⟩,
  ⟨(some 41), none, .mov (.t 40)⟩,
  ⟨(some 42), (some (2, false)), .mov (.t 8)⟩,
  ⟨(some 43), (some (2, false)), .mov (.t 6)⟩,
  ⟨(some 44), (some (2, false)), .call (.c (.fn Fn.laws_eqGiftS [] [])) [.t 42, .t 43]⟩,
  ⟨(some 45), (some (2, false)), .un .not (.t 44)⟩,
  ⟨(some 46), none, .pick (.t 41) (.c (.bool true)) (.t 45)⟩]) (.cond (.t 46) (.seq (.reg [⟨(some 4), none, .mov (.c (.bool false))⟩]) (.ret)) (.skip))) (.seq (.reg [⟨(some 10), none, .mov (.c (.int .i64 1))⟩]) (.seq (.reg [⟨(some 47), none, .mov (.t 8)⟩,
  ⟨(some 48), none, .mov (.t 10)⟩,
  ⟨(some 49), none, .call (.c (.fn Fn.laws_markGiftS [] [])) [.t 47, .t 48]⟩,
  ⟨(some 10), none, .mov (.t 49)⟩]) (.seq (.reg [⟨(some 11), none, .mov (.c (.int .i64 1))⟩]) (.seq (.reg [⟨(some 50), none, .mov (.t 8)⟩,
  ⟨(some 51), none, .mov (.t 11)⟩,
  ⟨(some 52), none, .call (.c (.fn Fn.laws_heldGiftS [] [])) [.t 50, .t 51]⟩,
  ⟨(some 11), none, .mov (.t 52)⟩]) (.seq (.seq (.reg [⟨(some 53), none, .mov (.t 11)⟩,
  ⟨(some 54), none, .bin .lss (.num) (.t 53) (.c (.int .i64 0))⟩]) (.cond (.t 54) (.seq (.reg [⟨(some 4), none, .mov (.c (.bool false))⟩]) (.ret)) (.skip))) (.seq (.seq (.reg [⟨(some 55), none, .mov (.t 11)⟩,
  ⟨(some 56), none, .mov (.t 10)⟩,
  ⟨(some 57), none, .bin .neq (.num) (.t 55) (.t 56)⟩]) (.cond (.t 57) (.seq (.reg [⟨(some 4), none, .mov (.c (.bool false))⟩]) (.ret)) (.skip))) (.seq (.reg [⟨(some 58), none, .mov (.t 0)⟩,
  ⟨(some 59), none, .call (.c (.fn Fn.laws_toGiftS [] [])) [.t 58]⟩,
  ⟨(some 60), none, .mov (.t 1)⟩,
  ⟨(some 61), none, .call (.c (.fn Fn.impl_DropGifts [] [])) [.t 59, .t 60]⟩,
  ⟨(some 12), none, .mov (.t 61)⟩]) (.seq (.seq (.reg [⟨(some 62), none, .mov (.t 12)⟩,
  ⟨(some 63), none, .mov (.t 6)⟩,
  ⟨(some 64), none, .call (.c (.fn Fn.laws_eqGiftS [] [])) [.t 62, .t 63]⟩,
  ⟨(some 65), none, .un .not (.t 64)⟩]) (.cond (.t 65) (.seq (.reg [⟨(some 4), none, .mov (.c (.bool false))⟩]) (.ret)) (.skip))) (.seq (.reg [⟨(some 11), none, .mov (.c (.int .i64 1))⟩]) (.seq (.reg [⟨(some 66), none, .mov (.t 8)⟩,
  ⟨(some 67), none, .mov (.t 11)⟩,
  ⟨(some 68), none, .call (.c (.fn Fn.laws_heldGiftS [] [])) [.t 66, .t 67]⟩,
  ⟨(some 11), none, .mov (.t 68)⟩]) (.seq (.seq (.reg [⟨(some 69), none, .mov (.t 11)⟩,
  ⟨(some 70), none, .bin .lss (.num) (.t 69) (.c (.int .i64 0))⟩]) (.cond (.t 70) (.seq (.reg [⟨(some 4), none, .mov (.c (.bool false))⟩]) (.ret)) (.skip))) (.seq (.seq (.reg [⟨(some 71), none, .mov (.t 11)⟩,
  ⟨(some 72), none, .mov (.t 10)⟩,
  ⟨(some 73), none, .bin .neq (.num) (.t 71) (.t 72)⟩]) (.cond (.t 73) (.seq (.reg [⟨(some 4), none, .mov (.c (.bool false))⟩]) (.ret)) (.skip))) (.seq (.reg [⟨(some 4), none, .mov (.c (.bool true))⟩]) (.ret)))))))))))))))))))))))))
def laws_FnExactDropGifts_r : List RS := [.t 4]
theorem laws_FnExactDropGifts_e {a0 a1 : AV} {h : AH} {K : AV → AH → Prop} (hw : TC Try.prog Θ Γ laws_FnExactDropGifts_c (retQ laws_FnExactDropGifts_r K) ⟨[a0, a1, u, u, u, u, u, u, u, u, u, u, u, u, u, u, u, u, u, u, u, u, u, u, u, u, u, u, u, u, u, u, u, u, u, u, u, u, u, u, u, u, u, u, u, u, u, u, u, u, u, u, u, u, u, u, u, u, u, u, u, u, u, u, u, u, u, u, u, u, u, u, u, u], [], h⟩) : T Try.prog Γ Fn.laws_FnExactDropGifts [a0, a1] h K :=
  T_of_body tabOK Try.func8 (code := bodyOf Try.f8) (by kernel_rfl) (by kernel_rfl) (by kernel_rfl) (by kernel_rfl) hw
def laws_eqIntS_d0_os : List O := [⟨(some 17), none, .mov (.t 0)⟩,
  ⟨(some 18), none, .mov (.t 5)⟩,
  ⟨(some 19), none, .idxs 1 (.t 17) (.t 18)⟩,
  ⟨(some 20), none, .load 1 false (.t 19)⟩,
  ⟨(some 21), none, .mov (.t 1)⟩,
  ⟨(some 22), none, .mov (.t 5)⟩,
  ⟨(some 23), none, .idxs 1 (.t 21) (.t 22)⟩,
  ⟨(some 24), none, .load 1 false (.t 23)⟩,
  ⟨(some 25), none, .bin .neq (.num) (.t 20) (.t 24)⟩]
def laws_eqIntS_d0_af : List (List Nat) := [[], [], [0, 1], [2], [], [], [4, 5], [6], [3, 7]]
theorem laws_eqIntS_d0_q (gl : Gl) (Q : AE → St → Prop) (s : St) : aw Try.prog Θ Γ gl (.regD laws_eqIntS_d0_os laws_eqIntS_d0_af) Q s = awpOps Try.prog Γ gl [⟨(some 17), none, .mov (.t 0)⟩,
  ⟨(some 18), none, .mov (.t 5)⟩,
  ⟨(some 19), none, .idxs 1 (.t 17) (.t 18)⟩,
  ⟨(some 20), none, .load 1 false (.t 19)⟩,
  ⟨(some 21), none, .mov (.t 1)⟩,
  ⟨(some 22), none, .mov (.t 5)⟩,
  ⟨(some 23), none, .idxs 1 (.t 21) (.t 22)⟩,
  ⟨(some 24), none, .load 1 false (.t 23)⟩,
  ⟨(some 25), none, .bin .neq (.num) (.t 20) (.t 24)⟩] [⟨(some 17), none, .mov (.t 0)⟩,
  ⟨(some 18), none, .mov (.t 5)⟩,
  ⟨(some 19), none, .idxs 1 (.t 17) (.t 18)⟩,
  ⟨(some 20), none, .load 1 false (.t 19)⟩,
  ⟨(some 21), none, .mov (.t 1)⟩,
  ⟨(some 22), none, .mov (.t 5)⟩,
  ⟨(some 23), none, .idxs 1 (.t 21) (.t 22)⟩,
  ⟨(some 24), none, .load 1 false (.t 23)⟩,
  ⟨(some 25), none, .bin .neq (.num) (.t 20) (.t 24)⟩] (Q .normal) s := a_dq (by kernel_rfl) gl Q s
def laws_eqIntS_c : C := .seq (.reg [⟨(some 4), none, .mov (.c (.bool false))⟩]) (.seq (.seq (.reg [⟨(some 6), none, .mov (.t 0)⟩,
  ⟨(some 7), none, .len false (.t 6)⟩,
  ⟨(some 8), none, .mov (.t 1)⟩,
  ⟨(some 9), none, .len false (.t 8)⟩,
  ⟨(some 10), none, .bin .neq (.num) (.t 7) (.t 9)⟩]) (.cond (.t 10) (.seq (.reg [⟨(some 4), none, .mov (.c (.bool false))⟩]) (.ret)) (.skip))) (.seq (.seq (.reg [⟨(some 5), none, .mov (.c (.int .i64 0))⟩]) (.block 0 (.loop (.seq (.seq (.reg [⟨(some 11), none, .mov (.t 5)⟩,
  ⟨(some 12), none, .mov (.t 0)⟩,
  ⟨(some 13), none, .len false (.t 12)⟩,
  ⟨(some 14), none, .bin .lss (.num) (.t 11) (.t 13)⟩]) (.cond (.t 14) (.skip) (.exit 0))) (.seq (.block 1 (.seq (.regD laws_eqIntS_d0_os laws_eqIntS_d0_af) (.cond (.t 25) (.seq (.reg [⟨(some 4), none, .mov (.c (.bool false))⟩]) (.ret)) (.skip)))) (.reg [⟨(some 15), none, .mov (.t 5)⟩,
  ⟨(some 16), none, .bin .add (.num) (.t 15) (.c (.int .i64 1))⟩,
  ⟨(some 5), none, .mov (.t 16)⟩])))))) (.seq (.reg [⟨(some 4), none, .mov (.c (.bool true))⟩]) (.ret))))
def laws_eqIntS_r : List RS := [.t 4]
def laws_eqIntS_s0 (t0 t1 t5 : AV) (loc : List (List AV)) (h : AH) : St := ⟨[t0, t1, .any, .any, .any, t5, .any, .any, .any, .any, .any, .any, .any, .any, .any, .any, .any, .any, .any, .any, .any, .any, .any, .any, .any, .any], loc, h⟩
theorem laws_eqIntS_e {a0 a1 : AV} {h : AH} {K : AV → AH → Prop} (hw : TC Try.prog Θ Γ laws_eqIntS_c (retQ laws_eqIntS_r K) ⟨[a0, a1, u, u, u, u, u, u, u, u, u, u, u, u, u, u, u, u, u, u, u, u, u, u, u, u], [], h⟩) : T Try.prog Γ Fn.laws_eqIntS [a0, a1] h K :=
  T_of_body tabOK Try.func18 (code := bodyOf Try.f18) (by kernel_rfl) (by kernel_rfl) (by kernel_rfl) (by kernel_rfl) hw
def laws_szGiftS_c : C := .seq (.reg [⟨(some 4), none, .mov (.c (.int .i64 0))⟩]) (.seq (.reg [⟨(some 5), none, .mov (.t 1)⟩,
  ⟨(some 6), none, .mov (.t 0)⟩,
  ⟨(some 7), none, .len false (.t 6)⟩,
  ⟨(some 8), none, .bin .sub (.num) (.t 5) (.t 7)⟩,
  ⟨(some 1), none, .mov (.t 8)⟩]) (.seq (.seq (.reg [⟨(some 9), none, .mov (.t 1)⟩,
  ⟨(some 10), none, .bin .lss (.num) (.t 9) (.c (.int .i64 0))⟩]) (.cond (.t 10) (.seq (.reg [⟨(some 4), none, .mov (.c (.int .i64 (-1)))⟩]) (.ret)) (.skip))) (.seq (.reg [⟨(some 11), none, .mov (.t 1)⟩,
  ⟨(some 4), none, .mov (.t 11)⟩]) (.ret))))
def laws_szGiftS_r : List RS := [.t 4]
theorem laws_szGiftS_e {a0 a1 : AV} {h : AH} {K : AV → AH → Prop} (hw : TC Try.prog Θ Γ laws_szGiftS_c (retQ laws_szGiftS_r K) ⟨[a0, a1, u, u, u, u, u, u, u, u, u, u], [], h⟩) : T Try.prog Γ Fn.laws_szGiftS [a0, a1] h K :=
  T_of_body tabOK Try.func19 (code := bodyOf Try.f19) (by kernel_rfl) (by kernel_rfl) (by kernel_rfl) (by kernel_rfl) hw
def laws_toGiftS_c : C := .seq (.reg [⟨(some 2), none, .mov (.c (.nils))⟩]) (.seq (.reg [⟨(some 5), none, .mov (.t 0)⟩,
  ⟨(some 6), none, .len false (.t 5)⟩,
  ⟨(some 7), none, .mks 4 32 [.int .i64 0, .int .i64 0, .int .i64 0, .int .i64 0] (.t 6) (.t 6)⟩,
  ⟨(some 3), none, .mov (.t 7)⟩]) (.seq (.seq (.reg [⟨(some 4), none, .mov (.c (.int .i64 0))⟩]) (.block 0 (.loop (.seq (.seq (.reg [⟨(some 8), none, .mov (.t 4)⟩,
  ⟨(some 9), none, .mov (.t 0)⟩,
  ⟨(some 10), none, .len false (.t 9)⟩,
  ⟨(some 11), none, .bin .lss (.num) (.t 8) (.t 10)⟩]) (.cond (.t 11) (.skip) (.exit 0))) (.seq (.block 1 (.reg [⟨(some 14), none, .mov (.t 3)⟩,
  ⟨(some 15), none, .mov (.t 4)⟩,
  ⟨(some 16), none, .mov (.t 0)⟩,
  ⟨(some 17), none, .mov (.t 4)⟩,
  ⟨(some 18), none, .idxs 4 (.t 16) (.t 17)⟩,
  ⟨(some 19), none, .load 4 true (.t 18)⟩,
  ⟨(some 20), none, .call (.c (.fn Fn.laws_toGift [] [])) [.t 19]⟩,
  ⟨(some 21), none, .idxs 4 (.t 14) (.t 15)⟩,
  ⟨none, none, .store 4 (.t 21) (.t 20)⟩])) (.reg [⟨(some 12), none, .mov (.t 4)⟩,
  ⟨(some 13), none, .bin .add (.num) (.t 12) (.c (.int .i64 1))⟩,
  ⟨(some 4), none, .mov (.t 13)⟩])))))) (.seq (.reg [⟨(some 22), none, .mov (.t 3)⟩,
  ⟨(some 2), none, .mov (.t 22)⟩]) (.ret))))
def laws_toGiftS_r : List RS := [.t 2]
def laws_toGiftS_s0 (t0 t3 t4 : AV) (loc : List (List AV)) (h : AH) : St := ⟨[t0, .any, .any, t3, t4, .any, .any, .any, .any, .any, .any, .any, .any, .any, .any, .any, .any, .any, .any, .any, .any, .any, .any], loc, h⟩
theorem laws_toGiftS_e {a0 : AV} {h : AH} {K : AV → AH → Prop} (hw : TC Try.prog Θ Γ laws_toGiftS_c (retQ laws_toGiftS_r K) ⟨[a0, u, u, u, u, u, u, u, u, u, u, u, u, u, u, u, u, u, u, u, u, u, u], [], h⟩) : T Try.prog Γ Fn.laws_toGiftS [a0] h K :=
  T_of_body tabOK Try.func21 (code := bodyOf Try.f21) (by kernel_rfl) (by kernel_rfl) (by kernel_rfl) (by kernel_rfl) hw
def laws_eqGiftS_d0_os : List O := [⟨(some 17), none, .mov (.t 0)⟩,
  ⟨(some 18), none, .mov (.t 5)⟩,
  ⟨(some 19), none, .idxs 4 (.t 17) (.t 18)⟩,
  ⟨(some 20), none, .load 4 true (.t 19)⟩,
  ⟨(some 21), none, .mov (.t 1)⟩,
  ⟨(some 22), none, .mov (.t 5)⟩,
  ⟨(some 23), none, .idxs 4 (.t 21) (.t 22)⟩,
  ⟨(some 24), none, .load 4 true (.t 23)⟩,
  ⟨(some 25), none, .call (.c (.fn Fn.laws_eqGift [] [])) [.t 20, .t 24]⟩,
  ⟨(some 26), none, .un .not (.t 25)⟩]
def laws_eqGiftS_d0_af : List (List Nat) := [[], [], [0, 1], [2], [], [], [4, 5], [6], [3, 7], [8]]
theorem laws_eqGiftS_d0_q (gl : Gl) (Q : AE → St → Prop) (s : St) : aw Try.prog Θ Γ gl (.regD laws_eqGiftS_d0_os laws_eqGiftS_d0_af) Q s = awpT Try.prog Γ gl [⟨(some 17), none, .mov (.t 0)⟩,
  ⟨(some 18), none, .mov (.t 5)⟩,
  ⟨(some 19), none, .idxs 4 (.t 17) (.t 18)⟩,
  ⟨(some 20), none, .load 4 true (.t 19)⟩,
  ⟨(some 21), none, .mov (.t 1)⟩,
  ⟨(some 22), none, .mov (.t 5)⟩,
  ⟨(some 23), none, .idxs 4 (.t 21) (.t 22)⟩,
  ⟨(some 24), none, .load 4 true (.t 23)⟩,
  ⟨(some 25), none, .call (.c (.fn Fn.laws_eqGift [] [])) [.t 20, .t 24]⟩,
  ⟨(some 26), none, .un .not (.t 25)⟩] (Q .normal) 10 (.q 0 (.q 1 (.q 2 (.q 3 (.q 4 (.q 5 (.q 6 (.q 7 (.q 8 (.q 9 (.done))))))))))) s := a_dd rfl (by kernel_rfl) gl Q s
def laws_eqGiftS_c : C := .seq (.reg [⟨(some 4), none, .mov (.c (.bool false))⟩]) (.seq (.seq (.reg [⟨(some 6), none, .mov (.t 0)⟩,
  ⟨(some 7), none, .len false (.t 6)⟩,
  ⟨(some 8), none, .mov (.t 1)⟩,
  ⟨(some 9), none, .len false (.t 8)⟩,
  ⟨(some 10), none, .bin .neq (.num) (.t 7) (.t 9)⟩]) (.cond (.t 10) (.seq (.reg [⟨(some 4), none, .mov (.c (.bool false))⟩]) (.ret)) (.skip))) (.seq (.seq (.reg [⟨(some 5), none, .mov (.c (.int .i64 0))⟩]) (.block 0 (.loop (.seq (.seq (.reg [⟨(some 11), none, .mov (.t 5)⟩,
  ⟨(some 12), none, .mov (.t 0)⟩,
  ⟨(some 13), none, .len false (.t 12)⟩,
  ⟨(some 14), none, .bin .lss (.num) (.t 11) (.t 13)⟩]) (.cond (.t 14) (.skip) (.exit 0))) (.seq (.block 1 (.seq (.regD laws_eqGiftS_d0_os laws_eqGiftS_d0_af) (.cond (.t 26) (.seq (.reg [⟨(some 4), none, .mov (.c (.bool false))⟩]) (.ret)) (.skip)))) (.reg [⟨(some 15), none, .mov (.t 5)⟩,
  ⟨(some 16), none, .bin .add (.num) (.t 15) (.c (.int .i64 1))⟩,
  ⟨(some 5), none, .mov (.t 16)⟩])))))) (.seq (.reg [⟨(some 4), none, .mov (.c (.bool true))⟩]) (.ret))))
def laws_eqGiftS_r : List RS := [.t 4]
def laws_eqGiftS_s0 (t0 t1 t5 : AV) (loc : List (List AV)) (h : AH) : St := ⟨[t0, t1, .any, .any, .any, t5, .any, .any, .any, .any, .any, .any, .any, .any, .any, .any, .any, .any, .any, .any, .any, .any, .any, .any, .any, .any, .any], loc, h⟩
theorem laws_eqGiftS_e {a0 a1 : AV} {h : AH} {K : AV → AH → Prop} (hw : TC Try.prog Θ Γ laws_eqGiftS_c (retQ laws_eqGiftS_r K) ⟨[a0, a1, u, u, u, u, u, u, u, u, u, u, u, u, u, u, u, u, u, u, u, u, u, u, u, u, u], [], h⟩) : T Try.prog Γ Fn.laws_eqGiftS [a0, a1] h K :=
  T_of_body tabOK Try.func23 (code := bodyOf Try.f23) (by kernel_rfl) (by kernel_rfl) (by kernel_rfl) (by kernel_rfl) hw
def laws_szBoxS_c : C := .seq (.reg [⟨(some 4), none, .mov (.c (.int .i64 0))⟩]) (.seq (.reg [⟨(some 5), none, .mov (.t 1)⟩,
  ⟨(some 6), none, .mov (.t 0)⟩,
  ⟨(some 7), none, .len false (.t 6)⟩,
  ⟨(some 8), none, .bin .sub (.num) (.t 5) (.t 7)⟩,
  ⟨(some 1), none, .mov (.t 8)⟩]) (.seq (.seq (.reg [⟨(some 9), none, .mov (.t 1)⟩,
  ⟨(some 10), none, .bin .lss (.num) (.t 9) (.c (.int .i64 0))⟩]) (.cond (.t 10) (.seq (.reg [⟨(some 4), none, .mov (.c (.int .i64 (-1)))⟩]) (.ret)) (.skip))) (.seq (.reg [⟨(some 11), none, .mov (.t 1)⟩,
  ⟨(some 4), none, .mov (.t 11)⟩]) (.ret))))
def laws_szBoxS_r : List RS := [.t 4]
theorem laws_szBoxS_e {a0 a1 : AV} {h : AH} {K : AV → AH → Prop} (hw : TC Try.prog Θ Γ laws_szBoxS_c (retQ laws_szBoxS_r K) ⟨[a0, a1, u, u, u, u, u, u, u, u, u, u], [], h⟩) : T Try.prog Γ Fn.laws_szBoxS [a0, a1] h K :=
  T_of_body tabOK Try.func24 (code := bodyOf Try.f24) (by kernel_rfl) (by kernel_rfl) (by kernel_rfl) (by kernel_rfl) hw
def laws_toBoxS_c : C := .seq (.reg [⟨(some 2), none, .mov (.c (.nils))⟩]) (.seq (.reg [⟨(some 5), none, .mov (.t 0)⟩,
  ⟨(some 6), none, .len false (.t 5)⟩,
  ⟨(some 7), none, .mks 4 32 [.int .i64 0, .int .i64 0, .int .i64 0, .int .i64 0] (.t 6) (.t 6)⟩,
  ⟨(some 3), none, .mov (.t 7)⟩]) (.seq (.seq (.reg [⟨(some 4), none, .mov (.c (.int .i64 0))⟩]) (.block 0 (.loop (.seq (.seq (.reg [⟨(some 8), none, .mov (.t 4)⟩,
  ⟨(some 9), none, .mov (.t 0)⟩,
  ⟨(some 10), none, .len false (.t 9)⟩,
  ⟨(some 11), none, .bin .lss (.num) (.t 8) (.t 10)⟩]) (.cond (.t 11) (.skip) (.exit 0))) (.seq (.block 1 (.reg [⟨(some 14), none, .mov (.t 3)⟩,
  ⟨(some 15), none, .mov (.t 4)⟩,
  ⟨(some 16), none, .mov (.t 0)⟩,
  ⟨(some 17), none, .mov (.t 4)⟩,
  ⟨(some 18), none, .idxs 4 (.t 16) (.t 17)⟩,
  ⟨(some 19), none, .load 4 true (.t 18)⟩,
  ⟨(some 20), none, .call (.c (.fn Fn.laws_toBox [] [])) [.t 19]⟩,
  ⟨(some 21), none, .idxs 4 (.t 14) (.t 15)⟩,
  ⟨none, none, .store 4 (.t 21) (.t 20)⟩])) (.reg [⟨(some 12), none, .mov (.t 4)⟩,
  ⟨(some 13), none, .bin .add (.num) (.t 12) (.c (.int .i64 1))⟩,
  ⟨(some 4), none, .mov (.t 13)⟩])))))) (.seq (.reg [⟨(some 22), none, .mov (.t 3)⟩,
  ⟨(some 2), none, .mov (.t 22)⟩]) (.ret))))
def laws_toBoxS_r : List RS := [.t 2]
def laws_toBoxS_s0 (t0 t3 t4 : AV) (loc : List (List AV)) (h : AH) : St := ⟨[t0, .any, .any, t3, t4, .any, .any, .any, .any, .any, .any, .any, .any, .any, .any, .any, .any, .any, .any, .any, .any, .any, .any], loc, h⟩
theorem laws_toBoxS_e {a0 : AV} {h : AH} {K : AV → AH → Prop} (hw : TC Try.prog Θ Γ laws_toBoxS_c (retQ laws_toBoxS_r K) ⟨[a0, u, u, u, u, u, u, u, u, u, u, u, u, u, u, u, u, u, u, u, u, u, u], [], h⟩) : T Try.prog Γ Fn.laws_toBoxS [a0] h K :=
  T_of_body tabOK Try.func26 (code := bodyOf Try.f26) (by kernel_rfl) (by kernel_rfl) (by kernel_rfl) (by kernel_rfl) hw
def laws_eqValue_c : C := .seq (.reg [⟨(some 2), none, .box (.t 0)⟩,
  ⟨(some 3), none, .box (.t 1)⟩,
  ⟨(some 4), none, .mov (.c (.bool false))⟩]) (.seq (.seq (.reg [⟨(some 5), none, .fld 0 (.t 2)⟩,
  ⟨(some 6), none, .load 1 false (.t 5)⟩,
  ⟨(some 7), none, .fld 0 (.t 3)⟩,
  ⟨(some 8), none, .load 1 false (.t 7)⟩,
  ⟨(some 9), none, .bin .neq (.num) (.t 6) (.t 8)⟩]) (.cond (.t 9) (.seq (.reg [⟨(some 4), none, .mov (.c (.bool false))⟩]) (.ret)) (.skip))) (.seq (.seq (.reg [⟨(some 10), none, .fld 1 (.t 2)⟩,
  ⟨(some 11), none, .load 1 false (.t 10)⟩,
  ⟨(some 12), none, .fld 1 (.t 3)⟩,
  ⟨(some 13), none, .load 1 false (.t 12)⟩,
  ⟨(some 14), none, .bin .neq (.num) (.t 11) (.t 13)⟩]) (.cond (.t 14) (.seq (.reg [⟨(some 4), none, .mov (.c (.bool false))⟩]) (.ret)) (.skip))) (.seq (.reg [⟨(some 4), none, .mov (.c (.bool true))⟩]) (.ret))))
def laws_eqValue_r : List RS := [.t 4]
theorem laws_eqValue_e {a0 a1 : AV} {h : AH} {K : AV → AH → Prop} (hw : TC Try.prog Θ Γ laws_eqValue_c (retQ laws_eqValue_r K) ⟨[a0, a1, u, u, u, u, u, u, u, u, u, u, u, u, u], [], h⟩) : T Try.prog Γ Fn.laws_eqValue [a0, a1] h K :=
  T_of_body tabOK Try.func28 (code := bodyOf Try.f28) (by kernel_rfl) (by kernel_rfl) (by kernel_rfl) (by kernel_rfl) hw
def laws_eqBoxS_d0_os : List O := [⟨(some 17), none, .mov (.t 0)⟩,
  ⟨(some 18), none, .mov (.t 5)⟩,
  ⟨(some 19), none, .idxs 4 (.t 17) (.t 18)⟩,
  ⟨(some 20), none, .load 4 true (.t 19)⟩,
  ⟨(some 21), none, .mov (.t 1)⟩,
  ⟨(some 22), none, .mov (.t 5)⟩,
  ⟨(some 23), none, .idxs 4 (.t 21) (.t 22)⟩,
  ⟨(some 24), none, .load 4 true (.t 23)⟩,
  ⟨(some 25), none, .call (.c (.fn Fn.laws_eqBox [] [])) [.t 20, .t 24]⟩,
  ⟨(some 26), none, .un .not (.t 25)⟩]
def laws_eqBoxS_d0_af : List (List Nat) := [[], [], [0, 1], [2], [], [], [4, 5], [6], [3, 7], [8]]
theorem laws_eqBoxS_d0_q (gl : Gl) (Q : AE → St → Prop) (s : St) : aw Try.prog Θ Γ gl (.regD laws_eqBoxS_d0_os laws_eqBoxS_d0_af) Q s = awpT Try.prog Γ gl [⟨(some 17), none, .mov (.t 0)⟩,
  ⟨(some 18), none, .mov (.t 5)⟩,
  ⟨(some 19), none, .idxs 4 (.t 17) (.t 18)⟩,
  ⟨(some 20), none, .load 4 true (.t 19)⟩,
  ⟨(some 21), none, .mov (.t 1)⟩,
  ⟨(some 22), none, .mov (.t 5)⟩,
  ⟨(some 23), none, .idxs 4 (.t 21) (.t 22)⟩,
  ⟨(some 24), none, .load 4 true (.t 23)⟩,
  ⟨(some 25), none, .call (.c (.fn Fn.laws_eqBox [] [])) [.t 20, .t 24]⟩,
  ⟨(some 26), none, .un .not (.t 25)⟩] (Q .normal) 10 (.q 0 (.q 1 (.q 2 (.q 3 (.q 4 (.q 5 (.q 6 (.q 7 (.q 8 (.q 9 (.done))))))))))) s := a_dd rfl (by kernel_rfl) gl Q s
def laws_eqBoxS_c : C := .seq (.reg [⟨(some 4), none, .mov (.c (.bool false))⟩]) (.seq (.seq (.reg [⟨(some 6), none, .mov (.t 0)⟩,
  ⟨(some 7), none, .len false (.t 6)⟩,
  ⟨(some 8), none, .mov (.t 1)⟩,
  ⟨(some 9), none, .len false (.t 8)⟩,
  ⟨(some 10), none, .bin .neq (.num) (.t 7) (.t 9)⟩]) (.cond (.t 10) (.seq (.reg [⟨(some 4), none, .mov (.c (.bool false))⟩]) (.ret)) (.skip))) (.seq (.seq (.reg [⟨(some 5), none, .mov (.c (.int .i64 0))⟩]) (.block 0 (.loop (.seq (.seq (.reg [⟨(some 11), none, .mov (.t 5)⟩,
  ⟨(some 12), none, .mov (.t 0)⟩,
  ⟨(some 13), none, .len false (.t 12)⟩,
  ⟨(some 14), none, .bin .lss (.num) (.t 11) (.t 13)⟩]) (.cond (.t 14) (.skip) (.exit 0))) (.seq (.block 1 (.seq (.regD laws_eqBoxS_d0_os laws_eqBoxS_d0_af) (.cond (.t 26) (.seq (.reg [⟨(some 4), none, .mov (.c (.bool false))⟩]) (.ret)) (.skip)))) (.reg [⟨(some 15), none, .mov (.t 5)⟩,
  ⟨(some 16), none, .bin .add (.num) (.t 15) (.c (.int .i64 1))⟩,
  ⟨(some 5), none, .mov (.t 16)⟩])))))) (.seq (.reg [⟨(some 4), none, .mov (.c (.bool true))⟩]) (.ret))))
def laws_eqBoxS_r : List RS := [.t 4]
def laws_eqBoxS_s0 (t0 t1 t5 : AV) (loc : List (List AV)) (h : AH) : St := ⟨[t0, t1, .any, .any, .any, t5, .any, .any, .any, .any, .any, .any, .any, .any, .any, .any, .any, .any, .any, .any, .any, .any, .any, .any, .any, .any, .any], loc, h⟩
theorem laws_eqBoxS_e {a0 a1 : AV} {h : AH} {K : AV → AH → Prop} (hw : TC Try.prog Θ Γ laws_eqBoxS_c (retQ laws_eqBoxS_r K) ⟨[a0, a1, u, u, u, u, u, u, u, u, u, u, u, u, u, u, u, u, u, u, u, u, u, u, u, u, u], [], h⟩) : T Try.prog Γ Fn.laws_eqBoxS [a0, a1] h K :=
  T_of_body tabOK Try.func29 (code := bodyOf Try.f29) (by kernel_rfl) (by kernel_rfl) (by kernel_rfl) (by kernel_rfl) hw
def laws_eqMessage_c : C := .seq (.reg [⟨(some 2), none, .box (.t 0)⟩,
  ⟨(some 3), none, .box (.t 1)⟩,
  ⟨(some 4), none, .mov (.c (.bool false))⟩]) (.seq (.seq (.reg [⟨(some 5), none, .fld 0 (.t 2)⟩,
  ⟨(some 6), none, .load 1 false (.t 5)⟩,
  ⟨(some 7), none, .fld 0 (.t 3)⟩,
  ⟨(some 8), none, .load 1 false (.t 7)⟩,
  ⟨(some 9), none, .bin .neq (.num) (.t 6) (.t 8)⟩]) (.cond (.t 9) (.seq (.reg [⟨(some 4), none, .mov (.c (.bool false))⟩]) (.ret)) (.skip))) (.seq (.seq (.reg [⟨(some 10), none, .fld 1 (.t 2)⟩,
  ⟨(some 11), none, .load 1 false (.t 10)⟩,
  ⟨(some 12), none, .fld 1 (.t 3)⟩,
  ⟨(some 13), none, .load 1 false (.t 12)⟩,
  ⟨(some 14), none, .bin .neq (.num) (.t 11) (.t 13)⟩]) (.cond (.t 14) (.seq (.reg [⟨(some 4), none, .mov (.c (.bool false))⟩]) (.ret)) (.skip))) (.seq (.seq (.reg [⟨(some 15), none, .fld 2 (.t 2)⟩,
  ⟨(some 16), none, .load 1 false (.t 15)⟩,
  ⟨(some 17), none, .fld 2 (.t 3)⟩,
  ⟨(some 18), none, .load 1 false (.t 17)⟩,
  ⟨(some 19), none, .bin .neq (.num) (.t 16) (.t 18)⟩]) (.cond (.t 19) (.seq (.reg [⟨(some 4), none, .mov (.c (.bool false))⟩]) (.ret)) (.skip))) (.seq (.seq (.reg [⟨(some 20), none, .fld 3 (.t 2)⟩,
  ⟨(some 21), none, .load 1 false (.t 20)⟩,
  ⟨(some 22), none, .fld 3 (.t 3)⟩,
  ⟨(some 23), none, .load 1 false (.t 22)⟩,
  ⟨(some 24), none, .bin .neq (.num) (.t 21) (.t 23)⟩]) (.cond (.t 24) (.seq (.reg [⟨(some 4), none, .mov (.c (.bool false))⟩]) (.ret)) (.skip))) (.seq (.seq (.reg [⟨(some 25), none, .fld 4 (.t 2)⟩,
  ⟨(some 26), none, .load 1 false (.t 25)⟩,
  ⟨(some 27), none, .fld 4 (.t 3)⟩,
  ⟨(some 28), none, .load 1 false (.t 27)⟩,
  ⟨(some 29), none, .bin .neq (.num) (.t 26) (.t 28)⟩]) (.cond (.t 29) (.seq (.reg [⟨(some 4), none, .mov (.c (.bool false))⟩]) (.ret)) (.skip))) (.seq (.seq (.reg [⟨(some 30), none, .fld 5 (.t 2)⟩,
  ⟨(some 31), none, .load 1 false (.t 30)⟩,
  ⟨(some 32), none, .fld 5 (.t 3)⟩,
  ⟨(some 33), none, .load 1 false (.t 32)⟩,
  ⟨(some 34), none, .call (.c (.fn Fn.laws_eqWireS [] [])) [.t 31, .t 33]⟩,
  ⟨(some 35), none, .un .not (.t 34)⟩]) (.cond (.t 35) (.seq (.reg [⟨(some 4), none, .mov (.c (.bool false))⟩]) (.ret)) (.skip))) (.seq (.seq (.reg [⟨(some 36), none, .fld 6 (.t 2)⟩,
  ⟨(some 37), none, .load 2 true (.t 36)⟩,
  ⟨(some 38), none, .fld 6 (.t 3)⟩,
  ⟨(some 39), none, .load 2 true (.t 38)⟩,
  ⟨(some 40), none, .call (.c (.fn Fn.laws_eqWire [] [])) [.t 37, .t 39]⟩,
  ⟨(some 41), none, .un .not (.t 40)⟩]) (.cond (.t 41) (.seq (.reg [⟨(some 4), none, .mov (.c (.bool false))⟩]) (.ret)) (.skip))) (.seq (.seq (.reg [⟨(some 42), none, .fld 8 (.t 2)⟩,
  ⟨(some 43), none, .load 1 false (.t 42)⟩,
  ⟨(some 44), none, .fld 8 (.t 3)⟩,
  ⟨(some 45), none, .load 1 false (.t 44)⟩,
  ⟨(some 46), none, .bin .neq (.num) (.t 43) (.t 45)⟩]) (.cond (.t 46) (.seq (.reg [⟨(some 4), none, .mov (.c (.bool false))⟩]) (.ret)) (.skip))) (.seq (.seq (.reg [⟨(some 47), none, .fld 9 (.t 2)⟩,
  ⟨(some 48), none, .load 3 true (.t 47)⟩,
  ⟨(some 49), none, .fld 9 (.t 3)⟩,
  ⟨(some 50), none, .load 3 true (.t 49)⟩,
  ⟨(some 51), none, .call (.c (.fn Fn.laws_eqTag [] [])) [.t 48, .t 50]⟩,
  ⟨(some 52), none, .un .not (.t 51)⟩]) (.cond (.t 52) (.seq (.reg [⟨(some 4), none, .mov (.c (.bool false))⟩]) (.ret)) (.skip))) (.seq (.reg [⟨(some 4), none, .mov (.c (.bool true))⟩]) (.ret)))))))))))
def laws_eqMessage_r : List RS := [.t 4]
theorem laws_eqMessage_e {a0 a1 : AV} {h : AH} {K : AV → AH → Prop} (hw : TC Try.prog Θ Γ laws_eqMessage_c (retQ laws_eqMessage_r K) ⟨[a0, a1, u, u, u, u, u, u, u, u, u, u, u, u, u, u, u, u, u, u, u, u, u, u, u, u, u, u, u, u, u, u, u, u, u, u, u, u, u, u, u, u, u, u, u, u, u, u, u, u, u, u, u], [], h⟩) : T Try.prog Γ Fn.laws_eqMessage [a0, a1] h K :=
  T_of_body tabOK Try.func32 (code := bodyOf Try.f32) (by kernel_rfl) (by kernel_rfl) (by kernel_rfl) (by kernel_rfl) hw
def laws_markMessage_c : C := .seq (.reg [⟨(some 2), none, .box (.t 0)⟩,
  ⟨(some 4), none, .mov (.c (.int .i64 0))⟩]) (.seq (.reg [⟨(some 5), none, .fld 5 (.t 2)⟩,
  ⟨(some 6), none, .load 1 false (.t 5)⟩,
  ⟨(some 7), none, .mov (.t 1)⟩,
  ⟨(some 8), none, .call (.c (.fn Fn.laws_markWireS [] [])) [.t 6, .t 7]⟩,
  ⟨(some 1), none, .mov (.t 8)⟩]) (.seq (.reg [⟨(some 9), none, .mov (.t 1)⟩,
  ⟨(some 4), none, .mov (.t 9)⟩]) (.ret)))
def laws_markMessage_r : List RS := [.t 4]
theorem laws_markMessage_e {a0 a1 : AV} {h : AH} {K : AV → AH → Prop} (hw : TC Try.prog Θ Γ laws_markMessage_c (retQ laws_markMessage_r K) ⟨[a0, a1, u, u, u, u, u, u, u, u], [], h⟩) : T Try.prog Γ Fn.laws_markMessage [a0, a1] h K :=
  T_of_body tabOK Try.func33 (code := bodyOf Try.f33) (by kernel_rfl) (by kernel_rfl) (by kernel_rfl) (by kernel_rfl) hw
def laws_heldMessage_c : C := .seq (.reg [⟨(some 2), none, .box (.t 0)⟩,
  ⟨(some 4), none, .mov (.c (.int .i64 0))⟩]) (.seq (.reg [⟨(some 5), none, .fld 5 (.t 2)⟩,
  ⟨(some 6), none, .load 1 false (.t 5)⟩,
  ⟨(some 7), none, .mov (.t 1)⟩,
  ⟨(some 8), none, .call (.c (.fn Fn.laws_heldWireS [] [])) [.t 6, .t 7]⟩,
  ⟨(some 1), none, .mov (.t 8)⟩]) (.seq (.seq (.reg [⟨(some 9), none, .mov (.t 1)⟩,
  ⟨(some 10), none, .bin .lss (.num) (.t 9) (.c (.int .i64 0))⟩]) (.cond (.t 10) (.seq (.reg [⟨(some 4), none, .mov (.c (.int .i64 (-1)))⟩]) (.ret)) (.skip))) (.seq (.reg [⟨(some 11), none, .mov (.t 1)⟩,
  ⟨(some 4), none, .mov (.t 11)⟩]) (.ret))))
def laws_heldMessage_r : List RS := [.t 4]
theorem laws_heldMessage_e {a0 a1 : AV} {h : AH} {K : AV → AH → Prop} (hw : TC Try.prog Θ Γ laws_heldMessage_c (retQ laws_heldMessage_r K) ⟨[a0, a1, u, u, u, u, u, u, u, u, u, u], [], h⟩) : T Try.prog Γ Fn.laws_heldMessage [a0, a1] h K :=
  T_of_body tabOK Try.func34 (code := bodyOf Try.f34) (by kernel_rfl) (by kernel_rfl) (by kernel_rfl) (by kernel_rfl) hw
def laws_markBoxS_c : C := .seq (.reg [⟨(some 4), none, .mov (.c (.int .i64 0))⟩]) (.seq (.seq (.reg [⟨(some 5), none, .mov (.c (.int .i64 0))⟩]) (.block 0 (.loop (.seq (.seq (.reg [⟨(some 6), none, .mov (.t 5)⟩,
  ⟨(some 7), none, .mov (.t 0)⟩,
  ⟨(some 8), none, .len false (.t 7)⟩,
  ⟨(some 9), none, .bin .lss (.num) (.t 6) (.t 8)⟩]) (.cond (.t 9) (.skip) (.exit 0))) (.seq (.block 1 (.seq (.reg [⟨(some 12), none, .mov (.t 0)⟩,
  ⟨(some 13), none, .mov (.t 5)⟩,
  ⟨(some 14), none, .mov (.t 1)⟩,
  ⟨(some 15), none, .idxs 4 (.t 12) (.t 13)⟩,
  ⟨(some 16), none, .fld 0 (.t 15)⟩,
  ⟨none, none, .store 1 (.t 16) (.t 14)⟩]) (.seq (.reg [⟨(some 17), none, .mov (.t 1)⟩,
  ⟨(some 18), none, .bin .add (.num) (.t 17) (.c (.int .i64 1))⟩,
  ⟨(some 1), none, .mov (.t 18)⟩]) (.seq (.reg [⟨(some 19), none, .mov (.t 0)⟩,
  ⟨(some 20), none, .mov (.t 5)⟩,
  ⟨(some 21), none, .mov (.t 1)⟩,
  ⟨(some 22), none, .idxs 4 (.t 19) (.t 20)⟩,
  ⟨(some 23), none, .fld 1 (.t 22)⟩,
  ⟨none, none, .store 1 (.t 23) (.t 21)⟩]) (.seq (.reg [⟨(some 24), none, .mov (.t 1)⟩,
  ⟨(some 25), none, .bin .add (.num) (.t 24) (.c (.int .i64 1))⟩,
  ⟨(some 1), none, .mov (.t 25)⟩]) (.seq (.reg [⟨(some 26), none, .mov (.t 0)⟩,
  ⟨(some 27), none, .mov (.t 5)⟩,
  ⟨(some 28), none, .mov (.t 1)⟩,
  ⟨(some 29), none, .idxs 4 (.t 26) (.t 27)⟩,
  ⟨(some 30), none, .fld 2 (.t 29)⟩,
  ⟨(some 31), none, .fld 0 (.t 30)⟩,
  ⟨none, none, .store 1 (.t 31) (.t 28)⟩]) (.seq (.reg [⟨(some 32), none, .mov (.t 1)⟩,
  ⟨(some 33), none, .bin .add (.num) (.t 32) (.c (.int .i64 1))⟩,
  ⟨(some 1), none, .mov (.t 33)⟩]) (.seq (.reg [⟨(some 34), none, .mov (.t 0)⟩,
  ⟨(some 35), none, .mov (.t 5)⟩,
  ⟨(some 36), none, .mov (.t 1)⟩,
  ⟨(some 37), none, .idxs 4 (.t 34) (.t 35)⟩,
  ⟨(some 38), none, .fld 2 (.t 37)⟩,
  ⟨(some 39), none, .fld 1 (.t 38)⟩,
  ⟨none, none, .store 1 (.t 39) (.t 36)⟩]) (.reg [⟨(some 40), none, .mov (.t 1)⟩,
  ⟨(some 41), none, .bin .add (.num) (.t 40) (.c (.int .i64 1))⟩,
  ⟨(some 1), none, .mov (.t 41)⟩]))))))))) (.reg [⟨(some 10), none, .mov (.t 5)⟩,
  ⟨(some 11), none, .bin .add (.num) (.t 10) (.c (.int .i64 1))⟩,
  ⟨(some 5), none, .mov (.t 11)⟩])))))) (.seq (.reg [⟨(some 42), none, .mov (.t 1)⟩,
  ⟨(some 4), none, .mov (.t 42)⟩]) (.ret)))
def laws_markBoxS_r : List RS := [.t 4]
def laws_markBoxS_s0 (t0 t1 t5 : AV) (loc : List (List AV)) (h : AH) : St := ⟨[t0, t1, .any, .any, .any, t5, .any, .any, .any, .any, .any, .any, .any, .any, .any, .any, .any, .any, .any, .any, .any, .any, .any, .any, .any, .any, .any, .any, .any, .any, .any, .any, .any, .any, .any, .any, .any, .any, .any, .any, .any, .any, .any], loc, h⟩
theorem laws_markBoxS_e {a0 a1 : AV} {h : AH} {K : AV → AH → Prop} (hw : TC Try.prog Θ Γ laws_markBoxS_c (retQ laws_markBoxS_r K) ⟨[a0, a1, u, u, u, u, u, u, u, u, u, u, u, u, u, u, u, u, u, u, u, u, u, u, u, u, u, u, u, u, u, u, u, u, u, u, u, u, u, u, u, u, u], [], h⟩) : T Try.prog Γ Fn.laws_markBoxS [a0, a1] h K :=
  T_of_body tabOK Try.func37 (code := bodyOf Try.f37) (by kernel_rfl) (by kernel_rfl) (by kernel_rfl) (by kernel_rfl) hw
def laws_markIntS_c : C := .seq (.reg [⟨(some 4), none, .mov (.c (.int .i64 0))⟩]) (.seq (.seq (.reg [⟨(some 5), none, .mov (.c (.int .i64 0))⟩]) (.block 0 (.loop (.seq (.seq (.reg [⟨(some 6), none, .mov (.t 5)⟩,
  ⟨(some 7), none, .mov (.t 0)⟩,
  ⟨(some 8), none, .len false (.t 7)⟩,
  ⟨(some 9), none, .bin .lss (.num) (.t 6) (.t 8)⟩]) (.cond (.t 9) (.skip) (.exit 0))) (.seq (.block 1 (.seq (.reg [⟨(some 12), none, .mov (.t 0)⟩,
  ⟨(some 13), none, .mov (.t 5)⟩,
  ⟨(some 14), none, .mov (.t 1)⟩,
  ⟨(some 15), none, .idxs 1 (.t 12) (.t 13)⟩,
  ⟨none, none, .store 1 (.t 15) (.t 14)⟩]) (.reg [⟨(some 16), none, .mov (.t 1)⟩,
  ⟨(some 17), none, .bin .add (.num) (.t 16) (.c (.int .i64 1))⟩,
  ⟨(some 1), none, .mov (.t 17)⟩]))) (.reg [⟨(some 10), none, .mov (.t 5)⟩,
  ⟨(some 11), none, .bin .add (.num) (.t 10) (.c (.int .i64 1))⟩,
  ⟨(some 5), none, .mov (.t 11)⟩])))))) (.seq (.reg [⟨(some 18), none, .mov (.t 1)⟩,
  ⟨(some 4), none, .mov (.t 18)⟩]) (.ret)))
def laws_markIntS_r : List RS := [.t 4]
def laws_markIntS_s0 (t0 t1 t5 : AV) (loc : List (List AV)) (h : AH) : St := ⟨[t0, t1, .any, .any, .any, t5, .any, .any, .any, .any, .any, .any, .any, .any, .any, .any, .any, .any, .any], loc, h⟩
theorem laws_markIntS_e {a0 a1 : AV} {h : AH} {K : AV → AH → Prop} (hw : TC Try.prog Θ Γ laws_markIntS_c (retQ laws_markIntS_r K) ⟨[a0, a1, u, u, u, u, u, u, u, u, u, u, u, u, u, u, u, u, u], [], h⟩) : T Try.prog Γ Fn.laws_markIntS [a0, a1] h K :=
  T_of_body tabOK Try.func38 (code := bodyOf Try.f38) (by kernel_rfl) (by kernel_rfl) (by kernel_rfl) (by kernel_rfl) hw
def laws_heldIntS_c : C := .seq (.reg [⟨(some 4), none, .mov (.c (.int .i64 0))⟩]) (.seq (.seq (.reg [⟨(some 5), none, .mov (.c (.int .i64 0))⟩]) (.block 0 (.loop (.seq (.seq (.reg [⟨(some 6), none, .mov (.t 5)⟩,
  ⟨(some 7), none, .mov (.t 0)⟩,
  ⟨(some 8), none, .len false (.t 7)⟩,
  ⟨(some 9), none, .bin .lss (.num) (.t 6) (.t 8)⟩]) (.cond (.t 9) (.skip) (.exit 0))) (.seq (.block 1 (.seq (.seq (.reg [⟨(some 12), none, .mov (.t 0)⟩,
  ⟨(some 13), none, .mov (.t 5)⟩,
  ⟨(some 14), none, .idxs 1 (.t 12) (.t 13)⟩,
  ⟨(some 15), none, .load 1 false (.t 14)⟩,
  ⟨(some 16), none, .mov (.t 1)⟩,
  ⟨(some 17), none, .bin .neq (.num) (.t 15) (.t 16)⟩]) (.cond (.t 17) (.seq (.reg [⟨(some 4), none, .mov (.c (.int .i64 (-1)))⟩]) (.ret)) (.skip))) (.reg [⟨(some 18), none, .mov (.t 1)⟩,
  ⟨(some 19), none, .bin .add (.num) (.t 18) (.c (.int .i64 1))⟩,
  ⟨(some 1), none, .mov (.t 19)⟩]))) (.reg [⟨(some 10), none, .mov (.t 5)⟩,
  ⟨(some 11), none, .bin .add (.num) (.t 10) (.c (.int .i64 1))⟩,
  ⟨(some 5), none, .mov (.t 11)⟩])))))) (.seq (.reg [⟨(some 20), none, .mov (.t 1)⟩,
  ⟨(some 4), none, .mov (.t 20)⟩]) (.ret)))
def laws_heldIntS_r : List RS := [.t 4]
def laws_heldIntS_s0 (t0 t1 t5 : AV) (loc : List (List AV)) (h : AH) : St := ⟨[t0, t1, .any, .any, .any, t5, .any, .any, .any, .any, .any, .any, .any, .any, .any, .any, .any, .any, .any, .any, .any], loc, h⟩
theorem laws_heldIntS_e {a0 a1 : AV} {h : AH} {K : AV → AH → Prop} (hw : TC Try.prog Θ Γ laws_heldIntS_c (retQ laws_heldIntS_r K) ⟨[a0, a1, u, u, u, u, u, u, u, u, u, u, u, u, u, u, u, u, u, u, u], [], h⟩) : T Try.prog Γ Fn.laws_heldIntS [a0, a1] h K :=
  T_of_body tabOK Try.func39 (code := bodyOf Try.f39) (by kernel_rfl) (by kernel_rfl) (by kernel_rfl) (by kernel_rfl) hw
def spec_DropGifts_c : C := .seq (.reg [⟨(some 4), none, .mov (.c (.nils))⟩]) (.seq (.reg [⟨(some 7), none, .bsl 4 0 [.int .i64 0, .int .i64 0, .int .i64 0, .int .i64 0] []⟩,
  ⟨(some 5), none, .mov (.t 7)⟩]) (.seq (.seq (.reg [⟨(some 6), none, .mov (.c (.int .i64 0))⟩]) (.block 0 (.loop (.seq (.seq (.reg [⟨(some 8), none, .mov (.t 6)⟩,
  ⟨(some 9), none, .mov (.t 0)⟩,
  ⟨(some 10), none, .len false (.t 9)⟩,
  ⟨(some 11), none, .bin .lss (.num) (.t 8) (.t 10)⟩]) (.cond (.t 11) (.skip) (.exit 0))) (.seq (.block 1 (.seq (.reg [⟨(some 14), none, .mov (.t 0)⟩,
  ⟨(some 15), none, .mov (.t 6)⟩,
  ⟨(some 16), none, .idxs 4 (.t 14) (.t 15)⟩,
  ⟨(some 17), none, .fld 1 (.t 16)⟩,
  ⟨(some 18), none, .load 1 false (.t 17)⟩,
  ⟨(some 19), none, .mov (.t 1)⟩,
  ⟨(some 20), none, .bin .neq (.num) (.t 18) (.t 19)⟩,
  ⟨(some 21), none, .mov (.t 20)⟩,
  ⟨(some 22), (some (7, true)), .mov (.t 0)⟩,
  ⟨(some 23), (some (7, true)), .mov (.t 6)⟩,
  ⟨(some 24), (some (7, true)), .idxs 4 (.t 22) (.t 23)⟩,
  ⟨(some 25), (some (7, true)), .fld 2 (.t 24)⟩,
  ⟨(some 26), (some (7, true)), .load 1 false (.t 25)⟩,
  ⟨(some 27), (some (7, true)), .mov (.t 1)⟩,
  ⟨(some 28), (some (7, true)), .bin .neq (.num) (.t 26) (.t 27)⟩,
  ⟨(some 29), none, .pick (.t 21) (.t 28) (.c (.bool false))⟩]) (.cond (.t 29) (.reg [⟨(some 30), none, .mov (.t 5)⟩,
  ⟨(some 31), none, .mov (.t 0)⟩,
  ⟨(some 32), none, .mov (.t 6)⟩,
  ⟨(some 33), none, .idxs 4 (.t 31) (.t 32)⟩,
  ⟨(some 34), none, .load 4 true (.t 33)⟩,
  ⟨(some 35), none, .bsl 4 1 [.int .i64 0, .int .i64 0, .int .i64 0, .int .i64 0] [(0, .t 34)]⟩,
  ⟨(some 36), none, .app 4 32 [.int .i64 0, .int .i64 0, .int .i64 0, .int .i64 0] false (.t 30) (.t 35)⟩,
  ⟨(some 5), none, .mov (.t 36)⟩]) (.skip)))) (.reg [⟨(some 12), none, .mov (.t 6)⟩,
  ⟨(some 13), none, .bin .add (.num) (.t 12) (.c (.int .i64 1))⟩,
  ⟨(some 6), none, .mov (.t 13)⟩])))))) (.seq (.reg [⟨(some 37), none, .mov (.t 5)⟩,
  ⟨(some 4), none, .mov (.t 37)⟩]) (.ret))))
def spec_DropGifts_r : List RS := [.t 4]
def spec_DropGifts_s0 (t0 t1 t5 t6 : AV) (loc : List (List AV)) (h : AH) : St := ⟨[t0, t1, .any, .any, .any, t5, t6, .any, .any, .any, .any, .any, .any, .any, .any, .any, .any, .any, .any, .any, .any, .any, .any, .any, .any, .any, .any, .any, .any, .any, .any, .any, .any, .any, .any, .any, .any, .any], loc, h⟩
theorem spec_DropGifts_e {a0 a1 : AV} {h : AH} {K : AV → AH → Prop} (hw : TC Try.prog Θ Γ spec_DropGifts_c (retQ spec_DropGifts_r K) ⟨[a0, a1, u, u, u, u, u, u, u, u, u, u, u, u, u, u, u, u, u, u, u, u, u, u, u, u, u, u, u, u, u, u, u, u, u, u, u, u], [], h⟩) : T Try.prog Γ Fn.spec_DropGifts [a0, a1] h K :=
  T_of_body tabOK Try.func40 (code := bodyOf Try.f40) (by kernel_rfl) (by kernel_rfl) (by kernel_rfl) (by kernel_rfl) hw
def impl_DropGifts_c : C := .seq (.reg [⟨(some 3), none, .box (.t 1)⟩,
  ⟨(some 4), none, .mov (.c (.nils))⟩]) (.seq (.reg [⟨(some 5), none, .mov (.t 0)⟩,
  ⟨(some 6), none, .call (.c (.fn Fn.slices_Clone_iimpl_Gift_impl_Gift [] [])) [.t 5]⟩,
  ⟨(some 7), none, .mkf Fn.impl_DropGifts_1 [] [.t 3]⟩,
  ⟨(some 8), none, .call (.c (.fn Fn.slices_DeleteFunc_iimpl_Gift_impl_Gift [] [])) [.t 6, .t 7]⟩,
  ⟨(some 4), none, .mov (.t 8)⟩]) (.ret))
def impl_DropGifts_r : List RS := [.t 4]
theorem impl_DropGifts_e {a0 a1 : AV} {h : AH} {K : AV → AH → Prop} (hw : TC Try.prog Θ Γ impl_DropGifts_c (retQ impl_DropGifts_r K) ⟨[a0, a1, u, u, u, u, u, u, u], [], h⟩) : T Try.prog Γ Fn.impl_DropGifts [a0, a1] h K :=
  T_of_body tabOK Try.func41 (code := bodyOf Try.f41) (by kernel_rfl) (by kernel_rfl) (by kernel_rfl) (by kernel_rfl) hw
def laws_markGiftS_c : C := .seq (.reg [⟨(some 4), none, .mov (.c (.int .i64 0))⟩]) (.seq (.seq (.reg [⟨(some 5), none, .mov (.c (.int .i64 0))⟩]) (.block 0 (.loop (.seq (.seq (.reg [⟨(some 6), none, .mov (.t 5)⟩,
  ⟨(some 7), none, .mov (.t 0)⟩,
  ⟨(some 8), none, .len false (.t 7)⟩,
  ⟨(some 9), none, .bin .lss (.num) (.t 6) (.t 8)⟩]) (.cond (.t 9) (.skip) (.exit 0))) (.seq (.block 1 (.seq (.reg [⟨(some 12), none, .mov (.t 0)⟩,
  ⟨(some 13), none, .mov (.t 5)⟩,
  ⟨(some 14), none, .mov (.t 1)⟩,
  ⟨(some 15), none, .idxs 4 (.t 12) (.t 13)⟩,
  ⟨(some 16), none, .fld 0 (.t 15)⟩,
  ⟨none, none, .store 1 (.t 16) (.t 14)⟩]) (.seq (.reg [⟨(some 17), none, .mov (.t 1)⟩,
  ⟨(some 18), none, .bin .add (.num) (.t 17) (.c (.int .i64 1))⟩,
  ⟨(some 1), none, .mov (.t 18)⟩]) (.seq (.reg [⟨(some 19), none, .mov (.t 0)⟩,
  ⟨(some 20), none, .mov (.t 5)⟩,
  ⟨(some 21), none, .mov (.t 1)⟩,
  ⟨(some 22), none, .idxs 4 (.t 19) (.t 20)⟩,
  ⟨(some 23), none, .fld 1 (.t 22)⟩,
  ⟨none, none, .store 1 (.t 23) (.t 21)⟩]) (.seq (.reg [⟨(some 24), none, .mov (.t 1)⟩,
  ⟨(some 25), none, .bin .add (.num) (.t 24) (.c (.int .i64 1))⟩,
  ⟨(some 1), none, .mov (.t 25)⟩]) (.seq (.reg [⟨(some 26), none, .mov (.t 0)⟩,
  ⟨(some 27), none, .mov (.t 5)⟩,
  ⟨(some 28), none, .mov (.t 1)⟩,
  ⟨(some 29), none, .idxs 4 (.t 26) (.t 27)⟩,
  ⟨(some 30), none, .fld 2 (.t 29)⟩,
  ⟨none, none, .store 1 (.t 30) (.t 28)⟩]) (.seq (.reg [⟨(some 31), none, .mov (.t 1)⟩,
  ⟨(some 32), none, .bin .add (.num) (.t 31) (.c (.int .i64 1))⟩,
  ⟨(some 1), none, .mov (.t 32)⟩]) (.seq (.reg [⟨(some 33), none, .mov (.t 0)⟩,
  ⟨(some 34), none, .mov (.t 5)⟩,
  ⟨(some 35), none, .mov (.t 1)⟩,
  ⟨(some 36), none, .idxs 4 (.t 33) (.t 34)⟩,
  ⟨(some 37), none, .fld 3 (.t 36)⟩,
  ⟨none, none, .store 1 (.t 37) (.t 35)⟩]) (.reg [⟨(some 38), none, .mov (.t 1)⟩,
  ⟨(some 39), none, .bin .add (.num) (.t 38) (.c (.int .i64 1))⟩,
  ⟨(some 1), none, .mov (.t 39)⟩]))))))))) (.reg [⟨(some 10), none, .mov (.t 5)⟩,
  ⟨(some 11), none, .bin .add (.num) (.t 10) (.c (.int .i64 1))⟩,
  ⟨(some 5), none, .mov (.t 11)⟩])))))) (.seq (.reg [⟨(some 40), none, .mov (.t 1)⟩,
  ⟨(some 4), none, .mov (.t 40)⟩]) (.ret)))
def laws_markGiftS_r : List RS := [.t 4]
def laws_markGiftS_s0 (t0 t1 t5 : AV) (loc : List (List AV)) (h : AH) : St := ⟨[t0, t1, .any, .any, .any, t5, .any, .any, .any, .any, .any, .any, .any, .any, .any, .any, .any, .any, .any, .any, .any, .any, .any, .any, .any, .any, .any, .any, .any, .any, .any, .any, .any, .any, .any, .any, .any, .any, .any, .any, .any], loc, h⟩
theorem laws_markGiftS_e {a0 a1 : AV} {h : AH} {K : AV → AH → Prop} (hw : TC Try.prog Θ Γ laws_markGiftS_c (retQ laws_markGiftS_r K) ⟨[a0, a1, u, u, u, u, u, u, u, u, u, u, u, u, u, u, u, u, u, u, u, u, u, u, u, u, u, u, u, u, u, u, u, u, u, u, u, u, u, u, u], [], h⟩) : T Try.prog Γ Fn.laws_markGiftS [a0, a1] h K :=
  T_of_body tabOK Try.func42 (code := bodyOf Try.f42) (by kernel_rfl) (by kernel_rfl) (by kernel_rfl) (by kernel_rfl) hw
def laws_heldGiftS_c : C := .seq (.reg [⟨(some 4), none, .mov (.c (.int .i64 0))⟩]) (.seq (.seq (.reg [⟨(some 5), none, .mov (.c (.int .i64 0))⟩]) (.block 0 (.loop (.seq (.seq (.reg [⟨(some 6), none, .mov (.t 5)⟩,
  ⟨(some 7), none, .mov (.t 0)⟩,
  ⟨(some 8), none, .len false (.t 7)⟩,
  ⟨(some 9), none, .bin .lss (.num) (.t 6) (.t 8)⟩]) (.cond (.t 9) (.skip) (.exit 0))) (.seq (.block 1 (.seq (.seq (.reg [⟨(some 12), none, .mov (.t 0)⟩,
  ⟨(some 13), none, .mov (.t 5)⟩,
  ⟨(some 14), none, .idxs 4 (.t 12) (.t 13)⟩,
  ⟨(some 15), none, .fld 0 (.t 14)⟩,
  ⟨(some 16), none, .load 1 false (.t 15)⟩,
  ⟨(some 17), none, .mov (.t 1)⟩,
  ⟨(some 18), none, .bin .neq (.num) (.t 16) (.t 17)⟩]) (.cond (.t 18) (.seq (.reg [⟨(some 4), none, .mov (.c (.int .i64 (-1)))⟩]) (.ret)) (.skip))) (.seq (.reg [⟨(some 19), none, .mov (.t 1)⟩,
  ⟨(some 20), none, .bin .add (.num) (.t 19) (.c (.int .i64 1))⟩,
  ⟨(some 1), none, .mov (.t 20)⟩]) (.seq (.seq (.reg [⟨(some 21), none, .mov (.t 0)⟩,
  ⟨(some 22), none, .mov (.t 5)⟩,
  ⟨(some 23), none, .idxs 4 (.t 21) (.t 22)⟩,
  ⟨(some 24), none, .fld 1 (.t 23)⟩,
  ⟨(some 25), none, .load 1 false (.t 24)⟩,
  ⟨(some 26), none, .mov (.t 1)⟩,
  ⟨(some 27), none, .bin .neq (.num) (.t 25) (.t 26)⟩]) (.cond (.t 27) (.seq (.reg [⟨(some 4), none, .mov (.c (.int .i64 (-1)))⟩]) (.ret)) (.skip))) (.seq (.reg [⟨(some 28), none, .mov (.t 1)⟩,
  ⟨(some 29), none, .bin .add (.num) (.t 28) (.c (.int .i64 1))⟩,
  ⟨(some 1), none, .mov (.t 29)⟩]) (.seq (.seq (.reg [⟨(some 30), none, .mov (.t 0)⟩,
  ⟨(some 31), none, .mov (.t 5)⟩,
  ⟨(some 32), none, .idxs 4 (.t 30) (.t 31)⟩,
  ⟨(some 33), none, .fld 2 (.t 32)⟩,
  ⟨(some 34), none, .load 1 false (.t 33)⟩,
  ⟨(some 35), none, .mov (.t 1)⟩,
  ⟨(some 36), none, .bin .neq (.num) (.t 34) (.t 35)⟩]) (.cond (.t 36) (.seq (.reg [⟨(some 4), none, .mov (.c (.int .i64 (-1)))⟩]) (.ret)) (.skip))) (.seq (.reg [⟨(some 37), none, .mov (.t 1)⟩,
  ⟨(some 38), none, .bin .add (.num) (.t 37) (.c (.int .i64 1))⟩,
  ⟨(some 1), none, .mov (.t 38)⟩]) (.seq (.seq (.reg [⟨(some 39), none, .mov (.t 0)⟩,
  ⟨(some 40), none, .mov (.t 5)⟩,
  ⟨(some 41), none, .idxs 4 (.t 39) (.t 40)⟩,
  ⟨(some 42), none, .fld 3 (.t 41)⟩,
  ⟨(some 43), none, .load 1 false (.t 42)⟩,
  ⟨(some 44), none, .mov (.t 1)⟩,
  ⟨(some 45), none, .bin .neq (.num) (.t 43) (.t 44)⟩]) (.cond (.t 45) (.seq (.reg [⟨(some 4), none, .mov (.c (.int .i64 (-1)))⟩]) (.ret)) (.skip))) (.reg [⟨(some 46), none, .mov (.t 1)⟩,
  ⟨(some 47), none, .bin .add (.num) (.t 46) (.c (.int .i64 1))⟩,
  ⟨(some 1), none, .mov (.t 47)⟩]))))))))) (.reg [⟨(some 10), none, .mov (.t 5)⟩,
  ⟨(some 11), none, .bin .add (.num) (.t 10) (.c (.int .i64 1))⟩,
  ⟨(some 5), none, .mov (.t 11)⟩])))))) (.seq (.reg [⟨(some 48), none, .mov (.t 1)⟩,
  ⟨(some 4), none, .mov (.t 48)⟩]) (.ret)))
def laws_heldGiftS_r : List RS := [.t 4]
def laws_heldGiftS_s0 (t0 t1 t5 : AV) (loc : List (List AV)) (h : AH) : St := ⟨[t0, t1, .any, .any, .any, t5, .any, .any, .any, .any, .any, .any, .any, .any, .any, .any, .any, .any, .any, .any, .any, .any, .any, .any, .any, .any, .any, .any, .any, .any, .any, .any, .any, .any, .any, .any, .any, .any, .any, .any, .any, .any, .any, .any, .any, .any, .any, .any, .any], loc, h⟩
theorem laws_heldGiftS_e {a0 a1 : AV} {h : AH} {K : AV → AH → Prop} (hw : TC Try.prog Θ Γ laws_heldGiftS_c (retQ laws_heldGiftS_r K) ⟨[a0, a1, u, u, u, u, u, u, u, u, u, u, u, u, u, u, u, u, u, u, u, u, u, u, u, u, u, u, u, u, u, u, u, u, u, u, u, u, u, u, u, u, u, u, u, u, u, u, u], [], h⟩) : T Try.prog Γ Fn.laws_heldGiftS [a0, a1] h K :=
  T_of_body tabOK Try.func43 (code := bodyOf Try.f43) (by kernel_rfl) (by kernel_rfl) (by kernel_rfl) (by kernel_rfl) hw
def laws_toGift_c : C := .seq (.reg [⟨(some 1), none, .box (.t 0)⟩,
  ⟨(some 2), none, .alloc [.int .i64 0, .int .i64 0, .int .i64 0, .int .i64 0]⟩]) (.seq (.reg [⟨(some 3), none, .alloc [.int .i64 0, .int .i64 0, .int .i64 0, .int .i64 0]⟩]) (.seq (.reg [⟨(some 4), none, .fld 0 (.t 1)⟩,
  ⟨(some 5), none, .load 1 false (.t 4)⟩,
  ⟨(some 6), none, .fld 0 (.t 3)⟩,
  ⟨none, none, .store 1 (.t 6) (.t 5)⟩]) (.seq (.reg [⟨(some 7), none, .fld 1 (.t 1)⟩,
  ⟨(some 8), none, .load 1 false (.t 7)⟩,
  ⟨(some 9), none, .fld 1 (.t 3)⟩,
  ⟨none, none, .store 1 (.t 9) (.t 8)⟩]) (.seq (.reg [⟨(some 10), none, .fld 2 (.t 1)⟩,
  ⟨(some 11), none, .load 1 false (.t 10)⟩,
  ⟨(some 12), none, .fld 2 (.t 3)⟩,
  ⟨none, none, .store 1 (.t 12) (.t 11)⟩]) (.seq (.reg [⟨(some 13), none, .fld 3 (.t 1)⟩,
  ⟨(some 14), none, .load 1 false (.t 13)⟩,
  ⟨(some 15), none, .fld 3 (.t 3)⟩,
  ⟨none, none, .store 1 (.t 15) (.t 14)⟩]) (.seq (.reg [⟨(some 16), none, .load 4 true (.t 3)⟩,
  ⟨none, none, .store 4 (.t 2) (.t 16)⟩]) (.ret)))))))
def laws_toGift_r : List RS := [.cell 2 4 true]
theorem laws_toGift_e {a0 : AV} {h : AH} {K : AV → AH → Prop} (hw : TC Try.prog Θ Γ laws_toGift_c (retQ laws_toGift_r K) ⟨[a0, u, u, u, u, u, u, u, u, u, u, u, u, u, u, u, u], [], h⟩) : T Try.prog Γ Fn.laws_toGift [a0] h K :=
  T_of_body tabOK Try.func61 (code := bodyOf Try.f61) (by kernel_rfl) (by kernel_rfl) (by kernel_rfl) (by kernel_rfl) hw
def laws_toValue_c : C := .seq (.reg [⟨(some 1), none, .box (.t 0)⟩,
  ⟨(some 2), none, .alloc [.int .i64 0, .int .i64 0]⟩]) (.seq (.reg [⟨(some 3), none, .alloc [.int .i64 0, .int .i64 0]⟩]) (.seq (.reg [⟨(some 4), none, .fld 0 (.t 1)⟩,
  ⟨(some 5), none, .load 1 false (.t 4)⟩,
  ⟨(some 6), none, .fld 0 (.t 3)⟩,
  ⟨none, none, .store 1 (.t 6) (.t 5)⟩]) (.seq (.reg [⟨(some 7), none, .fld 1 (.t 1)⟩,
  ⟨(some 8), none, .load 1 false (.t 7)⟩,
  ⟨(some 9), none, .fld 1 (.t 3)⟩,
  ⟨none, none, .store 1 (.t 9) (.t 8)⟩]) (.seq (.reg [⟨(some 10), none, .load 2 true (.t 3)⟩,
  ⟨none, none, .store 2 (.t 2) (.t 10)⟩]) (.ret)))))
def laws_toValue_r : List RS := [.cell 2 2 true]
theorem laws_toValue_e {a0 : AV} {h : AH} {K : AV → AH → Prop} (hw : TC Try.prog Θ Γ laws_toValue_c (retQ laws_toValue_r K) ⟨[a0, u, u, u, u, u, u, u, u, u, u], [], h⟩) : T Try.prog Γ Fn.laws_toValue [a0] h K :=
  T_of_body tabOK Try.func64 (code := bodyOf Try.f64) (by kernel_rfl) (by kernel_rfl) (by kernel_rfl) (by kernel_rfl) hw
def laws_heldBoxS_c : C := .seq (.reg [⟨(some 4), none, .mov (.c (.int .i64 0))⟩]) (.seq (.seq (.reg [⟨(some 5), none, .mov (.c (.int .i64 0))⟩]) (.block 0 (.loop (.seq (.seq (.reg [⟨(some 6), none, .mov (.t 5)⟩,
  ⟨(some 7), none, .mov (.t 0)⟩,
  ⟨(some 8), none, .len false (.t 7)⟩,
  ⟨(some 9), none, .bin .lss (.num) (.t 6) (.t 8)⟩]) (.cond (.t 9) (.skip) (.exit 0))) (.seq (.block 1 (.seq (.seq (.reg [⟨(some 12), none, .mov (.t 0)⟩,
  ⟨(some 13), none, .mov (.t 5)⟩,
  ⟨(some 14), none, .idxs 4 (.t 12) (.t 13)⟩,
  ⟨(some 15), none, .fld 0 (.t 14)⟩,
  ⟨(some 16), none, .load 1 false (.t 15)⟩,
  ⟨(some 17), none, .mov (.t 1)⟩,
  ⟨(some 18), none, .bin .neq (.num) (.t 16) (.t 17)⟩]) (.cond (.t 18) (.seq (.reg [⟨(some 4), none, .mov (.c (.int .i64 (-1)))⟩]) (.ret)) (.skip))) (.seq (.reg [⟨(some 19), none, .mov (.t 1)⟩,
  ⟨(some 20), none, .bin .add (.num) (.t 19) (.c (.int .i64 1))⟩,
  ⟨(some 1), none, .mov (.t 20)⟩]) (.seq (.seq (.reg [⟨(some 21), none, .mov (.t 0)⟩,
  ⟨(some 22), none, .mov (.t 5)⟩,
  ⟨(some 23), none, .idxs 4 (.t 21) (.t 22)⟩,
  ⟨(some 24), none, .fld 1 (.t 23)⟩,
  ⟨(some 25), none, .load 1 false (.t 24)⟩,
  ⟨(some 26), none, .mov (.t 1)⟩,
  ⟨(some 27), none, .bin .neq (.num) (.t 25) (.t 26)⟩]) (.cond (.t 27) (.seq (.reg [⟨(some 4), none, .mov (.c (.int .i64 (-1)))⟩]) (.ret)) (.skip))) (.seq (.reg [⟨(some 28), none, .mov (.t 1)⟩,
  ⟨(some 29), none, .bin .add (.num) (.t 28) (.c (.int .i64 1))⟩,
  ⟨(some 1), none, .mov (.t 29)⟩]) (.seq (.seq (.reg [⟨(some 30), none, .mov (.t 0)⟩,
  ⟨(some 31), none, .mov (.t 5)⟩,
  ⟨(some 32), none, .idxs 4 (.t 30) (.t 31)⟩,
  ⟨(some 33), none, .fld 2 (.t 32)⟩,
  ⟨(some 34), none, .fld 0 (.t 33)⟩,
  ⟨(some 35), none, .load 1 false (.t 34)⟩,
  ⟨(some 36), none, .mov (.t 1)⟩,
  ⟨(some 37), none, .bin .neq (.num) (.t 35) (.t 36)⟩]) (.cond (.t 37) (.seq (.reg [⟨(some 4), none, .mov (.c (.int .i64 (-1)))⟩]) (.ret)) (.skip))) (.seq (.reg [⟨(some 38), none, .mov (.t 1)⟩,
  ⟨(some 39), none, .bin .add (.num) (.t 38) (.c (.int .i64 1))⟩,
  ⟨(some 1), none, .mov (.t 39)⟩]) (.seq (.seq (.reg [⟨(some 40), none, .mov (.t 0)⟩,
  ⟨(some 41), none, .mov (.t 5)⟩,
  ⟨(some 42), none, .idxs 4 (.t 40) (.t 41)⟩,
  ⟨(some 43), none, .fld 2 (.t 42)⟩,
  ⟨(some 44), none, .fld 1 (.t 43)⟩,
  ⟨(some 45), none, .load 1 false (.t 44)⟩,
  ⟨(some 46), none, .mov (.t 1)⟩,
  ⟨(some 47), none, .bin .neq (.num) (.t 45) (.t 46)⟩]) (.cond (.t 47) (.seq (.reg [⟨(some 4), none, .mov (.c (.int .i64 (-1)))⟩]) (.ret)) (.skip))) (.reg [⟨(some 48), none, .mov (.t 1)⟩,
  ⟨(some 49), none, .bin .add (.num) (.t 48) (.c (.int .i64 1))⟩,
  ⟨(some 1), none, .mov (.t 49)⟩]))))))))) (.reg [⟨(some 10), none, .mov (.t 5)⟩,
  ⟨(some 11), none, .bin .add (.num) (.t 10) (.c (.int .i64 1))⟩,
  ⟨(some 5), none, .mov (.t 11)⟩])))))) (.seq (.reg [⟨(some 50), none, .mov (.t 1)⟩,
  ⟨(some 4), none, .mov (.t 50)⟩]) (.ret)))
def laws_heldBoxS_r : List RS := [.t 4]
def laws_heldBoxS_s0 (t0 t1 t5 : AV) (loc : List (List AV)) (h : AH) : St := ⟨[t0, t1, .any, .any, .any, t5, .any, .any, .any, .any, .any, .any, .any, .any, .any, .any, .any, .any, .any, .any, .any, .any, .any, .any, .any, .any, .any, .any, .any, .any, .any, .any, .any, .any, .any, .any, .any, .any, .any, .any, .any, .any, .any, .any, .any, .any, .any, .any, .any, .any, .any], loc, h⟩
theorem laws_heldBoxS_e {a0 a1 : AV} {h : AH} {K : AV → AH → Prop} (hw : TC Try.prog Θ Γ laws_heldBoxS_c (retQ laws_heldBoxS_r K) ⟨[a0, a1, u, u, u, u, u, u, u, u, u, u, u, u, u, u, u, u, u, u, u, u, u, u, u, u, u, u, u, u, u, u, u, u, u, u, u, u, u, u, u, u, u, u, u, u, u, u, u, u, u], [], h⟩) : T Try.prog Γ Fn.laws_heldBoxS [a0, a1] h K :=
  T_of_body tabOK Try.func66 (code := bodyOf Try.f66) (by kernel_rfl) (by kernel_rfl) (by kernel_rfl) (by kernel_rfl) hw
def laws_szLink_c : C := .seq (.reg [⟨(some 2), none, .box (.t 0)⟩,
  ⟨(some 4), none, .mov (.c (.int .i64 0))⟩]) (.seq (.reg [⟨(some 5), none, .fld 2 (.t 2)⟩,
  ⟨(some 6), none, .load 1 false (.t 5)⟩,
  ⟨(some 7), none, .mov (.t 1)⟩,
  ⟨(some 8), none, .call (.c (.fn Fn.laws_szExportS [] [])) [.t 6, .t 7]⟩,
  ⟨(some 1), none, .mov (.t 8)⟩]) (.seq (.seq (.reg [⟨(some 9), none, .mov (.t 1)⟩,
  ⟨(some 10), none, .bin .lss (.num) (.t 9) (.c (.int .i64 0))⟩]) (.cond (.t 10) (.seq (.reg [⟨(some 4), none, .mov (.c (.int .i64 (-1)))⟩]) (.ret)) (.skip))) (.seq (.reg [⟨(some 11), none, .fld 4 (.t 2)⟩,
  ⟨(some 12), none, .load 1 false (.t 11)⟩,
  ⟨(some 13), none, .mov (.t 1)⟩,
  ⟨(some 14), none, .call (.c (.fn Fn.laws_szQuestionS [] [])) [.t 12, .t 13]⟩,
  ⟨(some 1), none, .mov (.t 14)⟩]) (.seq (.seq (.reg [⟨(some 15), none, .mov (.t 1)⟩,
  ⟨(some 16), none, .bin .lss (.num) (.t 15) (.c (.int .i64 0))⟩]) (.cond (.t 16) (.seq (.reg [⟨(some 4), none, .mov (.c (.int .i64 (-1)))⟩]) (.ret)) (.skip))) (.seq (.reg [⟨(some 17), none, .fld 6 (.t 2)⟩,
  ⟨(some 18), none, .load 1 false (.t 17)⟩,
  ⟨(some 19), none, .mov (.t 1)⟩,
  ⟨(some 20), none, .call (.c (.fn Fn.laws_szQuestionS [] [])) [.t 18, .t 19]⟩,
  ⟨(some 1), none, .mov (.t 20)⟩]) (.seq (.seq (.reg [⟨(some 21), none, .mov (.t 1)⟩,
  ⟨(some 22), none, .bin .lss (.num) (.t 21) (.c (.int .i64 0))⟩]) (.cond (.t 22) (.seq (.reg [⟨(some 4), none, .mov (.c (.int .i64 (-1)))⟩]) (.ret)) (.skip))) (.seq (.reg [⟨(some 23), none, .mov (.t 1)⟩,
  ⟨(some 4), none, .mov (.t 23)⟩]) (.ret))))))))
def laws_szLink_r : List RS := [.t 4]
theorem laws_szLink_e {a0 a1 : AV} {h : AH} {K : AV → AH → Prop} (hw : TC Try.prog Θ Γ laws_szLink_c (retQ laws_szLink_r K) ⟨[a0, a1, u, u, u, u, u, u, u, u, u, u, u, u, u, u, u, u, u, u, u, u, u, u], [], h⟩) : T Try.prog Γ Fn.laws_szLink [a0, a1] h K :=
  T_of_body tabOK Try.func67 (code := bodyOf Try.f67) (by kernel_rfl) (by kernel_rfl) (by kernel_rfl) (by kernel_rfl) hw
def laws_toLink_c : C := .seq (.reg [⟨(some 1), none, .box (.t 0)⟩,
  ⟨(some 2), none, .alloc [.int .i64 0, .bool false, .nils, .int .i64 0, .nils, .int .i64 0, .nils]⟩]) (.seq (.reg [⟨(some 3), none, .alloc [.int .i64 0, .bool false, .nils, .int .i64 0, .nils, .int .i64 0, .nils]⟩]) (.seq (.reg [⟨(some 4), none, .fld 0 (.t 1)⟩,
  ⟨(some 5), none, .load 1 false (.t 4)⟩,
  ⟨(some 6), none, .fld 0 (.t 3)⟩,
  ⟨none, none, .store 1 (.t 6) (.t 5)⟩]) (.seq (.reg [⟨(some 7), none, .fld 1 (.t 1)⟩,
  ⟨(some 8), none, .load 1 false (.t 7)⟩,
  ⟨(some 9), none, .fld 1 (.t 3)⟩,
  ⟨none, none, .store 1 (.t 9) (.t 8)⟩]) (.seq (.reg [⟨(some 10), none, .fld 2 (.t 1)⟩,
  ⟨(some 11), none, .load 1 false (.t 10)⟩,
  ⟨(some 12), none, .call (.c (.fn Fn.laws_toExportS [] [])) [.t 11]⟩,
  ⟨(some 13), none, .fld 2 (.t 3)⟩,
  ⟨none, none, .store 1 (.t 13) (.t 12)⟩]) (.seq (.reg [⟨(some 14), none, .fld 3 (.t 1)⟩,
  ⟨(some 15), none, .load 1 false (.t 14)⟩,
  ⟨(some 16), none, .fld 3 (.t 3)⟩,
  ⟨none, none, .store 1 (.t 16) (.t 15)⟩]) (.seq (.reg [⟨(some 17), none, .fld 4 (.t 1)⟩,
  ⟨(some 18), none, .load 1 false (.t 17)⟩,
  ⟨(some 19), none, .call (.c (.fn Fn.laws_toQuestionS [] [])) [.t 18]⟩,
  ⟨(some 20), none, .fld 4 (.t 3)⟩,
  ⟨none, none, .store 1 (.t 20) (.t 19)⟩]) (.seq (.reg [⟨(some 21), none, .fld 5 (.t 1)⟩,
  ⟨(some 22), none, .load 1 false (.t 21)⟩,
  ⟨(some 23), none, .fld 5 (.t 3)⟩,
  ⟨none, none, .store 1 (.t 23) (.t 22)⟩]) (.seq (.reg [⟨(some 24), none, .fld 6 (.t 1)⟩,
  ⟨(some 25), none, .load 1 false (.t 24)⟩,
  ⟨(some 26), none, .call (.c (.fn Fn.laws_toQuestionS [] [])) [.t 25]⟩,
  ⟨(some 27), none, .fld 6 (.t 3)⟩,
  ⟨none, none, .store 1 (.t 27) (.t 26)⟩]) (.seq (.reg [⟨(some 28), none, .load 7 true (.t 3)⟩,
  ⟨none, none, .store 7 (.t 2) (.t 28)⟩]) (.ret))))))))))
def laws_toLink_r : List RS := [.cell 2 7 true]
theorem laws_toLink_e {a0 : AV} {h : AH} {K : AV → AH → Prop} (hw : TC Try.prog Θ Γ laws_toLink_c (retQ laws_toLink_r K) ⟨[a0, u, u, u, u, u, u, u, u, u, u, u, u, u, u, u, u, u, u, u, u, u, u, u, u, u, u, u, u], [], h⟩) : T Try.prog Γ Fn.laws_toLink [a0] h K :=
  T_of_body tabOK Try.func69 (code := bodyOf Try.f69) (by kernel_rfl) (by kernel_rfl) (by kernel_rfl) (by kernel_rfl) hw
def laws_eqLink_c : C := .seq (.reg [⟨(some 2), none, .box (.t 0)⟩,
  ⟨(some 3), none, .box (.t 1)⟩,
  ⟨(some 4), none, .mov (.c (.bool false))⟩]) (.seq (.seq (.reg [⟨(some 5), none, .fld 0 (.t 2)⟩,
  ⟨(some 6), none, .load 1 false (.t 5)⟩,
  ⟨(some 7), none, .fld 0 (.t 3)⟩,
  ⟨(some 8), none, .load 1 false (.t 7)⟩,
  ⟨(some 9), none, .bin .neq (.num) (.t 6) (.t 8)⟩]) (.cond (.t 9) (.seq (.reg [⟨(some 4), none, .mov (.c (.bool false))⟩]) (.ret)) (.skip))) (.seq (.seq (.reg [⟨(some 10), none, .fld 1 (.t 2)⟩,
  ⟨(some 11), none, .load 1 false (.t 10)⟩,
  ⟨(some 12), none, .fld 1 (.t 3)⟩,
  ⟨(some 13), none, .load 1 false (.t 12)⟩,
  ⟨(some 14), none, .bin .neq (.bool) (.t 11) (.t 13)⟩]) (.cond (.t 14) (.seq (.reg [⟨(some 4), none, .mov (.c (.bool false))⟩]) (.ret)) (.skip))) (.seq (.seq (.reg [⟨(some 15), none, .fld 2 (.t 2)⟩,
  ⟨(some 16), none, .load 1 false (.t 15)⟩,
  ⟨(some 17), none, .fld 2 (.t 3)⟩,
  ⟨(some 18), none, .load 1 false (.t 17)⟩,
  ⟨(some 19), none, .call (.c (.fn Fn.laws_eqExportS [] [])) [.t 16, .t 18]⟩,
  ⟨(some 20), none, .un .not (.t 19)⟩]) (.cond (.t 20) (.seq (.reg [⟨(some 4), none, .mov (.c (.bool false))⟩]) (.ret)) (.skip))) (.seq (.seq (.reg [⟨(some 21), none, .fld 3 (.t 2)⟩,
  ⟨(some 22), none, .load 1 false (.t 21)⟩,
  ⟨(some 23), none, .fld 3 (.t 3)⟩,
  ⟨(some 24), none, .load 1 false (.t 23)⟩,
  ⟨(some 25), none, .bin .neq (.num) (.t 22) (.t 24)⟩]) (.cond (.t 25) (.seq (.reg [⟨(some 4), none, .mov (.c (.bool false))⟩]) (.ret)) (.skip))) (.seq (.seq (.reg [⟨(some 26), none, .fld 4 (.t 2)⟩,
  ⟨(some 27), none, .load 1 false (.t 26)⟩,
  ⟨(some 28), none, .fld 4 (.t 3)⟩,
  ⟨(some 29), none, .load 1 false (.t 28)⟩,
  ⟨(some 30), none, .call (.c (.fn Fn.laws_eqQuestionS [] [])) [.t 27, .t 29]⟩,
  ⟨(some 31), none, .un .not (.t 30)⟩]) (.cond (.t 31) (.seq (.reg [⟨(some 4), none, .mov (.c (.bool false))⟩]) (.ret)) (.skip))) (.seq (.seq (.reg [⟨(some 32), none, .fld 5 (.t 2)⟩,
  ⟨(some 33), none, .load 1 false (.t 32)⟩,
  ⟨(some 34), none, .fld 5 (.t 3)⟩,
  ⟨(some 35), none, .load 1 false (.t 34)⟩,
  ⟨(some 36), none, .bin .neq (.num) (.t 33) (.t 35)⟩]) (.cond (.t 36) (.seq (.reg [⟨(some 4), none, .mov (.c (.bool false))⟩]) (.ret)) (.skip))) (.seq (.seq (.reg [⟨(some 37), none, .fld 6 (.t 2)⟩,
  ⟨(some 38), none, .load 1 false (.t 37)⟩,
  ⟨(some 39), none, .fld 6 (.t 3)⟩,
  ⟨(some 40), none, .load 1 false (.t 39)⟩,
  ⟨(some 41), none, .call (.c (.fn Fn.laws_eqQuestionS [] [])) [.t 38, .t 40]⟩,
  ⟨(some 42), none, .un .not (.t 41)⟩]) (.cond (.t 42) (.seq (.reg [⟨(some 4), none, .mov (.c (.bool false))⟩]) (.ret)) (.skip))) (.seq (.reg [⟨(some 4), none, .mov (.c (.bool true))⟩]) (.ret)))))))))
def laws_eqLink_r : List RS := [.t 4]
theorem laws_eqLink_e {a0 a1 : AV} {h : AH} {K : AV → AH → Prop} (hw : TC Try.prog Θ Γ laws_eqLink_c (retQ laws_eqLink_r K) ⟨[a0, a1, u, u, u, u, u, u, u, u, u, u, u, u, u, u, u, u, u, u, u, u, u, u, u, u, u, u, u, u, u, u, u, u, u, u, u, u, u, u, u, u, u], [], h⟩) : T Try.prog Γ Fn.laws_eqLink [a0, a1] h K :=
  T_of_body tabOK Try.func71 (code := bodyOf Try.f71) (by kernel_rfl) (by kernel_rfl) (by kernel_rfl) (by kernel_rfl) hw
def laws_eqGift_c : C := .seq (.reg [⟨(some 2), none, .box (.t 0)⟩,
  ⟨(some 3), none, .box (.t 1)⟩,
  ⟨(some 4), none, .mov (.c (.bool false))⟩]) (.seq (.seq (.reg [⟨(some 5), none, .fld 0 (.t 2)⟩,
  ⟨(some 6), none, .load 1 false (.t 5)⟩,
  ⟨(some 7), none, .fld 0 (.t 3)⟩,
  ⟨(some 8), none, .load 1 false (.t 7)⟩,
  ⟨(some 9), none, .bin .neq (.num) (.t 6) (.t 8)⟩]) (.cond (.t 9) (.seq (.reg [⟨(some 4), none, .mov (.c (.bool false))⟩]) (.ret)) (.skip))) (.seq (.seq (.reg [⟨(some 10), none, .fld 1 (.t 2)⟩,
  ⟨(some 11), none, .load 1 false (.t 10)⟩,
  ⟨(some 12), none, .fld 1 (.t 3)⟩,
  ⟨(some 13), none, .load 1 false (.t 12)⟩,
  ⟨(some 14), none, .bin .neq (.num) (.t 11) (.t 13)⟩]) (.cond (.t 14) (.seq (.reg [⟨(some 4), none, .mov (.c (.bool false))⟩]) (.ret)) (.skip))) (.seq (.seq (.reg [⟨(some 15), none, .fld 2 (.t 2)⟩,
  ⟨(some 16), none, .load 1 false (.t 15)⟩,
  ⟨(some 17), none, .fld 2 (.t 3)⟩,
  ⟨(some 18), none, .load 1 false (.t 17)⟩,
  ⟨(some 19), none, .bin .neq (.num) (.t 16) (.t 18)⟩]) (.cond (.t 19) (.seq (.reg [⟨(some 4), none, .mov (.c (.bool false))⟩]) (.ret)) (.skip))) (.seq (.seq (.reg [⟨(some 20), none, .fld 3 (.t 2)⟩,
  ⟨(some 21), none, .load 1 false (.t 20)⟩,
  ⟨(some 22), none, .fld 3 (.t 3)⟩,
  ⟨(some 23), none, .load 1 false (.t 22)⟩,
  ⟨(some 24), none, .bin .neq (.num) (.t 21) (.t 23)⟩]) (.cond (.t 24) (.seq (.reg [⟨(some 4), none, .mov (.c (.bool false))⟩]) (.ret)) (.skip))) (.seq (.reg [⟨(some 4), none, .mov (.c (.bool true))⟩]) (.ret))))))
def laws_eqGift_r : List RS := [.t 4]
theorem laws_eqGift_e {a0 a1 : AV} {h : AH} {K : AV → AH → Prop} (hw : TC Try.prog Θ Γ laws_eqGift_c (retQ laws_eqGift_r K) ⟨[a0, a1, u, u, u, u, u, u, u, u, u, u, u, u, u, u, u, u, u, u, u, u, u, u, u], [], h⟩) : T Try.prog Γ Fn.laws_eqGift [a0, a1] h K :=
  T_of_body tabOK Try.func83 (code := bodyOf Try.f83) (by kernel_rfl) (by kernel_rfl) (by kernel_rfl) (by kernel_rfl) hw
def laws_toBox_c : C := .seq (.reg [⟨(some 1), none, .box (.t 0)⟩,
  ⟨(some 2), none, .alloc [.int .i64 0, .int .i64 0, .int .i64 0, .int .i64 0]⟩]) (.seq (.reg [⟨(some 3), none, .alloc [.int .i64 0, .int .i64 0, .int .i64 0, .int .i64 0]⟩]) (.seq (.reg [⟨(some 4), none, .fld 0 (.t 1)⟩,
  ⟨(some 5), none, .load 1 false (.t 4)⟩,
  ⟨(some 6), none, .fld 0 (.t 3)⟩,
  ⟨none, none, .store 1 (.t 6) (.t 5)⟩]) (.seq (.reg [⟨(some 7), none, .fld 1 (.t 1)⟩,
  ⟨(some 8), none, .load 1 false (.t 7)⟩,
  ⟨(some 9), none, .fld 1 (.t 3)⟩,
  ⟨none, none, .store 1 (.t 9) (.t 8)⟩]) (.seq (.reg [⟨(some 10), none, .fld 2 (.t 1)⟩,
  ⟨(some 11), none, .load 2 true (.t 10)⟩,
  ⟨(some 12), none, .call (.c (.fn Fn.laws_toValue [] [])) [.t 11]⟩,
  ⟨(some 13), none, .fld 2 (.t 3)⟩,
  ⟨none, none, .store 2 (.t 13) (.t 12)⟩]) (.seq (.reg [⟨(some 14), none, .load 4 true (.t 3)⟩,
  ⟨none, none, .store 4 (.t 2) (.t 14)⟩]) (.ret))))))
def laws_toBox_r : List RS := [.cell 2 4 true]
theorem laws_toBox_e {a0 : AV} {h : AH} {K : AV → AH → Prop} (hw : TC Try.prog Θ Γ laws_toBox_c (retQ laws_toBox_r K) ⟨[a0, u, u, u, u, u, u, u, u, u, u, u, u, u, u], [], h⟩) : T Try.prog Γ Fn.laws_toBox [a0] h K :=
  T_of_body tabOK Try.func86 (code := bodyOf Try.f86) (by kernel_rfl) (by kernel_rfl) (by kernel_rfl) (by kernel_rfl) hw
def laws_eqBox_c : C := .seq (.reg [⟨(some 2), none, .box (.t 0)⟩,
  ⟨(some 3), none, .box (.t 1)⟩,
  ⟨(some 4), none, .mov (.c (.bool false))⟩]) (.seq (.seq (.reg [⟨(some 5), none, .fld 0 (.t 2)⟩,
  ⟨(some 6), none, .load 1 false (.t 5)⟩,
  ⟨(some 7), none, .fld 0 (.t 3)⟩,
  ⟨(some 8), none, .load 1 false (.t 7)⟩,
  ⟨(some 9), none, .bin .neq (.num) (.t 6) (.t 8)⟩]) (.cond (.t 9) (.seq (.reg [⟨(some 4), none, .mov (.c (.bool false))⟩]) (.ret)) (.skip))) (.seq (.seq (.reg [⟨(some 10), none, .fld 1 (.t 2)⟩,
  ⟨(some 11), none, .load 1 false (.t 10)⟩,
  ⟨(some 12), none, .fld 1 (.t 3)⟩,
  ⟨(some 13), none, .load 1 false (.t 12)⟩,
  ⟨(some 14), none, .bin .neq (.num) (.t 11) (.t 13)⟩]) (.cond (.t 14) (.seq (.reg [⟨(some 4), none, .mov (.c (.bool false))⟩]) (.ret)) (.skip))) (.seq (.seq (.reg [⟨(some 15), none, .fld 2 (.t 2)⟩,
  ⟨(some 16), none, .load 2 true (.t 15)⟩,
  ⟨(some 17), none, .fld 2 (.t 3)⟩,
  ⟨(some 18), none, .load 2 true (.t 17)⟩,
  ⟨(some 19), none, .call (.c (.fn Fn.laws_eqValue [] [])) [.t 16, .t 18]⟩,
  ⟨(some 20), none, .un .not (.t 19)⟩]) (.cond (.t 20) (.seq (.reg [⟨(some 4), none, .mov (.c (.bool false))⟩]) (.ret)) (.skip))) (.seq (.reg [⟨(some 4), none, .mov (.c (.bool true))⟩]) (.ret)))))
def laws_eqBox_r : List RS := [.t 4]
theorem laws_eqBox_e {a0 a1 : AV} {h : AH} {K : AV → AH → Prop} (hw : TC Try.prog Θ Γ laws_eqBox_c (retQ laws_eqBox_r K) ⟨[a0, a1, u, u, u, u, u, u, u, u, u, u, u, u, u, u, u, u, u, u, u], [], h⟩) : T Try.prog Γ Fn.laws_eqBox [a0, a1] h K :=
  T_of_body tabOK Try.func89 (code := bodyOf Try.f89) (by kernel_rfl) (by kernel_rfl) (by kernel_rfl) (by kernel_rfl) hw
def laws_eqWireS_d0_os : List O := [⟨(some 17), none, .mov (.t 0)⟩,
  ⟨(some 18), none, .mov (.t 5)⟩,
  ⟨(some 19), none, .idxs 2 (.t 17) (.t 18)⟩,
  ⟨(some 20), none, .load 2 true (.t 19)⟩,
  ⟨(some 21), none, .mov (.t 1)⟩,
  ⟨(some 22), none, .mov (.t 5)⟩,
  ⟨(some 23), none, .idxs 2 (.t 21) (.t 22)⟩,
  ⟨(some 24), none, .load 2 true (.t 23)⟩,
  ⟨(some 25), none, .call (.c (.fn Fn.laws_eqWire [] [])) [.t 20, .t 24]⟩,
  ⟨(some 26), none, .un .not (.t 25)⟩]
def laws_eqWireS_d0_af : List (List Nat) := [[], [], [0, 1], [2], [], [], [4, 5], [6], [3, 7], [8]]
theorem laws_eqWireS_d0_q (gl : Gl) (Q : AE → St → Prop) (s : St) : aw Try.prog Θ Γ gl (.regD laws_eqWireS_d0_os laws_eqWireS_d0_af) Q s = awpT Try.prog Γ gl [⟨(some 17), none, .mov (.t 0)⟩,
  ⟨(some 18), none, .mov (.t 5)⟩,
  ⟨(some 19), none, .idxs 2 (.t 17) (.t 18)⟩,
  ⟨(some 20), none, .load 2 true (.t 19)⟩,
  ⟨(some 21), none, .mov (.t 1)⟩,
  ⟨(some 22), none, .mov (.t 5)⟩,
  ⟨(some 23), none, .idxs 2 (.t 21) (.t 22)⟩,
  ⟨(some 24), none, .load 2 true (.t 23)⟩,
  ⟨(some 25), none, .call (.c (.fn Fn.laws_eqWire [] [])) [.t 20, .t 24]⟩,
  ⟨(some 26), none, .un .not (.t 25)⟩] (Q .normal) 10 (.q 0 (.q 1 (.q 2 (.q 3 (.q 4 (.q 5 (.q 6 (.q 7 (.q 8 (.q 9 (.done))))))))))) s := a_dd rfl (by kernel_rfl) gl Q s
def laws_eqWireS_c : C := .seq (.reg [⟨(some 4), none, .mov (.c (.bool false))⟩]) (.seq (.seq (.reg [⟨(some 6), none, .mov (.t 0)⟩,
  ⟨(some 7), none, .len false (.t 6)⟩,
  ⟨(some 8), none, .mov (.t 1)⟩,
  ⟨(some 9), none, .len false (.t 8)⟩,
  ⟨(some 10), none, .bin .neq (.num) (.t 7) (.t 9)⟩]) (.cond (.t 10) (.seq (.reg [⟨(some 4), none, .mov (.c (.bool false))⟩]) (.ret)) (.skip))) (.seq (.seq (.reg [⟨(some 5), none, .mov (.c (.int .i64 0))⟩]) (.block 0 (.loop (.seq (.seq (.reg [⟨(some 11), none, .mov (.t 5)⟩,
  ⟨(some 12), none, .mov (.t 0)⟩,
  ⟨(some 13), none, .len false (.t 12)⟩,
  ⟨(some 14), none, .bin .lss (.num) (.t 11) (.t 13)⟩]) (.cond (.t 14) (.skip) (.exit 0))) (.seq (.block 1 (.seq (.regD laws_eqWireS_d0_os laws_eqWireS_d0_af) (.cond (.t 26) (.seq (.reg [⟨(some 4), none, .mov (.c (.bool false))⟩]) (.ret)) (.skip)))) (.reg [⟨(some 15), none, .mov (.t 5)⟩,
  ⟨(some 16), none, .bin .add (.num) (.t 15) (.c (.int .i64 1))⟩,
  ⟨(some 5), none, .mov (.t 16)⟩])))))) (.seq (.reg [⟨(some 4), none, .mov (.c (.bool true))⟩]) (.ret))))
def laws_eqWireS_r : List RS := [.t 4]
def laws_eqWireS_s0 (t0 t1 t5 : AV) (loc : List (List AV)) (h : AH) : St := ⟨[t0, t1, .any, .any, .any, t5, .any, .any, .any, .any, .any, .any, .any, .any, .any, .any, .any, .any, .any, .any, .any, .any, .any, .any, .any, .any, .any], loc, h⟩
theorem laws_eqWireS_e {a0 a1 : AV} {h : AH} {K : AV → AH → Prop} (hw : TC Try.prog Θ Γ laws_eqWireS_c (retQ laws_eqWireS_r K) ⟨[a0, a1, u, u, u, u, u, u, u, u, u, u, u, u, u, u, u, u, u, u, u, u, u, u, u, u, u], [], h⟩) : T Try.prog Γ Fn.laws_eqWireS [a0, a1] h K :=
  T_of_body tabOK Try.func90 (code := bodyOf Try.f90) (by kernel_rfl) (by kernel_rfl) (by kernel_rfl) (by kernel_rfl) hw
def laws_eqWire_c : C := .seq (.reg [⟨(some 2), none, .box (.t 0)⟩,
  ⟨(some 3), none, .box (.t 1)⟩,
  ⟨(some 4), none, .mov (.c (.bool false))⟩]) (.seq (.seq (.reg [⟨(some 5), none, .fld 0 (.t 2)⟩,
  ⟨(some 6), none, .load 1 false (.t 5)⟩,
  ⟨(some 7), none, .fld 0 (.t 3)⟩,
  ⟨(some 8), none, .load 1 false (.t 7)⟩,
  ⟨(some 9), none, .bin .neq (.num) (.t 6) (.t 8)⟩]) (.cond (.t 9) (.seq (.reg [⟨(some 4), none, .mov (.c (.bool false))⟩]) (.ret)) (.skip))) (.seq (.seq (.reg [⟨(some 10), none, .fld 1 (.t 2)⟩,
  ⟨(some 11), none, .load 1 false (.t 10)⟩,
  ⟨(some 12), none, .fld 1 (.t 3)⟩,
  ⟨(some 13), none, .load 1 false (.t 12)⟩,
  ⟨(some 14), none, .bin .neq (.num) (.t 11) (.t 13)⟩]) (.cond (.t 14) (.seq (.reg [⟨(some 4), none, .mov (.c (.bool false))⟩]) (.ret)) (.skip))) (.seq (.reg [⟨(some 4), none, .mov (.c (.bool true))⟩]) (.ret))))
def laws_eqWire_r : List RS := [.t 4]
theorem laws_eqWire_e {a0 a1 : AV} {h : AH} {K : AV → AH → Prop} (hw : TC Try.prog Θ Γ laws_eqWire_c (retQ laws_eqWire_r K) ⟨[a0, a1, u, u, u, u, u, u, u, u, u, u, u, u, u], [], h⟩) : T Try.prog Γ Fn.laws_eqWire [a0, a1] h K :=
  T_of_body tabOK Try.func91 (code := bodyOf Try.f91) (by kernel_rfl) (by kernel_rfl) (by kernel_rfl) (by kernel_rfl) hw
def laws_eqTag_c : C := .seq (.reg [⟨(some 2), none, .box (.t 0)⟩,
  ⟨(some 3), none, .box (.t 1)⟩,
  ⟨(some 4), none, .mov (.c (.bool false))⟩]) (.seq (.seq (.reg [⟨(some 5), none, .fld 0 (.t 2)⟩,
  ⟨(some 6), none, .load 1 false (.t 5)⟩,
  ⟨(some 7), none, .fld 0 (.t 3)⟩,
  ⟨(some 8), none, .load 1 false (.t 7)⟩,
  ⟨(some 9), none, .bin .neq (.num) (.t 6) (.t 8)⟩]) (.cond (.t 9) (.seq (.reg [⟨(some 4), none, .mov (.c (.bool false))⟩]) (.ret)) (.skip))) (.seq (.seq (.reg [⟨(some 10), none, .fld 1 (.t 2)⟩,
  ⟨(some 11), none, .load 1 false (.t 10)⟩,
  ⟨(some 12), none, .fld 1 (.t 3)⟩,
  ⟨(some 13), none, .load 1 false (.t 12)⟩,
  ⟨(some 14), none, .bin .neq (.num) (.t 11) (.t 13)⟩]) (.cond (.t 14) (.seq (.reg [⟨(some 4), none, .mov (.c (.bool false))⟩]) (.ret)) (.skip))) (.seq (.seq (.reg [⟨(some 15), none, .fld 2 (.t 2)⟩,
  ⟨(some 16), none, .load 1 false (.t 15)⟩,
  ⟨(some 17), none, .fld 2 (.t 3)⟩,
  ⟨(some 18), none, .load 1 false (.t 17)⟩,
  ⟨(some 19), none, .bin .neq (.num) (.t 16) (.t 18)⟩]) (.cond (.t 19) (.seq (.reg [⟨(some 4), none, .mov (.c (.bool false))⟩]) (.ret)) (.skip))) (.seq (.reg [⟨(some 4), none, .mov (.c (.bool true))⟩]) (.ret)))))
def laws_eqTag_r : List RS := [.t 4]
theorem laws_eqTag_e {a0 a1 : AV} {h : AH} {K : AV → AH → Prop} (hw : TC Try.prog Θ Γ laws_eqTag_c (retQ laws_eqTag_r K) ⟨[a0, a1, u, u, u, u, u, u, u, u, u, u, u, u, u, u, u, u, u, u], [], h⟩) : T Try.prog Γ Fn.laws_eqTag [a0, a1] h K :=
  T_of_body tabOK Try.func92 (code := bodyOf Try.f92) (by kernel_rfl) (by kernel_rfl) (by kernel_rfl) (by kernel_rfl) hw
def laws_markWireS_c : C := .seq (.reg [⟨(some 4), none, .mov (.c (.int .i64 0))⟩]) (.seq (.seq (.reg [⟨(some 5), none, .mov (.c (.int .i64 0))⟩]) (.block 0 (.loop (.seq (.seq (.reg [⟨(some 6), none, .mov (.t 5)⟩,
  ⟨(some 7), none, .mov (.t 0)⟩,
  ⟨(some 8), none, .len false (.t 7)⟩,
  ⟨(some 9), none, .bin .lss (.num) (.t 6) (.t 8)⟩]) (.cond (.t 9) (.skip) (.exit 0))) (.seq (.block 1 (.seq (.reg [⟨(some 12), none, .mov (.t 0)⟩,
  ⟨(some 13), none, .mov (.t 5)⟩,
  ⟨(some 14), none, .mov (.t 1)⟩,
  ⟨(some 15), none, .idxs 2 (.t 12) (.t 13)⟩,
  ⟨(some 16), none, .fld 0 (.t 15)⟩,
  ⟨none, none, .store 1 (.t 16) (.t 14)⟩]) (.seq (.reg [⟨(some 17), none, .mov (.t 1)⟩,
  ⟨(some 18), none, .bin .add (.num) (.t 17) (.c (.int .i64 1))⟩,
  ⟨(some 1), none, .mov (.t 18)⟩]) (.seq (.reg [⟨(some 19), none, .mov (.t 0)⟩,
  ⟨(some 20), none, .mov (.t 5)⟩,
  ⟨(some 21), none, .mov (.t 1)⟩,
  ⟨(some 22), none, .idxs 2 (.t 19) (.t 20)⟩,
  ⟨(some 23), none, .fld 1 (.t 22)⟩,
  ⟨none, none, .store 1 (.t 23) (.t 21)⟩]) (.reg [⟨(some 24), none, .mov (.t 1)⟩,
  ⟨(some 25), none, .bin .add (.num) (.t 24) (.c (.int .i64 1))⟩,
  ⟨(some 1), none, .mov (.t 25)⟩]))))) (.reg [⟨(some 10), none, .mov (.t 5)⟩,
  ⟨(some 11), none, .bin .add (.num) (.t 10) (.c (.int .i64 1))⟩,
  ⟨(some 5), none, .mov (.t 11)⟩])))))) (.seq (.reg [⟨(some 26), none, .mov (.t 1)⟩,
  ⟨(some 4), none, .mov (.t 26)⟩]) (.ret)))
def laws_markWireS_r : List RS := [.t 4]
def laws_markWireS_s0 (t0 t1 t5 : AV) (loc : List (List AV)) (h : AH) : St := ⟨[t0, t1, .any, .any, .any, t5, .any, .any, .any, .any, .any, .any, .any, .any, .any, .any, .any, .any, .any, .any, .any, .any, .any, .any, .any, .any, .any], loc, h⟩
theorem laws_markWireS_e {a0 a1 : AV} {h : AH} {K : AV → AH → Prop} (hw : TC Try.prog Θ Γ laws_markWireS_c (retQ laws_markWireS_r K) ⟨[a0, a1, u, u, u, u, u, u, u, u, u, u, u, u, u, u, u, u, u, u, u, u, u, u, u, u, u], [], h⟩) : T Try.prog Γ Fn.laws_markWireS [a0, a1] h K :=
  T_of_body tabOK Try.func93 (code := bodyOf Try.f93) (by kernel_rfl) (by kernel_rfl) (by kernel_rfl) (by kernel_rfl) hw
def laws_heldWireS_c : C := .seq (.reg [⟨(some 4), none, .mov (.c (.int .i64 0))⟩]) (.seq (.seq (.reg [⟨(some 5), none, .mov (.c (.int .i64 0))⟩]) (.block 0 (.loop (.seq (.seq (.reg [⟨(some 6), none, .mov (.t 5)⟩,
  ⟨(some 7), none, .mov (.t 0)⟩,
  ⟨(some 8), none, .len false (.t 7)⟩,
  ⟨(some 9), none, .bin .lss (.num) (.t 6) (.t 8)⟩]) (.cond (.t 9) (.skip) (.exit 0))) (.seq (.block 1 (.seq (.seq (.reg [⟨(some 12), none, .mov (.t 0)⟩,
  ⟨(some 13), none, .mov (.t 5)⟩,
  ⟨(some 14), none, .idxs 2 (.t 12) (.t 13)⟩,
  ⟨(some 15), none, .fld 0 (.t 14)⟩,
  ⟨(some 16), none, .load 1 false (.t 15)⟩,
  ⟨(some 17), none, .mov (.t 1)⟩,
  ⟨(some 18), none, .bin .neq (.num) (.t 16) (.t 17)⟩]) (.cond (.t 18) (.seq (.reg [⟨(some 4), none, .mov (.c (.int .i64 (-1)))⟩]) (.ret)) (.skip))) (.seq (.reg [⟨(some 19), none, .mov (.t 1)⟩,
  ⟨(some 20), none, .bin .add (.num) (.t 19) (.c (.int .i64 1))⟩,
  ⟨(some 1), none, .mov (.t 20)⟩]) (.seq (.seq (.reg [⟨(some 21), none, .mov (.t 0)⟩,
  ⟨(some 22), none, .mov (.t 5)⟩,
  ⟨(some 23), none, .idxs 2 (.t 21) (.t 22)⟩,
  ⟨(some 24), none, .fld 1 (.t 23)⟩,
  ⟨(some 25), none, .load 1 false (.t 24)⟩,
  ⟨(some 26), none, .mov (.t 1)⟩,
  ⟨(some 27), none, .bin .neq (.num) (.t 25) (.t 26)⟩]) (.cond (.t 27) (.seq (.reg [⟨(some 4), none, .mov (.c (.int .i64 (-1)))⟩]) (.ret)) (.skip))) (.reg [⟨(some 28), none, .mov (.t 1)⟩,
  ⟨(some 29), none, .bin .add (.num) (.t 28) (.c (.int .i64 1))⟩,
  ⟨(some 1), none, .mov (.t 29)⟩]))))) (.reg [⟨(some 10), none, .mov (.t 5)⟩,
  ⟨(some 11), none, .bin .add (.num) (.t 10) (.c (.int .i64 1))⟩,
  ⟨(some 5), none, .mov (.t 11)⟩])))))) (.seq (.reg [⟨(some 30), none, .mov (.t 1)⟩,
  ⟨(some 4), none, .mov (.t 30)⟩]) (.ret)))
def laws_heldWireS_r : List RS := [.t 4]
def laws_heldWireS_s0 (t0 t1 t5 : AV) (loc : List (List AV)) (h : AH) : St := ⟨[t0, t1, .any, .any, .any, t5, .any, .any, .any, .any, .any, .any, .any, .any, .any, .any, .any, .any, .any, .any, .any, .any, .any, .any, .any, .any, .any, .any, .any, .any, .any], loc, h⟩
theorem laws_heldWireS_e {a0 a1 : AV} {h : AH} {K : AV → AH → Prop} (hw : TC Try.prog Θ Γ laws_heldWireS_c (retQ laws_heldWireS_r K) ⟨[a0, a1, u, u, u, u, u, u, u, u, u, u, u, u, u, u, u, u, u, u, u, u, u, u, u, u, u, u, u, u, u], [], h⟩) : T Try.prog Γ Fn.laws_heldWireS [a0, a1] h K :=
  T_of_body tabOK Try.func94 (code := bodyOf Try.f94) (by kernel_rfl) (by kernel_rfl) (by kernel_rfl) (by kernel_rfl) hw
def slices_DeleteFunc_iimpl_Gift_impl_Gift_c : C := .seq (.reg [⟨(some 4), none, .mov (.c (.nils))⟩]) (.seq (.reg [⟨(some 8), none, .mov (.t 0)⟩,
  ⟨(some 9), none, .mov (.t 1)⟩,
  ⟨(some 10), none, .call (.c (.fn Fn.slices_IndexFunc_iimpl_Gift_impl_Gift [] [])) [.t 8, .t 9]⟩,
  ⟨(some 5), none, .mov (.t 10)⟩]) (.seq (.seq (.reg [⟨(some 11), none, .mov (.t 5)⟩,
  ⟨(some 12), none, .bin .eql (.num) (.t 11) (.c (.int .i64 (-1)))⟩]) (.cond (.t 12) (.seq (.reg [⟨(some 13), none, .mov (.t 0)⟩,
  ⟨(some 4), none, .mov (.t 13)⟩]) (.ret)) (.skip))) (.seq (.seq (.reg [⟨(some 14), none, .mov (.t 5)⟩,
  ⟨(some 15), none, .bin .add (.num) (.t 14) (.c (.int .i64 1))⟩,
  ⟨(some 6), none, .mov (.t 15)⟩]) (.block 0 (.loop (.seq (.seq (.reg [⟨(some 16), none, .mov (.t 6)⟩,
  ⟨(some 17), none, .mov (.t 0)⟩,
  ⟨(some 18), none, .len false (.t 17)⟩,
  ⟨(some 19), none, .bin .lss (.num) (.t 16) (.t 18)⟩]) (.cond (.t 19) (.skip) (.exit 0))) (.seq (.block 1 (.seq (.reg [⟨(some 22), none, .mov (.t 0)⟩,
  ⟨(some 23), none, .mov (.t 6)⟩,
  ⟨(some 24), none, .idxs 4 (.t 22) (.t 23)⟩,
  ⟨(some 25), none, .load 4 true (.t 24)⟩,
  ⟨(some 7), none, .alloc [.int .i64 0, .int .i64 0, .int .i64 0, .int .i64 0]⟩,
  ⟨none, none, .store 4 (.t 7) (.t 25)⟩]) (.seq (.reg [⟨(some 26), none, .mov (.t 1)⟩,
  ⟨(some 27), none, .load 4 true (.t 7)⟩,
  ⟨(some 28), none, .call (.t 26) [.t 27]⟩,
  ⟨(some 29), none, .un .not (.t 28)⟩]) (.cond (.t 29) (.seq (.reg [⟨(some 30), none, .mov (.t 0)⟩,
  ⟨(some 31), none, .mov (.t 5)⟩,
  ⟨(some 32), none, .load 4 true (.t 7)⟩,
  ⟨(some 33), none, .idxs 4 (.t 30) (.t 31)⟩,
  ⟨none, none, .store 4 (.t 33) (.t 32)⟩]) (.reg [⟨(some 34), none, .mov (.t 5)⟩,
  ⟨(some 35), none, .bin .add (.num) (.t 34) (.c (.int .i64 1))⟩,
  ⟨(some 5), none, .mov (.t 35)⟩])) (.skip))))) (.reg [⟨(some 20), none, .mov (.t 6)⟩,
  ⟨(some 21), none, .bin .add (.num) (.t 20) (.c (.int .i64 1))⟩,
  ⟨(some 6), none, .mov (.t 21)⟩])))))) (.seq (.reg [⟨(some 36), none, .mov (.t 0)⟩,
  ⟨(some 37), none, .mov (.t 5)⟩,
  ⟨(some 38), none, .slice (.sl 4) (.t 36) (some (.t 37)) none none⟩,
  ⟨none, none, .clr 4 [.int .i64 0, .int .i64 0, .int .i64 0, .int .i64 0] (.t 38)⟩]) (.seq (.reg [⟨(some 39), none, .mov (.t 0)⟩,
  ⟨(some 40), none, .mov (.t 5)⟩,
  ⟨(some 41), none, .slice (.sl 4) (.t 39) none (some (.t 40)) none⟩,
  ⟨(some 4), none, .mov (.t 41)⟩]) (.ret))))))
def slices_DeleteFunc_iimpl_Gift_impl_Gift_r : List RS := [.t 4]
def slices_DeleteFunc_iimpl_Gift_impl_Gift_s0 (t0 t1 t5 t6 : AV) (loc : List (List AV)) (h : AH) : St := ⟨[t0, t1, .any, .any, .any, t5, t6, .any, .any, .any, .any, .any, .any, .any, .any, .any, .any, .any, .any, .any, .any, .any, .any, .any, .any, .any, .any, .any, .any, .any, .any, .any, .any, .any, .any, .any, .any, .any, .any, .any, .any, .any], loc, h⟩
theorem slices_DeleteFunc_iimpl_Gift_impl_Gift_e {a0 a1 : AV} {h : AH} {K : AV → AH → Prop} (hw : TC Try.prog Θ Γ slices_DeleteFunc_iimpl_Gift_impl_Gift_c (retQ slices_DeleteFunc_iimpl_Gift_impl_Gift_r K) ⟨[a0, a1, u, u, u, u, u, u, u, u, u, u, u, u, u, u, u, u, u, u, u, u, u, u, u, u, u, u, u, u, u, u, u, u, u, u, u, u, u, u, u, u], [], h⟩) : T Try.prog Γ Fn.slices_DeleteFunc_iimpl_Gift_impl_Gift [a0, a1] h K :=
  T_of_body tabOK Try.func95 (code := bodyOf Try.f95) (by kernel_rfl) (by kernel_rfl) (by kernel_rfl) (by kernel_rfl) hw
def slices_Clone_iimpl_Gift_impl_Gift_c : C := .seq (.reg [⟨(some 2), none, .mov (.c (.nils))⟩]) (.seq (.seq (.reg [⟨(some 3), none, .mov (.t 0)⟩,
  ⟨(some 4), none, .bin .eql (.nils) (.t 3) (.c (.nils))⟩]) (.cond (.t 4) (.seq (.reg [⟨(some 2), none, .mov (.c (.nils))⟩]) (.ret)) (.skip))) (.seq (.reg [⟨(some 5), none, .bsl 4 0 [.int .i64 0, .int .i64 0, .int .i64 0, .int .i64 0] []⟩,
  ⟨(some 6), none, .mov (.t 0)⟩,
  ⟨(some 7), none, .app 4 32 [.int .i64 0, .int .i64 0, .int .i64 0, .int .i64 0] false (.t 5) (.t 6)⟩,
  ⟨(some 2), none, .mov (.t 7)⟩]) (.ret)))
def slices_Clone_iimpl_Gift_impl_Gift_r : List RS := [.t 2]
theorem slices_Clone_iimpl_Gift_impl_Gift_e {a0 : AV} {h : AH} {K : AV → AH → Prop} (hw : TC Try.prog Θ Γ slices_Clone_iimpl_Gift_impl_Gift_c (retQ slices_Clone_iimpl_Gift_impl_Gift_r K) ⟨[a0, u, u, u, u, u, u, u], [], h⟩) : T Try.prog Γ Fn.slices_Clone_iimpl_Gift_impl_Gift [a0] h K :=
  T_of_body tabOK Try.func96 (code := bodyOf Try.f96) (by kernel_rfl) (by kernel_rfl) (by kernel_rfl) (by kernel_rfl) hw
def impl_DropGifts_1_c : C := .seq (.reg [⟨(some 2), none, .box (.t 0)⟩,
  ⟨(some 3), none, .mov (.c (.bool false))⟩]) (.seq (.reg [⟨(some 4), none, .fld 1 (.t 2)⟩,
  ⟨(some 5), none, .load 1 false (.t 4)⟩,
  ⟨(some 6), none, .load 1 false (.t 1)⟩,
  ⟨(some 7), none, .bin .eql (.num) (.t 5) (.t 6)⟩,
  ⟨(some 8), none, .mov (.t 7)⟩,
  ⟨(some 9), (some (4, false)), .fld 2 (.t 2)⟩,
  ⟨(some 10), (some (4, false)), .load 1 false (.t 9)⟩,
  ⟨(some 11), (some (4, false)), .load 1 false (.t 1)⟩,
  ⟨(some 12), (some (4, false)), .bin .eql (.num) (.t 10) (.t 11)⟩,
  ⟨(some 13), none, .pick (.t 8) (.c (.bool true)) (.t 12)⟩,
  ⟨(some 3), none, .mov (.t 13)⟩]) (.ret))
def impl_DropGifts_1_r : List RS := [.t 3]
theorem impl_DropGifts_1_e {a0 a1 : AV} {h : AH} {K : AV → AH → Prop} (hw : TC Try.prog Θ Γ impl_DropGifts_1_c (retQ impl_DropGifts_1_r K) ⟨[a0, a1, u, u, u, u, u, u, u, u, u, u, u, u], [], h⟩) : T Try.prog Γ Fn.impl_DropGifts_1 [a0, a1] h K :=
  T_of_body tabOK Try.func97 (code := bodyOf Try.f97) (by kernel_rfl) (by kernel_rfl) (by kernel_rfl) (by kernel_rfl) hw
def laws_szExportS_c : C := .seq (.reg [⟨(some 4), none, .mov (.c (.int .i64 0))⟩]) (.seq (.reg [⟨(some 5), none, .mov (.t 1)⟩,
  ⟨(some 6), none, .mov (.t 0)⟩,
  ⟨(some 7), none, .len false (.t 6)⟩,
  ⟨(some 8), none, .bin .sub (.num) (.t 5) (.t 7)⟩,
  ⟨(some 1), none, .mov (.t 8)⟩]) (.seq (.seq (.reg [⟨(some 9), none, .mov (.t 1)⟩,
  ⟨(some 10), none, .bin .lss (.num) (.t 9) (.c (.int .i64 0))⟩]) (.cond (.t 10) (.seq (.reg [⟨(some 4), none, .mov (.c (.int .i64 (-1)))⟩]) (.ret)) (.skip))) (.seq (.reg [⟨(some 11), none, .mov (.t 1)⟩,
  ⟨(some 4), none, .mov (.t 11)⟩]) (.ret))))
def laws_szExportS_r : List RS := [.t 4]
theorem laws_szExportS_e {a0 a1 : AV} {h : AH} {K : AV → AH → Prop} (hw : TC Try.prog Θ Γ laws_szExportS_c (retQ laws_szExportS_r K) ⟨[a0, a1, u, u, u, u, u, u, u, u, u, u], [], h⟩) : T Try.prog Γ Fn.laws_szExportS [a0, a1] h K :=
  T_of_body tabOK Try.func115 (code := bodyOf Try.f115) (by kernel_rfl) (by kernel_rfl) (by kernel_rfl) (by kernel_rfl) hw
def laws_szQuestionS_c : C := .seq (.reg [⟨(some 4), none, .mov (.c (.int .i64 0))⟩]) (.seq (.reg [⟨(some 5), none, .mov (.t 1)⟩,
  ⟨(some 6), none, .mov (.t 0)⟩,
  ⟨(some 7), none, .len false (.t 6)⟩,
  ⟨(some 8), none, .bin .sub (.num) (.t 5) (.t 7)⟩,
  ⟨(some 1), none, .mov (.t 8)⟩]) (.seq (.seq (.reg [⟨(some 9), none, .mov (.t 1)⟩,
  ⟨(some 10), none, .bin .lss (.num) (.t 9) (.c (.int .i64 0))⟩]) (.cond (.t 10) (.seq (.reg [⟨(some 4), none, .mov (.c (.int .i64 (-1)))⟩]) (.ret)) (.skip))) (.seq (.reg [⟨(some 11), none, .mov (.t 1)⟩,
  ⟨(some 4), none, .mov (.t 11)⟩]) (.ret))))
def laws_szQuestionS_r : List RS := [.t 4]
theorem laws_szQuestionS_e {a0 a1 : AV} {h : AH} {K : AV → AH → Prop} (hw : TC Try.prog Θ Γ laws_szQuestionS_c (retQ laws_szQuestionS_r K) ⟨[a0, a1, u, u, u, u, u, u, u, u, u, u], [], h⟩) : T Try.prog Γ Fn.laws_szQuestionS [a0, a1] h K :=
  T_of_body tabOK Try.func116 (code := bodyOf Try.f116) (by kernel_rfl) (by kernel_rfl) (by kernel_rfl) (by kernel_rfl) hw
def laws_toExportS_c : C := .seq (.reg [⟨(some 2), none, .mov (.c (.nils))⟩]) (.seq (.reg [⟨(some 5), none, .mov (.t 0)⟩,
  ⟨(some 6), none, .len false (.t 5)⟩,
  ⟨(some 7), none, .mks 3 24 [.int .i64 0, .int .i64 0, .int .i64 0] (.t 6) (.t 6)⟩,
  ⟨(some 3), none, .mov (.t 7)⟩]) (.seq (.seq (.reg [⟨(some 4), none, .mov (.c (.int .i64 0))⟩]) (.block 0 (.loop (.seq (.seq (.reg [⟨(some 8), none, .mov (.t 4)⟩,
  ⟨(some 9), none, .mov (.t 0)⟩,
  ⟨(some 10), none, .len false (.t 9)⟩,
  ⟨(some 11), none, .bin .lss (.num) (.t 8) (.t 10)⟩]) (.cond (.t 11) (.skip) (.exit 0))) (.seq (.block 1 (.reg [⟨(some 14), none, .mov (.t 3)⟩,
  ⟨(some 15), none, .mov (.t 4)⟩,
  ⟨(some 16), none, .mov (.t 0)⟩,
  ⟨(some 17), none, .mov (.t 4)⟩,
  ⟨(some 18), none, .idxs 3 (.t 16) (.t 17)⟩,
  ⟨(some 19), none, .load 3 true (.t 18)⟩,
  ⟨(some 20), none, .call (.c (.fn Fn.laws_toExport [] [])) [.t 19]⟩,
  ⟨(some 21), none, .idxs 3 (.t 14) (.t 15)⟩,
  ⟨none, none, .store 3 (.t 21) (.t 20)⟩])) (.reg [⟨(some 12), none, .mov (.t 4)⟩,
  ⟨(some 13), none, .bin .add (.num) (.t 12) (.c (.int .i64 1))⟩,
  ⟨(some 4), none, .mov (.t 13)⟩])))))) (.seq (.reg [⟨(some 22), none, .mov (.t 3)⟩,
  ⟨(some 2), none, .mov (.t 22)⟩]) (.ret))))
def laws_toExportS_r : List RS := [.t 2]
def laws_toExportS_s0 (t0 t3 t4 : AV) (loc : List (List AV)) (h : AH) : St := ⟨[t0, .any, .any, t3, t4, .any, .any, .any, .any, .any, .any, .any, .any, .any, .any, .any, .any, .any, .any, .any, .any, .any, .any], loc, h⟩
theorem laws_toExportS_e {a0 : AV} {h : AH} {K : AV → AH → Prop} (hw : TC Try.prog Θ Γ laws_toExportS_c (retQ laws_toExportS_r K) ⟨[a0, u, u, u, u, u, u, u, u, u, u, u, u, u, u, u, u, u, u, u, u, u, u], [], h⟩) : T Try.prog Γ Fn.laws_toExportS [a0] h K :=
  T_of_body tabOK Try.func117 (code := bodyOf Try.f117) (by kernel_rfl) (by kernel_rfl) (by kernel_rfl) (by kernel_rfl) hw
def laws_toQuestionS_c : C := .seq (.reg [⟨(some 2), none, .mov (.c (.nils))⟩]) (.seq (.reg [⟨(some 5), none, .mov (.t 0)⟩,
  ⟨(some 6), none, .len false (.t 5)⟩,
  ⟨(some 7), none, .mks 2 16 [.int .i64 0, .int .i64 0] (.t 6) (.t 6)⟩,
  ⟨(some 3), none, .mov (.t 7)⟩]) (.seq (.seq (.reg [⟨(some 4), none, .mov (.c (.int .i64 0))⟩]) (.block 0 (.loop (.seq (.seq (.reg [⟨(some 8), none, .mov (.t 4)⟩,
  ⟨(some 9), none, .mov (.t 0)⟩,
  ⟨(some 10), none, .len false (.t 9)⟩,
  ⟨(some 11), none, .bin .lss (.num) (.t 8) (.t 10)⟩]) (.cond (.t 11) (.skip) (.exit 0))) (.seq (.block 1 (.reg [⟨(some 14), none, .mov (.t 3)⟩,
  ⟨(some 15), none, .mov (.t 4)⟩,
  ⟨(some 16), none, .mov (.t 0)⟩,
  ⟨(some 17), none, .mov (.t 4)⟩,
  ⟨(some 18), none, .idxs 2 (.t 16) (.t 17)⟩,
  ⟨(some 19), none, .load 2 true (.t 18)⟩,
  ⟨(some 20), none, .call (.c (.fn Fn.laws_toQuestion [] [])) [.t 19]⟩,
  ⟨(some 21), none, .idxs 2 (.t 14) (.t 15)⟩,
  ⟨none, none, .store 2 (.t 21) (.t 20)⟩])) (.reg [⟨(some 12), none, .mov (.t 4)⟩,
  ⟨(some 13), none, .bin .add (.num) (.t 12) (.c (.int .i64 1))⟩,
  ⟨(some 4), none, .mov (.t 13)⟩])))))) (.seq (.reg [⟨(some 22), none, .mov (.t 3)⟩,
  ⟨(some 2), none, .mov (.t 22)⟩]) (.ret))))
def laws_toQuestionS_r : List RS := [.t 2]
def laws_toQuestionS_s0 (t0 t3 t4 : AV) (loc : List (List AV)) (h : AH) : St := ⟨[t0, .any, .any, t3, t4, .any, .any, .any, .any, .any, .any, .any, .any, .any, .any, .any, .any, .any, .any, .any, .any, .any, .any], loc, h⟩
theorem laws_toQuestionS_e {a0 : AV} {h : AH} {K : AV → AH → Prop} (hw : TC Try.prog Θ Γ laws_toQuestionS_c (retQ laws_toQuestionS_r K) ⟨[a0, u, u, u, u, u, u, u, u, u, u, u, u, u, u, u, u, u, u, u, u, u, u], [], h⟩) : T Try.prog Γ Fn.laws_toQuestionS [a0] h K :=
  T_of_body tabOK Try.func118 (code := bodyOf Try.f118) (by kernel_rfl) (by kernel_rfl) (by kernel_rfl) (by kernel_rfl) hw
def laws_eqExportS_d0_os : List O := [⟨(some 17), none, .mov (.t 0)⟩,
  ⟨(some 18), none, .mov (.t 5)⟩,
  ⟨(some 19), none, .idxs 3 (.t 17) (.t 18)⟩,
  ⟨(some 20), none, .load 3 true (.t 19)⟩,
  ⟨(some 21), none, .mov (.t 1)⟩,
  ⟨(some 22), none, .mov (.t 5)⟩,
  ⟨(some 23), none, .idxs 3 (.t 21) (.t 22)⟩,
  ⟨(some 24), none, .load 3 true (.t 23)⟩,
  ⟨(some 25), none, .call (.c (.fn Fn.laws_eqExport [] [])) [.t 20, .t 24]⟩,
  ⟨(some 26), none, .un .not (.t 25)⟩]
def laws_eqExportS_d0_af : List (List Nat) := [[], [], [0, 1], [2], [], [], [4, 5], [6], [3, 7], [8]]
theorem laws_eqExportS_d0_q (gl : Gl) (Q : AE → St → Prop) (s : St) : aw Try.prog Θ Γ gl (.regD laws_eqExportS_d0_os laws_eqExportS_d0_af) Q s = awpT Try.prog Γ gl [⟨(some 17), none, .mov (.t 0)⟩,
  ⟨(some 18), none, .mov (.t 5)⟩,
  ⟨(some 19), none, .idxs 3 (.t 17) (.t 18)⟩,
  ⟨(some 20), none, .load 3 true (.t 19)⟩,
  ⟨(some 21), none, .mov (.t 1)⟩,
  ⟨(some 22), none, .mov (.t 5)⟩,
  ⟨(some 23), none, .idxs 3 (.t 21) (.t 22)⟩,
  ⟨(some 24), none, .load 3 true (.t 23)⟩,
  ⟨(some 25), none, .call (.c (.fn Fn.laws_eqExport [] [])) [.t 20, .t 24]⟩,
  ⟨(some 26), none, .un .not (.t 25)⟩] (Q .normal) 10 (.q 0 (.q 1 (.q 2 (.q 3 (.q 4 (.q 5 (.q 6 (.q 7 (.q 8 (.q 9 (.done))))))))))) s := a_dd rfl (by kernel_rfl) gl Q s
def laws_eqExportS_c : C := .seq (.reg [⟨(some 4), none, .mov (.c (.bool false))⟩]) (.seq (.seq (.reg [⟨(some 6), none, .mov (.t 0)⟩,
  ⟨(some 7), none, .len false (.t 6)⟩,
  ⟨(some 8), none, .mov (.t 1)⟩,
  ⟨(some 9), none, .len false (.t 8)⟩,
  ⟨(some 10), none, .bin .neq (.num) (.t 7) (.t 9)⟩]) (.cond (.t 10) (.seq (.reg [⟨(some 4), none, .mov (.c (.bool false))⟩]) (.ret)) (.skip))) (.seq (.seq (.reg [⟨(some 5), none, .mov (.c (.int .i64 0))⟩]) (.block 0 (.loop (.seq (.seq (.reg [⟨(some 11), none, .mov (.t 5)⟩,
  ⟨(some 12), none, .mov (.t 0)⟩,
  ⟨(some 13), none, .len false (.t 12)⟩,
  ⟨(some 14), none, .bin .lss (.num) (.t 11) (.t 13)⟩]) (.cond (.t 14) (.skip) (.exit 0))) (.seq (.block 1 (.seq (.regD laws_eqExportS_d0_os laws_eqExportS_d0_af) (.cond (.t 26) (.seq (.reg [⟨(some 4), none, .mov (.c (.bool false))⟩]) (.ret)) (.skip)))) (.reg [⟨(some 15), none, .mov (.t 5)⟩,
  ⟨(some 16), none, .bin .add (.num) (.t 15) (.c (.int .i64 1))⟩,
  ⟨(some 5), none, .mov (.t 16)⟩])))))) (.seq (.reg [⟨(some 4), none, .mov (.c (.bool true))⟩]) (.ret))))
def laws_eqExportS_r : List RS := [.t 4]
def laws_eqExportS_s0 (t0 t1 t5 : AV) (loc : List (List AV)) (h : AH) : St := ⟨[t0, t1, .any, .any, .any, t5, .any, .any, .any, .any, .any, .any, .any, .any, .any, .any, .any, .any, .any, .any, .any, .any, .any, .any, .any, .any, .any], loc, h⟩
theorem laws_eqExportS_e {a0 a1 : AV} {h : AH} {K : AV → AH → Prop} (hw : TC Try.prog Θ Γ laws_eqExportS_c (retQ laws_eqExportS_r K) ⟨[a0, a1, u, u, u, u, u, u, u, u, u, u, u, u, u, u, u, u, u, u, u, u, u, u, u, u, u], [], h⟩) : T Try.prog Γ Fn.laws_eqExportS [a0, a1] h K :=
  T_of_body tabOK Try.func120 (code := bodyOf Try.f120) (by kernel_rfl) (by kernel_rfl) (by kernel_rfl) (by kernel_rfl) hw
def laws_eqQuestionS_d0_os : List O := [⟨(some 17), none, .mov (.t 0)⟩,
  ⟨(some 18), none, .mov (.t 5)⟩,
  ⟨(some 19), none, .idxs 2 (.t 17) (.t 18)⟩,
  ⟨(some 20), none, .load 2 true (.t 19)⟩,
  ⟨(some 21), none, .mov (.t 1)⟩,
  ⟨(some 22), none, .mov (.t 5)⟩,
  ⟨(some 23), none, .idxs 2 (.t 21) (.t 22)⟩,
  ⟨(some 24), none, .load 2 true (.t 23)⟩,
  ⟨(some 25), none, .call (.c (.fn Fn.laws_eqQuestion [] [])) [.t 20, .t 24]⟩,
  ⟨(some 26), none, .un .not (.t 25)⟩]
def laws_eqQuestionS_d0_af : List (List Nat) := [[], [], [0, 1], [2], [], [], [4, 5], [6], [3, 7], [8]]
theorem laws_eqQuestionS_d0_q (gl : Gl) (Q : AE → St → Prop) (s : St) : aw Try.prog Θ Γ gl (.regD laws_eqQuestionS_d0_os laws_eqQuestionS_d0_af) Q s = awpT Try.prog Γ gl [⟨(some 17), none, .mov (.t 0)⟩,
  ⟨(some 18), none, .mov (.t 5)⟩,
  ⟨(some 19), none, .idxs 2 (.t 17) (.t 18)⟩,
  ⟨(some 20), none, .load 2 true (.t 19)⟩,
  ⟨(some 21), none, .mov (.t 1)⟩,
  ⟨(some 22), none, .mov (.t 5)⟩,
  ⟨(some 23), none, .idxs 2 (.t 21) (.t 22)⟩,
  ⟨(some 24), none, .load 2 true (.t 23)⟩,
  ⟨(some 25), none, .call (.c (.fn Fn.laws_eqQuestion [] [])) [.t 20, .t 24]⟩,
  ⟨(some 26), none, .un .not (.t 25)⟩] (Q .normal) 10 (.q 0 (.q 1 (.q 2 (.q 3 (.q 4 (.q 5 (.q 6 (.q 7 (.q 8 (.q 9 (.done))))))))))) s := a_dd rfl (by kernel_rfl) gl Q s
def laws_eqQuestionS_c : C := .seq (.reg [⟨(some 4), none, .mov (.c (.bool false))⟩]) (.seq (.seq (.reg [⟨(some 6), none, .mov (.t 0)⟩,
  ⟨(some 7), none, .len false (.t 6)⟩,
  ⟨(some 8), none, .mov (.t 1)⟩,
  ⟨(some 9), none, .len false (.t 8)⟩,
  ⟨(some 10), none, .bin .neq (.num) (.t 7) (.t 9)⟩]) (.cond (.t 10) (.seq (.reg [⟨(some 4), none, .mov (.c (.bool false))⟩]) (.ret)) (.skip))) (.seq (.seq (.reg [⟨(some 5), none, .mov (.c (.int .i64 0))⟩]) (.block 0 (.loop (.seq (.seq (.reg [⟨(some 11), none, .mov (.t 5)⟩,
  ⟨(some 12), none, .mov (.t 0)⟩,
  ⟨(some 13), none, .len false (.t 12)⟩,
  ⟨(some 14), none, .bin .lss (.num) (.t 11) (.t 13)⟩]) (.cond (.t 14) (.skip) (.exit 0))) (.seq (.block 1 (.seq (.regD laws_eqQuestionS_d0_os laws_eqQuestionS_d0_af) (.cond (.t 26) (.seq (.reg [⟨(some 4), none, .mov (.c (.bool false))⟩]) (.ret)) (.skip)))) (.reg [⟨(some 15), none, .mov (.t 5)⟩,
  ⟨(some 16), none, .bin .add (.num) (.t 15) (.c (.int .i64 1))⟩,
  ⟨(some 5), none, .mov (.t 16)⟩])))))) (.seq (.reg [⟨(some 4), none, .mov (.c (.bool true))⟩]) (.ret))))
def laws_eqQuestionS_r : List RS := [.t 4]
def laws_eqQuestionS_s0 (t0 t1 t5 : AV) (loc : List (List AV)) (h : AH) : St := ⟨[t0, t1, .any, .any, .any, t5, .any, .any, .any, .any, .any, .any, .any, .any, .any, .any, .any, .any, .any, .any, .any, .any, .any, .any, .any, .any, .any], loc, h⟩
theorem laws_eqQuestionS_e {a0 a1 : AV} {h : AH} {K : AV → AH → Prop} (hw : TC Try.prog Θ Γ laws_eqQuestionS_c (retQ laws_eqQuestionS_r K) ⟨[a0, a1, u, u, u, u, u, u, u, u, u, u, u, u, u, u, u, u, u, u, u, u, u, u, u, u, u], [], h⟩) : T Try.prog Γ Fn.laws_eqQuestionS [a0, a1] h K :=
  T_of_body tabOK Try.func121 (code := bodyOf Try.f121) (by kernel_rfl) (by kernel_rfl) (by kernel_rfl) (by kernel_rfl) hw
def slices_IndexFunc_iimpl_Gift_impl_Gift_c : C := .seq (.reg [⟨(some 4), none, .mov (.c (.int .i64 0))⟩]) (.seq (.seq (.reg [⟨(some 6), none, .mov (.t 0)⟩,
  ⟨(some 7), none, .len false (.t 6)⟩,
  ⟨(some 8), none, .mov (.c (.int .i64 0))⟩]) (.block 0 (.loop (.seq (.reg [⟨(some 9), none, .bin .lss (.num) (.t 8) (.t 7)⟩]) (.seq (.cond (.t 9) (.skip) (.exit 0)) (.seq (.block 1 (.seq (.reg [⟨(some 10), none, .mov (.t 8)⟩,
  ⟨(some 5), none, .mov (.t 10)⟩]) (.seq (.reg [⟨(some 11), none, .mov (.t 1)⟩,
  ⟨(some 12), none, .mov (.t 0)⟩,
  ⟨(some 13), none, .mov (.t 5)⟩,
  ⟨(some 14), none, .idxs 4 (.t 12) (.t 13)⟩,
  ⟨(some 15), none, .load 4 true (.t 14)⟩,
  ⟨(some 16), none, .call (.t 11) [.t 15]⟩]) (.cond (.t 16) (.seq (.reg [⟨(some 17), none, .mov (.t 5)⟩,
  ⟨(some 4), none, .mov (.t 17)⟩]) (.ret)) (.skip))))) (.reg [⟨(some 18), none, .bin .add (.num) (.t 8) (.c (.int .i64 1))⟩,
  ⟨(some 8), none, .mov (.t 18)⟩]))))))) (.seq (.reg [⟨(some 4), none, .mov (.c (.int .i64 (-1)))⟩]) (.ret)))
def slices_IndexFunc_iimpl_Gift_impl_Gift_r : List RS := [.t 4]
def slices_IndexFunc_iimpl_Gift_impl_Gift_s0 (t0 t1 t7 t8 : AV) (loc : List (List AV)) (h : AH) : St := ⟨[t0, t1, .any, .any, .any, .any, .any, t7, t8, .any, .any, .any, .any, .any, .any, .any, .any, .any, .any], loc, h⟩
theorem slices_IndexFunc_iimpl_Gift_impl_Gift_e {a0 a1 : AV} {h : AH} {K : AV → AH → Prop} (hw : TC Try.prog Θ Γ slices_IndexFunc_iimpl_Gift_impl_Gift_c (retQ slices_IndexFunc_iimpl_Gift_impl_Gift_r K) ⟨[a0, a1, u, u, u, u, u, u, u, u, u, u, u, u, u, u, u, u, u], [], h⟩) : T Try.prog Γ Fn.slices_IndexFunc_iimpl_Gift_impl_Gift [a0, a1] h K :=
  T_of_body tabOK Try.func131 (code := bodyOf Try.f131) (by kernel_rfl) (by kernel_rfl) (by kernel_rfl) (by kernel_rfl) hw
def laws_toExport_c : C := .seq (.reg [⟨(some 1), none, .box (.t 0)⟩,
  ⟨(some 2), none, .alloc [.int .i64 0, .int .i64 0, .int .i64 0]⟩]) (.seq (.reg [⟨(some 3), none, .alloc [.int .i64 0, .int .i64 0, .int .i64 0]⟩]) (.seq (.reg [⟨(some 4), none, .fld 0 (.t 1)⟩,
  ⟨(some 5), none, .load 1 false (.t 4)⟩,
  ⟨(some 6), none, .fld 0 (.t 3)⟩,
  ⟨none, none, .store 1 (.t 6) (.t 5)⟩]) (.seq (.reg [⟨(some 7), none, .fld 1 (.t 1)⟩,
  ⟨(some 8), none, .load 1 false (.t 7)⟩,
  ⟨(some 9), none, .fld 1 (.t 3)⟩,
  ⟨none, none, .store 1 (.t 9) (.t 8)⟩]) (.seq (.reg [⟨(some 10), none, .fld 2 (.t 1)⟩,
  ⟨(some 11), none, .load 1 false (.t 10)⟩,
  ⟨(some 12), none, .fld 2 (.t 3)⟩,
  ⟨none, none, .store 1 (.t 12) (.t 11)⟩]) (.seq (.reg [⟨(some 13), none, .load 3 true (.t 3)⟩,
  ⟨none, none, .store 3 (.t 2) (.t 13)⟩]) (.ret))))))
def laws_toExport_r : List RS := [.cell 2 3 true]
theorem laws_toExport_e {a0 : AV} {h : AH} {K : AV → AH → Prop} (hw : TC Try.prog Θ Γ laws_toExport_c (retQ laws_toExport_r K) ⟨[a0, u, u, u, u, u, u, u, u, u, u, u, u, u], [], h⟩) : T Try.prog Γ Fn.laws_toExport [a0] h K :=
  T_of_body tabOK Try.func136 (code := bodyOf Try.f136) (by kernel_rfl) (by kernel_rfl) (by kernel_rfl) (by kernel_rfl) hw
def laws_toQuestion_c : C := .seq (.reg [⟨(some 1), none, .box (.t 0)⟩,
  ⟨(some 2), none, .alloc [.int .i64 0, .int .i64 0]⟩]) (.seq (.reg [⟨(some 3), none, .alloc [.int .i64 0, .int .i64 0]⟩]) (.seq (.reg [⟨(some 4), none, .fld 0 (.t 1)⟩,
  ⟨(some 5), none, .load 1 false (.t 4)⟩,
  ⟨(some 6), none, .fld 0 (.t 3)⟩,
  ⟨none, none, .store 1 (.t 6) (.t 5)⟩]) (.seq (.reg [⟨(some 7), none, .fld 1 (.t 1)⟩,
  ⟨(some 8), none, .load 1 false (.t 7)⟩,
  ⟨(some 9), none, .fld 1 (.t 3)⟩,
  ⟨none, none, .store 1 (.t 9) (.t 8)⟩]) (.seq (.reg [⟨(some 10), none, .load 2 true (.t 3)⟩,
  ⟨none, none, .store 2 (.t 2) (.t 10)⟩]) (.ret)))))
def laws_toQuestion_r : List RS := [.cell 2 2 true]
theorem laws_toQuestion_e {a0 : AV} {h : AH} {K : AV → AH → Prop} (hw : TC Try.prog Θ Γ laws_toQuestion_c (retQ laws_toQuestion_r K) ⟨[a0, u, u, u, u, u, u, u, u, u, u], [], h⟩) : T Try.prog Γ Fn.laws_toQuestion [a0] h K :=
  T_of_body tabOK Try.func137 (code := bodyOf Try.f137) (by kernel_rfl) (by kernel_rfl) (by kernel_rfl) (by kernel_rfl) hw
def laws_eqExport_c : C := .seq (.reg [⟨(some 2), none, .box (.t 0)⟩,
  ⟨(some 3), none, .box (.t 1)⟩,
  ⟨(some 4), none, .mov (.c (.bool false))⟩]) (.seq (.seq (.reg [⟨(some 5), none, .fld 0 (.t 2)⟩,
  ⟨(some 6), none, .load 1 false (.t 5)⟩,
  ⟨(some 7), none, .fld 0 (.t 3)⟩,
  ⟨(some 8), none, .load 1 false (.t 7)⟩,
  ⟨(some 9), none, .bin .neq (.num) (.t 6) (.t 8)⟩]) (.cond (.t 9) (.seq (.reg [⟨(some 4), none, .mov (.c (.bool false))⟩]) (.ret)) (.skip))) (.seq (.seq (.reg [⟨(some 10), none, .fld 1 (.t 2)⟩,
  ⟨(some 11), none, .load 1 false (.t 10)⟩,
  ⟨(some 12), none, .fld 1 (.t 3)⟩,
  ⟨(some 13), none, .load 1 false (.t 12)⟩,
  ⟨(some 14), none, .bin .neq (.num) (.t 11) (.t 13)⟩]) (.cond (.t 14) (.seq (.reg [⟨(some 4), none, .mov (.c (.bool false))⟩]) (.ret)) (.skip))) (.seq (.seq (.reg [⟨(some 15), none, .fld 2 (.t 2)⟩,
  ⟨(some 16), none, .load 1 false (.t 15)⟩,
  ⟨(some 17), none, .fld 2 (.t 3)⟩,
  ⟨(some 18), none, .load 1 false (.t 17)⟩,
  ⟨(some 19), none, .bin .neq (.num) (.t 16) (.t 18)⟩]) (.cond (.t 19) (.seq (.reg [⟨(some 4), none, .mov (.c (.bool false))⟩]) (.ret)) (.skip))) (.seq (.reg [⟨(some 4), none, .mov (.c (.bool true))⟩]) (.ret)))))
def laws_eqExport_r : List RS := [.t 4]
theorem laws_eqExport_e {a0 a1 : AV} {h : AH} {K : AV → AH → Prop} (hw : TC Try.prog Θ Γ laws_eqExport_c (retQ laws_eqExport_r K) ⟨[a0, a1, u, u, u, u, u, u, u, u, u, u, u, u, u, u, u, u, u, u], [], h⟩) : T Try.prog Γ Fn.laws_eqExport [a0, a1] h K :=
  T_of_body tabOK Try.func140 (code := bodyOf Try.f140) (by kernel_rfl) (by kernel_rfl) (by kernel_rfl) (by kernel_rfl) hw
def laws_eqQuestion_c : C := .seq (.reg [⟨(some 2), none, .box (.t 0)⟩,
  ⟨(some 3), none, .box (.t 1)⟩,
  ⟨(some 4), none, .mov (.c (.bool false))⟩]) (.seq (.seq (.reg [⟨(some 5), none, .fld 0 (.t 2)⟩,
  ⟨(some 6), none, .load 1 false (.t 5)⟩,
  ⟨(some 7), none, .fld 0 (.t 3)⟩,
  ⟨(some 8), none, .load 1 false (.t 7)⟩,
  ⟨(some 9), none, .bin .neq (.num) (.t 6) (.t 8)⟩]) (.cond (.t 9) (.seq (.reg [⟨(some 4), none, .mov (.c (.bool false))⟩]) (.ret)) (.skip))) (.seq (.seq (.reg [⟨(some 10), none, .fld 1 (.t 2)⟩,
  ⟨(some 11), none, .load 1 false (.t 10)⟩,
  ⟨(some 12), none, .fld 1 (.t 3)⟩,
  ⟨(some 13), none, .load 1 false (.t 12)⟩,
  ⟨(some 14), none, .bin .neq (.num) (.t 11) (.t 13)⟩]) (.cond (.t 14) (.seq (.reg [⟨(some 4), none, .mov (.c (.bool false))⟩]) (.ret)) (.skip))) (.seq (.reg [⟨(some 4), none, .mov (.c (.bool true))⟩]) (.ret))))
def laws_eqQuestion_r : List RS := [.t 4]
theorem laws_eqQuestion_e {a0 a1 : AV} {h : AH} {K : AV → AH → Prop} (hw : TC Try.prog Θ Γ laws_eqQuestion_c (retQ laws_eqQuestion_r K) ⟨[a0, a1, u, u, u, u, u, u, u, u, u, u, u, u, u], [], h⟩) : T Try.prog Γ Fn.laws_eqQuestion [a0, a1] h K :=
  T_of_body tabOK Try.func141 (code := bodyOf Try.f141) (by kernel_rfl) (by kernel_rfl) (by kernel_rfl) (by kernel_rfl) hw
end Go.Proofs.Ytjohoameeeaafaa
