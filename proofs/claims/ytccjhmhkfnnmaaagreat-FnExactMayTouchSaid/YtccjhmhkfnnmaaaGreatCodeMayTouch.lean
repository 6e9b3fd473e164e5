import Derived.Test.YtccjhmhkfnnmaaaGreatProg
import Derived.Test.YtccjhmhkfnnmaaaGreatAmLib
set_option linter.unusedVariables false
set_option linter.unusedSimpArgs false
namespace Go.Proofs.YtccjhmhkfnnmaaaGreat
open Go.AM
abbrev mV (d s : Nat) : O := ⟨some d, none, .mov (.t s)⟩
abbrev mF (d k s : Nat) : O := ⟨some d, none, .fld k (.t s)⟩
abbrev mL (d k s : Nat) : O := ⟨some d, none, .load k false (.t s)⟩
abbrev mG (d k s : Nat) : O := ⟨some d, none, .load k true (.t s)⟩
abbrev mX (d k s i : Nat) : O := ⟨some d, none, .idxs k (.t s) (.t i)⟩
abbrev mS (k s i : Nat) : O := ⟨none, none, .store k (.t s) (.t i)⟩
abbrev mC (d : Nat) (f : FuncId) (l : List X) : O := ⟨some d, none, .call (.c (.fn f [] [])) l⟩
abbrev mB (d : Nat) (o : Go.BinOp) (s i : Nat) : O := ⟨some d, none, .bin o .num (.t s) (.t i)⟩
abbrev mI (d : Nat) (o : Go.BinOp) (s : Nat) (k : Int) : O := ⟨some d, none, .bin o .num (.t s) (.c (.int .i64 k))⟩
abbrev mK (d : Nat) (k : Int) : O := ⟨some d, none, .mov (.c (.int .i64 k))⟩
abbrev mT (d : Nat) (k : Bool) : O := ⟨some d, none, .mov (.c (.bool k))⟩
abbrev mN (d s : Nat) : O := ⟨some d, none, .len false (.t s)⟩
abbrev mA (d s : Nat) : O := ⟨some d, none, .box (.t s)⟩
abbrev mU (d s : Nat) : O := ⟨some d, none, .un .not (.t s)⟩
namespace Fn
abbrev kan : FuncId := 5
abbrev kaa : FuncId := 14
abbrev kbC : FuncId := 25
abbrev kba : FuncId := 30
abbrev kbE : FuncId := 31
abbrev kbu : FuncId := 32
abbrev kae : FuncId := 33
abbrev kau : FuncId := 34
abbrev kaH : FuncId := 35
abbrev kaV : FuncId := 36
abbrev kaO : FuncId := 37
abbrev kaK : FuncId := 38
abbrev kai : FuncId := 69
abbrev kaj : FuncId := 71
abbrev kah : FuncId := 72
abbrev kbI : FuncId := 92
abbrev kaZ : FuncId := 93
abbrev ka8 : FuncId := 94
abbrev ka2 : FuncId := 95
abbrev ka5 : FuncId := 96
abbrev kbH : FuncId := 97
abbrev kbB : FuncId := 98
abbrev kbF : FuncId := 99
abbrev kbf : FuncId := 100
abbrev kbq : FuncId := 101
abbrev kbj : FuncId := 102
abbrev kbm : FuncId := 103
abbrev kab : FuncId := 104
abbrev kaf : FuncId := 105
abbrev kbz : FuncId := 106
abbrev kbx : FuncId := 107
abbrev kar : FuncId := 108
abbrev kaD : FuncId := 109
abbrev kaw : FuncId := 110
abbrev kaz : FuncId := 111
abbrev kaM : FuncId := 112
abbrev kaS : FuncId := 113
abbrev kaP : FuncId := 114
abbrev kaQ : FuncId := 115
abbrev kbG : FuncId := 132
abbrev kbA : FuncId := 133
abbrev kam : FuncId := 160
abbrev kak : FuncId := 161
abbrev kac : FuncId := 169
abbrev kaY : FuncId := 173
abbrev ka7 : FuncId := 174
abbrev ka1 : FuncId := 175
abbrev ka4 : FuncId := 176
abbrev kbD : FuncId := 177
abbrev kbe : FuncId := 178
abbrev kbp : FuncId := 179
abbrev kbi : FuncId := 180
abbrev kbl : FuncId := 181
abbrev kal : FuncId := 182
abbrev kag : FuncId := 183
abbrev kaq : FuncId := 186
abbrev kaC : FuncId := 187
abbrev kav : FuncId := 188
abbrev kay : FuncId := 189
abbrev kaU : FuncId := 190
abbrev kaL : FuncId := 191
abbrev kaT : FuncId := 192
abbrev kaN : FuncId := 193
abbrev kaR : FuncId := 194
abbrev kaW : FuncId := 195
abbrev kby : FuncId := 239
abbrev kad : FuncId := 240
abbrev ka9 : FuncId := 242
abbrev kaX : FuncId := 243
abbrev ka0 : FuncId := 244
abbrev ka6 : FuncId := 245
abbrev ka3 : FuncId := 246
abbrev kbt : FuncId := 247
abbrev kbs : FuncId := 248
abbrev kbd : FuncId := 249
abbrev kbr : FuncId := 250
abbrev kbh : FuncId := 251
abbrev kbo : FuncId := 252
abbrev kbk : FuncId := 253
abbrev kaG : FuncId := 265
abbrev kaF : FuncId := 266
abbrev kap : FuncId := 267
abbrev kaE : FuncId := 268
abbrev kat : FuncId := 269
abbrev kaB : FuncId := 270
abbrev kax : FuncId := 271
abbrev kbb : FuncId := 305
abbrev kbc : FuncId := 306
abbrev kbg : FuncId := 307
abbrev kbn : FuncId := 308
abbrev kbw : FuncId := 309
abbrev kbv : FuncId := 310
abbrev kao : FuncId := 317
abbrev kas : FuncId := 318
abbrev kaA : FuncId := 319
abbrev kaJ : FuncId := 320
abbrev kaI : FuncId := 321
end Fn
namespace Gn
end Gn
def tabL : List (Nat × TI) := [
  (3, ⟨.int .i64, 1, 8, [.int .i64 0], none⟩),
  (4, ⟨.bool, 1, 1, [.bool false], none⟩),
  (5, ⟨.int .u8, 1, 1, [.int .u8 0], none⟩),
  (9, ⟨.str, 1, 16, [.str ⟨#[]⟩], none⟩),
  (22, ⟨.slice 5, 1, 24, [.nils], none⟩),
  (24, ⟨.slice 44, 1, 24, [.nils], none⟩),
  (25, ⟨.slice 172, 1, 24, [.nils], none⟩),
  (26, ⟨.slice 64, 1, 24, [.nils], none⟩),
  (27, ⟨.slice 109, 1, 24, [.nils], none⟩),
  (29, ⟨.strct [(0, 3), (1, 24), (2, 25), (3, 26), (4, 27)], 5, 104, [.int .i64 0, .nils, .nils, .nils, .nils], none⟩),
  (30, ⟨.slice 38, 1, 24, [.nils], none⟩),
  (38, ⟨.strct [(0, 3), (1, 3)], 2, 16, [.int .i64 0,.int .i64 0], (some [.int .i64, .int .i64])⟩),
  (42, ⟨.slice 181, 1, 24, [.nils], none⟩),
  (44, ⟨.strct [(0, 3), (1, 3), (2, 30), (3, 3), (4, 38), (6, 25), (7, 42), (8, 3), (9, 3), (10, 3), (11, 3)], 12, 144, [.int .i64 0,.int .i64 0, .nils, .int .i64 0,.int .i64 0,.int .i64 0, .nils, .nils, .int .i64 0,.int .i64 0,.int .i64 0,.int .i64 0], none⟩),
  (45, ⟨.slice 47, 1, 24, [.nils], none⟩),
  (47, ⟨.strct [(0, 3), (1, 3), (2, 3), (3, 3)], 4, 32, [.int .i64 0,.int .i64 0,.int .i64 0,.int .i64 0], none⟩),
  (61, ⟨.slice 130, 1, 24, [.nils], none⟩),
  (62, ⟨.slice 187, 1, 24, [.nils], none⟩),
  (64, ⟨.strct [(0, 3), (1, 4), (2, 61), (3, 3), (4, 62), (5, 3), (6, 62)], 7, 104, [.int .i64 0, .bool false, .nils, .int .i64 0, .nils, .int .i64 0, .nils], none⟩),
  (68, ⟨.slice 201, 1, 24, [.nils], none⟩),
  (69, ⟨.slice 205, 1, 24, [.nils], none⟩),
  (70, ⟨.slice 210, 1, 24, [.nils], none⟩),
  (71, ⟨.slice 217, 1, 24, [.nils], none⟩),
  (73, ⟨.strct [(0, 3), (1, 68), (2, 69), (3, 70), (4, 71)], 5, 104, [.int .i64 0, .nils, .nils, .nils, .nils], none⟩),
  (75, ⟨.slice 3, 1, 24, [.nils], none⟩),
  (81, ⟨.slice 82, 1, 24, [.nils], none⟩),
  (82, ⟨.strct [(0, 3), (1, 3)], 2, 16, [.int .i64 0,.int .i64 0], (some [.int .i64, .int .i64])⟩),
  (84, ⟨.strct [(0, 3), (1, 3), (2, 3)], 3, 24, [.int .i64 0,.int .i64 0,.int .i64 0], (some [.int .i64, .int .i64, .int .i64])⟩),
  (86, ⟨.strct [(0, 3), (1, 3), (2, 3), (3, 3), (4, 9), (5, 81), (6, 82), (8, 3), (9, 84)], 12, 120, [.int .i64 0,.int .i64 0,.int .i64 0,.int .i64 0, .str ⟨#[]⟩, .nils, .int .i64 0,.int .i64 0,.int .i64 0,.int .i64 0,.int .i64 0,.int .i64 0], none⟩),
  (109, ⟨.strct [(0, 3), (1, 86)], 13, 128, [.int .i64 0,.int .i64 0,.int .i64 0,.int .i64 0,.int .i64 0, .str ⟨#[]⟩, .nils, .int .i64 0,.int .i64 0,.int .i64 0,.int .i64 0,.int .i64 0,.int .i64 0], none⟩),
  (112, ⟨.ptr 44, 1, 8, [.nilp], none⟩),
  (126, ⟨.ptr 64, 1, 8, [.nilp], none⟩),
  (130, ⟨.strct [(0, 3), (1, 3), (2, 3)], 3, 24, [.int .i64 0,.int .i64 0,.int .i64 0], (some [.int .i64, .int .i64, .int .i64])⟩),
  (137, ⟨.slice 4, 1, 24, [.nils], none⟩),
  (158, ⟨.strct [(0, 22), (1, 3), (2, 3)], 3, 40, [.nils, .int .i64 0,.int .i64 0], none⟩),
  (161, ⟨.slice 9, 1, 24, [.nils], none⟩),
  (172, ⟨.strct [(0, 3), (1, 9), (2, 30), (3, 3), (4, 84)], 7, 80, [.int .i64 0, .str ⟨#[]⟩, .nils, .int .i64 0,.int .i64 0,.int .i64 0,.int .i64 0], none⟩),
  (181, ⟨.strct [(0, 3), (1, 3)], 2, 16, [.int .i64 0,.int .i64 0], (some [.int .i64, .int .i64])⟩),
  (187, ⟨.strct [(0, 3), (1, 3)], 2, 16, [.int .i64 0,.int .i64 0], (some [.int .i64, .int .i64])⟩),
  (197, ⟨.slice 198, 1, 24, [.nils], none⟩),
  (198, ⟨.strct [(0, 3), (1, 3)], 2, 16, [.int .i64 0,.int .i64 0], none⟩),
  (199, ⟨.slice 316, 1, 24, [.nils], none⟩),
  (201, ⟨.strct [(0, 3), (1, 3), (2, 197), (3, 3), (4, 198), (6, 69), (7, 199), (8, 3), (9, 3), (10, 3), (11, 3)], 12, 144, [.int .i64 0,.int .i64 0, .nils, .int .i64 0,.int .i64 0,.int .i64 0, .nils, .nils, .int .i64 0,.int .i64 0,.int .i64 0,.int .i64 0], none⟩),
  (203, ⟨.strct [(0, 3), (1, 3), (2, 3)], 3, 24, [.int .i64 0,.int .i64 0,.int .i64 0], none⟩),
  (205, ⟨.strct [(0, 3), (1, 9), (2, 197), (3, 3), (4, 203)], 7, 80, [.int .i64 0, .str ⟨#[]⟩, .nils, .int .i64 0,.int .i64 0,.int .i64 0,.int .i64 0], none⟩),
  (207, ⟨.slice 318, 1, 24, [.nils], none⟩),
  (208, ⟨.slice 320, 1, 24, [.nils], none⟩),
  (210, ⟨.strct [(0, 3), (1, 4), (2, 207), (3, 3), (4, 208), (5, 3), (6, 208)], 7, 104, [.int .i64 0, .bool false, .nils, .int .i64 0, .nils, .int .i64 0, .nils], none⟩),
  (212, ⟨.slice 213, 1, 24, [.nils], none⟩),
  (213, ⟨.strct [(0, 3), (1, 3)], 2, 16, [.int .i64 0,.int .i64 0], none⟩),
  (215, ⟨.strct [(0, 3), (1, 3), (2, 3), (3, 3), (4, 9), (5, 212), (6, 213), (8, 3), (9, 203)], 12, 120, [.int .i64 0,.int .i64 0,.int .i64 0,.int .i64 0, .str ⟨#[]⟩, .nils, .int .i64 0,.int .i64 0,.int .i64 0,.int .i64 0,.int .i64 0,.int .i64 0], none⟩),
  (217, ⟨.strct [(0, 3), (1, 215)], 13, 128, [.int .i64 0,.int .i64 0,.int .i64 0,.int .i64 0,.int .i64 0, .str ⟨#[]⟩, .nils, .int .i64 0,.int .i64 0,.int .i64 0,.int .i64 0,.int .i64 0,.int .i64 0], none⟩),
  (227, ⟨.int .u64, 1, 8, [.int .u64 0], none⟩),
  (279, ⟨.int .i64, 1, 8, [.int .i64 0], none⟩),
  (288, ⟨.int .u32, 1, 4, [.int .u32 0], none⟩),
  (290, ⟨.int .u64, 1, 8, [.int .u64 0], none⟩),
  (316, ⟨.strct [(0, 3), (1, 3)], 2, 16, [.int .i64 0,.int .i64 0], none⟩),
  (318, ⟨.strct [(0, 3), (1, 3), (2, 3)], 3, 24, [.int .i64 0,.int .i64 0,.int .i64 0], none⟩),
  (320, ⟨.strct [(0, 3), (1, 3)], 2, 16, [.int .i64 0,.int .i64 0], none⟩),
  (323, ⟨.int .u64, 1, 8, [.int .u64 0], none⟩)]
def Θ : Tab := tabOf tabL
theorem tabOK : TabOK Tryz.prog Θ := tabOK_of (by kernel_rfl) (by kernel_rfl)
theorem mixed : Tryz.prog.follows .mixedOrders = true := by kernel_rfl
theorem TB {Γ : Glob} {f : FuncId} {fn : Func} {c : C} {rs : List RS} {args : List AV} {h : AH} {K : AV → AH → Prop} (hf : Tryz.prog.funcs[f]? = some fn) (code : Code)
    (hw : TC Tryz.prog Θ Γ c (retQ rs K) ⟨args ++ List.replicate (fn.ntmps - args.length) (.tup []), [], h⟩)
    (hb : fn.body = some code := by kernel_rfl) (hn : (fn.name == "runtime.NumGoroutine") = false := by kernel_rfl) (hc : trC Θ code = some c := by kernel_rfl) (hr : fn.results.toList.mapM (trR Θ) = some rs := by kernel_rfl) : T Tryz.prog Γ f args h K :=
  T_of_body tabOK hf hb hn hc hr hw
variable {Γ : Glob} {a0 a1 a2 a3 a4 a5 a6 a7 : AV} {h : AH} {K : AV → AH → Prop}
def kan_d0_os : List O := [mG 31 5 7,mG 32 5 2,mC 33 Fn.kbu [.t 32],mC 34 Fn.kaH [.t 31, .t 33],mU 35 34]
def kan_d0_af : List (List Nat) := [[], [], [1], [0, 2, 2], [3]]
theorem kan_d0_q (gl : Gl) (Q : AE → St → Prop) (s : St) : aw Tryz.prog Θ Γ gl (.regD kan_d0_os kan_d0_af) Q s = awpT Tryz.prog Γ gl [mG 31 5 7,mG 32 5 2,mC 33 Fn.kbu [.t 32],mC 34 Fn.kaH [.t 31, .t 33],mU 35 34] (Q .normal) 5 (.q 0 (.q 1 (.st 2 [7] (.q 3 (.q 4 (.done)))))) s := a_dd rfl (by kernel_rfl) gl Q s
def kan_c : C := .seq (.reg [mA 2 0,mT 4 false]) (.seq (.reg [mK 5 1048576]) (.seq (.reg [mG 13 5 2,mV 14 5,mC 15 Fn.kba [.t 13, .t 14],mV 5 15]) (.seq (.seq (.reg [mV 16 5,mI 17 .lss 16 0]) (.cond (.t 17) (.seq (.reg [mT 4 true]) .ret) .skip)) (.seq (.reg [mG 18 5 2,mC 19 Fn.kbu [.t 18],mV 20 1,mC 21 Fn.kbE [.t 19, .t 20],mV 6 21]) (.seq (.reg [mG 22 5 2,mC 23 Fn.kbu [.t 22],⟨(some 7), none, .alloc [.int .i64 0, .nils, .nils, .nils, .nils]⟩,mS 5 7 23]) (.seq (.reg [mG 24 5 7,mV 25 1,mC 26 Fn.kae [.t 24, .t 25],mV 8 26]) (.seq (.seq (.reg [mV 27 8,mV 28 6,mC 29 Fn.kau [.t 27, .t 28],mU 30 29]) (.cond (.t 30) (.seq (.reg [mT 4 false]) .ret) .skip)) (.seq (.seq (.regD kan_d0_os kan_d0_af) (.cond (.t 35) (.seq (.reg [mT 4 false]) .ret) .skip)) (.seq (.reg [mK 9 1]) (.seq (.reg [mG 36 5 7,mV 37 9,mC 38 Fn.kaV [.t 36, .t 37],mV 9 38]) (.seq (.seq (.reg [mV 39 9,mI 40 .lss 39 0,mV 41 40,⟨(some 42), (some (2, false)), .mov (.t 8)⟩,⟨(some 43), (some (2, false)), .mov (.t 6)⟩,⟨(some 44), (some (2, false)), .call (.c (.fn Fn.kau [] [])) [.t 42, .t 43]⟩,⟨(some 45), (some (2, false)), .un .not (.t 44)⟩,⟨(some 46), none, .pick (.t 41) (.c (.bool true)) (.t 45)⟩]) (.cond (.t 46) (.seq (.reg [mT 4 false]) .ret) .skip)) (.seq (.reg [mK 10 1]) (.seq (.reg [mV 47 8,mV 48 10,mC 49 Fn.kaO [.t 47, .t 48],mV 10 49]) (.seq (.reg [mK 11 1]) (.seq (.reg [mV 50 8,mV 51 11,mC 52 Fn.kaK [.t 50, .t 51],mV 11 52]) (.seq (.seq (.reg [mV 53 11,mI 54 .lss 53 0]) (.cond (.t 54) (.seq (.reg [mT 4 false]) .ret) .skip)) (.seq (.seq (.reg [mV 55 11,mV 56 10,mB 57 .neq 55 56]) (.cond (.t 57) (.seq (.reg [mT 4 false]) .ret) .skip)) (.seq (.reg [mG 58 5 2,mC 59 Fn.kbu [.t 58],mV 60 1,mC 61 Fn.kae [.t 59, .t 60],mV 12 61]) (.seq (.seq (.reg [mV 62 12,mV 63 6,mC 64 Fn.kau [.t 62, .t 63],mU 65 64]) (.cond (.t 65) (.seq (.reg [mT 4 false]) .ret) .skip)) (.seq (.reg [mK 11 1]) (.seq (.reg [mV 66 8,mV 67 11,mC 68 Fn.kaK [.t 66, .t 67],mV 11 68]) (.seq (.seq (.reg [mV 69 11,mI 70 .lss 69 0]) (.cond (.t 70) (.seq (.reg [mT 4 false]) .ret) .skip)) (.seq (.seq (.reg [mV 71 11,mV 72 10,mB 73 .neq 71 72]) (.cond (.t 73) (.seq (.reg [mT 4 false]) .ret) .skip)) (.seq (.reg [mT 4 true]) .ret))))))))))))))))))))))))
def kan_r : List RS := [.t 4]
theorem kan_e (hw : TC Tryz.prog Θ Γ kan_c (retQ kan_r K) ⟨[a0, a1, u,u,u,u,u,u,u,u,u,u,u,u,u,u,u,u,u,u,u,u,u,u,u,u,u,u,u,u,u,u,u,u,u,u,u,u,u,u,u,u,u,u,u,u,u,u,u,u,u,u,u,u,u,u,u,u,u,u,u,u,u,u,u,u,u,u,u,u,u,u,u,u], [], h⟩) : T Tryz.prog Γ Fn.kan [a0, a1] h K :=
  TB Tryz.func5 (bodyOf Tryz.f5) hw
def kaa_c : C := .seq (.reg [⟨(some 0), none, .alloc [.int .i64 0,.int .i64 0]⟩]) (.seq (.reg [⟨(some 1), none, .build [.int .i64 0,.int .i64 0] [(0, 1, .c (.int .i64 2))]⟩,mS 2 0 1]) .ret)
def kaa_r : List RS := [.cell 0 2 true]
theorem kaa_e (hw : TC Tryz.prog Θ Γ kaa_c (retQ kaa_r K) ⟨[u,u], [], h⟩) : T Tryz.prog Γ Fn.kaa [] h K :=
  TB Tryz.func14 (bodyOf Tryz.f14) hw
def kbC_c : C := .seq (.reg [mA 2 0,mK 4 0]) (.seq (.seq (.reg [mK 5 0]) (.block 0 (.loop (.seq (.seq (.reg [mV 6 5,mF 7 3 2,mL 8 1 7,mN 9 8,mB 10 .lss 6 9]) (.cond (.t 10) .skip (.exit 0))) (.seq (.block 1 (.seq (.reg [mF 13 3 2,mL 14 1 13,mV 15 5,mX 16 7 14 15,mF 17 0 16,mL 18 1 17,mV 19 1,mB 20 .eql 18 19]) (.cond (.t 20) (.seq (.reg [mV 21 5,mV 4 21]) .ret) .skip))) (.reg [mV 11 5,mI 12 .add 11 1,mV 5 12])))))) (.seq (.reg [mK 4 (-1)]) .ret))
def kbC_r : List RS := [.t 4]
def kbC_s0 (t1 t2 t5 : AV) (loc : List (List AV)) (h : AH) : St := ⟨[.any, t1, t2, .any,.any, t5, .any,.any,.any,.any,.any,.any,.any,.any,.any,.any,.any,.any,.any,.any,.any,.any], loc, h⟩
theorem kbC_e (hw : TC Tryz.prog Θ Γ kbC_c (retQ kbC_r K) ⟨[a0, a1, u,u,u,u,u,u,u,u,u,u,u,u,u,u,u,u,u,u,u,u], [], h⟩) : T Tryz.prog Γ Fn.kbC [a0, a1] h K :=
  TB Tryz.func25 (bodyOf Tryz.f25) hw
def kba_c : C := .seq (.reg [mA 2 0,mK 4 0]) (.seq (.reg [mF 5 1 2,mL 6 1 5,mV 7 1,mC 8 Fn.kaZ [.t 6, .t 7],mV 1 8]) (.seq (.seq (.reg [mV 9 1,mI 10 .lss 9 0]) (.cond (.t 10) (.seq (.reg [mK 4 (-1)]) .ret) .skip)) (.seq (.reg [mF 11 2 2,mL 12 1 11,mV 13 1,mC 14 Fn.ka8 [.t 12, .t 13],mV 1 14]) (.seq (.seq (.reg [mV 15 1,mI 16 .lss 15 0]) (.cond (.t 16) (.seq (.reg [mK 4 (-1)]) .ret) .skip)) (.seq (.reg [mF 17 3 2,mL 18 1 17,mV 19 1,mC 20 Fn.ka2 [.t 18, .t 19],mV 1 20]) (.seq (.seq (.reg [mV 21 1,mI 22 .lss 21 0]) (.cond (.t 22) (.seq (.reg [mK 4 (-1)]) .ret) .skip)) (.seq (.reg [mF 23 4 2,mL 24 1 23,mV 25 1,mC 26 Fn.ka5 [.t 24, .t 25],mV 1 26]) (.seq (.seq (.reg [mV 27 1,mI 28 .lss 27 0]) (.cond (.t 28) (.seq (.reg [mK 4 (-1)]) .ret) .skip)) (.seq (.reg [mV 29 1,mV 4 29]) .ret)))))))))
def kba_r : List RS := [.t 4]
theorem kba_e (hw : TC Tryz.prog Θ Γ kba_c (retQ kba_r K) ⟨[a0, a1, u,u,u,u,u,u,u,u,u,u,u,u,u,u,u,u,u,u,u,u,u,u,u,u,u,u,u,u], [], h⟩) : T Tryz.prog Γ Fn.kba [a0, a1] h K :=
  TB Tryz.func30 (bodyOf Tryz.f30) hw
def kbE_c : C := .seq (.reg [mA 2 0,⟨(some 4), none, .mov (.c (.nils))⟩]) (.seq (.reg [mF 8 1 2,mL 9 1 8,mN 10 9,⟨(some 11), none, .mks 1 1 [.bool false] (.t 10) (.t 10)⟩,mV 5 11]) (.seq (.reg [mV 12 5,mG 13 5 2,mV 14 1,mC 15 Fn.kbB [.t 13, .t 14],mC 16 Fn.kbH [.t 12, .t 15]]) (.seq (.reg [mV 17 5,mG 18 5 2,mV 19 1,mC 20 Fn.kbF [.t 18, .t 19],mC 21 Fn.kbH [.t 17, .t 20]]) (.seq (.reg [⟨(some 22), none, .bsl 1 0 [.int .i64 0] []⟩,mV 6 22]) (.seq (.seq (.reg [mK 7 0]) (.block 0 (.loop (.seq (.seq (.reg [mV 23 7,mV 24 5,mN 25 24,mB 26 .lss 23 25]) (.cond (.t 26) .skip (.exit 0))) (.seq (.block 1 (.seq (.reg [mV 29 5,mV 30 7,mX 31 1 29 30,mL 32 1 31]) (.cond (.t 32) (.reg [mV 33 6,mV 34 7,⟨(some 35), none, .bsl 1 1 [.int .i64 0] [(0, .t 34)]⟩,⟨(some 36), none, .app 1 8 [.int .i64 0] false (.t 33) (.t 35)⟩,mV 6 36]) .skip))) (.reg [mV 27 7,mI 28 .add 27 1,mV 7 28])))))) (.seq (.reg [mV 37 6,mV 4 37]) .ret))))))
def kbE_r : List RS := [.t 4]
def kbE_s0 (t5 t6 t7 : AV) (loc : List (List AV)) (h : AH) : St := ⟨[.any,.any,.any,.any,.any, t5, t6, t7, .any,.any,.any,.any,.any,.any,.any,.any,.any,.any,.any,.any,.any,.any,.any,.any,.any,.any,.any,.any,.any,.any,.any,.any,.any,.any,.any,.any,.any,.any], loc, h⟩
theorem kbE_e (hw : TC Tryz.prog Θ Γ kbE_c (retQ kbE_r K) ⟨[a0, a1, u,u,u,u,u,u,u,u,u,u,u,u,u,u,u,u,u,u,u,u,u,u,u,u,u,u,u,u,u,u,u,u,u,u,u,u], [], h⟩) : T Tryz.prog Γ Fn.kbE [a0, a1] h K :=
  TB Tryz.func31 (bodyOf Tryz.f31) hw
def kbu_c : C := .seq (.reg [mA 1 0,⟨(some 2), none, .alloc [.int .i64 0, .nils, .nils, .nils, .nils]⟩]) (.seq (.reg [⟨(some 3), none, .alloc [.int .i64 0, .nils, .nils, .nils, .nils]⟩]) (.seq (.reg [mF 4 0 1,mL 5 1 4,mF 6 0 3,mS 1 6 5]) (.seq (.reg [mF 7 1 1,mL 8 1 7,mC 9 Fn.kbf [.t 8],mF 10 1 3,mS 1 10 9]) (.seq (.reg [mF 11 2 1,mL 12 1 11,mC 13 Fn.kbq [.t 12],mF 14 2 3,mS 1 14 13]) (.seq (.reg [mF 15 3 1,mL 16 1 15,mC 17 Fn.kbj [.t 16],mF 18 3 3,mS 1 18 17]) (.seq (.reg [mF 19 4 1,mL 20 1 19,mC 21 Fn.kbm [.t 20],mF 22 4 3,mS 1 22 21]) (.seq (.reg [mG 23 5 3,mS 5 2 23]) .ret)))))))
def kbu_r : List RS := [.cell 2 5 true]
theorem kbu_e (hw : TC Tryz.prog Θ Γ kbu_c (retQ kbu_r K) ⟨[a0, u,u,u,u,u,u,u,u,u,u,u,u,u,u,u,u,u,u,u,u,u,u,u], [], h⟩) : T Tryz.prog Γ Fn.kbu [a0] h K :=
  TB Tryz.func32 (bodyOf Tryz.f32) hw
def kae_d0_os : List O := [mG 6 5 2,mV 7 1,mC 8 Fn.kab [.t 6, .t 7],mG 9 5 2,mV 10 1,mC 11 Fn.kaf [.t 9, .t 10],⟨(some 12), none, .app 1 8 [.int .i64 0] false (.t 8) (.t 11)⟩,mV 5 12]
def kae_d0_af : List (List Nat) := [[], [], [0, 1], [], [], [3, 4, 2], [2, 5, 5], [6, 6, 0, 1, 2, 3, 4, 5, 6]]
theorem kae_d0_q (gl : Gl) (Q : AE → St → Prop) (s : St) : aw Tryz.prog Θ Γ gl (.regD kae_d0_os kae_d0_af) Q s = awpT Tryz.prog Γ gl [mG 6 5 2,mV 7 1,mC 8 Fn.kab [.t 6, .t 7],mG 9 5 2,mV 10 1,mC 11 Fn.kaf [.t 9, .t 10],⟨(some 12), none, .app 1 8 [.int .i64 0] false (.t 8) (.t 11)⟩,mV 5 12] (Q .normal) 8 (.q 0 (.q 1 (.q 3 (.q 4 (.st 2 [2] (.q 5 (.q 6 (.q 7 (.done))))))))) s := a_dd rfl (by kernel_rfl) gl Q s
def kae_c : C := .seq (.reg [mA 2 0,⟨(some 4), none, .mov (.c (.nils))⟩]) (.seq (.regD kae_d0_os kae_d0_af) (.seq (.reg [mV 13 5,mC 14 Fn.kbz [.t 13]]) (.seq (.reg [mV 15 5,mC 16 Fn.kbx [.t 15],mV 4 16]) .ret)))
def kae_r : List RS := [.t 4]
theorem kae_e (hw : TC Tryz.prog Θ Γ kae_c (retQ kae_r K) ⟨[a0, a1, u,u,u,u,u,u,u,u,u,u,u,u,u,u,u], [], h⟩) : T Tryz.prog Γ Fn.kae [a0, a1] h K :=
  TB Tryz.func33 (bodyOf Tryz.f33) hw
def kau_d0_os : List O := [mV 17 0,mV 18 5,mX 19 1 17 18,mL 20 1 19,mV 21 1,mV 22 5,mX 23 1 21 22,mL 24 1 23,mB 25 .neq 20 24]
def kau_d0_af : List (List Nat) := [[], [], [0, 1], [2], [], [], [4, 5], [6], [3, 7]]
theorem kau_d0_q (gl : Gl) (Q : AE → St → Prop) (s : St) : aw Tryz.prog Θ Γ gl (.regD kau_d0_os kau_d0_af) Q s = awpOps Tryz.prog Γ gl [mV 17 0,mV 18 5,mX 19 1 17 18,mL 20 1 19,mV 21 1,mV 22 5,mX 23 1 21 22,mL 24 1 23,mB 25 .neq 20 24] [mV 17 0,mV 18 5,mX 19 1 17 18,mL 20 1 19,mV 21 1,mV 22 5,mX 23 1 21 22,mL 24 1 23,mB 25 .neq 20 24] (Q .normal) s := a_dq (by kernel_rfl) gl Q s
def kau_c : C := .seq (.reg [mT 4 false]) (.seq (.seq (.reg [mV 6 0,mN 7 6,mV 8 1,mN 9 8,mB 10 .neq 7 9]) (.cond (.t 10) (.seq (.reg [mT 4 false]) .ret) .skip)) (.seq (.seq (.reg [mK 5 0]) (.block 0 (.loop (.seq (.seq (.reg [mV 11 5,mV 12 0,mN 13 12,mB 14 .lss 11 13]) (.cond (.t 14) .skip (.exit 0))) (.seq (.block 1 (.seq (.regD kau_d0_os kau_d0_af) (.cond (.t 25) (.seq (.reg [mT 4 false]) .ret) .skip))) (.reg [mV 15 5,mI 16 .add 15 1,mV 5 16])))))) (.seq (.reg [mT 4 true]) .ret)))
def kau_r : List RS := [.t 4]
def kau_s0 (t0 t1 t5 : AV) (loc : List (List AV)) (h : AH) : St := ⟨[t0, t1, .any,.any,.any, t5, .any,.any,.any,.any,.any,.any,.any,.any,.any,.any,.any,.any,.any,.any,.any,.any,.any,.any,.any,.any], loc, h⟩
theorem kau_e (hw : TC Tryz.prog Θ Γ kau_c (retQ kau_r K) ⟨[a0, a1, u,u,u,u,u,u,u,u,u,u,u,u,u,u,u,u,u,u,u,u,u,u,u,u], [], h⟩) : T Tryz.prog Γ Fn.kau [a0, a1] h K :=
  TB Tryz.func34 (bodyOf Tryz.f34) hw
def kaH_c : C := .seq (.reg [mA 2 0,mA 3 1,mT 4 false]) (.seq (.seq (.reg [mF 5 0 2,mL 6 1 5,mF 7 0 3,mL 8 1 7,mB 9 .neq 6 8]) (.cond (.t 9) (.seq (.reg [mT 4 false]) .ret) .skip)) (.seq (.seq (.reg [mF 10 1 2,mL 11 1 10,mF 12 1 3,mL 13 1 12,mC 14 Fn.kar [.t 11, .t 13],mU 15 14]) (.cond (.t 15) (.seq (.reg [mT 4 false]) .ret) .skip)) (.seq (.seq (.reg [mF 16 2 2,mL 17 1 16,mF 18 2 3,mL 19 1 18,mC 20 Fn.kaD [.t 17, .t 19],mU 21 20]) (.cond (.t 21) (.seq (.reg [mT 4 false]) .ret) .skip)) (.seq (.seq (.reg [mF 22 3 2,mL 23 1 22,mF 24 3 3,mL 25 1 24,mC 26 Fn.kaw [.t 23, .t 25],mU 27 26]) (.cond (.t 27) (.seq (.reg [mT 4 false]) .ret) .skip)) (.seq (.seq (.reg [mF 28 4 2,mL 29 1 28,mF 30 4 3,mL 31 1 30,mC 32 Fn.kaz [.t 29, .t 31],mU 33 32]) (.cond (.t 33) (.seq (.reg [mT 4 false]) .ret) .skip)) (.seq (.reg [mT 4 true]) .ret))))))
def kaH_r : List RS := [.t 4]
theorem kaH_e (hw : TC Tryz.prog Θ Γ kaH_c (retQ kaH_r K) ⟨[a0, a1, u,u,u,u,u,u,u,u,u,u,u,u,u,u,u,u,u,u,u,u,u,u,u,u,u,u,u,u,u,u,u,u], [], h⟩) : T Tryz.prog Γ Fn.kaH [a0, a1] h K :=
  TB Tryz.func35 (bodyOf Tryz.f35) hw
def kaV_c : C := .seq (.reg [mA 2 0,mK 4 0]) (.seq (.reg [mF 5 1 2,mL 6 1 5,mV 7 1,mC 8 Fn.kaM [.t 6, .t 7],mV 1 8]) (.seq (.reg [mF 9 2 2,mL 10 1 9,mV 11 1,mC 12 Fn.kaS [.t 10, .t 11],mV 1 12]) (.seq (.reg [mF 13 3 2,mL 14 1 13,mV 15 1,mC 16 Fn.kaP [.t 14, .t 15],mV 1 16]) (.seq (.reg [mF 17 4 2,mL 18 1 17,mV 19 1,mC 20 Fn.kaQ [.t 18, .t 19],mV 1 20]) (.seq (.reg [mV 21 1,mV 4 21]) .ret)))))
def kaV_r : List RS := [.t 4]
theorem kaV_e (hw : TC Tryz.prog Θ Γ kaV_c (retQ kaV_r K) ⟨[a0, a1, u,u,u,u,u,u,u,u,u,u,u,u,u,u,u,u,u,u,u,u], [], h⟩) : T Tryz.prog Γ Fn.kaV [a0, a1] h K :=
  TB Tryz.func36 (bodyOf Tryz.f36) hw
def kaO_c : C := .seq (.reg [mK 4 0]) (.seq (.seq (.reg [mK 5 0]) (.block 0 (.loop (.seq (.seq (.reg [mV 6 5,mV 7 0,mN 8 7,mB 9 .lss 6 8]) (.cond (.t 9) .skip (.exit 0))) (.seq (.block 1 (.seq (.reg [mV 12 0,mV 13 5,mV 14 1,mX 15 1 12 13,mS 1 15 14]) (.reg [mV 16 1,mI 17 .add 16 1,mV 1 17]))) (.reg [mV 10 5,mI 11 .add 10 1,mV 5 11])))))) (.seq (.reg [mV 18 1,mV 4 18]) .ret))
def kaO_r : List RS := [.t 4]
def kaO_s0 (t0 t1 t5 : AV) (loc : List (List AV)) (h : AH) : St := ⟨[t0, t1, .any,.any,.any, t5, .any,.any,.any,.any,.any,.any,.any,.any,.any,.any,.any,.any,.any], loc, h⟩
theorem kaO_e (hw : TC Tryz.prog Θ Γ kaO_c (retQ kaO_r K) ⟨[a0, a1, u,u,u,u,u,u,u,u,u,u,u,u,u,u,u,u,u], [], h⟩) : T Tryz.prog Γ Fn.kaO [a0, a1] h K :=
  TB Tryz.func37 (bodyOf Tryz.f37) hw
def kaK_c : C := .seq (.reg [mK 4 0]) (.seq (.seq (.reg [mK 5 0]) (.block 0 (.loop (.seq (.seq (.reg [mV 6 5,mV 7 0,mN 8 7,mB 9 .lss 6 8]) (.cond (.t 9) .skip (.exit 0))) (.seq (.block 1 (.seq (.seq (.reg [mV 12 0,mV 13 5,mX 14 1 12 13,mL 15 1 14,mV 16 1,mB 17 .neq 15 16]) (.cond (.t 17) (.seq (.reg [mK 4 (-1)]) .ret) .skip)) (.reg [mV 18 1,mI 19 .add 18 1,mV 1 19]))) (.reg [mV 10 5,mI 11 .add 10 1,mV 5 11])))))) (.seq (.reg [mV 20 1,mV 4 20]) .ret))
def kaK_r : List RS := [.t 4]
def kaK_s0 (t0 t1 t5 : AV) (loc : List (List AV)) (h : AH) : St := ⟨[t0, t1, .any,.any,.any, t5, .any,.any,.any,.any,.any,.any,.any,.any,.any,.any,.any,.any,.any,.any,.any], loc, h⟩
theorem kaK_e (hw : TC Tryz.prog Θ Γ kaK_c (retQ kaK_r K) ⟨[a0, a1, u,u,u,u,u,u,u,u,u,u,u,u,u,u,u,u,u,u,u], [], h⟩) : T Tryz.prog Γ Fn.kaK [a0, a1] h K :=
  TB Tryz.func38 (bodyOf Tryz.f38) hw
def kai_c : C := .seq (.reg [⟨(some 4), none, .mov (.c (.nilp))⟩]) (.seq (.seq (.reg [mV 5 1,mV 6 0,⟨(some 7), none, .nilchk (.t 6)⟩,mF 8 1 7,mL 9 1 8,mN 10 9,mI 11 .sub 10 1,mC 12 Fn.kam [.t 5, .c (.int .i64 0), .t 11],mU 13 12]) (.cond (.t 13) (.seq (.reg [⟨(some 4), none, .mov (.c (.nilp))⟩]) .ret) .skip)) (.seq (.reg [mV 14 0,⟨(some 15), none, .nilchk (.t 14)⟩,mF 16 1 15,mL 17 1 16,mV 18 1,mX 19 12 17 18,mV 4 19]) .ret))
def kai_r : List RS := [.t 4]
theorem kai_e (hw : TC Tryz.prog Θ Γ kai_c (retQ kai_r K) ⟨[a0, a1, u,u,u,u,u,u,u,u,u,u,u,u,u,u,u,u,u,u], [], h⟩) : T Tryz.prog Γ Fn.kai [a0, a1] h K :=
  TB Tryz.func69 (bodyOf Tryz.f69) hw
def kaj_c : C := .seq (.reg [mA 3 1,⟨(some 4), none, .alloc [.int .i64 0,.int .i64 0]⟩]) (.seq (.seq (.reg [mV 6 0,⟨(some 7), none, .nilchk (.t 6)⟩,mF 8 1 7,mL 9 1 8,mN 10 9,mI 11 .add 10 1,mK 12 0]) (.block 0 (.loop (.seq (.reg [mB 13 .lss 12 11]) (.seq (.cond (.t 13) .skip (.exit 0)) (.seq (.block 1 (.seq (.seq (.reg [mF 14 0 3,mL 15 1 14,mI 16 .neq 15 1]) (.cond (.t 16) (.seq (.reg [mG 17 2 3,mS 2 4 17]) .ret) .skip)) (.seq (.reg [mV 18 0,mF 19 1 3,mL 20 1 19,mC 21 Fn.kai [.t 18, .t 20],mV 5 21]) (.seq (.seq (.reg [mV 22 5,⟨(some 23), none, .bin .eql (.nilp) (.t 22) (.c (.nilp))⟩,mV 24 23,⟨(some 25), (some (2, false)), .mov (.t 5)⟩,⟨(some 26), (some (2, false)), .nilchk (.t 25)⟩,⟨(some 27), (some (2, false)), .fld 0 (.t 26)⟩,⟨(some 28), (some (2, false)), .load 1 false (.t 27)⟩,⟨(some 29), (some (2, false)), .bin .neq (.num) (.t 28) (.c (.int .i64 2))⟩,⟨(some 30), none, .pick (.t 24) (.c (.bool true)) (.t 29)⟩,mV 31 30,⟨(some 32), (some (9, false)), .mov (.t 5)⟩,⟨(some 33), (some (9, false)), .nilchk (.t 32)⟩,⟨(some 34), (some (9, false)), .fld 3 (.t 33)⟩,⟨(some 35), (some (9, false)), .load 1 false (.t 34)⟩,⟨(some 36), (some (9, false)), .bin .neq (.num) (.t 35) (.c (.int .i64 2))⟩,⟨(some 37), none, .pick (.t 31) (.c (.bool true)) (.t 36)⟩]) (.cond (.t 37) (.seq (.reg [mG 38 2 3,mS 2 4 38]) .ret) .skip)) (.reg [mV 39 5,⟨(some 40), none, .nilchk (.t 39)⟩,mF 41 4 40,mG 42 2 41,mS 2 3 42]))))) (.reg [mI 43 .add 12 1,mV 12 43]))))))) (.seq (.reg [mC 44 Fn.kaa [],mS 2 4 44]) .ret))
def kaj_r : List RS := [.cell 4 2 true]
def kaj_s0 (t0 t3 t4 t11 t12 : AV) (loc : List (List AV)) (h : AH) : St := ⟨[t0, .any,.any, t3, t4, .any,.any,.any,.any,.any,.any, t11, t12, .any,.any,.any,.any,.any,.any,.any,.any,.any,.any,.any,.any,.any,.any,.any,.any,.any,.any,.any,.any,.any,.any,.any,.any,.any,.any,.any,.any,.any,.any,.any,.any], loc, h⟩
theorem kaj_e (hw : TC Tryz.prog Θ Γ kaj_c (retQ kaj_r K) ⟨[a0, a1, u,u,u,u,u,u,u,u,u,u,u,u,u,u,u,u,u,u,u,u,u,u,u,u,u,u,u,u,u,u,u,u,u,u,u,u,u,u,u,u,u,u,u], [], h⟩) : T Tryz.prog Γ Fn.kaj [a0, a1] h K :=
  TB Tryz.func71 (bodyOf Tryz.f71) hw
def kah_c : C := .seq (.reg [⟨(some 2), none, .alloc [.int .i64 0,.int .i64 0]⟩]) (.seq (.reg [mV 3 0,⟨(some 4), none, .build [.int .i64 0,.int .i64 0] [(0, 1, .c (.int .i64 1)), (1, 1, .t 3)]⟩,mS 2 2 4]) .ret)
def kah_r : List RS := [.cell 2 2 true]
theorem kah_e (hw : TC Tryz.prog Θ Γ kah_c (retQ kah_r K) ⟨[a0, u,u,u,u], [], h⟩) : T Tryz.prog Γ Fn.kah [a0] h K :=
  TB Tryz.func72 (bodyOf Tryz.f72) hw
def kbI_c : C := .seq (.reg [mT 6 false]) (.seq (.reg [mV 7 0,mV 8 1,mB 9 .geq 7 8,mV 10 9,⟨(some 11), (some (3, true)), .mov (.t 0)⟩,⟨(some 12), (some (3, true)), .mov (.t 2)⟩,⟨(some 13), (some (3, true)), .bin .leq (.num) (.t 11) (.t 12)⟩,⟨(some 14), none, .pick (.t 10) (.t 13) (.c (.bool false))⟩,mV 6 14]) .ret)
def kbI_r : List RS := [.t 6]
theorem kbI_e (hw : TC Tryz.prog Θ Γ kbI_c (retQ kbI_r K) ⟨[a0, a1, a2, u,u,u,u,u,u,u,u,u,u,u,u], [], h⟩) : T Tryz.prog Γ Fn.kbI [a0, a1, a2] h K :=
  TB Tryz.func92 (bodyOf Tryz.f92) hw
def kaZ_c : C := .seq (.reg [mK 4 0]) (.seq (.reg [mV 6 1,mV 7 0,mN 8 7,mB 9 .sub 6 8,mV 1 9]) (.seq (.seq (.reg [mV 10 1,mI 11 .lss 10 0]) (.cond (.t 11) (.seq (.reg [mK 4 (-1)]) .ret) .skip)) (.seq (.seq (.reg [mK 5 0]) (.block 0 (.loop (.seq (.seq (.reg [mV 12 5,mV 13 0,mN 14 13,mB 15 .lss 12 14]) (.cond (.t 15) .skip (.exit 0))) (.seq (.block 1 (.seq (.reg [mV 18 0,mV 19 5,mX 20 12 18 19,mG 21 12 20,mV 22 1,mC 23 Fn.kaY [.t 21, .t 22],mV 1 23]) (.seq (.reg [mV 24 1,mI 25 .lss 24 0]) (.cond (.t 25) (.seq (.reg [mK 4 (-1)]) .ret) .skip)))) (.reg [mV 16 5,mI 17 .add 16 1,mV 5 17])))))) (.seq (.reg [mV 26 1,mV 4 26]) .ret))))
def kaZ_r : List RS := [.t 4]
def kaZ_s0 (t0 t1 t5 : AV) (loc : List (List AV)) (h : AH) : St := ⟨[t0, t1, .any,.any,.any, t5, .any,.any,.any,.any,.any,.any,.any,.any,.any,.any,.any,.any,.any,.any,.any,.any,.any,.any,.any,.any,.any], loc, h⟩
theorem kaZ_e (hw : TC Tryz.prog Θ Γ kaZ_c (retQ kaZ_r K) ⟨[a0, a1, u,u,u,u,u,u,u,u,u,u,u,u,u,u,u,u,u,u,u,u,u,u,u,u,u], [], h⟩) : T Tryz.prog Γ Fn.kaZ [a0, a1] h K :=
  TB Tryz.func93 (bodyOf Tryz.f93) hw
def ka8_c : C := .seq (.reg [mK 4 0]) (.seq (.reg [mV 6 1,mV 7 0,mN 8 7,mB 9 .sub 6 8,mV 1 9]) (.seq (.seq (.reg [mV 10 1,mI 11 .lss 10 0]) (.cond (.t 11) (.seq (.reg [mK 4 (-1)]) .ret) .skip)) (.seq (.seq (.reg [mK 5 0]) (.block 0 (.loop (.seq (.seq (.reg [mV 12 5,mV 13 0,mN 14 13,mB 15 .lss 12 14]) (.cond (.t 15) .skip (.exit 0))) (.seq (.block 1 (.seq (.reg [mV 18 0,mV 19 5,mX 20 7 18 19,mG 21 7 20,mV 22 1,mC 23 Fn.ka7 [.t 21, .t 22],mV 1 23]) (.seq (.reg [mV 24 1,mI 25 .lss 24 0]) (.cond (.t 25) (.seq (.reg [mK 4 (-1)]) .ret) .skip)))) (.reg [mV 16 5,mI 17 .add 16 1,mV 5 17])))))) (.seq (.reg [mV 26 1,mV 4 26]) .ret))))
def ka8_r : List RS := [.t 4]
def ka8_s0 (t0 t1 t5 : AV) (loc : List (List AV)) (h : AH) : St := ⟨[t0, t1, .any,.any,.any, t5, .any,.any,.any,.any,.any,.any,.any,.any,.any,.any,.any,.any,.any,.any,.any,.any,.any,.any,.any,.any,.any], loc, h⟩
theorem ka8_e (hw : TC Tryz.prog Θ Γ ka8_c (retQ ka8_r K) ⟨[a0, a1, u,u,u,u,u,u,u,u,u,u,u,u,u,u,u,u,u,u,u,u,u,u,u,u,u], [], h⟩) : T Tryz.prog Γ Fn.ka8 [a0, a1] h K :=
  TB Tryz.func94 (bodyOf Tryz.f94) hw
def ka2_c : C := .seq (.reg [mK 4 0]) (.seq (.reg [mV 6 1,mV 7 0,mN 8 7,mB 9 .sub 6 8,mV 1 9]) (.seq (.seq (.reg [mV 10 1,mI 11 .lss 10 0]) (.cond (.t 11) (.seq (.reg [mK 4 (-1)]) .ret) .skip)) (.seq (.seq (.reg [mK 5 0]) (.block 0 (.loop (.seq (.seq (.reg [mV 12 5,mV 13 0,mN 14 13,mB 15 .lss 12 14]) (.cond (.t 15) .skip (.exit 0))) (.seq (.block 1 (.seq (.reg [mV 18 0,mV 19 5,mX 20 7 18 19,mG 21 7 20,mV 22 1,mC 23 Fn.ka1 [.t 21, .t 22],mV 1 23]) (.seq (.reg [mV 24 1,mI 25 .lss 24 0]) (.cond (.t 25) (.seq (.reg [mK 4 (-1)]) .ret) .skip)))) (.reg [mV 16 5,mI 17 .add 16 1,mV 5 17])))))) (.seq (.reg [mV 26 1,mV 4 26]) .ret))))
def ka2_r : List RS := [.t 4]
def ka2_s0 (t0 t1 t5 : AV) (loc : List (List AV)) (h : AH) : St := ⟨[t0, t1, .any,.any,.any, t5, .any,.any,.any,.any,.any,.any,.any,.any,.any,.any,.any,.any,.any,.any,.any,.any,.any,.any,.any,.any,.any], loc, h⟩
theorem ka2_e (hw : TC Tryz.prog Θ Γ ka2_c (retQ ka2_r K) ⟨[a0, a1, u,u,u,u,u,u,u,u,u,u,u,u,u,u,u,u,u,u,u,u,u,u,u,u,u], [], h⟩) : T Tryz.prog Γ Fn.ka2 [a0, a1] h K :=
  TB Tryz.func95 (bodyOf Tryz.f95) hw
def ka5_c : C := .seq (.reg [mK 4 0]) (.seq (.reg [mV 6 1,mV 7 0,mN 8 7,mB 9 .sub 6 8,mV 1 9]) (.seq (.seq (.reg [mV 10 1,mI 11 .lss 10 0]) (.cond (.t 11) (.seq (.reg [mK 4 (-1)]) .ret) .skip)) (.seq (.seq (.reg [mK 5 0]) (.block 0 (.loop (.seq (.seq (.reg [mV 12 5,mV 13 0,mN 14 13,mB 15 .lss 12 14]) (.cond (.t 15) .skip (.exit 0))) (.seq (.block 1 (.seq (.reg [mV 18 0,mV 19 5,mX 20 13 18 19,mG 21 13 20,mV 22 1,mC 23 Fn.ka4 [.t 21, .t 22],mV 1 23]) (.seq (.reg [mV 24 1,mI 25 .lss 24 0]) (.cond (.t 25) (.seq (.reg [mK 4 (-1)]) .ret) .skip)))) (.reg [mV 16 5,mI 17 .add 16 1,mV 5 17])))))) (.seq (.reg [mV 26 1,mV 4 26]) .ret))))
def ka5_r : List RS := [.t 4]
def ka5_s0 (t0 t1 t5 : AV) (loc : List (List AV)) (h : AH) : St := ⟨[t0, t1, .any,.any,.any, t5, .any,.any,.any,.any,.any,.any,.any,.any,.any,.any,.any,.any,.any,.any,.any,.any,.any,.any,.any,.any,.any], loc, h⟩
theorem ka5_e (hw : TC Tryz.prog Θ Γ ka5_c (retQ ka5_r K) ⟨[a0, a1, u,u,u,u,u,u,u,u,u,u,u,u,u,u,u,u,u,u,u,u,u,u,u,u,u], [], h⟩) : T Tryz.prog Γ Fn.ka5 [a0, a1] h K :=
  TB Tryz.func96 (bodyOf Tryz.f96) hw
def kbH_c : C := .seq (.reg [mK 4 0]) (.block 0 (.loop (.seq (.seq (.reg [mV 5 4,mV 6 1,mN 7 6,mB 8 .lss 5 7]) (.cond (.t 8) .skip (.exit 0))) (.seq (.block 1 (.seq (.reg [mV 11 1,mV 12 4,mX 13 1 11 12,mL 14 1 13,mV 15 0,mN 16 15,mI 17 .sub 16 1,mC 18 Fn.kbI [.t 14, .c (.int .i64 0), .t 17]]) (.cond (.t 18) (.reg [mV 19 0,mV 20 1,mV 21 4,mX 22 1 20 21,mL 23 1 22,mX 24 1 19 23,⟨none, none, .store 1 (.t 24) (.c (.bool true))⟩]) .skip))) (.reg [mV 9 4,mI 10 .add 9 1,mV 4 10])))))
def kbH_r : List RS := []
def kbH_s0 (t0 t1 t4 : AV) (loc : List (List AV)) (h : AH) : St := ⟨[t0, t1, .any,.any, t4, .any,.any,.any,.any,.any,.any,.any,.any,.any,.any,.any,.any,.any,.any,.any,.any,.any,.any,.any,.any], loc, h⟩
theorem kbH_e (hw : TC Tryz.prog Θ Γ kbH_c (retQ kbH_r K) ⟨[a0, a1, u,u,u,u,u,u,u,u,u,u,u,u,u,u,u,u,u,u,u,u,u,u,u], [], h⟩) : T Tryz.prog Γ Fn.kbH [a0, a1] h K :=
  TB Tryz.func97 (bodyOf Tryz.f97) hw
def kbB_d0_os : List O := [mG 37 5 2,mF 38 2 8,mL 39 1 38,mV 40 9,mX 41 3 39 40,mF 42 1 41,mL 43 1 42,mC 44 Fn.kbG [.t 43],mC 45 Fn.kbD [.t 37, .t 44],⟨(some 10), none, .alloc [.int .i64 0,.int .i64 0]⟩,mS 2 10 45]
def kbB_d0_af : List (List Nat) := [[], [], [1], [], [2, 3], [4], [5], [6], [0, 7, 7], [], [9, 8, 8, 0, 1, 2, 3, 4, 5, 6, 7, 8, 9]]
theorem kbB_d0_q (gl : Gl) (Q : AE → St → Prop) (s : St) : aw Tryz.prog Θ Γ gl (.regD kbB_d0_os kbB_d0_af) Q s = awpT Tryz.prog Γ gl [mG 37 5 2,mF 38 2 8,mL 39 1 38,mV 40 9,mX 41 3 39 40,mF 42 1 41,mL 43 1 42,mC 44 Fn.kbG [.t 43],mC 45 Fn.kbD [.t 37, .t 44],⟨(some 10), none, .alloc [.int .i64 0,.int .i64 0]⟩,mS 2 10 45] (Q .normal) 11 (.q 0 (.q 1 (.q 2 (.q 3 (.q 4 (.q 5 (.q 6 (.all [(7, .all [(8, .all [(9, .q 10 (.done))]), (9, .all [(8, .q 10 (.done))])]), (9, .all [(7, .all [(8, .q 10 (.done))])])])))))))) s := a_dd rfl (by kernel_rfl) gl Q s
def kbB_d1_os : List O := [mG 68 5 2,mF 69 6 8,mL 70 1 69,mV 71 11,mX 72 2 70 71,mF 73 1 72,mL 74 1 73,mC 75 Fn.kbG [.t 74],mC 76 Fn.kbD [.t 68, .t 75],⟨(some 12), none, .alloc [.int .i64 0,.int .i64 0]⟩,mS 2 12 76]
def kbB_d1_af : List (List Nat) := [[], [], [1], [], [2, 3], [4], [5], [6], [0, 7, 7], [], [9, 8, 8, 0, 1, 2, 3, 4, 5, 6, 7, 8, 9]]
theorem kbB_d1_q (gl : Gl) (Q : AE → St → Prop) (s : St) : aw Tryz.prog Θ Γ gl (.regD kbB_d1_os kbB_d1_af) Q s = awpT Tryz.prog Γ gl [mG 68 5 2,mF 69 6 8,mL 70 1 69,mV 71 11,mX 72 2 70 71,mF 73 1 72,mL 74 1 73,mC 75 Fn.kbG [.t 74],mC 76 Fn.kbD [.t 68, .t 75],⟨(some 12), none, .alloc [.int .i64 0,.int .i64 0]⟩,mS 2 12 76] (Q .normal) 11 (.q 0 (.q 1 (.q 2 (.q 3 (.q 4 (.q 5 (.q 6 (.all [(7, .all [(8, .all [(9, .q 10 (.done))]), (9, .all [(8, .q 10 (.done))])]), (9, .all [(7, .all [(8, .q 10 (.done))])])])))))))) s := a_dd rfl (by kernel_rfl) gl Q s
def kbB_c : C := .seq (.reg [mA 2 0,⟨(some 4), none, .mov (.c (.nils))⟩]) (.seq (.reg [⟨(some 14), none, .bsl 1 0 [.int .i64 0] []⟩,mV 5 14]) (.seq (.reg [mG 15 5 2,mV 16 1,mC 17 Fn.kbC [.t 15, .t 16],mV 6 17]) (.seq (.seq (.reg [mV 18 6,mI 19 .lss 18 0]) (.cond (.t 19) (.seq (.reg [mV 20 5,mV 4 20]) .ret) .skip)) (.seq (.reg [mF 21 1 2,mL 22 1 21,mN 23 22,⟨(some 24), none, .mks 1 1 [.bool false] (.t 23) (.t 23)⟩,mV 7 24]) (.seq (.reg [mF 25 3 2,mL 26 1 25,mV 27 6,mX 28 7 26 27,mG 29 7 28,⟨(some 8), none, .alloc [.int .i64 0, .bool false, .nils, .int .i64 0, .nils, .int .i64 0, .nils]⟩,mS 7 8 29]) (.seq (.seq (.reg [mK 9 0]) (.block 0 (.loop (.seq (.seq (.reg [mV 30 9,mF 31 2 8,mL 32 1 31,mN 33 32,mB 34 .lss 30 33]) (.cond (.t 34) .skip (.exit 0))) (.seq (.block 1 (.seq (.regD kbB_d0_os kbB_d0_af) (.seq (.reg [mF 46 0 10,mL 47 1 46,mI 48 .eql 47 1,mV 49 48,⟨(some 50), (some (3, true)), .fld 1 (.t 10)⟩,⟨(some 51), (some (3, true)), .load 1 false (.t 50)⟩,⟨(some 52), (some (3, true)), .mov (.t 7)⟩,⟨(some 53), (some (3, true)), .len false (.t 52)⟩,⟨(some 54), (some (3, true)), .bin .sub (.num) (.t 53) (.c (.int .i64 1))⟩,⟨(some 55), (some (3, true)), .call (.c (.fn Fn.kbI [] [])) [.t 51, .c (.int .i64 0), .t 54]⟩,⟨(some 56), none, .pick (.t 49) (.t 55) (.c (.bool false))⟩]) (.cond (.t 56) (.reg [mV 57 7,mF 58 1 10,mL 59 1 58,mX 60 1 57 59,⟨none, none, .store 1 (.t 60) (.c (.bool true))⟩]) .skip)))) (.reg [mV 35 9,mI 36 .add 35 1,mV 9 36])))))) (.seq (.seq (.reg [mK 11 0]) (.block 2 (.loop (.seq (.seq (.reg [mV 61 11,mF 62 6 8,mL 63 1 62,mN 64 63,mB 65 .lss 61 64]) (.cond (.t 65) .skip (.exit 2))) (.seq (.block 3 (.seq (.regD kbB_d1_os kbB_d1_af) (.seq (.reg [mF 77 0 12,mL 78 1 77,mI 79 .eql 78 1,mV 80 79,⟨(some 81), (some (3, true)), .fld 1 (.t 12)⟩,⟨(some 82), (some (3, true)), .load 1 false (.t 81)⟩,⟨(some 83), (some (3, true)), .mov (.t 7)⟩,⟨(some 84), (some (3, true)), .len false (.t 83)⟩,⟨(some 85), (some (3, true)), .bin .sub (.num) (.t 84) (.c (.int .i64 1))⟩,⟨(some 86), (some (3, true)), .call (.c (.fn Fn.kbI [] [])) [.t 82, .c (.int .i64 0), .t 85]⟩,⟨(some 87), none, .pick (.t 80) (.t 86) (.c (.bool false))⟩]) (.cond (.t 87) (.reg [mV 88 7,mF 89 1 12,mL 90 1 89,mX 91 1 88 90,⟨none, none, .store 1 (.t 91) (.c (.bool true))⟩]) .skip)))) (.reg [mV 66 11,mI 67 .add 66 1,mV 11 67])))))) (.seq (.seq (.reg [mK 13 0]) (.block 4 (.loop (.seq (.seq (.reg [mV 92 13,mV 93 7,mN 94 93,mB 95 .lss 92 94]) (.cond (.t 95) .skip (.exit 4))) (.seq (.block 5 (.seq (.reg [mV 98 7,mV 99 13,mX 100 1 98 99,mL 101 1 100]) (.cond (.t 101) (.reg [mV 102 5,mV 103 13,⟨(some 104), none, .bsl 1 1 [.int .i64 0] [(0, .t 103)]⟩,⟨(some 105), none, .app 1 8 [.int .i64 0] false (.t 102) (.t 104)⟩,mV 5 105]) .skip))) (.reg [mV 96 13,mI 97 .add 96 1,mV 13 97])))))) (.seq (.reg [mV 106 5,mV 4 106]) .ret)))))))))
def kbB_r : List RS := [.t 4]
def kbB_s0 (t2 t5 t7 t8 t9 : AV) (loc : List (List AV)) (h : AH) : St := ⟨[.any,.any, t2, .any,.any, t5, .any, t7, t8, t9, .any,.any,.any,.any,.any,.any,.any,.any,.any,.any,.any,.any,.any,.any,.any,.any,.any,.any,.any,.any,.any,.any,.any,.any,.any,.any,.any,.any,.any,.any,.any,.any,.any,.any,.any,.any,.any,.any,.any,.any,.any,.any,.any,.any,.any,.any,.any,.any,.any,.any,.any,.any,.any,.any,.any,.any,.any,.any,.any,.any,.any,.any,.any,.any,.any,.any,.any,.any,.any,.any,.any,.any,.any,.any,.any,.any,.any,.any,.any,.any,.any,.any,.any,.any,.any,.any,.any,.any,.any,.any,.any,.any,.any,.any,.any,.any,.any], loc, h⟩
def kbB_s1 (t2 t5 t7 t8 t11 : AV) (loc : List (List AV)) (h : AH) : St := ⟨[.any,.any, t2, .any,.any, t5, .any, t7, t8, .any,.any, t11, .any,.any,.any,.any,.any,.any,.any,.any,.any,.any,.any,.any,.any,.any,.any,.any,.any,.any,.any,.any,.any,.any,.any,.any,.any,.any,.any,.any,.any,.any,.any,.any,.any,.any,.any,.any,.any,.any,.any,.any,.any,.any,.any,.any,.any,.any,.any,.any,.any,.any,.any,.any,.any,.any,.any,.any,.any,.any,.any,.any,.any,.any,.any,.any,.any,.any,.any,.any,.any,.any,.any,.any,.any,.any,.any,.any,.any,.any,.any,.any,.any,.any,.any,.any,.any,.any,.any,.any,.any,.any,.any,.any,.any,.any,.any], loc, h⟩
def kbB_s2 (t5 t7 t13 : AV) (loc : List (List AV)) (h : AH) : St := ⟨[.any,.any,.any,.any,.any, t5, .any, t7, .any,.any,.any,.any,.any, t13, .any,.any,.any,.any,.any,.any,.any,.any,.any,.any,.any,.any,.any,.any,.any,.any,.any,.any,.any,.any,.any,.any,.any,.any,.any,.any,.any,.any,.any,.any,.any,.any,.any,.any,.any,.any,.any,.any,.any,.any,.any,.any,.any,.any,.any,.any,.any,.any,.any,.any,.any,.any,.any,.any,.any,.any,.any,.any,.any,.any,.any,.any,.any,.any,.any,.any,.any,.any,.any,.any,.any,.any,.any,.any,.any,.any,.any,.any,.any,.any,.any,.any,.any,.any,.any,.any,.any,.any,.any,.any,.any,.any,.any], loc, h⟩
theorem kbB_e (hw : TC Tryz.prog Θ Γ kbB_c (retQ kbB_r K) ⟨[a0, a1, u,u,u,u,u,u,u,u,u,u,u,u,u,u,u,u,u,u,u,u,u,u,u,u,u,u,u,u,u,u,u,u,u,u,u,u,u,u,u,u,u,u,u,u,u,u,u,u,u,u,u,u,u,u,u,u,u,u,u,u,u,u,u,u,u,u,u,u,u,u,u,u,u,u,u,u,u,u,u,u,u,u,u,u,u,u,u,u,u,u,u,u,u,u,u,u,u,u,u,u,u,u,u,u,u], [], h⟩) : T Tryz.prog Γ Fn.kbB [a0, a1] h K :=
  TB Tryz.func98 (bodyOf Tryz.f98) hw
def kbF_c : C := .seq (.reg [mA 2 0,⟨(some 4), none, .mov (.c (.nils))⟩]) (.seq (.reg [⟨(some 7), none, .bsl 1 0 [.int .i64 0] []⟩,mV 5 7]) (.seq (.seq (.reg [mK 6 0]) (.block 0 (.loop (.seq (.seq (.reg [mV 8 6,mF 9 1 2,mL 10 1 9,mN 11 10,mB 12 .lss 8 11]) (.cond (.t 12) .skip (.exit 0))) (.seq (.block 1 (.seq (.reg [mF 15 1 2,mL 16 1 15,mV 17 6,mX 18 12 16 17,mF 19 0 18,mL 20 1 19,mI 21 .eql 20 3,mV 22 21,⟨(some 23), (some (7, true)), .fld 1 (.t 2)⟩,⟨(some 24), (some (7, true)), .load 1 false (.t 23)⟩,⟨(some 25), (some (7, true)), .mov (.t 6)⟩,⟨(some 26), (some (7, true)), .idxs 12 (.t 24) (.t 25)⟩,⟨(some 27), (some (7, true)), .fld 8 (.t 26)⟩,⟨(some 28), (some (7, true)), .load 1 false (.t 27)⟩,⟨(some 29), (some (7, true)), .mov (.t 1)⟩,⟨(some 30), (some (7, true)), .bin .eql (.num) (.t 28) (.t 29)⟩,⟨(some 31), none, .pick (.t 22) (.t 30) (.c (.bool false))⟩]) (.cond (.t 31) (.reg [mV 32 5,mV 33 6,⟨(some 34), none, .bsl 1 1 [.int .i64 0] [(0, .t 33)]⟩,⟨(some 35), none, .app 1 8 [.int .i64 0] false (.t 32) (.t 34)⟩,mV 5 35]) .skip))) (.reg [mV 13 6,mI 14 .add 13 1,mV 6 14])))))) (.seq (.reg [mV 36 5,mV 4 36]) .ret)))
def kbF_r : List RS := [.t 4]
def kbF_s0 (t1 t2 t5 t6 : AV) (loc : List (List AV)) (h : AH) : St := ⟨[.any, t1, t2, .any,.any, t5, t6, .any,.any,.any,.any,.any,.any,.any,.any,.any,.any,.any,.any,.any,.any,.any,.any,.any,.any,.any,.any,.any,.any,.any,.any,.any,.any,.any,.any,.any,.any], loc, h⟩
theorem kbF_e (hw : TC Tryz.prog Θ Γ kbF_c (retQ kbF_r K) ⟨[a0, a1, u,u,u,u,u,u,u,u,u,u,u,u,u,u,u,u,u,u,u,u,u,u,u,u,u,u,u,u,u,u,u,u,u,u,u], [], h⟩) : T Tryz.prog Γ Fn.kbF [a0, a1] h K :=
  TB Tryz.func99 (bodyOf Tryz.f99) hw
def kbf_c : C := .seq (.reg [⟨(some 2), none, .mov (.c (.nils))⟩]) (.seq (.reg [mV 5 0,mN 6 5,⟨(some 7), none, .mks 12 144 [.int .i64 0,.int .i64 0, .nils, .int .i64 0,.int .i64 0,.int .i64 0, .nils, .nils, .int .i64 0,.int .i64 0,.int .i64 0,.int .i64 0] (.t 6) (.t 6)⟩,mV 3 7]) (.seq (.seq (.reg [mK 4 0]) (.block 0 (.loop (.seq (.seq (.reg [mV 8 4,mV 9 0,mN 10 9,mB 11 .lss 8 10]) (.cond (.t 11) .skip (.exit 0))) (.seq (.block 1 (.reg [mV 14 3,mV 15 4,mV 16 0,mV 17 4,mX 18 12 16 17,mG 19 12 18,mC 20 Fn.kbe [.t 19],mX 21 12 14 15,mS 12 21 20])) (.reg [mV 12 4,mI 13 .add 12 1,mV 4 13])))))) (.seq (.reg [mV 22 3,mV 2 22]) .ret)))
def kbf_r : List RS := [.t 2]
def kbf_s0 (t0 t3 t4 : AV) (loc : List (List AV)) (h : AH) : St := ⟨[t0, .any,.any, t3, t4, .any,.any,.any,.any,.any,.any,.any,.any,.any,.any,.any,.any,.any,.any,.any,.any,.any,.any], loc, h⟩
theorem kbf_e (hw : TC Tryz.prog Θ Γ kbf_c (retQ kbf_r K) ⟨[a0, u,u,u,u,u,u,u,u,u,u,u,u,u,u,u,u,u,u,u,u,u,u], [], h⟩) : T Tryz.prog Γ Fn.kbf [a0] h K :=
  TB Tryz.func100 (bodyOf Tryz.f100) hw
def kbq_c : C := .seq (.reg [⟨(some 2), none, .mov (.c (.nils))⟩]) (.seq (.reg [mV 5 0,mN 6 5,⟨(some 7), none, .mks 7 80 [.int .i64 0, .str ⟨#[]⟩, .nils, .int .i64 0,.int .i64 0,.int .i64 0,.int .i64 0] (.t 6) (.t 6)⟩,mV 3 7]) (.seq (.seq (.reg [mK 4 0]) (.block 0 (.loop (.seq (.seq (.reg [mV 8 4,mV 9 0,mN 10 9,mB 11 .lss 8 10]) (.cond (.t 11) .skip (.exit 0))) (.seq (.block 1 (.reg [mV 14 3,mV 15 4,mV 16 0,mV 17 4,mX 18 7 16 17,mG 19 7 18,mC 20 Fn.kbp [.t 19],mX 21 7 14 15,mS 7 21 20])) (.reg [mV 12 4,mI 13 .add 12 1,mV 4 13])))))) (.seq (.reg [mV 22 3,mV 2 22]) .ret)))
def kbq_r : List RS := [.t 2]
def kbq_s0 (t0 t3 t4 : AV) (loc : List (List AV)) (h : AH) : St := ⟨[t0, .any,.any, t3, t4, .any,.any,.any,.any,.any,.any,.any,.any,.any,.any,.any,.any,.any,.any,.any,.any,.any,.any], loc, h⟩
theorem kbq_e (hw : TC Tryz.prog Θ Γ kbq_c (retQ kbq_r K) ⟨[a0, u,u,u,u,u,u,u,u,u,u,u,u,u,u,u,u,u,u,u,u,u,u], [], h⟩) : T Tryz.prog Γ Fn.kbq [a0] h K :=
  TB Tryz.func101 (bodyOf Tryz.f101) hw
def kbj_c : C := .seq (.reg [⟨(some 2), none, .mov (.c (.nils))⟩]) (.seq (.reg [mV 5 0,mN 6 5,⟨(some 7), none, .mks 7 104 [.int .i64 0, .bool false, .nils, .int .i64 0, .nils, .int .i64 0, .nils] (.t 6) (.t 6)⟩,mV 3 7]) (.seq (.seq (.reg [mK 4 0]) (.block 0 (.loop (.seq (.seq (.reg [mV 8 4,mV 9 0,mN 10 9,mB 11 .lss 8 10]) (.cond (.t 11) .skip (.exit 0))) (.seq (.block 1 (.reg [mV 14 3,mV 15 4,mV 16 0,mV 17 4,mX 18 7 16 17,mG 19 7 18,mC 20 Fn.kbi [.t 19],mX 21 7 14 15,mS 7 21 20])) (.reg [mV 12 4,mI 13 .add 12 1,mV 4 13])))))) (.seq (.reg [mV 22 3,mV 2 22]) .ret)))
def kbj_r : List RS := [.t 2]
def kbj_s0 (t0 t3 t4 : AV) (loc : List (List AV)) (h : AH) : St := ⟨[t0, .any,.any, t3, t4, .any,.any,.any,.any,.any,.any,.any,.any,.any,.any,.any,.any,.any,.any,.any,.any,.any,.any], loc, h⟩
theorem kbj_e (hw : TC Tryz.prog Θ Γ kbj_c (retQ kbj_r K) ⟨[a0, u,u,u,u,u,u,u,u,u,u,u,u,u,u,u,u,u,u,u,u,u,u], [], h⟩) : T Tryz.prog Γ Fn.kbj [a0] h K :=
  TB Tryz.func102 (bodyOf Tryz.f102) hw
def kbm_c : C := .seq (.reg [⟨(some 2), none, .mov (.c (.nils))⟩]) (.seq (.reg [mV 5 0,mN 6 5,⟨(some 7), none, .mks 13 128 [.int .i64 0,.int .i64 0,.int .i64 0,.int .i64 0,.int .i64 0, .str ⟨#[]⟩, .nils, .int .i64 0,.int .i64 0,.int .i64 0,.int .i64 0,.int .i64 0,.int .i64 0] (.t 6) (.t 6)⟩,mV 3 7]) (.seq (.seq (.reg [mK 4 0]) (.block 0 (.loop (.seq (.seq (.reg [mV 8 4,mV 9 0,mN 10 9,mB 11 .lss 8 10]) (.cond (.t 11) .skip (.exit 0))) (.seq (.block 1 (.reg [mV 14 3,mV 15 4,mV 16 0,mV 17 4,mX 18 13 16 17,mG 19 13 18,mC 20 Fn.kbl [.t 19],mX 21 13 14 15,mS 13 21 20])) (.reg [mV 12 4,mI 13 .add 12 1,mV 4 13])))))) (.seq (.reg [mV 22 3,mV 2 22]) .ret)))
def kbm_r : List RS := [.t 2]
def kbm_s0 (t0 t3 t4 : AV) (loc : List (List AV)) (h : AH) : St := ⟨[t0, .any,.any, t3, t4, .any,.any,.any,.any,.any,.any,.any,.any,.any,.any,.any,.any,.any,.any,.any,.any,.any,.any], loc, h⟩
theorem kbm_e (hw : TC Tryz.prog Θ Γ kbm_c (retQ kbm_r K) ⟨[a0, u,u,u,u,u,u,u,u,u,u,u,u,u,u,u,u,u,u,u,u,u,u], [], h⟩) : T Tryz.prog Γ Fn.kbm [a0] h K :=
  TB Tryz.func103 (bodyOf Tryz.f103) hw
def kab_c : C := .seq (.reg [mA 2 0,⟨(some 4), none, .mov (.c (.nils))⟩]) (.seq (.reg [mG 15 5 2,mV 16 1,mC 17 Fn.kac [.t 15, .t 16],mV 5 17]) (.seq (.seq (.reg [mV 18 5,mI 19 .lss 18 0]) (.cond (.t 19) (.seq (.reg [⟨(some 4), none, .mov (.c (.nils))⟩]) .ret) .skip)) (.seq (.reg [⟨(some 20), none, .bsl 1 0 [.int .i64 0] []⟩,mV 6 20]) (.seq (.seq (.reg [mF 21 3 2,mL 22 1 21,mV 23 5,mX 24 7 22 23,mF 25 2 24,mL 26 1 25,mN 27 26,mK 28 0]) (.block 0 (.loop (.seq (.reg [mB 29 .lss 28 27]) (.seq (.cond (.t 29) .skip (.exit 0)) (.seq (.block 1 (.seq (.reg [mX 30 3 26 28,mG 31 3 30,⟨(some 8), none, .alloc [.int .i64 0,.int .i64 0,.int .i64 0]⟩,mS 3 8 31]) (.reg [mV 32 6,mF 33 1 8,mL 34 1 33,⟨(some 35), none, .bsl 1 1 [.int .i64 0] [(0, .t 34)]⟩,⟨(some 36), none, .app 1 8 [.int .i64 0] false (.t 32) (.t 35)⟩,mV 6 36]))) (.reg [mI 37 .add 28 1,mV 28 37]))))))) (.seq (.seq (.reg [mF 38 3 2,mL 39 1 38,mV 40 5,mX 41 7 39 40,mF 42 6 41,mL 43 1 42,mN 44 43,mK 45 0]) (.block 2 (.loop (.seq (.reg [mB 46 .lss 45 44]) (.seq (.cond (.t 46) .skip (.exit 2)) (.seq (.block 3 (.seq (.reg [mX 47 2 43 45,mG 48 2 47,⟨(some 10), none, .alloc [.int .i64 0,.int .i64 0]⟩,mS 2 10 48]) (.reg [mV 49 6,mF 50 1 10,mL 51 1 50,⟨(some 52), none, .bsl 1 1 [.int .i64 0] [(0, .t 51)]⟩,⟨(some 53), none, .app 1 8 [.int .i64 0] false (.t 49) (.t 52)⟩,mV 6 53]))) (.reg [mI 54 .add 45 1,mV 45 54]))))))) (.seq (.reg [⟨(some 55), none, .bsl 1 0 [.int .i64 0] []⟩,mV 11 55]) (.seq (.seq (.reg [mV 56 6,mN 57 56,mK 58 0]) (.block 4 (.loop (.seq (.reg [mB 59 .lss 58 57]) (.seq (.cond (.t 59) .skip (.exit 4)) (.seq (.block 5 (.seq (.reg [mX 60 1 56 58,mL 61 1 60,mV 13 61]) (.seq (.reg [mV 62 13,mC 63 Fn.kah [.t 62],mC 64 Fn.kaj [.t 2, .t 63],⟨(some 14), none, .alloc [.int .i64 0,.int .i64 0]⟩,mS 2 14 64]) (.seq (.reg [mG 65 2 14,mC 66 Fn.kak [.t 2, .t 65],⟨(some 67), none, .bin .neq (.nilp) (.t 66) (.c (.nilp))⟩]) (.cond (.t 67) (.reg [mV 68 11,mF 69 1 14,mL 70 1 69,⟨(some 71), none, .bsl 1 1 [.int .i64 0] [(0, .t 70)]⟩,⟨(some 72), none, .app 1 8 [.int .i64 0] false (.t 68) (.t 71)⟩,mV 11 72]) .skip))))) (.reg [mI 73 .add 58 1,mV 58 73]))))))) (.seq (.reg [mV 74 11,mC 75 Fn.kbz [.t 74]]) (.seq (.reg [mV 76 11,mC 77 Fn.kbx [.t 76],mV 4 77]) .ret)))))))))
def kab_r : List RS := [.t 4]
def kab_s0 (t2 t5 t6 t26 t27 t28 : AV) (loc : List (List AV)) (h : AH) : St := ⟨[.any,.any, t2, .any,.any, t5, t6, .any,.any,.any,.any,.any,.any,.any,.any,.any,.any,.any,.any,.any,.any,.any,.any,.any,.any,.any, t26, t27, t28, .any,.any,.any,.any,.any,.any,.any,.any,.any,.any,.any,.any,.any,.any,.any,.any,.any,.any,.any,.any,.any,.any,.any,.any,.any,.any,.any,.any,.any,.any,.any,.any,.any,.any,.any,.any,.any,.any,.any,.any,.any,.any,.any,.any,.any,.any,.any,.any,.any], loc, h⟩
def kab_s1 (t2 t6 t43 t44 t45 : AV) (loc : List (List AV)) (h : AH) : St := ⟨[.any,.any, t2, .any,.any,.any, t6, .any,.any,.any,.any,.any,.any,.any,.any,.any,.any,.any,.any,.any,.any,.any,.any,.any,.any,.any,.any,.any,.any,.any,.any,.any,.any,.any,.any,.any,.any,.any,.any,.any,.any,.any,.any, t43, t44, t45, .any,.any,.any,.any,.any,.any,.any,.any,.any,.any,.any,.any,.any,.any,.any,.any,.any,.any,.any,.any,.any,.any,.any,.any,.any,.any,.any,.any,.any,.any,.any,.any], loc, h⟩
def kab_s2 (t2 t11 t56 t57 t58 : AV) (loc : List (List AV)) (h : AH) : St := ⟨[.any,.any, t2, .any,.any,.any,.any,.any,.any,.any,.any, t11, .any,.any,.any,.any,.any,.any,.any,.any,.any,.any,.any,.any,.any,.any,.any,.any,.any,.any,.any,.any,.any,.any,.any,.any,.any,.any,.any,.any,.any,.any,.any,.any,.any,.any,.any,.any,.any,.any,.any,.any,.any,.any,.any,.any, t56, t57, t58, .any,.any,.any,.any,.any,.any,.any,.any,.any,.any,.any,.any,.any,.any,.any,.any,.any,.any,.any], loc, h⟩
theorem kab_e (hw : TC Tryz.prog Θ Γ kab_c (retQ kab_r K) ⟨[a0, a1, u,u,u,u,u,u,u,u,u,u,u,u,u,u,u,u,u,u,u,u,u,u,u,u,u,u,u,u,u,u,u,u,u,u,u,u,u,u,u,u,u,u,u,u,u,u,u,u,u,u,u,u,u,u,u,u,u,u,u,u,u,u,u,u,u,u,u,u,u,u,u,u,u,u,u,u], [], h⟩) : T Tryz.prog Γ Fn.kab [a0, a1] h K :=
  TB Tryz.func104 (bodyOf Tryz.f104) hw
def kaf_c : C := .seq (.reg [mA 2 0,mA 3 1,⟨(some 4), none, .mov (.c (.nils))⟩]) (.seq (.reg [⟨(some 5), none, .mkf Fn.kag [] [.t 3]⟩,mC 6 Fn.kal [.t 2, .t 5],mV 4 6]) .ret)
def kaf_r : List RS := [.t 4]
theorem kaf_e (hw : TC Tryz.prog Θ Γ kaf_c (retQ kaf_r K) ⟨[a0, a1, u,u,u,u,u], [], h⟩) : T Tryz.prog Γ Fn.kaf [a0, a1] h K :=
  TB Tryz.func105 (bodyOf Tryz.f105) hw
def kar_d0_os : List O := [mV 17 0,mV 18 5,mX 19 12 17 18,mG 20 12 19,mV 21 1,mV 22 5,mX 23 12 21 22,mG 24 12 23,mC 25 Fn.kaq [.t 20, .t 24],mU 26 25]
def kar_d0_af : List (List Nat) := [[], [], [0, 1], [2], [], [], [4, 5], [6], [3, 7], [8]]
theorem kar_d0_q (gl : Gl) (Q : AE → St → Prop) (s : St) : aw Tryz.prog Θ Γ gl (.regD kar_d0_os kar_d0_af) Q s = awpT Tryz.prog Γ gl [mV 17 0,mV 18 5,mX 19 12 17 18,mG 20 12 19,mV 21 1,mV 22 5,mX 23 12 21 22,mG 24 12 23,mC 25 Fn.kaq [.t 20, .t 24],mU 26 25] (Q .normal) 10 (.q 0 (.q 1 (.q 2 (.q 3 (.q 4 (.q 5 (.q 6 (.q 7 (.q 8 (.q 9 (.done))))))))))) s := a_dd rfl (by kernel_rfl) gl Q s
def kar_c : C := .seq (.reg [mT 4 false]) (.seq (.seq (.reg [mV 6 0,mN 7 6,mV 8 1,mN 9 8,mB 10 .neq 7 9]) (.cond (.t 10) (.seq (.reg [mT 4 false]) .ret) .skip)) (.seq (.seq (.reg [mK 5 0]) (.block 0 (.loop (.seq (.seq (.reg [mV 11 5,mV 12 0,mN 13 12,mB 14 .lss 11 13]) (.cond (.t 14) .skip (.exit 0))) (.seq (.block 1 (.seq (.regD kar_d0_os kar_d0_af) (.cond (.t 26) (.seq (.reg [mT 4 false]) .ret) .skip))) (.reg [mV 15 5,mI 16 .add 15 1,mV 5 16])))))) (.seq (.reg [mT 4 true]) .ret)))
def kar_r : List RS := [.t 4]
def kar_s0 (t0 t1 t5 : AV) (loc : List (List AV)) (h : AH) : St := ⟨[t0, t1, .any,.any,.any, t5, .any,.any,.any,.any,.any,.any,.any,.any,.any,.any,.any,.any,.any,.any,.any,.any,.any,.any,.any,.any,.any], loc, h⟩
theorem kar_e (hw : TC Tryz.prog Θ Γ kar_c (retQ kar_r K) ⟨[a0, a1, u,u,u,u,u,u,u,u,u,u,u,u,u,u,u,u,u,u,u,u,u,u,u,u,u], [], h⟩) : T Tryz.prog Γ Fn.kar [a0, a1] h K :=
  TB Tryz.func108 (bodyOf Tryz.f108) hw
def kaD_d0_os : List O := [mV 17 0,mV 18 5,mX 19 7 17 18,mG 20 7 19,mV 21 1,mV 22 5,mX 23 7 21 22,mG 24 7 23,mC 25 Fn.kaC [.t 20, .t 24],mU 26 25]
def kaD_d0_af : List (List Nat) := [[], [], [0, 1], [2], [], [], [4, 5], [6], [3, 7], [8]]
theorem kaD_d0_q (gl : Gl) (Q : AE → St → Prop) (s : St) : aw Tryz.prog Θ Γ gl (.regD kaD_d0_os kaD_d0_af) Q s = awpT Tryz.prog Γ gl [mV 17 0,mV 18 5,mX 19 7 17 18,mG 20 7 19,mV 21 1,mV 22 5,mX 23 7 21 22,mG 24 7 23,mC 25 Fn.kaC [.t 20, .t 24],mU 26 25] (Q .normal) 10 (.q 0 (.q 1 (.q 2 (.q 3 (.q 4 (.q 5 (.q 6 (.q 7 (.q 8 (.q 9 (.done))))))))))) s := a_dd rfl (by kernel_rfl) gl Q s
def kaD_c : C := .seq (.reg [mT 4 false]) (.seq (.seq (.reg [mV 6 0,mN 7 6,mV 8 1,mN 9 8,mB 10 .neq 7 9]) (.cond (.t 10) (.seq (.reg [mT 4 false]) .ret) .skip)) (.seq (.seq (.reg [mK 5 0]) (.block 0 (.loop (.seq (.seq (.reg [mV 11 5,mV 12 0,mN 13 12,mB 14 .lss 11 13]) (.cond (.t 14) .skip (.exit 0))) (.seq (.block 1 (.seq (.regD kaD_d0_os kaD_d0_af) (.cond (.t 26) (.seq (.reg [mT 4 false]) .ret) .skip))) (.reg [mV 15 5,mI 16 .add 15 1,mV 5 16])))))) (.seq (.reg [mT 4 true]) .ret)))
def kaD_r : List RS := [.t 4]
def kaD_s0 (t0 t1 t5 : AV) (loc : List (List AV)) (h : AH) : St := ⟨[t0, t1, .any,.any,.any, t5, .any,.any,.any,.any,.any,.any,.any,.any,.any,.any,.any,.any,.any,.any,.any,.any,.any,.any,.any,.any,.any], loc, h⟩
theorem kaD_e (hw : TC Tryz.prog Θ Γ kaD_c (retQ kaD_r K) ⟨[a0, a1, u,u,u,u,u,u,u,u,u,u,u,u,u,u,u,u,u,u,u,u,u,u,u,u,u], [], h⟩) : T Tryz.prog Γ Fn.kaD [a0, a1] h K :=
  TB Tryz.func109 (bodyOf Tryz.f109) hw
def kaw_d0_os : List O := [mV 17 0,mV 18 5,mX 19 7 17 18,mG 20 7 19,mV 21 1,mV 22 5,mX 23 7 21 22,mG 24 7 23,mC 25 Fn.kav [.t 20, .t 24],mU 26 25]
def kaw_d0_af : List (List Nat) := [[], [], [0, 1], [2], [], [], [4, 5], [6], [3, 7], [8]]
theorem kaw_d0_q (gl : Gl) (Q : AE → St → Prop) (s : St) : aw Tryz.prog Θ Γ gl (.regD kaw_d0_os kaw_d0_af) Q s = awpT Tryz.prog Γ gl [mV 17 0,mV 18 5,mX 19 7 17 18,mG 20 7 19,mV 21 1,mV 22 5,mX 23 7 21 22,mG 24 7 23,mC 25 Fn.kav [.t 20, .t 24],mU 26 25] (Q .normal) 10 (.q 0 (.q 1 (.q 2 (.q 3 (.q 4 (.q 5 (.q 6 (.q 7 (.q 8 (.q 9 (.done))))))))))) s := a_dd rfl (by kernel_rfl) gl Q s
def kaw_c : C := .seq (.reg [mT 4 false]) (.seq (.seq (.reg [mV 6 0,mN 7 6,mV 8 1,mN 9 8,mB 10 .neq 7 9]) (.cond (.t 10) (.seq (.reg [mT 4 false]) .ret) .skip)) (.seq (.seq (.reg [mK 5 0]) (.block 0 (.loop (.seq (.seq (.reg [mV 11 5,mV 12 0,mN 13 12,mB 14 .lss 11 13]) (.cond (.t 14) .skip (.exit 0))) (.seq (.block 1 (.seq (.regD kaw_d0_os kaw_d0_af) (.cond (.t 26) (.seq (.reg [mT 4 false]) .ret) .skip))) (.reg [mV 15 5,mI 16 .add 15 1,mV 5 16])))))) (.seq (.reg [mT 4 true]) .ret)))
def kaw_r : List RS := [.t 4]
def kaw_s0 (t0 t1 t5 : AV) (loc : List (List AV)) (h : AH) : St := ⟨[t0, t1, .any,.any,.any, t5, .any,.any,.any,.any,.any,.any,.any,.any,.any,.any,.any,.any,.any,.any,.any,.any,.any,.any,.any,.any,.any], loc, h⟩
theorem kaw_e (hw : TC Tryz.prog Θ Γ kaw_c (retQ kaw_r K) ⟨[a0, a1, u,u,u,u,u,u,u,u,u,u,u,u,u,u,u,u,u,u,u,u,u,u,u,u,u], [], h⟩) : T Tryz.prog Γ Fn.kaw [a0, a1] h K :=
  TB Tryz.func110 (bodyOf Tryz.f110) hw
def kaz_d0_os : List O := [mV 17 0,mV 18 5,mX 19 13 17 18,mG 20 13 19,mV 21 1,mV 22 5,mX 23 13 21 22,mG 24 13 23,mC 25 Fn.kay [.t 20, .t 24],mU 26 25]
def kaz_d0_af : List (List Nat) := [[], [], [0, 1], [2], [], [], [4, 5], [6], [3, 7], [8]]
theorem kaz_d0_q (gl : Gl) (Q : AE → St → Prop) (s : St) : aw Tryz.prog Θ Γ gl (.regD kaz_d0_os kaz_d0_af) Q s = awpT Tryz.prog Γ gl [mV 17 0,mV 18 5,mX 19 13 17 18,mG 20 13 19,mV 21 1,mV 22 5,mX 23 13 21 22,mG 24 13 23,mC 25 Fn.kay [.t 20, .t 24],mU 26 25] (Q .normal) 10 (.q 0 (.q 1 (.q 2 (.q 3 (.q 4 (.q 5 (.q 6 (.q 7 (.q 8 (.q 9 (.done))))))))))) s := a_dd rfl (by kernel_rfl) gl Q s
def kaz_c : C := .seq (.reg [mT 4 false]) (.seq (.seq (.reg [mV 6 0,mN 7 6,mV 8 1,mN 9 8,mB 10 .neq 7 9]) (.cond (.t 10) (.seq (.reg [mT 4 false]) .ret) .skip)) (.seq (.seq (.reg [mK 5 0]) (.block 0 (.loop (.seq (.seq (.reg [mV 11 5,mV 12 0,mN 13 12,mB 14 .lss 11 13]) (.cond (.t 14) .skip (.exit 0))) (.seq (.block 1 (.seq (.regD kaz_d0_os kaz_d0_af) (.cond (.t 26) (.seq (.reg [mT 4 false]) .ret) .skip))) (.reg [mV 15 5,mI 16 .add 15 1,mV 5 16])))))) (.seq (.reg [mT 4 true]) .ret)))
def kaz_r : List RS := [.t 4]
def kaz_s0 (t0 t1 t5 : AV) (loc : List (List AV)) (h : AH) : St := ⟨[t0, t1, .any,.any,.any, t5, .any,.any,.any,.any,.any,.any,.any,.any,.any,.any,.any,.any,.any,.any,.any,.any,.any,.any,.any,.any,.any], loc, h⟩
theorem kaz_e (hw : TC Tryz.prog Θ Γ kaz_c (retQ kaz_r K) ⟨[a0, a1, u,u,u,u,u,u,u,u,u,u,u,u,u,u,u,u,u,u,u,u,u,u,u,u,u], [], h⟩) : T Tryz.prog Γ Fn.kaz [a0, a1] h K :=
  TB Tryz.func111 (bodyOf Tryz.f111) hw
def kaM_c : C := .seq (.reg [mK 4 0]) (.seq (.seq (.reg [mK 5 0]) (.block 0 (.loop (.seq (.seq (.reg [mV 6 5,mV 7 0,mN 8 7,mB 9 .lss 6 8]) (.cond (.t 9) .skip (.exit 0))) (.seq (.block 1 (.seq (.reg [mV 12 0,mV 13 5,mV 14 1,mX 15 12 12 13,mF 16 0 15,mS 1 16 14]) (.seq (.reg [mV 17 1,mI 18 .add 17 1,mV 1 18]) (.seq (.reg [mV 19 0,mV 20 5,mV 21 1,mX 22 12 19 20,mF 23 1 22,mS 1 23 21]) (.seq (.reg [mV 24 1,mI 25 .add 24 1,mV 1 25]) (.seq (.reg [mV 26 0,mV 27 5,mX 28 12 26 27,mF 29 2 28,mL 30 1 29,mV 31 1,mC 32 Fn.kaU [.t 30, .t 31],mV 1 32]) (.seq (.reg [mV 33 0,mV 34 5,mV 35 1,mX 36 12 33 34,mF 37 3 36,mS 1 37 35]) (.seq (.reg [mV 38 1,mI 39 .add 38 1,mV 1 39]) (.seq (.reg [mV 40 0,mV 41 5,mV 42 1,mX 43 12 40 41,mF 44 4 43,mF 45 0 44,mS 1 45 42]) (.seq (.reg [mV 46 1,mI 47 .add 46 1,mV 1 47]) (.seq (.reg [mV 48 0,mV 49 5,mV 50 1,mX 51 12 48 49,mF 52 4 51,mF 53 1 52,mS 1 53 50]) (.seq (.reg [mV 54 1,mI 55 .add 54 1,mV 1 55]) (.seq (.reg [mV 56 0,mV 57 5,mX 58 12 56 57,mF 59 6 58,mL 60 1 59,mV 61 1,mC 62 Fn.kaS [.t 60, .t 61],mV 1 62]) (.seq (.reg [mV 63 0,mV 64 5,mX 65 12 63 64,mF 66 7 65,mL 67 1 66,mV 68 1,mC 69 Fn.kaL [.t 67, .t 68],mV 1 69]) (.seq (.reg [mV 70 0,mV 71 5,mV 72 1,mX 73 12 70 71,mF 74 8 73,mS 1 74 72]) (.seq (.reg [mV 75 1,mI 76 .add 75 1,mV 1 76]) (.seq (.reg [mV 77 0,mV 78 5,mV 79 1,mX 80 12 77 78,mF 81 9 80,mS 1 81 79]) (.seq (.reg [mV 82 1,mI 83 .add 82 1,mV 1 83]) (.seq (.reg [mV 84 0,mV 85 5,mV 86 1,mX 87 12 84 85,mF 88 10 87,mS 1 88 86]) (.seq (.reg [mV 89 1,mI 90 .add 89 1,mV 1 90]) (.seq (.reg [mV 91 0,mV 92 5,mV 93 1,mX 94 12 91 92,mF 95 11 94,mS 1 95 93]) (.reg [mV 96 1,mI 97 .add 96 1,mV 1 97])))))))))))))))))))))) (.reg [mV 10 5,mI 11 .add 10 1,mV 5 11])))))) (.seq (.reg [mV 98 1,mV 4 98]) .ret))
def kaM_r : List RS := [.t 4]
def kaM_s0 (t0 t1 t5 : AV) (loc : List (List AV)) (h : AH) : St := ⟨[t0, t1, .any,.any,.any, t5, .any,.any,.any,.any,.any,.any,.any,.any,.any,.any,.any,.any,.any,.any,.any,.any,.any,.any,.any,.any,.any,.any,.any,.any,.any,.any,.any,.any,.any,.any,.any,.any,.any,.any,.any,.any,.any,.any,.any,.any,.any,.any,.any,.any,.any,.any,.any,.any,.any,.any,.any,.any,.any,.any,.any,.any,.any,.any,.any,.any,.any,.any,.any,.any,.any,.any,.any,.any,.any,.any,.any,.any,.any,.any,.any,.any,.any,.any,.any,.any,.any,.any,.any,.any,.any,.any,.any,.any,.any,.any,.any,.any,.any], loc, h⟩
theorem kaM_e (hw : TC Tryz.prog Θ Γ kaM_c (retQ kaM_r K) ⟨[a0, a1, u,u,u,u,u,u,u,u,u,u,u,u,u,u,u,u,u,u,u,u,u,u,u,u,u,u,u,u,u,u,u,u,u,u,u,u,u,u,u,u,u,u,u,u,u,u,u,u,u,u,u,u,u,u,u,u,u,u,u,u,u,u,u,u,u,u,u,u,u,u,u,u,u,u,u,u,u,u,u,u,u,u,u,u,u,u,u,u,u,u,u,u,u,u,u,u,u], [], h⟩) : T Tryz.prog Γ Fn.kaM [a0, a1] h K :=
  TB Tryz.func112 (bodyOf Tryz.f112) hw
def kaS_c : C := .seq (.reg [mK 4 0]) (.seq (.seq (.reg [mK 5 0]) (.block 0 (.loop (.seq (.seq (.reg [mV 6 5,mV 7 0,mN 8 7,mB 9 .lss 6 8]) (.cond (.t 9) .skip (.exit 0))) (.seq (.block 1 (.seq (.reg [mV 12 0,mV 13 5,mV 14 1,mX 15 7 12 13,mF 16 0 15,mS 1 16 14]) (.seq (.reg [mV 17 1,mI 18 .add 17 1,mV 1 18]) (.seq (.reg [mV 19 0,mV 20 5,mV 21 1,mC 22 Fn.kaT [.t 21],mX 23 7 19 20,mF 24 1 23,mS 1 24 22]) (.seq (.reg [mV 25 1,mI 26 .add 25 1,mV 1 26]) (.seq (.reg [mV 27 0,mV 28 5,mX 29 7 27 28,mF 30 2 29,mL 31 1 30,mV 32 1,mC 33 Fn.kaU [.t 31, .t 32],mV 1 33]) (.seq (.reg [mV 34 0,mV 35 5,mV 36 1,mX 37 7 34 35,mF 38 3 37,mS 1 38 36]) (.seq (.reg [mV 39 1,mI 40 .add 39 1,mV 1 40]) (.seq (.reg [mV 41 0,mV 42 5,mV 43 1,mX 44 7 41 42,mF 45 4 44,mF 46 0 45,mS 1 46 43]) (.seq (.reg [mV 47 1,mI 48 .add 47 1,mV 1 48]) (.seq (.reg [mV 49 0,mV 50 5,mV 51 1,mX 52 7 49 50,mF 53 4 52,mF 54 1 53,mS 1 54 51]) (.seq (.reg [mV 55 1,mI 56 .add 55 1,mV 1 56]) (.seq (.reg [mV 57 0,mV 58 5,mV 59 1,mX 60 7 57 58,mF 61 4 60,mF 62 2 61,mS 1 62 59]) (.reg [mV 63 1,mI 64 .add 63 1,mV 1 64])))))))))))))) (.reg [mV 10 5,mI 11 .add 10 1,mV 5 11])))))) (.seq (.reg [mV 65 1,mV 4 65]) .ret))
def kaS_r : List RS := [.t 4]
def kaS_s0 (t0 t1 t5 : AV) (loc : List (List AV)) (h : AH) : St := ⟨[t0, t1, .any,.any,.any, t5, .any,.any,.any,.any,.any,.any,.any,.any,.any,.any,.any,.any,.any,.any,.any,.any,.any,.any,.any,.any,.any,.any,.any,.any,.any,.any,.any,.any,.any,.any,.any,.any,.any,.any,.any,.any,.any,.any,.any,.any,.any,.any,.any,.any,.any,.any,.any,.any,.any,.any,.any,.any,.any,.any,.any,.any,.any,.any,.any,.any], loc, h⟩
theorem kaS_e (hw : TC Tryz.prog Θ Γ kaS_c (retQ kaS_r K) ⟨[a0, a1, u,u,u,u,u,u,u,u,u,u,u,u,u,u,u,u,u,u,u,u,u,u,u,u,u,u,u,u,u,u,u,u,u,u,u,u,u,u,u,u,u,u,u,u,u,u,u,u,u,u,u,u,u,u,u,u,u,u,u,u,u,u,u,u], [], h⟩) : T Tryz.prog Γ Fn.kaS [a0, a1] h K :=
  TB Tryz.func113 (bodyOf Tryz.f113) hw
def kaP_c : C := .seq (.reg [mK 4 0]) (.seq (.seq (.reg [mK 5 0]) (.block 0 (.loop (.seq (.seq (.reg [mV 6 5,mV 7 0,mN 8 7,mB 9 .lss 6 8]) (.cond (.t 9) .skip (.exit 0))) (.seq (.block 1 (.seq (.reg [mV 12 0,mV 13 5,mV 14 1,mX 15 7 12 13,mF 16 0 15,mS 1 16 14]) (.seq (.reg [mV 17 1,mI 18 .add 17 1,mV 1 18]) (.seq (.reg [mV 19 0,mV 20 5,mV 21 1,mI 22 .rem 21 3,mI 23 .eql 22 0,mX 24 7 19 20,mF 25 1 24,mS 1 25 23]) (.seq (.reg [mV 26 1,mI 27 .add 26 1,mV 1 27]) (.seq (.reg [mV 28 0,mV 29 5,mX 30 7 28 29,mF 31 2 30,mL 32 1 31,mV 33 1,mC 34 Fn.kaN [.t 32, .t 33],mV 1 34]) (.seq (.reg [mV 35 0,mV 36 5,mV 37 1,mX 38 7 35 36,mF 39 3 38,mS 1 39 37]) (.seq (.reg [mV 40 1,mI 41 .add 40 1,mV 1 41]) (.seq (.reg [mV 42 0,mV 43 5,mX 44 7 42 43,mF 45 4 44,mL 46 1 45,mV 47 1,mC 48 Fn.kaR [.t 46, .t 47],mV 1 48]) (.seq (.reg [mV 49 0,mV 50 5,mV 51 1,mX 52 7 49 50,mF 53 5 52,mS 1 53 51]) (.seq (.reg [mV 54 1,mI 55 .add 54 1,mV 1 55]) (.reg [mV 56 0,mV 57 5,mX 58 7 56 57,mF 59 6 58,mL 60 1 59,mV 61 1,mC 62 Fn.kaR [.t 60, .t 61],mV 1 62])))))))))))) (.reg [mV 10 5,mI 11 .add 10 1,mV 5 11])))))) (.seq (.reg [mV 63 1,mV 4 63]) .ret))
def kaP_r : List RS := [.t 4]
def kaP_s0 (t0 t1 t5 : AV) (loc : List (List AV)) (h : AH) : St := ⟨[t0, t1, .any,.any,.any, t5, .any,.any,.any,.any,.any,.any,.any,.any,.any,.any,.any,.any,.any,.any,.any,.any,.any,.any,.any,.any,.any,.any,.any,.any,.any,.any,.any,.any,.any,.any,.any,.any,.any,.any,.any,.any,.any,.any,.any,.any,.any,.any,.any,.any,.any,.any,.any,.any,.any,.any,.any,.any,.any,.any,.any,.any,.any,.any], loc, h⟩
theorem kaP_e (hw : TC Tryz.prog Θ Γ kaP_c (retQ kaP_r K) ⟨[a0, a1, u,u,u,u,u,u,u,u,u,u,u,u,u,u,u,u,u,u,u,u,u,u,u,u,u,u,u,u,u,u,u,u,u,u,u,u,u,u,u,u,u,u,u,u,u,u,u,u,u,u,u,u,u,u,u,u,u,u,u,u,u,u], [], h⟩) : T Tryz.prog Γ Fn.kaP [a0, a1] h K :=
  TB Tryz.func114 (bodyOf Tryz.f114) hw
def kaQ_c : C := .seq (.reg [mK 4 0]) (.seq (.seq (.reg [mK 5 0]) (.block 0 (.loop (.seq (.seq (.reg [mV 6 5,mV 7 0,mN 8 7,mB 9 .lss 6 8]) (.cond (.t 9) .skip (.exit 0))) (.seq (.block 1 (.seq (.reg [mV 12 0,mV 13 5,mV 14 1,mX 15 13 12 13,mF 16 0 15,mS 1 16 14]) (.seq (.reg [mV 17 1,mI 18 .add 17 1,mV 1 18]) (.seq (.reg [mV 19 0,mV 20 5,mV 21 1,mX 22 13 19 20,mF 23 1 22,mF 24 0 23,mS 1 24 21]) (.seq (.reg [mV 25 1,mI 26 .add 25 1,mV 1 26]) (.seq (.reg [mV 27 0,mV 28 5,mV 29 1,mX 30 13 27 28,mF 31 1 30,mF 32 1 31,mS 1 32 29]) (.seq (.reg [mV 33 1,mI 34 .add 33 1,mV 1 34]) (.seq (.reg [mV 35 0,mV 36 5,mV 37 1,mX 38 13 35 36,mF 39 1 38,mF 40 2 39,mS 1 40 37]) (.seq (.reg [mV 41 1,mI 42 .add 41 1,mV 1 42]) (.seq (.reg [mV 43 0,mV 44 5,mV 45 1,mX 46 13 43 44,mF 47 1 46,mF 48 3 47,mS 1 48 45]) (.seq (.reg [mV 49 1,mI 50 .add 49 1,mV 1 50]) (.seq (.reg [mV 51 0,mV 52 5,mV 53 1,mC 54 Fn.kaT [.t 53],mX 55 13 51 52,mF 56 1 55,mF 57 4 56,mS 1 57 54]) (.seq (.reg [mV 58 1,mI 59 .add 58 1,mV 1 59]) (.seq (.reg [mV 60 0,mV 61 5,mX 62 13 60 61,mF 63 1 62,mF 64 5 63,mL 65 1 64,mV 66 1,mC 67 Fn.kaW [.t 65, .t 66],mV 1 67]) (.seq (.reg [mV 68 0,mV 69 5,mV 70 1,mX 71 13 68 69,mF 72 1 71,mF 73 6 72,mF 74 0 73,mS 1 74 70]) (.seq (.reg [mV 75 1,mI 76 .add 75 1,mV 1 76]) (.seq (.reg [mV 77 0,mV 78 5,mV 79 1,mX 80 13 77 78,mF 81 1 80,mF 82 6 81,mF 83 1 82,mS 1 83 79]) (.seq (.reg [mV 84 1,mI 85 .add 84 1,mV 1 85]) (.seq (.reg [mV 86 0,mV 87 5,mV 88 1,mX 89 13 86 87,mF 90 1 89,mF 91 8 90,mS 1 91 88]) (.seq (.reg [mV 92 1,mI 93 .add 92 1,mV 1 93]) (.seq (.reg [mV 94 0,mV 95 5,mV 96 1,mX 97 13 94 95,mF 98 1 97,mF 99 9 98,mF 100 0 99,mS 1 100 96]) (.seq (.reg [mV 101 1,mI 102 .add 101 1,mV 1 102]) (.seq (.reg [mV 103 0,mV 104 5,mV 105 1,mX 106 13 103 104,mF 107 1 106,mF 108 9 107,mF 109 1 108,mS 1 109 105]) (.seq (.reg [mV 110 1,mI 111 .add 110 1,mV 1 111]) (.seq (.reg [mV 112 0,mV 113 5,mV 114 1,mX 115 13 112 113,mF 116 1 115,mF 117 9 116,mF 118 2 117,mS 1 118 114]) (.reg [mV 119 1,mI 120 .add 119 1,mV 1 120])))))))))))))))))))))))))) (.reg [mV 10 5,mI 11 .add 10 1,mV 5 11])))))) (.seq (.reg [mV 121 1,mV 4 121]) .ret))
def kaQ_r : List RS := [.t 4]
def kaQ_s0 (t0 t1 t5 : AV) (loc : List (List AV)) (h : AH) : St := ⟨[t0, t1, .any,.any,.any, t5, .any,.any,.any,.any,.any,.any,.any,.any,.any,.any,.any,.any,.any,.any,.any,.any,.any,.any,.any,.any,.any,.any,.any,.any,.any,.any,.any,.any,.any,.any,.any,.any,.any,.any,.any,.any,.any,.any,.any,.any,.any,.any,.any,.any,.any,.any,.any,.any,.any,.any,.any,.any,.any,.any,.any,.any,.any,.any,.any,.any,.any,.any,.any,.any,.any,.any,.any,.any,.any,.any,.any,.any,.any,.any,.any,.any,.any,.any,.any,.any,.any,.any,.any,.any,.any,.any,.any,.any,.any,.any,.any,.any,.any,.any,.any,.any,.any,.any,.any,.any,.any,.any,.any,.any,.any,.any,.any,.any,.any,.any,.any,.any,.any,.any,.any,.any], loc, h⟩
theorem kaQ_e (hw : TC Tryz.prog Θ Γ kaQ_c (retQ kaQ_r K) ⟨[a0, a1, u,u,u,u,u,u,u,u,u,u,u,u,u,u,u,u,u,u,u,u,u,u,u,u,u,u,u,u,u,u,u,u,u,u,u,u,u,u,u,u,u,u,u,u,u,u,u,u,u,u,u,u,u,u,u,u,u,u,u,u,u,u,u,u,u,u,u,u,u,u,u,u,u,u,u,u,u,u,u,u,u,u,u,u,u,u,u,u,u,u,u,u,u,u,u,u,u,u,u,u,u,u,u,u,u,u,u,u,u,u,u,u,u,u,u,u,u,u,u,u], [], h⟩) : T Tryz.prog Γ Fn.kaQ [a0, a1] h K :=
  TB Tryz.func115 (bodyOf Tryz.f115) hw
def kbG_c : C := .seq (.reg [⟨(some 2), none, .alloc [.int .i64 0,.int .i64 0]⟩]) (.seq (.reg [mV 3 0,⟨(some 4), none, .build [.int .i64 0,.int .i64 0] [(0, 1, .c (.int .i64 1)), (1, 1, .t 3)]⟩,mS 2 2 4]) .ret)
def kbG_r : List RS := [.cell 2 2 true]
theorem kbG_e (hw : TC Tryz.prog Θ Γ kbG_c (retQ kbG_r K) ⟨[a0, u,u,u,u], [], h⟩) : T Tryz.prog Γ Fn.kbG [a0] h K :=
  TB Tryz.func132 (bodyOf Tryz.f132) hw
def kbA_c : C := .seq (.reg [⟨(some 0), none, .alloc [.int .i64 0,.int .i64 0]⟩]) (.seq (.reg [⟨(some 1), none, .build [.int .i64 0,.int .i64 0] [(0, 1, .c (.int .i64 2))]⟩,mS 2 0 1]) .ret)
def kbA_r : List RS := [.cell 0 2 true]
theorem kbA_e (hw : TC Tryz.prog Θ Γ kbA_c (retQ kbA_r K) ⟨[u,u], [], h⟩) : T Tryz.prog Γ Fn.kbA [] h K :=
  TB Tryz.func133 (bodyOf Tryz.f133) hw
def kam_c : C := .seq (.reg [mT 6 false]) (.seq (.reg [mV 7 1,mV 8 0,mB 9 .leq 7 8,mV 10 9,⟨(some 11), (some (3, true)), .mov (.t 0)⟩,⟨(some 12), (some (3, true)), .mov (.t 2)⟩,⟨(some 13), (some (3, true)), .bin .leq (.num) (.t 11) (.t 12)⟩,⟨(some 14), none, .pick (.t 10) (.t 13) (.c (.bool false))⟩,mV 6 14]) .ret)
def kam_r : List RS := [.t 6]
theorem kam_e (hw : TC Tryz.prog Θ Γ kam_c (retQ kam_r K) ⟨[a0, a1, a2, u,u,u,u,u,u,u,u,u,u,u,u], [], h⟩) : T Tryz.prog Γ Fn.kam [a0, a1, a2] h K :=
  TB Tryz.func160 (bodyOf Tryz.f160) hw
def kak_c : C := .seq (.reg [mA 3 1,⟨(some 4), none, .mov (.c (.nilp))⟩]) (.seq (.seq (.reg [mF 5 0 3,mL 6 1 5,mI 7 .neq 6 1]) (.cond (.t 7) (.seq (.reg [⟨(some 4), none, .mov (.c (.nilp))⟩]) .ret) .skip)) (.seq (.reg [mV 8 0,mF 9 1 3,mL 10 1 9,mC 11 Fn.kai [.t 8, .t 10],mV 4 11]) .ret))
def kak_r : List RS := [.t 4]
theorem kak_e (hw : TC Tryz.prog Θ Γ kak_c (retQ kak_r K) ⟨[a0, a1, u,u,u,u,u,u,u,u,u,u], [], h⟩) : T Tryz.prog Γ Fn.kak [a0, a1] h K :=
  TB Tryz.func161 (bodyOf Tryz.f161) hw
def kac_c : C := .seq (.reg [mA 2 0,mA 3 1,mK 4 0]) (.seq (.reg [mF 5 3 2,mL 6 1 5,⟨(some 7), none, .mkf Fn.kad [] [.t 3]⟩,mC 8 Fn.kby [.t 6, .t 7],mV 4 8]) .ret)
def kac_r : List RS := [.t 4]
theorem kac_e (hw : TC Tryz.prog Θ Γ kac_c (retQ kac_r K) ⟨[a0, a1, u,u,u,u,u,u,u], [], h⟩) : T Tryz.prog Γ Fn.kac [a0, a1] h K :=
  TB Tryz.func169 (bodyOf Tryz.f169) hw
def kaY_c : C := .seq (.reg [mA 2 0,mK 4 0]) (.seq (.reg [mF 5 2 2,mL 6 1 5,mV 7 1,mC 8 Fn.ka9 [.t 6, .t 7],mV 1 8]) (.seq (.seq (.reg [mV 9 1,mI 10 .lss 9 0]) (.cond (.t 10) (.seq (.reg [mK 4 (-1)]) .ret) .skip)) (.seq (.reg [mF 11 6 2,mL 12 1 11,mV 13 1,mC 14 Fn.ka8 [.t 12, .t 13],mV 1 14]) (.seq (.seq (.reg [mV 15 1,mI 16 .lss 15 0]) (.cond (.t 16) (.seq (.reg [mK 4 (-1)]) .ret) .skip)) (.seq (.reg [mF 17 7 2,mL 18 1 17,mV 19 1,mC 20 Fn.kaX [.t 18, .t 19],mV 1 20]) (.seq (.seq (.reg [mV 21 1,mI 22 .lss 21 0]) (.cond (.t 22) (.seq (.reg [mK 4 (-1)]) .ret) .skip)) (.seq (.reg [mV 23 1,mV 4 23]) .ret)))))))
def kaY_r : List RS := [.t 4]
theorem kaY_e (hw : TC Tryz.prog Θ Γ kaY_c (retQ kaY_r K) ⟨[a0, a1, u,u,u,u,u,u,u,u,u,u,u,u,u,u,u,u,u,u,u,u,u,u], [], h⟩) : T Tryz.prog Γ Fn.kaY [a0, a1] h K :=
  TB Tryz.func173 (bodyOf Tryz.f173) hw
def ka7_c : C := .seq (.reg [mA 2 0,mK 4 0]) (.seq (.reg [mV 5 1,mF 6 1 2,mL 7 1 6,⟨(some 8), none, .len true (.t 7)⟩,mB 9 .sub 5 8,mV 1 9]) (.seq (.seq (.reg [mV 10 1,mI 11 .lss 10 0]) (.cond (.t 11) (.seq (.reg [mK 4 (-1)]) .ret) .skip)) (.seq (.reg [mF 12 2 2,mL 13 1 12,mV 14 1,mC 15 Fn.ka9 [.t 13, .t 14],mV 1 15]) (.seq (.seq (.reg [mV 16 1,mI 17 .lss 16 0]) (.cond (.t 17) (.seq (.reg [mK 4 (-1)]) .ret) .skip)) (.seq (.reg [mV 18 1,mV 4 18]) .ret)))))
def ka7_r : List RS := [.t 4]
theorem ka7_e (hw : TC Tryz.prog Θ Γ ka7_c (retQ ka7_r K) ⟨[a0, a1, u,u,u,u,u,u,u,u,u,u,u,u,u,u,u,u,u], [], h⟩) : T Tryz.prog Γ Fn.ka7 [a0, a1] h K :=
  TB Tryz.func174 (bodyOf Tryz.f174) hw
def ka1_c : C := .seq (.reg [mA 2 0,mK 4 0]) (.seq (.reg [mF 5 2 2,mL 6 1 5,mV 7 1,mC 8 Fn.ka0 [.t 6, .t 7],mV 1 8]) (.seq (.seq (.reg [mV 9 1,mI 10 .lss 9 0]) (.cond (.t 10) (.seq (.reg [mK 4 (-1)]) .ret) .skip)) (.seq (.reg [mF 11 4 2,mL 12 1 11,mV 13 1,mC 14 Fn.ka6 [.t 12, .t 13],mV 1 14]) (.seq (.seq (.reg [mV 15 1,mI 16 .lss 15 0]) (.cond (.t 16) (.seq (.reg [mK 4 (-1)]) .ret) .skip)) (.seq (.reg [mF 17 6 2,mL 18 1 17,mV 19 1,mC 20 Fn.ka6 [.t 18, .t 19],mV 1 20]) (.seq (.seq (.reg [mV 21 1,mI 22 .lss 21 0]) (.cond (.t 22) (.seq (.reg [mK 4 (-1)]) .ret) .skip)) (.seq (.reg [mV 23 1,mV 4 23]) .ret)))))))
def ka1_r : List RS := [.t 4]
theorem ka1_e (hw : TC Tryz.prog Θ Γ ka1_c (retQ ka1_r K) ⟨[a0, a1, u,u,u,u,u,u,u,u,u,u,u,u,u,u,u,u,u,u,u,u,u,u], [], h⟩) : T Tryz.prog Γ Fn.ka1 [a0, a1] h K :=
  TB Tryz.func175 (bodyOf Tryz.f175) hw
def ka4_c : C := .seq (.reg [mA 2 0,mK 4 0]) (.seq (.reg [mF 5 1 2,mG 6 12 5,mV 7 1,mC 8 Fn.ka3 [.t 6, .t 7],mV 1 8]) (.seq (.seq (.reg [mV 9 1,mI 10 .lss 9 0]) (.cond (.t 10) (.seq (.reg [mK 4 (-1)]) .ret) .skip)) (.seq (.reg [mV 11 1,mV 4 11]) .ret)))
def ka4_r : List RS := [.t 4]
theorem ka4_e (hw : TC Tryz.prog Θ Γ ka4_c (retQ ka4_r K) ⟨[a0, a1, u,u,u,u,u,u,u,u,u,u], [], h⟩) : T Tryz.prog Γ Fn.ka4 [a0, a1] h K :=
  TB Tryz.func176 (bodyOf Tryz.f176) hw
def kbD_c : C := .seq (.reg [mA 2 0,mA 3 1,⟨(some 4), none, .alloc [.int .i64 0,.int .i64 0]⟩]) (.seq (.seq (.reg [mK 5 0]) (.block 0 (.loop (.seq (.seq (.reg [mV 7 5,mF 8 1 2,mL 9 1 8,mN 10 9,mB 11 .leq 7 10]) (.cond (.t 11) .skip (.exit 0))) (.seq (.block 1 (.seq (.seq (.reg [mF 14 0 3,mL 15 1 14,mI 16 .neq 15 1,mV 17 16,⟨(some 18), (some (3, false)), .fld 1 (.t 3)⟩,⟨(some 19), (some (3, false)), .load 1 false (.t 18)⟩,⟨(some 20), (some (3, false)), .fld 1 (.t 2)⟩,⟨(some 21), (some (3, false)), .load 1 false (.t 20)⟩,⟨(some 22), (some (3, false)), .len false (.t 21)⟩,⟨(some 23), (some (3, false)), .bin .sub (.num) (.t 22) (.c (.int .i64 1))⟩,⟨(some 24), (some (3, false)), .call (.c (.fn Fn.kbI [] [])) [.t 19, .c (.int .i64 0), .t 23]⟩,⟨(some 25), (some (3, false)), .un .not (.t 24)⟩,⟨(some 26), none, .pick (.t 17) (.c (.bool true)) (.t 25)⟩]) (.cond (.t 26) (.seq (.reg [mG 27 2 3,mS 2 4 27]) .ret) .skip)) (.seq (.reg [mF 28 1 2,mL 29 1 28,mF 30 1 3,mL 31 1 30,mX 32 12 29 31,mG 33 12 32,⟨(some 6), none, .alloc [.int .i64 0,.int .i64 0, .nils, .int .i64 0,.int .i64 0,.int .i64 0, .nils, .nils, .int .i64 0,.int .i64 0,.int .i64 0,.int .i64 0]⟩,mS 12 6 33]) (.seq (.seq (.reg [mF 34 0 6,mL 35 1 34,mI 36 .neq 35 2,mV 37 36,⟨(some 38), (some (3, false)), .fld 3 (.t 6)⟩,⟨(some 39), (some (3, false)), .load 1 false (.t 38)⟩,⟨(some 40), (some (3, false)), .bin .neq (.num) (.t 39) (.c (.int .i64 2))⟩,⟨(some 41), none, .pick (.t 37) (.c (.bool true)) (.t 40)⟩]) (.cond (.t 41) (.seq (.reg [mG 42 2 3,mS 2 4 42]) .ret) .skip)) (.reg [mF 43 4 6,mG 44 2 43,mS 2 3 44]))))) (.reg [mV 12 5,mI 13 .add 12 1,mV 5 13])))))) (.seq (.reg [mC 45 Fn.kbA [],mS 2 4 45]) .ret))
def kbD_r : List RS := [.cell 4 2 true]
def kbD_s0 (t2 t3 t4 t5 : AV) (loc : List (List AV)) (h : AH) : St := ⟨[.any,.any, t2, t3, t4, t5, .any,.any,.any,.any,.any,.any,.any,.any,.any,.any,.any,.any,.any,.any,.any,.any,.any,.any,.any,.any,.any,.any,.any,.any,.any,.any,.any,.any,.any,.any,.any,.any,.any,.any,.any,.any,.any,.any,.any,.any], loc, h⟩
theorem kbD_e (hw : TC Tryz.prog Θ Γ kbD_c (retQ kbD_r K) ⟨[a0, a1, u,u,u,u,u,u,u,u,u,u,u,u,u,u,u,u,u,u,u,u,u,u,u,u,u,u,u,u,u,u,u,u,u,u,u,u,u,u,u,u,u,u,u,u], [], h⟩) : T Tryz.prog Γ Fn.kbD [a0, a1] h K :=
  TB Tryz.func177 (bodyOf Tryz.f177) hw
def kbe_c : C := .seq (.reg [mA 1 0,⟨(some 2), none, .alloc [.int .i64 0,.int .i64 0, .nils, .int .i64 0,.int .i64 0,.int .i64 0, .nils, .nils, .int .i64 0,.int .i64 0,.int .i64 0,.int .i64 0]⟩]) (.seq (.reg [⟨(some 3), none, .alloc [.int .i64 0,.int .i64 0, .nils, .int .i64 0,.int .i64 0,.int .i64 0, .nils, .nils, .int .i64 0,.int .i64 0,.int .i64 0,.int .i64 0]⟩]) (.seq (.reg [mF 4 0 1,mL 5 1 4,mF 6 0 3,mS 1 6 5]) (.seq (.reg [mF 7 1 1,mL 8 1 7,mF 9 1 3,mS 1 9 8]) (.seq (.reg [mF 10 2 1,mL 11 1 10,mC 12 Fn.kbt [.t 11],mF 13 2 3,mS 1 13 12]) (.seq (.reg [mF 14 3 1,mL 15 1 14,mF 16 3 3,mS 1 16 15]) (.seq (.reg [mF 17 4 1,mG 18 2 17,mC 19 Fn.kbs [.t 18],mF 20 4 3,mS 2 20 19]) (.seq (.reg [mF 21 6 1,mL 22 1 21,mC 23 Fn.kbq [.t 22],mF 24 6 3,mS 1 24 23]) (.seq (.reg [mF 25 7 1,mL 26 1 25,mC 27 Fn.kbd [.t 26],mF 28 7 3,mS 1 28 27]) (.seq (.reg [mF 29 8 1,mL 30 1 29,mF 31 8 3,mS 1 31 30]) (.seq (.reg [mF 32 9 1,mL 33 1 32,mF 34 9 3,mS 1 34 33]) (.seq (.reg [mF 35 10 1,mL 36 1 35,mF 37 10 3,mS 1 37 36]) (.seq (.reg [mF 38 11 1,mL 39 1 38,mF 40 11 3,mS 1 40 39]) (.seq (.reg [mG 41 12 3,mS 12 2 41]) .ret)))))))))))))
def kbe_r : List RS := [.cell 2 12 true]
theorem kbe_e (hw : TC Tryz.prog Θ Γ kbe_c (retQ kbe_r K) ⟨[a0, u,u,u,u,u,u,u,u,u,u,u,u,u,u,u,u,u,u,u,u,u,u,u,u,u,u,u,u,u,u,u,u,u,u,u,u,u,u,u,u,u], [], h⟩) : T Tryz.prog Γ Fn.kbe [a0] h K :=
  TB Tryz.func178 (bodyOf Tryz.f178) hw
def kbp_c : C := .seq (.reg [mA 1 0,⟨(some 2), none, .alloc [.int .i64 0, .str ⟨#[]⟩, .nils, .int .i64 0,.int .i64 0,.int .i64 0,.int .i64 0]⟩]) (.seq (.reg [⟨(some 3), none, .alloc [.int .i64 0, .str ⟨#[]⟩, .nils, .int .i64 0,.int .i64 0,.int .i64 0,.int .i64 0]⟩]) (.seq (.reg [mF 4 0 1,mL 5 1 4,mF 6 0 3,mS 1 6 5]) (.seq (.reg [mF 7 1 1,mL 8 1 7,mF 9 1 3,mS 1 9 8]) (.seq (.reg [mF 10 2 1,mL 11 1 10,mC 12 Fn.kbt [.t 11],mF 13 2 3,mS 1 13 12]) (.seq (.reg [mF 14 3 1,mL 15 1 14,mF 16 3 3,mS 1 16 15]) (.seq (.reg [mF 17 4 1,mG 18 3 17,mC 19 Fn.kbr [.t 18],mF 20 4 3,mS 3 20 19]) (.seq (.reg [mG 21 7 3,mS 7 2 21]) .ret)))))))
def kbp_r : List RS := [.cell 2 7 true]
theorem kbp_e (hw : TC Tryz.prog Θ Γ kbp_c (retQ kbp_r K) ⟨[a0, u,u,u,u,u,u,u,u,u,u,u,u,u,u,u,u,u,u,u,u,u], [], h⟩) : T Tryz.prog Γ Fn.kbp [a0] h K :=
  TB Tryz.func179 (bodyOf Tryz.f179) hw
def kbi_c : C := .seq (.reg [mA 1 0,⟨(some 2), none, .alloc [.int .i64 0, .bool false, .nils, .int .i64 0, .nils, .int .i64 0, .nils]⟩]) (.seq (.reg [⟨(some 3), none, .alloc [.int .i64 0, .bool false, .nils, .int .i64 0, .nils, .int .i64 0, .nils]⟩]) (.seq (.reg [mF 4 0 1,mL 5 1 4,mF 6 0 3,mS 1 6 5]) (.seq (.reg [mF 7 1 1,mL 8 1 7,mF 9 1 3,mS 1 9 8]) (.seq (.reg [mF 10 2 1,mL 11 1 10,mC 12 Fn.kbh [.t 11],mF 13 2 3,mS 1 13 12]) (.seq (.reg [mF 14 3 1,mL 15 1 14,mF 16 3 3,mS 1 16 15]) (.seq (.reg [mF 17 4 1,mL 18 1 17,mC 19 Fn.kbo [.t 18],mF 20 4 3,mS 1 20 19]) (.seq (.reg [mF 21 5 1,mL 22 1 21,mF 23 5 3,mS 1 23 22]) (.seq (.reg [mF 24 6 1,mL 25 1 24,mC 26 Fn.kbo [.t 25],mF 27 6 3,mS 1 27 26]) (.seq (.reg [mG 28 7 3,mS 7 2 28]) .ret)))))))))
def kbi_r : List RS := [.cell 2 7 true]
theorem kbi_e (hw : TC Tryz.prog Θ Γ kbi_c (retQ kbi_r K) ⟨[a0, u,u,u,u,u,u,u,u,u,u,u,u,u,u,u,u,u,u,u,u,u,u,u,u,u,u,u,u], [], h⟩) : T Tryz.prog Γ Fn.kbi [a0] h K :=
  TB Tryz.func180 (bodyOf Tryz.f180) hw
def kbl_c : C := .seq (.reg [mA 1 0,⟨(some 2), none, .alloc [.int .i64 0,.int .i64 0,.int .i64 0,.int .i64 0,.int .i64 0, .str ⟨#[]⟩, .nils, .int .i64 0,.int .i64 0,.int .i64 0,.int .i64 0,.int .i64 0,.int .i64 0]⟩]) (.seq (.reg [⟨(some 3), none, .alloc [.int .i64 0,.int .i64 0,.int .i64 0,.int .i64 0,.int .i64 0, .str ⟨#[]⟩, .nils, .int .i64 0,.int .i64 0,.int .i64 0,.int .i64 0,.int .i64 0,.int .i64 0]⟩]) (.seq (.reg [mF 4 0 1,mL 5 1 4,mF 6 0 3,mS 1 6 5]) (.seq (.reg [mF 7 1 1,mG 8 12 7,mC 9 Fn.kbk [.t 8],mF 10 1 3,mS 12 10 9]) (.seq (.reg [mG 11 13 3,mS 13 2 11]) .ret))))
def kbl_r : List RS := [.cell 2 13 true]
theorem kbl_e (hw : TC Tryz.prog Θ Γ kbl_c (retQ kbl_r K) ⟨[a0, u,u,u,u,u,u,u,u,u,u,u], [], h⟩) : T Tryz.prog Γ Fn.kbl [a0] h K :=
  TB Tryz.func181 (bodyOf Tryz.f181) hw
def kal_c : C := .seq (.reg [⟨(some 4), none, .mov (.c (.nils))⟩]) (.seq (.reg [⟨(some 7), none, .bsl 1 0 [.int .i64 0] []⟩,mV 5 7]) (.seq (.seq (.reg [mV 8 0,⟨(some 9), none, .nilchk (.t 8)⟩,mF 10 1 9,mL 11 1 10,mN 12 11,mK 13 0]) (.block 0 (.loop (.seq (.reg [mB 14 .lss 13 12]) (.seq (.cond (.t 14) .skip (.exit 0)) (.seq (.block 1 (.seq (.reg [mV 15 13,mV 6 15]) (.seq (.reg [mV 16 1,mV 17 0,⟨(some 18), none, .nilchk (.t 17)⟩,mF 19 1 18,mL 20 1 19,mV 21 6,mX 22 12 20 21,⟨(some 23), none, .call (.t 16) [.t 22]⟩]) (.cond (.t 23) (.reg [mV 24 5,mV 25 6,⟨(some 26), none, .bsl 1 1 [.int .i64 0] [(0, .t 25)]⟩,⟨(some 27), none, .app 1 8 [.int .i64 0] false (.t 24) (.t 26)⟩,mV 5 27]) .skip)))) (.reg [mI 28 .add 13 1,mV 13 28]))))))) (.seq (.reg [mV 29 5,mV 4 29]) .ret)))
def kal_r : List RS := [.t 4]
def kal_s0 (t0 t1 t5 t12 t13 : AV) (loc : List (List AV)) (h : AH) : St := ⟨[t0, t1, .any,.any,.any, t5, .any,.any,.any,.any,.any,.any, t12, t13, .any,.any,.any,.any,.any,.any,.any,.any,.any,.any,.any,.any,.any,.any,.any,.any], loc, h⟩
theorem kal_e (hw : TC Tryz.prog Θ Γ kal_c (retQ kal_r K) ⟨[a0, a1, u,u,u,u,u,u,u,u,u,u,u,u,u,u,u,u,u,u,u,u,u,u,u,u,u,u,u,u], [], h⟩) : T Tryz.prog Γ Fn.kal [a0, a1] h K :=
  TB Tryz.func182 (bodyOf Tryz.f182) hw
def kag_d0_os : List O := [mV 4 0,⟨(some 5), none, .nilchk (.t 4)⟩,mF 6 0 5,mL 7 1 6,mI 8 .eql 7 3,mV 9 8,⟨(some 10), (some (5, true)), .mov (.t 0)⟩,⟨(some 11), (some (5, true)), .nilchk (.t 10)⟩,⟨(some 12), (some (5, true)), .fld 8 (.t 11)⟩,⟨(some 13), (some (5, true)), .load 1 false (.t 12)⟩,⟨(some 14), (some (5, true)), .load 1 false (.t 1)⟩,⟨(some 15), (some (5, true)), .bin .eql (.num) (.t 13) (.t 14)⟩,⟨(some 16), none, .pick (.t 9) (.t 15) (.c (.bool false))⟩,mV 3 16]
def kag_d0_af : List (List Nat) := [[], [0], [1], [2], [3], [4], [5], [6, 5], [7, 5], [8, 5], [5], [9, 10, 5], [5, 11], [12, 5, 0, 1, 2, 3, 4, 5, 6, 7, 8, 9, 10, 11, 12]]
theorem kag_d0_q (gl : Gl) (Q : AE → St → Prop) (s : St) : aw Tryz.prog Θ Γ gl (.regD kag_d0_os kag_d0_af) Q s = awpOps Tryz.prog Γ gl [mV 4 0,⟨(some 5), none, .nilchk (.t 4)⟩,mF 6 0 5,mL 7 1 6,mI 8 .eql 7 3,mV 9 8,⟨(some 10), (some (5, true)), .mov (.t 0)⟩,⟨(some 11), (some (5, true)), .nilchk (.t 10)⟩,⟨(some 12), (some (5, true)), .fld 8 (.t 11)⟩,⟨(some 13), (some (5, true)), .load 1 false (.t 12)⟩,⟨(some 14), (some (5, true)), .load 1 false (.t 1)⟩,⟨(some 15), (some (5, true)), .bin .eql (.num) (.t 13) (.t 14)⟩,⟨(some 16), none, .pick (.t 9) (.t 15) (.c (.bool false))⟩,mV 3 16] [mV 4 0,⟨(some 5), none, .nilchk (.t 4)⟩,mF 6 0 5,mL 7 1 6,mI 8 .eql 7 3,mV 9 8,⟨(some 10), (some (5, true)), .mov (.t 0)⟩,⟨(some 11), (some (5, true)), .nilchk (.t 10)⟩,⟨(some 12), (some (5, true)), .fld 8 (.t 11)⟩,⟨(some 13), (some (5, true)), .load 1 false (.t 12)⟩,⟨(some 14), (some (5, true)), .load 1 false (.t 1)⟩,⟨(some 15), (some (5, true)), .bin .eql (.num) (.t 13) (.t 14)⟩,⟨(some 16), none, .pick (.t 9) (.t 15) (.c (.bool false))⟩,mV 3 16] (Q .normal) s := a_dq (by kernel_rfl) gl Q s
def kag_c : C := .seq (.reg [mT 3 false]) (.seq (.regD kag_d0_os kag_d0_af) .ret)
def kag_r : List RS := [.t 3]
theorem kag_e (hw : TC Tryz.prog Θ Γ kag_c (retQ kag_r K) ⟨[a0, a1, u,u,u,u,u,u,u,u,u,u,u,u,u,u,u], [], h⟩) : T Tryz.prog Γ Fn.kag [a0, a1] h K :=
  TB Tryz.func183 (bodyOf Tryz.f183) hw
def kaq_c : C := .seq (.reg [mA 2 0,mA 3 1,mT 4 false]) (.seq (.seq (.reg [mF 5 0 2,mL 6 1 5,mF 7 0 3,mL 8 1 7,mB 9 .neq 6 8]) (.cond (.t 9) (.seq (.reg [mT 4 false]) .ret) .skip)) (.seq (.seq (.reg [mF 10 1 2,mL 11 1 10,mF 12 1 3,mL 13 1 12,mB 14 .neq 11 13]) (.cond (.t 14) (.seq (.reg [mT 4 false]) .ret) .skip)) (.seq (.seq (.reg [mF 15 2 2,mL 16 1 15,mF 17 2 3,mL 18 1 17,mC 19 Fn.kaG [.t 16, .t 18],mU 20 19]) (.cond (.t 20) (.seq (.reg [mT 4 false]) .ret) .skip)) (.seq (.seq (.reg [mF 21 3 2,mL 22 1 21,mF 23 3 3,mL 24 1 23,mB 25 .neq 22 24]) (.cond (.t 25) (.seq (.reg [mT 4 false]) .ret) .skip)) (.seq (.seq (.reg [mF 26 4 2,mG 27 2 26,mF 28 4 3,mG 29 2 28,mC 30 Fn.kaF [.t 27, .t 29],mU 31 30]) (.cond (.t 31) (.seq (.reg [mT 4 false]) .ret) .skip)) (.seq (.seq (.reg [mF 32 6 2,mL 33 1 32,mF 34 6 3,mL 35 1 34,mC 36 Fn.kaD [.t 33, .t 35],mU 37 36]) (.cond (.t 37) (.seq (.reg [mT 4 false]) .ret) .skip)) (.seq (.seq (.reg [mF 38 7 2,mL 39 1 38,mF 40 7 3,mL 41 1 40,mC 42 Fn.kap [.t 39, .t 41],mU 43 42]) (.cond (.t 43) (.seq (.reg [mT 4 false]) .ret) .skip)) (.seq (.seq (.reg [mF 44 8 2,mL 45 1 44,mF 46 8 3,mL 47 1 46,mB 48 .neq 45 47]) (.cond (.t 48) (.seq (.reg [mT 4 false]) .ret) .skip)) (.seq (.seq (.reg [mF 49 9 2,mL 50 1 49,mF 51 9 3,mL 52 1 51,mB 53 .neq 50 52]) (.cond (.t 53) (.seq (.reg [mT 4 false]) .ret) .skip)) (.seq (.seq (.reg [mF 54 10 2,mL 55 1 54,mF 56 10 3,mL 57 1 56,mB 58 .neq 55 57]) (.cond (.t 58) (.seq (.reg [mT 4 false]) .ret) .skip)) (.seq (.seq (.reg [mF 59 11 2,mL 60 1 59,mF 61 11 3,mL 62 1 61,mB 63 .neq 60 62]) (.cond (.t 63) (.seq (.reg [mT 4 false]) .ret) .skip)) (.seq (.reg [mT 4 true]) .ret))))))))))))
def kaq_r : List RS := [.t 4]
theorem kaq_e (hw : TC Tryz.prog Θ Γ kaq_c (retQ kaq_r K) ⟨[a0, a1, u,u,u,u,u,u,u,u,u,u,u,u,u,u,u,u,u,u,u,u,u,u,u,u,u,u,u,u,u,u,u,u,u,u,u,u,u,u,u,u,u,u,u,u,u,u,u,u,u,u,u,u,u,u,u,u,u,u,u,u,u,u], [], h⟩) : T Tryz.prog Γ Fn.kaq [a0, a1] h K :=
  TB Tryz.func186 (bodyOf Tryz.f186) hw
def kaC_c : C := .seq (.reg [mA 2 0,mA 3 1,mT 4 false]) (.seq (.seq (.reg [mF 5 0 2,mL 6 1 5,mF 7 0 3,mL 8 1 7,mB 9 .neq 6 8]) (.cond (.t 9) (.seq (.reg [mT 4 false]) .ret) .skip)) (.seq (.seq (.reg [mF 10 1 2,mL 11 1 10,mF 12 1 3,mL 13 1 12,mB 14 .neq 11 13]) (.cond (.t 14) (.seq (.reg [mT 4 false]) .ret) .skip)) (.seq (.seq (.reg [mF 15 2 2,mL 16 1 15,mF 17 2 3,mL 18 1 17,mC 19 Fn.kaG [.t 16, .t 18],mU 20 19]) (.cond (.t 20) (.seq (.reg [mT 4 false]) .ret) .skip)) (.seq (.seq (.reg [mF 21 3 2,mL 22 1 21,mF 23 3 3,mL 24 1 23,mB 25 .neq 22 24]) (.cond (.t 25) (.seq (.reg [mT 4 false]) .ret) .skip)) (.seq (.seq (.reg [mF 26 4 2,mG 27 3 26,mF 28 4 3,mG 29 3 28,mC 30 Fn.kaE [.t 27, .t 29],mU 31 30]) (.cond (.t 31) (.seq (.reg [mT 4 false]) .ret) .skip)) (.seq (.reg [mT 4 true]) .ret))))))
def kaC_r : List RS := [.t 4]
theorem kaC_e (hw : TC Tryz.prog Θ Γ kaC_c (retQ kaC_r K) ⟨[a0, a1, u,u,u,u,u,u,u,u,u,u,u,u,u,u,u,u,u,u,u,u,u,u,u,u,u,u,u,u,u,u], [], h⟩) : T Tryz.prog Γ Fn.kaC [a0, a1] h K :=
  TB Tryz.func187 (bodyOf Tryz.f187) hw
def kav_c : C := .seq (.reg [mA 2 0,mA 3 1,mT 4 false]) (.seq (.seq (.reg [mF 5 0 2,mL 6 1 5,mF 7 0 3,mL 8 1 7,mB 9 .neq 6 8]) (.cond (.t 9) (.seq (.reg [mT 4 false]) .ret) .skip)) (.seq (.seq (.reg [mF 10 1 2,mL 11 1 10,mF 12 1 3,mL 13 1 12,⟨(some 14), none, .bin .neq (.bool) (.t 11) (.t 13)⟩]) (.cond (.t 14) (.seq (.reg [mT 4 false]) .ret) .skip)) (.seq (.seq (.reg [mF 15 2 2,mL 16 1 15,mF 17 2 3,mL 18 1 17,mC 19 Fn.kat [.t 16, .t 18],mU 20 19]) (.cond (.t 20) (.seq (.reg [mT 4 false]) .ret) .skip)) (.seq (.seq (.reg [mF 21 3 2,mL 22 1 21,mF 23 3 3,mL 24 1 23,mB 25 .neq 22 24]) (.cond (.t 25) (.seq (.reg [mT 4 false]) .ret) .skip)) (.seq (.seq (.reg [mF 26 4 2,mL 27 1 26,mF 28 4 3,mL 29 1 28,mC 30 Fn.kaB [.t 27, .t 29],mU 31 30]) (.cond (.t 31) (.seq (.reg [mT 4 false]) .ret) .skip)) (.seq (.seq (.reg [mF 32 5 2,mL 33 1 32,mF 34 5 3,mL 35 1 34,mB 36 .neq 33 35]) (.cond (.t 36) (.seq (.reg [mT 4 false]) .ret) .skip)) (.seq (.seq (.reg [mF 37 6 2,mL 38 1 37,mF 39 6 3,mL 40 1 39,mC 41 Fn.kaB [.t 38, .t 40],mU 42 41]) (.cond (.t 42) (.seq (.reg [mT 4 false]) .ret) .skip)) (.seq (.reg [mT 4 true]) .ret))))))))
def kav_r : List RS := [.t 4]
theorem kav_e (hw : TC Tryz.prog Θ Γ kav_c (retQ kav_r K) ⟨[a0, a1, u,u,u,u,u,u,u,u,u,u,u,u,u,u,u,u,u,u,u,u,u,u,u,u,u,u,u,u,u,u,u,u,u,u,u,u,u,u,u,u,u], [], h⟩) : T Tryz.prog Γ Fn.kav [a0, a1] h K :=
  TB Tryz.func188 (bodyOf Tryz.f188) hw
def kay_c : C := .seq (.reg [mA 2 0,mA 3 1,mT 4 false]) (.seq (.seq (.reg [mF 5 0 2,mL 6 1 5,mF 7 0 3,mL 8 1 7,mB 9 .neq 6 8]) (.cond (.t 9) (.seq (.reg [mT 4 false]) .ret) .skip)) (.seq (.seq (.reg [mF 10 1 2,mG 11 12 10,mF 12 1 3,mG 13 12 12,mC 14 Fn.kax [.t 11, .t 13],mU 15 14]) (.cond (.t 15) (.seq (.reg [mT 4 false]) .ret) .skip)) (.seq (.reg [mT 4 true]) .ret)))
def kay_r : List RS := [.t 4]
theorem kay_e (hw : TC Tryz.prog Θ Γ kay_c (retQ kay_r K) ⟨[a0, a1, u,u,u,u,u,u,u,u,u,u,u,u,u,u], [], h⟩) : T Tryz.prog Γ Fn.kay [a0, a1] h K :=
  TB Tryz.func189 (bodyOf Tryz.f189) hw
def kaU_c : C := .seq (.reg [mK 4 0]) (.seq (.seq (.reg [mK 5 0]) (.block 0 (.loop (.seq (.seq (.reg [mV 6 5,mV 7 0,mN 8 7,mB 9 .lss 6 8]) (.cond (.t 9) .skip (.exit 0))) (.seq (.block 1 (.seq (.reg [mV 12 0,mV 13 5,mV 14 1,mX 15 2 12 13,mF 16 0 15,mS 1 16 14]) (.seq (.reg [mV 17 1,mI 18 .add 17 1,mV 1 18]) (.seq (.reg [mV 19 0,mV 20 5,mV 21 1,mX 22 2 19 20,mF 23 1 22,mS 1 23 21]) (.reg [mV 24 1,mI 25 .add 24 1,mV 1 25]))))) (.reg [mV 10 5,mI 11 .add 10 1,mV 5 11])))))) (.seq (.reg [mV 26 1,mV 4 26]) .ret))
def kaU_r : List RS := [.t 4]
def kaU_s0 (t0 t1 t5 : AV) (loc : List (List AV)) (h : AH) : St := ⟨[t0, t1, .any,.any,.any, t5, .any,.any,.any,.any,.any,.any,.any,.any,.any,.any,.any,.any,.any,.any,.any,.any,.any,.any,.any,.any,.any], loc, h⟩
theorem kaU_e (hw : TC Tryz.prog Θ Γ kaU_c (retQ kaU_r K) ⟨[a0, a1, u,u,u,u,u,u,u,u,u,u,u,u,u,u,u,u,u,u,u,u,u,u,u,u,u], [], h⟩) : T Tryz.prog Γ Fn.kaU [a0, a1] h K :=
  TB Tryz.func190 (bodyOf Tryz.f190) hw
def kaL_c : C := .seq (.reg [mK 4 0]) (.seq (.seq (.reg [mK 5 0]) (.block 0 (.loop (.seq (.seq (.reg [mV 6 5,mV 7 0,mN 8 7,mB 9 .lss 6 8]) (.cond (.t 9) .skip (.exit 0))) (.seq (.block 1 (.seq (.reg [mV 12 0,mV 13 5,mV 14 1,mX 15 2 12 13,mF 16 0 15,mS 1 16 14]) (.seq (.reg [mV 17 1,mI 18 .add 17 1,mV 1 18]) (.seq (.reg [mV 19 0,mV 20 5,mV 21 1,mX 22 2 19 20,mF 23 1 22,mS 1 23 21]) (.reg [mV 24 1,mI 25 .add 24 1,mV 1 25]))))) (.reg [mV 10 5,mI 11 .add 10 1,mV 5 11])))))) (.seq (.reg [mV 26 1,mV 4 26]) .ret))
def kaL_r : List RS := [.t 4]
def kaL_s0 (t0 t1 t5 : AV) (loc : List (List AV)) (h : AH) : St := ⟨[t0, t1, .any,.any,.any, t5, .any,.any,.any,.any,.any,.any,.any,.any,.any,.any,.any,.any,.any,.any,.any,.any,.any,.any,.any,.any,.any], loc, h⟩
theorem kaL_e (hw : TC Tryz.prog Θ Γ kaL_c (retQ kaL_r K) ⟨[a0, a1, u,u,u,u,u,u,u,u,u,u,u,u,u,u,u,u,u,u,u,u,u,u,u,u,u], [], h⟩) : T Tryz.prog Γ Fn.kaL [a0, a1] h K :=
  TB Tryz.func191 (bodyOf Tryz.f191) hw
def kaT_c : C := .seq (.reg [⟨(some 2), none, .mov (.c (.str ⟨#[]⟩))⟩]) (.seq (.seq (.reg [mV 4 0,mI 5 .leq 4 0]) (.cond (.t 5) (.seq (.reg [⟨(some 2), none, .mov (.c (.str ⟨#[109, 48]⟩))⟩]) .ret) .skip)) (.seq (.reg [⟨(some 3), none, .mov (.c (.str ⟨#[]⟩))⟩]) (.seq (.block 0 (.loop (.seq (.seq (.reg [mV 6 0,mI 7 .gtr 6 0]) (.cond (.t 7) .skip (.exit 0))) (.block 1 (.seq (.reg [mV 8 0,mI 9 .rem 8 10,⟨(some 10), none, .bin .add (.num) (.c (.int .i64 48)) (.t 9)⟩,⟨(some 11), none, .cvi .u8 (.t 10)⟩,⟨(some 12), none, .bsl 1 1 [.int .u8 0] [(0, .t 11)]⟩,⟨(some 13), none, .cvt (.t 12)⟩,mV 14 3,mB 15 .add 13 14,mV 3 15]) (.reg [mV 16 0,mI 17 .quo 16 10,mV 0 17])))))) (.seq (.reg [mV 18 3,⟨(some 19), none, .bin .add (.num) (.c (.str ⟨#[109]⟩)) (.t 18)⟩,mV 2 19]) .ret))))
def kaT_r : List RS := [.t 2]
def kaT_s0 (t0 t3 : AV) (loc : List (List AV)) (h : AH) : St := ⟨[t0, .any,.any, t3, .any,.any,.any,.any,.any,.any,.any,.any,.any,.any,.any,.any,.any,.any,.any,.any], loc, h⟩
theorem kaT_e (hw : TC Tryz.prog Θ Γ kaT_c (retQ kaT_r K) ⟨[a0, u,u,u,u,u,u,u,u,u,u,u,u,u,u,u,u,u,u,u], [], h⟩) : T Tryz.prog Γ Fn.kaT [a0] h K :=
  TB Tryz.func192 (bodyOf Tryz.f192) hw
def kaN_c : C := .seq (.reg [mK 4 0]) (.seq (.seq (.reg [mK 5 0]) (.block 0 (.loop (.seq (.seq (.reg [mV 6 5,mV 7 0,mN 8 7,mB 9 .lss 6 8]) (.cond (.t 9) .skip (.exit 0))) (.seq (.block 1 (.seq (.reg [mV 12 0,mV 13 5,mV 14 1,mX 15 3 12 13,mF 16 0 15,mS 1 16 14]) (.seq (.reg [mV 17 1,mI 18 .add 17 1,mV 1 18]) (.seq (.reg [mV 19 0,mV 20 5,mV 21 1,mX 22 3 19 20,mF 23 1 22,mS 1 23 21]) (.seq (.reg [mV 24 1,mI 25 .add 24 1,mV 1 25]) (.seq (.reg [mV 26 0,mV 27 5,mV 28 1,mX 29 3 26 27,mF 30 2 29,mS 1 30 28]) (.reg [mV 31 1,mI 32 .add 31 1,mV 1 32]))))))) (.reg [mV 10 5,mI 11 .add 10 1,mV 5 11])))))) (.seq (.reg [mV 33 1,mV 4 33]) .ret))
def kaN_r : List RS := [.t 4]
def kaN_s0 (t0 t1 t5 : AV) (loc : List (List AV)) (h : AH) : St := ⟨[t0, t1, .any,.any,.any, t5, .any,.any,.any,.any,.any,.any,.any,.any,.any,.any,.any,.any,.any,.any,.any,.any,.any,.any,.any,.any,.any,.any,.any,.any,.any,.any,.any,.any], loc, h⟩
theorem kaN_e (hw : TC Tryz.prog Θ Γ kaN_c (retQ kaN_r K) ⟨[a0, a1, u,u,u,u,u,u,u,u,u,u,u,u,u,u,u,u,u,u,u,u,u,u,u,u,u,u,u,u,u,u,u,u], [], h⟩) : T Tryz.prog Γ Fn.kaN [a0, a1] h K :=
  TB Tryz.func193 (bodyOf Tryz.f193) hw
def kaR_c : C := .seq (.reg [mK 4 0]) (.seq (.seq (.reg [mK 5 0]) (.block 0 (.loop (.seq (.seq (.reg [mV 6 5,mV 7 0,mN 8 7,mB 9 .lss 6 8]) (.cond (.t 9) .skip (.exit 0))) (.seq (.block 1 (.seq (.reg [mV 12 0,mV 13 5,mV 14 1,mX 15 2 12 13,mF 16 0 15,mS 1 16 14]) (.seq (.reg [mV 17 1,mI 18 .add 17 1,mV 1 18]) (.seq (.reg [mV 19 0,mV 20 5,mV 21 1,mX 22 2 19 20,mF 23 1 22,mS 1 23 21]) (.reg [mV 24 1,mI 25 .add 24 1,mV 1 25]))))) (.reg [mV 10 5,mI 11 .add 10 1,mV 5 11])))))) (.seq (.reg [mV 26 1,mV 4 26]) .ret))
def kaR_r : List RS := [.t 4]
def kaR_s0 (t0 t1 t5 : AV) (loc : List (List AV)) (h : AH) : St := ⟨[t0, t1, .any,.any,.any, t5, .any,.any,.any,.any,.any,.any,.any,.any,.any,.any,.any,.any,.any,.any,.any,.any,.any,.any,.any,.any,.any], loc, h⟩
theorem kaR_e (hw : TC Tryz.prog Θ Γ kaR_c (retQ kaR_r K) ⟨[a0, a1, u,u,u,u,u,u,u,u,u,u,u,u,u,u,u,u,u,u,u,u,u,u,u,u,u], [], h⟩) : T Tryz.prog Γ Fn.kaR [a0, a1] h K :=
  TB Tryz.func194 (bodyOf Tryz.f194) hw
def kaW_c : C := .seq (.reg [mK 4 0]) (.seq (.seq (.reg [mK 5 0]) (.block 0 (.loop (.seq (.seq (.reg [mV 6 5,mV 7 0,mN 8 7,mB 9 .lss 6 8]) (.cond (.t 9) .skip (.exit 0))) (.seq (.block 1 (.seq (.reg [mV 12 0,mV 13 5,mV 14 1,mX 15 2 12 13,mF 16 0 15,mS 1 16 14]) (.seq (.reg [mV 17 1,mI 18 .add 17 1,mV 1 18]) (.seq (.reg [mV 19 0,mV 20 5,mV 21 1,mX 22 2 19 20,mF 23 1 22,mS 1 23 21]) (.reg [mV 24 1,mI 25 .add 24 1,mV 1 25]))))) (.reg [mV 10 5,mI 11 .add 10 1,mV 5 11])))))) (.seq (.reg [mV 26 1,mV 4 26]) .ret))
def kaW_r : List RS := [.t 4]
def kaW_s0 (t0 t1 t5 : AV) (loc : List (List AV)) (h : AH) : St := ⟨[t0, t1, .any,.any,.any, t5, .any,.any,.any,.any,.any,.any,.any,.any,.any,.any,.any,.any,.any,.any,.any,.any,.any,.any,.any,.any,.any], loc, h⟩
theorem kaW_e (hw : TC Tryz.prog Θ Γ kaW_c (retQ kaW_r K) ⟨[a0, a1, u,u,u,u,u,u,u,u,u,u,u,u,u,u,u,u,u,u,u,u,u,u,u,u,u], [], h⟩) : T Tryz.prog Γ Fn.kaW [a0, a1] h K :=
  TB Tryz.func195 (bodyOf Tryz.f195) hw
def kby_c : C := .seq (.reg [mK 4 0]) (.seq (.seq (.reg [mV 6 0,mN 7 6,mK 8 0]) (.block 0 (.loop (.seq (.reg [mB 9 .lss 8 7]) (.seq (.cond (.t 9) .skip (.exit 0)) (.seq (.block 1 (.seq (.reg [mV 10 8,mV 5 10]) (.seq (.reg [mV 11 1,mV 12 0,mV 13 5,mX 14 7 12 13,mG 15 7 14,⟨(some 16), none, .call (.t 11) [.t 15]⟩]) (.cond (.t 16) (.seq (.reg [mV 17 5,mV 4 17]) .ret) .skip)))) (.reg [mI 18 .add 8 1,mV 8 18]))))))) (.seq (.reg [mK 4 (-1)]) .ret))
def kby_r : List RS := [.t 4]
def kby_s0 (t0 t1 t7 t8 : AV) (loc : List (List AV)) (h : AH) : St := ⟨[t0, t1, .any,.any,.any,.any,.any, t7, t8, .any,.any,.any,.any,.any,.any,.any,.any,.any,.any], loc, h⟩
theorem kby_e (hw : TC Tryz.prog Θ Γ kby_c (retQ kby_r K) ⟨[a0, a1, u,u,u,u,u,u,u,u,u,u,u,u,u,u,u,u,u], [], h⟩) : T Tryz.prog Γ Fn.kby [a0, a1] h K :=
  TB Tryz.func239 (bodyOf Tryz.f239) hw
def kad_c : C := .seq (.reg [mA 2 0,mT 3 false]) (.seq (.reg [mF 4 0 2,mL 5 1 4,mL 6 1 1,mB 7 .eql 5 6,mV 3 7]) .ret)
def kad_r : List RS := [.t 3]
theorem kad_e (hw : TC Tryz.prog Θ Γ kad_c (retQ kad_r K) ⟨[a0, a1, u,u,u,u,u,u], [], h⟩) : T Tryz.prog Γ Fn.kad [a0, a1] h K :=
  TB Tryz.func240 (bodyOf Tryz.f240) hw
def ka9_c : C := .seq (.reg [mK 4 0]) (.seq (.reg [mV 5 1,mV 6 0,mN 7 6,mB 8 .sub 5 7,mV 1 8]) (.seq (.seq (.reg [mV 9 1,mI 10 .lss 9 0]) (.cond (.t 10) (.seq (.reg [mK 4 (-1)]) .ret) .skip)) (.seq (.reg [mV 11 1,mV 4 11]) .ret)))
def ka9_r : List RS := [.t 4]
theorem ka9_e (hw : TC Tryz.prog Θ Γ ka9_c (retQ ka9_r K) ⟨[a0, a1, u,u,u,u,u,u,u,u,u,u], [], h⟩) : T Tryz.prog Γ Fn.ka9 [a0, a1] h K :=
  TB Tryz.func242 (bodyOf Tryz.f242) hw
def kaX_c : C := .seq (.reg [mK 4 0]) (.seq (.reg [mV 5 1,mV 6 0,mN 7 6,mB 8 .sub 5 7,mV 1 8]) (.seq (.seq (.reg [mV 9 1,mI 10 .lss 9 0]) (.cond (.t 10) (.seq (.reg [mK 4 (-1)]) .ret) .skip)) (.seq (.reg [mV 11 1,mV 4 11]) .ret)))
def kaX_r : List RS := [.t 4]
theorem kaX_e (hw : TC Tryz.prog Θ Γ kaX_c (retQ kaX_r K) ⟨[a0, a1, u,u,u,u,u,u,u,u,u,u], [], h⟩) : T Tryz.prog Γ Fn.kaX [a0, a1] h K :=
  TB Tryz.func243 (bodyOf Tryz.f243) hw
def ka0_c : C := .seq (.reg [mK 4 0]) (.seq (.reg [mV 5 1,mV 6 0,mN 7 6,mB 8 .sub 5 7,mV 1 8]) (.seq (.seq (.reg [mV 9 1,mI 10 .lss 9 0]) (.cond (.t 10) (.seq (.reg [mK 4 (-1)]) .ret) .skip)) (.seq (.reg [mV 11 1,mV 4 11]) .ret)))
def ka0_r : List RS := [.t 4]
theorem ka0_e (hw : TC Tryz.prog Θ Γ ka0_c (retQ ka0_r K) ⟨[a0, a1, u,u,u,u,u,u,u,u,u,u], [], h⟩) : T Tryz.prog Γ Fn.ka0 [a0, a1] h K :=
  TB Tryz.func244 (bodyOf Tryz.f244) hw
def ka6_c : C := .seq (.reg [mK 4 0]) (.seq (.reg [mV 5 1,mV 6 0,mN 7 6,mB 8 .sub 5 7,mV 1 8]) (.seq (.seq (.reg [mV 9 1,mI 10 .lss 9 0]) (.cond (.t 10) (.seq (.reg [mK 4 (-1)]) .ret) .skip)) (.seq (.reg [mV 11 1,mV 4 11]) .ret)))
def ka6_r : List RS := [.t 4]
theorem ka6_e (hw : TC Tryz.prog Θ Γ ka6_c (retQ ka6_r K) ⟨[a0, a1, u,u,u,u,u,u,u,u,u,u], [], h⟩) : T Tryz.prog Γ Fn.ka6 [a0, a1] h K :=
  TB Tryz.func245 (bodyOf Tryz.f245) hw
def ka3_c : C := .seq (.reg [mA 2 0,mK 4 0]) (.seq (.reg [mV 5 1,mF 6 4 2,mL 7 1 6,⟨(some 8), none, .len true (.t 7)⟩,mB 9 .sub 5 8,mV 1 9]) (.seq (.seq (.reg [mV 10 1,mI 11 .lss 10 0]) (.cond (.t 11) (.seq (.reg [mK 4 (-1)]) .ret) .skip)) (.seq (.reg [mF 12 5 2,mL 13 1 12,mV 14 1,mC 15 Fn.kbb [.t 13, .t 14],mV 1 15]) (.seq (.seq (.reg [mV 16 1,mI 17 .lss 16 0]) (.cond (.t 17) (.seq (.reg [mK 4 (-1)]) .ret) .skip)) (.seq (.reg [mV 18 1,mV 4 18]) .ret)))))
def ka3_r : List RS := [.t 4]
theorem ka3_e (hw : TC Tryz.prog Θ Γ ka3_c (retQ ka3_r K) ⟨[a0, a1, u,u,u,u,u,u,u,u,u,u,u,u,u,u,u,u,u], [], h⟩) : T Tryz.prog Γ Fn.ka3 [a0, a1] h K :=
  TB Tryz.func246 (bodyOf Tryz.f246) hw
def kbt_c : C := .seq (.reg [⟨(some 2), none, .mov (.c (.nils))⟩]) (.seq (.reg [mV 5 0,mN 6 5,⟨(some 7), none, .mks 2 16 [.int .i64 0,.int .i64 0] (.t 6) (.t 6)⟩,mV 3 7]) (.seq (.seq (.reg [mK 4 0]) (.block 0 (.loop (.seq (.seq (.reg [mV 8 4,mV 9 0,mN 10 9,mB 11 .lss 8 10]) (.cond (.t 11) .skip (.exit 0))) (.seq (.block 1 (.reg [mV 14 3,mV 15 4,mV 16 0,mV 17 4,mX 18 2 16 17,mG 19 2 18,mC 20 Fn.kbs [.t 19],mX 21 2 14 15,mS 2 21 20])) (.reg [mV 12 4,mI 13 .add 12 1,mV 4 13])))))) (.seq (.reg [mV 22 3,mV 2 22]) .ret)))
def kbt_r : List RS := [.t 2]
def kbt_s0 (t0 t3 t4 : AV) (loc : List (List AV)) (h : AH) : St := ⟨[t0, .any,.any, t3, t4, .any,.any,.any,.any,.any,.any,.any,.any,.any,.any,.any,.any,.any,.any,.any,.any,.any,.any], loc, h⟩
theorem kbt_e (hw : TC Tryz.prog Θ Γ kbt_c (retQ kbt_r K) ⟨[a0, u,u,u,u,u,u,u,u,u,u,u,u,u,u,u,u,u,u,u,u,u,u], [], h⟩) : T Tryz.prog Γ Fn.kbt [a0] h K :=
  TB Tryz.func247 (bodyOf Tryz.f247) hw
def kbs_c : C := .seq (.reg [mA 1 0,⟨(some 2), none, .alloc [.int .i64 0,.int .i64 0]⟩]) (.seq (.reg [⟨(some 3), none, .alloc [.int .i64 0,.int .i64 0]⟩]) (.seq (.reg [mF 4 0 1,mL 5 1 4,mF 6 0 3,mS 1 6 5]) (.seq (.reg [mF 7 1 1,mL 8 1 7,mF 9 1 3,mS 1 9 8]) (.seq (.reg [mG 10 2 3,mS 2 2 10]) .ret))))
def kbs_r : List RS := [.cell 2 2 true]
theorem kbs_e (hw : TC Tryz.prog Θ Γ kbs_c (retQ kbs_r K) ⟨[a0, u,u,u,u,u,u,u,u,u,u], [], h⟩) : T Tryz.prog Γ Fn.kbs [a0] h K :=
  TB Tryz.func248 (bodyOf Tryz.f248) hw
def kbd_c : C := .seq (.reg [⟨(some 2), none, .mov (.c (.nils))⟩]) (.seq (.reg [mV 5 0,mN 6 5,⟨(some 7), none, .mks 2 16 [.int .i64 0,.int .i64 0] (.t 6) (.t 6)⟩,mV 3 7]) (.seq (.seq (.reg [mK 4 0]) (.block 0 (.loop (.seq (.seq (.reg [mV 8 4,mV 9 0,mN 10 9,mB 11 .lss 8 10]) (.cond (.t 11) .skip (.exit 0))) (.seq (.block 1 (.reg [mV 14 3,mV 15 4,mV 16 0,mV 17 4,mX 18 2 16 17,mG 19 2 18,mC 20 Fn.kbc [.t 19],mX 21 2 14 15,mS 2 21 20])) (.reg [mV 12 4,mI 13 .add 12 1,mV 4 13])))))) (.seq (.reg [mV 22 3,mV 2 22]) .ret)))
def kbd_r : List RS := [.t 2]
def kbd_s0 (t0 t3 t4 : AV) (loc : List (List AV)) (h : AH) : St := ⟨[t0, .any,.any, t3, t4, .any,.any,.any,.any,.any,.any,.any,.any,.any,.any,.any,.any,.any,.any,.any,.any,.any,.any], loc, h⟩
theorem kbd_e (hw : TC Tryz.prog Θ Γ kbd_c (retQ kbd_r K) ⟨[a0, u,u,u,u,u,u,u,u,u,u,u,u,u,u,u,u,u,u,u,u,u,u], [], h⟩) : T Tryz.prog Γ Fn.kbd [a0] h K :=
  TB Tryz.func249 (bodyOf Tryz.f249) hw
def kbr_c : C := .seq (.reg [mA 1 0,⟨(some 2), none, .alloc [.int .i64 0,.int .i64 0,.int .i64 0]⟩]) (.seq (.reg [⟨(some 3), none, .alloc [.int .i64 0,.int .i64 0,.int .i64 0]⟩]) (.seq (.reg [mF 4 0 1,mL 5 1 4,mF 6 0 3,mS 1 6 5]) (.seq (.reg [mF 7 1 1,mL 8 1 7,mF 9 1 3,mS 1 9 8]) (.seq (.reg [mF 10 2 1,mL 11 1 10,mF 12 2 3,mS 1 12 11]) (.seq (.reg [mG 13 3 3,mS 3 2 13]) .ret)))))
def kbr_r : List RS := [.cell 2 3 true]
theorem kbr_e (hw : TC Tryz.prog Θ Γ kbr_c (retQ kbr_r K) ⟨[a0, u,u,u,u,u,u,u,u,u,u,u,u,u], [], h⟩) : T Tryz.prog Γ Fn.kbr [a0] h K :=
  TB Tryz.func250 (bodyOf Tryz.f250) hw
def kbh_c : C := .seq (.reg [⟨(some 2), none, .mov (.c (.nils))⟩]) (.seq (.reg [mV 5 0,mN 6 5,⟨(some 7), none, .mks 3 24 [.int .i64 0,.int .i64 0,.int .i64 0] (.t 6) (.t 6)⟩,mV 3 7]) (.seq (.seq (.reg [mK 4 0]) (.block 0 (.loop (.seq (.seq (.reg [mV 8 4,mV 9 0,mN 10 9,mB 11 .lss 8 10]) (.cond (.t 11) .skip (.exit 0))) (.seq (.block 1 (.reg [mV 14 3,mV 15 4,mV 16 0,mV 17 4,mX 18 3 16 17,mG 19 3 18,mC 20 Fn.kbg [.t 19],mX 21 3 14 15,mS 3 21 20])) (.reg [mV 12 4,mI 13 .add 12 1,mV 4 13])))))) (.seq (.reg [mV 22 3,mV 2 22]) .ret)))
def kbh_r : List RS := [.t 2]
def kbh_s0 (t0 t3 t4 : AV) (loc : List (List AV)) (h : AH) : St := ⟨[t0, .any,.any, t3, t4, .any,.any,.any,.any,.any,.any,.any,.any,.any,.any,.any,.any,.any,.any,.any,.any,.any,.any], loc, h⟩
theorem kbh_e (hw : TC Tryz.prog Θ Γ kbh_c (retQ kbh_r K) ⟨[a0, u,u,u,u,u,u,u,u,u,u,u,u,u,u,u,u,u,u,u,u,u,u], [], h⟩) : T Tryz.prog Γ Fn.kbh [a0] h K :=
  TB Tryz.func251 (bodyOf Tryz.f251) hw
def kbo_c : C := .seq (.reg [⟨(some 2), none, .mov (.c (.nils))⟩]) (.seq (.reg [mV 5 0,mN 6 5,⟨(some 7), none, .mks 2 16 [.int .i64 0,.int .i64 0] (.t 6) (.t 6)⟩,mV 3 7]) (.seq (.seq (.reg [mK 4 0]) (.block 0 (.loop (.seq (.seq (.reg [mV 8 4,mV 9 0,mN 10 9,mB 11 .lss 8 10]) (.cond (.t 11) .skip (.exit 0))) (.seq (.block 1 (.reg [mV 14 3,mV 15 4,mV 16 0,mV 17 4,mX 18 2 16 17,mG 19 2 18,mC 20 Fn.kbn [.t 19],mX 21 2 14 15,mS 2 21 20])) (.reg [mV 12 4,mI 13 .add 12 1,mV 4 13])))))) (.seq (.reg [mV 22 3,mV 2 22]) .ret)))
def kbo_r : List RS := [.t 2]
def kbo_s0 (t0 t3 t4 : AV) (loc : List (List AV)) (h : AH) : St := ⟨[t0, .any,.any, t3, t4, .any,.any,.any,.any,.any,.any,.any,.any,.any,.any,.any,.any,.any,.any,.any,.any,.any,.any], loc, h⟩
theorem kbo_e (hw : TC Tryz.prog Θ Γ kbo_c (retQ kbo_r K) ⟨[a0, u,u,u,u,u,u,u,u,u,u,u,u,u,u,u,u,u,u,u,u,u,u], [], h⟩) : T Tryz.prog Γ Fn.kbo [a0] h K :=
  TB Tryz.func252 (bodyOf Tryz.f252) hw
def kbk_c : C := .seq (.reg [mA 1 0,⟨(some 2), none, .alloc [.int .i64 0,.int .i64 0,.int .i64 0,.int .i64 0, .str ⟨#[]⟩, .nils, .int .i64 0,.int .i64 0,.int .i64 0,.int .i64 0,.int .i64 0,.int .i64 0]⟩]) (.seq (.reg [⟨(some 3), none, .alloc [.int .i64 0,.int .i64 0,.int .i64 0,.int .i64 0, .str ⟨#[]⟩, .nils, .int .i64 0,.int .i64 0,.int .i64 0,.int .i64 0,.int .i64 0,.int .i64 0]⟩]) (.seq (.reg [mF 4 0 1,mL 5 1 4,mF 6 0 3,mS 1 6 5]) (.seq (.reg [mF 7 1 1,mL 8 1 7,mF 9 1 3,mS 1 9 8]) (.seq (.reg [mF 10 2 1,mL 11 1 10,mF 12 2 3,mS 1 12 11]) (.seq (.reg [mF 13 3 1,mL 14 1 13,mF 15 3 3,mS 1 15 14]) (.seq (.reg [mF 16 4 1,mL 17 1 16,mF 18 4 3,mS 1 18 17]) (.seq (.reg [mF 19 5 1,mL 20 1 19,mC 21 Fn.kbw [.t 20],mF 22 5 3,mS 1 22 21]) (.seq (.reg [mF 23 6 1,mG 24 2 23,mC 25 Fn.kbv [.t 24],mF 26 6 3,mS 2 26 25]) (.seq (.reg [mF 27 8 1,mL 28 1 27,mF 29 8 3,mS 1 29 28]) (.seq (.reg [mF 30 9 1,mG 31 3 30,mC 32 Fn.kbr [.t 31],mF 33 9 3,mS 3 33 32]) (.seq (.reg [mG 34 12 3,mS 12 2 34]) .ret)))))))))))
def kbk_r : List RS := [.cell 2 12 true]
theorem kbk_e (hw : TC Tryz.prog Θ Γ kbk_c (retQ kbk_r K) ⟨[a0, u,u,u,u,u,u,u,u,u,u,u,u,u,u,u,u,u,u,u,u,u,u,u,u,u,u,u,u,u,u,u,u,u,u], [], h⟩) : T Tryz.prog Γ Fn.kbk [a0] h K :=
  TB Tryz.func253 (bodyOf Tryz.f253) hw
def kaG_d0_os : List O := [mV 17 0,mV 18 5,mX 19 2 17 18,mG 20 2 19,mV 21 1,mV 22 5,mX 23 2 21 22,mG 24 2 23,mC 25 Fn.kaF [.t 20, .t 24],mU 26 25]
def kaG_d0_af : List (List Nat) := [[], [], [0, 1], [2], [], [], [4, 5], [6], [3, 7], [8]]
theorem kaG_d0_q (gl : Gl) (Q : AE → St → Prop) (s : St) : aw Tryz.prog Θ Γ gl (.regD kaG_d0_os kaG_d0_af) Q s = awpT Tryz.prog Γ gl [mV 17 0,mV 18 5,mX 19 2 17 18,mG 20 2 19,mV 21 1,mV 22 5,mX 23 2 21 22,mG 24 2 23,mC 25 Fn.kaF [.t 20, .t 24],mU 26 25] (Q .normal) 10 (.q 0 (.q 1 (.q 2 (.q 3 (.q 4 (.q 5 (.q 6 (.q 7 (.q 8 (.q 9 (.done))))))))))) s := a_dd rfl (by kernel_rfl) gl Q s
def kaG_c : C := .seq (.reg [mT 4 false]) (.seq (.seq (.reg [mV 6 0,mN 7 6,mV 8 1,mN 9 8,mB 10 .neq 7 9]) (.cond (.t 10) (.seq (.reg [mT 4 false]) .ret) .skip)) (.seq (.seq (.reg [mK 5 0]) (.block 0 (.loop (.seq (.seq (.reg [mV 11 5,mV 12 0,mN 13 12,mB 14 .lss 11 13]) (.cond (.t 14) .skip (.exit 0))) (.seq (.block 1 (.seq (.regD kaG_d0_os kaG_d0_af) (.cond (.t 26) (.seq (.reg [mT 4 false]) .ret) .skip))) (.reg [mV 15 5,mI 16 .add 15 1,mV 5 16])))))) (.seq (.reg [mT 4 true]) .ret)))
def kaG_r : List RS := [.t 4]
def kaG_s0 (t0 t1 t5 : AV) (loc : List (List AV)) (h : AH) : St := ⟨[t0, t1, .any,.any,.any, t5, .any,.any,.any,.any,.any,.any,.any,.any,.any,.any,.any,.any,.any,.any,.any,.any,.any,.any,.any,.any,.any], loc, h⟩
theorem kaG_e (hw : TC Tryz.prog Θ Γ kaG_c (retQ kaG_r K) ⟨[a0, a1, u,u,u,u,u,u,u,u,u,u,u,u,u,u,u,u,u,u,u,u,u,u,u,u,u], [], h⟩) : T Tryz.prog Γ Fn.kaG [a0, a1] h K :=
  TB Tryz.func265 (bodyOf Tryz.f265) hw
def kaF_c : C := .seq (.reg [mA 2 0,mA 3 1,mT 4 false]) (.seq (.seq (.reg [mF 5 0 2,mL 6 1 5,mF 7 0 3,mL 8 1 7,mB 9 .neq 6 8]) (.cond (.t 9) (.seq (.reg [mT 4 false]) .ret) .skip)) (.seq (.seq (.reg [mF 10 1 2,mL 11 1 10,mF 12 1 3,mL 13 1 12,mB 14 .neq 11 13]) (.cond (.t 14) (.seq (.reg [mT 4 false]) .ret) .skip)) (.seq (.reg [mT 4 true]) .ret)))
def kaF_r : List RS := [.t 4]
theorem kaF_e (hw : TC Tryz.prog Θ Γ kaF_c (retQ kaF_r K) ⟨[a0, a1, u,u,u,u,u,u,u,u,u,u,u,u,u], [], h⟩) : T Tryz.prog Γ Fn.kaF [a0, a1] h K :=
  TB Tryz.func266 (bodyOf Tryz.f266) hw
def kap_d0_os : List O := [mV 17 0,mV 18 5,mX 19 2 17 18,mG 20 2 19,mV 21 1,mV 22 5,mX 23 2 21 22,mG 24 2 23,mC 25 Fn.kao [.t 20, .t 24],mU 26 25]
def kap_d0_af : List (List Nat) := [[], [], [0, 1], [2], [], [], [4, 5], [6], [3, 7], [8]]
theorem kap_d0_q (gl : Gl) (Q : AE → St → Prop) (s : St) : aw Tryz.prog Θ Γ gl (.regD kap_d0_os kap_d0_af) Q s = awpT Tryz.prog Γ gl [mV 17 0,mV 18 5,mX 19 2 17 18,mG 20 2 19,mV 21 1,mV 22 5,mX 23 2 21 22,mG 24 2 23,mC 25 Fn.kao [.t 20, .t 24],mU 26 25] (Q .normal) 10 (.q 0 (.q 1 (.q 2 (.q 3 (.q 4 (.q 5 (.q 6 (.q 7 (.q 8 (.q 9 (.done))))))))))) s := a_dd rfl (by kernel_rfl) gl Q s
def kap_c : C := .seq (.reg [mT 4 false]) (.seq (.seq (.reg [mV 6 0,mN 7 6,mV 8 1,mN 9 8,mB 10 .neq 7 9]) (.cond (.t 10) (.seq (.reg [mT 4 false]) .ret) .skip)) (.seq (.seq (.reg [mK 5 0]) (.block 0 (.loop (.seq (.seq (.reg [mV 11 5,mV 12 0,mN 13 12,mB 14 .lss 11 13]) (.cond (.t 14) .skip (.exit 0))) (.seq (.block 1 (.seq (.regD kap_d0_os kap_d0_af) (.cond (.t 26) (.seq (.reg [mT 4 false]) .ret) .skip))) (.reg [mV 15 5,mI 16 .add 15 1,mV 5 16])))))) (.seq (.reg [mT 4 true]) .ret)))
def kap_r : List RS := [.t 4]
def kap_s0 (t0 t1 t5 : AV) (loc : List (List AV)) (h : AH) : St := ⟨[t0, t1, .any,.any,.any, t5, .any,.any,.any,.any,.any,.any,.any,.any,.any,.any,.any,.any,.any,.any,.any,.any,.any,.any,.any,.any,.any], loc, h⟩
theorem kap_e (hw : TC Tryz.prog Θ Γ kap_c (retQ kap_r K) ⟨[a0, a1, u,u,u,u,u,u,u,u,u,u,u,u,u,u,u,u,u,u,u,u,u,u,u,u,u], [], h⟩) : T Tryz.prog Γ Fn.kap [a0, a1] h K :=
  TB Tryz.func267 (bodyOf Tryz.f267) hw
def kaE_c : C := .seq (.reg [mA 2 0,mA 3 1,mT 4 false]) (.seq (.seq (.reg [mF 5 0 2,mL 6 1 5,mF 7 0 3,mL 8 1 7,mB 9 .neq 6 8]) (.cond (.t 9) (.seq (.reg [mT 4 false]) .ret) .skip)) (.seq (.seq (.reg [mF 10 1 2,mL 11 1 10,mF 12 1 3,mL 13 1 12,mB 14 .neq 11 13]) (.cond (.t 14) (.seq (.reg [mT 4 false]) .ret) .skip)) (.seq (.seq (.reg [mF 15 2 2,mL 16 1 15,mF 17 2 3,mL 18 1 17,mB 19 .neq 16 18]) (.cond (.t 19) (.seq (.reg [mT 4 false]) .ret) .skip)) (.seq (.reg [mT 4 true]) .ret))))
def kaE_r : List RS := [.t 4]
theorem kaE_e (hw : TC Tryz.prog Θ Γ kaE_c (retQ kaE_r K) ⟨[a0, a1, u,u,u,u,u,u,u,u,u,u,u,u,u,u,u,u,u,u], [], h⟩) : T Tryz.prog Γ Fn.kaE [a0, a1] h K :=
  TB Tryz.func268 (bodyOf Tryz.f268) hw
def kat_d0_os : List O := [mV 17 0,mV 18 5,mX 19 3 17 18,mG 20 3 19,mV 21 1,mV 22 5,mX 23 3 21 22,mG 24 3 23,mC 25 Fn.kas [.t 20, .t 24],mU 26 25]
def kat_d0_af : List (List Nat) := [[], [], [0, 1], [2], [], [], [4, 5], [6], [3, 7], [8]]
theorem kat_d0_q (gl : Gl) (Q : AE → St → Prop) (s : St) : aw Tryz.prog Θ Γ gl (.regD kat_d0_os kat_d0_af) Q s = awpT Tryz.prog Γ gl [mV 17 0,mV 18 5,mX 19 3 17 18,mG 20 3 19,mV 21 1,mV 22 5,mX 23 3 21 22,mG 24 3 23,mC 25 Fn.kas [.t 20, .t 24],mU 26 25] (Q .normal) 10 (.q 0 (.q 1 (.q 2 (.q 3 (.q 4 (.q 5 (.q 6 (.q 7 (.q 8 (.q 9 (.done))))))))))) s := a_dd rfl (by kernel_rfl) gl Q s
def kat_c : C := .seq (.reg [mT 4 false]) (.seq (.seq (.reg [mV 6 0,mN 7 6,mV 8 1,mN 9 8,mB 10 .neq 7 9]) (.cond (.t 10) (.seq (.reg [mT 4 false]) .ret) .skip)) (.seq (.seq (.reg [mK 5 0]) (.block 0 (.loop (.seq (.seq (.reg [mV 11 5,mV 12 0,mN 13 12,mB 14 .lss 11 13]) (.cond (.t 14) .skip (.exit 0))) (.seq (.block 1 (.seq (.regD kat_d0_os kat_d0_af) (.cond (.t 26) (.seq (.reg [mT 4 false]) .ret) .skip))) (.reg [mV 15 5,mI 16 .add 15 1,mV 5 16])))))) (.seq (.reg [mT 4 true]) .ret)))
def kat_r : List RS := [.t 4]
def kat_s0 (t0 t1 t5 : AV) (loc : List (List AV)) (h : AH) : St := ⟨[t0, t1, .any,.any,.any, t5, .any,.any,.any,.any,.any,.any,.any,.any,.any,.any,.any,.any,.any,.any,.any,.any,.any,.any,.any,.any,.any], loc, h⟩
theorem kat_e (hw : TC Tryz.prog Θ Γ kat_c (retQ kat_r K) ⟨[a0, a1, u,u,u,u,u,u,u,u,u,u,u,u,u,u,u,u,u,u,u,u,u,u,u,u,u], [], h⟩) : T Tryz.prog Γ Fn.kat [a0, a1] h K :=
  TB Tryz.func269 (bodyOf Tryz.f269) hw
def kaB_d0_os : List O := [mV 17 0,mV 18 5,mX 19 2 17 18,mG 20 2 19,mV 21 1,mV 22 5,mX 23 2 21 22,mG 24 2 23,mC 25 Fn.kaA [.t 20, .t 24],mU 26 25]
def kaB_d0_af : List (List Nat) := [[], [], [0, 1], [2], [], [], [4, 5], [6], [3, 7], [8]]
theorem kaB_d0_q (gl : Gl) (Q : AE → St → Prop) (s : St) : aw Tryz.prog Θ Γ gl (.regD kaB_d0_os kaB_d0_af) Q s = awpT Tryz.prog Γ gl [mV 17 0,mV 18 5,mX 19 2 17 18,mG 20 2 19,mV 21 1,mV 22 5,mX 23 2 21 22,mG 24 2 23,mC 25 Fn.kaA [.t 20, .t 24],mU 26 25] (Q .normal) 10 (.q 0 (.q 1 (.q 2 (.q 3 (.q 4 (.q 5 (.q 6 (.q 7 (.q 8 (.q 9 (.done))))))))))) s := a_dd rfl (by kernel_rfl) gl Q s
def kaB_c : C := .seq (.reg [mT 4 false]) (.seq (.seq (.reg [mV 6 0,mN 7 6,mV 8 1,mN 9 8,mB 10 .neq 7 9]) (.cond (.t 10) (.seq (.reg [mT 4 false]) .ret) .skip)) (.seq (.seq (.reg [mK 5 0]) (.block 0 (.loop (.seq (.seq (.reg [mV 11 5,mV 12 0,mN 13 12,mB 14 .lss 11 13]) (.cond (.t 14) .skip (.exit 0))) (.seq (.block 1 (.seq (.regD kaB_d0_os kaB_d0_af) (.cond (.t 26) (.seq (.reg [mT 4 false]) .ret) .skip))) (.reg [mV 15 5,mI 16 .add 15 1,mV 5 16])))))) (.seq (.reg [mT 4 true]) .ret)))
def kaB_r : List RS := [.t 4]
def kaB_s0 (t0 t1 t5 : AV) (loc : List (List AV)) (h : AH) : St := ⟨[t0, t1, .any,.any,.any, t5, .any,.any,.any,.any,.any,.any,.any,.any,.any,.any,.any,.any,.any,.any,.any,.any,.any,.any,.any,.any,.any], loc, h⟩
theorem kaB_e (hw : TC Tryz.prog Θ Γ kaB_c (retQ kaB_r K) ⟨[a0, a1, u,u,u,u,u,u,u,u,u,u,u,u,u,u,u,u,u,u,u,u,u,u,u,u,u], [], h⟩) : T Tryz.prog Γ Fn.kaB [a0, a1] h K :=
  TB Tryz.func270 (bodyOf Tryz.f270) hw
def kax_c : C := .seq (.reg [mA 2 0,mA 3 1,mT 4 false]) (.seq (.seq (.reg [mF 5 0 2,mL 6 1 5,mF 7 0 3,mL 8 1 7,mB 9 .neq 6 8]) (.cond (.t 9) (.seq (.reg [mT 4 false]) .ret) .skip)) (.seq (.seq (.reg [mF 10 1 2,mL 11 1 10,mF 12 1 3,mL 13 1 12,mB 14 .neq 11 13]) (.cond (.t 14) (.seq (.reg [mT 4 false]) .ret) .skip)) (.seq (.seq (.reg [mF 15 2 2,mL 16 1 15,mF 17 2 3,mL 18 1 17,mB 19 .neq 16 18]) (.cond (.t 19) (.seq (.reg [mT 4 false]) .ret) .skip)) (.seq (.seq (.reg [mF 20 3 2,mL 21 1 20,mF 22 3 3,mL 23 1 22,mB 24 .neq 21 23]) (.cond (.t 24) (.seq (.reg [mT 4 false]) .ret) .skip)) (.seq (.seq (.reg [mF 25 4 2,mL 26 1 25,mF 27 4 3,mL 28 1 27,mB 29 .neq 26 28]) (.cond (.t 29) (.seq (.reg [mT 4 false]) .ret) .skip)) (.seq (.seq (.reg [mF 30 5 2,mL 31 1 30,mF 32 5 3,mL 33 1 32,mC 34 Fn.kaJ [.t 31, .t 33],mU 35 34]) (.cond (.t 35) (.seq (.reg [mT 4 false]) .ret) .skip)) (.seq (.seq (.reg [mF 36 6 2,mG 37 2 36,mF 38 6 3,mG 39 2 38,mC 40 Fn.kaI [.t 37, .t 39],mU 41 40]) (.cond (.t 41) (.seq (.reg [mT 4 false]) .ret) .skip)) (.seq (.seq (.reg [mF 42 8 2,mL 43 1 42,mF 44 8 3,mL 45 1 44,mB 46 .neq 43 45]) (.cond (.t 46) (.seq (.reg [mT 4 false]) .ret) .skip)) (.seq (.seq (.reg [mF 47 9 2,mG 48 3 47,mF 49 9 3,mG 50 3 49,mC 51 Fn.kaE [.t 48, .t 50],mU 52 51]) (.cond (.t 52) (.seq (.reg [mT 4 false]) .ret) .skip)) (.seq (.reg [mT 4 true]) .ret))))))))))
def kax_r : List RS := [.t 4]
theorem kax_e (hw : TC Tryz.prog Θ Γ kax_c (retQ kax_r K) ⟨[a0, a1, u,u,u,u,u,u,u,u,u,u,u,u,u,u,u,u,u,u,u,u,u,u,u,u,u,u,u,u,u,u,u,u,u,u,u,u,u,u,u,u,u,u,u,u,u,u,u,u,u,u,u], [], h⟩) : T Tryz.prog Γ Fn.kax [a0, a1] h K :=
  TB Tryz.func271 (bodyOf Tryz.f271) hw
def kbb_c : C := .seq (.reg [mK 4 0]) (.seq (.reg [mV 5 1,mV 6 0,mN 7 6,mB 8 .sub 5 7,mV 1 8]) (.seq (.seq (.reg [mV 9 1,mI 10 .lss 9 0]) (.cond (.t 10) (.seq (.reg [mK 4 (-1)]) .ret) .skip)) (.seq (.reg [mV 11 1,mV 4 11]) .ret)))
def kbb_r : List RS := [.t 4]
theorem kbb_e (hw : TC Tryz.prog Θ Γ kbb_c (retQ kbb_r K) ⟨[a0, a1, u,u,u,u,u,u,u,u,u,u], [], h⟩) : T Tryz.prog Γ Fn.kbb [a0, a1] h K :=
  TB Tryz.func305 (bodyOf Tryz.f305) hw
def kbc_c : C := .seq (.reg [mA 1 0,⟨(some 2), none, .alloc [.int .i64 0,.int .i64 0]⟩]) (.seq (.reg [⟨(some 3), none, .alloc [.int .i64 0,.int .i64 0]⟩]) (.seq (.reg [mF 4 0 1,mL 5 1 4,mF 6 0 3,mS 1 6 5]) (.seq (.reg [mF 7 1 1,mL 8 1 7,mF 9 1 3,mS 1 9 8]) (.seq (.reg [mG 10 2 3,mS 2 2 10]) .ret))))
def kbc_r : List RS := [.cell 2 2 true]
theorem kbc_e (hw : TC Tryz.prog Θ Γ kbc_c (retQ kbc_r K) ⟨[a0, u,u,u,u,u,u,u,u,u,u], [], h⟩) : T Tryz.prog Γ Fn.kbc [a0] h K :=
  TB Tryz.func306 (bodyOf Tryz.f306) hw
def kbg_c : C := .seq (.reg [mA 1 0,⟨(some 2), none, .alloc [.int .i64 0,.int .i64 0,.int .i64 0]⟩]) (.seq (.reg [⟨(some 3), none, .alloc [.int .i64 0,.int .i64 0,.int .i64 0]⟩]) (.seq (.reg [mF 4 0 1,mL 5 1 4,mF 6 0 3,mS 1 6 5]) (.seq (.reg [mF 7 1 1,mL 8 1 7,mF 9 1 3,mS 1 9 8]) (.seq (.reg [mF 10 2 1,mL 11 1 10,mF 12 2 3,mS 1 12 11]) (.seq (.reg [mG 13 3 3,mS 3 2 13]) .ret)))))
def kbg_r : List RS := [.cell 2 3 true]
theorem kbg_e (hw : TC Tryz.prog Θ Γ kbg_c (retQ kbg_r K) ⟨[a0, u,u,u,u,u,u,u,u,u,u,u,u,u], [], h⟩) : T Tryz.prog Γ Fn.kbg [a0] h K :=
  TB Tryz.func307 (bodyOf Tryz.f307) hw
def kbn_c : C := .seq (.reg [mA 1 0,⟨(some 2), none, .alloc [.int .i64 0,.int .i64 0]⟩]) (.seq (.reg [⟨(some 3), none, .alloc [.int .i64 0,.int .i64 0]⟩]) (.seq (.reg [mF 4 0 1,mL 5 1 4,mF 6 0 3,mS 1 6 5]) (.seq (.reg [mF 7 1 1,mL 8 1 7,mF 9 1 3,mS 1 9 8]) (.seq (.reg [mG 10 2 3,mS 2 2 10]) .ret))))
def kbn_r : List RS := [.cell 2 2 true]
theorem kbn_e (hw : TC Tryz.prog Θ Γ kbn_c (retQ kbn_r K) ⟨[a0, u,u,u,u,u,u,u,u,u,u], [], h⟩) : T Tryz.prog Γ Fn.kbn [a0] h K :=
  TB Tryz.func308 (bodyOf Tryz.f308) hw
def kbw_c : C := .seq (.reg [⟨(some 2), none, .mov (.c (.nils))⟩]) (.seq (.reg [mV 5 0,mN 6 5,⟨(some 7), none, .mks 2 16 [.int .i64 0,.int .i64 0] (.t 6) (.t 6)⟩,mV 3 7]) (.seq (.seq (.reg [mK 4 0]) (.block 0 (.loop (.seq (.seq (.reg [mV 8 4,mV 9 0,mN 10 9,mB 11 .lss 8 10]) (.cond (.t 11) .skip (.exit 0))) (.seq (.block 1 (.reg [mV 14 3,mV 15 4,mV 16 0,mV 17 4,mX 18 2 16 17,mG 19 2 18,mC 20 Fn.kbv [.t 19],mX 21 2 14 15,mS 2 21 20])) (.reg [mV 12 4,mI 13 .add 12 1,mV 4 13])))))) (.seq (.reg [mV 22 3,mV 2 22]) .ret)))
def kbw_r : List RS := [.t 2]
def kbw_s0 (t0 t3 t4 : AV) (loc : List (List AV)) (h : AH) : St := ⟨[t0, .any,.any, t3, t4, .any,.any,.any,.any,.any,.any,.any,.any,.any,.any,.any,.any,.any,.any,.any,.any,.any,.any], loc, h⟩
theorem kbw_e (hw : TC Tryz.prog Θ Γ kbw_c (retQ kbw_r K) ⟨[a0, u,u,u,u,u,u,u,u,u,u,u,u,u,u,u,u,u,u,u,u,u,u], [], h⟩) : T Tryz.prog Γ Fn.kbw [a0] h K :=
  TB Tryz.func309 (bodyOf Tryz.f309) hw
def kbv_c : C := .seq (.reg [mA 1 0,⟨(some 2), none, .alloc [.int .i64 0,.int .i64 0]⟩]) (.seq (.reg [⟨(some 3), none, .alloc [.int .i64 0,.int .i64 0]⟩]) (.seq (.reg [mF 4 0 1,mL 5 1 4,mF 6 0 3,mS 1 6 5]) (.seq (.reg [mF 7 1 1,mL 8 1 7,mF 9 1 3,mS 1 9 8]) (.seq (.reg [mG 10 2 3,mS 2 2 10]) .ret))))
def kbv_r : List RS := [.cell 2 2 true]
theorem kbv_e (hw : TC Tryz.prog Θ Γ kbv_c (retQ kbv_r K) ⟨[a0, u,u,u,u,u,u,u,u,u,u], [], h⟩) : T Tryz.prog Γ Fn.kbv [a0] h K :=
  TB Tryz.func310 (bodyOf Tryz.f310) hw
def kao_c : C := .seq (.reg [mA 2 0,mA 3 1,mT 4 false]) (.seq (.seq (.reg [mF 5 0 2,mL 6 1 5,mF 7 0 3,mL 8 1 7,mB 9 .neq 6 8]) (.cond (.t 9) (.seq (.reg [mT 4 false]) .ret) .skip)) (.seq (.seq (.reg [mF 10 1 2,mL 11 1 10,mF 12 1 3,mL 13 1 12,mB 14 .neq 11 13]) (.cond (.t 14) (.seq (.reg [mT 4 false]) .ret) .skip)) (.seq (.reg [mT 4 true]) .ret)))
def kao_r : List RS := [.t 4]
theorem kao_e (hw : TC Tryz.prog Θ Γ kao_c (retQ kao_r K) ⟨[a0, a1, u,u,u,u,u,u,u,u,u,u,u,u,u], [], h⟩) : T Tryz.prog Γ Fn.kao [a0, a1] h K :=
  TB Tryz.func317 (bodyOf Tryz.f317) hw
def kas_c : C := .seq (.reg [mA 2 0,mA 3 1,mT 4 false]) (.seq (.seq (.reg [mF 5 0 2,mL 6 1 5,mF 7 0 3,mL 8 1 7,mB 9 .neq 6 8]) (.cond (.t 9) (.seq (.reg [mT 4 false]) .ret) .skip)) (.seq (.seq (.reg [mF 10 1 2,mL 11 1 10,mF 12 1 3,mL 13 1 12,mB 14 .neq 11 13]) (.cond (.t 14) (.seq (.reg [mT 4 false]) .ret) .skip)) (.seq (.seq (.reg [mF 15 2 2,mL 16 1 15,mF 17 2 3,mL 18 1 17,mB 19 .neq 16 18]) (.cond (.t 19) (.seq (.reg [mT 4 false]) .ret) .skip)) (.seq (.reg [mT 4 true]) .ret))))
def kas_r : List RS := [.t 4]
theorem kas_e (hw : TC Tryz.prog Θ Γ kas_c (retQ kas_r K) ⟨[a0, a1, u,u,u,u,u,u,u,u,u,u,u,u,u,u,u,u,u,u], [], h⟩) : T Tryz.prog Γ Fn.kas [a0, a1] h K :=
  TB Tryz.func318 (bodyOf Tryz.f318) hw
def kaA_c : C := .seq (.reg [mA 2 0,mA 3 1,mT 4 false]) (.seq (.seq (.reg [mF 5 0 2,mL 6 1 5,mF 7 0 3,mL 8 1 7,mB 9 .neq 6 8]) (.cond (.t 9) (.seq (.reg [mT 4 false]) .ret) .skip)) (.seq (.seq (.reg [mF 10 1 2,mL 11 1 10,mF 12 1 3,mL 13 1 12,mB 14 .neq 11 13]) (.cond (.t 14) (.seq (.reg [mT 4 false]) .ret) .skip)) (.seq (.reg [mT 4 true]) .ret)))
def kaA_r : List RS := [.t 4]
theorem kaA_e (hw : TC Tryz.prog Θ Γ kaA_c (retQ kaA_r K) ⟨[a0, a1, u,u,u,u,u,u,u,u,u,u,u,u,u], [], h⟩) : T Tryz.prog Γ Fn.kaA [a0, a1] h K :=
  TB Tryz.func319 (bodyOf Tryz.f319) hw
def kaJ_d0_os : List O := [mV 17 0,mV 18 5,mX 19 2 17 18,mG 20 2 19,mV 21 1,mV 22 5,mX 23 2 21 22,mG 24 2 23,mC 25 Fn.kaI [.t 20, .t 24],mU 26 25]
def kaJ_d0_af : List (List Nat) := [[], [], [0, 1], [2], [], [], [4, 5], [6], [3, 7], [8]]
theorem kaJ_d0_q (gl : Gl) (Q : AE → St → Prop) (s : St) : aw Tryz.prog Θ Γ gl (.regD kaJ_d0_os kaJ_d0_af) Q s = awpT Tryz.prog Γ gl [mV 17 0,mV 18 5,mX 19 2 17 18,mG 20 2 19,mV 21 1,mV 22 5,mX 23 2 21 22,mG 24 2 23,mC 25 Fn.kaI [.t 20, .t 24],mU 26 25] (Q .normal) 10 (.q 0 (.q 1 (.q 2 (.q 3 (.q 4 (.q 5 (.q 6 (.q 7 (.q 8 (.q 9 (.done))))))))))) s := a_dd rfl (by kernel_rfl) gl Q s
def kaJ_c : C := .seq (.reg [mT 4 false]) (.seq (.seq (.reg [mV 6 0,mN 7 6,mV 8 1,mN 9 8,mB 10 .neq 7 9]) (.cond (.t 10) (.seq (.reg [mT 4 false]) .ret) .skip)) (.seq (.seq (.reg [mK 5 0]) (.block 0 (.loop (.seq (.seq (.reg [mV 11 5,mV 12 0,mN 13 12,mB 14 .lss 11 13]) (.cond (.t 14) .skip (.exit 0))) (.seq (.block 1 (.seq (.regD kaJ_d0_os kaJ_d0_af) (.cond (.t 26) (.seq (.reg [mT 4 false]) .ret) .skip))) (.reg [mV 15 5,mI 16 .add 15 1,mV 5 16])))))) (.seq (.reg [mT 4 true]) .ret)))
def kaJ_r : List RS := [.t 4]
def kaJ_s0 (t0 t1 t5 : AV) (loc : List (List AV)) (h : AH) : St := ⟨[t0, t1, .any,.any,.any, t5, .any,.any,.any,.any,.any,.any,.any,.any,.any,.any,.any,.any,.any,.any,.any,.any,.any,.any,.any,.any,.any], loc, h⟩
theorem kaJ_e (hw : TC Tryz.prog Θ Γ kaJ_c (retQ kaJ_r K) ⟨[a0, a1, u,u,u,u,u,u,u,u,u,u,u,u,u,u,u,u,u,u,u,u,u,u,u,u,u], [], h⟩) : T Tryz.prog Γ Fn.kaJ [a0, a1] h K :=
  TB Tryz.func320 (bodyOf Tryz.f320) hw
def kaI_c : C := .seq (.reg [mA 2 0,mA 3 1,mT 4 false]) (.seq (.seq (.reg [mF 5 0 2,mL 6 1 5,mF 7 0 3,mL 8 1 7,mB 9 .neq 6 8]) (.cond (.t 9) (.seq (.reg [mT 4 false]) .ret) .skip)) (.seq (.seq (.reg [mF 10 1 2,mL 11 1 10,mF 12 1 3,mL 13 1 12,mB 14 .neq 11 13]) (.cond (.t 14) (.seq (.reg [mT 4 false]) .ret) .skip)) (.seq (.reg [mT 4 true]) .ret)))
def kaI_r : List RS := [.t 4]
theorem kaI_e (hw : TC Tryz.prog Θ Γ kaI_c (retQ kaI_r K) ⟨[a0, a1, u,u,u,u,u,u,u,u,u,u,u,u,u], [], h⟩) : T Tryz.prog Γ Fn.kaI [a0, a1] h K :=
  TB Tryz.func321 (bodyOf Tryz.f321) hw
end Go.Proofs.YtccjhmhkfnnmaaaGreat
