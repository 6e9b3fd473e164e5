import Derived.Test.YtleddolmolkpfaaGreatProg
import Derived.Test.YtleddolmolkpfaaGreatAmLib
set_option linter.unusedVariables false
set_option linter.unusedSimpArgs false
namespace Go.Proofs.YtleddolmolkpfaaGreat
open Go.AM
abbrev mV (d s : Nat) : O := ⟨some d, none, .mov (.t s)⟩
abbrev mF (d k s : Nat) : O := ⟨some d, none, .fld k (.t s)⟩
abbrev mL (d k s : Nat) : O := ⟨some d, none, .load k false (.t s)⟩
abbrev mG (d k s : Nat) : O := ⟨some d, none, .load k true (.t s)⟩
abbrev mX (d k s i : Nat) : O := ⟨some d, none, .idxs k (.t s) (.t i)⟩
abbrev mS (k s i : Nat) : O := ⟨none, none, .store k (.t s) (.t i)⟩
abbrev mC (d : Nat) (f : FuncId) (l : List X) : O := ⟨some d, none, .call (.c (.fn f [] [])) l⟩
abbrev mB (d : Nat) (o : Go.BinOp) (s i : Nat) : O := ⟨some d, none, .bin o .num (.t s) (.t i)⟩
abbrev mI (d : Nat) (o : Go.BinOp) (s : Nat) (k : Int) : O := ⟨some d, none, .bin o .num (.t s) (.c (.int .i64 k))⟩
abbrev mK (d : Nat) (k : Int) : O := ⟨some d, none, .mov (.c (.int .i64 k))⟩
abbrev mT (d : Nat) (k : Bool) : O := ⟨some d, none, .mov (.c (.bool k))⟩
abbrev mN (d s : Nat) : O := ⟨some d, none, .len false (.t s)⟩
abbrev mA (d s : Nat) : O := ⟨some d, none, .box (.t s)⟩
abbrev mU (d s : Nat) : O := ⟨some d, none, .un .not (.t s)⟩
namespace Fn
abbrev kap : FuncId := 6
abbrev kbV : FuncId := 7
abbrev kcs : FuncId := 10
abbrev kaT : FuncId := 14
abbrev kbY : FuncId := 23
abbrev kbI : FuncId := 24
abbrev kcF : FuncId := 25
abbrev kcw : FuncId := 26
abbrev kcb : FuncId := 27
abbrev kac : FuncId := 28
abbrev kaX : FuncId := 29
abbrev kaC : FuncId := 30
abbrev kbx : FuncId := 31
abbrev kbl : FuncId := 32
abbrev kbe : FuncId := 33
abbrev kbC : FuncId := 34
abbrev kbT : FuncId := 35
abbrev kbH : FuncId := 36
abbrev kbO : FuncId := 37
abbrev kb4 : FuncId := 43
abbrev kco : FuncId := 44
abbrev kca : FuncId := 45
abbrev kci : FuncId := 46
abbrev kav : FuncId := 54
abbrev kaP : FuncId := 55
abbrev kaB : FuncId := 56
abbrev kaJ : FuncId := 57
abbrev kbh : FuncId := 58
abbrev kbs : FuncId := 59
abbrev kbk : FuncId := 60
abbrev kbp : FuncId := 61
abbrev kcJ : FuncId := 62
abbrev kah : FuncId := 65
abbrev ka0 : FuncId := 67
abbrev kba : FuncId := 68
abbrev ka3 : FuncId := 69
abbrev ka7 : FuncId := 70
abbrev kbR : FuncId := 75
abbrev kbW : FuncId := 76
abbrev kbA : FuncId := 77
abbrev kbM : FuncId := 78
abbrev kbX : FuncId := 79
abbrev kcN : FuncId := 80
abbrev kcG : FuncId := 81
abbrev kcm : FuncId := 82
abbrev kct : FuncId := 83
abbrev kb2 : FuncId := 84
abbrev kcg : FuncId := 85
abbrev kcv : FuncId := 86
abbrev kcu : FuncId := 87
abbrev kcp : FuncId := 88
abbrev kai : FuncId := 89
abbrev kao : FuncId := 90
abbrev kae : FuncId := 91
abbrev kaN : FuncId := 92
abbrev kaU : FuncId := 93
abbrev kat : FuncId := 94
abbrev kaH : FuncId := 95
abbrev kaW : FuncId := 96
abbrev kaV : FuncId := 97
abbrev kaQ : FuncId := 98
abbrev kbr : FuncId := 99
abbrev kbv : FuncId := 100
abbrev kbg : FuncId := 101
abbrev kbo : FuncId := 102
abbrev kbw : FuncId := 103
abbrev ka9 : FuncId := 104
abbrev kbc : FuncId := 105
abbrev kaZ : FuncId := 106
abbrev ka6 : FuncId := 107
abbrev kbB : FuncId := 108
abbrev kbS : FuncId := 109
abbrev kbG : FuncId := 110
abbrev kbN : FuncId := 111
abbrev kb3 : FuncId := 113
abbrev kcn : FuncId := 114
abbrev kb9 : FuncId := 115
abbrev kch : FuncId := 116
abbrev kau : FuncId := 123
abbrev kaO : FuncId := 124
abbrev kaA : FuncId := 125
abbrev kaI : FuncId := 126
abbrev kbu : FuncId := 127
abbrev kbf : FuncId := 128
abbrev kbt : FuncId := 129
abbrev kbi : FuncId := 130
abbrev kbq : FuncId := 131
abbrev kcS : FuncId := 132
abbrev kcR : FuncId := 133
abbrev kcH : FuncId := 134
abbrev kcI : FuncId := 135
abbrev kan : FuncId := 136
abbrev kab : FuncId := 137
abbrev kad : FuncId := 138
abbrev kbb : FuncId := 141
abbrev kaY : FuncId := 142
abbrev ka1 : FuncId := 143
abbrev ka8 : FuncId := 144
abbrev kbd : FuncId := 145
abbrev kbQ : FuncId := 150
abbrev kbz : FuncId := 151
abbrev kcP : FuncId := 152
abbrev kcK : FuncId := 153
abbrev kcM : FuncId := 154
abbrev kcl : FuncId := 155
abbrev kb1 : FuncId := 156
abbrev kcf : FuncId := 157
abbrev kam : FuncId := 158
abbrev kal : FuncId := 159
abbrev kcA : FuncId := 160
abbrev kaj : FuncId := 161
abbrev kcD : FuncId := 162
abbrev kaM : FuncId := 163
abbrev kas : FuncId := 164
abbrev kaG : FuncId := 165
abbrev kbn : FuncId := 166
abbrev kbm : FuncId := 167
abbrev ka5 : FuncId := 168
abbrev ka4 : FuncId := 169
abbrev kbU : FuncId := 170
abbrev kby : FuncId := 171
abbrev kbD : FuncId := 172
abbrev kbP : FuncId := 173
abbrev kcr : FuncId := 174
abbrev kcq : FuncId := 175
abbrev kb0 : FuncId := 176
abbrev kb6 : FuncId := 177
abbrev kck : FuncId := 178
abbrev kaS : FuncId := 184
abbrev kaR : FuncId := 185
abbrev kar : FuncId := 186
abbrev kax : FuncId := 187
abbrev kaL : FuncId := 188
abbrev kag : FuncId := 189
abbrev kcC : FuncId := 190
abbrev kcx : FuncId := 191
abbrev kcy : FuncId := 192
abbrev kcB : FuncId := 193
abbrev kbL : FuncId := 196
abbrev kbJ : FuncId := 197
abbrev kcO : FuncId := 198
abbrev kcL : FuncId := 199
abbrev kce : FuncId := 200
abbrev kcc : FuncId := 201
abbrev kaf : FuncId := 202
abbrev kaa : FuncId := 203
abbrev kcE : FuncId := 204
abbrev kak : FuncId := 205
abbrev kaF : FuncId := 206
abbrev kaD : FuncId := 207
abbrev kbj : FuncId := 208
abbrev ka2 : FuncId := 209
abbrev kbZ : FuncId := 210
abbrev kb5 : FuncId := 211
abbrev kcj : FuncId := 212
abbrev kaq : FuncId := 213
abbrev kaw : FuncId := 214
abbrev kaK : FuncId := 215
abbrev kbK : FuncId := 217
abbrev kcQ : FuncId := 218
abbrev kcd : FuncId := 219
abbrev kcz : FuncId := 220
abbrev kaE : FuncId := 221
abbrev kbF : FuncId := 222
abbrev kb8 : FuncId := 223
abbrev kaz : FuncId := 224
abbrev kbE : FuncId := 225
abbrev kb7 : FuncId := 226
abbrev kay : FuncId := 227
end Fn
namespace Gn
end Gn
def tabL : List (Nat × TI) := [
  (3, ⟨.int .i64, 1, 8, [.int .i64 0], none⟩),
  (4, ⟨.bool, 1, 1, [.bool false], none⟩),
  (5, ⟨.int .u8, 1, 1, [.int .u8 0], none⟩),
  (9, ⟨.str, 1, 16, [.str ⟨#[]⟩], none⟩),
  (22, ⟨.slice 169, 1, 24, [.nils], none⟩),
  (23, ⟨.slice 172, 1, 24, [.nils], none⟩),
  (24, ⟨.slice 177, 1, 24, [.nils], none⟩),
  (25, ⟨.slice 180, 1, 24, [.nils], none⟩),
  (27, ⟨.strct [(0, 3), (1, 22), (2, 23), (3, 24), (4, 25)], 5, 104, [.int .i64 0, .nils, .nils, .nils, .nils], none⟩),
  (28, ⟨.slice 107, 1, 24, [.nils], none⟩),
  (31, ⟨.slice 101, 1, 24, [.nils], none⟩),
  (34, ⟨.slice 126, 1, 24, [.nils], none⟩),
  (35, ⟨.slice 186, 1, 24, [.nils], none⟩),
  (36, ⟨.slice 98, 1, 24, [.nils], none⟩),
  (37, ⟨.slice 190, 1, 24, [.nils], none⟩),
  (39, ⟨.strct [(0, 3), (1, 34), (2, 35), (3, 36), (4, 37)], 5, 104, [.int .i64 0, .nils, .nils, .nils, .nils], none⟩),
  (53, ⟨.slice 219, 1, 24, [.nils], none⟩),
  (54, ⟨.slice 27, 1, 24, [.nils], none⟩),
  (55, ⟨.slice 223, 1, 24, [.nils], none⟩),
  (56, ⟨.slice 239, 1, 24, [.nils], none⟩),
  (58, ⟨.strct [(0, 53), (1, 54), (2, 55), (3, 56), (4, 3)], 5, 104, [.nils, .nils, .nils, .nils, .int .i64 0], none⟩),
  (59, ⟨.slice 61, 1, 24, [.nils], none⟩),
  (61, ⟨.strct [(0, 3), (1, 3)], 2, 16, [.int .i64 0,.int .i64 0], none⟩),
  (63, ⟨.strct [(0, 3), (1, 3), (2, 3)], 3, 24, [.int .i64 0,.int .i64 0,.int .i64 0], none⟩),
  (65, ⟨.strct [(0, 3), (1, 3), (2, 3), (3, 3), (4, 9), (5, 59), (6, 61), (8, 3), (9, 63)], 12, 120, [.int .i64 0,.int .i64 0,.int .i64 0,.int .i64 0, .str ⟨#[]⟩, .nils, .int .i64 0,.int .i64 0,.int .i64 0,.int .i64 0,.int .i64 0,.int .i64 0], none⟩),
  (68, ⟨.slice 232, 1, 24, [.nils], none⟩),
  (69, ⟨.slice 39, 1, 24, [.nils], none⟩),
  (70, ⟨.slice 229, 1, 24, [.nils], none⟩),
  (71, ⟨.slice 236, 1, 24, [.nils], none⟩),
  (73, ⟨.strct [(0, 68), (1, 69), (2, 70), (3, 71), (4, 3)], 5, 104, [.nils, .nils, .nils, .nils, .int .i64 0], none⟩),
  (77, ⟨.slice 78, 1, 24, [.nils], none⟩),
  (78, ⟨.strct [(0, 3), (1, 3)], 2, 16, [.int .i64 0,.int .i64 0], none⟩),
  (79, ⟨.strct [(0, 3), (1, 3), (2, 3)], 3, 24, [.int .i64 0,.int .i64 0,.int .i64 0], none⟩),
  (81, ⟨.strct [(0, 3), (1, 3), (2, 3), (3, 3), (4, 9), (5, 77), (6, 78), (8, 3), (9, 79)], 12, 120, [.int .i64 0,.int .i64 0,.int .i64 0,.int .i64 0, .str ⟨#[]⟩, .nils, .int .i64 0,.int .i64 0,.int .i64 0,.int .i64 0,.int .i64 0,.int .i64 0], none⟩),
  (95, ⟨.slice 182, 1, 24, [.nils], none⟩),
  (96, ⟨.slice 268, 1, 24, [.nils], none⟩),
  (98, ⟨.strct [(0, 3), (1, 4), (2, 95), (3, 3), (4, 96), (5, 3), (6, 96)], 7, 104, [.int .i64 0, .bool false, .nils, .int .i64 0, .nils, .int .i64 0, .nils], none⟩),
  (101, ⟨.strct [(0, 3), (1, 3), (2, 3), (3, 3)], 4, 32, [.int .i64 0,.int .i64 0,.int .i64 0,.int .i64 0], none⟩),
  (107, ⟨.strct [(0, 3), (1, 3), (2, 3), (3, 3)], 4, 32, [.int .i64 0,.int .i64 0,.int .i64 0,.int .i64 0], none⟩),
  (108, ⟨.ptr 98, 1, 8, [.nilp], none⟩),
  (122, ⟨.slice 123, 1, 24, [.nils], none⟩),
  (123, ⟨.strct [(0, 3), (1, 3)], 2, 16, [.int .i64 0,.int .i64 0], none⟩),
  (124, ⟨.slice 265, 1, 24, [.nils], none⟩),
  (126, ⟨.strct [(0, 3), (1, 3), (2, 122), (3, 3), (4, 123), (6, 35), (7, 124), (8, 3), (9, 3), (10, 3), (11, 3)], 12, 144, [.int .i64 0,.int .i64 0, .nils, .int .i64 0,.int .i64 0,.int .i64 0, .nils, .nils, .int .i64 0,.int .i64 0,.int .i64 0,.int .i64 0], none⟩),
  (165, ⟨.slice 166, 1, 24, [.nils], none⟩),
  (166, ⟨.strct [(0, 3), (1, 3)], 2, 16, [.int .i64 0,.int .i64 0], none⟩),
  (167, ⟨.slice 292, 1, 24, [.nils], none⟩),
  (169, ⟨.strct [(0, 3), (1, 3), (2, 165), (3, 3), (4, 166), (6, 23), (7, 167), (8, 3), (9, 3), (10, 3), (11, 3)], 12, 144, [.int .i64 0,.int .i64 0, .nils, .int .i64 0,.int .i64 0,.int .i64 0, .nils, .nils, .int .i64 0,.int .i64 0,.int .i64 0,.int .i64 0], none⟩),
  (172, ⟨.strct [(0, 3), (1, 9), (2, 165), (3, 3), (4, 63)], 7, 80, [.int .i64 0, .str ⟨#[]⟩, .nils, .int .i64 0,.int .i64 0,.int .i64 0,.int .i64 0], none⟩),
  (174, ⟨.slice 294, 1, 24, [.nils], none⟩),
  (175, ⟨.slice 296, 1, 24, [.nils], none⟩),
  (177, ⟨.strct [(0, 3), (1, 4), (2, 174), (3, 3), (4, 175), (5, 3), (6, 175)], 7, 104, [.int .i64 0, .bool false, .nils, .int .i64 0, .nils, .int .i64 0, .nils], none⟩),
  (180, ⟨.strct [(0, 3), (1, 65)], 13, 128, [.int .i64 0,.int .i64 0,.int .i64 0,.int .i64 0,.int .i64 0, .str ⟨#[]⟩, .nils, .int .i64 0,.int .i64 0,.int .i64 0,.int .i64 0,.int .i64 0,.int .i64 0], none⟩),
  (182, ⟨.strct [(0, 3), (1, 3), (2, 3)], 3, 24, [.int .i64 0,.int .i64 0,.int .i64 0], none⟩),
  (186, ⟨.strct [(0, 3), (1, 9), (2, 122), (3, 3), (4, 79)], 7, 80, [.int .i64 0, .str ⟨#[]⟩, .nils, .int .i64 0,.int .i64 0,.int .i64 0,.int .i64 0], none⟩),
  (190, ⟨.strct [(0, 3), (1, 81)], 13, 128, [.int .i64 0,.int .i64 0,.int .i64 0,.int .i64 0,.int .i64 0, .str ⟨#[]⟩, .nils, .int .i64 0,.int .i64 0,.int .i64 0,.int .i64 0,.int .i64 0,.int .i64 0], none⟩),
  (217, ⟨.slice 304, 1, 24, [.nils], none⟩),
  (219, ⟨.strct [(0, 9), (1, 217)], 2, 40, [.str ⟨#[]⟩, .nils], none⟩),
  (221, ⟨.slice 65, 1, 24, [.nils], none⟩),
  (223, ⟨.strct [(0, 3), (1, 3), (2, 221)], 3, 40, [.int .i64 0,.int .i64 0, .nils], none⟩),
  (227, ⟨.slice 81, 1, 24, [.nils], none⟩),
  (229, ⟨.strct [(0, 3), (1, 3), (2, 227)], 3, 40, [.int .i64 0,.int .i64 0, .nils], none⟩),
  (230, ⟨.slice 283, 1, 24, [.nils], none⟩),
  (232, ⟨.strct [(0, 9), (1, 230)], 2, 40, [.str ⟨#[]⟩, .nils], none⟩),
  (236, ⟨.strct [(0, 3), (1, 3), (2, 3), (3, 79)], 6, 48, [.int .i64 0,.int .i64 0,.int .i64 0,.int .i64 0,.int .i64 0,.int .i64 0], none⟩),
  (239, ⟨.strct [(0, 3), (1, 3), (2, 3), (3, 63)], 6, 48, [.int .i64 0,.int .i64 0,.int .i64 0,.int .i64 0,.int .i64 0,.int .i64 0], none⟩),
  (265, ⟨.strct [(0, 3), (1, 3)], 2, 16, [.int .i64 0,.int .i64 0], none⟩),
  (266, ⟨.slice 5, 1, 24, [.nils], none⟩),
  (268, ⟨.strct [(0, 3), (1, 3)], 2, 16, [.int .i64 0,.int .i64 0], none⟩),
  (281, ⟨.slice 309, 1, 24, [.nils], none⟩),
  (283, ⟨.strct [(0, 9), (1, 281)], 2, 40, [.str ⟨#[]⟩, .nils], none⟩),
  (292, ⟨.strct [(0, 3), (1, 3)], 2, 16, [.int .i64 0,.int .i64 0], none⟩),
  (294, ⟨.strct [(0, 3), (1, 3), (2, 3)], 3, 24, [.int .i64 0,.int .i64 0,.int .i64 0], none⟩),
  (296, ⟨.strct [(0, 3), (1, 3)], 2, 16, [.int .i64 0,.int .i64 0], none⟩),
  (302, ⟨.slice 315, 1, 24, [.nils], none⟩),
  (304, ⟨.strct [(0, 9), (1, 302)], 2, 40, [.str ⟨#[]⟩, .nils], none⟩),
  (309, ⟨.strct [(0, 3), (1, 3), (2, 3), (3, 3), (4, 3), (5, 9)], 6, 56, [.int .i64 0,.int .i64 0,.int .i64 0,.int .i64 0,.int .i64 0, .str ⟨#[]⟩], none⟩),
  (315, ⟨.strct [(0, 3), (1, 3), (2, 3), (3, 3), (4, 3), (5, 9)], 6, 56, [.int .i64 0,.int .i64 0,.int .i64 0,.int .i64 0,.int .i64 0, .str ⟨#[]⟩], none⟩)]
def Θ : Tab := tabOf tabL
theorem tabOK : TabOK Tryz.prog Θ := tabOK_of (by kernel_rfl) (by kernel_rfl)
theorem mixed : Tryz.prog.follows .mixedOrders = true := by kernel_rfl
theorem TB {Γ : Glob} {f : FuncId} {fn : Func} {c : C} {rs : List RS} {args : List AV} {h : AH} {K : AV → AH → Prop} (hf : Tryz.prog.funcs[f]? = some fn) (code : Code)
    (hw : TC Tryz.prog Θ Γ c (retQ rs K) ⟨args ++ List.replicate (fn.ntmps - args.length) (.tup []), [], h⟩)
    (hb : fn.body = some code := by kernel_rfl) (hn : (fn.name == "runtime.NumGoroutine") = false := by kernel_rfl) (hc : trC Θ code = some c := by kernel_rfl) (hr : fn.results.toList.mapM (trR Θ) = some rs := by kernel_rfl) : T Tryz.prog Γ f args h K :=
  T_of_body tabOK hf hb hn hc hr hw
variable {Γ : Glob} {a0 a1 a2 a3 a4 a5 a6 a7 : AV} {h : AH} {K : AV → AH → Prop}
def kap_d0_os : List O := [mG 32 5 4,mC 33 Fn.kcw [.t 32],mV 34 1,mV 35 2,mG 36 12 7,mC 37 Fn.kcb [.t 36],mC 38 Fn.kcF [.t 33, .t 34, .t 35, .t 37],mV 31 38,⟨(some 39), none, .extr (.t 31) 0⟩,⟨(some 40), none, .extr (.t 31) 1⟩,⟨(some 10), none, .alloc [.nils, .nils, .nils, .nils, .int .i64 0]⟩,mS 5 10 39,mV 11 40]
def kap_d0_af : List (List Nat) := [[], [0], [], [], [], [4, 1], [1, 2, 3, 5, 5], [6], [7], [7], [], [10, 8, 6, 0, 1, 2, 3, 4, 5, 6, 7, 8, 10], [9, 11, 0, 1, 2, 3, 4, 5, 6, 7, 8, 9, 10, 11]]
theorem kap_d0_q (gl : Gl) (Q : AE → St → Prop) (s : St) : aw Tryz.prog Θ Γ gl (.regD kap_d0_os kap_d0_af) Q s = awpT Tryz.prog Γ gl [mG 32 5 4,mC 33 Fn.kcw [.t 32],mV 34 1,mV 35 2,mG 36 12 7,mC 37 Fn.kcb [.t 36],mC 38 Fn.kcF [.t 33, .t 34, .t 35, .t 37],mV 31 38,⟨(some 39), none, .extr (.t 31) 0⟩,⟨(some 40), none, .extr (.t 31) 1⟩,⟨(some 10), none, .alloc [.nils, .nils, .nils, .nils, .int .i64 0]⟩,mS 5 10 39,mV 11 40] (Q .normal) 13 (.q 0 (.q 2 (.q 3 (.q 4 (.all [(1, .all [(5, .all [(6, .q 7 (.q 8 (.q 9 (.all [(10, .q 11 (.q 12 (.done)))])))), (10, .all [(6, .q 7 (.q 8 (.q 9 (.q 11 (.q 12 (.done))))))])]), (10, .all [(5, .all [(6, .q 7 (.q 8 (.q 9 (.q 11 (.q 12 (.done))))))])])]), (10, .all [(1, .all [(5, .all [(6, .q 7 (.q 8 (.q 9 (.q 11 (.q 12 (.done))))))])])])]))))) s := a_dd rfl (by kernel_rfl) gl Q s
def kap_d1_os : List O := [mG 62 5 12,mG 63 5 4,mC 64 Fn.kcw [.t 63],mC 65 Fn.kaX [.t 62, .t 64],mU 66 65]
def kap_d1_af : List (List Nat) := [[], [], [1], [0, 2, 2], [3]]
theorem kap_d1_q (gl : Gl) (Q : AE → St → Prop) (s : St) : aw Tryz.prog Θ Γ gl (.regD kap_d1_os kap_d1_af) Q s = awpT Tryz.prog Γ gl [mG 62 5 12,mG 63 5 4,mC 64 Fn.kcw [.t 63],mC 65 Fn.kaX [.t 62, .t 64],mU 66 65] (Q .normal) 5 (.q 0 (.q 1 (.st 2 [12] (.q 3 (.q 4 (.done)))))) s := a_dd rfl (by kernel_rfl) gl Q s
def kap_d2_os : List O := [mG 67 12 13,mG 68 12 7,mC 69 Fn.kcb [.t 68],mC 70 Fn.kaC [.t 67, .t 69],mU 71 70]
def kap_d2_af : List (List Nat) := [[], [], [1], [0, 2, 2], [3]]
theorem kap_d2_q (gl : Gl) (Q : AE → St → Prop) (s : St) : aw Tryz.prog Θ Γ gl (.regD kap_d2_os kap_d2_af) Q s = awpT Tryz.prog Γ gl [mG 67 12 13,mG 68 12 7,mC 69 Fn.kcb [.t 68],mC 70 Fn.kaC [.t 67, .t 69],mU 71 70] (Q .normal) 5 (.q 0 (.q 1 (.st 2 [13] (.q 3 (.q 4 (.done)))))) s := a_dd rfl (by kernel_rfl) gl Q s
def kap_d3_os : List O := [mG 103 5 4,mC 104 Fn.kcw [.t 103],mV 105 1,mV 106 2,mG 107 12 7,mC 108 Fn.kcb [.t 107],mC 109 Fn.kac [.t 104, .t 105, .t 106, .t 108],mV 102 109,⟨(some 110), none, .extr (.t 102) 0⟩,⟨(some 111), none, .extr (.t 102) 1⟩,⟨(some 19), none, .alloc [.nils, .nils, .nils, .nils, .int .i64 0]⟩,mS 5 19 110,mV 20 111]
def kap_d3_af : List (List Nat) := [[], [0], [], [], [], [4, 1], [1, 2, 3, 5, 5], [6], [7], [7], [], [10, 8, 6, 0, 1, 2, 3, 4, 5, 6, 7, 8, 10], [9, 11, 0, 1, 2, 3, 4, 5, 6, 7, 8, 9, 10, 11]]
theorem kap_d3_q (gl : Gl) (Q : AE → St → Prop) (s : St) : aw Tryz.prog Θ Γ gl (.regD kap_d3_os kap_d3_af) Q s = awpT Tryz.prog Γ gl [mG 103 5 4,mC 104 Fn.kcw [.t 103],mV 105 1,mV 106 2,mG 107 12 7,mC 108 Fn.kcb [.t 107],mC 109 Fn.kac [.t 104, .t 105, .t 106, .t 108],mV 102 109,⟨(some 110), none, .extr (.t 102) 0⟩,⟨(some 111), none, .extr (.t 102) 1⟩,⟨(some 19), none, .alloc [.nils, .nils, .nils, .nils, .int .i64 0]⟩,mS 5 19 110,mV 20 111] (Q .normal) 13 (.q 0 (.q 2 (.q 3 (.q 4 (.all [(1, .all [(5, .all [(6, .q 7 (.q 8 (.q 9 (.all [(10, .q 11 (.q 12 (.done)))])))), (10, .all [(6, .q 7 (.q 8 (.q 9 (.q 11 (.q 12 (.done))))))])]), (10, .all [(5, .all [(6, .q 7 (.q 8 (.q 9 (.q 11 (.q 12 (.done))))))])])]), (10, .all [(1, .all [(5, .all [(6, .q 7 (.q 8 (.q 9 (.q 11 (.q 12 (.done))))))])])])]))))) s := a_dd rfl (by kernel_rfl) gl Q s
def kap_t0 : C := .seq (.regD kap_d3_os kap_d3_af) (.seq (.seq (.reg [mG 112 5 19,mG 113 5 10,mC 114 Fn.kaX [.t 112, .t 113],mU 115 114,mV 116 115,⟨(some 117), (some (4, false)), .mov (.t 20)⟩,⟨(some 118), (some (4, false)), .mov (.t 11)⟩,⟨(some 119), (some (4, false)), .bin .neq (.bool) (.t 117) (.t 118)⟩,⟨(some 120), none, .pick (.t 116) (.c (.bool true)) (.t 119)⟩]) (.cond (.t 120) (.seq (.reg [mT 8 false]) .ret) .skip)) (.seq (.reg [mK 18 1]) (.seq (.reg [mG 121 5 14,mV 122 18,mC 123 Fn.kbe [.t 121, .t 122],mV 18 123]) (.seq (.seq (.reg [mV 124 18,mI 125 .lss 124 0]) (.cond (.t 125) (.seq (.reg [mT 8 false]) .ret) .skip)) (.seq (.seq (.reg [mV 126 18,mV 127 17,mB 128 .neq 126 127]) (.cond (.t 128) (.seq (.reg [mT 8 false]) .ret) .skip)) (.seq (.reg [mT 8 true]) .ret))))))
def kap_t1 : C := .seq (.regD kap_d0_os kap_d0_af) (.seq (.reg [mG 41 5 4,mC 42 Fn.kcw [.t 41],⟨(some 12), none, .alloc [.nils, .nils, .nils, .nils, .int .i64 0]⟩,mS 5 12 42]) (.seq (.reg [mG 43 12 7,mC 44 Fn.kcb [.t 43],⟨(some 13), none, .alloc [.int .i64 0,.int .i64 0,.int .i64 0,.int .i64 0, .str ⟨#[]⟩, .nils, .int .i64 0,.int .i64 0,.int .i64 0,.int .i64 0,.int .i64 0,.int .i64 0]⟩,mS 12 13 44]) (.seq (.reg [mG 46 5 12,mV 47 1,mV 48 2,mG 49 12 13,mC 50 Fn.kac [.t 46, .t 47, .t 48, .t 49],mV 45 50,⟨(some 51), none, .extr (.t 45) 0⟩,⟨(some 52), none, .extr (.t 45) 1⟩,⟨(some 14), none, .alloc [.nils, .nils, .nils, .nils, .int .i64 0]⟩,mS 5 14 51,mV 15 52]) (.seq (.seq (.reg [mG 53 5 14,mG 54 5 10,mC 55 Fn.kaX [.t 53, .t 54],mU 56 55,mV 57 56,⟨(some 58), (some (4, false)), .mov (.t 15)⟩,⟨(some 59), (some (4, false)), .mov (.t 11)⟩,⟨(some 60), (some (4, false)), .bin .neq (.bool) (.t 58) (.t 59)⟩,⟨(some 61), none, .pick (.t 57) (.c (.bool true)) (.t 60)⟩]) (.cond (.t 61) (.seq (.reg [mT 8 false]) .ret) .skip)) (.seq (.seq (.regD kap_d1_os kap_d1_af) (.cond (.t 66) (.seq (.reg [mT 8 false]) .ret) .skip)) (.seq (.seq (.regD kap_d2_os kap_d2_af) (.cond (.t 71) (.seq (.reg [mT 8 false]) .ret) .skip)) (.seq (.reg [mK 16 1]) (.seq (.reg [mG 72 5 12,mV 73 16,mC 74 Fn.kbx [.t 72, .t 73],mV 16 74]) (.seq (.reg [mG 75 12 13,mV 76 16,mC 77 Fn.kbl [.t 75, .t 76],mV 16 77]) (.seq (.seq (.reg [mV 78 16,mI 79 .lss 78 0,mV 80 79,⟨(some 81), (some (2, false)), .load 5 true (.t 14)⟩,⟨(some 82), (some (2, false)), .load 5 true (.t 10)⟩,⟨(some 83), (some (2, false)), .call (.c (.fn Fn.kaX [] [])) [.t 81, .t 82]⟩,⟨(some 84), (some (2, false)), .un .not (.t 83)⟩,⟨(some 85), none, .pick (.t 80) (.c (.bool true)) (.t 84)⟩,mV 86 85,⟨(some 87), (some (8, false)), .mov (.t 15)⟩,⟨(some 88), (some (8, false)), .mov (.t 11)⟩,⟨(some 89), (some (8, false)), .bin .neq (.bool) (.t 87) (.t 88)⟩,⟨(some 90), none, .pick (.t 86) (.c (.bool true)) (.t 89)⟩]) (.cond (.t 90) (.seq (.reg [mT 8 false]) .ret) .skip)) (.seq (.reg [mK 17 1]) (.seq (.reg [mG 91 5 14,mV 92 17,mC 93 Fn.kbx [.t 91, .t 92],mV 17 93]) (.seq (.reg [mK 18 1]) (.seq (.reg [mG 94 5 14,mV 95 18,mC 96 Fn.kbe [.t 94, .t 95],mV 18 96]) (.seq (.seq (.reg [mV 97 18,mI 98 .lss 97 0]) (.cond (.t 98) (.seq (.reg [mT 8 false]) .ret) .skip)) (.seq (.seq (.reg [mV 99 18,mV 100 17,mB 101 .neq 99 100]) (.cond (.t 101) (.seq (.reg [mT 8 false]) .ret) .skip)) (kap_t0)))))))))))))))))
def kap_c : C := .seq (.reg [mA 4 0,mA 7 3,mT 8 false]) (.seq (.reg [mK 9 1048576]) (.seq (.reg [mG 21 5 4,mV 22 9,mC 23 Fn.kbY [.t 21, .t 22],mV 9 23]) (.seq (.seq (.reg [mV 24 9,mI 25 .lss 24 0]) (.cond (.t 25) (.seq (.reg [mT 8 true]) .ret) .skip)) (.seq (.reg [mG 26 12 7,mV 27 9,mC 28 Fn.kbI [.t 26, .t 27],mV 9 28]) (.seq (.seq (.reg [mV 29 9,mI 30 .lss 29 0]) (.cond (.t 30) (.seq (.reg [mT 8 true]) .ret) .skip)) (kap_t1))))))
def kap_r : List RS := [.t 8]
theorem kap_e (hw : TC Tryz.prog Θ Γ kap_c (retQ kap_r K) ⟨[a0, a1, a2, a3, u,u,u,u,u,u,u,u,u,u,u,u,u,u,u,u,u,u,u,u,u,u,u,u,u,u,u,u,u,u,u,u,u,u,u,u,u,u,u,u,u,u,u,u,u,u,u,u,u,u,u,u,u,u,u,u,u,u,u,u,u,u,u,u,u,u,u,u,u,u,u,u,u,u,u,u,u,u,u,u,u,u,u,u,u,u,u,u,u,u,u,u,u,u,u,u,u,u,u,u,u,u,u,u,u,u,u,u,u,u,u,u,u,u,u,u,u,u,u,u,u,u,u,u,u], [], h⟩) : T Tryz.prog Γ Fn.kap [a0, a1, a2, a3] h K :=
  TB Tryz.func6 (bodyOf Tryz.f6) hw
def kbV_c : C := .seq (.reg [mA 2 0,mK 4 0]) (.seq (.reg [mF 5 1 2,mL 6 1 5,mV 7 1,mC 8 Fn.kbC [.t 6, .t 7],mV 1 8]) (.seq (.seq (.reg [mV 9 1,mI 10 .lss 9 0]) (.cond (.t 10) (.seq (.reg [mK 4 (-1)]) .ret) .skip)) (.seq (.reg [mF 11 2 2,mL 12 1 11,mV 13 1,mC 14 Fn.kbT [.t 12, .t 13],mV 1 14]) (.seq (.seq (.reg [mV 15 1,mI 16 .lss 15 0]) (.cond (.t 16) (.seq (.reg [mK 4 (-1)]) .ret) .skip)) (.seq (.reg [mF 17 3 2,mL 18 1 17,mV 19 1,mC 20 Fn.kbH [.t 18, .t 19],mV 1 20]) (.seq (.seq (.reg [mV 21 1,mI 22 .lss 21 0]) (.cond (.t 22) (.seq (.reg [mK 4 (-1)]) .ret) .skip)) (.seq (.reg [mF 23 4 2,mL 24 1 23,mV 25 1,mC 26 Fn.kbO [.t 24, .t 25],mV 1 26]) (.seq (.seq (.reg [mV 27 1,mI 28 .lss 27 0]) (.cond (.t 28) (.seq (.reg [mK 4 (-1)]) .ret) .skip)) (.seq (.reg [mV 29 1,mV 4 29]) .ret)))))))))
def kbV_r : List RS := [.t 4]
theorem kbV_e (hw : TC Tryz.prog Θ Γ kbV_c (retQ kbV_r K) ⟨[a0, a1, u,u,u,u,u,u,u,u,u,u,u,u,u,u,u,u,u,u,u,u,u,u,u,u,u,u,u,u], [], h⟩) : T Tryz.prog Γ Fn.kbV [a0, a1] h K :=
  TB Tryz.func7 (bodyOf Tryz.f7) hw
def kcs_c : C := .seq (.reg [mA 1 0,⟨(some 2), none, .alloc [.int .i64 0, .nils, .nils, .nils, .nils]⟩]) (.seq (.reg [⟨(some 3), none, .alloc [.int .i64 0, .nils, .nils, .nils, .nils]⟩]) (.seq (.reg [mF 4 0 1,mL 5 1 4,mF 6 0 3,mS 1 6 5]) (.seq (.reg [mF 7 1 1,mL 8 1 7,mC 9 Fn.kb4 [.t 8],mF 10 1 3,mS 1 10 9]) (.seq (.reg [mF 11 2 1,mL 12 1 11,mC 13 Fn.kco [.t 12],mF 14 2 3,mS 1 14 13]) (.seq (.reg [mF 15 3 1,mL 16 1 15,mC 17 Fn.kca [.t 16],mF 18 3 3,mS 1 18 17]) (.seq (.reg [mF 19 4 1,mL 20 1 19,mC 21 Fn.kci [.t 20],mF 22 4 3,mS 1 22 21]) (.seq (.reg [mG 23 5 3,mS 5 2 23]) .ret)))))))
def kcs_r : List RS := [.cell 2 5 true]
theorem kcs_e (hw : TC Tryz.prog Θ Γ kcs_c (retQ kcs_r K) ⟨[a0, u,u,u,u,u,u,u,u,u,u,u,u,u,u,u,u,u,u,u,u,u,u,u], [], h⟩) : T Tryz.prog Γ Fn.kcs [a0] h K :=
  TB Tryz.func10 (bodyOf Tryz.f10) hw
def kaT_c : C := .seq (.reg [mA 2 0,mA 3 1,mT 4 false]) (.seq (.seq (.reg [mF 5 0 2,mL 6 1 5,mF 7 0 3,mL 8 1 7,mB 9 .neq 6 8]) (.cond (.t 9) (.seq (.reg [mT 4 false]) .ret) .skip)) (.seq (.seq (.reg [mF 10 1 2,mL 11 1 10,mF 12 1 3,mL 13 1 12,mC 14 Fn.kav [.t 11, .t 13],mU 15 14]) (.cond (.t 15) (.seq (.reg [mT 4 false]) .ret) .skip)) (.seq (.seq (.reg [mF 16 2 2,mL 17 1 16,mF 18 2 3,mL 19 1 18,mC 20 Fn.kaP [.t 17, .t 19],mU 21 20]) (.cond (.t 21) (.seq (.reg [mT 4 false]) .ret) .skip)) (.seq (.seq (.reg [mF 22 3 2,mL 23 1 22,mF 24 3 3,mL 25 1 24,mC 26 Fn.kaB [.t 23, .t 25],mU 27 26]) (.cond (.t 27) (.seq (.reg [mT 4 false]) .ret) .skip)) (.seq (.seq (.reg [mF 28 4 2,mL 29 1 28,mF 30 4 3,mL 31 1 30,mC 32 Fn.kaJ [.t 29, .t 31],mU 33 32]) (.cond (.t 33) (.seq (.reg [mT 4 false]) .ret) .skip)) (.seq (.reg [mT 4 true]) .ret))))))
def kaT_r : List RS := [.t 4]
theorem kaT_e (hw : TC Tryz.prog Θ Γ kaT_c (retQ kaT_r K) ⟨[a0, a1, u,u,u,u,u,u,u,u,u,u,u,u,u,u,u,u,u,u,u,u,u,u,u,u,u,u,u,u,u,u,u,u], [], h⟩) : T Tryz.prog Γ Fn.kaT [a0, a1] h K :=
  TB Tryz.func14 (bodyOf Tryz.f14) hw
def kbY_c : C := .seq (.reg [mA 2 0,mK 4 0]) (.seq (.reg [mF 5 0 2,mL 6 1 5,mV 7 1,mC 8 Fn.kbR [.t 6, .t 7],mV 1 8]) (.seq (.seq (.reg [mV 9 1,mI 10 .lss 9 0]) (.cond (.t 10) (.seq (.reg [mK 4 (-1)]) .ret) .skip)) (.seq (.reg [mF 11 1 2,mL 12 1 11,mV 13 1,mC 14 Fn.kbW [.t 12, .t 13],mV 1 14]) (.seq (.seq (.reg [mV 15 1,mI 16 .lss 15 0]) (.cond (.t 16) (.seq (.reg [mK 4 (-1)]) .ret) .skip)) (.seq (.reg [mF 17 2 2,mL 18 1 17,mV 19 1,mC 20 Fn.kbA [.t 18, .t 19],mV 1 20]) (.seq (.seq (.reg [mV 21 1,mI 22 .lss 21 0]) (.cond (.t 22) (.seq (.reg [mK 4 (-1)]) .ret) .skip)) (.seq (.reg [mF 23 3 2,mL 24 1 23,mV 25 1,mC 26 Fn.kbM [.t 24, .t 25],mV 1 26]) (.seq (.seq (.reg [mV 27 1,mI 28 .lss 27 0]) (.cond (.t 28) (.seq (.reg [mK 4 (-1)]) .ret) .skip)) (.seq (.reg [mV 29 1,mV 4 29]) .ret)))))))))
def kbY_r : List RS := [.t 4]
theorem kbY_e (hw : TC Tryz.prog Θ Γ kbY_c (retQ kbY_r K) ⟨[a0, a1, u,u,u,u,u,u,u,u,u,u,u,u,u,u,u,u,u,u,u,u,u,u,u,u,u,u,u,u], [], h⟩) : T Tryz.prog Γ Fn.kbY [a0, a1] h K :=
  TB Tryz.func23 (bodyOf Tryz.f23) hw
def kbI_c : C := .seq (.reg [mA 2 0,mK 4 0]) (.seq (.reg [mV 5 1,mF 6 4 2,mL 7 1 6,⟨(some 8), none, .len true (.t 7)⟩,mB 9 .sub 5 8,mV 1 9]) (.seq (.seq (.reg [mV 10 1,mI 11 .lss 10 0]) (.cond (.t 11) (.seq (.reg [mK 4 (-1)]) .ret) .skip)) (.seq (.reg [mF 12 5 2,mL 13 1 12,mV 14 1,mC 15 Fn.kbX [.t 13, .t 14],mV 1 15]) (.seq (.seq (.reg [mV 16 1,mI 17 .lss 16 0]) (.cond (.t 17) (.seq (.reg [mK 4 (-1)]) .ret) .skip)) (.seq (.reg [mV 18 1,mV 4 18]) .ret)))))
def kbI_r : List RS := [.t 4]
theorem kbI_e (hw : TC Tryz.prog Θ Γ kbI_c (retQ kbI_r K) ⟨[a0, a1, u,u,u,u,u,u,u,u,u,u,u,u,u,u,u,u,u], [], h⟩) : T Tryz.prog Γ Fn.kbI [a0, a1] h K :=
  TB Tryz.func24 (bodyOf Tryz.f24) hw
def kcF_c : C := .seq (.reg [mA 4 0,mA 7 3,⟨(some 8), none, .alloc [.nils, .nils, .nils, .nils, .int .i64 0]⟩,mT 9 false]) (.seq (.reg [mG 13 5 4,mC 14 Fn.kcN [.t 13],⟨(some 10), none, .alloc [.nils, .nils, .nils, .nils, .int .i64 0]⟩,mS 5 10 14]) (.seq (.reg [mF 16 2 4,mL 17 1 16,mV 18 1,mV 19 2,mG 20 12 7,mC 21 Fn.kcG [.t 17, .t 18, .t 19, .t 20],mV 15 21,⟨(some 22), none, .extr (.t 15) 0⟩,⟨(some 23), none, .extr (.t 15) 1⟩,mV 11 22,mV 12 23]) (.seq (.reg [mV 24 11,mF 25 2 10,mS 1 25 24]) (.seq (.reg [mG 26 5 10,mV 27 12,mS 5 8 26,mV 9 27]) .ret))))
def kcF_r : List RS := [.cell 8 5 true, .t 9]
theorem kcF_e (hw : TC Tryz.prog Θ Γ kcF_c (retQ kcF_r K) ⟨[a0, a1, a2, a3, u,u,u,u,u,u,u,u,u,u,u,u,u,u,u,u,u,u,u,u,u,u,u,u], [], h⟩) : T Tryz.prog Γ Fn.kcF [a0, a1, a2, a3] h K :=
  TB Tryz.func25 (bodyOf Tryz.f25) hw
def kcw_c : C := .seq (.reg [mA 1 0,⟨(some 2), none, .alloc [.nils, .nils, .nils, .nils, .int .i64 0]⟩]) (.seq (.reg [⟨(some 3), none, .alloc [.nils, .nils, .nils, .nils, .int .i64 0]⟩]) (.seq (.reg [mF 4 0 1,mL 5 1 4,mC 6 Fn.kcm [.t 5],mF 7 0 3,mS 1 7 6]) (.seq (.reg [mF 8 1 1,mL 9 1 8,mC 10 Fn.kct [.t 9],mF 11 1 3,mS 1 11 10]) (.seq (.reg [mF 12 2 1,mL 13 1 12,mC 14 Fn.kb2 [.t 13],mF 15 2 3,mS 1 15 14]) (.seq (.reg [mF 16 3 1,mL 17 1 16,mC 18 Fn.kcg [.t 17],mF 19 3 3,mS 1 19 18]) (.seq (.reg [mF 20 4 1,mL 21 1 20,mF 22 4 3,mS 1 22 21]) (.seq (.reg [mG 23 5 3,mS 5 2 23]) .ret)))))))
def kcw_r : List RS := [.cell 2 5 true]
theorem kcw_e (hw : TC Tryz.prog Θ Γ kcw_c (retQ kcw_r K) ⟨[a0, u,u,u,u,u,u,u,u,u,u,u,u,u,u,u,u,u,u,u,u,u,u,u], [], h⟩) : T Tryz.prog Γ Fn.kcw [a0] h K :=
  TB Tryz.func26 (bodyOf Tryz.f26) hw
def kcb_c : C := .seq (.reg [mA 1 0,⟨(some 2), none, .alloc [.int .i64 0,.int .i64 0,.int .i64 0,.int .i64 0, .str ⟨#[]⟩, .nils, .int .i64 0,.int .i64 0,.int .i64 0,.int .i64 0,.int .i64 0,.int .i64 0]⟩]) (.seq (.reg [⟨(some 3), none, .alloc [.int .i64 0,.int .i64 0,.int .i64 0,.int .i64 0, .str ⟨#[]⟩, .nils, .int .i64 0,.int .i64 0,.int .i64 0,.int .i64 0,.int .i64 0,.int .i64 0]⟩]) (.seq (.reg [mF 4 0 1,mL 5 1 4,mF 6 0 3,mS 1 6 5]) (.seq (.reg [mF 7 1 1,mL 8 1 7,mF 9 1 3,mS 1 9 8]) (.seq (.reg [mF 10 2 1,mL 11 1 10,mF 12 2 3,mS 1 12 11]) (.seq (.reg [mF 13 3 1,mL 14 1 13,mF 15 3 3,mS 1 15 14]) (.seq (.reg [mF 16 4 1,mL 17 1 16,mF 18 4 3,mS 1 18 17]) (.seq (.reg [mF 19 5 1,mL 20 1 19,mC 21 Fn.kcv [.t 20],mF 22 5 3,mS 1 22 21]) (.seq (.reg [mF 23 6 1,mG 24 2 23,mC 25 Fn.kcu [.t 24],mF 26 6 3,mS 2 26 25]) (.seq (.reg [mF 27 8 1,mL 28 1 27,mF 29 8 3,mS 1 29 28]) (.seq (.reg [mF 30 9 1,mG 31 3 30,mC 32 Fn.kcp [.t 31],mF 33 9 3,mS 3 33 32]) (.seq (.reg [mG 34 12 3,mS 12 2 34]) .ret)))))))))))
def kcb_r : List RS := [.cell 2 12 true]
theorem kcb_e (hw : TC Tryz.prog Θ Γ kcb_c (retQ kcb_r K) ⟨[a0, u,u,u,u,u,u,u,u,u,u,u,u,u,u,u,u,u,u,u,u,u,u,u,u,u,u,u,u,u,u,u,u,u,u], [], h⟩) : T Tryz.prog Γ Fn.kcb [a0] h K :=
  TB Tryz.func27 (bodyOf Tryz.f27) hw
def kac_d0_os : List O := [mF 14 2 10,mL 15 1 14,mV 16 1,mV 17 2,mG 18 12 7,mC 19 Fn.kae [.t 18],mC 20 Fn.kao [.t 15, .t 16, .t 17, .t 19],mV 11 20]
def kac_d0_af : List (List Nat) := [[], [0], [], [], [], [4], [1, 2, 3, 5, 5], [6, 6, 0, 1, 2, 3, 4, 5, 6]]
theorem kac_d0_q (gl : Gl) (Q : AE → St → Prop) (s : St) : aw Tryz.prog Θ Γ gl (.regD kac_d0_os kac_d0_af) Q s = awpT Tryz.prog Γ gl [mF 14 2 10,mL 15 1 14,mV 16 1,mV 17 2,mG 18 12 7,mC 19 Fn.kae [.t 18],mC 20 Fn.kao [.t 15, .t 16, .t 17, .t 19],mV 11 20] (Q .normal) 8 (.q 0 (.q 1 (.q 2 (.q 3 (.q 4 (.st 5 [14] (.q 6 (.q 7 (.done))))))))) s := a_dd rfl (by kernel_rfl) gl Q s
def kac_c : C := .seq (.reg [mA 4 0,mA 7 3,⟨(some 8), none, .alloc [.nils, .nils, .nils, .nils, .int .i64 0]⟩,mT 9 false]) (.seq (.reg [mG 12 5 4,mC 13 Fn.kai [.t 12],⟨(some 10), none, .alloc [.nils, .nils, .nils, .nils, .int .i64 0]⟩,mS 5 10 13]) (.seq (.regD kac_d0_os kac_d0_af) (.seq (.reg [mG 21 5 10,mV 22 11,mS 5 8 21,mV 9 22]) .ret)))
def kac_r : List RS := [.cell 8 5 true, .t 9]
theorem kac_e (hw : TC Tryz.prog Θ Γ kac_c (retQ kac_r K) ⟨[a0, a1, a2, a3, u,u,u,u,u,u,u,u,u,u,u,u,u,u,u,u,u,u,u], [], h⟩) : T Tryz.prog Γ Fn.kac [a0, a1, a2, a3] h K :=
  TB Tryz.func28 (bodyOf Tryz.f28) hw
def kaX_c : C := .seq (.reg [mA 2 0,mA 3 1,mT 4 false]) (.seq (.seq (.reg [mF 5 0 2,mL 6 1 5,mF 7 0 3,mL 8 1 7,mC 9 Fn.kaN [.t 6, .t 8],mU 10 9]) (.cond (.t 10) (.seq (.reg [mT 4 false]) .ret) .skip)) (.seq (.seq (.reg [mF 11 1 2,mL 12 1 11,mF 13 1 3,mL 14 1 13,mC 15 Fn.kaU [.t 12, .t 14],mU 16 15]) (.cond (.t 16) (.seq (.reg [mT 4 false]) .ret) .skip)) (.seq (.seq (.reg [mF 17 2 2,mL 18 1 17,mF 19 2 3,mL 20 1 19,mC 21 Fn.kat [.t 18, .t 20],mU 22 21]) (.cond (.t 22) (.seq (.reg [mT 4 false]) .ret) .skip)) (.seq (.seq (.reg [mF 23 3 2,mL 24 1 23,mF 25 3 3,mL 26 1 25,mC 27 Fn.kaH [.t 24, .t 26],mU 28 27]) (.cond (.t 28) (.seq (.reg [mT 4 false]) .ret) .skip)) (.seq (.seq (.reg [mF 29 4 2,mL 30 1 29,mF 31 4 3,mL 32 1 31,mB 33 .neq 30 32]) (.cond (.t 33) (.seq (.reg [mT 4 false]) .ret) .skip)) (.seq (.reg [mT 4 true]) .ret))))))
def kaX_r : List RS := [.t 4]
theorem kaX_e (hw : TC Tryz.prog Θ Γ kaX_c (retQ kaX_r K) ⟨[a0, a1, u,u,u,u,u,u,u,u,u,u,u,u,u,u,u,u,u,u,u,u,u,u,u,u,u,u,u,u,u,u,u,u], [], h⟩) : T Tryz.prog Γ Fn.kaX [a0, a1] h K :=
  TB Tryz.func29 (bodyOf Tryz.f29) hw
def kaC_c : C := .seq (.reg [mA 2 0,mA 3 1,mT 4 false]) (.seq (.seq (.reg [mF 5 0 2,mL 6 1 5,mF 7 0 3,mL 8 1 7,mB 9 .neq 6 8]) (.cond (.t 9) (.seq (.reg [mT 4 false]) .ret) .skip)) (.seq (.seq (.reg [mF 10 1 2,mL 11 1 10,mF 12 1 3,mL 13 1 12,mB 14 .neq 11 13]) (.cond (.t 14) (.seq (.reg [mT 4 false]) .ret) .skip)) (.seq (.seq (.reg [mF 15 2 2,mL 16 1 15,mF 17 2 3,mL 18 1 17,mB 19 .neq 16 18]) (.cond (.t 19) (.seq (.reg [mT 4 false]) .ret) .skip)) (.seq (.seq (.reg [mF 20 3 2,mL 21 1 20,mF 22 3 3,mL 23 1 22,mB 24 .neq 21 23]) (.cond (.t 24) (.seq (.reg [mT 4 false]) .ret) .skip)) (.seq (.seq (.reg [mF 25 4 2,mL 26 1 25,mF 27 4 3,mL 28 1 27,mB 29 .neq 26 28]) (.cond (.t 29) (.seq (.reg [mT 4 false]) .ret) .skip)) (.seq (.seq (.reg [mF 30 5 2,mL 31 1 30,mF 32 5 3,mL 33 1 32,mC 34 Fn.kaW [.t 31, .t 33],mU 35 34]) (.cond (.t 35) (.seq (.reg [mT 4 false]) .ret) .skip)) (.seq (.seq (.reg [mF 36 6 2,mG 37 2 36,mF 38 6 3,mG 39 2 38,mC 40 Fn.kaV [.t 37, .t 39],mU 41 40]) (.cond (.t 41) (.seq (.reg [mT 4 false]) .ret) .skip)) (.seq (.seq (.reg [mF 42 8 2,mL 43 1 42,mF 44 8 3,mL 45 1 44,mB 46 .neq 43 45]) (.cond (.t 46) (.seq (.reg [mT 4 false]) .ret) .skip)) (.seq (.seq (.reg [mF 47 9 2,mG 48 3 47,mF 49 9 3,mG 50 3 49,mC 51 Fn.kaQ [.t 48, .t 50],mU 52 51]) (.cond (.t 52) (.seq (.reg [mT 4 false]) .ret) .skip)) (.seq (.reg [mT 4 true]) .ret))))))))))
def kaC_r : List RS := [.t 4]
theorem kaC_e (hw : TC Tryz.prog Θ Γ kaC_c (retQ kaC_r K) ⟨[a0, a1, u,u,u,u,u,u,u,u,u,u,u,u,u,u,u,u,u,u,u,u,u,u,u,u,u,u,u,u,u,u,u,u,u,u,u,u,u,u,u,u,u,u,u,u,u,u,u,u,u,u,u], [], h⟩) : T Tryz.prog Γ Fn.kaC [a0, a1] h K :=
  TB Tryz.func30 (bodyOf Tryz.f30) hw
def kbx_c : C := .seq (.reg [mA 2 0,mK 4 0]) (.seq (.reg [mF 5 0 2,mL 6 1 5,mV 7 1,mC 8 Fn.kbr [.t 6, .t 7],mV 1 8]) (.seq (.reg [mF 9 1 2,mL 10 1 9,mV 11 1,mC 12 Fn.kbv [.t 10, .t 11],mV 1 12]) (.seq (.reg [mF 13 2 2,mL 14 1 13,mV 15 1,mC 16 Fn.kbg [.t 14, .t 15],mV 1 16]) (.seq (.reg [mF 17 3 2,mL 18 1 17,mV 19 1,mC 20 Fn.kbo [.t 18, .t 19],mV 1 20]) (.seq (.reg [mV 21 1,mV 4 21]) .ret)))))
def kbx_r : List RS := [.t 4]
theorem kbx_e (hw : TC Tryz.prog Θ Γ kbx_c (retQ kbx_r K) ⟨[a0, a1, u,u,u,u,u,u,u,u,u,u,u,u,u,u,u,u,u,u,u,u], [], h⟩) : T Tryz.prog Γ Fn.kbx [a0, a1] h K :=
  TB Tryz.func31 (bodyOf Tryz.f31) hw
def kbl_c : C := .seq (.reg [mA 2 0,mK 4 0]) (.seq (.reg [mF 5 5 2,mL 6 1 5,mV 7 1,mC 8 Fn.kbw [.t 6, .t 7],mV 1 8]) (.seq (.reg [mV 9 1,mV 4 9]) .ret))
def kbl_r : List RS := [.t 4]
theorem kbl_e (hw : TC Tryz.prog Θ Γ kbl_c (retQ kbl_r K) ⟨[a0, a1, u,u,u,u,u,u,u,u], [], h⟩) : T Tryz.prog Γ Fn.kbl [a0, a1] h K :=
  TB Tryz.func32 (bodyOf Tryz.f32) hw
def kbe_c : C := .seq (.reg [mA 2 0,mK 4 0]) (.seq (.reg [mF 5 0 2,mL 6 1 5,mV 7 1,mC 8 Fn.ka9 [.t 6, .t 7],mV 1 8]) (.seq (.seq (.reg [mV 9 1,mI 10 .lss 9 0]) (.cond (.t 10) (.seq (.reg [mK 4 (-1)]) .ret) .skip)) (.seq (.reg [mF 11 1 2,mL 12 1 11,mV 13 1,mC 14 Fn.kbc [.t 12, .t 13],mV 1 14]) (.seq (.seq (.reg [mV 15 1,mI 16 .lss 15 0]) (.cond (.t 16) (.seq (.reg [mK 4 (-1)]) .ret) .skip)) (.seq (.reg [mF 17 2 2,mL 18 1 17,mV 19 1,mC 20 Fn.kaZ [.t 18, .t 19],mV 1 20]) (.seq (.seq (.reg [mV 21 1,mI 22 .lss 21 0]) (.cond (.t 22) (.seq (.reg [mK 4 (-1)]) .ret) .skip)) (.seq (.reg [mF 23 3 2,mL 24 1 23,mV 25 1,mC 26 Fn.ka6 [.t 24, .t 25],mV 1 26]) (.seq (.seq (.reg [mV 27 1,mI 28 .lss 27 0]) (.cond (.t 28) (.seq (.reg [mK 4 (-1)]) .ret) .skip)) (.seq (.reg [mV 29 1,mV 4 29]) .ret)))))))))
def kbe_r : List RS := [.t 4]
theorem kbe_e (hw : TC Tryz.prog Θ Γ kbe_c (retQ kbe_r K) ⟨[a0, a1, u,u,u,u,u,u,u,u,u,u,u,u,u,u,u,u,u,u,u,u,u,u,u,u,u,u,u,u], [], h⟩) : T Tryz.prog Γ Fn.kbe [a0, a1] h K :=
  TB Tryz.func33 (bodyOf Tryz.f33) hw
def kbC_c : C := .seq (.reg [mK 4 0]) (.seq (.reg [mV 6 1,mV 7 0,mN 8 7,mB 9 .sub 6 8,mV 1 9]) (.seq (.seq (.reg [mV 10 1,mI 11 .lss 10 0]) (.cond (.t 11) (.seq (.reg [mK 4 (-1)]) .ret) .skip)) (.seq (.seq (.reg [mK 5 0]) (.block 0 (.loop (.seq (.seq (.reg [mV 12 5,mV 13 0,mN 14 13,mB 15 .lss 12 14]) (.cond (.t 15) .skip (.exit 0))) (.seq (.block 1 (.seq (.reg [mV 18 0,mV 19 5,mX 20 12 18 19,mG 21 12 20,mV 22 1,mC 23 Fn.kbB [.t 21, .t 22],mV 1 23]) (.seq (.reg [mV 24 1,mI 25 .lss 24 0]) (.cond (.t 25) (.seq (.reg [mK 4 (-1)]) .ret) .skip)))) (.reg [mV 16 5,mI 17 .add 16 1,mV 5 17])))))) (.seq (.reg [mV 26 1,mV 4 26]) .ret))))
def kbC_r : List RS := [.t 4]
def kbC_s0 (t0 t1 t5 : AV) (loc : List (List AV)) (h : AH) : St := ⟨[t0, t1, .any,.any,.any, t5, .any,.any,.any,.any,.any,.any,.any,.any,.any,.any,.any,.any,.any,.any,.any,.any,.any,.any,.any,.any,.any], loc, h⟩
theorem kbC_e (hw : TC Tryz.prog Θ Γ kbC_c (retQ kbC_r K) ⟨[a0, a1, u,u,u,u,u,u,u,u,u,u,u,u,u,u,u,u,u,u,u,u,u,u,u,u,u], [], h⟩) : T Tryz.prog Γ Fn.kbC [a0, a1] h K :=
  TB Tryz.func34 (bodyOf Tryz.f34) hw
def kbT_c : C := .seq (.reg [mK 4 0]) (.seq (.reg [mV 6 1,mV 7 0,mN 8 7,mB 9 .sub 6 8,mV 1 9]) (.seq (.seq (.reg [mV 10 1,mI 11 .lss 10 0]) (.cond (.t 11) (.seq (.reg [mK 4 (-1)]) .ret) .skip)) (.seq (.seq (.reg [mK 5 0]) (.block 0 (.loop (.seq (.seq (.reg [mV 12 5,mV 13 0,mN 14 13,mB 15 .lss 12 14]) (.cond (.t 15) .skip (.exit 0))) (.seq (.block 1 (.seq (.reg [mV 18 0,mV 19 5,mX 20 7 18 19,mG 21 7 20,mV 22 1,mC 23 Fn.kbS [.t 21, .t 22],mV 1 23]) (.seq (.reg [mV 24 1,mI 25 .lss 24 0]) (.cond (.t 25) (.seq (.reg [mK 4 (-1)]) .ret) .skip)))) (.reg [mV 16 5,mI 17 .add 16 1,mV 5 17])))))) (.seq (.reg [mV 26 1,mV 4 26]) .ret))))
def kbT_r : List RS := [.t 4]
def kbT_s0 (t0 t1 t5 : AV) (loc : List (List AV)) (h : AH) : St := ⟨[t0, t1, .any,.any,.any, t5, .any,.any,.any,.any,.any,.any,.any,.any,.any,.any,.any,.any,.any,.any,.any,.any,.any,.any,.any,.any,.any], loc, h⟩
theorem kbT_e (hw : TC Tryz.prog Θ Γ kbT_c (retQ kbT_r K) ⟨[a0, a1, u,u,u,u,u,u,u,u,u,u,u,u,u,u,u,u,u,u,u,u,u,u,u,u,u], [], h⟩) : T Tryz.prog Γ Fn.kbT [a0, a1] h K :=
  TB Tryz.func35 (bodyOf Tryz.f35) hw
def kbH_c : C := .seq (.reg [mK 4 0]) (.seq (.reg [mV 6 1,mV 7 0,mN 8 7,mB 9 .sub 6 8,mV 1 9]) (.seq (.seq (.reg [mV 10 1,mI 11 .lss 10 0]) (.cond (.t 11) (.seq (.reg [mK 4 (-1)]) .ret) .skip)) (.seq (.seq (.reg [mK 5 0]) (.block 0 (.loop (.seq (.seq (.reg [mV 12 5,mV 13 0,mN 14 13,mB 15 .lss 12 14]) (.cond (.t 15) .skip (.exit 0))) (.seq (.block 1 (.seq (.reg [mV 18 0,mV 19 5,mX 20 7 18 19,mG 21 7 20,mV 22 1,mC 23 Fn.kbG [.t 21, .t 22],mV 1 23]) (.seq (.reg [mV 24 1,mI 25 .lss 24 0]) (.cond (.t 25) (.seq (.reg [mK 4 (-1)]) .ret) .skip)))) (.reg [mV 16 5,mI 17 .add 16 1,mV 5 17])))))) (.seq (.reg [mV 26 1,mV 4 26]) .ret))))
def kbH_r : List RS := [.t 4]
def kbH_s0 (t0 t1 t5 : AV) (loc : List (List AV)) (h : AH) : St := ⟨[t0, t1, .any,.any,.any, t5, .any,.any,.any,.any,.any,.any,.any,.any,.any,.any,.any,.any,.any,.any,.any,.any,.any,.any,.any,.any,.any], loc, h⟩
theorem kbH_e (hw : TC Tryz.prog Θ Γ kbH_c (retQ kbH_r K) ⟨[a0, a1, u,u,u,u,u,u,u,u,u,u,u,u,u,u,u,u,u,u,u,u,u,u,u,u,u], [], h⟩) : T Tryz.prog Γ Fn.kbH [a0, a1] h K :=
  TB Tryz.func36 (bodyOf Tryz.f36) hw
def kbO_c : C := .seq (.reg [mK 4 0]) (.seq (.reg [mV 6 1,mV 7 0,mN 8 7,mB 9 .sub 6 8,mV 1 9]) (.seq (.seq (.reg [mV 10 1,mI 11 .lss 10 0]) (.cond (.t 11) (.seq (.reg [mK 4 (-1)]) .ret) .skip)) (.seq (.seq (.reg [mK 5 0]) (.block 0 (.loop (.seq (.seq (.reg [mV 12 5,mV 13 0,mN 14 13,mB 15 .lss 12 14]) (.cond (.t 15) .skip (.exit 0))) (.seq (.block 1 (.seq (.reg [mV 18 0,mV 19 5,mX 20 13 18 19,mG 21 13 20,mV 22 1,mC 23 Fn.kbN [.t 21, .t 22],mV 1 23]) (.seq (.reg [mV 24 1,mI 25 .lss 24 0]) (.cond (.t 25) (.seq (.reg [mK 4 (-1)]) .ret) .skip)))) (.reg [mV 16 5,mI 17 .add 16 1,mV 5 17])))))) (.seq (.reg [mV 26 1,mV 4 26]) .ret))))
def kbO_r : List RS := [.t 4]
def kbO_s0 (t0 t1 t5 : AV) (loc : List (List AV)) (h : AH) : St := ⟨[t0, t1, .any,.any,.any, t5, .any,.any,.any,.any,.any,.any,.any,.any,.any,.any,.any,.any,.any,.any,.any,.any,.any,.any,.any,.any,.any], loc, h⟩
theorem kbO_e (hw : TC Tryz.prog Θ Γ kbO_c (retQ kbO_r K) ⟨[a0, a1, u,u,u,u,u,u,u,u,u,u,u,u,u,u,u,u,u,u,u,u,u,u,u,u,u], [], h⟩) : T Tryz.prog Γ Fn.kbO [a0, a1] h K :=
  TB Tryz.func37 (bodyOf Tryz.f37) hw
def kb4_c : C := .seq (.reg [⟨(some 2), none, .mov (.c (.nils))⟩]) (.seq (.reg [mV 5 0,mN 6 5,⟨(some 7), none, .mks 12 144 [.int .i64 0,.int .i64 0, .nils, .int .i64 0,.int .i64 0,.int .i64 0, .nils, .nils, .int .i64 0,.int .i64 0,.int .i64 0,.int .i64 0] (.t 6) (.t 6)⟩,mV 3 7]) (.seq (.seq (.reg [mK 4 0]) (.block 0 (.loop (.seq (.seq (.reg [mV 8 4,mV 9 0,mN 10 9,mB 11 .lss 8 10]) (.cond (.t 11) .skip (.exit 0))) (.seq (.block 1 (.reg [mV 14 3,mV 15 4,mV 16 0,mV 17 4,mX 18 12 16 17,mG 19 12 18,mC 20 Fn.kb3 [.t 19],mX 21 12 14 15,mS 12 21 20])) (.reg [mV 12 4,mI 13 .add 12 1,mV 4 13])))))) (.seq (.reg [mV 22 3,mV 2 22]) .ret)))
def kb4_r : List RS := [.t 2]
def kb4_s0 (t0 t3 t4 : AV) (loc : List (List AV)) (h : AH) : St := ⟨[t0, .any,.any, t3, t4, .any,.any,.any,.any,.any,.any,.any,.any,.any,.any,.any,.any,.any,.any,.any,.any,.any,.any], loc, h⟩
theorem kb4_e (hw : TC Tryz.prog Θ Γ kb4_c (retQ kb4_r K) ⟨[a0, u,u,u,u,u,u,u,u,u,u,u,u,u,u,u,u,u,u,u,u,u,u], [], h⟩) : T Tryz.prog Γ Fn.kb4 [a0] h K :=
  TB Tryz.func43 (bodyOf Tryz.f43) hw
def kco_c : C := .seq (.reg [⟨(some 2), none, .mov (.c (.nils))⟩]) (.seq (.reg [mV 5 0,mN 6 5,⟨(some 7), none, .mks 7 80 [.int .i64 0, .str ⟨#[]⟩, .nils, .int .i64 0,.int .i64 0,.int .i64 0,.int .i64 0] (.t 6) (.t 6)⟩,mV 3 7]) (.seq (.seq (.reg [mK 4 0]) (.block 0 (.loop (.seq (.seq (.reg [mV 8 4,mV 9 0,mN 10 9,mB 11 .lss 8 10]) (.cond (.t 11) .skip (.exit 0))) (.seq (.block 1 (.reg [mV 14 3,mV 15 4,mV 16 0,mV 17 4,mX 18 7 16 17,mG 19 7 18,mC 20 Fn.kcn [.t 19],mX 21 7 14 15,mS 7 21 20])) (.reg [mV 12 4,mI 13 .add 12 1,mV 4 13])))))) (.seq (.reg [mV 22 3,mV 2 22]) .ret)))
def kco_r : List RS := [.t 2]
def kco_s0 (t0 t3 t4 : AV) (loc : List (List AV)) (h : AH) : St := ⟨[t0, .any,.any, t3, t4, .any,.any,.any,.any,.any,.any,.any,.any,.any,.any,.any,.any,.any,.any,.any,.any,.any,.any], loc, h⟩
theorem kco_e (hw : TC Tryz.prog Θ Γ kco_c (retQ kco_r K) ⟨[a0, u,u,u,u,u,u,u,u,u,u,u,u,u,u,u,u,u,u,u,u,u,u], [], h⟩) : T Tryz.prog Γ Fn.kco [a0] h K :=
  TB Tryz.func44 (bodyOf Tryz.f44) hw
def kca_c : C := .seq (.reg [⟨(some 2), none, .mov (.c (.nils))⟩]) (.seq (.reg [mV 5 0,mN 6 5,⟨(some 7), none, .mks 7 104 [.int .i64 0, .bool false, .nils, .int .i64 0, .nils, .int .i64 0, .nils] (.t 6) (.t 6)⟩,mV 3 7]) (.seq (.seq (.reg [mK 4 0]) (.block 0 (.loop (.seq (.seq (.reg [mV 8 4,mV 9 0,mN 10 9,mB 11 .lss 8 10]) (.cond (.t 11) .skip (.exit 0))) (.seq (.block 1 (.reg [mV 14 3,mV 15 4,mV 16 0,mV 17 4,mX 18 7 16 17,mG 19 7 18,mC 20 Fn.kb9 [.t 19],mX 21 7 14 15,mS 7 21 20])) (.reg [mV 12 4,mI 13 .add 12 1,mV 4 13])))))) (.seq (.reg [mV 22 3,mV 2 22]) .ret)))
def kca_r : List RS := [.t 2]
def kca_s0 (t0 t3 t4 : AV) (loc : List (List AV)) (h : AH) : St := ⟨[t0, .any,.any, t3, t4, .any,.any,.any,.any,.any,.any,.any,.any,.any,.any,.any,.any,.any,.any,.any,.any,.any,.any], loc, h⟩
theorem kca_e (hw : TC Tryz.prog Θ Γ kca_c (retQ kca_r K) ⟨[a0, u,u,u,u,u,u,u,u,u,u,u,u,u,u,u,u,u,u,u,u,u,u], [], h⟩) : T Tryz.prog Γ Fn.kca [a0] h K :=
  TB Tryz.func45 (bodyOf Tryz.f45) hw
def kci_c : C := .seq (.reg [⟨(some 2), none, .mov (.c (.nils))⟩]) (.seq (.reg [mV 5 0,mN 6 5,⟨(some 7), none, .mks 13 128 [.int .i64 0,.int .i64 0,.int .i64 0,.int .i64 0,.int .i64 0, .str ⟨#[]⟩, .nils, .int .i64 0,.int .i64 0,.int .i64 0,.int .i64 0,.int .i64 0,.int .i64 0] (.t 6) (.t 6)⟩,mV 3 7]) (.seq (.seq (.reg [mK 4 0]) (.block 0 (.loop (.seq (.seq (.reg [mV 8 4,mV 9 0,mN 10 9,mB 11 .lss 8 10]) (.cond (.t 11) .skip (.exit 0))) (.seq (.block 1 (.reg [mV 14 3,mV 15 4,mV 16 0,mV 17 4,mX 18 13 16 17,mG 19 13 18,mC 20 Fn.kch [.t 19],mX 21 13 14 15,mS 13 21 20])) (.reg [mV 12 4,mI 13 .add 12 1,mV 4 13])))))) (.seq (.reg [mV 22 3,mV 2 22]) .ret)))
def kci_r : List RS := [.t 2]
def kci_s0 (t0 t3 t4 : AV) (loc : List (List AV)) (h : AH) : St := ⟨[t0, .any,.any, t3, t4, .any,.any,.any,.any,.any,.any,.any,.any,.any,.any,.any,.any,.any,.any,.any,.any,.any,.any], loc, h⟩
theorem kci_e (hw : TC Tryz.prog Θ Γ kci_c (retQ kci_r K) ⟨[a0, u,u,u,u,u,u,u,u,u,u,u,u,u,u,u,u,u,u,u,u,u,u], [], h⟩) : T Tryz.prog Γ Fn.kci [a0] h K :=
  TB Tryz.func46 (bodyOf Tryz.f46) hw
def kav_d0_os : List O := [mV 17 0,mV 18 5,mX 19 12 17 18,mG 20 12 19,mV 21 1,mV 22 5,mX 23 12 21 22,mG 24 12 23,mC 25 Fn.kau [.t 20, .t 24],mU 26 25]
def kav_d0_af : List (List Nat) := [[], [], [0, 1], [2], [], [], [4, 5], [6], [3, 7], [8]]
theorem kav_d0_q (gl : Gl) (Q : AE → St → Prop) (s : St) : aw Tryz.prog Θ Γ gl (.regD kav_d0_os kav_d0_af) Q s = awpT Tryz.prog Γ gl [mV 17 0,mV 18 5,mX 19 12 17 18,mG 20 12 19,mV 21 1,mV 22 5,mX 23 12 21 22,mG 24 12 23,mC 25 Fn.kau [.t 20, .t 24],mU 26 25] (Q .normal) 10 (.q 0 (.q 1 (.q 2 (.q 3 (.q 4 (.q 5 (.q 6 (.q 7 (.q 8 (.q 9 (.done))))))))))) s := a_dd rfl (by kernel_rfl) gl Q s
def kav_c : C := .seq (.reg [mT 4 false]) (.seq (.seq (.reg [mV 6 0,mN 7 6,mV 8 1,mN 9 8,mB 10 .neq 7 9]) (.cond (.t 10) (.seq (.reg [mT 4 false]) .ret) .skip)) (.seq (.seq (.reg [mK 5 0]) (.block 0 (.loop (.seq (.seq (.reg [mV 11 5,mV 12 0,mN 13 12,mB 14 .lss 11 13]) (.cond (.t 14) .skip (.exit 0))) (.seq (.block 1 (.seq (.regD kav_d0_os kav_d0_af) (.cond (.t 26) (.seq (.reg [mT 4 false]) .ret) .skip))) (.reg [mV 15 5,mI 16 .add 15 1,mV 5 16])))))) (.seq (.reg [mT 4 true]) .ret)))
def kav_r : List RS := [.t 4]
def kav_s0 (t0 t1 t5 : AV) (loc : List (List AV)) (h : AH) : St := ⟨[t0, t1, .any,.any,.any, t5, .any,.any,.any,.any,.any,.any,.any,.any,.any,.any,.any,.any,.any,.any,.any,.any,.any,.any,.any,.any,.any], loc, h⟩
theorem kav_e (hw : TC Tryz.prog Θ Γ kav_c (retQ kav_r K) ⟨[a0, a1, u,u,u,u,u,u,u,u,u,u,u,u,u,u,u,u,u,u,u,u,u,u,u,u,u], [], h⟩) : T Tryz.prog Γ Fn.kav [a0, a1] h K :=
  TB Tryz.func54 (bodyOf Tryz.f54) hw
def kaP_d0_os : List O := [mV 17 0,mV 18 5,mX 19 7 17 18,mG 20 7 19,mV 21 1,mV 22 5,mX 23 7 21 22,mG 24 7 23,mC 25 Fn.kaO [.t 20, .t 24],mU 26 25]
def kaP_d0_af : List (List Nat) := [[], [], [0, 1], [2], [], [], [4, 5], [6], [3, 7], [8]]
theorem kaP_d0_q (gl : Gl) (Q : AE → St → Prop) (s : St) : aw Tryz.prog Θ Γ gl (.regD kaP_d0_os kaP_d0_af) Q s = awpT Tryz.prog Γ gl [mV 17 0,mV 18 5,mX 19 7 17 18,mG 20 7 19,mV 21 1,mV 22 5,mX 23 7 21 22,mG 24 7 23,mC 25 Fn.kaO [.t 20, .t 24],mU 26 25] (Q .normal) 10 (.q 0 (.q 1 (.q 2 (.q 3 (.q 4 (.q 5 (.q 6 (.q 7 (.q 8 (.q 9 (.done))))))))))) s := a_dd rfl (by kernel_rfl) gl Q s
def kaP_c : C := .seq (.reg [mT 4 false]) (.seq (.seq (.reg [mV 6 0,mN 7 6,mV 8 1,mN 9 8,mB 10 .neq 7 9]) (.cond (.t 10) (.seq (.reg [mT 4 false]) .ret) .skip)) (.seq (.seq (.reg [mK 5 0]) (.block 0 (.loop (.seq (.seq (.reg [mV 11 5,mV 12 0,mN 13 12,mB 14 .lss 11 13]) (.cond (.t 14) .skip (.exit 0))) (.seq (.block 1 (.seq (.regD kaP_d0_os kaP_d0_af) (.cond (.t 26) (.seq (.reg [mT 4 false]) .ret) .skip))) (.reg [mV 15 5,mI 16 .add 15 1,mV 5 16])))))) (.seq (.reg [mT 4 true]) .ret)))
def kaP_r : List RS := [.t 4]
def kaP_s0 (t0 t1 t5 : AV) (loc : List (List AV)) (h : AH) : St := ⟨[t0, t1, .any,.any,.any, t5, .any,.any,.any,.any,.any,.any,.any,.any,.any,.any,.any,.any,.any,.any,.any,.any,.any,.any,.any,.any,.any], loc, h⟩
theorem kaP_e (hw : TC Tryz.prog Θ Γ kaP_c (retQ kaP_r K) ⟨[a0, a1, u,u,u,u,u,u,u,u,u,u,u,u,u,u,u,u,u,u,u,u,u,u,u,u,u], [], h⟩) : T Tryz.prog Γ Fn.kaP [a0, a1] h K :=
  TB Tryz.func55 (bodyOf Tryz.f55) hw
def kaB_d0_os : List O := [mV 17 0,mV 18 5,mX 19 7 17 18,mG 20 7 19,mV 21 1,mV 22 5,mX 23 7 21 22,mG 24 7 23,mC 25 Fn.kaA [.t 20, .t 24],mU 26 25]
def kaB_d0_af : List (List Nat) := [[], [], [0, 1], [2], [], [], [4, 5], [6], [3, 7], [8]]
theorem kaB_d0_q (gl : Gl) (Q : AE → St → Prop) (s : St) : aw Tryz.prog Θ Γ gl (.regD kaB_d0_os kaB_d0_af) Q s = awpT Tryz.prog Γ gl [mV 17 0,mV 18 5,mX 19 7 17 18,mG 20 7 19,mV 21 1,mV 22 5,mX 23 7 21 22,mG 24 7 23,mC 25 Fn.kaA [.t 20, .t 24],mU 26 25] (Q .normal) 10 (.q 0 (.q 1 (.q 2 (.q 3 (.q 4 (.q 5 (.q 6 (.q 7 (.q 8 (.q 9 (.done))))))))))) s := a_dd rfl (by kernel_rfl) gl Q s
def kaB_c : C := .seq (.reg [mT 4 false]) (.seq (.seq (.reg [mV 6 0,mN 7 6,mV 8 1,mN 9 8,mB 10 .neq 7 9]) (.cond (.t 10) (.seq (.reg [mT 4 false]) .ret) .skip)) (.seq (.seq (.reg [mK 5 0]) (.block 0 (.loop (.seq (.seq (.reg [mV 11 5,mV 12 0,mN 13 12,mB 14 .lss 11 13]) (.cond (.t 14) .skip (.exit 0))) (.seq (.block 1 (.seq (.regD kaB_d0_os kaB_d0_af) (.cond (.t 26) (.seq (.reg [mT 4 false]) .ret) .skip))) (.reg [mV 15 5,mI 16 .add 15 1,mV 5 16])))))) (.seq (.reg [mT 4 true]) .ret)))
def kaB_r : List RS := [.t 4]
def kaB_s0 (t0 t1 t5 : AV) (loc : List (List AV)) (h : AH) : St := ⟨[t0, t1, .any,.any,.any, t5, .any,.any,.any,.any,.any,.any,.any,.any,.any,.any,.any,.any,.any,.any,.any,.any,.any,.any,.any,.any,.any], loc, h⟩
theorem kaB_e (hw : TC Tryz.prog Θ Γ kaB_c (retQ kaB_r K) ⟨[a0, a1, u,u,u,u,u,u,u,u,u,u,u,u,u,u,u,u,u,u,u,u,u,u,u,u,u], [], h⟩) : T Tryz.prog Γ Fn.kaB [a0, a1] h K :=
  TB Tryz.func56 (bodyOf Tryz.f56) hw
def kaJ_d0_os : List O := [mV 17 0,mV 18 5,mX 19 13 17 18,mG 20 13 19,mV 21 1,mV 22 5,mX 23 13 21 22,mG 24 13 23,mC 25 Fn.kaI [.t 20, .t 24],mU 26 25]
def kaJ_d0_af : List (List Nat) := [[], [], [0, 1], [2], [], [], [4, 5], [6], [3, 7], [8]]
theorem kaJ_d0_q (gl : Gl) (Q : AE → St → Prop) (s : St) : aw Tryz.prog Θ Γ gl (.regD kaJ_d0_os kaJ_d0_af) Q s = awpT Tryz.prog Γ gl [mV 17 0,mV 18 5,mX 19 13 17 18,mG 20 13 19,mV 21 1,mV 22 5,mX 23 13 21 22,mG 24 13 23,mC 25 Fn.kaI [.t 20, .t 24],mU 26 25] (Q .normal) 10 (.q 0 (.q 1 (.q 2 (.q 3 (.q 4 (.q 5 (.q 6 (.q 7 (.q 8 (.q 9 (.done))))))))))) s := a_dd rfl (by kernel_rfl) gl Q s
def kaJ_c : C := .seq (.reg [mT 4 false]) (.seq (.seq (.reg [mV 6 0,mN 7 6,mV 8 1,mN 9 8,mB 10 .neq 7 9]) (.cond (.t 10) (.seq (.reg [mT 4 false]) .ret) .skip)) (.seq (.seq (.reg [mK 5 0]) (.block 0 (.loop (.seq (.seq (.reg [mV 11 5,mV 12 0,mN 13 12,mB 14 .lss 11 13]) (.cond (.t 14) .skip (.exit 0))) (.seq (.block 1 (.seq (.regD kaJ_d0_os kaJ_d0_af) (.cond (.t 26) (.seq (.reg [mT 4 false]) .ret) .skip))) (.reg [mV 15 5,mI 16 .add 15 1,mV 5 16])))))) (.seq (.reg [mT 4 true]) .ret)))
def kaJ_r : List RS := [.t 4]
def kaJ_s0 (t0 t1 t5 : AV) (loc : List (List AV)) (h : AH) : St := ⟨[t0, t1, .any,.any,.any, t5, .any,.any,.any,.any,.any,.any,.any,.any,.any,.any,.any,.any,.any,.any,.any,.any,.any,.any,.any,.any,.any], loc, h⟩
theorem kaJ_e (hw : TC Tryz.prog Θ Γ kaJ_c (retQ kaJ_r K) ⟨[a0, a1, u,u,u,u,u,u,u,u,u,u,u,u,u,u,u,u,u,u,u,u,u,u,u,u,u], [], h⟩) : T Tryz.prog Γ Fn.kaJ [a0, a1] h K :=
  TB Tryz.func57 (bodyOf Tryz.f57) hw
def kbh_c : C := .seq (.reg [mK 4 0]) (.seq (.seq (.reg [mK 5 0]) (.block 0 (.loop (.seq (.seq (.reg [mV 6 5,mV 7 0,mN 8 7,mB 9 .lss 6 8]) (.cond (.t 9) .skip (.exit 0))) (.seq (.block 1 (.seq (.reg [mV 12 0,mV 13 5,mV 14 1,mX 15 12 12 13,mF 16 0 15,mS 1 16 14]) (.seq (.reg [mV 17 1,mI 18 .add 17 1,mV 1 18]) (.seq (.reg [mV 19 0,mV 20 5,mV 21 1,mX 22 12 19 20,mF 23 1 22,mS 1 23 21]) (.seq (.reg [mV 24 1,mI 25 .add 24 1,mV 1 25]) (.seq (.reg [mV 26 0,mV 27 5,mX 28 12 26 27,mF 29 2 28,mL 30 1 29,mV 31 1,mC 32 Fn.kbu [.t 30, .t 31],mV 1 32]) (.seq (.reg [mV 33 0,mV 34 5,mV 35 1,mX 36 12 33 34,mF 37 3 36,mS 1 37 35]) (.seq (.reg [mV 38 1,mI 39 .add 38 1,mV 1 39]) (.seq (.reg [mV 40 0,mV 41 5,mV 42 1,mX 43 12 40 41,mF 44 4 43,mF 45 0 44,mS 1 45 42]) (.seq (.reg [mV 46 1,mI 47 .add 46 1,mV 1 47]) (.seq (.reg [mV 48 0,mV 49 5,mV 50 1,mX 51 12 48 49,mF 52 4 51,mF 53 1 52,mS 1 53 50]) (.seq (.reg [mV 54 1,mI 55 .add 54 1,mV 1 55]) (.seq (.reg [mV 56 0,mV 57 5,mX 58 12 56 57,mF 59 6 58,mL 60 1 59,mV 61 1,mC 62 Fn.kbs [.t 60, .t 61],mV 1 62]) (.seq (.reg [mV 63 0,mV 64 5,mX 65 12 63 64,mF 66 7 65,mL 67 1 66,mV 68 1,mC 69 Fn.kbf [.t 67, .t 68],mV 1 69]) (.seq (.reg [mV 70 0,mV 71 5,mV 72 1,mX 73 12 70 71,mF 74 8 73,mS 1 74 72]) (.seq (.reg [mV 75 1,mI 76 .add 75 1,mV 1 76]) (.seq (.reg [mV 77 0,mV 78 5,mV 79 1,mX 80 12 77 78,mF 81 9 80,mS 1 81 79]) (.seq (.reg [mV 82 1,mI 83 .add 82 1,mV 1 83]) (.seq (.reg [mV 84 0,mV 85 5,mV 86 1,mX 87 12 84 85,mF 88 10 87,mS 1 88 86]) (.seq (.reg [mV 89 1,mI 90 .add 89 1,mV 1 90]) (.seq (.reg [mV 91 0,mV 92 5,mV 93 1,mX 94 12 91 92,mF 95 11 94,mS 1 95 93]) (.reg [mV 96 1,mI 97 .add 96 1,mV 1 97])))))))))))))))))))))) (.reg [mV 10 5,mI 11 .add 10 1,mV 5 11])))))) (.seq (.reg [mV 98 1,mV 4 98]) .ret))
def kbh_r : List RS := [.t 4]
def kbh_s0 (t0 t1 t5 : AV) (loc : List (List AV)) (h : AH) : St := ⟨[t0, t1, .any,.any,.any, t5, .any,.any,.any,.any,.any,.any,.any,.any,.any,.any,.any,.any,.any,.any,.any,.any,.any,.any,.any,.any,.any,.any,.any,.any,.any,.any,.any,.any,.any,.any,.any,.any,.any,.any,.any,.any,.any,.any,.any,.any,.any,.any,.any,.any,.any,.any,.any,.any,.any,.any,.any,.any,.any,.any,.any,.any,.any,.any,.any,.any,.any,.any,.any,.any,.any,.any,.any,.any,.any,.any,.any,.any,.any,.any,.any,.any,.any,.any,.any,.any,.any,.any,.any,.any,.any,.any,.any,.any,.any,.any,.any,.any,.any], loc, h⟩
theorem kbh_e (hw : TC Tryz.prog Θ Γ kbh_c (retQ kbh_r K) ⟨[a0, a1, u,u,u,u,u,u,u,u,u,u,u,u,u,u,u,u,u,u,u,u,u,u,u,u,u,u,u,u,u,u,u,u,u,u,u,u,u,u,u,u,u,u,u,u,u,u,u,u,u,u,u,u,u,u,u,u,u,u,u,u,u,u,u,u,u,u,u,u,u,u,u,u,u,u,u,u,u,u,u,u,u,u,u,u,u,u,u,u,u,u,u,u,u,u,u,u,u], [], h⟩) : T Tryz.prog Γ Fn.kbh [a0, a1] h K :=
  TB Tryz.func58 (bodyOf Tryz.f58) hw
def kbs_c : C := .seq (.reg [mK 4 0]) (.seq (.seq (.reg [mK 5 0]) (.block 0 (.loop (.seq (.seq (.reg [mV 6 5,mV 7 0,mN 8 7,mB 9 .lss 6 8]) (.cond (.t 9) .skip (.exit 0))) (.seq (.block 1 (.seq (.reg [mV 12 0,mV 13 5,mV 14 1,mX 15 7 12 13,mF 16 0 15,mS 1 16 14]) (.seq (.reg [mV 17 1,mI 18 .add 17 1,mV 1 18]) (.seq (.reg [mV 19 0,mV 20 5,mV 21 1,mC 22 Fn.kbt [.t 21],mX 23 7 19 20,mF 24 1 23,mS 1 24 22]) (.seq (.reg [mV 25 1,mI 26 .add 25 1,mV 1 26]) (.seq (.reg [mV 27 0,mV 28 5,mX 29 7 27 28,mF 30 2 29,mL 31 1 30,mV 32 1,mC 33 Fn.kbu [.t 31, .t 32],mV 1 33]) (.seq (.reg [mV 34 0,mV 35 5,mV 36 1,mX 37 7 34 35,mF 38 3 37,mS 1 38 36]) (.seq (.reg [mV 39 1,mI 40 .add 39 1,mV 1 40]) (.seq (.reg [mV 41 0,mV 42 5,mV 43 1,mX 44 7 41 42,mF 45 4 44,mF 46 0 45,mS 1 46 43]) (.seq (.reg [mV 47 1,mI 48 .add 47 1,mV 1 48]) (.seq (.reg [mV 49 0,mV 50 5,mV 51 1,mX 52 7 49 50,mF 53 4 52,mF 54 1 53,mS 1 54 51]) (.seq (.reg [mV 55 1,mI 56 .add 55 1,mV 1 56]) (.seq (.reg [mV 57 0,mV 58 5,mV 59 1,mX 60 7 57 58,mF 61 4 60,mF 62 2 61,mS 1 62 59]) (.reg [mV 63 1,mI 64 .add 63 1,mV 1 64])))))))))))))) (.reg [mV 10 5,mI 11 .add 10 1,mV 5 11])))))) (.seq (.reg [mV 65 1,mV 4 65]) .ret))
def kbs_r : List RS := [.t 4]
def kbs_s0 (t0 t1 t5 : AV) (loc : List (List AV)) (h : AH) : St := ⟨[t0, t1, .any,.any,.any, t5, .any,.any,.any,.any,.any,.any,.any,.any,.any,.any,.any,.any,.any,.any,.any,.any,.any,.any,.any,.any,.any,.any,.any,.any,.any,.any,.any,.any,.any,.any,.any,.any,.any,.any,.any,.any,.any,.any,.any,.any,.any,.any,.any,.any,.any,.any,.any,.any,.any,.any,.any,.any,.any,.any,.any,.any,.any,.any,.any,.any], loc, h⟩
theorem kbs_e (hw : TC Tryz.prog Θ Γ kbs_c (retQ kbs_r K) ⟨[a0, a1, u,u,u,u,u,u,u,u,u,u,u,u,u,u,u,u,u,u,u,u,u,u,u,u,u,u,u,u,u,u,u,u,u,u,u,u,u,u,u,u,u,u,u,u,u,u,u,u,u,u,u,u,u,u,u,u,u,u,u,u,u,u,u,u], [], h⟩) : T Tryz.prog Γ Fn.kbs [a0, a1] h K :=
  TB Tryz.func59 (bodyOf Tryz.f59) hw
def kbk_c : C := .seq (.reg [mK 4 0]) (.seq (.seq (.reg [mK 5 0]) (.block 0 (.loop (.seq (.seq (.reg [mV 6 5,mV 7 0,mN 8 7,mB 9 .lss 6 8]) (.cond (.t 9) .skip (.exit 0))) (.seq (.block 1 (.seq (.reg [mV 12 0,mV 13 5,mV 14 1,mX 15 7 12 13,mF 16 0 15,mS 1 16 14]) (.seq (.reg [mV 17 1,mI 18 .add 17 1,mV 1 18]) (.seq (.reg [mV 19 0,mV 20 5,mV 21 1,mI 22 .rem 21 3,mI 23 .eql 22 0,mX 24 7 19 20,mF 25 1 24,mS 1 25 23]) (.seq (.reg [mV 26 1,mI 27 .add 26 1,mV 1 27]) (.seq (.reg [mV 28 0,mV 29 5,mX 30 7 28 29,mF 31 2 30,mL 32 1 31,mV 33 1,mC 34 Fn.kbi [.t 32, .t 33],mV 1 34]) (.seq (.reg [mV 35 0,mV 36 5,mV 37 1,mX 38 7 35 36,mF 39 3 38,mS 1 39 37]) (.seq (.reg [mV 40 1,mI 41 .add 40 1,mV 1 41]) (.seq (.reg [mV 42 0,mV 43 5,mX 44 7 42 43,mF 45 4 44,mL 46 1 45,mV 47 1,mC 48 Fn.kbq [.t 46, .t 47],mV 1 48]) (.seq (.reg [mV 49 0,mV 50 5,mV 51 1,mX 52 7 49 50,mF 53 5 52,mS 1 53 51]) (.seq (.reg [mV 54 1,mI 55 .add 54 1,mV 1 55]) (.reg [mV 56 0,mV 57 5,mX 58 7 56 57,mF 59 6 58,mL 60 1 59,mV 61 1,mC 62 Fn.kbq [.t 60, .t 61],mV 1 62])))))))))))) (.reg [mV 10 5,mI 11 .add 10 1,mV 5 11])))))) (.seq (.reg [mV 63 1,mV 4 63]) .ret))
def kbk_r : List RS := [.t 4]
def kbk_s0 (t0 t1 t5 : AV) (loc : List (List AV)) (h : AH) : St := ⟨[t0, t1, .any,.any,.any, t5, .any,.any,.any,.any,.any,.any,.any,.any,.any,.any,.any,.any,.any,.any,.any,.any,.any,.any,.any,.any,.any,.any,.any,.any,.any,.any,.any,.any,.any,.any,.any,.any,.any,.any,.any,.any,.any,.any,.any,.any,.any,.any,.any,.any,.any,.any,.any,.any,.any,.any,.any,.any,.any,.any,.any,.any,.any,.any], loc, h⟩
theorem kbk_e (hw : TC Tryz.prog Θ Γ kbk_c (retQ kbk_r K) ⟨[a0, a1, u,u,u,u,u,u,u,u,u,u,u,u,u,u,u,u,u,u,u,u,u,u,u,u,u,u,u,u,u,u,u,u,u,u,u,u,u,u,u,u,u,u,u,u,u,u,u,u,u,u,u,u,u,u,u,u,u,u,u,u,u,u], [], h⟩) : T Tryz.prog Γ Fn.kbk [a0, a1] h K :=
  TB Tryz.func60 (bodyOf Tryz.f60) hw
def kbp_c : C := .seq (.reg [mK 4 0]) (.seq (.seq (.reg [mK 5 0]) (.block 0 (.loop (.seq (.seq (.reg [mV 6 5,mV 7 0,mN 8 7,mB 9 .lss 6 8]) (.cond (.t 9) .skip (.exit 0))) (.seq (.block 1 (.seq (.reg [mV 12 0,mV 13 5,mV 14 1,mX 15 13 12 13,mF 16 0 15,mS 1 16 14]) (.seq (.reg [mV 17 1,mI 18 .add 17 1,mV 1 18]) (.seq (.reg [mV 19 0,mV 20 5,mV 21 1,mX 22 13 19 20,mF 23 1 22,mF 24 0 23,mS 1 24 21]) (.seq (.reg [mV 25 1,mI 26 .add 25 1,mV 1 26]) (.seq (.reg [mV 27 0,mV 28 5,mV 29 1,mX 30 13 27 28,mF 31 1 30,mF 32 1 31,mS 1 32 29]) (.seq (.reg [mV 33 1,mI 34 .add 33 1,mV 1 34]) (.seq (.reg [mV 35 0,mV 36 5,mV 37 1,mX 38 13 35 36,mF 39 1 38,mF 40 2 39,mS 1 40 37]) (.seq (.reg [mV 41 1,mI 42 .add 41 1,mV 1 42]) (.seq (.reg [mV 43 0,mV 44 5,mV 45 1,mX 46 13 43 44,mF 47 1 46,mF 48 3 47,mS 1 48 45]) (.seq (.reg [mV 49 1,mI 50 .add 49 1,mV 1 50]) (.seq (.reg [mV 51 0,mV 52 5,mV 53 1,mC 54 Fn.kbt [.t 53],mX 55 13 51 52,mF 56 1 55,mF 57 4 56,mS 1 57 54]) (.seq (.reg [mV 58 1,mI 59 .add 58 1,mV 1 59]) (.seq (.reg [mV 60 0,mV 61 5,mX 62 13 60 61,mF 63 1 62,mF 64 5 63,mL 65 1 64,mV 66 1,mC 67 Fn.kbw [.t 65, .t 66],mV 1 67]) (.seq (.reg [mV 68 0,mV 69 5,mV 70 1,mX 71 13 68 69,mF 72 1 71,mF 73 6 72,mF 74 0 73,mS 1 74 70]) (.seq (.reg [mV 75 1,mI 76 .add 75 1,mV 1 76]) (.seq (.reg [mV 77 0,mV 78 5,mV 79 1,mX 80 13 77 78,mF 81 1 80,mF 82 6 81,mF 83 1 82,mS 1 83 79]) (.seq (.reg [mV 84 1,mI 85 .add 84 1,mV 1 85]) (.seq (.reg [mV 86 0,mV 87 5,mV 88 1,mX 89 13 86 87,mF 90 1 89,mF 91 8 90,mS 1 91 88]) (.seq (.reg [mV 92 1,mI 93 .add 92 1,mV 1 93]) (.seq (.reg [mV 94 0,mV 95 5,mV 96 1,mX 97 13 94 95,mF 98 1 97,mF 99 9 98,mF 100 0 99,mS 1 100 96]) (.seq (.reg [mV 101 1,mI 102 .add 101 1,mV 1 102]) (.seq (.reg [mV 103 0,mV 104 5,mV 105 1,mX 106 13 103 104,mF 107 1 106,mF 108 9 107,mF 109 1 108,mS 1 109 105]) (.seq (.reg [mV 110 1,mI 111 .add 110 1,mV 1 111]) (.seq (.reg [mV 112 0,mV 113 5,mV 114 1,mX 115 13 112 113,mF 116 1 115,mF 117 9 116,mF 118 2 117,mS 1 118 114]) (.reg [mV 119 1,mI 120 .add 119 1,mV 1 120])))))))))))))))))))))))))) (.reg [mV 10 5,mI 11 .add 10 1,mV 5 11])))))) (.seq (.reg [mV 121 1,mV 4 121]) .ret))
def kbp_r : List RS := [.t 4]
def kbp_s0 (t0 t1 t5 : AV) (loc : List (List AV)) (h : AH) : St := ⟨[t0, t1, .any,.any,.any, t5, .any,.any,.any,.any,.any,.any,.any,.any,.any,.any,.any,.any,.any,.any,.any,.any,.any,.any,.any,.any,.any,.any,.any,.any,.any,.any,.any,.any,.any,.any,.any,.any,.any,.any,.any,.any,.any,.any,.any,.any,.any,.any,.any,.any,.any,.any,.any,.any,.any,.any,.any,.any,.any,.any,.any,.any,.any,.any,.any,.any,.any,.any,.any,.any,.any,.any,.any,.any,.any,.any,.any,.any,.any,.any,.any,.any,.any,.any,.any,.any,.any,.any,.any,.any,.any,.any,.any,.any,.any,.any,.any,.any,.any,.any,.any,.any,.any,.any,.any,.any,.any,.any,.any,.any,.any,.any,.any,.any,.any,.any,.any,.any,.any,.any,.any,.any], loc, h⟩
theorem kbp_e (hw : TC Tryz.prog Θ Γ kbp_c (retQ kbp_r K) ⟨[a0, a1, u,u,u,u,u,u,u,u,u,u,u,u,u,u,u,u,u,u,u,u,u,u,u,u,u,u,u,u,u,u,u,u,u,u,u,u,u,u,u,u,u,u,u,u,u,u,u,u,u,u,u,u,u,u,u,u,u,u,u,u,u,u,u,u,u,u,u,u,u,u,u,u,u,u,u,u,u,u,u,u,u,u,u,u,u,u,u,u,u,u,u,u,u,u,u,u,u,u,u,u,u,u,u,u,u,u,u,u,u,u,u,u,u,u,u,u,u,u,u,u], [], h⟩) : T Tryz.prog Γ Fn.kbp [a0, a1] h K :=
  TB Tryz.func61 (bodyOf Tryz.f61) hw
def kcJ_d0_os : List O := [mF 7 0 1,mL 8 1 7,mF 9 2 1,mL 10 1 9,mC 11 Fn.kcS [.t 10],⟨(some 12), none, .build [.int .i64 0, .nils, .nils, .nils, .nils] [(0, 1, .t 8), (2, 1, .t 11)]⟩,⟨(some 3), none, .alloc [.int .i64 0, .nils, .nils, .nils, .nils]⟩,mS 5 3 12]
def kcJ_d0_af : List (List Nat) := [[], [0], [], [2], [3], [1, 4], [], [6, 5, 4, 0, 1, 2, 3, 4, 5, 6]]
theorem kcJ_d0_q (gl : Gl) (Q : AE → St → Prop) (s : St) : aw Tryz.prog Θ Γ gl (.regD kcJ_d0_os kcJ_d0_af) Q s = awpT Tryz.prog Γ gl [mF 7 0 1,mL 8 1 7,mF 9 2 1,mL 10 1 9,mC 11 Fn.kcS [.t 10],⟨(some 12), none, .build [.int .i64 0, .nils, .nils, .nils, .nils] [(0, 1, .t 8), (2, 1, .t 11)]⟩,⟨(some 3), none, .alloc [.int .i64 0, .nils, .nils, .nils, .nils]⟩,mS 5 3 12] (Q .normal) 8 (.q 0 (.q 1 (.q 2 (.q 3 (.all [(4, .q 5 (.all [(6, .q 7 (.done))])), (6, .all [(4, .q 5 (.q 7 (.done)))])]))))) s := a_dd rfl (by kernel_rfl) gl Q s
def kcJ_d1_os : List O := [mF 20 1 3,mL 21 1 20,mF 22 1 1,mL 23 1 22,mV 24 4,mX 25 12 23 24,mG 26 12 25,mC 27 Fn.kcR [.t 26],⟨(some 28), none, .bsl 12 1 [.int .i64 0,.int .i64 0, .nils, .int .i64 0,.int .i64 0,.int .i64 0, .nils, .nils, .int .i64 0,.int .i64 0,.int .i64 0,.int .i64 0] [(0, .t 27)]⟩,⟨(some 29), none, .app 12 144 [.int .i64 0,.int .i64 0, .nils, .int .i64 0,.int .i64 0,.int .i64 0, .nils, .nils, .int .i64 0,.int .i64 0,.int .i64 0,.int .i64 0] false (.t 21) (.t 28)⟩,mF 30 1 3,mS 1 30 29]
def kcJ_d1_af : List (List Nat) := [[], [0], [], [2], [], [3, 4], [5], [6], [7], [1, 8, 7], [0, 1, 2, 3, 4, 5, 6, 7, 8, 9], [10, 9, 9, 0, 1, 2, 3, 4, 5, 6, 7, 8, 9]]
theorem kcJ_d1_q (gl : Gl) (Q : AE → St → Prop) (s : St) : aw Tryz.prog Θ Γ gl (.regD kcJ_d1_os kcJ_d1_af) Q s = awpT Tryz.prog Γ gl [mF 20 1 3,mL 21 1 20,mF 22 1 1,mL 23 1 22,mV 24 4,mX 25 12 23 24,mG 26 12 25,mC 27 Fn.kcR [.t 26],⟨(some 28), none, .bsl 12 1 [.int .i64 0,.int .i64 0, .nils, .int .i64 0,.int .i64 0,.int .i64 0, .nils, .nils, .int .i64 0,.int .i64 0,.int .i64 0,.int .i64 0] [(0, .t 27)]⟩,⟨(some 29), none, .app 12 144 [.int .i64 0,.int .i64 0, .nils, .int .i64 0,.int .i64 0,.int .i64 0, .nils, .nils, .int .i64 0,.int .i64 0,.int .i64 0,.int .i64 0] false (.t 21) (.t 28)⟩,mF 30 1 3,mS 1 30 29] (Q .normal) 12 (.q 0 (.q 1 (.q 2 (.q 3 (.q 4 (.q 5 (.q 6 (.st 7 [20] (.all [(8, .q 9 (.q 10 (.q 11 (.done))))]))))))))) s := a_dd rfl (by kernel_rfl) gl Q s
def kcJ_d2_os : List O := [mF 38 3 3,mL 39 1 38,mF 40 3 1,mL 41 1 40,mV 42 5,mX 43 7 41 42,mG 44 7 43,mC 45 Fn.kcH [.t 44],⟨(some 46), none, .bsl 7 1 [.int .i64 0, .bool false, .nils, .int .i64 0, .nils, .int .i64 0, .nils] [(0, .t 45)]⟩,⟨(some 47), none, .app 7 104 [.int .i64 0, .bool false, .nils, .int .i64 0, .nils, .int .i64 0, .nils] false (.t 39) (.t 46)⟩,mF 48 3 3,mS 1 48 47]
def kcJ_d2_af : List (List Nat) := [[], [0], [], [2], [], [3, 4], [5], [6], [7], [1, 8, 7], [0, 1, 2, 3, 4, 5, 6, 7, 8, 9], [10, 9, 9, 0, 1, 2, 3, 4, 5, 6, 7, 8, 9]]
theorem kcJ_d2_q (gl : Gl) (Q : AE → St → Prop) (s : St) : aw Tryz.prog Θ Γ gl (.regD kcJ_d2_os kcJ_d2_af) Q s = awpT Tryz.prog Γ gl [mF 38 3 3,mL 39 1 38,mF 40 3 1,mL 41 1 40,mV 42 5,mX 43 7 41 42,mG 44 7 43,mC 45 Fn.kcH [.t 44],⟨(some 46), none, .bsl 7 1 [.int .i64 0, .bool false, .nils, .int .i64 0, .nils, .int .i64 0, .nils] [(0, .t 45)]⟩,⟨(some 47), none, .app 7 104 [.int .i64 0, .bool false, .nils, .int .i64 0, .nils, .int .i64 0, .nils] false (.t 39) (.t 46)⟩,mF 48 3 3,mS 1 48 47] (Q .normal) 12 (.q 0 (.q 1 (.q 2 (.q 3 (.q 4 (.q 5 (.q 6 (.st 7 [38] (.all [(8, .q 9 (.q 10 (.q 11 (.done))))]))))))))) s := a_dd rfl (by kernel_rfl) gl Q s
def kcJ_d3_os : List O := [mF 56 4 3,mL 57 1 56,mF 58 4 1,mL 59 1 58,mV 60 6,mX 61 13 59 60,mF 62 0 61,mL 63 1 62,mF 64 4 1,mL 65 1 64,mV 66 6,mX 67 13 65 66,mF 68 1 67,mG 69 12 68,mC 70 Fn.kcI [.t 69],⟨(some 71), none, .build [.int .i64 0,.int .i64 0,.int .i64 0,.int .i64 0,.int .i64 0, .str ⟨#[]⟩, .nils, .int .i64 0,.int .i64 0,.int .i64 0,.int .i64 0,.int .i64 0,.int .i64 0] [(0, 1, .t 63), (1, 12, .t 70)]⟩,⟨(some 72), none, .bsl 13 1 [.int .i64 0,.int .i64 0,.int .i64 0,.int .i64 0,.int .i64 0, .str ⟨#[]⟩, .nils, .int .i64 0,.int .i64 0,.int .i64 0,.int .i64 0,.int .i64 0,.int .i64 0] [(0, .t 71)]⟩,⟨(some 73), none, .app 13 128 [.int .i64 0,.int .i64 0,.int .i64 0,.int .i64 0,.int .i64 0, .str ⟨#[]⟩, .nils, .int .i64 0,.int .i64 0,.int .i64 0,.int .i64 0,.int .i64 0,.int .i64 0] false (.t 57) (.t 72)⟩,mF 74 4 3,mS 1 74 73]
def kcJ_d3_af : List (List Nat) := [[], [0], [], [2], [], [3, 4], [5], [6], [], [8], [], [9, 10], [11], [12], [13], [7, 14], [15], [1, 16, 14], [0, 1, 2, 3, 4, 5, 6, 7, 8, 9, 10, 11, 12, 13, 14, 15, 16, 17], [18, 17, 17, 0, 1, 2, 3, 4, 5, 6, 7, 8, 9, 10, 11, 12, 13, 14, 15, 16, 17]]
theorem kcJ_d3_q (gl : Gl) (Q : AE → St → Prop) (s : St) : aw Tryz.prog Θ Γ gl (.regD kcJ_d3_os kcJ_d3_af) Q s = awpT Tryz.prog Γ gl [mF 56 4 3,mL 57 1 56,mF 58 4 1,mL 59 1 58,mV 60 6,mX 61 13 59 60,mF 62 0 61,mL 63 1 62,mF 64 4 1,mL 65 1 64,mV 66 6,mX 67 13 65 66,mF 68 1 67,mG 69 12 68,mC 70 Fn.kcI [.t 69],⟨(some 71), none, .build [.int .i64 0,.int .i64 0,.int .i64 0,.int .i64 0,.int .i64 0, .str ⟨#[]⟩, .nils, .int .i64 0,.int .i64 0,.int .i64 0,.int .i64 0,.int .i64 0,.int .i64 0] [(0, 1, .t 63), (1, 12, .t 70)]⟩,⟨(some 72), none, .bsl 13 1 [.int .i64 0,.int .i64 0,.int .i64 0,.int .i64 0,.int .i64 0, .str ⟨#[]⟩, .nils, .int .i64 0,.int .i64 0,.int .i64 0,.int .i64 0,.int .i64 0,.int .i64 0] [(0, .t 71)]⟩,⟨(some 73), none, .app 13 128 [.int .i64 0,.int .i64 0,.int .i64 0,.int .i64 0,.int .i64 0, .str ⟨#[]⟩, .nils, .int .i64 0,.int .i64 0,.int .i64 0,.int .i64 0,.int .i64 0,.int .i64 0] false (.t 57) (.t 72)⟩,mF 74 4 3,mS 1 74 73] (Q .normal) 20 (.q 0 (.q 1 (.q 2 (.q 3 (.q 4 (.q 5 (.q 6 (.q 7 (.q 8 (.q 9 (.q 10 (.q 11 (.q 12 (.q 13 (.st 14 [56, 58, 62] (.q 15 (.all [(16, .q 17 (.q 18 (.q 19 (.done))))]))))))))))))))))) s := a_dd rfl (by kernel_rfl) gl Q s
def kcJ_c : C := .seq (.reg [mA 1 0,⟨(some 2), none, .alloc [.int .i64 0, .nils, .nils, .nils, .nils]⟩]) (.seq (.regD kcJ_d0_os kcJ_d0_af) (.seq (.seq (.reg [mK 4 0]) (.block 0 (.loop (.seq (.seq (.reg [mV 13 4,mF 14 1 1,mL 15 1 14,mN 16 15,mB 17 .lss 13 16]) (.cond (.t 17) .skip (.exit 0))) (.seq (.block 1 (.regD kcJ_d1_os kcJ_d1_af)) (.reg [mV 18 4,mI 19 .add 18 1,mV 4 19])))))) (.seq (.seq (.reg [mK 5 0]) (.block 2 (.loop (.seq (.seq (.reg [mV 31 5,mF 32 3 1,mL 33 1 32,mN 34 33,mB 35 .lss 31 34]) (.cond (.t 35) .skip (.exit 2))) (.seq (.block 3 (.regD kcJ_d2_os kcJ_d2_af)) (.reg [mV 36 5,mI 37 .add 36 1,mV 5 37])))))) (.seq (.seq (.reg [mK 6 0]) (.block 4 (.loop (.seq (.seq (.reg [mV 49 6,mF 50 4 1,mL 51 1 50,mN 52 51,mB 53 .lss 49 52]) (.cond (.t 53) .skip (.exit 4))) (.seq (.block 5 (.regD kcJ_d3_os kcJ_d3_af)) (.reg [mV 54 6,mI 55 .add 54 1,mV 6 55])))))) (.seq (.reg [mG 75 5 3,mS 5 2 75]) .ret)))))
def kcJ_r : List RS := [.cell 2 5 true]
def kcJ_s0 (t1 t2 t3 t4 : AV) (loc : List (List AV)) (h : AH) : St := ⟨[.any, t1, t2, t3, t4, .any,.any,.any,.any,.any,.any,.any,.any,.any,.any,.any,.any,.any,.any,.any,.any,.any,.any,.any,.any,.any,.any,.any,.any,.any,.any,.any,.any,.any,.any,.any,.any,.any,.any,.any,.any,.any,.any,.any,.any,.any,.any,.any,.any,.any,.any,.any,.any,.any,.any,.any,.any,.any,.any,.any,.any,.any,.any,.any,.any,.any,.any,.any,.any,.any,.any,.any,.any,.any,.any,.any], loc, h⟩
def kcJ_s1 (t1 t2 t3 t5 : AV) (loc : List (List AV)) (h : AH) : St := ⟨[.any, t1, t2, t3, .any, t5, .any,.any,.any,.any,.any,.any,.any,.any,.any,.any,.any,.any,.any,.any,.any,.any,.any,.any,.any,.any,.any,.any,.any,.any,.any,.any,.any,.any,.any,.any,.any,.any,.any,.any,.any,.any,.any,.any,.any,.any,.any,.any,.any,.any,.any,.any,.any,.any,.any,.any,.any,.any,.any,.any,.any,.any,.any,.any,.any,.any,.any,.any,.any,.any,.any,.any,.any,.any,.any,.any], loc, h⟩
def kcJ_s2 (t1 t2 t3 t6 : AV) (loc : List (List AV)) (h : AH) : St := ⟨[.any, t1, t2, t3, .any,.any, t6, .any,.any,.any,.any,.any,.any,.any,.any,.any,.any,.any,.any,.any,.any,.any,.any,.any,.any,.any,.any,.any,.any,.any,.any,.any,.any,.any,.any,.any,.any,.any,.any,.any,.any,.any,.any,.any,.any,.any,.any,.any,.any,.any,.any,.any,.any,.any,.any,.any,.any,.any,.any,.any,.any,.any,.any,.any,.any,.any,.any,.any,.any,.any,.any,.any,.any,.any,.any,.any], loc, h⟩
theorem kcJ_e (hw : TC Tryz.prog Θ Γ kcJ_c (retQ kcJ_r K) ⟨[a0, u,u,u,u,u,u,u,u,u,u,u,u,u,u,u,u,u,u,u,u,u,u,u,u,u,u,u,u,u,u,u,u,u,u,u,u,u,u,u,u,u,u,u,u,u,u,u,u,u,u,u,u,u,u,u,u,u,u,u,u,u,u,u,u,u,u,u,u,u,u,u,u,u,u,u], [], h⟩) : T Tryz.prog Γ Fn.kcJ [a0] h K :=
  TB Tryz.func62 (bodyOf Tryz.f62) hw
def kah_d0_os : List O := [mF 10 0 1,mL 11 1 10,mF 12 2 1,mL 13 1 12,mC 14 Fn.kan [.t 13],⟨(some 15), none, .build [.int .i64 0, .nils, .nils, .nils, .nils] [(0, 1, .t 11), (2, 1, .t 14)]⟩,⟨(some 3), none, .alloc [.int .i64 0, .nils, .nils, .nils, .nils]⟩,mS 5 3 15]
def kah_d0_af : List (List Nat) := [[], [0], [], [2], [3], [1, 4], [], [6, 5, 4, 0, 1, 2, 3, 4, 5, 6]]
theorem kah_d0_q (gl : Gl) (Q : AE → St → Prop) (s : St) : aw Tryz.prog Θ Γ gl (.regD kah_d0_os kah_d0_af) Q s = awpT Tryz.prog Γ gl [mF 10 0 1,mL 11 1 10,mF 12 2 1,mL 13 1 12,mC 14 Fn.kan [.t 13],⟨(some 15), none, .build [.int .i64 0, .nils, .nils, .nils, .nils] [(0, 1, .t 11), (2, 1, .t 14)]⟩,⟨(some 3), none, .alloc [.int .i64 0, .nils, .nils, .nils, .nils]⟩,mS 5 3 15] (Q .normal) 8 (.q 0 (.q 1 (.q 2 (.q 3 (.all [(4, .q 5 (.all [(6, .q 7 (.done))])), (6, .all [(4, .q 5 (.q 7 (.done)))])]))))) s := a_dd rfl (by kernel_rfl) gl Q s
def kah_d1_os : List O := [mF 23 1 3,mL 24 1 23,mG 25 12 5,mC 26 Fn.kab [.t 25],⟨(some 27), none, .bsl 12 1 [.int .i64 0,.int .i64 0, .nils, .int .i64 0,.int .i64 0,.int .i64 0, .nils, .nils, .int .i64 0,.int .i64 0,.int .i64 0,.int .i64 0] [(0, .t 26)]⟩,⟨(some 28), none, .app 12 144 [.int .i64 0,.int .i64 0, .nils, .int .i64 0,.int .i64 0,.int .i64 0, .nils, .nils, .int .i64 0,.int .i64 0,.int .i64 0,.int .i64 0] false (.t 24) (.t 27)⟩,mF 29 1 3,mS 1 29 28]
def kah_d1_af : List (List Nat) := [[], [0], [], [2], [3], [1, 4, 3], [0, 1, 2, 3, 4, 5], [6, 5, 5, 0, 1, 2, 3, 4, 5]]
theorem kah_d1_q (gl : Gl) (Q : AE → St → Prop) (s : St) : aw Tryz.prog Θ Γ gl (.regD kah_d1_os kah_d1_af) Q s = awpT Tryz.prog Γ gl [mF 23 1 3,mL 24 1 23,mG 25 12 5,mC 26 Fn.kab [.t 25],⟨(some 27), none, .bsl 12 1 [.int .i64 0,.int .i64 0, .nils, .int .i64 0,.int .i64 0,.int .i64 0, .nils, .nils, .int .i64 0,.int .i64 0,.int .i64 0,.int .i64 0] [(0, .t 26)]⟩,⟨(some 28), none, .app 12 144 [.int .i64 0,.int .i64 0, .nils, .int .i64 0,.int .i64 0,.int .i64 0, .nils, .nils, .int .i64 0,.int .i64 0,.int .i64 0,.int .i64 0] false (.t 24) (.t 27)⟩,mF 29 1 3,mS 1 29 28] (Q .normal) 8 (.q 0 (.q 1 (.q 2 (.st 3 [23] (.all [(4, .q 5 (.q 6 (.q 7 (.done))))]))))) s := a_dd rfl (by kernel_rfl) gl Q s
def kah_d2_os : List O := [mF 38 3 3,mL 39 1 38,mG 40 7 7,mC 41 Fn.kad [.t 40],⟨(some 42), none, .bsl 7 1 [.int .i64 0, .bool false, .nils, .int .i64 0, .nils, .int .i64 0, .nils] [(0, .t 41)]⟩,⟨(some 43), none, .app 7 104 [.int .i64 0, .bool false, .nils, .int .i64 0, .nils, .int .i64 0, .nils] false (.t 39) (.t 42)⟩,mF 44 3 3,mS 1 44 43]
def kah_d2_af : List (List Nat) := [[], [0], [], [2], [3], [1, 4, 3], [0, 1, 2, 3, 4, 5], [6, 5, 5, 0, 1, 2, 3, 4, 5]]
theorem kah_d2_q (gl : Gl) (Q : AE → St → Prop) (s : St) : aw Tryz.prog Θ Γ gl (.regD kah_d2_os kah_d2_af) Q s = awpT Tryz.prog Γ gl [mF 38 3 3,mL 39 1 38,mG 40 7 7,mC 41 Fn.kad [.t 40],⟨(some 42), none, .bsl 7 1 [.int .i64 0, .bool false, .nils, .int .i64 0, .nils, .int .i64 0, .nils] [(0, .t 41)]⟩,⟨(some 43), none, .app 7 104 [.int .i64 0, .bool false, .nils, .int .i64 0, .nils, .int .i64 0, .nils] false (.t 39) (.t 42)⟩,mF 44 3 3,mS 1 44 43] (Q .normal) 8 (.q 0 (.q 1 (.q 2 (.st 3 [38] (.all [(4, .q 5 (.q 6 (.q 7 (.done))))]))))) s := a_dd rfl (by kernel_rfl) gl Q s
def kah_d3_os : List O := [mF 53 4 3,mL 54 1 53,mF 55 0 9,mL 56 1 55,mF 57 1 9,mG 58 12 57,mC 59 Fn.kae [.t 58],⟨(some 60), none, .build [.int .i64 0,.int .i64 0,.int .i64 0,.int .i64 0,.int .i64 0, .str ⟨#[]⟩, .nils, .int .i64 0,.int .i64 0,.int .i64 0,.int .i64 0,.int .i64 0,.int .i64 0] [(0, 1, .t 56), (1, 12, .t 59)]⟩,⟨(some 61), none, .bsl 13 1 [.int .i64 0,.int .i64 0,.int .i64 0,.int .i64 0,.int .i64 0, .str ⟨#[]⟩, .nils, .int .i64 0,.int .i64 0,.int .i64 0,.int .i64 0,.int .i64 0,.int .i64 0] [(0, .t 60)]⟩,⟨(some 62), none, .app 13 128 [.int .i64 0,.int .i64 0,.int .i64 0,.int .i64 0,.int .i64 0, .str ⟨#[]⟩, .nils, .int .i64 0,.int .i64 0,.int .i64 0,.int .i64 0,.int .i64 0,.int .i64 0] false (.t 54) (.t 61)⟩,mF 63 4 3,mS 1 63 62]
def kah_d3_af : List (List Nat) := [[], [0], [], [2], [], [4], [5], [3, 6], [7], [1, 8, 6], [0, 1, 2, 3, 4, 5, 6, 7, 8, 9], [10, 9, 9, 0, 1, 2, 3, 4, 5, 6, 7, 8, 9]]
theorem kah_d3_q (gl : Gl) (Q : AE → St → Prop) (s : St) : aw Tryz.prog Θ Γ gl (.regD kah_d3_os kah_d3_af) Q s = awpT Tryz.prog Γ gl [mF 53 4 3,mL 54 1 53,mF 55 0 9,mL 56 1 55,mF 57 1 9,mG 58 12 57,mC 59 Fn.kae [.t 58],⟨(some 60), none, .build [.int .i64 0,.int .i64 0,.int .i64 0,.int .i64 0,.int .i64 0, .str ⟨#[]⟩, .nils, .int .i64 0,.int .i64 0,.int .i64 0,.int .i64 0,.int .i64 0,.int .i64 0] [(0, 1, .t 56), (1, 12, .t 59)]⟩,⟨(some 61), none, .bsl 13 1 [.int .i64 0,.int .i64 0,.int .i64 0,.int .i64 0,.int .i64 0, .str ⟨#[]⟩, .nils, .int .i64 0,.int .i64 0,.int .i64 0,.int .i64 0,.int .i64 0,.int .i64 0] [(0, .t 60)]⟩,⟨(some 62), none, .app 13 128 [.int .i64 0,.int .i64 0,.int .i64 0,.int .i64 0,.int .i64 0, .str ⟨#[]⟩, .nils, .int .i64 0,.int .i64 0,.int .i64 0,.int .i64 0,.int .i64 0,.int .i64 0] false (.t 54) (.t 61)⟩,mF 63 4 3,mS 1 63 62] (Q .normal) 12 (.q 0 (.q 1 (.q 2 (.q 3 (.q 4 (.q 5 (.st 6 [53, 55] (.q 7 (.all [(8, .q 9 (.q 10 (.q 11 (.done))))]))))))))) s := a_dd rfl (by kernel_rfl) gl Q s
def kah_c : C := .seq (.reg [mA 1 0,⟨(some 2), none, .alloc [.int .i64 0, .nils, .nils, .nils, .nils]⟩]) (.seq (.regD kah_d0_os kah_d0_af) (.seq (.seq (.reg [mF 16 1 1,mL 17 1 16,mN 18 17,mK 19 0]) (.block 0 (.loop (.seq (.reg [mB 20 .lss 19 18]) (.seq (.cond (.t 20) .skip (.exit 0)) (.seq (.block 1 (.seq (.reg [mX 21 12 17 19,mG 22 12 21,⟨(some 5), none, .alloc [.int .i64 0,.int .i64 0, .nils, .int .i64 0,.int .i64 0,.int .i64 0, .nils, .nils, .int .i64 0,.int .i64 0,.int .i64 0,.int .i64 0]⟩,mS 12 5 22]) (.regD kah_d1_os kah_d1_af))) (.reg [mI 30 .add 19 1,mV 19 30]))))))) (.seq (.seq (.reg [mF 31 3 1,mL 32 1 31,mN 33 32,mK 34 0]) (.block 2 (.loop (.seq (.reg [mB 35 .lss 34 33]) (.seq (.cond (.t 35) .skip (.exit 2)) (.seq (.block 3 (.seq (.reg [mX 36 7 32 34,mG 37 7 36,⟨(some 7), none, .alloc [.int .i64 0, .bool false, .nils, .int .i64 0, .nils, .int .i64 0, .nils]⟩,mS 7 7 37]) (.regD kah_d2_os kah_d2_af))) (.reg [mI 45 .add 34 1,mV 34 45]))))))) (.seq (.seq (.reg [mF 46 4 1,mL 47 1 46,mN 48 47,mK 49 0]) (.block 4 (.loop (.seq (.reg [mB 50 .lss 49 48]) (.seq (.cond (.t 50) .skip (.exit 4)) (.seq (.block 5 (.seq (.reg [mX 51 13 47 49,mG 52 13 51,⟨(some 9), none, .alloc [.int .i64 0,.int .i64 0,.int .i64 0,.int .i64 0,.int .i64 0, .str ⟨#[]⟩, .nils, .int .i64 0,.int .i64 0,.int .i64 0,.int .i64 0,.int .i64 0,.int .i64 0]⟩,mS 13 9 52]) (.regD kah_d3_os kah_d3_af))) (.reg [mI 64 .add 49 1,mV 49 64]))))))) (.seq (.reg [mG 65 5 3,mS 5 2 65]) .ret)))))
def kah_r : List RS := [.cell 2 5 true]
def kah_s0 (t1 t2 t3 t17 t18 t19 : AV) (loc : List (List AV)) (h : AH) : St := ⟨[.any, t1, t2, t3, .any,.any,.any,.any,.any,.any,.any,.any,.any,.any,.any,.any,.any, t17, t18, t19, .any,.any,.any,.any,.any,.any,.any,.any,.any,.any,.any,.any,.any,.any,.any,.any,.any,.any,.any,.any,.any,.any,.any,.any,.any,.any,.any,.any,.any,.any,.any,.any,.any,.any,.any,.any,.any,.any,.any,.any,.any,.any,.any,.any,.any,.any], loc, h⟩
def kah_s1 (t1 t2 t3 t32 t33 t34 : AV) (loc : List (List AV)) (h : AH) : St := ⟨[.any, t1, t2, t3, .any,.any,.any,.any,.any,.any,.any,.any,.any,.any,.any,.any,.any,.any,.any,.any,.any,.any,.any,.any,.any,.any,.any,.any,.any,.any,.any,.any, t32, t33, t34, .any,.any,.any,.any,.any,.any,.any,.any,.any,.any,.any,.any,.any,.any,.any,.any,.any,.any,.any,.any,.any,.any,.any,.any,.any,.any,.any,.any,.any,.any,.any], loc, h⟩
def kah_s2 (t2 t3 t47 t48 t49 : AV) (loc : List (List AV)) (h : AH) : St := ⟨[.any,.any, t2, t3, .any,.any,.any,.any,.any,.any,.any,.any,.any,.any,.any,.any,.any,.any,.any,.any,.any,.any,.any,.any,.any,.any,.any,.any,.any,.any,.any,.any,.any,.any,.any,.any,.any,.any,.any,.any,.any,.any,.any,.any,.any,.any,.any, t47, t48, t49, .any,.any,.any,.any,.any,.any,.any,.any,.any,.any,.any,.any,.any,.any,.any,.any], loc, h⟩
theorem kah_e (hw : TC Tryz.prog Θ Γ kah_c (retQ kah_r K) ⟨[a0, u,u,u,u,u,u,u,u,u,u,u,u,u,u,u,u,u,u,u,u,u,u,u,u,u,u,u,u,u,u,u,u,u,u,u,u,u,u,u,u,u,u,u,u,u,u,u,u,u,u,u,u,u,u,u,u,u,u,u,u,u,u,u,u,u], [], h⟩) : T Tryz.prog Γ Fn.kah [a0] h K :=
  TB Tryz.func65 (bodyOf Tryz.f65) hw
def ka0_c : C := .seq (.reg [mK 4 0]) (.seq (.seq (.reg [mK 5 0]) (.block 0 (.loop (.seq (.seq (.reg [mV 6 5,mV 7 0,mN 8 7,mB 9 .lss 6 8]) (.cond (.t 9) .skip (.exit 0))) (.seq (.block 1 (.seq (.seq (.reg [mV 12 0,mV 13 5,mX 14 12 12 13,mF 15 0 14,mL 16 1 15,mV 17 1,mB 18 .neq 16 17]) (.cond (.t 18) (.seq (.reg [mK 4 (-1)]) .ret) .skip)) (.seq (.reg [mV 19 1,mI 20 .add 19 1,mV 1 20]) (.seq (.seq (.reg [mV 21 0,mV 22 5,mX 23 12 21 22,mF 24 1 23,mL 25 1 24,mV 26 1,mB 27 .neq 25 26]) (.cond (.t 27) (.seq (.reg [mK 4 (-1)]) .ret) .skip)) (.seq (.reg [mV 28 1,mI 29 .add 28 1,mV 1 29]) (.seq (.reg [mV 30 0,mV 31 5,mX 32 12 30 31,mF 33 2 32,mL 34 1 33,mV 35 1,mC 36 Fn.kbb [.t 34, .t 35],mV 1 36]) (.seq (.seq (.reg [mV 37 1,mI 38 .lss 37 0]) (.cond (.t 38) (.seq (.reg [mK 4 (-1)]) .ret) .skip)) (.seq (.seq (.reg [mV 39 0,mV 40 5,mX 41 12 39 40,mF 42 3 41,mL 43 1 42,mV 44 1,mB 45 .neq 43 44]) (.cond (.t 45) (.seq (.reg [mK 4 (-1)]) .ret) .skip)) (.seq (.reg [mV 46 1,mI 47 .add 46 1,mV 1 47]) (.seq (.seq (.reg [mV 48 0,mV 49 5,mX 50 12 48 49,mF 51 4 50,mF 52 0 51,mL 53 1 52,mV 54 1,mB 55 .neq 53 54]) (.cond (.t 55) (.seq (.reg [mK 4 (-1)]) .ret) .skip)) (.seq (.reg [mV 56 1,mI 57 .add 56 1,mV 1 57]) (.seq (.seq (.reg [mV 58 0,mV 59 5,mX 60 12 58 59,mF 61 4 60,mF 62 1 61,mL 63 1 62,mV 64 1,mB 65 .neq 63 64]) (.cond (.t 65) (.seq (.reg [mK 4 (-1)]) .ret) .skip)) (.seq (.reg [mV 66 1,mI 67 .add 66 1,mV 1 67]) (.seq (.reg [mV 68 0,mV 69 5,mX 70 12 68 69,mF 71 6 70,mL 72 1 71,mV 73 1,mC 74 Fn.kba [.t 72, .t 73],mV 1 74]) (.seq (.seq (.reg [mV 75 1,mI 76 .lss 75 0]) (.cond (.t 76) (.seq (.reg [mK 4 (-1)]) .ret) .skip)) (.seq (.reg [mV 77 0,mV 78 5,mX 79 12 77 78,mF 80 7 79,mL 81 1 80,mV 82 1,mC 83 Fn.kaY [.t 81, .t 82],mV 1 83]) (.seq (.seq (.reg [mV 84 1,mI 85 .lss 84 0]) (.cond (.t 85) (.seq (.reg [mK 4 (-1)]) .ret) .skip)) (.seq (.seq (.reg [mV 86 0,mV 87 5,mX 88 12 86 87,mF 89 8 88,mL 90 1 89,mV 91 1,mB 92 .neq 90 91]) (.cond (.t 92) (.seq (.reg [mK 4 (-1)]) .ret) .skip)) (.seq (.reg [mV 93 1,mI 94 .add 93 1,mV 1 94]) (.seq (.seq (.reg [mV 95 0,mV 96 5,mX 97 12 95 96,mF 98 9 97,mL 99 1 98,mV 100 1,mB 101 .neq 99 100]) (.cond (.t 101) (.seq (.reg [mK 4 (-1)]) .ret) .skip)) (.seq (.reg [mV 102 1,mI 103 .add 102 1,mV 1 103]) (.seq (.seq (.reg [mV 104 0,mV 105 5,mX 106 12 104 105,mF 107 10 106,mL 108 1 107,mV 109 1,mB 110 .neq 108 109]) (.cond (.t 110) (.seq (.reg [mK 4 (-1)]) .ret) .skip)) (.seq (.reg [mV 111 1,mI 112 .add 111 1,mV 1 112]) (.seq (.seq (.reg [mV 113 0,mV 114 5,mX 115 12 113 114,mF 116 11 115,mL 117 1 116,mV 118 1,mB 119 .neq 117 118]) (.cond (.t 119) (.seq (.reg [mK 4 (-1)]) .ret) .skip)) (.reg [mV 120 1,mI 121 .add 120 1,mV 1 121]))))))))))))))))))))))))) (.reg [mV 10 5,mI 11 .add 10 1,mV 5 11])))))) (.seq (.reg [mV 122 1,mV 4 122]) .ret))
def ka0_r : List RS := [.t 4]
def ka0_s0 (t0 t1 t5 : AV) (loc : List (List AV)) (h : AH) : St := ⟨[t0, t1, .any,.any,.any, t5, .any,.any,.any,.any,.any,.any,.any,.any,.any,.any,.any,.any,.any,.any,.any,.any,.any,.any,.any,.any,.any,.any,.any,.any,.any,.any,.any,.any,.any,.any,.any,.any,.any,.any,.any,.any,.any,.any,.any,.any,.any,.any,.any,.any,.any,.any,.any,.any,.any,.any,.any,.any,.any,.any,.any,.any,.any,.any,.any,.any,.any,.any,.any,.any,.any,.any,.any,.any,.any,.any,.any,.any,.any,.any,.any,.any,.any,.any,.any,.any,.any,.any,.any,.any,.any,.any,.any,.any,.any,.any,.any,.any,.any,.any,.any,.any,.any,.any,.any,.any,.any,.any,.any,.any,.any,.any,.any,.any,.any,.any,.any,.any,.any,.any,.any,.any,.any], loc, h⟩
theorem ka0_e (hw : TC Tryz.prog Θ Γ ka0_c (retQ ka0_r K) ⟨[a0, a1, u,u,u,u,u,u,u,u,u,u,u,u,u,u,u,u,u,u,u,u,u,u,u,u,u,u,u,u,u,u,u,u,u,u,u,u,u,u,u,u,u,u,u,u,u,u,u,u,u,u,u,u,u,u,u,u,u,u,u,u,u,u,u,u,u,u,u,u,u,u,u,u,u,u,u,u,u,u,u,u,u,u,u,u,u,u,u,u,u,u,u,u,u,u,u,u,u,u,u,u,u,u,u,u,u,u,u,u,u,u,u,u,u,u,u,u,u,u,u,u,u], [], h⟩) : T Tryz.prog Γ Fn.ka0 [a0, a1] h K :=
  TB Tryz.func67 (bodyOf Tryz.f67) hw
def kba_d0_os : List O := [mV 21 0,mV 22 5,mX 23 7 21 22,mF 24 1 23,mL 25 1 24,mV 26 1,mC 27 Fn.kbt [.t 26],mB 28 .neq 25 27]
def kba_d0_af : List (List Nat) := [[], [], [0, 1], [2], [3], [], [5], [4, 6]]
theorem kba_d0_q (gl : Gl) (Q : AE → St → Prop) (s : St) : aw Tryz.prog Θ Γ gl (.regD kba_d0_os kba_d0_af) Q s = awpT Tryz.prog Γ gl [mV 21 0,mV 22 5,mX 23 7 21 22,mF 24 1 23,mL 25 1 24,mV 26 1,mC 27 Fn.kbt [.t 26],mB 28 .neq 25 27] (Q .normal) 8 (.q 0 (.q 1 (.q 2 (.q 3 (.q 4 (.q 5 (.st 6 [24] (.q 7 (.done))))))))) s := a_dd rfl (by kernel_rfl) gl Q s
def kba_c : C := .seq (.reg [mK 4 0]) (.seq (.seq (.reg [mK 5 0]) (.block 0 (.loop (.seq (.seq (.reg [mV 6 5,mV 7 0,mN 8 7,mB 9 .lss 6 8]) (.cond (.t 9) .skip (.exit 0))) (.seq (.block 1 (.seq (.seq (.reg [mV 12 0,mV 13 5,mX 14 7 12 13,mF 15 0 14,mL 16 1 15,mV 17 1,mB 18 .neq 16 17]) (.cond (.t 18) (.seq (.reg [mK 4 (-1)]) .ret) .skip)) (.seq (.reg [mV 19 1,mI 20 .add 19 1,mV 1 20]) (.seq (.seq (.regD kba_d0_os kba_d0_af) (.cond (.t 28) (.seq (.reg [mK 4 (-1)]) .ret) .skip)) (.seq (.reg [mV 29 1,mI 30 .add 29 1,mV 1 30]) (.seq (.reg [mV 31 0,mV 32 5,mX 33 7 31 32,mF 34 2 33,mL 35 1 34,mV 36 1,mC 37 Fn.kbb [.t 35, .t 36],mV 1 37]) (.seq (.seq (.reg [mV 38 1,mI 39 .lss 38 0]) (.cond (.t 39) (.seq (.reg [mK 4 (-1)]) .ret) .skip)) (.seq (.seq (.reg [mV 40 0,mV 41 5,mX 42 7 40 41,mF 43 3 42,mL 44 1 43,mV 45 1,mB 46 .neq 44 45]) (.cond (.t 46) (.seq (.reg [mK 4 (-1)]) .ret) .skip)) (.seq (.reg [mV 47 1,mI 48 .add 47 1,mV 1 48]) (.seq (.seq (.reg [mV 49 0,mV 50 5,mX 51 7 49 50,mF 52 4 51,mF 53 0 52,mL 54 1 53,mV 55 1,mB 56 .neq 54 55]) (.cond (.t 56) (.seq (.reg [mK 4 (-1)]) .ret) .skip)) (.seq (.reg [mV 57 1,mI 58 .add 57 1,mV 1 58]) (.seq (.seq (.reg [mV 59 0,mV 60 5,mX 61 7 59 60,mF 62 4 61,mF 63 1 62,mL 64 1 63,mV 65 1,mB 66 .neq 64 65]) (.cond (.t 66) (.seq (.reg [mK 4 (-1)]) .ret) .skip)) (.seq (.reg [mV 67 1,mI 68 .add 67 1,mV 1 68]) (.seq (.seq (.reg [mV 69 0,mV 70 5,mX 71 7 69 70,mF 72 4 71,mF 73 2 72,mL 74 1 73,mV 75 1,mB 76 .neq 74 75]) (.cond (.t 76) (.seq (.reg [mK 4 (-1)]) .ret) .skip)) (.reg [mV 77 1,mI 78 .add 77 1,mV 1 78]))))))))))))))) (.reg [mV 10 5,mI 11 .add 10 1,mV 5 11])))))) (.seq (.reg [mV 79 1,mV 4 79]) .ret))
def kba_r : List RS := [.t 4]
def kba_s0 (t0 t1 t5 : AV) (loc : List (List AV)) (h : AH) : St := ⟨[t0, t1, .any,.any,.any, t5, .any,.any,.any,.any,.any,.any,.any,.any,.any,.any,.any,.any,.any,.any,.any,.any,.any,.any,.any,.any,.any,.any,.any,.any,.any,.any,.any,.any,.any,.any,.any,.any,.any,.any,.any,.any,.any,.any,.any,.any,.any,.any,.any,.any,.any,.any,.any,.any,.any,.any,.any,.any,.any,.any,.any,.any,.any,.any,.any,.any,.any,.any,.any,.any,.any,.any,.any,.any,.any,.any,.any,.any,.any,.any], loc, h⟩
theorem kba_e (hw : TC Tryz.prog Θ Γ kba_c (retQ kba_r K) ⟨[a0, a1, u,u,u,u,u,u,u,u,u,u,u,u,u,u,u,u,u,u,u,u,u,u,u,u,u,u,u,u,u,u,u,u,u,u,u,u,u,u,u,u,u,u,u,u,u,u,u,u,u,u,u,u,u,u,u,u,u,u,u,u,u,u,u,u,u,u,u,u,u,u,u,u,u,u,u,u,u,u], [], h⟩) : T Tryz.prog Γ Fn.kba [a0, a1] h K :=
  TB Tryz.func68 (bodyOf Tryz.f68) hw
def ka3_c : C := .seq (.reg [mK 4 0]) (.seq (.seq (.reg [mK 5 0]) (.block 0 (.loop (.seq (.seq (.reg [mV 6 5,mV 7 0,mN 8 7,mB 9 .lss 6 8]) (.cond (.t 9) .skip (.exit 0))) (.seq (.block 1 (.seq (.seq (.reg [mV 12 0,mV 13 5,mX 14 7 12 13,mF 15 0 14,mL 16 1 15,mV 17 1,mB 18 .neq 16 17]) (.cond (.t 18) (.seq (.reg [mK 4 (-1)]) .ret) .skip)) (.seq (.reg [mV 19 1,mI 20 .add 19 1,mV 1 20]) (.seq (.seq (.reg [mV 21 0,mV 22 5,mX 23 7 21 22,mF 24 1 23,mL 25 1 24,mV 26 1,mI 27 .rem 26 3,mI 28 .eql 27 0,⟨(some 29), none, .bin .neq (.bool) (.t 25) (.t 28)⟩]) (.cond (.t 29) (.seq (.reg [mK 4 (-1)]) .ret) .skip)) (.seq (.reg [mV 30 1,mI 31 .add 30 1,mV 1 31]) (.seq (.reg [mV 32 0,mV 33 5,mX 34 7 32 33,mF 35 2 34,mL 36 1 35,mV 37 1,mC 38 Fn.ka1 [.t 36, .t 37],mV 1 38]) (.seq (.seq (.reg [mV 39 1,mI 40 .lss 39 0]) (.cond (.t 40) (.seq (.reg [mK 4 (-1)]) .ret) .skip)) (.seq (.seq (.reg [mV 41 0,mV 42 5,mX 43 7 41 42,mF 44 3 43,mL 45 1 44,mV 46 1,mB 47 .neq 45 46]) (.cond (.t 47) (.seq (.reg [mK 4 (-1)]) .ret) .skip)) (.seq (.reg [mV 48 1,mI 49 .add 48 1,mV 1 49]) (.seq (.reg [mV 50 0,mV 51 5,mX 52 7 50 51,mF 53 4 52,mL 54 1 53,mV 55 1,mC 56 Fn.ka8 [.t 54, .t 55],mV 1 56]) (.seq (.seq (.reg [mV 57 1,mI 58 .lss 57 0]) (.cond (.t 58) (.seq (.reg [mK 4 (-1)]) .ret) .skip)) (.seq (.seq (.reg [mV 59 0,mV 60 5,mX 61 7 59 60,mF 62 5 61,mL 63 1 62,mV 64 1,mB 65 .neq 63 64]) (.cond (.t 65) (.seq (.reg [mK 4 (-1)]) .ret) .skip)) (.seq (.reg [mV 66 1,mI 67 .add 66 1,mV 1 67]) (.seq (.reg [mV 68 0,mV 69 5,mX 70 7 68 69,mF 71 6 70,mL 72 1 71,mV 73 1,mC 74 Fn.ka8 [.t 72, .t 73],mV 1 74]) (.seq (.reg [mV 75 1,mI 76 .lss 75 0]) (.cond (.t 76) (.seq (.reg [mK 4 (-1)]) .ret) .skip)))))))))))))))) (.reg [mV 10 5,mI 11 .add 10 1,mV 5 11])))))) (.seq (.reg [mV 77 1,mV 4 77]) .ret))
def ka3_r : List RS := [.t 4]
def ka3_s0 (t0 t1 t5 : AV) (loc : List (List AV)) (h : AH) : St := ⟨[t0, t1, .any,.any,.any, t5, .any,.any,.any,.any,.any,.any,.any,.any,.any,.any,.any,.any,.any,.any,.any,.any,.any,.any,.any,.any,.any,.any,.any,.any,.any,.any,.any,.any,.any,.any,.any,.any,.any,.any,.any,.any,.any,.any,.any,.any,.any,.any,.any,.any,.any,.any,.any,.any,.any,.any,.any,.any,.any,.any,.any,.any,.any,.any,.any,.any,.any,.any,.any,.any,.any,.any,.any,.any,.any,.any,.any,.any], loc, h⟩
theorem ka3_e (hw : TC Tryz.prog Θ Γ ka3_c (retQ ka3_r K) ⟨[a0, a1, u,u,u,u,u,u,u,u,u,u,u,u,u,u,u,u,u,u,u,u,u,u,u,u,u,u,u,u,u,u,u,u,u,u,u,u,u,u,u,u,u,u,u,u,u,u,u,u,u,u,u,u,u,u,u,u,u,u,u,u,u,u,u,u,u,u,u,u,u,u,u,u,u,u,u,u], [], h⟩) : T Tryz.prog Γ Fn.ka3 [a0, a1] h K :=
  TB Tryz.func69 (bodyOf Tryz.f69) hw
def ka7_d0_os : List O := [mV 61 0,mV 62 5,mX 63 13 61 62,mF 64 1 63,mF 65 4 64,mL 66 1 65,mV 67 1,mC 68 Fn.kbt [.t 67],mB 69 .neq 66 68]
def ka7_d0_af : List (List Nat) := [[], [], [0, 1], [2], [3], [4], [], [6], [5, 7]]
theorem ka7_d0_q (gl : Gl) (Q : AE → St → Prop) (s : St) : aw Tryz.prog Θ Γ gl (.regD ka7_d0_os ka7_d0_af) Q s = awpT Tryz.prog Γ gl [mV 61 0,mV 62 5,mX 63 13 61 62,mF 64 1 63,mF 65 4 64,mL 66 1 65,mV 67 1,mC 68 Fn.kbt [.t 67],mB 69 .neq 66 68] (Q .normal) 9 (.q 0 (.q 1 (.q 2 (.q 3 (.q 4 (.q 5 (.q 6 (.st 7 [65] (.q 8 (.done)))))))))) s := a_dd rfl (by kernel_rfl) gl Q s
def ka7_c : C := .seq (.reg [mK 4 0]) (.seq (.seq (.reg [mK 5 0]) (.block 0 (.loop (.seq (.seq (.reg [mV 6 5,mV 7 0,mN 8 7,mB 9 .lss 6 8]) (.cond (.t 9) .skip (.exit 0))) (.seq (.block 1 (.seq (.seq (.reg [mV 12 0,mV 13 5,mX 14 13 12 13,mF 15 0 14,mL 16 1 15,mV 17 1,mB 18 .neq 16 17]) (.cond (.t 18) (.seq (.reg [mK 4 (-1)]) .ret) .skip)) (.seq (.reg [mV 19 1,mI 20 .add 19 1,mV 1 20]) (.seq (.seq (.reg [mV 21 0,mV 22 5,mX 23 13 21 22,mF 24 1 23,mF 25 0 24,mL 26 1 25,mV 27 1,mB 28 .neq 26 27]) (.cond (.t 28) (.seq (.reg [mK 4 (-1)]) .ret) .skip)) (.seq (.reg [mV 29 1,mI 30 .add 29 1,mV 1 30]) (.seq (.seq (.reg [mV 31 0,mV 32 5,mX 33 13 31 32,mF 34 1 33,mF 35 1 34,mL 36 1 35,mV 37 1,mB 38 .neq 36 37]) (.cond (.t 38) (.seq (.reg [mK 4 (-1)]) .ret) .skip)) (.seq (.reg [mV 39 1,mI 40 .add 39 1,mV 1 40]) (.seq (.seq (.reg [mV 41 0,mV 42 5,mX 43 13 41 42,mF 44 1 43,mF 45 2 44,mL 46 1 45,mV 47 1,mB 48 .neq 46 47]) (.cond (.t 48) (.seq (.reg [mK 4 (-1)]) .ret) .skip)) (.seq (.reg [mV 49 1,mI 50 .add 49 1,mV 1 50]) (.seq (.seq (.reg [mV 51 0,mV 52 5,mX 53 13 51 52,mF 54 1 53,mF 55 3 54,mL 56 1 55,mV 57 1,mB 58 .neq 56 57]) (.cond (.t 58) (.seq (.reg [mK 4 (-1)]) .ret) .skip)) (.seq (.reg [mV 59 1,mI 60 .add 59 1,mV 1 60]) (.seq (.seq (.regD ka7_d0_os ka7_d0_af) (.cond (.t 69) (.seq (.reg [mK 4 (-1)]) .ret) .skip)) (.seq (.reg [mV 70 1,mI 71 .add 70 1,mV 1 71]) (.seq (.reg [mV 72 0,mV 73 5,mX 74 13 72 73,mF 75 1 74,mF 76 5 75,mL 77 1 76,mV 78 1,mC 79 Fn.kbd [.t 77, .t 78],mV 1 79]) (.seq (.seq (.reg [mV 80 1,mI 81 .lss 80 0]) (.cond (.t 81) (.seq (.reg [mK 4 (-1)]) .ret) .skip)) (.seq (.seq (.reg [mV 82 0,mV 83 5,mX 84 13 82 83,mF 85 1 84,mF 86 6 85,mF 87 0 86,mL 88 1 87,mV 89 1,mB 90 .neq 88 89]) (.cond (.t 90) (.seq (.reg [mK 4 (-1)]) .ret) .skip)) (.seq (.reg [mV 91 1,mI 92 .add 91 1,mV 1 92]) (.seq (.seq (.reg [mV 93 0,mV 94 5,mX 95 13 93 94,mF 96 1 95,mF 97 6 96,mF 98 1 97,mL 99 1 98,mV 100 1,mB 101 .neq 99 100]) (.cond (.t 101) (.seq (.reg [mK 4 (-1)]) .ret) .skip)) (.seq (.reg [mV 102 1,mI 103 .add 102 1,mV 1 103]) (.seq (.seq (.reg [mV 104 0,mV 105 5,mX 106 13 104 105,mF 107 1 106,mF 108 8 107,mL 109 1 108,mV 110 1,mB 111 .neq 109 110]) (.cond (.t 111) (.seq (.reg [mK 4 (-1)]) .ret) .skip)) (.seq (.reg [mV 112 1,mI 113 .add 112 1,mV 1 113]) (.seq (.seq (.reg [mV 114 0,mV 115 5,mX 116 13 114 115,mF 117 1 116,mF 118 9 117,mF 119 0 118,mL 120 1 119,mV 121 1,mB 122 .neq 120 121]) (.cond (.t 122) (.seq (.reg [mK 4 (-1)]) .ret) .skip)) (.seq (.reg [mV 123 1,mI 124 .add 123 1,mV 1 124]) (.seq (.seq (.reg [mV 125 0,mV 126 5,mX 127 13 125 126,mF 128 1 127,mF 129 9 128,mF 130 1 129,mL 131 1 130,mV 132 1,mB 133 .neq 131 132]) (.cond (.t 133) (.seq (.reg [mK 4 (-1)]) .ret) .skip)) (.seq (.reg [mV 134 1,mI 135 .add 134 1,mV 1 135]) (.seq (.seq (.reg [mV 136 0,mV 137 5,mX 138 13 136 137,mF 139 1 138,mF 140 9 139,mF 141 2 140,mL 142 1 141,mV 143 1,mB 144 .neq 142 143]) (.cond (.t 144) (.seq (.reg [mK 4 (-1)]) .ret) .skip)) (.reg [mV 145 1,mI 146 .add 145 1,mV 1 146]))))))))))))))))))))))))))) (.reg [mV 10 5,mI 11 .add 10 1,mV 5 11])))))) (.seq (.reg [mV 147 1,mV 4 147]) .ret))
def ka7_r : List RS := [.t 4]
def ka7_s0 (t0 t1 t5 : AV) (loc : List (List AV)) (h : AH) : St := ⟨[t0, t1, .any,.any,.any, t5, .any,.any,.any,.any,.any,.any,.any,.any,.any,.any,.any,.any,.any,.any,.any,.any,.any,.any,.any,.any,.any,.any,.any,.any,.any,.any,.any,.any,.any,.any,.any,.any,.any,.any,.any,.any,.any,.any,.any,.any,.any,.any,.any,.any,.any,.any,.any,.any,.any,.any,.any,.any,.any,.any,.any,.any,.any,.any,.any,.any,.any,.any,.any,.any,.any,.any,.any,.any,.any,.any,.any,.any,.any,.any,.any,.any,.any,.any,.any,.any,.any,.any,.any,.any,.any,.any,.any,.any,.any,.any,.any,.any,.any,.any,.any,.any,.any,.any,.any,.any,.any,.any,.any,.any,.any,.any,.any,.any,.any,.any,.any,.any,.any,.any,.any,.any,.any,.any,.any,.any,.any,.any,.any,.any,.any,.any,.any,.any,.any,.any,.any,.any,.any,.any,.any,.any,.any,.any,.any,.any,.any,.any], loc, h⟩
theorem ka7_e (hw : TC Tryz.prog Θ Γ ka7_c (retQ ka7_r K) ⟨[a0, a1, u,u,u,u,u,u,u,u,u,u,u,u,u,u,u,u,u,u,u,u,u,u,u,u,u,u,u,u,u,u,u,u,u,u,u,u,u,u,u,u,u,u,u,u,u,u,u,u,u,u,u,u,u,u,u,u,u,u,u,u,u,u,u,u,u,u,u,u,u,u,u,u,u,u,u,u,u,u,u,u,u,u,u,u,u,u,u,u,u,u,u,u,u,u,u,u,u,u,u,u,u,u,u,u,u,u,u,u,u,u,u,u,u,u,u,u,u,u,u,u,u,u,u,u,u,u,u,u,u,u,u,u,u,u,u,u,u,u,u,u,u,u,u,u,u,u], [], h⟩) : T Tryz.prog Γ Fn.ka7 [a0, a1] h K :=
  TB Tryz.func70 (bodyOf Tryz.f70) hw
def kbR_c : C := .seq (.reg [mK 4 0]) (.seq (.reg [mV 6 1,mV 7 0,mN 8 7,mB 9 .sub 6 8,mV 1 9]) (.seq (.seq (.reg [mV 10 1,mI 11 .lss 10 0]) (.cond (.t 11) (.seq (.reg [mK 4 (-1)]) .ret) .skip)) (.seq (.seq (.reg [mK 5 0]) (.block 0 (.loop (.seq (.seq (.reg [mV 12 5,mV 13 0,mN 14 13,mB 15 .lss 12 14]) (.cond (.t 15) .skip (.exit 0))) (.seq (.block 1 (.seq (.reg [mV 18 0,mV 19 5,mX 20 2 18 19,mG 21 2 20,mV 22 1,mC 23 Fn.kbQ [.t 21, .t 22],mV 1 23]) (.seq (.reg [mV 24 1,mI 25 .lss 24 0]) (.cond (.t 25) (.seq (.reg [mK 4 (-1)]) .ret) .skip)))) (.reg [mV 16 5,mI 17 .add 16 1,mV 5 17])))))) (.seq (.reg [mV 26 1,mV 4 26]) .ret))))
def kbR_r : List RS := [.t 4]
def kbR_s0 (t0 t1 t5 : AV) (loc : List (List AV)) (h : AH) : St := ⟨[t0, t1, .any,.any,.any, t5, .any,.any,.any,.any,.any,.any,.any,.any,.any,.any,.any,.any,.any,.any,.any,.any,.any,.any,.any,.any,.any], loc, h⟩
theorem kbR_e (hw : TC Tryz.prog Θ Γ kbR_c (retQ kbR_r K) ⟨[a0, a1, u,u,u,u,u,u,u,u,u,u,u,u,u,u,u,u,u,u,u,u,u,u,u,u,u], [], h⟩) : T Tryz.prog Γ Fn.kbR [a0, a1] h K :=
  TB Tryz.func75 (bodyOf Tryz.f75) hw
def kbW_c : C := .seq (.reg [mK 4 0]) (.seq (.reg [mV 6 1,mV 7 0,mN 8 7,mB 9 .sub 6 8,mV 1 9]) (.seq (.seq (.reg [mV 10 1,mI 11 .lss 10 0]) (.cond (.t 11) (.seq (.reg [mK 4 (-1)]) .ret) .skip)) (.seq (.seq (.reg [mK 5 0]) (.block 0 (.loop (.seq (.seq (.reg [mV 12 5,mV 13 0,mN 14 13,mB 15 .lss 12 14]) (.cond (.t 15) .skip (.exit 0))) (.seq (.block 1 (.seq (.reg [mV 18 0,mV 19 5,mX 20 5 18 19,mG 21 5 20,mV 22 1,mC 23 Fn.kbV [.t 21, .t 22],mV 1 23]) (.seq (.reg [mV 24 1,mI 25 .lss 24 0]) (.cond (.t 25) (.seq (.reg [mK 4 (-1)]) .ret) .skip)))) (.reg [mV 16 5,mI 17 .add 16 1,mV 5 17])))))) (.seq (.reg [mV 26 1,mV 4 26]) .ret))))
def kbW_r : List RS := [.t 4]
def kbW_s0 (t0 t1 t5 : AV) (loc : List (List AV)) (h : AH) : St := ⟨[t0, t1, .any,.any,.any, t5, .any,.any,.any,.any,.any,.any,.any,.any,.any,.any,.any,.any,.any,.any,.any,.any,.any,.any,.any,.any,.any], loc, h⟩
theorem kbW_e (hw : TC Tryz.prog Θ Γ kbW_c (retQ kbW_r K) ⟨[a0, a1, u,u,u,u,u,u,u,u,u,u,u,u,u,u,u,u,u,u,u,u,u,u,u,u,u], [], h⟩) : T Tryz.prog Γ Fn.kbW [a0, a1] h K :=
  TB Tryz.func76 (bodyOf Tryz.f76) hw
def kbA_c : C := .seq (.reg [mK 4 0]) (.seq (.reg [mV 6 1,mV 7 0,mN 8 7,mB 9 .sub 6 8,mV 1 9]) (.seq (.seq (.reg [mV 10 1,mI 11 .lss 10 0]) (.cond (.t 11) (.seq (.reg [mK 4 (-1)]) .ret) .skip)) (.seq (.seq (.reg [mK 5 0]) (.block 0 (.loop (.seq (.seq (.reg [mV 12 5,mV 13 0,mN 14 13,mB 15 .lss 12 14]) (.cond (.t 15) .skip (.exit 0))) (.seq (.block 1 (.seq (.reg [mV 18 0,mV 19 5,mX 20 3 18 19,mG 21 3 20,mV 22 1,mC 23 Fn.kbz [.t 21, .t 22],mV 1 23]) (.seq (.reg [mV 24 1,mI 25 .lss 24 0]) (.cond (.t 25) (.seq (.reg [mK 4 (-1)]) .ret) .skip)))) (.reg [mV 16 5,mI 17 .add 16 1,mV 5 17])))))) (.seq (.reg [mV 26 1,mV 4 26]) .ret))))
def kbA_r : List RS := [.t 4]
def kbA_s0 (t0 t1 t5 : AV) (loc : List (List AV)) (h : AH) : St := ⟨[t0, t1, .any,.any,.any, t5, .any,.any,.any,.any,.any,.any,.any,.any,.any,.any,.any,.any,.any,.any,.any,.any,.any,.any,.any,.any,.any], loc, h⟩
theorem kbA_e (hw : TC Tryz.prog Θ Γ kbA_c (retQ kbA_r K) ⟨[a0, a1, u,u,u,u,u,u,u,u,u,u,u,u,u,u,u,u,u,u,u,u,u,u,u,u,u], [], h⟩) : T Tryz.prog Γ Fn.kbA [a0, a1] h K :=
  TB Tryz.func77 (bodyOf Tryz.f77) hw
def kbM_c : C := .seq (.reg [mK 4 0]) (.seq (.reg [mV 5 1,mV 6 0,mN 7 6,mB 8 .sub 5 7,mV 1 8]) (.seq (.seq (.reg [mV 9 1,mI 10 .lss 9 0]) (.cond (.t 10) (.seq (.reg [mK 4 (-1)]) .ret) .skip)) (.seq (.reg [mV 11 1,mV 4 11]) .ret)))
def kbM_r : List RS := [.t 4]
theorem kbM_e (hw : TC Tryz.prog Θ Γ kbM_c (retQ kbM_r K) ⟨[a0, a1, u,u,u,u,u,u,u,u,u,u], [], h⟩) : T Tryz.prog Γ Fn.kbM [a0, a1] h K :=
  TB Tryz.func78 (bodyOf Tryz.f78) hw
def kbX_c : C := .seq (.reg [mK 4 0]) (.seq (.reg [mV 5 1,mV 6 0,mN 7 6,mB 8 .sub 5 7,mV 1 8]) (.seq (.seq (.reg [mV 9 1,mI 10 .lss 9 0]) (.cond (.t 10) (.seq (.reg [mK 4 (-1)]) .ret) .skip)) (.seq (.reg [mV 11 1,mV 4 11]) .ret)))
def kbX_r : List RS := [.t 4]
theorem kbX_e (hw : TC Tryz.prog Θ Γ kbX_c (retQ kbX_r K) ⟨[a0, a1, u,u,u,u,u,u,u,u,u,u], [], h⟩) : T Tryz.prog Γ Fn.kbX [a0, a1] h K :=
  TB Tryz.func79 (bodyOf Tryz.f79) hw
def kcN_d0_os : List O := [mF 5 0 1,mL 6 1 5,mC 7 Fn.kcP [.t 6],mF 8 2 1,mL 9 1 8,mC 10 Fn.kcK [.t 9],⟨(some 11), none, .bsl 6 0 [.int .i64 0,.int .i64 0,.int .i64 0,.int .i64 0,.int .i64 0,.int .i64 0] []⟩,mF 12 3 1,mL 13 1 12,⟨(some 14), none, .app 6 48 [.int .i64 0,.int .i64 0,.int .i64 0,.int .i64 0,.int .i64 0,.int .i64 0] false (.t 11) (.t 13)⟩,mF 15 4 1,mL 16 1 15,⟨(some 17), none, .build [.nils, .nils, .nils, .nils, .int .i64 0] [(0, 1, .t 7), (2, 1, .t 10), (3, 1, .t 14), (4, 1, .t 16)]⟩,⟨(some 3), none, .alloc [.nils, .nils, .nils, .nils, .int .i64 0]⟩,mS 5 3 17]
def kcN_d0_af : List (List Nat) := [[], [0], [1], [], [3], [4, 2], [], [], [7], [6, 8, 5], [], [10], [2, 5, 9, 11], [], [13, 12, 9, 0, 1, 2, 3, 4, 5, 6, 7, 8, 9, 10, 11, 12, 13]]
theorem kcN_d0_q (gl : Gl) (Q : AE → St → Prop) (s : St) : aw Tryz.prog Θ Γ gl (.regD kcN_d0_os kcN_d0_af) Q s = awpT Tryz.prog Γ gl [mF 5 0 1,mL 6 1 5,mC 7 Fn.kcP [.t 6],mF 8 2 1,mL 9 1 8,mC 10 Fn.kcK [.t 9],⟨(some 11), none, .bsl 6 0 [.int .i64 0,.int .i64 0,.int .i64 0,.int .i64 0,.int .i64 0,.int .i64 0] []⟩,mF 12 3 1,mL 13 1 12,⟨(some 14), none, .app 6 48 [.int .i64 0,.int .i64 0,.int .i64 0,.int .i64 0,.int .i64 0,.int .i64 0] false (.t 11) (.t 13)⟩,mF 15 4 1,mL 16 1 15,⟨(some 17), none, .build [.nils, .nils, .nils, .nils, .int .i64 0] [(0, 1, .t 7), (2, 1, .t 10), (3, 1, .t 14), (4, 1, .t 16)]⟩,⟨(some 3), none, .alloc [.nils, .nils, .nils, .nils, .int .i64 0]⟩,mS 5 3 17] (Q .normal) 15 (.q 0 (.q 1 (.q 3 (.q 4 (.q 7 (.q 8 (.q 10 (.q 11 (.all [(2, .all [(5, .all [(6, .mix [(9, some [15], .q 12 (.all [(13, .q 14 (.done))])), (13, none, .mix [(9, some [15], .q 12 (.q 14 (.done)))])]), (13, .all [(6, .mix [(9, some [15], .q 12 (.q 14 (.done)))])])]), (6, .all [(5, .mix [(9, some [15], .q 12 (.all [(13, .q 14 (.done))])), (13, none, .mix [(9, some [15], .q 12 (.q 14 (.done)))])]), (13, .all [(5, .mix [(9, some [15], .q 12 (.q 14 (.done)))])])]), (13, .all [(5, .all [(6, .mix [(9, some [15], .q 12 (.q 14 (.done)))])]), (6, .all [(5, .mix [(9, some [15], .q 12 (.q 14 (.done)))])])])]), (6, .all [(2, .all [(5, .mix [(9, some [15], .q 12 (.all [(13, .q 14 (.done))])), (13, none, .mix [(9, some [15], .q 12 (.q 14 (.done)))])]), (13, .all [(5, .mix [(9, some [15], .q 12 (.q 14 (.done)))])])]), (13, .all [(2, .all [(5, .mix [(9, some [15], .q 12 (.q 14 (.done)))])])])]), (13, .all [(2, .all [(5, .all [(6, .mix [(9, some [15], .q 12 (.q 14 (.done)))])]), (6, .all [(5, .mix [(9, some [15], .q 12 (.q 14 (.done)))])])]), (6, .all [(2, .all [(5, .mix [(9, some [15], .q 12 (.q 14 (.done)))])])])])]))))))))) s := a_dd rfl (by kernel_rfl) gl Q s
def kcN_d1_os : List O := [mF 25 1 3,mL 26 1 25,mF 27 1 1,mL 28 1 27,mV 29 4,mX 30 5 28 29,mG 31 5 30,mC 32 Fn.kcJ [.t 31],⟨(some 33), none, .bsl 5 1 [.int .i64 0, .nils, .nils, .nils, .nils] [(0, .t 32)]⟩,⟨(some 34), none, .app 5 104 [.int .i64 0, .nils, .nils, .nils, .nils] false (.t 26) (.t 33)⟩,mF 35 1 3,mS 1 35 34]
def kcN_d1_af : List (List Nat) := [[], [0], [], [2], [], [3, 4], [5], [6], [7], [1, 8, 7], [0, 1, 2, 3, 4, 5, 6, 7, 8, 9], [10, 9, 9, 0, 1, 2, 3, 4, 5, 6, 7, 8, 9]]
theorem kcN_d1_q (gl : Gl) (Q : AE → St → Prop) (s : St) : aw Tryz.prog Θ Γ gl (.regD kcN_d1_os kcN_d1_af) Q s = awpT Tryz.prog Γ gl [mF 25 1 3,mL 26 1 25,mF 27 1 1,mL 28 1 27,mV 29 4,mX 30 5 28 29,mG 31 5 30,mC 32 Fn.kcJ [.t 31],⟨(some 33), none, .bsl 5 1 [.int .i64 0, .nils, .nils, .nils, .nils] [(0, .t 32)]⟩,⟨(some 34), none, .app 5 104 [.int .i64 0, .nils, .nils, .nils, .nils] false (.t 26) (.t 33)⟩,mF 35 1 3,mS 1 35 34] (Q .normal) 12 (.q 0 (.q 1 (.q 2 (.q 3 (.q 4 (.q 5 (.q 6 (.st 7 [25] (.all [(8, .q 9 (.q 10 (.q 11 (.done))))]))))))))) s := a_dd rfl (by kernel_rfl) gl Q s
def kcN_c : C := .seq (.reg [mA 1 0,⟨(some 2), none, .alloc [.nils, .nils, .nils, .nils, .int .i64 0]⟩]) (.seq (.regD kcN_d0_os kcN_d0_af) (.seq (.seq (.reg [mK 4 0]) (.block 0 (.loop (.seq (.seq (.reg [mV 18 4,mF 19 1 1,mL 20 1 19,mN 21 20,mB 22 .lss 18 21]) (.cond (.t 22) .skip (.exit 0))) (.seq (.block 1 (.regD kcN_d1_os kcN_d1_af)) (.reg [mV 23 4,mI 24 .add 23 1,mV 4 24])))))) (.seq (.reg [mG 36 5 3,mS 5 2 36]) .ret)))
def kcN_r : List RS := [.cell 2 5 true]
def kcN_s0 (t1 t2 t3 t4 : AV) (loc : List (List AV)) (h : AH) : St := ⟨[.any, t1, t2, t3, t4, .any,.any,.any,.any,.any,.any,.any,.any,.any,.any,.any,.any,.any,.any,.any,.any,.any,.any,.any,.any,.any,.any,.any,.any,.any,.any,.any,.any,.any,.any,.any,.any], loc, h⟩
theorem kcN_e (hw : TC Tryz.prog Θ Γ kcN_c (retQ kcN_r K) ⟨[a0, u,u,u,u,u,u,u,u,u,u,u,u,u,u,u,u,u,u,u,u,u,u,u,u,u,u,u,u,u,u,u,u,u,u,u,u], [], h⟩) : T Tryz.prog Γ Fn.kcN [a0] h K :=
  TB Tryz.func80 (bodyOf Tryz.f80) hw
def kcG_d0_os : List O := [mV 30 10,mV 31 11,mV 32 10,mV 33 11,mX 34 3 32 33,mF 35 2 34,mL 36 1 35,mG 37 12 7,mC 38 Fn.kcI [.t 37],⟨(some 39), none, .bsl 12 1 [.int .i64 0,.int .i64 0,.int .i64 0,.int .i64 0, .str ⟨#[]⟩, .nils, .int .i64 0,.int .i64 0,.int .i64 0,.int .i64 0,.int .i64 0,.int .i64 0] [(0, .t 38)]⟩,⟨(some 40), none, .app 12 120 [.int .i64 0,.int .i64 0,.int .i64 0,.int .i64 0, .str ⟨#[]⟩, .nils, .int .i64 0,.int .i64 0,.int .i64 0,.int .i64 0,.int .i64 0,.int .i64 0] false (.t 36) (.t 39)⟩,mX 41 3 30 31,mF 42 2 41,mS 1 42 40]
def kcG_d0_af : List (List Nat) := [[], [], [], [], [2, 3], [4], [5], [], [7], [8], [6, 9, 8], [0, 1, 0, 1, 2, 3, 4, 5, 6, 7, 8, 9, 10], [11, 0, 1, 2, 3, 4, 5, 6, 7, 8, 9, 10], [12, 10, 10, 0, 1, 2, 3, 4, 5, 6, 7, 8, 9, 10]]
theorem kcG_d0_q (gl : Gl) (Q : AE → St → Prop) (s : St) : aw Tryz.prog Θ Γ gl (.regD kcG_d0_os kcG_d0_af) Q s = awpT Tryz.prog Γ gl [mV 30 10,mV 31 11,mV 32 10,mV 33 11,mX 34 3 32 33,mF 35 2 34,mL 36 1 35,mG 37 12 7,mC 38 Fn.kcI [.t 37],⟨(some 39), none, .bsl 12 1 [.int .i64 0,.int .i64 0,.int .i64 0,.int .i64 0, .str ⟨#[]⟩, .nils, .int .i64 0,.int .i64 0,.int .i64 0,.int .i64 0,.int .i64 0,.int .i64 0] [(0, .t 38)]⟩,⟨(some 40), none, .app 12 120 [.int .i64 0,.int .i64 0,.int .i64 0,.int .i64 0, .str ⟨#[]⟩, .nils, .int .i64 0,.int .i64 0,.int .i64 0,.int .i64 0,.int .i64 0,.int .i64 0] false (.t 36) (.t 39)⟩,mX 41 3 30 31,mF 42 2 41,mS 1 42 40] (Q .normal) 14 (.q 0 (.q 1 (.q 2 (.q 3 (.q 4 (.q 5 (.q 6 (.q 7 (.st 8 [35] (.all [(9, .q 10 (.q 11 (.q 12 (.q 13 (.done)))))])))))))))) s := a_dd rfl (by kernel_rfl) gl Q s
def kcG_c : C := .seq (.reg [mA 7 3,⟨(some 8), none, .mov (.c (.nils))⟩,mT 9 false]) (.seq (.reg [mV 12 0,mC 13 Fn.kcK [.t 12],mV 10 13]) (.seq (.reg [mV 14 0,mV 15 1,mV 16 2,mC 17 Fn.kcM [.t 14, .t 15, .t 16],mV 11 17]) (.seq (.seq (.reg [mV 18 11,mI 19 .lss 18 0,mV 20 19,⟨(some 21), (some (2, false)), .mov (.t 0)⟩,⟨(some 22), (some (2, false)), .mov (.t 11)⟩,⟨(some 23), (some (2, false)), .idxs 3 (.t 21) (.t 22)⟩,⟨(some 24), (some (2, false)), .fld 2 (.t 23)⟩,⟨(some 25), (some (2, false)), .load 1 false (.t 24)⟩,⟨(some 26), (some (2, false)), .len false (.t 25)⟩,⟨(some 27), (some (2, false)), .bin .geq (.num) (.t 26) (.c (.int .i64 200))⟩,⟨(some 28), none, .pick (.t 20) (.c (.bool true)) (.t 27)⟩]) (.cond (.t 28) (.seq (.reg [mV 29 10,mV 8 29,mT 9 false]) .ret) .skip)) (.seq (.regD kcG_d0_os kcG_d0_af) (.seq (.reg [mV 43 10,mV 8 43,mT 9 true]) .ret)))))
def kcG_r : List RS := [.t 8, .t 9]
theorem kcG_e (hw : TC Tryz.prog Θ Γ kcG_c (retQ kcG_r K) ⟨[a0, a1, a2, a3, u,u,u,u,u,u,u,u,u,u,u,u,u,u,u,u,u,u,u,u,u,u,u,u,u,u,u,u,u,u,u,u,u,u,u,u,u,u,u,u], [], h⟩) : T Tryz.prog Γ Fn.kcG [a0, a1, a2, a3] h K :=
  TB Tryz.func81 (bodyOf Tryz.f81) hw
def kcm_c : C := .seq (.reg [⟨(some 2), none, .mov (.c (.nils))⟩]) (.seq (.reg [mV 5 0,mN 6 5,⟨(some 7), none, .mks 2 40 [.str ⟨#[]⟩, .nils] (.t 6) (.t 6)⟩,mV 3 7]) (.seq (.seq (.reg [mK 4 0]) (.block 0 (.loop (.seq (.seq (.reg [mV 8 4,mV 9 0,mN 10 9,mB 11 .lss 8 10]) (.cond (.t 11) .skip (.exit 0))) (.seq (.block 1 (.reg [mV 14 3,mV 15 4,mV 16 0,mV 17 4,mX 18 2 16 17,mG 19 2 18,mC 20 Fn.kcl [.t 19],mX 21 2 14 15,mS 2 21 20])) (.reg [mV 12 4,mI 13 .add 12 1,mV 4 13])))))) (.seq (.reg [mV 22 3,mV 2 22]) .ret)))
def kcm_r : List RS := [.t 2]
def kcm_s0 (t0 t3 t4 : AV) (loc : List (List AV)) (h : AH) : St := ⟨[t0, .any,.any, t3, t4, .any,.any,.any,.any,.any,.any,.any,.any,.any,.any,.any,.any,.any,.any,.any,.any,.any,.any], loc, h⟩
theorem kcm_e (hw : TC Tryz.prog Θ Γ kcm_c (retQ kcm_r K) ⟨[a0, u,u,u,u,u,u,u,u,u,u,u,u,u,u,u,u,u,u,u,u,u,u], [], h⟩) : T Tryz.prog Γ Fn.kcm [a0] h K :=
  TB Tryz.func82 (bodyOf Tryz.f82) hw
def kct_c : C := .seq (.reg [⟨(some 2), none, .mov (.c (.nils))⟩]) (.seq (.reg [mV 5 0,mN 6 5,⟨(some 7), none, .mks 5 104 [.int .i64 0, .nils, .nils, .nils, .nils] (.t 6) (.t 6)⟩,mV 3 7]) (.seq (.seq (.reg [mK 4 0]) (.block 0 (.loop (.seq (.seq (.reg [mV 8 4,mV 9 0,mN 10 9,mB 11 .lss 8 10]) (.cond (.t 11) .skip (.exit 0))) (.seq (.block 1 (.reg [mV 14 3,mV 15 4,mV 16 0,mV 17 4,mX 18 5 16 17,mG 19 5 18,mC 20 Fn.kcs [.t 19],mX 21 5 14 15,mS 5 21 20])) (.reg [mV 12 4,mI 13 .add 12 1,mV 4 13])))))) (.seq (.reg [mV 22 3,mV 2 22]) .ret)))
def kct_r : List RS := [.t 2]
def kct_s0 (t0 t3 t4 : AV) (loc : List (List AV)) (h : AH) : St := ⟨[t0, .any,.any, t3, t4, .any,.any,.any,.any,.any,.any,.any,.any,.any,.any,.any,.any,.any,.any,.any,.any,.any,.any], loc, h⟩
theorem kct_e (hw : TC Tryz.prog Θ Γ kct_c (retQ kct_r K) ⟨[a0, u,u,u,u,u,u,u,u,u,u,u,u,u,u,u,u,u,u,u,u,u,u], [], h⟩) : T Tryz.prog Γ Fn.kct [a0] h K :=
  TB Tryz.func83 (bodyOf Tryz.f83) hw
def kb2_c : C := .seq (.reg [⟨(some 2), none, .mov (.c (.nils))⟩]) (.seq (.reg [mV 5 0,mN 6 5,⟨(some 7), none, .mks 3 40 [.int .i64 0,.int .i64 0, .nils] (.t 6) (.t 6)⟩,mV 3 7]) (.seq (.seq (.reg [mK 4 0]) (.block 0 (.loop (.seq (.seq (.reg [mV 8 4,mV 9 0,mN 10 9,mB 11 .lss 8 10]) (.cond (.t 11) .skip (.exit 0))) (.seq (.block 1 (.reg [mV 14 3,mV 15 4,mV 16 0,mV 17 4,mX 18 3 16 17,mG 19 3 18,mC 20 Fn.kb1 [.t 19],mX 21 3 14 15,mS 3 21 20])) (.reg [mV 12 4,mI 13 .add 12 1,mV 4 13])))))) (.seq (.reg [mV 22 3,mV 2 22]) .ret)))
def kb2_r : List RS := [.t 2]
def kb2_s0 (t0 t3 t4 : AV) (loc : List (List AV)) (h : AH) : St := ⟨[t0, .any,.any, t3, t4, .any,.any,.any,.any,.any,.any,.any,.any,.any,.any,.any,.any,.any,.any,.any,.any,.any,.any], loc, h⟩
theorem kb2_e (hw : TC Tryz.prog Θ Γ kb2_c (retQ kb2_r K) ⟨[a0, u,u,u,u,u,u,u,u,u,u,u,u,u,u,u,u,u,u,u,u,u,u], [], h⟩) : T Tryz.prog Γ Fn.kb2 [a0] h K :=
  TB Tryz.func84 (bodyOf Tryz.f84) hw
def kcg_c : C := .seq (.reg [⟨(some 2), none, .mov (.c (.nils))⟩]) (.seq (.reg [mV 5 0,mN 6 5,⟨(some 7), none, .mks 6 48 [.int .i64 0,.int .i64 0,.int .i64 0,.int .i64 0,.int .i64 0,.int .i64 0] (.t 6) (.t 6)⟩,mV 3 7]) (.seq (.seq (.reg [mK 4 0]) (.block 0 (.loop (.seq (.seq (.reg [mV 8 4,mV 9 0,mN 10 9,mB 11 .lss 8 10]) (.cond (.t 11) .skip (.exit 0))) (.seq (.block 1 (.reg [mV 14 3,mV 15 4,mV 16 0,mV 17 4,mX 18 6 16 17,mG 19 6 18,mC 20 Fn.kcf [.t 19],mX 21 6 14 15,mS 6 21 20])) (.reg [mV 12 4,mI 13 .add 12 1,mV 4 13])))))) (.seq (.reg [mV 22 3,mV 2 22]) .ret)))
def kcg_r : List RS := [.t 2]
def kcg_s0 (t0 t3 t4 : AV) (loc : List (List AV)) (h : AH) : St := ⟨[t0, .any,.any, t3, t4, .any,.any,.any,.any,.any,.any,.any,.any,.any,.any,.any,.any,.any,.any,.any,.any,.any,.any], loc, h⟩
theorem kcg_e (hw : TC Tryz.prog Θ Γ kcg_c (retQ kcg_r K) ⟨[a0, u,u,u,u,u,u,u,u,u,u,u,u,u,u,u,u,u,u,u,u,u,u], [], h⟩) : T Tryz.prog Γ Fn.kcg [a0] h K :=
  TB Tryz.func85 (bodyOf Tryz.f85) hw
def kcv_c : C := .seq (.reg [⟨(some 2), none, .mov (.c (.nils))⟩]) (.seq (.reg [mV 5 0,mN 6 5,⟨(some 7), none, .mks 2 16 [.int .i64 0,.int .i64 0] (.t 6) (.t 6)⟩,mV 3 7]) (.seq (.seq (.reg [mK 4 0]) (.block 0 (.loop (.seq (.seq (.reg [mV 8 4,mV 9 0,mN 10 9,mB 11 .lss 8 10]) (.cond (.t 11) .skip (.exit 0))) (.seq (.block 1 (.reg [mV 14 3,mV 15 4,mV 16 0,mV 17 4,mX 18 2 16 17,mG 19 2 18,mC 20 Fn.kcu [.t 19],mX 21 2 14 15,mS 2 21 20])) (.reg [mV 12 4,mI 13 .add 12 1,mV 4 13])))))) (.seq (.reg [mV 22 3,mV 2 22]) .ret)))
def kcv_r : List RS := [.t 2]
def kcv_s0 (t0 t3 t4 : AV) (loc : List (List AV)) (h : AH) : St := ⟨[t0, .any,.any, t3, t4, .any,.any,.any,.any,.any,.any,.any,.any,.any,.any,.any,.any,.any,.any,.any,.any,.any,.any], loc, h⟩
theorem kcv_e (hw : TC Tryz.prog Θ Γ kcv_c (retQ kcv_r K) ⟨[a0, u,u,u,u,u,u,u,u,u,u,u,u,u,u,u,u,u,u,u,u,u,u], [], h⟩) : T Tryz.prog Γ Fn.kcv [a0] h K :=
  TB Tryz.func86 (bodyOf Tryz.f86) hw
def kcu_c : C := .seq (.reg [mA 1 0,⟨(some 2), none, .alloc [.int .i64 0,.int .i64 0]⟩]) (.seq (.reg [⟨(some 3), none, .alloc [.int .i64 0,.int .i64 0]⟩]) (.seq (.reg [mF 4 0 1,mL 5 1 4,mF 6 0 3,mS 1 6 5]) (.seq (.reg [mF 7 1 1,mL 8 1 7,mF 9 1 3,mS 1 9 8]) (.seq (.reg [mG 10 2 3,mS 2 2 10]) .ret))))
def kcu_r : List RS := [.cell 2 2 true]
theorem kcu_e (hw : TC Tryz.prog Θ Γ kcu_c (retQ kcu_r K) ⟨[a0, u,u,u,u,u,u,u,u,u,u], [], h⟩) : T Tryz.prog Γ Fn.kcu [a0] h K :=
  TB Tryz.func87 (bodyOf Tryz.f87) hw
def kcp_c : C := .seq (.reg [mA 1 0,⟨(some 2), none, .alloc [.int .i64 0,.int .i64 0,.int .i64 0]⟩]) (.seq (.reg [⟨(some 3), none, .alloc [.int .i64 0,.int .i64 0,.int .i64 0]⟩]) (.seq (.reg [mF 4 0 1,mL 5 1 4,mF 6 0 3,mS 1 6 5]) (.seq (.reg [mF 7 1 1,mL 8 1 7,mF 9 1 3,mS 1 9 8]) (.seq (.reg [mF 10 2 1,mL 11 1 10,mF 12 2 3,mS 1 12 11]) (.seq (.reg [mG 13 3 3,mS 3 2 13]) .ret)))))
def kcp_r : List RS := [.cell 2 3 true]
theorem kcp_e (hw : TC Tryz.prog Θ Γ kcp_c (retQ kcp_r K) ⟨[a0, u,u,u,u,u,u,u,u,u,u,u,u,u], [], h⟩) : T Tryz.prog Γ Fn.kcp [a0] h K :=
  TB Tryz.func88 (bodyOf Tryz.f88) hw
def kai_d0_os : List O := [mF 6 0 1,mL 7 1 6,mC 8 Fn.kam [.t 7],mF 9 2 1,mL 10 1 9,mC 11 Fn.kal [.t 10],mF 12 3 1,mL 13 1 12,mC 14 Fn.kcA [.t 13],mF 15 4 1,mL 16 1 15,⟨(some 17), none, .build [.nils, .nils, .nils, .nils, .int .i64 0] [(0, 1, .t 8), (1, 1, .c (.nils)), (2, 1, .t 11), (3, 1, .t 14), (4, 1, .t 16)]⟩,⟨(some 3), none, .alloc [.nils, .nils, .nils, .nils, .int .i64 0]⟩,mS 5 3 17]
def kai_d0_af : List (List Nat) := [[], [0], [1], [], [3], [4, 2], [], [6], [7, 5], [], [9], [2, 5, 8, 10], [], [12, 11, 8, 0, 1, 2, 3, 4, 5, 6, 7, 8, 9, 10, 11, 12]]
theorem kai_d0_q (gl : Gl) (Q : AE → St → Prop) (s : St) : aw Tryz.prog Θ Γ gl (.regD kai_d0_os kai_d0_af) Q s = awpT Tryz.prog Γ gl [mF 6 0 1,mL 7 1 6,mC 8 Fn.kam [.t 7],mF 9 2 1,mL 10 1 9,mC 11 Fn.kal [.t 10],mF 12 3 1,mL 13 1 12,mC 14 Fn.kcA [.t 13],mF 15 4 1,mL 16 1 15,⟨(some 17), none, .build [.nils, .nils, .nils, .nils, .int .i64 0] [(0, 1, .t 8), (1, 1, .c (.nils)), (2, 1, .t 11), (3, 1, .t 14), (4, 1, .t 16)]⟩,⟨(some 3), none, .alloc [.nils, .nils, .nils, .nils, .int .i64 0]⟩,mS 5 3 17] (Q .normal) 14 (.q 0 (.q 1 (.q 3 (.q 4 (.q 6 (.q 7 (.q 9 (.q 10 (.all [(2, .all [(5, .all [(8, .q 11 (.all [(12, .q 13 (.done))])), (12, .all [(8, .q 11 (.q 13 (.done)))])]), (12, .all [(5, .all [(8, .q 11 (.q 13 (.done)))])])]), (12, .all [(2, .all [(5, .all [(8, .q 11 (.q 13 (.done)))])])])]))))))))) s := a_dd rfl (by kernel_rfl) gl Q s
def kai_d1_os : List O := [mF 25 1 3,mL 26 1 25,mG 27 5 5,mC 28 Fn.kah [.t 27],⟨(some 29), none, .bsl 5 1 [.int .i64 0, .nils, .nils, .nils, .nils] [(0, .t 28)]⟩,⟨(some 30), none, .app 5 104 [.int .i64 0, .nils, .nils, .nils, .nils] false (.t 26) (.t 29)⟩,mF 31 1 3,mS 1 31 30]
def kai_d1_af : List (List Nat) := [[], [0], [], [2], [3], [1, 4, 3], [0, 1, 2, 3, 4, 5], [6, 5, 5, 0, 1, 2, 3, 4, 5]]
theorem kai_d1_q (gl : Gl) (Q : AE → St → Prop) (s : St) : aw Tryz.prog Θ Γ gl (.regD kai_d1_os kai_d1_af) Q s = awpT Tryz.prog Γ gl [mF 25 1 3,mL 26 1 25,mG 27 5 5,mC 28 Fn.kah [.t 27],⟨(some 29), none, .bsl 5 1 [.int .i64 0, .nils, .nils, .nils, .nils] [(0, .t 28)]⟩,⟨(some 30), none, .app 5 104 [.int .i64 0, .nils, .nils, .nils, .nils] false (.t 26) (.t 29)⟩,mF 31 1 3,mS 1 31 30] (Q .normal) 8 (.q 0 (.q 1 (.q 2 (.st 3 [25] (.all [(4, .q 5 (.q 6 (.q 7 (.done))))]))))) s := a_dd rfl (by kernel_rfl) gl Q s
def kai_c : C := .seq (.reg [mA 1 0,⟨(some 2), none, .alloc [.nils, .nils, .nils, .nils, .int .i64 0]⟩]) (.seq (.regD kai_d0_os kai_d0_af) (.seq (.seq (.reg [mF 18 1 1,mL 19 1 18,mN 20 19,mK 21 0]) (.block 0 (.loop (.seq (.reg [mB 22 .lss 21 20]) (.seq (.cond (.t 22) .skip (.exit 0)) (.seq (.block 1 (.seq (.reg [mX 23 5 19 21,mG 24 5 23,⟨(some 5), none, .alloc [.int .i64 0, .nils, .nils, .nils, .nils]⟩,mS 5 5 24]) (.regD kai_d1_os kai_d1_af))) (.reg [mI 32 .add 21 1,mV 21 32]))))))) (.seq (.reg [mG 33 5 3,mS 5 2 33]) .ret)))
def kai_r : List RS := [.cell 2 5 true]
def kai_s0 (t2 t3 t19 t20 t21 : AV) (loc : List (List AV)) (h : AH) : St := ⟨[.any,.any, t2, t3, .any,.any,.any,.any,.any,.any,.any,.any,.any,.any,.any,.any,.any,.any,.any, t19, t20, t21, .any,.any,.any,.any,.any,.any,.any,.any,.any,.any,.any,.any], loc, h⟩
theorem kai_e (hw : TC Tryz.prog Θ Γ kai_c (retQ kai_r K) ⟨[a0, u,u,u,u,u,u,u,u,u,u,u,u,u,u,u,u,u,u,u,u,u,u,u,u,u,u,u,u,u,u,u,u,u], [], h⟩) : T Tryz.prog Γ Fn.kai [a0] h K :=
  TB Tryz.func89 (bodyOf Tryz.f89) hw
def kao_d0_os : List O := [mV 25 0,mV 26 9,mV 27 0,mV 28 9,mX 29 3 27 28,mF 30 2 29,mL 31 1 30,mG 32 12 7,⟨(some 33), none, .bsl 12 1 [.int .i64 0,.int .i64 0,.int .i64 0,.int .i64 0, .str ⟨#[]⟩, .nils, .int .i64 0,.int .i64 0,.int .i64 0,.int .i64 0,.int .i64 0,.int .i64 0] [(0, .t 32)]⟩,⟨(some 34), none, .app 12 120 [.int .i64 0,.int .i64 0,.int .i64 0,.int .i64 0, .str ⟨#[]⟩, .nils, .int .i64 0,.int .i64 0,.int .i64 0,.int .i64 0,.int .i64 0,.int .i64 0] false (.t 31) (.t 33)⟩,mX 35 3 25 26,mF 36 2 35,mS 1 36 34]
def kao_d0_af : List (List Nat) := [[], [], [], [], [2, 3], [4], [5], [], [7], [6, 8], [0, 1, 0, 1, 2, 3, 4, 5, 6, 7, 8, 9], [10, 0, 1, 2, 3, 4, 5, 6, 7, 8, 9], [11, 9, 9, 0, 1, 2, 3, 4, 5, 6, 7, 8, 9]]
theorem kao_d0_q (gl : Gl) (Q : AE → St → Prop) (s : St) : aw Tryz.prog Θ Γ gl (.regD kao_d0_os kao_d0_af) Q s = awpT Tryz.prog Γ gl [mV 25 0,mV 26 9,mV 27 0,mV 28 9,mX 29 3 27 28,mF 30 2 29,mL 31 1 30,mG 32 12 7,⟨(some 33), none, .bsl 12 1 [.int .i64 0,.int .i64 0,.int .i64 0,.int .i64 0, .str ⟨#[]⟩, .nils, .int .i64 0,.int .i64 0,.int .i64 0,.int .i64 0,.int .i64 0,.int .i64 0] [(0, .t 32)]⟩,⟨(some 34), none, .app 12 120 [.int .i64 0,.int .i64 0,.int .i64 0,.int .i64 0, .str ⟨#[]⟩, .nils, .int .i64 0,.int .i64 0,.int .i64 0,.int .i64 0,.int .i64 0,.int .i64 0] false (.t 31) (.t 33)⟩,mX 35 3 25 26,mF 36 2 35,mS 1 36 34] (Q .normal) 13 (.q 0 (.q 1 (.q 2 (.q 3 (.q 4 (.q 5 (.q 6 (.q 7 (.all [(8, .q 9 (.q 10 (.q 11 (.q 12 (.done)))))]))))))))) s := a_dd rfl (by kernel_rfl) gl Q s
def kao_c : C := .seq (.reg [mA 7 3,mT 8 false]) (.seq (.reg [mV 10 0,mV 11 1,mV 12 2,mC 13 Fn.kaj [.t 10, .t 11, .t 12],mV 9 13]) (.seq (.seq (.reg [mV 14 9,mI 15 .lss 14 0,mV 16 15,⟨(some 17), (some (2, false)), .mov (.t 0)⟩,⟨(some 18), (some (2, false)), .mov (.t 9)⟩,⟨(some 19), (some (2, false)), .idxs 3 (.t 17) (.t 18)⟩,⟨(some 20), (some (2, false)), .fld 2 (.t 19)⟩,⟨(some 21), (some (2, false)), .load 1 false (.t 20)⟩,⟨(some 22), (some (2, false)), .len false (.t 21)⟩,⟨(some 23), (some (2, false)), .bin .geq (.num) (.t 22) (.c (.int .i64 200))⟩,⟨(some 24), none, .pick (.t 16) (.c (.bool true)) (.t 23)⟩]) (.cond (.t 24) (.seq (.reg [mT 8 false]) .ret) .skip)) (.seq (.regD kao_d0_os kao_d0_af) (.seq (.reg [mT 8 true]) .ret))))
def kao_r : List RS := [.t 8]
theorem kao_e (hw : TC Tryz.prog Θ Γ kao_c (retQ kao_r K) ⟨[a0, a1, a2, a3, u,u,u,u,u,u,u,u,u,u,u,u,u,u,u,u,u,u,u,u,u,u,u,u,u,u,u,u,u,u,u,u,u], [], h⟩) : T Tryz.prog Γ Fn.kao [a0, a1, a2, a3] h K :=
  TB Tryz.func90 (bodyOf Tryz.f90) hw
def kae_c : C := .seq (.reg [mA 1 0,⟨(some 2), none, .alloc [.int .i64 0,.int .i64 0,.int .i64 0,.int .i64 0, .str ⟨#[]⟩, .nils, .int .i64 0,.int .i64 0,.int .i64 0,.int .i64 0,.int .i64 0,.int .i64 0]⟩]) (.seq (.reg [mF 3 5 1,mL 4 1 3,mC 5 Fn.kcD [.t 4],mF 6 5 1,mS 1 6 5]) (.seq (.reg [mG 7 12 1,mS 12 2 7]) .ret))
def kae_r : List RS := [.cell 2 12 true]
theorem kae_e (hw : TC Tryz.prog Θ Γ kae_c (retQ kae_r K) ⟨[a0, u,u,u,u,u,u,u], [], h⟩) : T Tryz.prog Γ Fn.kae [a0] h K :=
  TB Tryz.func91 (bodyOf Tryz.f91) hw
def kaN_d0_os : List O := [mV 17 0,mV 18 5,mX 19 2 17 18,mG 20 2 19,mV 21 1,mV 22 5,mX 23 2 21 22,mG 24 2 23,mC 25 Fn.kaM [.t 20, .t 24],mU 26 25]
def kaN_d0_af : List (List Nat) := [[], [], [0, 1], [2], [], [], [4, 5], [6], [3, 7], [8]]
theorem kaN_d0_q (gl : Gl) (Q : AE → St → Prop) (s : St) : aw Tryz.prog Θ Γ gl (.regD kaN_d0_os kaN_d0_af) Q s = awpT Tryz.prog Γ gl [mV 17 0,mV 18 5,mX 19 2 17 18,mG 20 2 19,mV 21 1,mV 22 5,mX 23 2 21 22,mG 24 2 23,mC 25 Fn.kaM [.t 20, .t 24],mU 26 25] (Q .normal) 10 (.q 0 (.q 1 (.q 2 (.q 3 (.q 4 (.q 5 (.q 6 (.q 7 (.q 8 (.q 9 (.done))))))))))) s := a_dd rfl (by kernel_rfl) gl Q s
def kaN_c : C := .seq (.reg [mT 4 false]) (.seq (.seq (.reg [mV 6 0,mN 7 6,mV 8 1,mN 9 8,mB 10 .neq 7 9]) (.cond (.t 10) (.seq (.reg [mT 4 false]) .ret) .skip)) (.seq (.seq (.reg [mK 5 0]) (.block 0 (.loop (.seq (.seq (.reg [mV 11 5,mV 12 0,mN 13 12,mB 14 .lss 11 13]) (.cond (.t 14) .skip (.exit 0))) (.seq (.block 1 (.seq (.regD kaN_d0_os kaN_d0_af) (.cond (.t 26) (.seq (.reg [mT 4 false]) .ret) .skip))) (.reg [mV 15 5,mI 16 .add 15 1,mV 5 16])))))) (.seq (.reg [mT 4 true]) .ret)))
def kaN_r : List RS := [.t 4]
def kaN_s0 (t0 t1 t5 : AV) (loc : List (List AV)) (h : AH) : St := ⟨[t0, t1, .any,.any,.any, t5, .any,.any,.any,.any,.any,.any,.any,.any,.any,.any,.any,.any,.any,.any,.any,.any,.any,.any,.any,.any,.any], loc, h⟩
theorem kaN_e (hw : TC Tryz.prog Θ Γ kaN_c (retQ kaN_r K) ⟨[a0, a1, u,u,u,u,u,u,u,u,u,u,u,u,u,u,u,u,u,u,u,u,u,u,u,u,u], [], h⟩) : T Tryz.prog Γ Fn.kaN [a0, a1] h K :=
  TB Tryz.func92 (bodyOf Tryz.f92) hw
def kaU_d0_os : List O := [mV 17 0,mV 18 5,mX 19 5 17 18,mG 20 5 19,mV 21 1,mV 22 5,mX 23 5 21 22,mG 24 5 23,mC 25 Fn.kaT [.t 20, .t 24],mU 26 25]
def kaU_d0_af : List (List Nat) := [[], [], [0, 1], [2], [], [], [4, 5], [6], [3, 7], [8]]
theorem kaU_d0_q (gl : Gl) (Q : AE → St → Prop) (s : St) : aw Tryz.prog Θ Γ gl (.regD kaU_d0_os kaU_d0_af) Q s = awpT Tryz.prog Γ gl [mV 17 0,mV 18 5,mX 19 5 17 18,mG 20 5 19,mV 21 1,mV 22 5,mX 23 5 21 22,mG 24 5 23,mC 25 Fn.kaT [.t 20, .t 24],mU 26 25] (Q .normal) 10 (.q 0 (.q 1 (.q 2 (.q 3 (.q 4 (.q 5 (.q 6 (.q 7 (.q 8 (.q 9 (.done))))))))))) s := a_dd rfl (by kernel_rfl) gl Q s
def kaU_c : C := .seq (.reg [mT 4 false]) (.seq (.seq (.reg [mV 6 0,mN 7 6,mV 8 1,mN 9 8,mB 10 .neq 7 9]) (.cond (.t 10) (.seq (.reg [mT 4 false]) .ret) .skip)) (.seq (.seq (.reg [mK 5 0]) (.block 0 (.loop (.seq (.seq (.reg [mV 11 5,mV 12 0,mN 13 12,mB 14 .lss 11 13]) (.cond (.t 14) .skip (.exit 0))) (.seq (.block 1 (.seq (.regD kaU_d0_os kaU_d0_af) (.cond (.t 26) (.seq (.reg [mT 4 false]) .ret) .skip))) (.reg [mV 15 5,mI 16 .add 15 1,mV 5 16])))))) (.seq (.reg [mT 4 true]) .ret)))
def kaU_r : List RS := [.t 4]
def kaU_s0 (t0 t1 t5 : AV) (loc : List (List AV)) (h : AH) : St := ⟨[t0, t1, .any,.any,.any, t5, .any,.any,.any,.any,.any,.any,.any,.any,.any,.any,.any,.any,.any,.any,.any,.any,.any,.any,.any,.any,.any], loc, h⟩
theorem kaU_e (hw : TC Tryz.prog Θ Γ kaU_c (retQ kaU_r K) ⟨[a0, a1, u,u,u,u,u,u,u,u,u,u,u,u,u,u,u,u,u,u,u,u,u,u,u,u,u], [], h⟩) : T Tryz.prog Γ Fn.kaU [a0, a1] h K :=
  TB Tryz.func93 (bodyOf Tryz.f93) hw
def kat_d0_os : List O := [mV 17 0,mV 18 5,mX 19 3 17 18,mG 20 3 19,mV 21 1,mV 22 5,mX 23 3 21 22,mG 24 3 23,mC 25 Fn.kas [.t 20, .t 24],mU 26 25]
def kat_d0_af : List (List Nat) := [[], [], [0, 1], [2], [], [], [4, 5], [6], [3, 7], [8]]
theorem kat_d0_q (gl : Gl) (Q : AE → St → Prop) (s : St) : aw Tryz.prog Θ Γ gl (.regD kat_d0_os kat_d0_af) Q s = awpT Tryz.prog Γ gl [mV 17 0,mV 18 5,mX 19 3 17 18,mG 20 3 19,mV 21 1,mV 22 5,mX 23 3 21 22,mG 24 3 23,mC 25 Fn.kas [.t 20, .t 24],mU 26 25] (Q .normal) 10 (.q 0 (.q 1 (.q 2 (.q 3 (.q 4 (.q 5 (.q 6 (.q 7 (.q 8 (.q 9 (.done))))))))))) s := a_dd rfl (by kernel_rfl) gl Q s
def kat_c : C := .seq (.reg [mT 4 false]) (.seq (.seq (.reg [mV 6 0,mN 7 6,mV 8 1,mN 9 8,mB 10 .neq 7 9]) (.cond (.t 10) (.seq (.reg [mT 4 false]) .ret) .skip)) (.seq (.seq (.reg [mK 5 0]) (.block 0 (.loop (.seq (.seq (.reg [mV 11 5,mV 12 0,mN 13 12,mB 14 .lss 11 13]) (.cond (.t 14) .skip (.exit 0))) (.seq (.block 1 (.seq (.regD kat_d0_os kat_d0_af) (.cond (.t 26) (.seq (.reg [mT 4 false]) .ret) .skip))) (.reg [mV 15 5,mI 16 .add 15 1,mV 5 16])))))) (.seq (.reg [mT 4 true]) .ret)))
def kat_r : List RS := [.t 4]
def kat_s0 (t0 t1 t5 : AV) (loc : List (List AV)) (h : AH) : St := ⟨[t0, t1, .any,.any,.any, t5, .any,.any,.any,.any,.any,.any,.any,.any,.any,.any,.any,.any,.any,.any,.any,.any,.any,.any,.any,.any,.any], loc, h⟩
theorem kat_e (hw : TC Tryz.prog Θ Γ kat_c (retQ kat_r K) ⟨[a0, a1, u,u,u,u,u,u,u,u,u,u,u,u,u,u,u,u,u,u,u,u,u,u,u,u,u], [], h⟩) : T Tryz.prog Γ Fn.kat [a0, a1] h K :=
  TB Tryz.func94 (bodyOf Tryz.f94) hw
def kaH_d0_os : List O := [mV 17 0,mV 18 5,mX 19 6 17 18,mG 20 6 19,mV 21 1,mV 22 5,mX 23 6 21 22,mG 24 6 23,mC 25 Fn.kaG [.t 20, .t 24],mU 26 25]
def kaH_d0_af : List (List Nat) := [[], [], [0, 1], [2], [], [], [4, 5], [6], [3, 7], [8]]
theorem kaH_d0_q (gl : Gl) (Q : AE → St → Prop) (s : St) : aw Tryz.prog Θ Γ gl (.regD kaH_d0_os kaH_d0_af) Q s = awpT Tryz.prog Γ gl [mV 17 0,mV 18 5,mX 19 6 17 18,mG 20 6 19,mV 21 1,mV 22 5,mX 23 6 21 22,mG 24 6 23,mC 25 Fn.kaG [.t 20, .t 24],mU 26 25] (Q .normal) 10 (.q 0 (.q 1 (.q 2 (.q 3 (.q 4 (.q 5 (.q 6 (.q 7 (.q 8 (.q 9 (.done))))))))))) s := a_dd rfl (by kernel_rfl) gl Q s
def kaH_c : C := .seq (.reg [mT 4 false]) (.seq (.seq (.reg [mV 6 0,mN 7 6,mV 8 1,mN 9 8,mB 10 .neq 7 9]) (.cond (.t 10) (.seq (.reg [mT 4 false]) .ret) .skip)) (.seq (.seq (.reg [mK 5 0]) (.block 0 (.loop (.seq (.seq (.reg [mV 11 5,mV 12 0,mN 13 12,mB 14 .lss 11 13]) (.cond (.t 14) .skip (.exit 0))) (.seq (.block 1 (.seq (.regD kaH_d0_os kaH_d0_af) (.cond (.t 26) (.seq (.reg [mT 4 false]) .ret) .skip))) (.reg [mV 15 5,mI 16 .add 15 1,mV 5 16])))))) (.seq (.reg [mT 4 true]) .ret)))
def kaH_r : List RS := [.t 4]
def kaH_s0 (t0 t1 t5 : AV) (loc : List (List AV)) (h : AH) : St := ⟨[t0, t1, .any,.any,.any, t5, .any,.any,.any,.any,.any,.any,.any,.any,.any,.any,.any,.any,.any,.any,.any,.any,.any,.any,.any,.any,.any], loc, h⟩
theorem kaH_e (hw : TC Tryz.prog Θ Γ kaH_c (retQ kaH_r K) ⟨[a0, a1, u,u,u,u,u,u,u,u,u,u,u,u,u,u,u,u,u,u,u,u,u,u,u,u,u], [], h⟩) : T Tryz.prog Γ Fn.kaH [a0, a1] h K :=
  TB Tryz.func95 (bodyOf Tryz.f95) hw
def kaW_d0_os : List O := [mV 17 0,mV 18 5,mX 19 2 17 18,mG 20 2 19,mV 21 1,mV 22 5,mX 23 2 21 22,mG 24 2 23,mC 25 Fn.kaV [.t 20, .t 24],mU 26 25]
def kaW_d0_af : List (List Nat) := [[], [], [0, 1], [2], [], [], [4, 5], [6], [3, 7], [8]]
theorem kaW_d0_q (gl : Gl) (Q : AE → St → Prop) (s : St) : aw Tryz.prog Θ Γ gl (.regD kaW_d0_os kaW_d0_af) Q s = awpT Tryz.prog Γ gl [mV 17 0,mV 18 5,mX 19 2 17 18,mG 20 2 19,mV 21 1,mV 22 5,mX 23 2 21 22,mG 24 2 23,mC 25 Fn.kaV [.t 20, .t 24],mU 26 25] (Q .normal) 10 (.q 0 (.q 1 (.q 2 (.q 3 (.q 4 (.q 5 (.q 6 (.q 7 (.q 8 (.q 9 (.done))))))))))) s := a_dd rfl (by kernel_rfl) gl Q s
def kaW_c : C := .seq (.reg [mT 4 false]) (.seq (.seq (.reg [mV 6 0,mN 7 6,mV 8 1,mN 9 8,mB 10 .neq 7 9]) (.cond (.t 10) (.seq (.reg [mT 4 false]) .ret) .skip)) (.seq (.seq (.reg [mK 5 0]) (.block 0 (.loop (.seq (.seq (.reg [mV 11 5,mV 12 0,mN 13 12,mB 14 .lss 11 13]) (.cond (.t 14) .skip (.exit 0))) (.seq (.block 1 (.seq (.regD kaW_d0_os kaW_d0_af) (.cond (.t 26) (.seq (.reg [mT 4 false]) .ret) .skip))) (.reg [mV 15 5,mI 16 .add 15 1,mV 5 16])))))) (.seq (.reg [mT 4 true]) .ret)))
def kaW_r : List RS := [.t 4]
def kaW_s0 (t0 t1 t5 : AV) (loc : List (List AV)) (h : AH) : St := ⟨[t0, t1, .any,.any,.any, t5, .any,.any,.any,.any,.any,.any,.any,.any,.any,.any,.any,.any,.any,.any,.any,.any,.any,.any,.any,.any,.any], loc, h⟩
theorem kaW_e (hw : TC Tryz.prog Θ Γ kaW_c (retQ kaW_r K) ⟨[a0, a1, u,u,u,u,u,u,u,u,u,u,u,u,u,u,u,u,u,u,u,u,u,u,u,u,u], [], h⟩) : T Tryz.prog Γ Fn.kaW [a0, a1] h K :=
  TB Tryz.func96 (bodyOf Tryz.f96) hw
def kaV_c : C := .seq (.reg [mA 2 0,mA 3 1,mT 4 false]) (.seq (.seq (.reg [mF 5 0 2,mL 6 1 5,mF 7 0 3,mL 8 1 7,mB 9 .neq 6 8]) (.cond (.t 9) (.seq (.reg [mT 4 false]) .ret) .skip)) (.seq (.seq (.reg [mF 10 1 2,mL 11 1 10,mF 12 1 3,mL 13 1 12,mB 14 .neq 11 13]) (.cond (.t 14) (.seq (.reg [mT 4 false]) .ret) .skip)) (.seq (.reg [mT 4 true]) .ret)))
def kaV_r : List RS := [.t 4]
theorem kaV_e (hw : TC Tryz.prog Θ Γ kaV_c (retQ kaV_r K) ⟨[a0, a1, u,u,u,u,u,u,u,u,u,u,u,u,u], [], h⟩) : T Tryz.prog Γ Fn.kaV [a0, a1] h K :=
  TB Tryz.func97 (bodyOf Tryz.f97) hw
def kaQ_c : C := .seq (.reg [mA 2 0,mA 3 1,mT 4 false]) (.seq (.seq (.reg [mF 5 0 2,mL 6 1 5,mF 7 0 3,mL 8 1 7,mB 9 .neq 6 8]) (.cond (.t 9) (.seq (.reg [mT 4 false]) .ret) .skip)) (.seq (.seq (.reg [mF 10 1 2,mL 11 1 10,mF 12 1 3,mL 13 1 12,mB 14 .neq 11 13]) (.cond (.t 14) (.seq (.reg [mT 4 false]) .ret) .skip)) (.seq (.seq (.reg [mF 15 2 2,mL 16 1 15,mF 17 2 3,mL 18 1 17,mB 19 .neq 16 18]) (.cond (.t 19) (.seq (.reg [mT 4 false]) .ret) .skip)) (.seq (.reg [mT 4 true]) .ret))))
def kaQ_r : List RS := [.t 4]
theorem kaQ_e (hw : TC Tryz.prog Θ Γ kaQ_c (retQ kaQ_r K) ⟨[a0, a1, u,u,u,u,u,u,u,u,u,u,u,u,u,u,u,u,u,u], [], h⟩) : T Tryz.prog Γ Fn.kaQ [a0, a1] h K :=
  TB Tryz.func98 (bodyOf Tryz.f98) hw
def kbr_c : C := .seq (.reg [mK 4 0]) (.seq (.seq (.reg [mK 5 0]) (.block 0 (.loop (.seq (.seq (.reg [mV 6 5,mV 7 0,mN 8 7,mB 9 .lss 6 8]) (.cond (.t 9) .skip (.exit 0))) (.seq (.block 1 (.seq (.reg [mV 12 0,mV 13 5,mV 14 1,mC 15 Fn.kbt [.t 14],mX 16 2 12 13,mF 17 0 16,mS 1 17 15]) (.seq (.reg [mV 18 1,mI 19 .add 18 1,mV 1 19]) (.reg [mV 20 0,mV 21 5,mX 22 2 20 21,mF 23 1 22,mL 24 1 23,mV 25 1,mC 26 Fn.kbn [.t 24, .t 25],mV 1 26])))) (.reg [mV 10 5,mI 11 .add 10 1,mV 5 11])))))) (.seq (.reg [mV 27 1,mV 4 27]) .ret))
def kbr_r : List RS := [.t 4]
def kbr_s0 (t0 t1 t5 : AV) (loc : List (List AV)) (h : AH) : St := ⟨[t0, t1, .any,.any,.any, t5, .any,.any,.any,.any,.any,.any,.any,.any,.any,.any,.any,.any,.any,.any,.any,.any,.any,.any,.any,.any,.any,.any], loc, h⟩
theorem kbr_e (hw : TC Tryz.prog Θ Γ kbr_c (retQ kbr_r K) ⟨[a0, a1, u,u,u,u,u,u,u,u,u,u,u,u,u,u,u,u,u,u,u,u,u,u,u,u,u,u], [], h⟩) : T Tryz.prog Γ Fn.kbr [a0, a1] h K :=
  TB Tryz.func99 (bodyOf Tryz.f99) hw
def kbv_c : C := .seq (.reg [mK 4 0]) (.seq (.seq (.reg [mK 5 0]) (.block 0 (.loop (.seq (.seq (.reg [mV 6 5,mV 7 0,mN 8 7,mB 9 .lss 6 8]) (.cond (.t 9) .skip (.exit 0))) (.seq (.block 1 (.seq (.reg [mV 12 0,mV 13 5,mV 14 1,mX 15 5 12 13,mF 16 0 15,mS 1 16 14]) (.seq (.reg [mV 17 1,mI 18 .add 17 1,mV 1 18]) (.seq (.reg [mV 19 0,mV 20 5,mX 21 5 19 20,mF 22 1 21,mL 23 1 22,mV 24 1,mC 25 Fn.kbh [.t 23, .t 24],mV 1 25]) (.seq (.reg [mV 26 0,mV 27 5,mX 28 5 26 27,mF 29 2 28,mL 30 1 29,mV 31 1,mC 32 Fn.kbs [.t 30, .t 31],mV 1 32]) (.seq (.reg [mV 33 0,mV 34 5,mX 35 5 33 34,mF 36 3 35,mL 37 1 36,mV 38 1,mC 39 Fn.kbk [.t 37, .t 38],mV 1 39]) (.reg [mV 40 0,mV 41 5,mX 42 5 40 41,mF 43 4 42,mL 44 1 43,mV 45 1,mC 46 Fn.kbp [.t 44, .t 45],mV 1 46]))))))) (.reg [mV 10 5,mI 11 .add 10 1,mV 5 11])))))) (.seq (.reg [mV 47 1,mV 4 47]) .ret))
def kbv_r : List RS := [.t 4]
def kbv_s0 (t0 t1 t5 : AV) (loc : List (List AV)) (h : AH) : St := ⟨[t0, t1, .any,.any,.any, t5, .any,.any,.any,.any,.any,.any,.any,.any,.any,.any,.any,.any,.any,.any,.any,.any,.any,.any,.any,.any,.any,.any,.any,.any,.any,.any,.any,.any,.any,.any,.any,.any,.any,.any,.any,.any,.any,.any,.any,.any,.any,.any], loc, h⟩
theorem kbv_e (hw : TC Tryz.prog Θ Γ kbv_c (retQ kbv_r K) ⟨[a0, a1, u,u,u,u,u,u,u,u,u,u,u,u,u,u,u,u,u,u,u,u,u,u,u,u,u,u,u,u,u,u,u,u,u,u,u,u,u,u,u,u,u,u,u,u,u,u], [], h⟩) : T Tryz.prog Γ Fn.kbv [a0, a1] h K :=
  TB Tryz.func100 (bodyOf Tryz.f100) hw
def kbg_c : C := .seq (.reg [mK 4 0]) (.seq (.seq (.reg [mK 5 0]) (.block 0 (.loop (.seq (.seq (.reg [mV 6 5,mV 7 0,mN 8 7,mB 9 .lss 6 8]) (.cond (.t 9) .skip (.exit 0))) (.seq (.block 1 (.seq (.reg [mV 12 0,mV 13 5,mV 14 1,mX 15 3 12 13,mF 16 0 15,mS 1 16 14]) (.seq (.reg [mV 17 1,mI 18 .add 17 1,mV 1 18]) (.seq (.reg [mV 19 0,mV 20 5,mV 21 1,mX 22 3 19 20,mF 23 1 22,mS 1 23 21]) (.seq (.reg [mV 24 1,mI 25 .add 24 1,mV 1 25]) (.reg [mV 26 0,mV 27 5,mX 28 3 26 27,mF 29 2 28,mL 30 1 29,mV 31 1,mC 32 Fn.kbm [.t 30, .t 31],mV 1 32])))))) (.reg [mV 10 5,mI 11 .add 10 1,mV 5 11])))))) (.seq (.reg [mV 33 1,mV 4 33]) .ret))
def kbg_r : List RS := [.t 4]
def kbg_s0 (t0 t1 t5 : AV) (loc : List (List AV)) (h : AH) : St := ⟨[t0, t1, .any,.any,.any, t5, .any,.any,.any,.any,.any,.any,.any,.any,.any,.any,.any,.any,.any,.any,.any,.any,.any,.any,.any,.any,.any,.any,.any,.any,.any,.any,.any,.any], loc, h⟩
theorem kbg_e (hw : TC Tryz.prog Θ Γ kbg_c (retQ kbg_r K) ⟨[a0, a1, u,u,u,u,u,u,u,u,u,u,u,u,u,u,u,u,u,u,u,u,u,u,u,u,u,u,u,u,u,u,u,u], [], h⟩) : T Tryz.prog Γ Fn.kbg [a0, a1] h K :=
  TB Tryz.func101 (bodyOf Tryz.f101) hw
def kbo_c : C := .seq (.reg [mK 4 0]) (.seq (.seq (.reg [mK 5 0]) (.block 0 (.loop (.seq (.seq (.reg [mV 6 5,mV 7 0,mN 8 7,mB 9 .lss 6 8]) (.cond (.t 9) .skip (.exit 0))) (.seq (.block 1 (.seq (.reg [mV 12 0,mV 13 5,mV 14 1,mX 15 6 12 13,mF 16 0 15,mS 1 16 14]) (.seq (.reg [mV 17 1,mI 18 .add 17 1,mV 1 18]) (.seq (.reg [mV 19 0,mV 20 5,mV 21 1,mX 22 6 19 20,mF 23 1 22,mS 1 23 21]) (.seq (.reg [mV 24 1,mI 25 .add 24 1,mV 1 25]) (.seq (.reg [mV 26 0,mV 27 5,mV 28 1,mX 29 6 26 27,mF 30 2 29,mS 1 30 28]) (.seq (.reg [mV 31 1,mI 32 .add 31 1,mV 1 32]) (.seq (.reg [mV 33 0,mV 34 5,mV 35 1,mX 36 6 33 34,mF 37 3 36,mF 38 0 37,mS 1 38 35]) (.seq (.reg [mV 39 1,mI 40 .add 39 1,mV 1 40]) (.seq (.reg [mV 41 0,mV 42 5,mV 43 1,mX 44 6 41 42,mF 45 3 44,mF 46 1 45,mS 1 46 43]) (.seq (.reg [mV 47 1,mI 48 .add 47 1,mV 1 48]) (.seq (.reg [mV 49 0,mV 50 5,mV 51 1,mX 52 6 49 50,mF 53 3 52,mF 54 2 53,mS 1 54 51]) (.reg [mV 55 1,mI 56 .add 55 1,mV 1 56]))))))))))))) (.reg [mV 10 5,mI 11 .add 10 1,mV 5 11])))))) (.seq (.reg [mV 57 1,mV 4 57]) .ret))
def kbo_r : List RS := [.t 4]
def kbo_s0 (t0 t1 t5 : AV) (loc : List (List AV)) (h : AH) : St := ⟨[t0, t1, .any,.any,.any, t5, .any,.any,.any,.any,.any,.any,.any,.any,.any,.any,.any,.any,.any,.any,.any,.any,.any,.any,.any,.any,.any,.any,.any,.any,.any,.any,.any,.any,.any,.any,.any,.any,.any,.any,.any,.any,.any,.any,.any,.any,.any,.any,.any,.any,.any,.any,.any,.any,.any,.any,.any,.any], loc, h⟩
theorem kbo_e (hw : TC Tryz.prog Θ Γ kbo_c (retQ kbo_r K) ⟨[a0, a1, u,u,u,u,u,u,u,u,u,u,u,u,u,u,u,u,u,u,u,u,u,u,u,u,u,u,u,u,u,u,u,u,u,u,u,u,u,u,u,u,u,u,u,u,u,u,u,u,u,u,u,u,u,u,u,u], [], h⟩) : T Tryz.prog Γ Fn.kbo [a0, a1] h K :=
  TB Tryz.func102 (bodyOf Tryz.f102) hw
def kbw_c : C := .seq (.reg [mK 4 0]) (.seq (.seq (.reg [mK 5 0]) (.block 0 (.loop (.seq (.seq (.reg [mV 6 5,mV 7 0,mN 8 7,mB 9 .lss 6 8]) (.cond (.t 9) .skip (.exit 0))) (.seq (.block 1 (.seq (.reg [mV 12 0,mV 13 5,mV 14 1,mX 15 2 12 13,mF 16 0 15,mS 1 16 14]) (.seq (.reg [mV 17 1,mI 18 .add 17 1,mV 1 18]) (.seq (.reg [mV 19 0,mV 20 5,mV 21 1,mX 22 2 19 20,mF 23 1 22,mS 1 23 21]) (.reg [mV 24 1,mI 25 .add 24 1,mV 1 25]))))) (.reg [mV 10 5,mI 11 .add 10 1,mV 5 11])))))) (.seq (.reg [mV 26 1,mV 4 26]) .ret))
def kbw_r : List RS := [.t 4]
def kbw_s0 (t0 t1 t5 : AV) (loc : List (List AV)) (h : AH) : St := ⟨[t0, t1, .any,.any,.any, t5, .any,.any,.any,.any,.any,.any,.any,.any,.any,.any,.any,.any,.any,.any,.any,.any,.any,.any,.any,.any,.any], loc, h⟩
theorem kbw_e (hw : TC Tryz.prog Θ Γ kbw_c (retQ kbw_r K) ⟨[a0, a1, u,u,u,u,u,u,u,u,u,u,u,u,u,u,u,u,u,u,u,u,u,u,u,u,u], [], h⟩) : T Tryz.prog Γ Fn.kbw [a0, a1] h K :=
  TB Tryz.func103 (bodyOf Tryz.f103) hw
def ka9_d0_os : List O := [mV 12 0,mV 13 5,mX 14 2 12 13,mF 15 0 14,mL 16 1 15,mV 17 1,mC 18 Fn.kbt [.t 17],mB 19 .neq 16 18]
def ka9_d0_af : List (List Nat) := [[], [], [0, 1], [2], [3], [], [5], [4, 6]]
theorem ka9_d0_q (gl : Gl) (Q : AE → St → Prop) (s : St) : aw Tryz.prog Θ Γ gl (.regD ka9_d0_os ka9_d0_af) Q s = awpT Tryz.prog Γ gl [mV 12 0,mV 13 5,mX 14 2 12 13,mF 15 0 14,mL 16 1 15,mV 17 1,mC 18 Fn.kbt [.t 17],mB 19 .neq 16 18] (Q .normal) 8 (.q 0 (.q 1 (.q 2 (.q 3 (.q 4 (.q 5 (.st 6 [15] (.q 7 (.done))))))))) s := a_dd rfl (by kernel_rfl) gl Q s
def ka9_c : C := .seq (.reg [mK 4 0]) (.seq (.seq (.reg [mK 5 0]) (.block 0 (.loop (.seq (.seq (.reg [mV 6 5,mV 7 0,mN 8 7,mB 9 .lss 6 8]) (.cond (.t 9) .skip (.exit 0))) (.seq (.block 1 (.seq (.seq (.regD ka9_d0_os ka9_d0_af) (.cond (.t 19) (.seq (.reg [mK 4 (-1)]) .ret) .skip)) (.seq (.reg [mV 20 1,mI 21 .add 20 1,mV 1 21]) (.seq (.reg [mV 22 0,mV 23 5,mX 24 2 22 23,mF 25 1 24,mL 26 1 25,mV 27 1,mC 28 Fn.ka5 [.t 26, .t 27],mV 1 28]) (.seq (.reg [mV 29 1,mI 30 .lss 29 0]) (.cond (.t 30) (.seq (.reg [mK 4 (-1)]) .ret) .skip)))))) (.reg [mV 10 5,mI 11 .add 10 1,mV 5 11])))))) (.seq (.reg [mV 31 1,mV 4 31]) .ret))
def ka9_r : List RS := [.t 4]
def ka9_s0 (t0 t1 t5 : AV) (loc : List (List AV)) (h : AH) : St := ⟨[t0, t1, .any,.any,.any, t5, .any,.any,.any,.any,.any,.any,.any,.any,.any,.any,.any,.any,.any,.any,.any,.any,.any,.any,.any,.any,.any,.any,.any,.any,.any,.any], loc, h⟩
theorem ka9_e (hw : TC Tryz.prog Θ Γ ka9_c (retQ ka9_r K) ⟨[a0, a1, u,u,u,u,u,u,u,u,u,u,u,u,u,u,u,u,u,u,u,u,u,u,u,u,u,u,u,u,u,u], [], h⟩) : T Tryz.prog Γ Fn.ka9 [a0, a1] h K :=
  TB Tryz.func104 (bodyOf Tryz.f104) hw
def kbc_c : C := .seq (.reg [mK 4 0]) (.seq (.seq (.reg [mK 5 0]) (.block 0 (.loop (.seq (.seq (.reg [mV 6 5,mV 7 0,mN 8 7,mB 9 .lss 6 8]) (.cond (.t 9) .skip (.exit 0))) (.seq (.block 1 (.seq (.seq (.reg [mV 12 0,mV 13 5,mX 14 5 12 13,mF 15 0 14,mL 16 1 15,mV 17 1,mB 18 .neq 16 17]) (.cond (.t 18) (.seq (.reg [mK 4 (-1)]) .ret) .skip)) (.seq (.reg [mV 19 1,mI 20 .add 19 1,mV 1 20]) (.seq (.reg [mV 21 0,mV 22 5,mX 23 5 21 22,mF 24 1 23,mL 25 1 24,mV 26 1,mC 27 Fn.ka0 [.t 25, .t 26],mV 1 27]) (.seq (.seq (.reg [mV 28 1,mI 29 .lss 28 0]) (.cond (.t 29) (.seq (.reg [mK 4 (-1)]) .ret) .skip)) (.seq (.reg [mV 30 0,mV 31 5,mX 32 5 30 31,mF 33 2 32,mL 34 1 33,mV 35 1,mC 36 Fn.kba [.t 34, .t 35],mV 1 36]) (.seq (.seq (.reg [mV 37 1,mI 38 .lss 37 0]) (.cond (.t 38) (.seq (.reg [mK 4 (-1)]) .ret) .skip)) (.seq (.reg [mV 39 0,mV 40 5,mX 41 5 39 40,mF 42 3 41,mL 43 1 42,mV 44 1,mC 45 Fn.ka3 [.t 43, .t 44],mV 1 45]) (.seq (.seq (.reg [mV 46 1,mI 47 .lss 46 0]) (.cond (.t 47) (.seq (.reg [mK 4 (-1)]) .ret) .skip)) (.seq (.reg [mV 48 0,mV 49 5,mX 50 5 48 49,mF 51 4 50,mL 52 1 51,mV 53 1,mC 54 Fn.ka7 [.t 52, .t 53],mV 1 54]) (.seq (.reg [mV 55 1,mI 56 .lss 55 0]) (.cond (.t 56) (.seq (.reg [mK 4 (-1)]) .ret) .skip)))))))))))) (.reg [mV 10 5,mI 11 .add 10 1,mV 5 11])))))) (.seq (.reg [mV 57 1,mV 4 57]) .ret))
def kbc_r : List RS := [.t 4]
def kbc_s0 (t0 t1 t5 : AV) (loc : List (List AV)) (h : AH) : St := ⟨[t0, t1, .any,.any,.any, t5, .any,.any,.any,.any,.any,.any,.any,.any,.any,.any,.any,.any,.any,.any,.any,.any,.any,.any,.any,.any,.any,.any,.any,.any,.any,.any,.any,.any,.any,.any,.any,.any,.any,.any,.any,.any,.any,.any,.any,.any,.any,.any,.any,.any,.any,.any,.any,.any,.any,.any,.any,.any], loc, h⟩
theorem kbc_e (hw : TC Tryz.prog Θ Γ kbc_c (retQ kbc_r K) ⟨[a0, a1, u,u,u,u,u,u,u,u,u,u,u,u,u,u,u,u,u,u,u,u,u,u,u,u,u,u,u,u,u,u,u,u,u,u,u,u,u,u,u,u,u,u,u,u,u,u,u,u,u,u,u,u,u,u,u,u], [], h⟩) : T Tryz.prog Γ Fn.kbc [a0, a1] h K :=
  TB Tryz.func105 (bodyOf Tryz.f105) hw
def kaZ_c : C := .seq (.reg [mK 4 0]) (.seq (.seq (.reg [mK 5 0]) (.block 0 (.loop (.seq (.seq (.reg [mV 6 5,mV 7 0,mN 8 7,mB 9 .lss 6 8]) (.cond (.t 9) .skip (.exit 0))) (.seq (.block 1 (.seq (.seq (.reg [mV 12 0,mV 13 5,mX 14 3 12 13,mF 15 0 14,mL 16 1 15,mV 17 1,mB 18 .neq 16 17]) (.cond (.t 18) (.seq (.reg [mK 4 (-1)]) .ret) .skip)) (.seq (.reg [mV 19 1,mI 20 .add 19 1,mV 1 20]) (.seq (.seq (.reg [mV 21 0,mV 22 5,mX 23 3 21 22,mF 24 1 23,mL 25 1 24,mV 26 1,mB 27 .neq 25 26]) (.cond (.t 27) (.seq (.reg [mK 4 (-1)]) .ret) .skip)) (.seq (.reg [mV 28 1,mI 29 .add 28 1,mV 1 29]) (.seq (.reg [mV 30 0,mV 31 5,mX 32 3 30 31,mF 33 2 32,mL 34 1 33,mV 35 1,mC 36 Fn.ka4 [.t 34, .t 35],mV 1 36]) (.seq (.reg [mV 37 1,mI 38 .lss 37 0]) (.cond (.t 38) (.seq (.reg [mK 4 (-1)]) .ret) .skip)))))))) (.reg [mV 10 5,mI 11 .add 10 1,mV 5 11])))))) (.seq (.reg [mV 39 1,mV 4 39]) .ret))
def kaZ_r : List RS := [.t 4]
def kaZ_s0 (t0 t1 t5 : AV) (loc : List (List AV)) (h : AH) : St := ⟨[t0, t1, .any,.any,.any, t5, .any,.any,.any,.any,.any,.any,.any,.any,.any,.any,.any,.any,.any,.any,.any,.any,.any,.any,.any,.any,.any,.any,.any,.any,.any,.any,.any,.any,.any,.any,.any,.any,.any,.any], loc, h⟩
theorem kaZ_e (hw : TC Tryz.prog Θ Γ kaZ_c (retQ kaZ_r K) ⟨[a0, a1, u,u,u,u,u,u,u,u,u,u,u,u,u,u,u,u,u,u,u,u,u,u,u,u,u,u,u,u,u,u,u,u,u,u,u,u,u,u], [], h⟩) : T Tryz.prog Γ Fn.kaZ [a0, a1] h K :=
  TB Tryz.func106 (bodyOf Tryz.f106) hw
def ka6_c : C := .seq (.reg [mK 4 0]) (.seq (.seq (.reg [mK 5 0]) (.block 0 (.loop (.seq (.seq (.reg [mV 6 5,mV 7 0,mN 8 7,mB 9 .lss 6 8]) (.cond (.t 9) .skip (.exit 0))) (.seq (.block 1 (.seq (.seq (.reg [mV 12 0,mV 13 5,mX 14 6 12 13,mF 15 0 14,mL 16 1 15,mV 17 1,mB 18 .neq 16 17]) (.cond (.t 18) (.seq (.reg [mK 4 (-1)]) .ret) .skip)) (.seq (.reg [mV 19 1,mI 20 .add 19 1,mV 1 20]) (.seq (.seq (.reg [mV 21 0,mV 22 5,mX 23 6 21 22,mF 24 1 23,mL 25 1 24,mV 26 1,mB 27 .neq 25 26]) (.cond (.t 27) (.seq (.reg [mK 4 (-1)]) .ret) .skip)) (.seq (.reg [mV 28 1,mI 29 .add 28 1,mV 1 29]) (.seq (.seq (.reg [mV 30 0,mV 31 5,mX 32 6 30 31,mF 33 2 32,mL 34 1 33,mV 35 1,mB 36 .neq 34 35]) (.cond (.t 36) (.seq (.reg [mK 4 (-1)]) .ret) .skip)) (.seq (.reg [mV 37 1,mI 38 .add 37 1,mV 1 38]) (.seq (.seq (.reg [mV 39 0,mV 40 5,mX 41 6 39 40,mF 42 3 41,mF 43 0 42,mL 44 1 43,mV 45 1,mB 46 .neq 44 45]) (.cond (.t 46) (.seq (.reg [mK 4 (-1)]) .ret) .skip)) (.seq (.reg [mV 47 1,mI 48 .add 47 1,mV 1 48]) (.seq (.seq (.reg [mV 49 0,mV 50 5,mX 51 6 49 50,mF 52 3 51,mF 53 1 52,mL 54 1 53,mV 55 1,mB 56 .neq 54 55]) (.cond (.t 56) (.seq (.reg [mK 4 (-1)]) .ret) .skip)) (.seq (.reg [mV 57 1,mI 58 .add 57 1,mV 1 58]) (.seq (.seq (.reg [mV 59 0,mV 60 5,mX 61 6 59 60,mF 62 3 61,mF 63 2 62,mL 64 1 63,mV 65 1,mB 66 .neq 64 65]) (.cond (.t 66) (.seq (.reg [mK 4 (-1)]) .ret) .skip)) (.reg [mV 67 1,mI 68 .add 67 1,mV 1 68]))))))))))))) (.reg [mV 10 5,mI 11 .add 10 1,mV 5 11])))))) (.seq (.reg [mV 69 1,mV 4 69]) .ret))
def ka6_r : List RS := [.t 4]
def ka6_s0 (t0 t1 t5 : AV) (loc : List (List AV)) (h : AH) : St := ⟨[t0, t1, .any,.any,.any, t5, .any,.any,.any,.any,.any,.any,.any,.any,.any,.any,.any,.any,.any,.any,.any,.any,.any,.any,.any,.any,.any,.any,.any,.any,.any,.any,.any,.any,.any,.any,.any,.any,.any,.any,.any,.any,.any,.any,.any,.any,.any,.any,.any,.any,.any,.any,.any,.any,.any,.any,.any,.any,.any,.any,.any,.any,.any,.any,.any,.any,.any,.any,.any,.any], loc, h⟩
theorem ka6_e (hw : TC Tryz.prog Θ Γ ka6_c (retQ ka6_r K) ⟨[a0, a1, u,u,u,u,u,u,u,u,u,u,u,u,u,u,u,u,u,u,u,u,u,u,u,u,u,u,u,u,u,u,u,u,u,u,u,u,u,u,u,u,u,u,u,u,u,u,u,u,u,u,u,u,u,u,u,u,u,u,u,u,u,u,u,u,u,u,u,u], [], h⟩) : T Tryz.prog Γ Fn.ka6 [a0, a1] h K :=
  TB Tryz.func107 (bodyOf Tryz.f107) hw
def kbB_c : C := .seq (.reg [mA 2 0,mK 4 0]) (.seq (.reg [mF 5 2 2,mL 6 1 5,mV 7 1,mC 8 Fn.kbU [.t 6, .t 7],mV 1 8]) (.seq (.seq (.reg [mV 9 1,mI 10 .lss 9 0]) (.cond (.t 10) (.seq (.reg [mK 4 (-1)]) .ret) .skip)) (.seq (.reg [mF 11 6 2,mL 12 1 11,mV 13 1,mC 14 Fn.kbT [.t 12, .t 13],mV 1 14]) (.seq (.seq (.reg [mV 15 1,mI 16 .lss 15 0]) (.cond (.t 16) (.seq (.reg [mK 4 (-1)]) .ret) .skip)) (.seq (.reg [mF 17 7 2,mL 18 1 17,mV 19 1,mC 20 Fn.kby [.t 18, .t 19],mV 1 20]) (.seq (.seq (.reg [mV 21 1,mI 22 .lss 21 0]) (.cond (.t 22) (.seq (.reg [mK 4 (-1)]) .ret) .skip)) (.seq (.reg [mV 23 1,mV 4 23]) .ret)))))))
def kbB_r : List RS := [.t 4]
theorem kbB_e (hw : TC Tryz.prog Θ Γ kbB_c (retQ kbB_r K) ⟨[a0, a1, u,u,u,u,u,u,u,u,u,u,u,u,u,u,u,u,u,u,u,u,u,u], [], h⟩) : T Tryz.prog Γ Fn.kbB [a0, a1] h K :=
  TB Tryz.func108 (bodyOf Tryz.f108) hw
def kbS_c : C := .seq (.reg [mA 2 0,mK 4 0]) (.seq (.reg [mV 5 1,mF 6 1 2,mL 7 1 6,⟨(some 8), none, .len true (.t 7)⟩,mB 9 .sub 5 8,mV 1 9]) (.seq (.seq (.reg [mV 10 1,mI 11 .lss 10 0]) (.cond (.t 11) (.seq (.reg [mK 4 (-1)]) .ret) .skip)) (.seq (.reg [mF 12 2 2,mL 13 1 12,mV 14 1,mC 15 Fn.kbU [.t 13, .t 14],mV 1 15]) (.seq (.seq (.reg [mV 16 1,mI 17 .lss 16 0]) (.cond (.t 17) (.seq (.reg [mK 4 (-1)]) .ret) .skip)) (.seq (.reg [mV 18 1,mV 4 18]) .ret)))))
def kbS_r : List RS := [.t 4]
theorem kbS_e (hw : TC Tryz.prog Θ Γ kbS_c (retQ kbS_r K) ⟨[a0, a1, u,u,u,u,u,u,u,u,u,u,u,u,u,u,u,u,u], [], h⟩) : T Tryz.prog Γ Fn.kbS [a0, a1] h K :=
  TB Tryz.func109 (bodyOf Tryz.f109) hw
def kbG_c : C := .seq (.reg [mA 2 0,mK 4 0]) (.seq (.reg [mF 5 2 2,mL 6 1 5,mV 7 1,mC 8 Fn.kbD [.t 6, .t 7],mV 1 8]) (.seq (.seq (.reg [mV 9 1,mI 10 .lss 9 0]) (.cond (.t 10) (.seq (.reg [mK 4 (-1)]) .ret) .skip)) (.seq (.reg [mF 11 4 2,mL 12 1 11,mV 13 1,mC 14 Fn.kbP [.t 12, .t 13],mV 1 14]) (.seq (.seq (.reg [mV 15 1,mI 16 .lss 15 0]) (.cond (.t 16) (.seq (.reg [mK 4 (-1)]) .ret) .skip)) (.seq (.reg [mF 17 6 2,mL 18 1 17,mV 19 1,mC 20 Fn.kbP [.t 18, .t 19],mV 1 20]) (.seq (.seq (.reg [mV 21 1,mI 22 .lss 21 0]) (.cond (.t 22) (.seq (.reg [mK 4 (-1)]) .ret) .skip)) (.seq (.reg [mV 23 1,mV 4 23]) .ret)))))))
def kbG_r : List RS := [.t 4]
theorem kbG_e (hw : TC Tryz.prog Θ Γ kbG_c (retQ kbG_r K) ⟨[a0, a1, u,u,u,u,u,u,u,u,u,u,u,u,u,u,u,u,u,u,u,u,u,u], [], h⟩) : T Tryz.prog Γ Fn.kbG [a0, a1] h K :=
  TB Tryz.func110 (bodyOf Tryz.f110) hw
def kbN_c : C := .seq (.reg [mA 2 0,mK 4 0]) (.seq (.reg [mF 5 1 2,mG 6 12 5,mV 7 1,mC 8 Fn.kbI [.t 6, .t 7],mV 1 8]) (.seq (.seq (.reg [mV 9 1,mI 10 .lss 9 0]) (.cond (.t 10) (.seq (.reg [mK 4 (-1)]) .ret) .skip)) (.seq (.reg [mV 11 1,mV 4 11]) .ret)))
def kbN_r : List RS := [.t 4]
theorem kbN_e (hw : TC Tryz.prog Θ Γ kbN_c (retQ kbN_r K) ⟨[a0, a1, u,u,u,u,u,u,u,u,u,u], [], h⟩) : T Tryz.prog Γ Fn.kbN [a0, a1] h K :=
  TB Tryz.func111 (bodyOf Tryz.f111) hw
def kb3_c : C := .seq (.reg [mA 1 0,⟨(some 2), none, .alloc [.int .i64 0,.int .i64 0, .nils, .int .i64 0,.int .i64 0,.int .i64 0, .nils, .nils, .int .i64 0,.int .i64 0,.int .i64 0,.int .i64 0]⟩]) (.seq (.reg [⟨(some 3), none, .alloc [.int .i64 0,.int .i64 0, .nils, .int .i64 0,.int .i64 0,.int .i64 0, .nils, .nils, .int .i64 0,.int .i64 0,.int .i64 0,.int .i64 0]⟩]) (.seq (.reg [mF 4 0 1,mL 5 1 4,mF 6 0 3,mS 1 6 5]) (.seq (.reg [mF 7 1 1,mL 8 1 7,mF 9 1 3,mS 1 9 8]) (.seq (.reg [mF 10 2 1,mL 11 1 10,mC 12 Fn.kcr [.t 11],mF 13 2 3,mS 1 13 12]) (.seq (.reg [mF 14 3 1,mL 15 1 14,mF 16 3 3,mS 1 16 15]) (.seq (.reg [mF 17 4 1,mG 18 2 17,mC 19 Fn.kcq [.t 18],mF 20 4 3,mS 2 20 19]) (.seq (.reg [mF 21 6 1,mL 22 1 21,mC 23 Fn.kco [.t 22],mF 24 6 3,mS 1 24 23]) (.seq (.reg [mF 25 7 1,mL 26 1 25,mC 27 Fn.kb0 [.t 26],mF 28 7 3,mS 1 28 27]) (.seq (.reg [mF 29 8 1,mL 30 1 29,mF 31 8 3,mS 1 31 30]) (.seq (.reg [mF 32 9 1,mL 33 1 32,mF 34 9 3,mS 1 34 33]) (.seq (.reg [mF 35 10 1,mL 36 1 35,mF 37 10 3,mS 1 37 36]) (.seq (.reg [mF 38 11 1,mL 39 1 38,mF 40 11 3,mS 1 40 39]) (.seq (.reg [mG 41 12 3,mS 12 2 41]) .ret)))))))))))))
def kb3_r : List RS := [.cell 2 12 true]
theorem kb3_e (hw : TC Tryz.prog Θ Γ kb3_c (retQ kb3_r K) ⟨[a0, u,u,u,u,u,u,u,u,u,u,u,u,u,u,u,u,u,u,u,u,u,u,u,u,u,u,u,u,u,u,u,u,u,u,u,u,u,u,u,u,u], [], h⟩) : T Tryz.prog Γ Fn.kb3 [a0] h K :=
  TB Tryz.func113 (bodyOf Tryz.f113) hw
def kcn_c : C := .seq (.reg [mA 1 0,⟨(some 2), none, .alloc [.int .i64 0, .str ⟨#[]⟩, .nils, .int .i64 0,.int .i64 0,.int .i64 0,.int .i64 0]⟩]) (.seq (.reg [⟨(some 3), none, .alloc [.int .i64 0, .str ⟨#[]⟩, .nils, .int .i64 0,.int .i64 0,.int .i64 0,.int .i64 0]⟩]) (.seq (.reg [mF 4 0 1,mL 5 1 4,mF 6 0 3,mS 1 6 5]) (.seq (.reg [mF 7 1 1,mL 8 1 7,mF 9 1 3,mS 1 9 8]) (.seq (.reg [mF 10 2 1,mL 11 1 10,mC 12 Fn.kcr [.t 11],mF 13 2 3,mS 1 13 12]) (.seq (.reg [mF 14 3 1,mL 15 1 14,mF 16 3 3,mS 1 16 15]) (.seq (.reg [mF 17 4 1,mG 18 3 17,mC 19 Fn.kcp [.t 18],mF 20 4 3,mS 3 20 19]) (.seq (.reg [mG 21 7 3,mS 7 2 21]) .ret)))))))
def kcn_r : List RS := [.cell 2 7 true]
theorem kcn_e (hw : TC Tryz.prog Θ Γ kcn_c (retQ kcn_r K) ⟨[a0, u,u,u,u,u,u,u,u,u,u,u,u,u,u,u,u,u,u,u,u,u], [], h⟩) : T Tryz.prog Γ Fn.kcn [a0] h K :=
  TB Tryz.func114 (bodyOf Tryz.f114) hw
def kb9_c : C := .seq (.reg [mA 1 0,⟨(some 2), none, .alloc [.int .i64 0, .bool false, .nils, .int .i64 0, .nils, .int .i64 0, .nils]⟩]) (.seq (.reg [⟨(some 3), none, .alloc [.int .i64 0, .bool false, .nils, .int .i64 0, .nils, .int .i64 0, .nils]⟩]) (.seq (.reg [mF 4 0 1,mL 5 1 4,mF 6 0 3,mS 1 6 5]) (.seq (.reg [mF 7 1 1,mL 8 1 7,mF 9 1 3,mS 1 9 8]) (.seq (.reg [mF 10 2 1,mL 11 1 10,mC 12 Fn.kb6 [.t 11],mF 13 2 3,mS 1 13 12]) (.seq (.reg [mF 14 3 1,mL 15 1 14,mF 16 3 3,mS 1 16 15]) (.seq (.reg [mF 17 4 1,mL 18 1 17,mC 19 Fn.kck [.t 18],mF 20 4 3,mS 1 20 19]) (.seq (.reg [mF 21 5 1,mL 22 1 21,mF 23 5 3,mS 1 23 22]) (.seq (.reg [mF 24 6 1,mL 25 1 24,mC 26 Fn.kck [.t 25],mF 27 6 3,mS 1 27 26]) (.seq (.reg [mG 28 7 3,mS 7 2 28]) .ret)))))))))
def kb9_r : List RS := [.cell 2 7 true]
theorem kb9_e (hw : TC Tryz.prog Θ Γ kb9_c (retQ kb9_r K) ⟨[a0, u,u,u,u,u,u,u,u,u,u,u,u,u,u,u,u,u,u,u,u,u,u,u,u,u,u,u,u], [], h⟩) : T Tryz.prog Γ Fn.kb9 [a0] h K :=
  TB Tryz.func115 (bodyOf Tryz.f115) hw
def kch_c : C := .seq (.reg [mA 1 0,⟨(some 2), none, .alloc [.int .i64 0,.int .i64 0,.int .i64 0,.int .i64 0,.int .i64 0, .str ⟨#[]⟩, .nils, .int .i64 0,.int .i64 0,.int .i64 0,.int .i64 0,.int .i64 0,.int .i64 0]⟩]) (.seq (.reg [⟨(some 3), none, .alloc [.int .i64 0,.int .i64 0,.int .i64 0,.int .i64 0,.int .i64 0, .str ⟨#[]⟩, .nils, .int .i64 0,.int .i64 0,.int .i64 0,.int .i64 0,.int .i64 0,.int .i64 0]⟩]) (.seq (.reg [mF 4 0 1,mL 5 1 4,mF 6 0 3,mS 1 6 5]) (.seq (.reg [mF 7 1 1,mG 8 12 7,mC 9 Fn.kcb [.t 8],mF 10 1 3,mS 12 10 9]) (.seq (.reg [mG 11 13 3,mS 13 2 11]) .ret))))
def kch_r : List RS := [.cell 2 13 true]
theorem kch_e (hw : TC Tryz.prog Θ Γ kch_c (retQ kch_r K) ⟨[a0, u,u,u,u,u,u,u,u,u,u,u], [], h⟩) : T Tryz.prog Γ Fn.kch [a0] h K :=
  TB Tryz.func116 (bodyOf Tryz.f116) hw
def kau_c : C := .seq (.reg [mA 2 0,mA 3 1,mT 4 false]) (.seq (.seq (.reg [mF 5 0 2,mL 6 1 5,mF 7 0 3,mL 8 1 7,mB 9 .neq 6 8]) (.cond (.t 9) (.seq (.reg [mT 4 false]) .ret) .skip)) (.seq (.seq (.reg [mF 10 1 2,mL 11 1 10,mF 12 1 3,mL 13 1 12,mB 14 .neq 11 13]) (.cond (.t 14) (.seq (.reg [mT 4 false]) .ret) .skip)) (.seq (.seq (.reg [mF 15 2 2,mL 16 1 15,mF 17 2 3,mL 18 1 17,mC 19 Fn.kaS [.t 16, .t 18],mU 20 19]) (.cond (.t 20) (.seq (.reg [mT 4 false]) .ret) .skip)) (.seq (.seq (.reg [mF 21 3 2,mL 22 1 21,mF 23 3 3,mL 24 1 23,mB 25 .neq 22 24]) (.cond (.t 25) (.seq (.reg [mT 4 false]) .ret) .skip)) (.seq (.seq (.reg [mF 26 4 2,mG 27 2 26,mF 28 4 3,mG 29 2 28,mC 30 Fn.kaR [.t 27, .t 29],mU 31 30]) (.cond (.t 31) (.seq (.reg [mT 4 false]) .ret) .skip)) (.seq (.seq (.reg [mF 32 6 2,mL 33 1 32,mF 34 6 3,mL 35 1 34,mC 36 Fn.kaP [.t 33, .t 35],mU 37 36]) (.cond (.t 37) (.seq (.reg [mT 4 false]) .ret) .skip)) (.seq (.seq (.reg [mF 38 7 2,mL 39 1 38,mF 40 7 3,mL 41 1 40,mC 42 Fn.kar [.t 39, .t 41],mU 43 42]) (.cond (.t 43) (.seq (.reg [mT 4 false]) .ret) .skip)) (.seq (.seq (.reg [mF 44 8 2,mL 45 1 44,mF 46 8 3,mL 47 1 46,mB 48 .neq 45 47]) (.cond (.t 48) (.seq (.reg [mT 4 false]) .ret) .skip)) (.seq (.seq (.reg [mF 49 9 2,mL 50 1 49,mF 51 9 3,mL 52 1 51,mB 53 .neq 50 52]) (.cond (.t 53) (.seq (.reg [mT 4 false]) .ret) .skip)) (.seq (.seq (.reg [mF 54 10 2,mL 55 1 54,mF 56 10 3,mL 57 1 56,mB 58 .neq 55 57]) (.cond (.t 58) (.seq (.reg [mT 4 false]) .ret) .skip)) (.seq (.seq (.reg [mF 59 11 2,mL 60 1 59,mF 61 11 3,mL 62 1 61,mB 63 .neq 60 62]) (.cond (.t 63) (.seq (.reg [mT 4 false]) .ret) .skip)) (.seq (.reg [mT 4 true]) .ret))))))))))))
def kau_r : List RS := [.t 4]
theorem kau_e (hw : TC Tryz.prog Θ Γ kau_c (retQ kau_r K) ⟨[a0, a1, u,u,u,u,u,u,u,u,u,u,u,u,u,u,u,u,u,u,u,u,u,u,u,u,u,u,u,u,u,u,u,u,u,u,u,u,u,u,u,u,u,u,u,u,u,u,u,u,u,u,u,u,u,u,u,u,u,u,u,u,u,u], [], h⟩) : T Tryz.prog Γ Fn.kau [a0, a1] h K :=
  TB Tryz.func123 (bodyOf Tryz.f123) hw
def kaO_c : C := .seq (.reg [mA 2 0,mA 3 1,mT 4 false]) (.seq (.seq (.reg [mF 5 0 2,mL 6 1 5,mF 7 0 3,mL 8 1 7,mB 9 .neq 6 8]) (.cond (.t 9) (.seq (.reg [mT 4 false]) .ret) .skip)) (.seq (.seq (.reg [mF 10 1 2,mL 11 1 10,mF 12 1 3,mL 13 1 12,mB 14 .neq 11 13]) (.cond (.t 14) (.seq (.reg [mT 4 false]) .ret) .skip)) (.seq (.seq (.reg [mF 15 2 2,mL 16 1 15,mF 17 2 3,mL 18 1 17,mC 19 Fn.kaS [.t 16, .t 18],mU 20 19]) (.cond (.t 20) (.seq (.reg [mT 4 false]) .ret) .skip)) (.seq (.seq (.reg [mF 21 3 2,mL 22 1 21,mF 23 3 3,mL 24 1 23,mB 25 .neq 22 24]) (.cond (.t 25) (.seq (.reg [mT 4 false]) .ret) .skip)) (.seq (.seq (.reg [mF 26 4 2,mG 27 3 26,mF 28 4 3,mG 29 3 28,mC 30 Fn.kaQ [.t 27, .t 29],mU 31 30]) (.cond (.t 31) (.seq (.reg [mT 4 false]) .ret) .skip)) (.seq (.reg [mT 4 true]) .ret))))))
def kaO_r : List RS := [.t 4]
theorem kaO_e (hw : TC Tryz.prog Θ Γ kaO_c (retQ kaO_r K) ⟨[a0, a1, u,u,u,u,u,u,u,u,u,u,u,u,u,u,u,u,u,u,u,u,u,u,u,u,u,u,u,u,u,u], [], h⟩) : T Tryz.prog Γ Fn.kaO [a0, a1] h K :=
  TB Tryz.func124 (bodyOf Tryz.f124) hw
def kaA_c : C := .seq (.reg [mA 2 0,mA 3 1,mT 4 false]) (.seq (.seq (.reg [mF 5 0 2,mL 6 1 5,mF 7 0 3,mL 8 1 7,mB 9 .neq 6 8]) (.cond (.t 9) (.seq (.reg [mT 4 false]) .ret) .skip)) (.seq (.seq (.reg [mF 10 1 2,mL 11 1 10,mF 12 1 3,mL 13 1 12,⟨(some 14), none, .bin .neq (.bool) (.t 11) (.t 13)⟩]) (.cond (.t 14) (.seq (.reg [mT 4 false]) .ret) .skip)) (.seq (.seq (.reg [mF 15 2 2,mL 16 1 15,mF 17 2 3,mL 18 1 17,mC 19 Fn.kax [.t 16, .t 18],mU 20 19]) (.cond (.t 20) (.seq (.reg [mT 4 false]) .ret) .skip)) (.seq (.seq (.reg [mF 21 3 2,mL 22 1 21,mF 23 3 3,mL 24 1 23,mB 25 .neq 22 24]) (.cond (.t 25) (.seq (.reg [mT 4 false]) .ret) .skip)) (.seq (.seq (.reg [mF 26 4 2,mL 27 1 26,mF 28 4 3,mL 29 1 28,mC 30 Fn.kaL [.t 27, .t 29],mU 31 30]) (.cond (.t 31) (.seq (.reg [mT 4 false]) .ret) .skip)) (.seq (.seq (.reg [mF 32 5 2,mL 33 1 32,mF 34 5 3,mL 35 1 34,mB 36 .neq 33 35]) (.cond (.t 36) (.seq (.reg [mT 4 false]) .ret) .skip)) (.seq (.seq (.reg [mF 37 6 2,mL 38 1 37,mF 39 6 3,mL 40 1 39,mC 41 Fn.kaL [.t 38, .t 40],mU 42 41]) (.cond (.t 42) (.seq (.reg [mT 4 false]) .ret) .skip)) (.seq (.reg [mT 4 true]) .ret))))))))
def kaA_r : List RS := [.t 4]
theorem kaA_e (hw : TC Tryz.prog Θ Γ kaA_c (retQ kaA_r K) ⟨[a0, a1, u,u,u,u,u,u,u,u,u,u,u,u,u,u,u,u,u,u,u,u,u,u,u,u,u,u,u,u,u,u,u,u,u,u,u,u,u,u,u,u,u], [], h⟩) : T Tryz.prog Γ Fn.kaA [a0, a1] h K :=
  TB Tryz.func125 (bodyOf Tryz.f125) hw
def kaI_c : C := .seq (.reg [mA 2 0,mA 3 1,mT 4 false]) (.seq (.seq (.reg [mF 5 0 2,mL 6 1 5,mF 7 0 3,mL 8 1 7,mB 9 .neq 6 8]) (.cond (.t 9) (.seq (.reg [mT 4 false]) .ret) .skip)) (.seq (.seq (.reg [mF 10 1 2,mG 11 12 10,mF 12 1 3,mG 13 12 12,mC 14 Fn.kaC [.t 11, .t 13],mU 15 14]) (.cond (.t 15) (.seq (.reg [mT 4 false]) .ret) .skip)) (.seq (.reg [mT 4 true]) .ret)))
def kaI_r : List RS := [.t 4]
theorem kaI_e (hw : TC Tryz.prog Θ Γ kaI_c (retQ kaI_r K) ⟨[a0, a1, u,u,u,u,u,u,u,u,u,u,u,u,u,u], [], h⟩) : T Tryz.prog Γ Fn.kaI [a0, a1] h K :=
  TB Tryz.func126 (bodyOf Tryz.f126) hw
def kbu_c : C := .seq (.reg [mK 4 0]) (.seq (.seq (.reg [mK 5 0]) (.block 0 (.loop (.seq (.seq (.reg [mV 6 5,mV 7 0,mN 8 7,mB 9 .lss 6 8]) (.cond (.t 9) .skip (.exit 0))) (.seq (.block 1 (.seq (.reg [mV 12 0,mV 13 5,mV 14 1,mX 15 2 12 13,mF 16 0 15,mS 1 16 14]) (.seq (.reg [mV 17 1,mI 18 .add 17 1,mV 1 18]) (.seq (.reg [mV 19 0,mV 20 5,mV 21 1,mX 22 2 19 20,mF 23 1 22,mS 1 23 21]) (.reg [mV 24 1,mI 25 .add 24 1,mV 1 25]))))) (.reg [mV 10 5,mI 11 .add 10 1,mV 5 11])))))) (.seq (.reg [mV 26 1,mV 4 26]) .ret))
def kbu_r : List RS := [.t 4]
def kbu_s0 (t0 t1 t5 : AV) (loc : List (List AV)) (h : AH) : St := ⟨[t0, t1, .any,.any,.any, t5, .any,.any,.any,.any,.any,.any,.any,.any,.any,.any,.any,.any,.any,.any,.any,.any,.any,.any,.any,.any,.any], loc, h⟩
theorem kbu_e (hw : TC Tryz.prog Θ Γ kbu_c (retQ kbu_r K) ⟨[a0, a1, u,u,u,u,u,u,u,u,u,u,u,u,u,u,u,u,u,u,u,u,u,u,u,u,u], [], h⟩) : T Tryz.prog Γ Fn.kbu [a0, a1] h K :=
  TB Tryz.func127 (bodyOf Tryz.f127) hw
def kbf_c : C := .seq (.reg [mK 4 0]) (.seq (.seq (.reg [mK 5 0]) (.block 0 (.loop (.seq (.seq (.reg [mV 6 5,mV 7 0,mN 8 7,mB 9 .lss 6 8]) (.cond (.t 9) .skip (.exit 0))) (.seq (.block 1 (.seq (.reg [mV 12 0,mV 13 5,mV 14 1,mX 15 2 12 13,mF 16 0 15,mS 1 16 14]) (.seq (.reg [mV 17 1,mI 18 .add 17 1,mV 1 18]) (.seq (.reg [mV 19 0,mV 20 5,mV 21 1,mX 22 2 19 20,mF 23 1 22,mS 1 23 21]) (.reg [mV 24 1,mI 25 .add 24 1,mV 1 25]))))) (.reg [mV 10 5,mI 11 .add 10 1,mV 5 11])))))) (.seq (.reg [mV 26 1,mV 4 26]) .ret))
def kbf_r : List RS := [.t 4]
def kbf_s0 (t0 t1 t5 : AV) (loc : List (List AV)) (h : AH) : St := ⟨[t0, t1, .any,.any,.any, t5, .any,.any,.any,.any,.any,.any,.any,.any,.any,.any,.any,.any,.any,.any,.any,.any,.any,.any,.any,.any,.any], loc, h⟩
theorem kbf_e (hw : TC Tryz.prog Θ Γ kbf_c (retQ kbf_r K) ⟨[a0, a1, u,u,u,u,u,u,u,u,u,u,u,u,u,u,u,u,u,u,u,u,u,u,u,u,u], [], h⟩) : T Tryz.prog Γ Fn.kbf [a0, a1] h K :=
  TB Tryz.func128 (bodyOf Tryz.f128) hw
def kbt_c : C := .seq (.reg [⟨(some 2), none, .mov (.c (.str ⟨#[]⟩))⟩]) (.seq (.seq (.reg [mV 4 0,mI 5 .leq 4 0]) (.cond (.t 5) (.seq (.reg [⟨(some 2), none, .mov (.c (.str ⟨#[109, 48]⟩))⟩]) .ret) .skip)) (.seq (.reg [⟨(some 3), none, .mov (.c (.str ⟨#[]⟩))⟩]) (.seq (.block 0 (.loop (.seq (.seq (.reg [mV 6 0,mI 7 .gtr 6 0]) (.cond (.t 7) .skip (.exit 0))) (.block 1 (.seq (.reg [mV 8 0,mI 9 .rem 8 10,⟨(some 10), none, .bin .add (.num) (.c (.int .i64 48)) (.t 9)⟩,⟨(some 11), none, .cvi .u8 (.t 10)⟩,⟨(some 12), none, .bsl 1 1 [.int .u8 0] [(0, .t 11)]⟩,⟨(some 13), none, .cvt (.t 12)⟩,mV 14 3,mB 15 .add 13 14,mV 3 15]) (.reg [mV 16 0,mI 17 .quo 16 10,mV 0 17])))))) (.seq (.reg [mV 18 3,⟨(some 19), none, .bin .add (.num) (.c (.str ⟨#[109]⟩)) (.t 18)⟩,mV 2 19]) .ret))))
def kbt_r : List RS := [.t 2]
def kbt_s0 (t0 t3 : AV) (loc : List (List AV)) (h : AH) : St := ⟨[t0, .any,.any, t3, .any,.any,.any,.any,.any,.any,.any,.any,.any,.any,.any,.any,.any,.any,.any,.any], loc, h⟩
theorem kbt_e (hw : TC Tryz.prog Θ Γ kbt_c (retQ kbt_r K) ⟨[a0, u,u,u,u,u,u,u,u,u,u,u,u,u,u,u,u,u,u,u], [], h⟩) : T Tryz.prog Γ Fn.kbt [a0] h K :=
  TB Tryz.func129 (bodyOf Tryz.f129) hw
def kbi_c : C := .seq (.reg [mK 4 0]) (.seq (.seq (.reg [mK 5 0]) (.block 0 (.loop (.seq (.seq (.reg [mV 6 5,mV 7 0,mN 8 7,mB 9 .lss 6 8]) (.cond (.t 9) .skip (.exit 0))) (.seq (.block 1 (.seq (.reg [mV 12 0,mV 13 5,mV 14 1,mX 15 3 12 13,mF 16 0 15,mS 1 16 14]) (.seq (.reg [mV 17 1,mI 18 .add 17 1,mV 1 18]) (.seq (.reg [mV 19 0,mV 20 5,mV 21 1,mX 22 3 19 20,mF 23 1 22,mS 1 23 21]) (.seq (.reg [mV 24 1,mI 25 .add 24 1,mV 1 25]) (.seq (.reg [mV 26 0,mV 27 5,mV 28 1,mX 29 3 26 27,mF 30 2 29,mS 1 30 28]) (.reg [mV 31 1,mI 32 .add 31 1,mV 1 32]))))))) (.reg [mV 10 5,mI 11 .add 10 1,mV 5 11])))))) (.seq (.reg [mV 33 1,mV 4 33]) .ret))
def kbi_r : List RS := [.t 4]
def kbi_s0 (t0 t1 t5 : AV) (loc : List (List AV)) (h : AH) : St := ⟨[t0, t1, .any,.any,.any, t5, .any,.any,.any,.any,.any,.any,.any,.any,.any,.any,.any,.any,.any,.any,.any,.any,.any,.any,.any,.any,.any,.any,.any,.any,.any,.any,.any,.any], loc, h⟩
theorem kbi_e (hw : TC Tryz.prog Θ Γ kbi_c (retQ kbi_r K) ⟨[a0, a1, u,u,u,u,u,u,u,u,u,u,u,u,u,u,u,u,u,u,u,u,u,u,u,u,u,u,u,u,u,u,u,u], [], h⟩) : T Tryz.prog Γ Fn.kbi [a0, a1] h K :=
  TB Tryz.func130 (bodyOf Tryz.f130) hw
def kbq_c : C := .seq (.reg [mK 4 0]) (.seq (.seq (.reg [mK 5 0]) (.block 0 (.loop (.seq (.seq (.reg [mV 6 5,mV 7 0,mN 8 7,mB 9 .lss 6 8]) (.cond (.t 9) .skip (.exit 0))) (.seq (.block 1 (.seq (.reg [mV 12 0,mV 13 5,mV 14 1,mX 15 2 12 13,mF 16 0 15,mS 1 16 14]) (.seq (.reg [mV 17 1,mI 18 .add 17 1,mV 1 18]) (.seq (.reg [mV 19 0,mV 20 5,mV 21 1,mX 22 2 19 20,mF 23 1 22,mS 1 23 21]) (.reg [mV 24 1,mI 25 .add 24 1,mV 1 25]))))) (.reg [mV 10 5,mI 11 .add 10 1,mV 5 11])))))) (.seq (.reg [mV 26 1,mV 4 26]) .ret))
def kbq_r : List RS := [.t 4]
def kbq_s0 (t0 t1 t5 : AV) (loc : List (List AV)) (h : AH) : St := ⟨[t0, t1, .any,.any,.any, t5, .any,.any,.any,.any,.any,.any,.any,.any,.any,.any,.any,.any,.any,.any,.any,.any,.any,.any,.any,.any,.any], loc, h⟩
theorem kbq_e (hw : TC Tryz.prog Θ Γ kbq_c (retQ kbq_r K) ⟨[a0, a1, u,u,u,u,u,u,u,u,u,u,u,u,u,u,u,u,u,u,u,u,u,u,u,u,u], [], h⟩) : T Tryz.prog Γ Fn.kbq [a0, a1] h K :=
  TB Tryz.func131 (bodyOf Tryz.f131) hw
def kcS_c : C := .seq (.reg [⟨(some 2), none, .mov (.c (.nils))⟩]) (.seq (.reg [⟨(some 6), none, .bsl 7 0 [.int .i64 0, .str ⟨#[]⟩, .nils, .int .i64 0,.int .i64 0,.int .i64 0,.int .i64 0] []⟩,mV 3 6]) (.seq (.seq (.reg [mK 4 0]) (.block 0 (.loop (.seq (.seq (.reg [mV 7 4,mV 8 0,mN 9 8,mB 10 .lss 7 9]) (.cond (.t 10) .skip (.exit 0))) (.seq (.block 1 (.seq (.reg [mV 13 0,mV 14 4,mX 15 7 13 14,mG 16 7 15,⟨(some 5), none, .alloc [.int .i64 0, .str ⟨#[]⟩, .nils, .int .i64 0,.int .i64 0,.int .i64 0,.int .i64 0]⟩,mS 7 5 16]) (.seq (.reg [⟨(some 17), none, .bsl 2 0 [.int .i64 0,.int .i64 0] []⟩,mV 18 0,mV 19 4,mX 20 7 18 19,mF 21 2 20,mL 22 1 21,⟨(some 23), none, .app 2 16 [.int .i64 0,.int .i64 0] false (.t 17) (.t 22)⟩,mF 24 2 5,mS 1 24 23]) (.reg [mV 25 3,mG 26 7 5,⟨(some 27), none, .bsl 7 1 [.int .i64 0, .str ⟨#[]⟩, .nils, .int .i64 0,.int .i64 0,.int .i64 0,.int .i64 0] [(0, .t 26)]⟩,⟨(some 28), none, .app 7 80 [.int .i64 0, .str ⟨#[]⟩, .nils, .int .i64 0,.int .i64 0,.int .i64 0,.int .i64 0] false (.t 25) (.t 27)⟩,mV 3 28])))) (.reg [mV 11 4,mI 12 .add 11 1,mV 4 12])))))) (.seq (.reg [mV 29 3,mV 2 29]) .ret)))
def kcS_r : List RS := [.t 2]
def kcS_s0 (t0 t3 t4 : AV) (loc : List (List AV)) (h : AH) : St := ⟨[t0, .any,.any, t3, t4, .any,.any,.any,.any,.any,.any,.any,.any,.any,.any,.any,.any,.any,.any,.any,.any,.any,.any,.any,.any,.any,.any,.any,.any,.any], loc, h⟩
theorem kcS_e (hw : TC Tryz.prog Θ Γ kcS_c (retQ kcS_r K) ⟨[a0, u,u,u,u,u,u,u,u,u,u,u,u,u,u,u,u,u,u,u,u,u,u,u,u,u,u,u,u,u], [], h⟩) : T Tryz.prog Γ Fn.kcS [a0] h K :=
  TB Tryz.func132 (bodyOf Tryz.f132) hw
def kcR_c : C := .seq (.reg [mA 1 0,⟨(some 2), none, .alloc [.int .i64 0,.int .i64 0, .nils, .int .i64 0,.int .i64 0,.int .i64 0, .nils, .nils, .int .i64 0,.int .i64 0,.int .i64 0,.int .i64 0]⟩]) (.seq (.reg [mG 4 12 1,⟨(some 3), none, .alloc [.int .i64 0,.int .i64 0, .nils, .int .i64 0,.int .i64 0,.int .i64 0, .nils, .nils, .int .i64 0,.int .i64 0,.int .i64 0,.int .i64 0]⟩,mS 12 3 4]) (.seq (.reg [⟨(some 5), none, .bsl 2 0 [.int .i64 0,.int .i64 0] []⟩,mF 6 2 1,mL 7 1 6,⟨(some 8), none, .app 2 16 [.int .i64 0,.int .i64 0] false (.t 5) (.t 7)⟩,mF 9 2 3,mS 1 9 8]) (.seq (.reg [mF 10 6 1,mL 11 1 10,mC 12 Fn.kcS [.t 11],mF 13 6 3,mS 1 13 12]) (.seq (.reg [⟨(some 14), none, .bsl 2 0 [.int .i64 0,.int .i64 0] []⟩,mF 15 7 1,mL 16 1 15,⟨(some 17), none, .app 2 16 [.int .i64 0,.int .i64 0] false (.t 14) (.t 16)⟩,mF 18 7 3,mS 1 18 17]) (.seq (.reg [mG 19 12 3,mS 12 2 19]) .ret)))))
def kcR_r : List RS := [.cell 2 12 true]
theorem kcR_e (hw : TC Tryz.prog Θ Γ kcR_c (retQ kcR_r K) ⟨[a0, u,u,u,u,u,u,u,u,u,u,u,u,u,u,u,u,u,u,u], [], h⟩) : T Tryz.prog Γ Fn.kcR [a0] h K :=
  TB Tryz.func133 (bodyOf Tryz.f133) hw
def kcH_c : C := .seq (.reg [mA 1 0,⟨(some 2), none, .alloc [.int .i64 0, .bool false, .nils, .int .i64 0, .nils, .int .i64 0, .nils]⟩]) (.seq (.reg [mG 4 7 1,⟨(some 3), none, .alloc [.int .i64 0, .bool false, .nils, .int .i64 0, .nils, .int .i64 0, .nils]⟩,mS 7 3 4]) (.seq (.reg [⟨(some 5), none, .bsl 3 0 [.int .i64 0,.int .i64 0,.int .i64 0] []⟩,mF 6 2 1,mL 7 1 6,⟨(some 8), none, .app 3 24 [.int .i64 0,.int .i64 0,.int .i64 0] false (.t 5) (.t 7)⟩,mF 9 2 3,mS 1 9 8]) (.seq (.reg [⟨(some 10), none, .bsl 2 0 [.int .i64 0,.int .i64 0] []⟩,mF 11 4 1,mL 12 1 11,⟨(some 13), none, .app 2 16 [.int .i64 0,.int .i64 0] false (.t 10) (.t 12)⟩,mF 14 4 3,mS 1 14 13]) (.seq (.reg [⟨(some 15), none, .bsl 2 0 [.int .i64 0,.int .i64 0] []⟩,mF 16 6 1,mL 17 1 16,⟨(some 18), none, .app 2 16 [.int .i64 0,.int .i64 0] false (.t 15) (.t 17)⟩,mF 19 6 3,mS 1 19 18]) (.seq (.reg [mG 20 7 3,mS 7 2 20]) .ret)))))
def kcH_r : List RS := [.cell 2 7 true]
theorem kcH_e (hw : TC Tryz.prog Θ Γ kcH_c (retQ kcH_r K) ⟨[a0, u,u,u,u,u,u,u,u,u,u,u,u,u,u,u,u,u,u,u,u], [], h⟩) : T Tryz.prog Γ Fn.kcH [a0] h K :=
  TB Tryz.func134 (bodyOf Tryz.f134) hw
def kcI_c : C := .seq (.reg [mA 1 0,⟨(some 2), none, .alloc [.int .i64 0,.int .i64 0,.int .i64 0,.int .i64 0, .str ⟨#[]⟩, .nils, .int .i64 0,.int .i64 0,.int .i64 0,.int .i64 0,.int .i64 0,.int .i64 0]⟩]) (.seq (.reg [mG 4 12 1,⟨(some 3), none, .alloc [.int .i64 0,.int .i64 0,.int .i64 0,.int .i64 0, .str ⟨#[]⟩, .nils, .int .i64 0,.int .i64 0,.int .i64 0,.int .i64 0,.int .i64 0,.int .i64 0]⟩,mS 12 3 4]) (.seq (.reg [⟨(some 5), none, .bsl 2 0 [.int .i64 0,.int .i64 0] []⟩,mF 6 5 1,mL 7 1 6,⟨(some 8), none, .app 2 16 [.int .i64 0,.int .i64 0] false (.t 5) (.t 7)⟩,mF 9 5 3,mS 1 9 8]) (.seq (.reg [mG 10 12 3,mS 12 2 10]) .ret)))
def kcI_r : List RS := [.cell 2 12 true]
theorem kcI_e (hw : TC Tryz.prog Θ Γ kcI_c (retQ kcI_r K) ⟨[a0, u,u,u,u,u,u,u,u,u,u], [], h⟩) : T Tryz.prog Γ Fn.kcI [a0] h K :=
  TB Tryz.func135 (bodyOf Tryz.f135) hw
def kan_c : C := .seq (.reg [⟨(some 2), none, .mov (.c (.nils))⟩]) (.seq (.reg [⟨(some 6), none, .bsl 7 0 [.int .i64 0, .str ⟨#[]⟩, .nils, .int .i64 0,.int .i64 0,.int .i64 0,.int .i64 0] []⟩,mV 3 6]) (.seq (.seq (.reg [mV 7 0,mN 8 7,mK 9 0]) (.block 0 (.loop (.seq (.reg [mB 10 .lss 9 8]) (.seq (.cond (.t 10) .skip (.exit 0)) (.seq (.block 1 (.seq (.reg [mX 11 7 7 9,mG 12 7 11,⟨(some 5), none, .alloc [.int .i64 0, .str ⟨#[]⟩, .nils, .int .i64 0,.int .i64 0,.int .i64 0,.int .i64 0]⟩,mS 7 5 12]) (.reg [mV 13 3,mG 14 7 5,mC 15 Fn.kag [.t 14],⟨(some 16), none, .bsl 7 1 [.int .i64 0, .str ⟨#[]⟩, .nils, .int .i64 0,.int .i64 0,.int .i64 0,.int .i64 0] [(0, .t 15)]⟩,⟨(some 17), none, .app 7 80 [.int .i64 0, .str ⟨#[]⟩, .nils, .int .i64 0,.int .i64 0,.int .i64 0,.int .i64 0] false (.t 13) (.t 16)⟩,mV 3 17]))) (.reg [mI 18 .add 9 1,mV 9 18]))))))) (.seq (.reg [mV 19 3,mV 2 19]) .ret)))
def kan_r : List RS := [.t 2]
def kan_s0 (t3 t7 t8 t9 : AV) (loc : List (List AV)) (h : AH) : St := ⟨[.any,.any,.any, t3, .any,.any,.any, t7, t8, t9, .any,.any,.any,.any,.any,.any,.any,.any,.any,.any], loc, h⟩
theorem kan_e (hw : TC Tryz.prog Θ Γ kan_c (retQ kan_r K) ⟨[a0, u,u,u,u,u,u,u,u,u,u,u,u,u,u,u,u,u,u,u], [], h⟩) : T Tryz.prog Γ Fn.kan [a0] h K :=
  TB Tryz.func136 (bodyOf Tryz.f136) hw
def kab_d0_os : List O := [mF 3 2 1,mL 4 1 3,mC 5 Fn.kcC [.t 4],mF 6 6 1,mL 7 1 6,mC 8 Fn.kan [.t 7],mF 9 7 1,mL 10 1 9,mC 11 Fn.kcx [.t 10],mF 12 2 1,mS 1 12 5,mF 13 6 1,mS 1 13 8,mF 14 7 1,mS 1 14 11]
def kab_d0_af : List (List Nat) := [[], [0], [1], [], [3], [4, 2], [], [6], [7, 5], [0, 1, 2, 3, 4, 6, 7], [9, 2, 8, 0, 1, 2, 3, 4, 6, 7], [0, 1, 2, 3, 4, 5, 6, 7, 9, 10], [11, 5, 10, 0, 1, 2, 3, 4, 5, 6, 7, 9, 10], [0, 1, 2, 3, 4, 5, 6, 7, 8, 9, 10, 11, 12], [13, 8, 12, 0, 1, 2, 3, 4, 5, 6, 7, 8, 9, 10, 11, 12]]
theorem kab_d0_q (gl : Gl) (Q : AE → St → Prop) (s : St) : aw Tryz.prog Θ Γ gl (.regD kab_d0_os kab_d0_af) Q s = awpT Tryz.prog Γ gl [mF 3 2 1,mL 4 1 3,mC 5 Fn.kcC [.t 4],mF 6 6 1,mL 7 1 6,mC 8 Fn.kan [.t 7],mF 9 7 1,mL 10 1 9,mC 11 Fn.kcx [.t 10],mF 12 2 1,mS 1 12 5,mF 13 6 1,mS 1 13 8,mF 14 7 1,mS 1 14 11] (Q .normal) 15 (.q 0 (.q 1 (.q 3 (.q 4 (.q 6 (.q 7 (.st 2 [6, 9] (.q 9 (.st 5 [9] (.q 8 (.q 10 (.q 11 (.q 12 (.q 13 (.q 14 (.done)))))))))))))))) s := a_dd rfl (by kernel_rfl) gl Q s
def kab_c : C := .seq (.reg [mA 1 0,⟨(some 2), none, .alloc [.int .i64 0,.int .i64 0, .nils, .int .i64 0,.int .i64 0,.int .i64 0, .nils, .nils, .int .i64 0,.int .i64 0,.int .i64 0,.int .i64 0]⟩]) (.seq (.regD kab_d0_os kab_d0_af) (.seq (.reg [mG 15 12 1,mS 12 2 15]) .ret))
def kab_r : List RS := [.cell 2 12 true]
theorem kab_e (hw : TC Tryz.prog Θ Γ kab_c (retQ kab_r K) ⟨[a0, u,u,u,u,u,u,u,u,u,u,u,u,u,u,u], [], h⟩) : T Tryz.prog Γ Fn.kab [a0] h K :=
  TB Tryz.func137 (bodyOf Tryz.f137) hw
def kad_d0_os : List O := [mF 3 2 1,mL 4 1 3,mC 5 Fn.kcy [.t 4],mF 6 4 1,mL 7 1 6,mC 8 Fn.kcB [.t 7],mF 9 6 1,mL 10 1 9,mC 11 Fn.kcB [.t 10],mF 12 2 1,mS 1 12 5,mF 13 4 1,mS 1 13 8,mF 14 6 1,mS 1 14 11]
def kad_d0_af : List (List Nat) := [[], [0], [1], [], [3], [4, 2], [], [6], [7, 5], [0, 1, 2, 3, 4, 6, 7], [9, 2, 8, 0, 1, 2, 3, 4, 6, 7], [0, 1, 2, 3, 4, 5, 6, 7, 9, 10], [11, 5, 10, 0, 1, 2, 3, 4, 5, 6, 7, 9, 10], [0, 1, 2, 3, 4, 5, 6, 7, 8, 9, 10, 11, 12], [13, 8, 12, 0, 1, 2, 3, 4, 5, 6, 7, 8, 9, 10, 11, 12]]
theorem kad_d0_q (gl : Gl) (Q : AE → St → Prop) (s : St) : aw Tryz.prog Θ Γ gl (.regD kad_d0_os kad_d0_af) Q s = awpT Tryz.prog Γ gl [mF 3 2 1,mL 4 1 3,mC 5 Fn.kcy [.t 4],mF 6 4 1,mL 7 1 6,mC 8 Fn.kcB [.t 7],mF 9 6 1,mL 10 1 9,mC 11 Fn.kcB [.t 10],mF 12 2 1,mS 1 12 5,mF 13 4 1,mS 1 13 8,mF 14 6 1,mS 1 14 11] (Q .normal) 15 (.q 0 (.q 1 (.q 3 (.q 4 (.q 6 (.q 7 (.st 2 [6, 9] (.q 9 (.st 5 [9] (.q 8 (.q 10 (.q 11 (.q 12 (.q 13 (.q 14 (.done)))))))))))))))) s := a_dd rfl (by kernel_rfl) gl Q s
def kad_c : C := .seq (.reg [mA 1 0,⟨(some 2), none, .alloc [.int .i64 0, .bool false, .nils, .int .i64 0, .nils, .int .i64 0, .nils]⟩]) (.seq (.regD kad_d0_os kad_d0_af) (.seq (.reg [mG 15 7 1,mS 7 2 15]) .ret))
def kad_r : List RS := [.cell 2 7 true]
theorem kad_e (hw : TC Tryz.prog Θ Γ kad_c (retQ kad_r K) ⟨[a0, u,u,u,u,u,u,u,u,u,u,u,u,u,u,u], [], h⟩) : T Tryz.prog Γ Fn.kad [a0] h K :=
  TB Tryz.func138 (bodyOf Tryz.f138) hw
end Go.Proofs.YtleddolmolkpfaaGreat
